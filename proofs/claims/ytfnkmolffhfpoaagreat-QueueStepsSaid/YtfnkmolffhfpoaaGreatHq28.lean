/- -/
import Derived.Test.YtfnkmolffhfpoaaGreatHq25
import Derived.Test.YtfnkmolffhfpoaaGreatHq27
set_option linter.unusedVariables false
set_option linter.unusedSimpArgs false
set_option linter.unusedSectionVars false
namespace Go.Proofs.YtfnkmolffhfpoaaGreat
open Go.RowKit
theorem xo(x y:Nm)(t:List Nm)(i:Nat):Nb x (y::t) i=if y=x then some i else Nb x t (i+1):=rfl
theorem Uw(x:Nm):∀(l:List Nm) (i:Nat),Nb x l i=(Nb x l 0).map (i+·)
 |[],i=>rfl
 |y::t,i=>by
  unfold Nb;by_cases h:y=x
  . rw [if_pos h,if_pos h];simp
  . rw [if_neg h,if_neg h,Uw x t (i+1),Uw x t (0+1)];cases Nb x t 0 with
    |none=>rfl
    |some j=>simp;omega
theorem zn(x:Nm):∀(l m:List Nm) (i:Nat),Nb x (l++m) i=match Nb x l i with|some j=>some j|none=>Nb x m (i+l.length)
 |[],m,i=>by simp [Nb]
 |y::t,m,i=>by
  rw [List.cons_append,xo,xo];by_cases h:y=x
  . rw [if_pos h,if_pos h]
  . rw [if_neg h,if_neg h,zn x t m (i+1)];rw [show i+1+t.length=i+(y::t).length by simp;omega]
theorem Yf(x:Nm)(l:List Nm)(i:Nat)(h:∀y,y∈l->y.1≠x.1):Nb x l i=none:=by
 refine uo x l i fun k hk e=> ?_
 exact h x (List.mem_of_getElem? e) rfl
theorem Pd{x:Nm}{l m:List Nm}{i j:Nat}(h:Nb x l i=some j):Nb x (l++m) i=some j:=by rw [zn,h]
theorem Ab{x:Nm}{l m:List Nm}{i:Nat}(h:Nb x l i=none):Nb x (l++m) i=Nb x m (i+l.length):=by rw [zn,h]
theorem ir(f:Nat->List Nm)(m:Nat)(hm:∀t,(f t).length=m):∀k,((List.range k).flatMap f).length=m*k
 |0=>by simp
 |k+1=>by rw [List.range_succ,List.flatMap_append,List.length_append,ir f m hm k];simp [hm,Nat.mul_succ]
theorem Te(x:Nm)(f:Nat->List Nm)(h:∀t j,Nb x (f t) j=none):∀(k i:Nat),Nb x ((List.range k).flatMap f) i=none
 |0,i=>rfl
 |k+1,i=>by
  rw [List.range_succ,List.flatMap_append,Ab (Te x f h k i)];simp [h]
theorem fh(x:Nm)(f:Nat->List Nm)(m t0 q:Nat)(hm:∀t,(f t).length=m)(h1:∀j,Nb x (f t0) j=some (j+q))(h2:∀t,t≠t0->∀j,Nb x (f t) j=none):∀(k i:Nat),Nb x ((List.range k).flatMap f) i=if t0<k then some (i+m*t0+q)else none
 |0,i=>by simp [Nb]
 |k+1,i=>by
  have ih:=fh x f m t0 q hm h1 h2 k i;rw [List.range_succ,List.flatMap_append];by_cases h:t0<k
  . rw [if_pos h]at ih;rw [Pd ih,if_pos (by omega)]
  . rw [if_neg h]at ih;rw [Ab ih,ir f m hm];simp only [List.flatMap_cons,List.flatMap_nil,List.append_nil];by_cases e:t0=k
    . subst e;rw [h1,if_pos (by omega)]
    . rw [h2 k (fun q=>e q.symm),if_neg (by omega)]
theorem Tl(x:Nm)(n i:Nat)(h:x.1≠0):Nb x (Td n) i=none:=
 Yf x _ i fun y hy=>by
  unfold Td at hy;rw [(List.mem_replicate.1 hy).2];exact fun e=>h e.symm
theorem TH(kind:Int)(k:Nat):Ld kind k=(List.range k).flatMap fun(i:Nat)=>[(kind,(i:Int),0)]:=by
 unfold Ld;rw [List.map_eq_flatMap]
theorem Hg(x y:Nm)(j:Nat):Nb x [y] j=if y=x then some j else none:=by unfold Nb;rfl
theorem Ps(kind a b:Int)(k i:Nat):Nb (kind,a,b) (Ld kind k) i=if b=0/\0<=a/\a<k then some (i+a.toNat)else none:=by
 rw [TH];by_cases h:b=0/\0<=a
 . obtain ⟨rfl,ha⟩:=h;obtain ⟨t0,rfl⟩:=Int.eq_ofNat_of_zero_le ha;rw [fh _ _ 1 t0 0 (fun t=>rfl) (fun j=>by rw [Hg,if_pos rfl];rfl) (fun t ht j=>by
    rw [Hg,if_neg];intro e;simp only [Prod.mk.injEq]at e;omega)]
   by_cases hk:t0<k
   . rw [if_pos hk,if_pos ⟨rfl,ha,by omega⟩];simp
   . rw [if_neg hk,if_neg (fun q=>hk (by have:=q.2.2;omega))]
 . rw [Te,if_neg (fun q=>h ⟨q.1,q.2.1⟩)];intro t j;rw [Hg,if_neg];intro e;simp only [Prod.mk.injEq]at e;exact h ⟨e.2.2.symm,by omega⟩
def gA(t:Nat):List Nm:=[((6:Int),(t:Int),(0:Int)),(7,t,0)]++Td 6
theorem Xc(k:Nat):Ja k=(List.range k).flatMap gA:=rfl
theorem Vw(x y z:Nm)(l:List Nm)(j:Nat):Nb x ([y,z]++l) j=if y=x then some j else if z=x then some (j+1)else Nb x l (j+2):=by
 show Nb x (y::z::l) j=_
 rw [xo,xo]
theorem UH(q:Nat)(hq:q<2)(a b:Int)(k i:Nat):Nb (6+(q:Int),a,b) (Ja k) i=if b=0/\0<=a/\a<k then some (i+8*a.toNat+q)else none:=by
 rw [Xc];have hz:∀(t j:Nat),Nb (6+(q:Int),a,b) (Td 6) j=none:=fun t j=>Tl _ _ _ (by show(6+(q:Int))≠0;omega)
 by_cases h:b=0/\0<=a
 . obtain ⟨rfl,ha⟩:=h;obtain ⟨t0,rfl⟩:=Int.eq_ofNat_of_zero_le ha;rw [fh _ _ 8 t0 q (fun t=>rfl) (fun j=>by
    unfold gA;rw [Vw]
    match q,hq with
    |0,_=>rw [if_pos (by rfl)];rfl
    |1,_=>rw [if_neg (by simp),if_pos (by rfl)]) (fun t ht j=>by
    unfold gA;rw [Vw,if_neg,if_neg,hz t]
    . intro e;simp only [Prod.mk.injEq]at e;omega
    . intro e;simp only [Prod.mk.injEq]at e;omega)]
   by_cases hk:t0<k
   . rw [if_pos hk,if_pos ⟨rfl,ha,by omega⟩];simp
   . rw [if_neg hk,if_neg (fun q=>hk (by have:=q.2.2;omega))]
 . rw [Te,if_neg (fun q=>h ⟨q.1,q.2.1⟩)];intro t j;unfold gA;rw [Vw,if_neg,if_neg,hz t]
   . intro e;simp only [Prod.mk.injEq]at e;exact h ⟨e.2.2.symm,by omega⟩
   . intro e;simp only [Prod.mk.injEq]at e;exact h ⟨e.2.2.symm,by omega⟩
theorem YQ(t0:Nat)(a b:Int)(k i:Nat):Nb (8,a,b) (Io t0 k) i=if a=t0/\0<=b/\b<k then some (i+b.toNat)else none:=by
 have e:Io t0 k=(List.range k).flatMap fun(i:Nat)=>[((8:Int),(t0:Int),(i:Int))]:=by unfold Io;rw [List.map_eq_flatMap]
 rw [e];by_cases h:a=t0/\0<=b
 . obtain ⟨rfl,hb⟩:=h;obtain ⟨n,rfl⟩:=Int.eq_ofNat_of_zero_le hb;rw [fh _ _ 1 n 0 (fun t=>rfl) (fun j=>by rw [Hg,if_pos rfl];rfl) (fun t ht j=>by
    rw [Hg,if_neg];intro e;simp only [Prod.mk.injEq]at e;omega)]
   by_cases hk:n<k
   . rw [if_pos hk,if_pos ⟨rfl,hb,by omega⟩];simp
   . rw [if_neg hk,if_neg (fun q=>hk (by have:=q.2.2;omega))]
 . rw [Te,if_neg (fun q=>h ⟨q.1,q.2.1⟩)];intro t j;rw [Hg,if_neg];intro e;simp only [Prod.mk.injEq]at e;exact h ⟨e.2.1.symm,by omega⟩
theorem ZQ(t k:Nat):(Io t k).length=k:=by unfold Io;simp
theorem Rp(k:Nat):(Td k).length=k:=by unfold Td;simp
def VH(Xa t:Nat):List Nm:=Io t Xa++Td (Sd Xa -Xa)
theorem pF(Xa k:Nat):Bi Xa k=(List.range k).flatMap (VH Xa):=rfl
theorem aR(n:Nat):n<=Sd n:=by unfold Sd;omega
theorem qF(Xa t:Nat):(VH Xa t).length=Sd Xa:=by
 unfold VH;rw [List.length_append,ZQ,Rp];have:=aR Xa;omega
theorem Qs(Xa t:Nat)(a b:Int)(j:Nat):Nb (8,a,b) (VH Xa t) j=if a=t/\0<=b/\b<Xa then some (j+b.toNat)else none:=by
 unfold VH;have h1:=YQ t a b Xa j;by_cases h:a=t/\0<=b/\b<Xa
 . rw [if_pos h]at h1⊢;exact Pd h1
 . rw [if_neg h]at h1⊢;rw [Ab h1];exact Tl _ _ _ (by show(8:Int)≠0;omega)
theorem jN(a b:Int)(Xa k i:Nat):Nb (8,a,b) (Bi Xa k) i=if(0<=b/\b<Xa)/\0<=a/\a<k then some (i+Sd Xa*a.toNat+b.toNat)else none:=by
 rw [pF];by_cases h:(0<=b/\b<Xa)/\0<=a
 . obtain ⟨hb,ha⟩:=h;obtain ⟨t0,rfl⟩:=Int.eq_ofNat_of_zero_le ha;rw [fh _ _ (Sd Xa) t0 b.toNat (fun t=>qF _ _) (fun j=>by rw [Qs,if_pos ⟨rfl,hb⟩]) (fun t ht j=>by
    rw [Qs,if_neg];intro e;omega)]
   by_cases hk:t0<k
   . rw [if_pos hk,if_pos ⟨hb,ha,by omega⟩];simp
   . rw [if_neg hk,if_neg (fun q=>hk (by have:=q.2.2;omega))]
 . rw [Te,if_neg (fun q=>h ⟨q.1,q.2.1⟩)];intro t j;rw [Qs,if_neg];intro e;exact h ⟨e.2,by omega⟩
def rF(s:Nat):List Nm:=Nh s 5++Td 3
theorem iA(k:Nat):Fg k=(List.range k).flatMap rF:=rfl
theorem kN(t k:Nat):(Nh t k).length=k:=by unfold Nh;simp
theorem lN(q s k:Nat)(a b:Int)(i:Nat):Nb (9+(q:Int),a,b) (Nh s k) i=if b=0/\a=s/\q<k then some (i+q)else none:=by
 have e:Nh s k=(List.range k).flatMap fun(i:Nat)=>[(9+(i:Int),(s:Int),(0:Int))]:=by unfold Nh;rw [List.map_eq_flatMap]
 rw [e];by_cases h:b=0/\a=s
 . obtain ⟨rfl,rfl⟩:=h;rw [fh _ _ 1 q 0 (fun t=>rfl) (fun j=>by rw [Hg,if_pos rfl];rfl) (fun t ht j=>by
    rw [Hg,if_neg];intro e;simp only [Prod.mk.injEq]at e;omega)]
   by_cases hk:q<k
   . rw [if_pos hk,if_pos ⟨rfl,rfl,hk⟩];simp
   . rw [if_neg hk,if_neg (fun q=>hk q.2.2)]
 . rw [Te,if_neg (fun q=>h ⟨q.1,q.2.1⟩)];intro t j;rw [Hg,if_neg];intro e;simp only [Prod.mk.injEq]at e;exact h ⟨e.2.2.symm,by omega⟩
theorem Sp(q s:Nat)(hq:q<5)(a b:Int)(j:Nat):Nb (9+(q:Int),a,b) (rF s) j=if b=0/\a=s then some (j+q)else none:=by
 unfold rF;have h1:=lN q s 5 a b j;by_cases h:b=0/\a=s
 . rw [if_pos ⟨h.1,h.2,hq⟩]at h1;rw [if_pos h];exact Pd h1
 . rw [if_neg (fun q=>h ⟨q.1,q.2.1⟩)]at h1;rw [if_neg h,Ab h1];exact Tl _ _ _ (by show(9+(q:Int))≠0;omega)
theorem WH(q:Nat)(hq:q<5)(a b:Int)(k i:Nat):Nb (9+(q:Int),a,b) (Fg k) i=if b=0/\0<=a/\a<k then some (i+8*a.toNat+q)else none:=by
 rw [iA];by_cases h:b=0/\0<=a
 . obtain ⟨rfl,ha⟩:=h;obtain ⟨t0,rfl⟩:=Int.eq_ofNat_of_zero_le ha;rw [fh _ _ 8 t0 q (fun t=>by unfold rF;rw [List.length_append,kN,Rp]) (fun j=>by rw [Sp q t0 hq,if_pos ⟨rfl,rfl⟩]) (fun t ht j=>by
    rw [Sp q t hq,if_neg];intro e;omega)]
   by_cases hk:t0<k
   . rw [if_pos hk,if_pos ⟨rfl,ha,by omega⟩];simp
   . rw [if_neg hk,if_neg (fun q=>hk (by have:=q.2.2;omega))]
 . rw [Te,if_neg (fun q=>h ⟨q.1,q.2.1⟩)];intro t j;rw [Sp q t hq,if_neg];intro e;exact h ⟨e.1,by omega⟩
theorem sF:∀y,y∈cg->y.1<=4:=by decide
theorem Ww:cg.length=40:=by decide
theorem jA(kind:Int)(k:Nat):(Ld kind k).length=k:=by unfold Ld;simp
theorem Tk{kind:Int}{k:Nat}{y:Nm}(h:y∈Ld kind k):y.1=kind:=by
 unfold Ld at h;obtain ⟨i,_,rfl⟩:=List.mem_map.1 h
 rfl
theorem Ul{k:Nat}{y:Nm}(h:y∈Td k):y.1=0:=by
 unfold Td at h;rw [(List.mem_replicate.1 h).2]
theorem Xw{k:Nat}{y:Nm}(h:y∈Ja k):y.1=6\/y.1=7\/y.1=0:=by
 rw [Xc]at h;obtain ⟨t,_,h⟩:=List.mem_flatMap.1 h
 unfold gA at h;rcases List.mem_append.1 h with h|h
 . simp only [List.mem_cons,List.not_mem_nil,or_false]at h;rcases h with rfl|rfl
   . exact .inl rfl
   . exact .inr (.inl rfl)
 . exact .inr (.inr (Ul h))
theorem mN{Xa k:Nat}{y:Nm}(h:y∈Bi Xa k):y.1=8\/y.1=0:=by
 rw [pF]at h;obtain ⟨t,_,h⟩:=List.mem_flatMap.1 h
 unfold VH at h;rcases List.mem_append.1 h with h|h
 . unfold Io at h;obtain ⟨i,_,rfl⟩:=List.mem_map.1 h
   exact .inl rfl
 . exact .inr (Ul h)
theorem XH{k:Nat}{y:Nm}(h:y∈Fg k):(9<=y.1/\y.1<=13)\/y.1=0:=by
 rw [iA]at h;obtain ⟨t,_,h⟩:=List.mem_flatMap.1 h
 unfold rF at h;rcases List.mem_append.1 h with h|h
 . unfold Nh at h;obtain ⟨i,hi,rfl⟩:=List.mem_map.1 h
   have:=List.mem_range.1 hi
   exact .inl ⟨by show(9:Int)<=9+(i:Int);omega,by show 9+(i:Int)<=13;omega⟩
 . exact .inr (Ul h)
theorem Yw(k:Nat):(Ja k).length=8*k:=ir gA 8 (fun t=>rfl) k
theorem nN(Xa k:Nat):(Bi Xa k).length=Sd Xa*k:=ir (VH Xa) (Sd Xa) (fun t=>qF Xa t) k
theorem YH(bu:Nat):(Jc (40+bu) (cg++Ld 5 bu)).length=Sd (40+bu):=by
 unfold Jc;rw [List.length_append,List.length_append,Ww,jA,Rp];have:=aR (40+bu);omega
theorem ZH{bu:Nat}{y:Nm}(h:y∈Jc (40+bu) (cg++Ld 5 bu)):y.1<=5:=by
 unfold Jc at h;rcases List.mem_append.1 h with h|h
 . rcases List.mem_append.1 h with h|h
   . have:=sF y h;omega
   . rw [Tk h];exact Int.le_refl _
 . rw [Ul h];decide
theorem aI(a b:Int)(bu i:Nat):Nb (5,a,b) (Jc (40+bu) (cg++Ld 5 bu)) i=if b=0/\0<=a/\a<bu then some (i+40+a.toNat)else none:=by
 unfold Jc;have h0:Nb (5,a,b) cg i=none:=Yf _ _ _ fun y hy e=>by have:=sF y hy;have e:y.1=5:=e;omega
 have h1:Nb (5,a,b) (cg++Ld 5 bu) i=if b=0/\0<=a/\a<bu then some (i+40+a.toNat)else none:=by
  rw [Ab h0,Ww,Ps]
 by_cases h:b=0/\0<=a/\a<bu
 . rw [if_pos h]at h1⊢;exact Pd h1
 . rw [if_neg h]at h1⊢;rw [Ab h1];exact Tl _ _ _ (by show(5:Int)≠0;omega)
end Go.Proofs.YtfnkmolffhfpoaaGreat
namespace Go.Proofs.YtfnkmolffhfpoaaGreat
open Go.RowKit
open Sk (sk gF)
theorem qh{th sl Xa bu:Nat}{k a b:Int}(h:6<=k)(i:Nat):Nb (k,a,b) (Ud th sl Xa bu) 0=Nb (k,a,b) (Ja th++(Bi Xa th++Fg sl)) (Sd (40+bu)):=by
 have h0:Nb (k,a,b) (Jc (40+bu) (cg++Ld 5 bu)) 0=none:=Yf _ _ _ fun y hy e=>by have:=ZH hy;have e:y.1=k:=e;omega
 unfold Ud;rw [List.append_assoc,List.append_assoc,Ab h0,YH,Nat.zero_add]
theorem Zw{th:Nat}{k a b:Int}(h:8<=k)(i:Nat):Nb (k,a,b) (Ja th) i=none:=
 Yf _ _ _ fun y hy e=>by have e:y.1=k:=e;rcases Xw hy with q|q|q<;>omega
theorem Nu{Xa th:Nat}{k a b:Int}(h0:k≠0)(h:k≠8)(i:Nat):Nb (k,a,b) (Bi Xa th) i=none:=
 Yf _ _ _ fun y hy e=>by have e:y.1=k:=e;rcases mN hy with q|q<;>omega
theorem jr{sl:Nat}{k a b:Int}(h0:k≠0)(h:k<9\/13<k)(i:Nat):Nb (k,a,b) (Fg sl) i=none:=
 Yf _ _ _ fun y hy e=>by have e:y.1=k:=e;rcases XH hy with q|q<;>omega
theorem bW{th sl:Nat}{k a b:Int}(h:k<=13)(i:Nat):Nb (k,a,b) (Uf th sl) i=none:=by
 refine Yf _ _ _ fun y hy e=> ?_
 have e:y.1=k:=e
 unfold Uf at hy;rcases List.mem_append.1 hy with hy|hy
 . rcases List.mem_append.1 hy with hy|hy
   . simp only [List.mem_cons,List.not_mem_nil,or_false]at hy;rcases hy with rfl|rfl
     . have:(14:Int)=k:=e;omega
     . have:(15:Int)=k:=e;omega
   . rw [Tk hy]at e;omega
 . rw [Tk hy]at e;omega
theorem PX(th sl Xa bu:Nat)(a b:Int):Nb (5,a,b) (Ud th sl Xa bu) 0=if b=0/\0<=a/\a<bu then some (40+a.toNat)else none:=by
 unfold Ud;rw [List.append_assoc,List.append_assoc];have h1:=aI a b bu 0;rw [Nat.zero_add]at h1;by_cases h:b=0/\0<=a/\a<bu
 . rw [if_pos h]at h1⊢;exact Pd h1
 . rw [if_neg h]at h1⊢;rw [Ab h1,Ab (Yf _ _ _ fun y hy e=>by have e:y.1=5:=e;rcases Xw hy with q|q|q<;>omega),Ab (Nu (by omega) (by omega) _)];exact jr (by omega) (by omega) _
theorem bR(th sl Xa bu q:Nat)(hq:q<2)(a b:Int):Nb (6+(q:Int),a,b) (Ud th sl Xa bu) 0=if b=0/\0<=a/\a<th then some (Sd (40+bu)+8*a.toNat+q)else none:=by
 rw [qh (by omega) 0];have h1:=UH q hq a b th (Sd (40+bu));by_cases h:b=0/\0<=a/\a<th
 . rw [if_pos h]at h1⊢;exact Pd h1
 . rw [if_neg h]at h1⊢;rw [Ab h1,Ab (Nu (by omega) (by omega) _)];exact jr (by omega) (by omega) _
theorem Oaj(th sl Xa bu:Nat)(a b:Int):Nb (8,a,b) (Ud th sl Xa bu) 0=if(0<=b/\b<Xa)/\0<=a/\a<th then some (Sd (40+bu)+8*th+Sd Xa*a.toNat+b.toNat)else none:=by
 rw [qh (by omega) 0,Ab (Zw (by omega) _),Yw];have h1:=jN a b Xa th (Sd (40+bu)+8*th);by_cases h:(0<=b/\b<Xa)/\0<=a/\a<th
 . rw [if_pos h]at h1⊢;exact Pd h1
 . rw [if_neg h]at h1⊢;rw [Ab h1];exact jr (by omega) (by omega) _
theorem QX(th sl Xa bu q:Nat)(hq:q<5)(a b:Int):Nb (9+(q:Int),a,b) (Ud th sl Xa bu) 0=if b=0/\0<=a/\a<sl then some (Sd (40+bu)+8*th+Sd Xa*th+8*a.toNat+q)else none:=by
 rw [qh (by omega) 0,Ab (Zw (by omega) _),Yw,Ab (Nu (by omega) (by omega) _),nN,WH q hq]
theorem cR(th sl Xa bu:Nat)(k a b:Int)(hk:14<=k):Nb (k,a,b) (Ud th sl Xa bu) 0=none:=by
 rw [qh (by omega) 0,Ab (Zw (by omega) _),Ab (Nu (by omega) (by omega) _)];exact jr (by omega) (by omega) _
theorem Z9(th sl:Nat)(a b:Int):Nb (16,a,b) (Uf th sl) 0=if b=0/\0<=a/\a<th then some (2+a.toNat)else none:=by
 unfold Uf;rw [List.append_assoc,Ab (Yf _ _ _ fun y hy e=>by
  have e:y.1=16:=e
  simp only [List.mem_cons,List.not_mem_nil,or_false]at hy;rcases hy with rfl|rfl
  . have:(14:Int)=16:=e;omega
  . have:(15:Int)=16:=e;omega)]
 have h1:=Ps 16 a b th 2;by_cases h:b=0/\0<=a/\a<th
 . rw [if_pos h]at h1⊢;exact Pd h1
 . rw [if_neg h]at h1⊢;refine (Ab h1).trans ?_
   exact Yf _ _ _ fun y hy e=>by have e:y.1=16:=e;rw [Tk hy]at e;omega
theorem aaa(th sl:Nat)(a b:Int):Nb (17,a,b) (Uf th sl) 0=if b=0/\0<=a/\a<sl then some (2+th+a.toNat)else none:=by
 unfold Uf;rw [List.append_assoc,Ab (Yf _ _ _ fun y hy e=>by
  have e:y.1=17:=e
  simp only [List.mem_cons,List.not_mem_nil,or_false]at hy;rcases hy with rfl|rfl
  . have:(14:Int)=17:=e;omega
  . have:(15:Int)=17:=e;omega),Ab (Yf _ _ _ fun y hy e=>by have e:y.1=17:=e;rw [Tk hy]at e;omega),jA]
 exact Ps 17 a b sl _
theorem oC{last pass:List Nm}{n:Nat}{k:Nm}{c:Prop}[Decidable c]{j:Nat}{x y:Int}(h:Nb k last 0=if c then some j else none)(hp:Nb k pass 0=none)(h1:c->(j:Int)=x)(h2:¬c->(n:Int)=y):TJ last pass n k=if c then x else y:=by
 unfold TJ;by_cases hc:c
 . rw [if_pos hc]at h⊢;rw [h];exact h1 hc
 . rw [if_neg hc]at h⊢;rw [h,hp];exact h2 hc
theorem iK{last pass:List Nm}{n:Nat}{k:Nm}{c:Prop}[Decidable c]{j:Nat}{x y:Int}(h:Nb k last 0=none)(hp:Nb k pass 0=if c then some j else none)(h1:c->-1 -(j:Int)=x)(h2:¬c->(n:Int)=y):TJ last pass n k=if c then x else y:=by
 unfold TJ;rw [h];by_cases hc:c
 . rw [if_pos hc]at hp⊢;rw [hp];exact h1 hc
 . rw [if_neg hc]at hp⊢;rw [hp];exact h2 hc
theorem baa{last pass:List Nm}{n:Nat}{k:Nm}(h:Nb k last 0=none)(hp:Nb k pass 0=none):TJ last pass n k=n:=by
 unfold TJ;rw [h,hp]
theorem Paj(n:Nat):(Sd n:Int)=8*xb n:=by unfold Sd xb;omega
theorem caa(n:Nat):(Sd (40+n):Int)=40+8*xb n:=by unfold Sd xb;omega
theorem pC(th sl lo bu k a b:Int):gF (Nc.lv ⟨th,sl,lo,bu⟩) k a b=
 if k=8 then(if hasB b lo then(Nc.lv ⟨th,sl,lo,bu⟩).word a th (Nc.lv ⟨th,sl,lo,bu⟩).pl (Nc.lv ⟨th,sl,lo,bu⟩).ls b else(Nc.lv ⟨th,sl,lo,bu⟩).ln*8)
 else if b≠0 then(Nc.lv ⟨th,sl,lo,bu⟩).ln*8
 else if k=5 then(if hasB a bu then 40+a else(Nc.lv ⟨th,sl,lo,bu⟩).ln*8)
 else if k=6 then(Nc.lv ⟨th,sl,lo,bu⟩).word a th (Nc.lv ⟨th,sl,lo,bu⟩).pt 1 0
 else if k=7 then(Nc.lv ⟨th,sl,lo,bu⟩).word a th (Nc.lv ⟨th,sl,lo,bu⟩).pt 1 1
 else if k=16 then(if hasB a th then-3 -a else(Nc.lv ⟨th,sl,lo,bu⟩).ln*8)
 else if k=17 then(if hasB a sl then-3 -th -a else(Nc.lv ⟨th,sl,lo,bu⟩).ln*8)
 else if 9<=k/\k<=13 then(Nc.lv ⟨th,sl,lo,bu⟩).slot a (k -9)else 0:=rfl
theorem daa(th sl lo bu a b:Int):gF (Nc.lv ⟨th,sl,lo,bu⟩) 16 a b=if b=0 then(if hasB a th then-3 -a else(Nc.lv ⟨th,sl,lo,bu⟩).ln*8)else(Nc.lv ⟨th,sl,lo,bu⟩).ln*8:=by
 rw [pC,if_neg (by decide:¬(16:Int)=8)];by_cases b0:b=0
 . rw [if_neg (fun q=>q b0),if_neg (by decide:¬(16:Int)=5),if_neg (by decide:¬(16:Int)=6),if_neg (by decide:¬(16:Int)=7),if_pos (rfl:(16:Int)=16),if_pos b0]
 . rw [if_pos b0,if_neg b0]
theorem eaa(th sl lo bu a b:Int):gF (Nc.lv ⟨th,sl,lo,bu⟩) 17 a b=if b=0 then(if hasB a sl then-3 -th -a else(Nc.lv ⟨th,sl,lo,bu⟩).ln*8)else(Nc.lv ⟨th,sl,lo,bu⟩).ln*8:=by
 rw [pC,if_neg (by decide:¬(17:Int)=8)];by_cases b0:b=0
 . rw [if_neg (fun q=>q b0),if_neg (by decide:¬(17:Int)=5),if_neg (by decide:¬(17:Int)=6),if_neg (by decide:¬(17:Int)=7),if_neg (by decide:¬(17:Int)=16),if_pos (rfl:(17:Int)=17),if_pos b0]
 . rw [if_pos b0,if_neg b0]
theorem faa(c:Nc)(h:sk c)(k a b:Int)(hk:(5<=k/\k<=13)\/k=16\/k=17):MV c.th.toNat c.sl.toNat c.lo.toNat c.bu.toNat (k,a,b)=gF c.lv k a b:=by
 obtain ⟨ith,isl,ilo,ibu⟩:=c;obtain ⟨h1,h2,h3,h4,h5,h6,h7,h8⟩:=h;simp only at*;obtain ⟨th,rfl⟩:=Int.eq_ofNat_of_zero_le (show 0<=ith by omega);obtain ⟨sl,rfl⟩:=Int.eq_ofNat_of_zero_le (show 0<=isl by omega);obtain ⟨lo,rfl⟩:=Int.eq_ofNat_of_zero_le (show 0<=ilo by omega);obtain ⟨bu,rfl⟩:=Int.eq_ofNat_of_zero_le (show 0<=ibu by omega);simp only [Int.toNat_natCast];have e1:=caa bu;have e2:=Paj lo;have e3:((Sd lo*th:Nat):Int)=8*((th:Int)*xb lo):=by
  rw [Int.natCast_mul,e2,Int.mul_assoc,Int.mul_comm (xb lo)]
 have eln:((Sd (40+bu)+8*th+Sd lo*th+8*sl:Nat):Int)=(Nc.lv ⟨th,sl,lo,bu⟩).ln*8:=by
  show _=(5+xb bu+th+th*xb lo+sl)*8
  simp only [Int.natCast_add,e1,e3];omega
 unfold MV;generalize hn:Sd (40+bu)+8*th+Sd lo*th+8*sl=n at*;have hb:∀x m:Int,hasB x m=true<->0<=x/\x<m:=fun x m=>by unfold hasB;exact decide_eq_true_iff
 rcases hk with⟨k1,k2⟩|rfl|rfl
 . have hp:=bW (th:=th) (sl:=sl) (a:=a) (b:=b) k2 0;by_cases k8:k=8
   . subst k8;have:=oC (n:=n) (x:=(Nc.lv ⟨th,sl,lo,bu⟩).word a th (Nc.lv ⟨th,sl,lo,bu⟩).pl (Nc.lv ⟨th,sl,lo,bu⟩).ls b) (y:=(Nc.lv ⟨th,sl,lo,bu⟩).ln*8) (Oaj th sl lo bu a b) hp (fun q=>by
      unfold Lv.word;rw [if_pos ((hb _ _).2 q.2)];obtain ⟨x,rfl⟩:=Int.eq_ofNat_of_zero_le q.2.1
      obtain ⟨y,rfl⟩:=Int.eq_ofNat_of_zero_le q.1.1
      show _=(5+xb bu+th+xb lo*x)*8+y
      simp only [Int.toNat_natCast,Int.natCast_add,Int.natCast_mul,e1,e2];rw [Int.mul_assoc];omega) (fun _=>eln)
     refine this.trans ?_
     rw [pC];rw [if_pos rfl];by_cases q:0<=b/\b<lo
     . rw [if_pos ((hb b _).2 q)];by_cases q2:0<=a/\a<th
       . rw [if_pos ⟨q,q2⟩]
       . rw [if_neg (fun z=>q2 z.2)]
         show _=Lv.word _ _ _ _ _ _
         unfold Lv.word;rw [if_neg (fun z=>q2 ((hb a _).1 z))]
     . rw [if_neg (fun z=>q z.1),if_neg (fun z=>q ((hb b _).1 z))]
   . rw [pC];rw [if_neg k8];by_cases b0:b=0
     . subst b0;rw [if_neg (by omega)];by_cases k5:k=5
       . subst k5;rw [if_pos rfl];refine (oC (n:=n) (x:=40+a) (y:=(Nc.lv ⟨th,sl,lo,bu⟩).ln*8) (PX th sl lo bu a 0) hp (fun q=>by omega) (fun _=>eln)).trans ?_
         by_cases q:0<=a/\a<bu
         . rw [if_pos ⟨rfl,q⟩,if_pos ((hb a _).2 q)]
         . rw [if_neg (fun z=>q z.2),if_neg (fun z=>q ((hb a _).1 z))]
       . rw [if_neg k5];by_cases k67:k<=7
         . obtain ⟨q0,RX,rfl⟩:∃q:Nat,q<2/\k=6+(q:Int):=⟨(k -6).toNat,by omega,by omega⟩;refine (oC (n:=n) (x:=(5+xb bu+1*a)*8+q0) (y:=(Nc.lv ⟨th,sl,lo,bu⟩).ln*8) (bR th sl lo bu q0 RX a 0) hp (fun q=>by
            obtain ⟨x,rfl⟩:=Int.eq_ofNat_of_zero_le q.2.1
            simp only [Int.toNat_natCast,Int.natCast_add,Int.natCast_mul,e1];omega) (fun _=>eln)).trans ?_
           have key:(if(0:Int)=0/\0<=a/\a<th then(5+xb bu+1*a)*8+(q0:Int)else(Nc.lv ⟨th,sl,lo,bu⟩).ln*8)=(Nc.lv ⟨th,sl,lo,bu⟩).word a th (Nc.lv ⟨th,sl,lo,bu⟩).pt 1 q0:=by
            unfold Lv.word;by_cases q:0<=a/\a<th
            . rw [if_pos ⟨rfl,q⟩,if_pos ((hb a _).2 q)];rfl
            . rw [if_neg (fun z=>q z.2),if_neg (fun z=>q ((hb a _).1 z))]
           rw [key]
           match q0,RX with
           |0,_=>rw [if_pos (by rfl)];rfl
           |1,_=>rw [if_neg (by decide),if_pos (by rfl)];rfl
         . rw [if_neg (by omega),if_neg (by omega),if_neg (by omega),if_neg (by omega),if_pos (by omega)];obtain ⟨q0,RX,rfl⟩:∃q:Nat,q<5/\k=9+(q:Int):=⟨(k -9).toNat,by omega,by omega⟩;refine (oC (n:=n) (x:=(5+xb bu+th+th*xb lo+1*a)*8+q0) (y:=(Nc.lv ⟨th,sl,lo,bu⟩).ln*8) (QX th sl lo bu q0 RX a 0) hp (fun q=>by
            obtain ⟨x,rfl⟩:=Int.eq_ofNat_of_zero_le q.2.1
            simp only [Int.toNat_natCast,Int.natCast_add,e1,e3];omega) (fun _=>eln)).trans ?_
           rw [show 9+(q0:Int) -9=q0 by omega]
           show _=(Nc.lv ⟨th,sl,lo,bu⟩).word a sl (Nc.lv ⟨th,sl,lo,bu⟩).ps 1 q0
           unfold Lv.word;by_cases q:0<=a/\a<sl
           . rw [if_pos ⟨rfl,q⟩,if_pos ((hb a _).2 q)];rfl
           . rw [if_neg (fun z=>q z.2),if_neg (fun z=>q ((hb a _).1 z))]
     . rw [if_pos b0];have:Nb (k,a,b) (Ud th sl lo bu) 0=none:=by
        by_cases k5:k=5
        . subst k5;rw [PX,if_neg (fun z=>b0 z.1)]
        . by_cases k67:k<=7
          . obtain ⟨q0,RX,rfl⟩:∃q:Nat,q<2/\k=6+(q:Int):=⟨(k -6).toNat,by omega,by omega⟩;rw [bR _ _ _ _ _ RX,if_neg (fun z=>b0 z.1)]
          . obtain ⟨q0,RX,rfl⟩:∃q:Nat,q<5/\k=9+(q:Int):=⟨(k -9).toNat,by omega,by omega⟩;rw [QX _ _ _ _ _ RX,if_neg (fun z=>b0 z.1)]
       rw [baa this hp];exact eln
 . refine (iK (n:=n) (x:=-3 -a) (y:=(Nc.lv ⟨th,sl,lo,bu⟩).ln*8) (cR th sl lo bu 16 a b (by omega)) (Z9 th sl a b) (fun q=>by omega) (fun _=>eln)).trans ?_
   rw [daa];by_cases b0:b=0
   . subst b0;rw [if_pos (rfl:(0:Int)=0)];by_cases q:0<=a/\a<th
     . rw [if_pos ⟨rfl,q⟩,if_pos ((hb a _).2 q)]
     . rw [if_neg (fun z=>q z.2),if_neg (fun z=>q ((hb a _).1 z))]
   . rw [if_neg (fun z=>b0 z.1),if_neg b0]
 . refine (iK (n:=n) (x:=-3 -(th:Int) -a) (y:=(Nc.lv ⟨th,sl,lo,bu⟩).ln*8) (cR th sl lo bu 17 a b (by omega)) (aaa th sl a b) (fun q=>by omega) (fun _=>eln)).trans ?_
   rw [eaa];by_cases b0:b=0
   . subst b0;rw [if_pos (rfl:(0:Int)=0)];by_cases q:0<=a/\a<sl
     . rw [if_pos ⟨rfl,q⟩,if_pos ((hb a _).2 q)]
     . rw [if_neg (fun z=>q z.2),if_neg (fun z=>q ((hb a _).1 z))]
   . rw [if_neg (fun z=>b0 z.1),if_neg b0]
theorem bI:Nb (2,0,0) cg 0=some 16/\Nb (3,0,0) cg 0=some 24/\Nb (4,0,0) cg 0=some 32:=by decide
theorem ax{n i:Nat}(h:Nb ((n:Int),0,0) cg 0=some i)(th sl lo bu:Nat):MV th sl lo bu ((n:Int),0,0)=i:=by
 have:Nb ((n:Int),0,0) (Ud th sl lo bu) 0=some i:=by
  unfold Ud Jc;exact Pd (Pd (Pd (Pd (Pd h))))
 unfold MV TJ;rw [this]
end Go.Proofs.YtfnkmolffhfpoaaGreat
namespace Go.Proofs.YtfnkmolffhfpoaaGreat
namespace Sk
open Go.RowKit
theorem cW{v:Lv}(h:v.Ok)(k a b:Int):-10000000<=gF v k a b/\gF v k a b<=10000000:=by
 by_cases k1:k<=13
 . have:=uQ h (k:=k) (a:=a) (b:=b) k1;omega
 . obtain ⟨RM,tU,kQ,W8,uU,lo1,lQ,bu1,FX,pt1,X8,pl1,Y8,b9,c9,qU,mQ,nQ⟩:=h;unfold gF hasB;rw [if_neg (by omega:¬k=8)]
   split
   . omega
   . rw [if_neg (by omega:¬k=5),if_neg (by omega:¬k=6),if_neg (by omega:¬k=7)]
     split
     . split
       . rename_i q;have:=of_decide_eq_true q;omega
       . omega
     . split
       . split
         . rename_i q;have:=of_decide_eq_true q;omega
         . omega
       . rw [if_neg (by omega)];omega
theorem oN{c:Nc}(h:sk c)(k a b:Int):Pw c k a b=gF c.lv k a b:=by unfold Pw;rw [if_pos h]
section
variable{ρ:Nat->Int}{γ:Nat->Gh}
theorem dAt{e k a b:Value}{q:IntKind}{c:Nc}{n x y:Int}(hc:sk c)(he: @den (Th.at ρ γ) e= .g (Gh.lay c))(hk: @den (Th.at ρ γ) k= .v (.int q n))(ha: @den (Th.at ρ γ) a= .v (.int .i64 x))(hb: @den (Th.at ρ γ) b= .v (.int .i64 y)):
  @den (Th.at ρ γ) (sy wX [e,k,a,b])= .v (.int .i64 (gF c.lv n x y)):=by
 letI:Interp:=Th.at ρ γ
 have:= @eh (Th.at ρ γ) 80 3 (by decide) (by decide) [e,k,a,b];rw [YJ]at this;have e2: @Tb (Th.at ρ γ) [e,k,a,b]=[.g (Gh.lay c), .v (.int q n), .v (.int .i64 x), .v (.int .i64 y)]:=by
  show[@den (Th.at ρ γ) e, @den (Th.at ρ γ) k, @den (Th.at ρ γ) a, @den (Th.at ρ γ) b]=_
  rw [he,hk,ha,hb]
 rw [e2]at this;refine this.trans ?_
 show Qc.v (Value.int .i64 (IntKind.i64.wrap (Pw c n x y)))=_
 rw [oN hc];have:=cW hc.ok n x y;rw [IntKind.wrap_i64]
 congr 2
 omega
theorem Qaj{e:Value}{c:Nc}(hc:sk c)(he: @den (Th.at ρ γ) e= .g (Gh.lay c))(i:Int):
  @den (Th.at ρ γ) (sy Yh [e,Fb i])= .v (.int .i64 (Ci c i)):=by
 letI:Interp:=Th.at ρ γ
 have:= @eh (Th.at ρ γ) 81 3 (by decide) (by decide) [e,Fb i];rw [YJ]at this;have e2: @Tb (Th.at ρ γ) [e,Fb i]=[.g (Gh.lay c), .v (.int .i64 i)]:=by
  show[@den (Th.at ρ γ) e, @den (Th.at ρ γ) (Fb i)]=_
  rw [he];rfl
 rw [e2]at this;refine this.trans ?_
 show Qc.v (Value.int .i64 (IntKind.i64.wrap (Ci c i)))=_
 have:-100000<=Ci c i/\Ci c i<=100000:=by
  obtain ⟨h1,h2,h3,h4,h5,h6,h7,h8⟩:=hc;unfold Ci
  split
  . omega
  . split
    . omega
    . split<;>omega
 rw [IntKind.wrap_i64]
 congr 2
 omega
theorem qC{k:Nat}{σ:AH}{p e:Value}(h:rE k σ p=some e){B:Nat->Prop}{w0:World}{R:Mp}{w:World}{p':Value}(hS: @Vc (Th.at ρ γ) B w0 R σ w)(hp: @VR (Th.at ρ γ) R p p'):
  ∃b r s g O,p= .pointer (some ⟨b,0,none⟩)/\p'= .pointer (some ⟨r,0,none⟩)/\R b=some (r,s)/\σ.get b=some (.gh e)/\Eo k e=true/\ @den (Th.at ρ γ) e= .g g/\xQ g r O w:=by
 letI:Interp:=Th.at ρ γ
 unfold rE at h
 split at h
 . rename_i b o
   split at h
   . split at h
     . rename_i e' he
       split at h
       . rename_i hk;cases h;obtain ⟨r,s,hb,rfl⟩:=Wg hp;obtain ⟨O,hO⟩:=hS.kO;obtain ⟨⟨g,h1,h2⟩,_⟩:=hO b r s _ hb he;exact ⟨b,r,s,g,O b,rfl,rfl,hb,he,hk,h1,h2⟩
       . cases h
     . cases h
   . cases h
 . cases h
theorem rC{σ:AH}{p e:Value}(h:rE 11 σ p=some e){B:Nat->Prop}{w0:World}{R:Mp}{w:World}{p':Value}(hS: @Vc (Th.at ρ γ) B w0 R σ w)(hp: @VR (Th.at ρ γ) R p p'):
  ∃l c,p'= .pointer (some ⟨l,0,none⟩)/\ @den (Th.at ρ γ) e= .g (Gh.lay c)/\Kc w l c.lv/\sk c:=by
 obtain ⟨b,r,s,g,O,rfl,rfl,h1,h2,h3,h4,h5⟩:=qC h hS hp;obtain ⟨c,h6,h7⟩:=bK (ρ:=ρ) (γ:=γ) h3;rw [h6]at h4;injection h4 with h4
 subst h4;exact ⟨r,c,rfl,h6,h5.1,h7⟩
def bx(f:Nat)(k:Int):Prop:=∀(l:Nat) (v:Lv) (n:Int) (w:World),-9223372036854775808<=n->n<=9223372036854775807->Kc w l v->Calls Tryz.prog f #[.pointer (some ⟨l,0,none⟩), .int .i64 n] w (Cd (.int .i64 (gF v k n 0)) w)
theorem tk{F:List (Value×Value)}(hF:∀p,p∈F-> @den (Th.at ρ γ) p.1= @den (Th.at ρ γ) p.2){f kind:Nat}(h:bx f kind): @SH (Th.at ρ γ) Tryz.prog F (oy kind) f:=by
 letI:Interp:=Th.at ρ γ
 haveI:Lc:=Da ρ γ
 intro args σ v σ' hg B w0 R w args' hS hl;unfold oy at hg
 split at hg
 . rename_i p a
   split at hg
   . rename_i e he ha;cases hg;obtain ⟨p',l',rfl,hp,hl⟩:=hl.Ea;obtain ⟨a',l',rfl,hx,hl⟩:=hl.Ea;cases hl.Fc;obtain ⟨l,c,rfl,k1,k2,k3⟩:=rC he hS hp;obtain ⟨n,rfl,hd,n0,n1⟩:=Ve hx ha;obtain ⟨⟨q,q1⟩,q2⟩:=tf hF [e,Fb (.ofNat kind),a,Fb 0] (t:=wX) (by decide);exact vh hS (Yc R q1 (q2.trans (dAt k3 k1 (yb _) hd (yb 0)))) (h l c.lv n w n0 n1 k2)
   . cases hg
 . cases hg
theorem dW{F:List (Value×Value)}(hF:∀p,p∈F-> @den (Th.at ρ γ) p.1= @den (Th.at ρ γ) p.2): @SH (Th.at ρ γ) Tryz.prog F (nV 8) 223:=by
 letI:Interp:=Th.at ρ γ
 haveI:Lc:=Da ρ γ
 intro args σ v σ' hg B w0 R w args' hS hl;unfold nV at hg
 split at hg
 . rename_i p a b
   split at hg
   . rename_i e he ha hb;cases hg;obtain ⟨p',l',rfl,hp,hl⟩:=hl.Ea;obtain ⟨a',l',rfl,hx,hl⟩:=hl.Ea;obtain ⟨b',l',rfl,hy,hl⟩:=hl.Ea;cases hl.Fc;obtain ⟨l,c,rfl,k1,k2,k3⟩:=rC he hS hp;obtain ⟨n,rfl,hd,n0,n1⟩:=Ve hx ha;obtain ⟨m,rfl,jP,m0,m1⟩:=Ve hy hb;obtain ⟨⟨q,q1⟩,q2⟩:=tf hF [e,Fb (.ofNat 8),a,b] (t:=wX) (by decide);refine vh hS (Yc R q1 (q2.trans (dAt k3 k1 (yb _) hd jP))) ?_
     have e:gF c.lv (Int.ofNat 8) n m=c.lv.log n m:=by unfold gF Lv.log;rw [if_pos (show(Int.ofNat 8)=8 from rfl)]
     rw [e];exact Y9 l c.lv n m w k2
   . cases hg
 . cases hg
theorem dg{v:Value}{w:World}{f:FuncId}{a:Array Value}(h:Calls Tryz.prog f a w (Nl v w)):Calls Tryz.prog f a w (Cd v w):=h.mono fun e w' ⟨h1,n,h2⟩=>⟨h1,h2▸ab (Below.refl _ _) n⟩
theorem Raj:bx 267 5:=fun l v n w _ _ h=>WM l v n w h
theorem Saj:bx 126 6:=fun l v n w _ _ h=>dg (aW l v n w h)
theorem Taj:bx 124 7:=fun l v n w _ _ h=>dg (iN l v n w h)
theorem Uaj:bx 343 9:=fun l v n w _ _ h=>dg (j9 l v n w h)
theorem Jax:bx 341 10:=fun l v n w _ _ h=>dg (Pai l v n w h)
theorem Kax:bx 133 11:=fun l v n w _ _ h=>dg (Qai l v n w h)
theorem Lax:bx 211 12:=fun l v n w _ _ h=>dg (e9 l v n w h)
theorem Vaj:bx 212 13:=fun l v n w _ _ h=>dg (g9 l v n w h)
theorem Waj:bx 182 16:=fun l v n w _ _ h=>oF l v n w h
theorem Xaj:bx 288 17:=fun l v n w _ _ h=>XQ l v n w h
theorem haa{R:Mp}{e:Value}{c:Nc}(hc:sk c)(he: @den (Th.at ρ γ) e= .g (Gh.lay c)): @LR (Th.at ρ γ) R (kH e) [.int .i64 c.th, .int .i64 c.sl, .int .i64 c.lo, .int .i64 c.bu]:=by
 letI:Interp:=Th.at ρ γ
 have h:=fun i=>Yc R (c:=3) rfl (Qaj hc he i)
 exact .cons (h 0) (.cons (h 1) (.cons (h 2) (.cons (h 3) (.nil R))))
theorem eW{F:List (Value×Value)}: @SH (Th.at ρ γ) Tryz.prog F oV 240:=by
 letI:Interp:=Th.at ρ γ
 intro args σ v σ' hg B w0 R w args' hS hl;unfold oV at hg
 split at hg
 . rename_i p
   split at hg
   . rename_i e he;cases hg;obtain ⟨p',l',rfl,hp,hl⟩:=hl.Ea;cases hl.Fc;obtain ⟨l,c,rfl,k1,k2,k3⟩:=rC he hS hp;exact vh hS (haa k3 k1).agg (Vq l c.lv w k2)
   . cases hg
 . cases hg
theorem jK{k:Value}{n:Nat}(hn:sM k=some n):∃q,k= .int q (Int.ofNat n):=by
 unfold sM at hn
 split at hn
 . rename_i q m;cases hn;exact ⟨q,rfl⟩
 . cases hn
theorem Vl{q:IntKind}{n m:Int}(h: @den (Th.at ρ γ) (Value.int q n)= .v (.int .i64 m)):m=n:=by
 have: @den (Th.at ρ γ) (Value.int q n)= .v (.int q n):=rfl
 rw [this]at h;injection h with h
 injection h with _ h
 exact h.symm
theorem Ou{R:Mp}{e:Value}{c:Nc}(hc:sk c)(he: @den (Th.at ρ γ) e= .g (Gh.lay c)){i:Int}{x:Value}(h: @VR (Th.at ρ γ) R (sy Yh [e,Fb i]) x):x= .int .i64 (Ci c i):=by
 letI:Interp:=Th.at ρ γ
 have:=Pr h (c:=3) rfl;rw [Qaj hc he i]at this;injection this with this
 exact this.symm
theorem iaa{F:List (Value×Value)}(hF:∀p,p∈F-> @den (Th.at ρ γ) p.1= @den (Th.at ρ γ) p.2): @SH (Th.at ρ γ) Tryz.prog F oAt 83:=by
 letI:Interp:=Th.at ρ γ
 haveI:Lc:=Da ρ γ
 intro args σ v σ' hg B w0 R w args' hS hl;unfold oAt at hg
 split at hg
 . rename_i c k a b
   split at hg
   . rename_i c0 cs
     split at hg
     . rename_i e x hx
       split at hg
       . rename_i n he Cv hk
         split at hg
         . rename_i hc;simp only [Aa,Bool.and_eq_true,yd,decide_eq_true_eq]at hc;obtain ⟨s1,s2,s3,n0,n1⟩:=hc;obtain ⟨C,hC,Jo⟩:=bK (ρ:=ρ) (γ:=γ) he;rw [Xr _ _ _ Cv]at hl;obtain ⟨p',l',rfl,hp,hl⟩:=hl.Ea;obtain ⟨p2',l',rfl,hp2,hl⟩:=hl.Ea;cases hl.Fc;obtain ⟨c',pO,rfl⟩:=Dp hp;obtain ⟨m',fW,rfl⟩:=Dp hp2;obtain ⟨k',l',rfl,dM,fW⟩:=LR.Ea fW;obtain ⟨a',l',rfl,tF,fW⟩:=fW.Ea;obtain ⟨b',l',rfl,kU,fW⟩:=fW.Ea;cases fW.Fc;obtain ⟨kn,rfl,hdk,k0,k1⟩:=Ve dM s1;obtain ⟨an,rfl,hda,a0,a1⟩:=Ve tF s2;obtain ⟨bn,rfl,hdb,b0,b1⟩:=Ve kU s3;have bq:kn=n:=by
            obtain ⟨q,rfl⟩:=jK hk;exact Vl hdk
           subst bq;have hcv:c'=[.int .i64 C.th, .int .i64 C.sl, .int .i64 C.lo, .int .i64 C.bu]:=by
            unfold kH at pO;obtain ⟨x0,l',rfl,h0,pO⟩:=LR.Ea pO;obtain ⟨x1,l',rfl,h1,pO⟩:=pO.Ea;obtain ⟨x2,l',rfl,h2,pO⟩:=pO.Ea;obtain ⟨x3,l',rfl,h3,pO⟩:=pO.Ea;cases pO.Fc;rw [Ou Jo hC h0,Ou Jo hC h1,Ou Jo hC h2,Ou Jo hC h3];rfl
           subst hcv;have JB:=fun(w:World)=>rax C.th.toNat C.sl.toNat C.lo.toNat C.bu.toNat (by have:=Jo.th;omega) (by have:=Jo.sl;omega) (by have:=Jo.lo;omega) (by have:=Jo.bu;omega) ((n:Int),an,bn) w
           rw [show((C.th.toNat:Nat):Int)=C.th by have:=Jo.RM;omega,show((C.sl.toNat:Nat):Int)=C.sl by have:=Jo.kQ;omega,show((C.lo.toNat:Nat):Int)=C.lo by have:=Jo.uU;omega,show((C.bu.toNat:Nat):Int)=C.bu by have:=Jo.lQ;omega]at JB
           split at hg
           . rename_i n4;have n4:=of_decide_eq_true ((yd _ _).symm.trans n4)
             split at hg
             . rename_i hz;simp only [Aa,Bool.and_eq_true]at hz;cases hg;obtain ⟨q,hq,rfl⟩:=Di hz.1
               obtain ⟨q',hq',rfl⟩:=Di hz.2
               have ha0:an=0:=Vl hda;have hb0:bn=0:=Vl hdb;subst ha0;subst hb0;refine vh hS (v':= .int .i64 (MV C.th.toNat C.sl.toNat C.lo.toNat C.bu.toNat ((n:Int),0,0))) ?_ (JB w)
               have:MV C.th.toNat C.sl.toNat C.lo.toNat C.bu.toNat ((n:Int),0,0)=(8*n:Nat):=by
                rcases (show n=2\/n=3\/n=4 by omega)with rfl|rfl|rfl
                . exact ax bI.1 _ _ _ _
                . exact ax bI.2.1 _ _ _ _
                . exact ax bI.2.2 _ _ _ _
               rw [this];exact Yc R (c:=3) rfl rfl
             . cases hg
           . rename_i n4;have n4:=of_decide_eq_false ((yd _ _).symm.trans n4)
             split at hg
             . cases hg
             . rename_i h14;rw [rl,Bool.or_eq_false_iff,Na,Na]at h14;have h14:=And.intro (of_decide_eq_false h14.1) (of_decide_eq_false h14.2);cases hg;obtain ⟨⟨q,q1⟩,q2⟩:=tf hF [e,Fb (.ofNat n),a,b] (t:=wX) (by decide);refine vh hS (v':= .int .i64 (MV C.th.toNat C.sl.toNat C.lo.toNat C.bu.toNat ((n:Int),an,bn))) ?_ (JB w)
               rw [faa C Jo (n:Int) an bn (by omega)];exact Yc R q1 (q2.trans (dAt Jo hC (yb _) hda hdb))
         . cases hg
       . cases hg
     . cases hg
   . cases hg
 . cases hg
end
end Sk
end Go.Proofs.YtfnkmolffhfpoaaGreat
