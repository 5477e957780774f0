/- -/
import Derived.Test.YtfnkmolffhfpoaaGreatHb26
import Derived.Test.YtfnkmolffhfpoaaGreatHb28
set_option linter.unusedVariables false
set_option linter.unusedSimpArgs false
namespace Go.Proofs.YtfnkmolffhfpoaaGreat
open Go.RowKit
theorem Hl(x y:Nm)(t:List Nm)(i:Nat):Kb x (y::t) i=if y=x then some i else Kb x t (i+1):=rfl
theorem Bt(x:Nm):∀(l:List Nm) (i:Nat),Kb x l i=(Kb x l 0).map (i+·)
 |[],i=>rfl
 |y::t,i=>by
  unfold Kb;by_cases h:y=x
  . rw [if_pos h,if_pos h];simp
  . rw [if_neg h,if_neg h,Bt x t (i+1),Bt x t (0+1)];cases Kb x t 0 with
    |none=>rfl
    |some j=>simp;omega
theorem Mk(x:Nm):∀(l m:List Nm) (i:Nat),Kb x (l++m) i=match Kb x l i with|some j=>some j|none=>Kb x m (i+l.length)
 |[],m,i=>by simp [Kb]
 |y::t,m,i=>by
  rw [List.cons_append,Hl,Hl];by_cases h:y=x
  . rw [if_pos h,if_pos h]
  . rw [if_neg h,if_neg h,Mk x t m (i+1)];rw [show i+1+t.length=i+(y::t).length by simp;omega]
theorem Hf(x:Nm)(l:List Nm)(i:Nat)(h:∀y,y∈l->y.1≠x.1):Kb x l i=none:=by
 refine Gl x l i fun k hk e=> ?_
 exact h x (List.mem_of_getElem? e) rfl
theorem Ad{x:Nm}{l m:List Nm}{i j:Nat}(h:Kb x l i=some j):Kb x (l++m) i=some j:=by rw [Mk,h]
theorem xb{x:Nm}{l m:List Nm}{i:Nat}(h:Kb x l i=none):Kb x (l++m) i=Kb x m (i+l.length):=by rw [Mk,h]
theorem Io(f:Nat->List Nm)(m:Nat)(hm:∀t,(f t).length=m):∀k,((List.range k).flatMap f).length=m*k
 |0=>by simp
 |k+1=>by rw [List.range_succ,List.flatMap_append,List.length_append,Io f m hm k];simp [hm,Nat.mul_succ]
theorem Ae(x:Nm)(f:Nat->List Nm)(h:∀t j,Kb x (f t) j=none):∀(k i:Nat),Kb x ((List.range k).flatMap f) i=none
 |0,i=>rfl
 |k+1,i=>by
  rw [List.range_succ,List.flatMap_append,xb (Ae x f h k i)];simp [h]
theorem Cg(x:Nm)(f:Nat->List Nm)(m t0 q:Nat)(hm:∀t,(f t).length=m)(h1:∀j,Kb x (f t0) j=some (j+q))(h2:∀t,t≠t0->∀j,Kb x (f t) j=none):∀(k i:Nat),Kb x ((List.range k).flatMap f) i=if t0<k then some (i+m*t0+q)else none
 |0,i=>by simp [Kb]
 |k+1,i=>by
  have ih:=Cg x f m t0 q hm h1 h2 k i;rw [List.range_succ,List.flatMap_append];by_cases h:t0<k
  . rw [if_pos h]at ih;rw [Ad ih,if_pos (by omega)]
  . rw [if_neg h]at ih;rw [xb ih,Io f m hm];simp only [List.flatMap_cons,List.flatMap_nil,List.append_nil];by_cases e:t0=k
    . subst e;rw [h1,if_pos (by omega)]
    . rw [h2 k (fun q=>e q.symm),if_neg (by omega)]
theorem Pj(x:Nm)(n i:Nat)(h:x.1≠0):Kb x (Jd n) i=none:=
 Hf x _ i fun y hy=>by
  unfold Jd at hy;rw [(List.mem_replicate.1 hy).2];exact fun e=>h e.symm
theorem SE(kind:Int)(k:Nat):xd kind k=(List.range k).flatMap fun(i:Nat)=>[(kind,(i:Int),0)]:=by
 unfold xd;rw [List.map_eq_flatMap]
theorem gg(x y:Nm)(j:Nat):Kb x [y] j=if y=x then some j else none:=by unfold Kb;rfl
theorem Fp(kind a b:Int)(k i:Nat):Kb (kind,a,b) (xd kind k) i=if b=0/\0<=a/\a<k then some (i+a.toNat)else none:=by
 rw [SE];by_cases h:b=0/\0<=a
 . obtain ⟨rfl,ha⟩:=h;obtain ⟨t0,rfl⟩:=Int.eq_ofNat_of_zero_le ha;rw [Cg _ _ 1 t0 0 (fun t=>rfl) (fun j=>by rw [gg,if_pos rfl];rfl) (fun t ht j=>by
    rw [gg,if_neg];intro e;simp only [Prod.mk.injEq]at e;omega)]
   by_cases hk:t0<k
   . rw [if_pos hk,if_pos ⟨rfl,ha,by omega⟩];simp
   . rw [if_neg hk,if_neg (fun q=>hk (by have:=q.2.2;omega))]
 . rw [Ae,if_neg (fun q=>h ⟨q.1,q.2.1⟩)];intro t j;rw [gg,if_neg];intro e;simp only [Prod.mk.injEq]at e;exact h ⟨e.2.2.symm,by omega⟩
def zx(t:Nat):List Nm:=[((6:Int),(t:Int),(0:Int)),(7,t,0)]++Jd 6
theorem Lc(k:Nat):Ca k=(List.range k).flatMap zx:=rfl
theorem Ct(x y z:Nm)(l:List Nm)(j:Nat):Kb x ([y,z]++l) j=if y=x then some j else if z=x then some (j+1)else Kb x l (j+2):=by
 show Kb x (y::z::l) j=_
 rw [Hl,Hl]
theorem TE(q:Nat)(hq:q<2)(a b:Int)(k i:Nat):Kb (6+(q:Int),a,b) (Ca k) i=if b=0/\0<=a/\a<k then some (i+8*a.toNat+q)else none:=by
 rw [Lc];have hz:∀(t j:Nat),Kb (6+(q:Int),a,b) (Jd 6) j=none:=fun t j=>Pj _ _ _ (by show(6+(q:Int))≠0;omega)
 by_cases h:b=0/\0<=a
 . obtain ⟨rfl,ha⟩:=h;obtain ⟨t0,rfl⟩:=Int.eq_ofNat_of_zero_le ha;rw [Cg _ _ 8 t0 q (fun t=>rfl) (fun j=>by
    unfold zx;rw [Ct]
    match q,hq with
    |0,_=>rw [if_pos (by rfl)];rfl
    |1,_=>rw [if_neg (by simp),if_pos (by rfl)]) (fun t ht j=>by
    unfold zx;rw [Ct,if_neg,if_neg,hz t]
    . intro e;simp only [Prod.mk.injEq]at e;omega
    . intro e;simp only [Prod.mk.injEq]at e;omega)]
   by_cases hk:t0<k
   . rw [if_pos hk,if_pos ⟨rfl,ha,by omega⟩];simp
   . rw [if_neg hk,if_neg (fun q=>hk (by have:=q.2.2;omega))]
 . rw [Ae,if_neg (fun q=>h ⟨q.1,q.2.1⟩)];intro t j;unfold zx;rw [Ct,if_neg,if_neg,hz t]
   . intro e;simp only [Prod.mk.injEq]at e;exact h ⟨e.2.2.symm,by omega⟩
   . intro e;simp only [Prod.mk.injEq]at e;exact h ⟨e.2.2.symm,by omega⟩
theorem QM(t0:Nat)(a b:Int)(k i:Nat):Kb (8,a,b) (Ol t0 k) i=if a=t0/\0<=b/\b<k then some (i+b.toNat)else none:=by
 have e:Ol t0 k=(List.range k).flatMap fun(i:Nat)=>[((8:Int),(t0:Int),(i:Int))]:=by unfold Ol;rw [List.map_eq_flatMap]
 rw [e];by_cases h:a=t0/\0<=b
 . obtain ⟨rfl,hb⟩:=h;obtain ⟨n,rfl⟩:=Int.eq_ofNat_of_zero_le hb;rw [Cg _ _ 1 n 0 (fun t=>rfl) (fun j=>by rw [gg,if_pos rfl];rfl) (fun t ht j=>by
    rw [gg,if_neg];intro e;simp only [Prod.mk.injEq]at e;omega)]
   by_cases hk:n<k
   . rw [if_pos hk,if_pos ⟨rfl,hb,by omega⟩];simp
   . rw [if_neg hk,if_neg (fun q=>hk (by have:=q.2.2;omega))]
 . rw [Ae,if_neg (fun q=>h ⟨q.1,q.2.1⟩)];intro t j;rw [gg,if_neg];intro e;simp only [Prod.mk.injEq]at e;exact h ⟨e.2.1.symm,by omega⟩
theorem RM(t k:Nat):(Ol t k).length=k:=by unfold Ol;simp
theorem Zm(k:Nat):(Jd k).length=k:=by unfold Jd;simp
def UE(Ta t:Nat):List Nm:=Ol t Ta++Jd (Hd Ta -Ta)
theorem KC(Ta k:Nat):Dh Ta k=(List.range k).flatMap (UE Ta):=rfl
theorem SM(n:Nat):n<=Hd n:=by unfold Hd;omega
theorem LC(Ta t:Nat):(UE Ta t).length=Hd Ta:=by
 unfold UE;rw [List.length_append,RM,Zm];have:=SM Ta;omega
theorem Gp(Ta t:Nat)(a b:Int)(j:Nat):Kb (8,a,b) (UE Ta t) j=if a=t/\0<=b/\b<Ta then some (j+b.toNat)else none:=by
 unfold UE;have h1:=QM t a b Ta j;by_cases h:a=t/\0<=b/\b<Ta
 . rw [if_pos h]at h1⊢;exact Ad h1
 . rw [if_neg h]at h1⊢;rw [xb h1];exact Pj _ _ _ (by show(8:Int)≠0;omega)
theorem qJ(a b:Int)(Ta k i:Nat):Kb (8,a,b) (Dh Ta k) i=if(0<=b/\b<Ta)/\0<=a/\a<k then some (i+Hd Ta*a.toNat+b.toNat)else none:=by
 rw [KC];by_cases h:(0<=b/\b<Ta)/\0<=a
 . obtain ⟨hb,ha⟩:=h;obtain ⟨t0,rfl⟩:=Int.eq_ofNat_of_zero_le ha;rw [Cg _ _ (Hd Ta) t0 b.toNat (fun t=>LC _ _) (fun j=>by rw [Gp,if_pos ⟨rfl,hb⟩]) (fun t ht j=>by
    rw [Gp,if_neg];intro e;omega)]
   by_cases hk:t0<k
   . rw [if_pos hk,if_pos ⟨hb,ha,by omega⟩];simp
   . rw [if_neg hk,if_neg (fun q=>hk (by have:=q.2.2;omega))]
 . rw [Ae,if_neg (fun q=>h ⟨q.1,q.2.1⟩)];intro t j;rw [Gp,if_neg];intro e;exact h ⟨e.2,by omega⟩
def MC(s:Nat):List Nm:=Wg s 5++Jd 3
theorem Bx(k:Nat):ag k=(List.range k).flatMap MC:=rfl
theorem rJ(t k:Nat):(Wg t k).length=k:=by unfold Wg;simp
theorem sJ(q s k:Nat)(a b:Int)(i:Nat):Kb (9+(q:Int),a,b) (Wg s k) i=if b=0/\a=s/\q<k then some (i+q)else none:=by
 have e:Wg s k=(List.range k).flatMap fun(i:Nat)=>[(9+(i:Int),(s:Int),(0:Int))]:=by unfold Wg;rw [List.map_eq_flatMap]
 rw [e];by_cases h:b=0/\a=s
 . obtain ⟨rfl,rfl⟩:=h;rw [Cg _ _ 1 q 0 (fun t=>rfl) (fun j=>by rw [gg,if_pos rfl];rfl) (fun t ht j=>by
    rw [gg,if_neg];intro e;simp only [Prod.mk.injEq]at e;omega)]
   by_cases hk:q<k
   . rw [if_pos hk,if_pos ⟨rfl,rfl,hk⟩];simp
   . rw [if_neg hk,if_neg (fun q=>hk q.2.2)]
 . rw [Ae,if_neg (fun q=>h ⟨q.1,q.2.1⟩)];intro t j;rw [gg,if_neg];intro e;simp only [Prod.mk.injEq]at e;exact h ⟨e.2.2.symm,by omega⟩
theorem cn(q s:Nat)(hq:q<5)(a b:Int)(j:Nat):Kb (9+(q:Int),a,b) (MC s) j=if b=0/\a=s then some (j+q)else none:=by
 unfold MC;have h1:=sJ q s 5 a b j;by_cases h:b=0/\a=s
 . rw [if_pos ⟨h.1,h.2,hq⟩]at h1;rw [if_pos h];exact Ad h1
 . rw [if_neg (fun q=>h ⟨q.1,q.2.1⟩)]at h1;rw [if_neg h,xb h1];exact Pj _ _ _ (by show(9+(q:Int))≠0;omega)
theorem VE(q:Nat)(hq:q<5)(a b:Int)(k i:Nat):Kb (9+(q:Int),a,b) (ag k) i=if b=0/\0<=a/\a<k then some (i+8*a.toNat+q)else none:=by
 rw [Bx];by_cases h:b=0/\0<=a
 . obtain ⟨rfl,ha⟩:=h;obtain ⟨t0,rfl⟩:=Int.eq_ofNat_of_zero_le ha;rw [Cg _ _ 8 t0 q (fun t=>by unfold MC;rw [List.length_append,rJ,Zm]) (fun j=>by rw [cn q t0 hq,if_pos ⟨rfl,rfl⟩]) (fun t ht j=>by
    rw [cn q t hq,if_neg];intro e;omega)]
   by_cases hk:t0<k
   . rw [if_pos hk,if_pos ⟨rfl,ha,by omega⟩];simp
   . rw [if_neg hk,if_neg (fun q=>hk (by have:=q.2.2;omega))]
 . rw [Ae,if_neg (fun q=>h ⟨q.1,q.2.1⟩)];intro t j;rw [cn q t hq,if_neg];intro e;exact h ⟨e.1,by omega⟩
theorem NC:∀y,y∈Lf->y.1<=4:=by decide
theorem Dt:Lf.length=40:=by decide
theorem Cx(kind:Int)(k:Nat):(xd kind k).length=k:=by unfold xd;simp
theorem Vi{kind:Int}{k:Nat}{y:Nm}(h:y∈xd kind k):y.1=kind:=by
 unfold xd at h;obtain ⟨i,_,rfl⟩:=List.mem_map.1 h
 rfl
theorem Qj{k:Nat}{y:Nm}(h:y∈Jd k):y.1=0:=by
 unfold Jd at h;rw [(List.mem_replicate.1 h).2]
theorem Et{k:Nat}{y:Nm}(h:y∈Ca k):y.1=6\/y.1=7\/y.1=0:=by
 rw [Lc]at h;obtain ⟨t,_,h⟩:=List.mem_flatMap.1 h
 unfold zx at h;rcases List.mem_append.1 h with h|h
 . simp only [List.mem_cons,List.not_mem_nil,or_false]at h;rcases h with rfl|rfl
   . exact .inl rfl
   . exact .inr (.inl rfl)
 . exact .inr (.inr (Qj h))
theorem tJ{Ta k:Nat}{y:Nm}(h:y∈Dh Ta k):y.1=8\/y.1=0:=by
 rw [KC]at h;obtain ⟨t,_,h⟩:=List.mem_flatMap.1 h
 unfold UE at h;rcases List.mem_append.1 h with h|h
 . unfold Ol at h;obtain ⟨i,_,rfl⟩:=List.mem_map.1 h
   exact .inl rfl
 . exact .inr (Qj h)
theorem WE{k:Nat}{y:Nm}(h:y∈ag k):(9<=y.1/\y.1<=13)\/y.1=0:=by
 rw [Bx]at h;obtain ⟨t,_,h⟩:=List.mem_flatMap.1 h
 unfold MC at h;rcases List.mem_append.1 h with h|h
 . unfold Wg at h;obtain ⟨i,hi,rfl⟩:=List.mem_map.1 h
   have:=List.mem_range.1 hi
   exact .inl ⟨by show(9:Int)<=9+(i:Int);omega,by show 9+(i:Int)<=13;omega⟩
 . exact .inr (Qj h)
theorem Ft(k:Nat):(Ca k).length=8*k:=Io zx 8 (fun t=>rfl) k
theorem uJ(Ta k:Nat):(Dh Ta k).length=Hd Ta*k:=Io (UE Ta) (Hd Ta) (fun t=>LC Ta t) k
theorem XE(bu:Nat):(Cc (40+bu) (Lf++xd 5 bu)).length=Hd (40+bu):=by
 unfold Cc;rw [List.length_append,List.length_append,Dt,Cx,Zm];have:=SM (40+bu);omega
theorem YE{bu:Nat}{y:Nm}(h:y∈Cc (40+bu) (Lf++xd 5 bu)):y.1<=5:=by
 unfold Cc at h;rcases List.mem_append.1 h with h|h
 . rcases List.mem_append.1 h with h|h
   . have:=NC y h;omega
   . rw [Vi h];exact Int.le_refl _
 . rw [Qj h];decide
theorem ZE(a b:Int)(bu i:Nat):Kb (5,a,b) (Cc (40+bu) (Lf++xd 5 bu)) i=if b=0/\0<=a/\a<bu then some (i+40+a.toNat)else none:=by
 unfold Cc;have h0:Kb (5,a,b) Lf i=none:=Hf _ _ _ fun y hy e=>by have:=NC y hy;have e:y.1=5:=e;omega
 have h1:Kb (5,a,b) (Lf++xd 5 bu) i=if b=0/\0<=a/\a<bu then some (i+40+a.toNat)else none:=by
  rw [xb h0,Dt,Fp]
 by_cases h:b=0/\0<=a/\a<bu
 . rw [if_pos h]at h1⊢;exact Ad h1
 . rw [if_neg h]at h1⊢;rw [xb h1];exact Pj _ _ _ (by show(5:Int)≠0;omega)
end Go.Proofs.YtfnkmolffhfpoaaGreat
namespace Go.Proofs.YtfnkmolffhfpoaaGreat
open Go.RowKit
open Sk (Bg zC)
theorem Hg{th sl Ta bu:Nat}{k a b:Int}(h:6<=k)(i:Nat):Kb (k,a,b) (Kd th sl Ta bu) 0=Kb (k,a,b) (Ca th++(Dh Ta th++ag sl)) (Hd (40+bu)):=by
 have h0:Kb (k,a,b) (Cc (40+bu) (Lf++xd 5 bu)) 0=none:=Hf _ _ _ fun y hy e=>by have:=YE hy;have e:y.1=k:=e;omega
 unfold Kd;rw [List.append_assoc,List.append_assoc,xb h0,XE,Nat.zero_add]
theorem Gt{th:Nat}{k a b:Int}(h:8<=k)(i:Nat):Kb (k,a,b) (Ca th) i=none:=
 Hf _ _ _ fun y hy e=>by have e:y.1=k:=e;rcases Et hy with q|q|q<;>omega
theorem Xq{Ta th:Nat}{k a b:Int}(h0:k≠0)(h:k≠8)(i:Nat):Kb (k,a,b) (Dh Ta th) i=none:=
 Hf _ _ _ fun y hy e=>by have e:y.1=k:=e;rcases tJ hy with q|q<;>omega
theorem Jo{sl:Nat}{k a b:Int}(h0:k≠0)(h:k<9\/13<k)(i:Nat):Kb (k,a,b) (ag sl) i=none:=
 Hf _ _ _ fun y hy e=>by have e:y.1=k:=e;rcases WE hy with q|q<;>omega
theorem ER{th sl:Nat}{k a b:Int}(h:k<=13)(i:Nat):Kb (k,a,b) (Ff th sl) i=none:=by
 refine Hf _ _ _ fun y hy e=> ?_
 have e:y.1=k:=e
 unfold Ff at hy;rcases List.mem_append.1 hy with hy|hy
 . rcases List.mem_append.1 hy with hy|hy
   . simp only [List.mem_cons,List.not_mem_nil,or_false]at hy;rcases hy with rfl|rfl
     . have:(14:Int)=k:=e;omega
     . have:(15:Int)=k:=e;omega
   . rw [Vi hy]at e;omega
 . rw [Vi hy]at e;omega
theorem WT(th sl Ta bu:Nat)(a b:Int):Kb (5,a,b) (Kd th sl Ta bu) 0=if b=0/\0<=a/\a<bu then some (40+a.toNat)else none:=by
 unfold Kd;rw [List.append_assoc,List.append_assoc];have h1:=ZE a b bu 0;rw [Nat.zero_add]at h1;by_cases h:b=0/\0<=a/\a<bu
 . rw [if_pos h]at h1⊢;exact Ad h1
 . rw [if_neg h]at h1⊢;rw [xb h1,xb (Hf _ _ _ fun y hy e=>by have e:y.1=5:=e;rcases Et hy with q|q|q<;>omega),xb (Xq (by omega) (by omega) _)];exact Jo (by omega) (by omega) _
theorem TM(th sl Ta bu q:Nat)(hq:q<2)(a b:Int):Kb (6+(q:Int),a,b) (Kd th sl Ta bu) 0=if b=0/\0<=a/\a<th then some (Hd (40+bu)+8*a.toNat+q)else none:=by
 rw [Hg (by omega) 0];have h1:=TE q hq a b th (Hd (40+bu));by_cases h:b=0/\0<=a/\a<th
 . rw [if_pos h]at h1⊢;exact Ad h1
 . rw [if_neg h]at h1⊢;rw [xb h1,xb (Xq (by omega) (by omega) _)];exact Jo (by omega) (by omega) _
theorem kad(th sl Ta bu:Nat)(a b:Int):Kb (8,a,b) (Kd th sl Ta bu) 0=if(0<=b/\b<Ta)/\0<=a/\a<th then some (Hd (40+bu)+8*th+Hd Ta*a.toNat+b.toNat)else none:=by
 rw [Hg (by omega) 0,xb (Gt (by omega) _),Ft];have h1:=qJ a b Ta th (Hd (40+bu)+8*th);by_cases h:(0<=b/\b<Ta)/\0<=a/\a<th
 . rw [if_pos h]at h1⊢;exact Ad h1
 . rw [if_neg h]at h1⊢;rw [xb h1];exact Jo (by omega) (by omega) _
theorem XT(th sl Ta bu q:Nat)(hq:q<5)(a b:Int):Kb (9+(q:Int),a,b) (Kd th sl Ta bu) 0=if b=0/\0<=a/\a<sl then some (Hd (40+bu)+8*th+Hd Ta*th+8*a.toNat+q)else none:=by
 rw [Hg (by omega) 0,xb (Gt (by omega) _),Ft,xb (Xq (by omega) (by omega) _),uJ,VE q hq]
theorem UM(th sl Ta bu:Nat)(k a b:Int)(hk:14<=k):Kb (k,a,b) (Kd th sl Ta bu) 0=none:=by
 rw [Hg (by omega) 0,xb (Gt (by omega) _),xb (Xq (by omega) (by omega) _)];exact Jo (by omega) (by omega) _
theorem CY(th sl:Nat)(a b:Int):Kb (16,a,b) (Ff th sl) 0=if b=0/\0<=a/\a<th then some (2+a.toNat)else none:=by
 unfold Ff;rw [List.append_assoc,xb (Hf _ _ _ fun y hy e=>by
  have e:y.1=16:=e
  simp only [List.mem_cons,List.not_mem_nil,or_false]at hy;rcases hy with rfl|rfl
  . have:(14:Int)=16:=e;omega
  . have:(15:Int)=16:=e;omega)]
 have h1:=Fp 16 a b th 2;by_cases h:b=0/\0<=a/\a<th
 . rw [if_pos h]at h1⊢;exact Ad h1
 . rw [if_neg h]at h1⊢;refine (xb h1).trans ?_
   exact Hf _ _ _ fun y hy e=>by have e:y.1=16:=e;rw [Vi hy]at e;omega
theorem DY(th sl:Nat)(a b:Int):Kb (17,a,b) (Ff th sl) 0=if b=0/\0<=a/\a<sl then some (2+th+a.toNat)else none:=by
 unfold Ff;rw [List.append_assoc,xb (Hf _ _ _ fun y hy e=>by
  have e:y.1=17:=e
  simp only [List.mem_cons,List.not_mem_nil,or_false]at hy;rcases hy with rfl|rfl
  . have:(14:Int)=17:=e;omega
  . have:(15:Int)=17:=e;omega),xb (Hf _ _ _ fun y hy e=>by have e:y.1=17:=e;rw [Vi hy]at e;omega),Cx]
 exact Fp 17 a b sl _
theorem Mz{last pass:List Nm}{n:Nat}{k:Nm}{c:Prop}[Decidable c]{j:Nat}{x y:Int}(h:Kb k last 0=if c then some j else none)(hp:Kb k pass 0=none)(h1:c->(j:Int)=x)(h2:¬c->(n:Int)=y):DG last pass n k=if c then x else y:=by
 unfold DG;by_cases hc:c
 . rw [if_pos hc]at h⊢;rw [h];exact h1 hc
 . rw [if_neg hc]at h⊢;rw [h,hp];exact h2 hc
theorem RG{last pass:List Nm}{n:Nat}{k:Nm}{c:Prop}[Decidable c]{j:Nat}{x y:Int}(h:Kb k last 0=none)(hp:Kb k pass 0=if c then some j else none)(h1:c->-1 -(j:Int)=x)(h2:¬c->(n:Int)=y):DG last pass n k=if c then x else y:=by
 unfold DG;rw [h];by_cases hc:c
 . rw [if_pos hc]at hp⊢;rw [hp];exact h1 hc
 . rw [if_neg hc]at hp⊢;rw [hp];exact h2 hc
theorem EY{last pass:List Nm}{n:Nat}{k:Nm}(h:Kb k last 0=none)(hp:Kb k pass 0=none):DG last pass n k=n:=by
 unfold DG;rw [h,hp]
theorem lad(n:Nat):(Hd n:Int)=8*jb n:=by unfold Hd jb;omega
theorem FY(n:Nat):(Hd (40+n):Int)=40+8*jb n:=by unfold Hd jb;omega
theorem Nz(th sl lo bu k a b:Int):zC (Dc.lv ⟨th,sl,lo,bu⟩) k a b=
 if k=8 then(if hasB b lo then(Dc.lv ⟨th,sl,lo,bu⟩).word a th (Dc.lv ⟨th,sl,lo,bu⟩).pl (Dc.lv ⟨th,sl,lo,bu⟩).ls b else(Dc.lv ⟨th,sl,lo,bu⟩).ln*8)
 else if b≠0 then(Dc.lv ⟨th,sl,lo,bu⟩).ln*8
 else if k=5 then(if hasB a bu then 40+a else(Dc.lv ⟨th,sl,lo,bu⟩).ln*8)
 else if k=6 then(Dc.lv ⟨th,sl,lo,bu⟩).word a th (Dc.lv ⟨th,sl,lo,bu⟩).pt 1 0
 else if k=7 then(Dc.lv ⟨th,sl,lo,bu⟩).word a th (Dc.lv ⟨th,sl,lo,bu⟩).pt 1 1
 else if k=16 then(if hasB a th then-3 -a else(Dc.lv ⟨th,sl,lo,bu⟩).ln*8)
 else if k=17 then(if hasB a sl then-3 -th -a else(Dc.lv ⟨th,sl,lo,bu⟩).ln*8)
 else if 9<=k/\k<=13 then(Dc.lv ⟨th,sl,lo,bu⟩).slot a (k -9)else 0:=rfl
theorem GY(th sl lo bu a b:Int):zC (Dc.lv ⟨th,sl,lo,bu⟩) 16 a b=if b=0 then(if hasB a th then-3 -a else(Dc.lv ⟨th,sl,lo,bu⟩).ln*8)else(Dc.lv ⟨th,sl,lo,bu⟩).ln*8:=by
 rw [Nz,if_neg (by decide:¬(16:Int)=8)];by_cases b0:b=0
 . rw [if_neg (fun q=>q b0),if_neg (by decide:¬(16:Int)=5),if_neg (by decide:¬(16:Int)=6),if_neg (by decide:¬(16:Int)=7),if_pos (rfl:(16:Int)=16),if_pos b0]
 . rw [if_pos b0,if_neg b0]
theorem IY(th sl lo bu a b:Int):zC (Dc.lv ⟨th,sl,lo,bu⟩) 17 a b=if b=0 then(if hasB a sl then-3 -th -a else(Dc.lv ⟨th,sl,lo,bu⟩).ln*8)else(Dc.lv ⟨th,sl,lo,bu⟩).ln*8:=by
 rw [Nz,if_neg (by decide:¬(17:Int)=8)];by_cases b0:b=0
 . rw [if_neg (fun q=>q b0),if_neg (by decide:¬(17:Int)=5),if_neg (by decide:¬(17:Int)=6),if_neg (by decide:¬(17:Int)=7),if_neg (by decide:¬(17:Int)=16),if_pos (rfl:(17:Int)=17),if_pos b0]
 . rw [if_pos b0,if_neg b0]
theorem JY(c:Dc)(h:Bg c)(k a b:Int)(hk:(5<=k/\k<=13)\/k=16\/k=17):nR c.th.toNat c.sl.toNat c.lo.toNat c.bu.toNat (k,a,b)=zC c.lv k a b:=by
 obtain ⟨ith,isl,ilo,ibu⟩:=c;obtain ⟨h1,h2,h3,h4,h5,h6,h7,h8⟩:=h;simp only at*;obtain ⟨th,rfl⟩:=Int.eq_ofNat_of_zero_le (show 0<=ith by omega);obtain ⟨sl,rfl⟩:=Int.eq_ofNat_of_zero_le (show 0<=isl by omega);obtain ⟨lo,rfl⟩:=Int.eq_ofNat_of_zero_le (show 0<=ilo by omega);obtain ⟨bu,rfl⟩:=Int.eq_ofNat_of_zero_le (show 0<=ibu by omega);simp only [Int.toNat_natCast];have e1:=FY bu;have e2:=lad lo;have e3:((Hd lo*th:Nat):Int)=8*((th:Int)*jb lo):=by
  rw [Int.natCast_mul,e2,Int.mul_assoc,Int.mul_comm (jb lo)]
 have KY:((Hd (40+bu)+8*th+Hd lo*th+8*sl:Nat):Int)=(Dc.lv ⟨th,sl,lo,bu⟩).ln*8:=by
  show _=(5+jb bu+th+th*jb lo+sl)*8
  simp only [Int.natCast_add,e1,e3];omega
 unfold nR;generalize hn:Hd (40+bu)+8*th+Hd lo*th+8*sl=n at*;have hb:∀x m:Int,hasB x m=true<->0<=x/\x<m:=fun x m=>by unfold hasB;exact decide_eq_true_iff
 rcases hk with⟨k1,k2⟩|rfl|rfl
 . have hp:=ER (th:=th) (sl:=sl) (a:=a) (b:=b) k2 0;by_cases k8:k=8
   . subst k8;have:=Mz (n:=n) (x:=(Dc.lv ⟨th,sl,lo,bu⟩).word a th (Dc.lv ⟨th,sl,lo,bu⟩).pl (Dc.lv ⟨th,sl,lo,bu⟩).ls b) (y:=(Dc.lv ⟨th,sl,lo,bu⟩).ln*8) (kad th sl lo bu a b) hp (fun q=>by
      unfold Lv.word;rw [if_pos ((hb _ _).2 q.2)];obtain ⟨x,rfl⟩:=Int.eq_ofNat_of_zero_le q.2.1
      obtain ⟨y,rfl⟩:=Int.eq_ofNat_of_zero_le q.1.1
      show _=(5+jb bu+th+jb lo*x)*8+y
      simp only [Int.toNat_natCast,Int.natCast_add,Int.natCast_mul,e1,e2];rw [Int.mul_assoc];omega) (fun _=>KY)
     refine this.trans ?_
     rw [Nz];rw [if_pos rfl];by_cases q:0<=b/\b<lo
     . rw [if_pos ((hb b _).2 q)];by_cases q2:0<=a/\a<th
       . rw [if_pos ⟨q,q2⟩]
       . rw [if_neg (fun z=>q2 z.2)]
         show _=Lv.word _ _ _ _ _ _
         unfold Lv.word;rw [if_neg (fun z=>q2 ((hb a _).1 z))]
     . rw [if_neg (fun z=>q z.1),if_neg (fun z=>q ((hb b _).1 z))]
   . rw [Nz];rw [if_neg k8];by_cases b0:b=0
     . subst b0;rw [if_neg (by omega)];by_cases k5:k=5
       . subst k5;rw [if_pos rfl];refine (Mz (n:=n) (x:=40+a) (y:=(Dc.lv ⟨th,sl,lo,bu⟩).ln*8) (WT th sl lo bu a 0) hp (fun q=>by omega) (fun _=>KY)).trans ?_
         by_cases q:0<=a/\a<bu
         . rw [if_pos ⟨rfl,q⟩,if_pos ((hb a _).2 q)]
         . rw [if_neg (fun z=>q z.2),if_neg (fun z=>q ((hb a _).1 z))]
       . rw [if_neg k5];by_cases k67:k<=7
         . obtain ⟨q0,YT,rfl⟩:∃q:Nat,q<2/\k=6+(q:Int):=⟨(k -6).toNat,by omega,by omega⟩;refine (Mz (n:=n) (x:=(5+jb bu+1*a)*8+q0) (y:=(Dc.lv ⟨th,sl,lo,bu⟩).ln*8) (TM th sl lo bu q0 YT a 0) hp (fun q=>by
            obtain ⟨x,rfl⟩:=Int.eq_ofNat_of_zero_le q.2.1
            simp only [Int.toNat_natCast,Int.natCast_add,Int.natCast_mul,e1];omega) (fun _=>KY)).trans ?_
           have key:(if(0:Int)=0/\0<=a/\a<th then(5+jb bu+1*a)*8+(q0:Int)else(Dc.lv ⟨th,sl,lo,bu⟩).ln*8)=(Dc.lv ⟨th,sl,lo,bu⟩).word a th (Dc.lv ⟨th,sl,lo,bu⟩).pt 1 q0:=by
            unfold Lv.word;by_cases q:0<=a/\a<th
            . rw [if_pos ⟨rfl,q⟩,if_pos ((hb a _).2 q)];rfl
            . rw [if_neg (fun z=>q z.2),if_neg (fun z=>q ((hb a _).1 z))]
           rw [key]
           match q0,YT with
           |0,_=>rw [if_pos (by rfl)];rfl
           |1,_=>rw [if_neg (by decide),if_pos (by rfl)];rfl
         . rw [if_neg (by omega),if_neg (by omega),if_neg (by omega),if_neg (by omega),if_pos (by omega)];obtain ⟨q0,YT,rfl⟩:∃q:Nat,q<5/\k=9+(q:Int):=⟨(k -9).toNat,by omega,by omega⟩;refine (Mz (n:=n) (x:=(5+jb bu+th+th*jb lo+1*a)*8+q0) (y:=(Dc.lv ⟨th,sl,lo,bu⟩).ln*8) (XT th sl lo bu q0 YT a 0) hp (fun q=>by
            obtain ⟨x,rfl⟩:=Int.eq_ofNat_of_zero_le q.2.1
            simp only [Int.toNat_natCast,Int.natCast_add,e1,e3];omega) (fun _=>KY)).trans ?_
           rw [show 9+(q0:Int) -9=q0 by omega]
           show _=(Dc.lv ⟨th,sl,lo,bu⟩).word a sl (Dc.lv ⟨th,sl,lo,bu⟩).ps 1 q0
           unfold Lv.word;by_cases q:0<=a/\a<sl
           . rw [if_pos ⟨rfl,q⟩,if_pos ((hb a _).2 q)];rfl
           . rw [if_neg (fun z=>q z.2),if_neg (fun z=>q ((hb a _).1 z))]
     . rw [if_pos b0];have:Kb (k,a,b) (Kd th sl lo bu) 0=none:=by
        by_cases k5:k=5
        . subst k5;rw [WT,if_neg (fun z=>b0 z.1)]
        . by_cases k67:k<=7
          . obtain ⟨q0,YT,rfl⟩:∃q:Nat,q<2/\k=6+(q:Int):=⟨(k -6).toNat,by omega,by omega⟩;rw [TM _ _ _ _ _ YT,if_neg (fun z=>b0 z.1)]
          . obtain ⟨q0,YT,rfl⟩:∃q:Nat,q<5/\k=9+(q:Int):=⟨(k -9).toNat,by omega,by omega⟩;rw [XT _ _ _ _ _ YT,if_neg (fun z=>b0 z.1)]
       rw [EY this hp];exact KY
 . refine (RG (n:=n) (x:=-3 -a) (y:=(Dc.lv ⟨th,sl,lo,bu⟩).ln*8) (UM th sl lo bu 16 a b (by omega)) (CY th sl a b) (fun q=>by omega) (fun _=>KY)).trans ?_
   rw [GY];by_cases b0:b=0
   . subst b0;rw [if_pos (rfl:(0:Int)=0)];by_cases q:0<=a/\a<th
     . rw [if_pos ⟨rfl,q⟩,if_pos ((hb a _).2 q)]
     . rw [if_neg (fun z=>q z.2),if_neg (fun z=>q ((hb a _).1 z))]
   . rw [if_neg (fun z=>b0 z.1),if_neg b0]
 . refine (RG (n:=n) (x:=-3 -(th:Int) -a) (y:=(Dc.lv ⟨th,sl,lo,bu⟩).ln*8) (UM th sl lo bu 17 a b (by omega)) (DY th sl a b) (fun q=>by omega) (fun _=>KY)).trans ?_
   rw [IY];by_cases b0:b=0
   . subst b0;rw [if_pos (rfl:(0:Int)=0)];by_cases q:0<=a/\a<sl
     . rw [if_pos ⟨rfl,q⟩,if_pos ((hb a _).2 q)]
     . rw [if_neg (fun z=>q z.2),if_neg (fun z=>q ((hb a _).1 z))]
   . rw [if_neg (fun z=>b0 z.1),if_neg b0]
theorem aF:Kb (2,0,0) Lf 0=some 16/\Kb (3,0,0) Lf 0=some 24/\Kb (4,0,0) Lf 0=some 32:=by decide
theorem Ht{n i:Nat}(h:Kb ((n:Int),0,0) Lf 0=some i)(th sl lo bu:Nat):nR th sl lo bu ((n:Int),0,0)=i:=by
 have:Kb ((n:Int),0,0) (Kd th sl lo bu) 0=some i:=by
  unfold Kd Cc;exact Ad (Ad (Ad (Ad (Ad h))))
 unfold nR DG;rw [this]
end Go.Proofs.YtfnkmolffhfpoaaGreat
