/- -/
import Derived.Test.YtfnkmolffhfpoaaGreatHp30
import Derived.Test.YtfnkmolffhfpoaaGreatHp31
import Derived.Test.YtfnkmolffhfpoaaGreatHp25
import Derived.Test.YtfnkmolffhfpoaaGreatHp17
import Derived.Test.YtfnkmolffhfpoaaGreatHp18
set_option linter.unusedVariables false
set_option linter.unusedSimpArgs false
set_option linter.unusedSectionVars false
namespace Go.Proofs.YtfnkmolffhfpoaaGreat
namespace Sk
open Go.RowKit
theorem mQ(A:Rv)(k t a o x:Int):((pf A k t a o x).ck<=A.ck+1/\(pf A k t a o x).wm<=A.wm+1)/\(pf A k t a o x).np=A.np:=by
 have hd:∀(y:Acc) (nw:Int) (pu:Bool),((A.Ye y nw pu).ck<=A.ck+1/\(A.Ye y nw pu).wm<=A.wm+1)/\(A.Ye y nw pu).np=A.np:=fun y nw pu=>by
  obtain ⟨h1,h2,h3⟩:=Sx A y nw pu;exact ⟨⟨by omega,by omega⟩,Fv _ _ _ _⟩
 unfold pf
 split
 . exact hd _ _ _
 . split
   . exact hd _ _ _
   . split
     . exact hd _ _ _
     . split
       . obtain ⟨h1,h2,h3⟩:=bt A t a;exact ⟨⟨by omega,by omega⟩,AB _ _ _⟩
       . split
         . obtain ⟨h1,h2,h3⟩:=wB A t;exact ⟨⟨by omega,by omega⟩,BB _ _⟩
         . split
           . split
             . unfold Rv.Tj;exact ⟨⟨by show A.ck<=A.ck+1;omega,by show A.wm+1<=A.wm+1;omega⟩,rfl⟩
             . exact ⟨⟨by omega,by omega⟩,rfl⟩
           . unfold Rv.crashed Rv.Xe Rv.Rn Rv.back Rv.gone;exact ⟨⟨by show A.ck<=A.ck+1;omega,by show A.wm<=A.wm+1;omega⟩,rfl⟩
theorem Wah{A:Rv}(h:Wd A)(hc:A.ck<=999900)(hw:A.wm<=999900)(k t a o x:Int)(hx:ud x):Wd (pf A k t a o x):=by
 unfold pf
 split
 . exact h.Ye _ _ (by omega) u0
 . split
   . exact h.Ye _ _ (by omega) hx
   . split
     . exact h.Ye _ _ (by omega) hx
     . split
       . exact h.Ka _ _ (by omega)
       . split
         . exact h.Ma _ (by omega) (by omega)
         . split
           . split
             . exact h.jH _ (by omega)
             . exact h
           . exact h.crashed
section
variable{tab:List Vc}{W:World}{p q m r l:Nat}{A:Rv}{c:Xc}{S:Shape}{ρ:Nat->Int}{γ:Nat->Gh}{B:Nat->Prop}{w0:World}{R:Mp}{w:World}
theorem We.grow(Vg:Gi tab=true)(h:We tab W p q m r l A c S ρ γ B w0 R w){w':World}(hb:Below w.heap.size w w'):We tab W p q m r l A c S ρ γ B w0 R w':=by
 obtain ⟨h1,h2,h3⟩:=On Vg h.tab;obtain ⟨s2,e2⟩:=h.r2;obtain ⟨s3,e3⟩:=h.r3;obtain ⟨M,N,i1,i2,i3,i4,i5,i6,i7,i8,i9,i10,i11,back⟩:=h.ins.mem h1 e2 e3 h2 h3;refine {h with ins:=back w' γ M N (fun _ _=>rfl) (i1.below hb) i2 i3 i4 (i5.below hb) i6 i7 (fun k hk=> .inl hk) (fun k hk=>hk) ⟨hb.os,hb.tape,hb.output,hb.size,fun k hk _=>hb.block k hk⟩}
theorem nQ(Vg:Gi tab=true){w:World}(h:ai tab W p q m r l A c S ρ γ B w0 w):
  Calls Tryz.prog 14 #[.pointer (some ⟨m,0,none⟩), .pointer (some ⟨r,0,none⟩)] w fun e w'=>e= .returned (.bool true)/\ai tab W p q m r l A c S ρ γ B w0 w':=by
 obtain ⟨R,h⟩:=h;obtain ⟨h1,h2,h3⟩:=On Vg h.tab;obtain ⟨s2,e2⟩:=h.r2;obtain ⟨s3,e3⟩:=h.r3;obtain ⟨M,N,i1,i2,i3,i4,i5,i6,i7,-⟩:=h.ins.mem h1 e2 e3 h2 h3;have hal:Alike M N:=by
  have a:=i3.Md;exact ⟨a.n.trans i7.n.symm,a.nt.trans i7.nt.symm,a.np.trans i7.np.symm,fun k hk=>by rw [i7.seen];exact a.seen k hk,fun k hk=>by rw [i7.kept];exact a.kept k hk,fun k hk=>by rw [i7.pass];exact a.pass k hk,fun t ht j hj=>by rw [i7.fl];exact a.fl t ht j hj,a.ck.trans i7.ck.symm,a.bd.trans i7.bd.symm,a.la.trans i7.la.symm⟩
 have:=iah M N w i1 i5 hal;rw [i2,i6]at this;exact this.mono fun e w' hh=>⟨hh.1,R,h.grow Vg hh.2⟩
theorem oQ(Vg:Gi tab=true)(h:We tab W p q m r l A c S ρ γ B w0 R w)(hc:A.ck<=999900)(hw:A.wm<=999900)(Zj:0<A.np)(k t a o x:Int)(q0:-9223372036854775808<=a)(q1:a<=9223372036854775807)(hx:ud x):
  Calls Tryz.prog 12 #[.pointer (some ⟨m,0,none⟩), .agg #[.int .i64 k, .int .i64 t, .int .i64 a, .int .u64 o, .int .u64 x]] w fun e w1=>(∃v,e= .returned v)/\Below W.heap.size W w1/\Calls Tryz.prog 13 #[.pointer (some ⟨r,0,none⟩), .agg #[.int .i64 k, .int .i64 t, .int .i64 a, .int .u64 o, .int .u64 x]] w1 fun e w2=>(∃v,e= .returned v)/\∃γ',We tab W p q m r l (pf A k t a o x) c S ρ γ' B w0 R w2:=by
 obtain ⟨h1,h2,h3⟩:=On Vg h.tab;obtain ⟨s2,e2⟩:=h.r2;obtain ⟨s3,e3⟩:=h.r3;have oq:=h.wd Vg;obtain ⟨M,N,i1,i2,i3,i4,i5,i6,i7,i8,i9,i10,i11,back⟩:=h.ins.mem h1 e2 e3 h2 h3;rw [h.ng.g0]at i3 i7;have i3:jd M A:=i3;have i7:Rb N A:=i7;have tU:=h.below;have:=naK M A k t a o x q0 q1 w i1 i3 oq hc hw (by rw [i3.Md.np];exact Zj);rw [i2]at this;refine this.mono ?_
 rintro e w1 ⟨hv,M',m1,m2,m3,m4,m5⟩;have hN1:za w1 N:=i5.keep fun k hk=>m5.block k (i5.lt hk) fun hm=>i8 k hm hk
 refine ⟨hv, ?_, ?_⟩
 . exact ⟨m5.os.trans tU.os,m5.tape.trans tU.tape,m5.output.trans tU.output,Nat.le_trans tU.size m5.size,fun j hj=>(m5.block j (Nat.lt_of_lt_of_le hj tU.size) fun hm=>by have:=h.own j (i9 j hm);omega).trans (tU.block j hj)⟩
 have:=Vah N A k t a o x q0 q1 w1 hN1 i7 hc hw;rw [i6]at this;refine this.mono ?_
 rintro e w2 ⟨hv2,N',n1,n2,n3,n4,n5⟩;have hM2:Ga w2 M':=m1.keep fun j hj=>n5.block j (m1.lt hj) fun hn=>by
  rcases m4 j hj with h|h
  . exact i8 j h hn
  . have:=i5.lt hn;omega
 have hA':(((fun i=>if i=0 then Gh.mem (pf A k t a o x)else γ i:Nat->Gh)) 0).A=pf A k t a o x:=rfl
 refine ⟨hv2,fun i=>if i=0 then Gh.mem (pf A k t a o x)else γ i,{h with ng:=⟨rfl,h.ng.g1,h.ng.Cn⟩,ins:= ?_}⟩;refine back w2 _ M' N' (fun i hi=> ?_) hM2 (m2.trans i2) m3 (Wah oq hc hw k t a o x hx) n1 (n2.trans i6) n3 m4 n4 ?_
 . show γ i=if i=0 then _ else γ i
   rw [if_neg (by omega)]
 . exact ⟨n5.os.trans m5.os,n5.tape.trans m5.tape,n5.output.trans m5.output,Nat.le_trans m5.size n5.size,fun j hj hn=>(n5.block j (Nat.lt_of_lt_of_le hj m5.size) fun hk=>hn (.inr hk)).trans (m5.block j hj fun hk=>hn (.inl hk))⟩
end
noncomputable section
def TU:List Value->Bool
 |_::u::_=>match QC u with|some j=>Nat.beq j 1|none=>false
 |_=>true
def tu(g:List Value->Bool)(S:Shape)(vs:List Value)(s:Bd):Bool:=La (g vs) (La (gM s.η) (TU s.θ))
def gS(vs:List Value):Bool:=match vs with|[.bool a, .bool b]=>TJ a b|_=>false
def gI(vs:List Value):Bool:=match vs with|[.int .i64 a, .int .i64 b]=>La (ae a 0) (ae b 0)|_=>false
def gT(vs:List Value):Bool:=
 match vs with
 |[.tuple ⟨[.agg ⟨[a,b]⟩, .int .i64 e]⟩, .tuple ⟨[.agg ⟨[a',b']⟩, .int .i64 e']⟩]=>La (ae e 0) (La (ae e' 0) (La (vi 3 a) (La (vi 6 b) (La (re 60 a a') (re 60 b b')))))
 |_=>false
def R5:List (Value×Value):=[(sy 280 [vr 3 1,Cb 1],ff),(sy 280 [Cb 8,vr 3 1],ff)]
def kF(S:Vc):List (Value×Value):=pj R5 (pj S.shape.facts Ak)
def UU:List (FuncId×List Value):=[(27,[pV, .pointer (some ⟨2,0,none⟩)]),(37,[qV, .pointer (some ⟨3,0,none⟩)])]
def Ras:List (FuncId×List Value):=[(28,[pV,opL]),(35,[qV,opL])]
def VU:List (FuncId×List Value):=[(26,[pV]),(36,[qV])]
def Gr(S:Shape):Nat:=match Uf S.Sb 1 5 with|some (.int .i64 (.ofNat n))=>n|_=>9
def At(E:Env)(S:Shape)(F:List (Value×Value))(f:FuncId)(x:Value):Option Value:=
 match runs (E.Ll F) 100000 [(f,[x])] (Rp S.Sb)with
 |some ([a],σ)=>match jM E S F σ with|true=>some a|false=>none
 |_=>none
def WU(E:Env)(S:Shape)(F:List (Value×Value)):Bool:=
 match At E S F 38 pV with
 |some (.agg ⟨[a,b]⟩)=>match At E S F 30 pV with
  |some h=>match At E S F 31 pV with
   |some n=>match At E S F 32 pV with
    |some r=>match At E S F 33 pV with
     |some u=>match At E S F 39 qV with
      |some (.agg ⟨[a',b',h',n',r',u']⟩)=>
       La (La (vi 3 a) (re 60 a a')) (La (La (vi 6 b) (re 60 b b')) (La (La (vi 3 h) (re 60 h h')) (La (La (vi 3 n) (re 60 n n')) (La (La (vi 3 r) (re 60 r r')) (La (vi 3 u) (re 60 u u'))))))
      |_=>false
     |none=>false
    |none=>false
   |none=>false
  |none=>false
 |_=>false
def opF(E:Env)(S:Shape)(F:List (Value×Value)):Bool:=
 match Uf S.Sb 1 5,Uf S.Sb 1 6,Uf S.Sb 1 7,Uf S.Sb 1 8 with
 |some (.int .i64 n),some k,some x,some y=>match At E S F 29 pV with
  |some (.tuple ⟨[.agg ⟨[k',x',y']⟩, .bool c]⟩)=>match At E S F 34 pV with
   |some (.bool d)=>match Uf S.Sb 0 2 with
    |some (.int .i64 m)=>La (ae n m) (La (TJ c (Wg (ae n 0))) (La (TJ d (ae n 4)) (La (La (vi 3 k) (re 60 k k')) (La (La (vi 6 x) (re 60 x x')) (La (vi 6 y) (re 60 y y'))))))
    |_=>false
   |_=>false
  |_=>false
 |_,_,_,_=>false
def M1(E:Env)(S:Shape)(F:List (Value×Value)):Bool:=
 match At E S F 26 pV with
 |some (.tuple ⟨[.agg ⟨[.int .i64 a, .int .u32 b]⟩, .int .i64 e]⟩)=>match At E S F 36 qV with
  |some (.tuple ⟨[.agg ⟨[.int .i64 a', .int .u32 b']⟩, .int .i64 e']⟩)=>La (La (ae a 0) (La (ae b 0) (ae e 4))) (La (ae a' 0) (La (ae b' 0) (ae e' 4)))
  |_=>false
 |_=>false
def S5(tab:List Vc)(s:Vc)(t:Tree):Bool:=
 La (Ml env 100000 UU (tu gS) (ug tab) 5 (Rp s.shape.Sb) t (kF s))
  (La (match Gr s.shape with
     |4=>Ml env 100000 VU (tu gT) (ug tab) 5 (Rp s.shape.Sb) (.leaf 0) (kF s)
     |_=>M1 env s.shape (pj s.shape.facts Ak))
    (La (WU env s.shape (pj s.shape.facts Ak)) (La (opF env s.shape (pj s.shape.facts Ak)) (match bQ s.shape with|true=>ghB s.shape|false=>false))))
end
theorem wy{ρ:Nat->Int}{γ:Nat->Gh}{θ:List Value}(h:TU θ=true):qm (T:=Th) ρ γ θ 1=ρ 1:=by
 unfold TU at h
 split at h
 . rename_i a u t
   split at h
   . rename_i j hj;rw [Va]at h;obtain rfl:=of_decide_eq_true h;unfold qm;simp only [List.getElem?_cons_succ,List.getElem?_cons_zero,hj]
   . cases h
 . rename_i hn;unfold qm;have:θ[1]?=none:=by
    match θ,hn with
    |[],_=>rfl
    |[a],_=>rfl
    |a::b::t,hn=>exact (hn a b t rfl).elim
   rw [this]
section
variable{tab:List Vc}{W:World}{p q m r l:Nat}{A:Rv}{c:Xc}{S:Shape}{ρ:Nat->Int}{γ:Nat->Gh}{B:Nat->Prop}{w0:World}{R:Mp}{w:World}
theorem pQ{f:FuncId}{x x' a:Value}(ho:At env S (pj S.facts Ak) f x=some a)(Vg:Gi tab=true)(c1:A.ck<999000)(w1:A.wm<999000)(hx:∀R w,We tab W p q m r l A c S ρ γ B w0 R w-> @VR (Th.at ρ γ) R x x'){w:World}(h:ai tab W p q m r l A c S ρ γ B w0 w):
  Calls Tryz.prog f #[x'] w fun e w'=>∃(v':Value) (R1:Mp),e= .returned v'/\ai tab W p q m r l A c S ρ γ B w0 w'/\ @VR (Th.at ρ γ) R1 a v':=by
 unfold At at ho
 split at ho
 . rename_i a' σ hr
   split at ho
   . rename_i hs;cases ho;exact eQ Vg c1 w1 hr hs hx h
   . cases ho
 . cases ho
theorem xy{k:Nat}{a a':Value}(hk:vi k a=true)(hs:re 60 a a'=true):∃x, @Sc k x/\(∀(R1:Mp) (v:Value), @VR (Th.at ρ γ) R1 a v->v=x)/\∀(R1:Mp) (v:Value), @VR (Th.at ρ γ) R1 a' v->v=x:=by
 have hka:=hk;unfold vi at hka
 split at hka
 . rename_i j hj;rw [Va]at hka;obtain rfl:=of_decide_eq_true hka;obtain ⟨x,hd,hsc⟩:= @Zr (Th.at ρ γ) _ _ hj;refine ⟨x,hsc,fun R1 v hv=> ?_,fun R1 v hv=> ?_⟩
   . have:=(WG hk hv).1
     rw [hd]at this;cases this;rfl
   . have:=(WG (cQ hk hs) hv).1
     rw [<- @Hf (Th.at ρ γ) 60 a a' hs,hd]at this;cases this;rfl
 . cases hka
end
theorem UD{tab:List Vc}{s:Vc}{t:Tree}(h:S5 tab s t=true):Ml env 100000 UU (tu gS) (ug tab) 5 (Rp s.shape.Sb) t (kF s)=true/\(Gr s.shape=4->Ml env 100000 VU (tu gT) (ug tab) 5 (Rp s.shape.Sb) (.leaf 0) (kF s)=true)/\(Gr s.shape≠4->M1 env s.shape (pj s.shape.facts Ak)=true)/\WU env s.shape (pj s.shape.facts Ak)=true/\opF env s.shape (pj s.shape.facts Ak)=true/\bQ s.shape=true/\ghB s.shape=true:=by
 unfold S5 at h;simp only [Da,Bool.and_eq_true]at h;obtain ⟨h1,h2,h3,h4,h5⟩:=h;refine ⟨h1,fun e=> ?_,fun e=> ?_,h3,h4, ?_⟩
 . rw [e]at h2;exact h2
 . split at h2
   . rename_i e2;exact absurd e2 e
   . exact h2
 . split at h5
   . rename_i e2;exact ⟨e2,h5⟩
   . cases h5
theorem Bt{paK:List Vc}:∀{tab:List Vc},Nn (fun s=>∃t,S5 paK s t=true) tab->Gi tab=true
 |[],h=>rfl
 |s::ss,h=>by
  obtain ⟨⟨t,ht⟩,h2⟩:=h;obtain ⟨-,-,-,-,-,k1,k2⟩:=UD ht;simp only [Gi,k1,k2];exact Bt h2
theorem N1{S:Shape}{n:Nat}(h:Uf S.Sb 1 5=some (.int .i64 (n:Int))):Gr S=n:=by unfold Gr;rw [h]
structure Ct(P:Program)(p q:Nat)(n k x y z1 z2 z3 z4 z5 z6:Int)(T:World->Prop):Prop where
 at_:∀w,T w->w.cell? ⟨q,5,none⟩=some (.int .i64 n)/\w.cell? ⟨q,6,none⟩=some (.int .i64 k)/\w.cell? ⟨q,7,none⟩=some (.int .u32 x)/\w.cell? ⟨q,8,none⟩=some (.int .u32 y)/\w.cell? ⟨p,2,none⟩=some (.int .i64 n)/\p<w.heap.size/\q<w.heap.size
 op:∀w,T w->Calls P 29 #[.pointer (some ⟨p,0,none⟩)] w fun e w'=>e= .returned (.tuple #[.agg #[.int .i64 k, .int .u32 x, .int .u32 y], .bool (!decide (n=0))])/\T w'
 ans:∀w,T w->Calls P 34 #[.pointer (some ⟨p,0,none⟩)] w fun e w'=>e= .returned (.bool (decide (n=4)))/\T w'
 result:∀w,T w->Calls P 38 #[.pointer (some ⟨p,0,none⟩)] w fun e w'=>e= .returned (.agg #[.int .i64 z1, .int .u32 z2])/\T w'
 holds:∀w,T w->Calls P 30 #[.pointer (some ⟨p,0,none⟩)] w fun e w'=>e= .returned (.int .i64 z3)/\T w'
 Vq:∀w,T w->Calls P 31 #[.pointer (some ⟨p,0,none⟩)] w fun e w'=>e= .returned (.int .i64 z4)/\T w'
 gy:∀w,T w->Calls P 32 #[.pointer (some ⟨p,0,none⟩)] w fun e w'=>e= .returned (.int .i64 z5)/\T w'
 writes:∀w,T w->Calls P 33 #[.pointer (some ⟨p,0,none⟩)] w fun e w'=>e= .returned (.int .i64 z6)/\T w'
 tell:∀w,T w->Calls P 39 #[.pointer (some ⟨q,0,none⟩)] w fun e w'=>e= .returned (.agg #[.int .i64 z1, .int .u32 z2, .int .i64 z3, .int .i64 z4, .int .i64 z5, .int .i64 z6])/\T w'
section
variable{tab:List Vc}{W:World}{p q m r l:Nat}{A:Rv}{c:Xc}{S:Shape}{ρ:Nat->Int}{γ:Nat->Gh}{B:Nat->Prop}{w0:World}
theorem Ph{f:FuncId}{x x' a v:Value}(ho:At env S (pj S.facts Ak) f x=some a)(Vg:Gi tab=true)(c1:A.ck<999000)(w1:A.wm<999000)(hx:∀R w,We tab W p q m r l A c S ρ γ B w0 R w-> @VR (Th.at ρ γ) R x x')(hv:∀(R1:Mp) (u:Value), @VR (Th.at ρ γ) R1 a u->u=v){w:World}(h:ai tab W p q m r l A c S ρ γ B w0 w):
  Calls Tryz.prog f #[x'] w fun e w'=>e= .returned v/\ai tab W p q m r l A c S ρ γ B w0 w':=by
 refine (pQ ho Vg c1 w1 hx h).mono ?_
 rintro e w' ⟨v',R1,rfl,hs,hr⟩;exact ⟨by rw [hv R1 v' hr],hs⟩
theorem Vf{a b:Int}(h:ae a b=true):a=b:=by rw [Sd]at h;exact of_decide_eq_true h
theorem VD{a b:Bool}(h:TJ a b=true):a=b:=by unfold TJ at h;split at h<;>(first|exact h.symm|(rw [Cd]at h;simp at h;exact h.symm))
theorem WD{a b x y:Value}(h1:∀(R1:Mp) (u:Value), @VR (Th.at ρ γ) R1 a u->u=x)(h2:∀(R1:Mp) (u:Value), @VR (Th.at ρ γ) R1 b u->u=y)(R1:Mp)(u:Value)(h: @VR (Th.at ρ γ) R1 (.agg ⟨[a,b]⟩) u):u= .agg #[x,y]:=by
 obtain ⟨l',hl,rfl⟩:= @mi (Th.at ρ γ) _ _ _ h;obtain ⟨u1,l1,rfl,g1,hl⟩:= @LR.ya (Th.at ρ γ) _ _ _ _ hl;obtain ⟨u2,l2,rfl,g2,hl⟩:= @LR.ya (Th.at ρ γ) _ _ _ _ hl;obtain rfl:= @LR.ic (Th.at ρ γ) _ _ hl;rw [h1 _ _ g1,h2 _ _ g2]
theorem uu(Ug:Nn (fun s=>∃t,S5 tab s t=true) tab){R:Mp}{w:World}(h:We tab W p q m r l A c S ρ γ B w0 R w)(c1:A.ck<999000)(w1:A.wm<999000):∃n k x y z1 z2 z3 z4 z5 z6,Uf S.Sb 1 5=some (.int .i64 n)/\∀(B:Nat->Prop) (w0:World),Ct Tryz.prog p q n k x y z1 z2 z3 z4 z5 z6 (ai tab W p q m r l A c S ρ γ B w0):=by
 have Vg:=Bt Ug;obtain ⟨s,rfl,t,ht⟩:=Ug.of h.tab;obtain ⟨-,-,-,h4,h5,-⟩:=UD ht;have hp:∀(B:Nat->Prop) (w0:World) R w,We tab W p q m r l A c s.shape ρ γ B w0 R w-> @VR (Th.at ρ γ) R pV (.pointer (some ⟨p,0,none⟩)):=fun B w0 R w k=>k.UJ
 have hq:∀(B:Nat->Prop) (w0:World) R w,We tab W p q m r l A c s.shape ρ γ B w0 R w-> @VR (Th.at ρ γ) R qV (.pointer (some ⟨q,0,none⟩)):=fun B w0 R w k=>k.dQ
 unfold opF at h5
 split at h5
 . rename_i n k x y en ek ex ey
   split at h5
   . rename_i k' x' y' bc Wj
     split at h5
     . rename_i bd Tas
       split at h5
       . rename_i m' em;simp only [Da,Bool.and_eq_true]at h5;obtain ⟨e1,e2,e3,⟨e4,e4'⟩,⟨e5,e5'⟩,e6,e6'⟩:=h5;obtain rfl:=Vf e1;obtain rfl:=VD e2;obtain rfl:=VD e3;rw [Cd,Sd]at Wj;rw [Sd]at Tas;obtain ⟨kv,sk,k1,k2⟩:=xy (ρ:=ρ) (γ:=γ) e4 e4';obtain ⟨xv,sx,x1,x2⟩:=xy (ρ:=ρ) (γ:=γ) e5 e5';obtain ⟨yv,sy',y1,y2⟩:=xy (ρ:=ρ) (γ:=γ) e6 e6';obtain ⟨ki,rfl⟩:=fq sk;obtain ⟨xi,rfl⟩:=SD sx;obtain ⟨yi,rfl⟩:=SD sy';unfold WU at h4
         split at h4
         . rename_i a b Uas
           split at h4
           . rename_i vh Xah
             split at h4
             . rename_i vn Yah
               split at h4
               . rename_i vr' O1
                 split at h4
                 . rename_i vu raK
                   split at h4
                   . rename_i a' b' vh' vn' vr2 vu' Zah;simp only [Da,Bool.and_eq_true]at h4;obtain ⟨⟨t1,t1'⟩,⟨t2,t2'⟩,⟨t3,t3'⟩,⟨t4,t4'⟩,⟨t5,t5'⟩,t6,t6'⟩:=h4;obtain ⟨v1,s1,f1,g1⟩:=xy (ρ:=ρ) (γ:=γ) t1 t1';obtain ⟨v2,s2,f2,g2⟩:=xy (ρ:=ρ) (γ:=γ) t2 t2';obtain ⟨v3,s3,f3,g3⟩:=xy (ρ:=ρ) (γ:=γ) t3 t3';obtain ⟨v4,s4,f4,g4⟩:=xy (ρ:=ρ) (γ:=γ) t4 t4';obtain ⟨v5,s5,f5,g5⟩:=xy (ρ:=ρ) (γ:=γ) t5 t5';obtain ⟨v6,s6,f6,g6⟩:=xy (ρ:=ρ) (γ:=γ) t6 t6';obtain ⟨z1,rfl⟩:=fq s1;obtain ⟨z2,rfl⟩:=SD s2;obtain ⟨z3,rfl⟩:=fq s3;obtain ⟨z4,rfl⟩:=fq s4;obtain ⟨z5,rfl⟩:=fq s5;obtain ⟨z6,rfl⟩:=fq s6;refine ⟨n,ki,xi,yi,z1,z2,z3,z4,z5,z6,en,fun B w0=> ?_⟩;refine ⟨?_, ?_, ?_, ?_, ?_, ?_, ?_, ?_, ?_⟩
                     . rintro w ⟨R,k⟩;obtain ⟨s0,r0⟩:=k.r0;obtain ⟨u5,c5,q5⟩:=k.cell en;obtain ⟨u6,c6,q6⟩:=k.cell ek;obtain ⟨u7,c7,q7⟩:=k.cell ex;obtain ⟨u8,c8,q8⟩:=k.cell ey;obtain ⟨u2,c2,q2⟩:=VG k.ins.Yj r0 em;obtain rfl:= @qc (Th.at ρ γ) _ _ _ _ q5;obtain rfl:= @qc (Th.at ρ γ) _ _ _ _ q2;obtain ⟨s1',r1'⟩:=k.r1;exact ⟨c5,by rw [c6,k1 _ _ q6],by rw [c7,x1 _ _ q7],by rw [c8,y1 _ _ q8],c2, @Qc.lt (Th.at ρ γ) _ _ _ _ _ k.ins.Yj _ _ _ r0, @Qc.lt (Th.at ρ γ) _ _ _ _ _ k.ins.Yj _ _ _ r1'⟩
                     . intro w hw;refine Ph Wj Vg c1 w1 (hp B w0) (fun R1 u hu=> ?_) hw;obtain ⟨l',hl,rfl⟩:= @oC (Th.at ρ γ) _ _ _ hu;obtain ⟨u1,l1,rfl,q1,hl⟩:= @LR.ya (Th.at ρ γ) _ _ _ _ hl;obtain ⟨u2,l2,rfl,q2,hl⟩:= @LR.ya (Th.at ρ γ) _ _ _ _ hl;obtain rfl:= @LR.ic (Th.at ρ γ) _ _ hl;obtain rfl:= @Jh (Th.at ρ γ) _ _ _ q2;obtain ⟨m',hm,rfl⟩:= @mi (Th.at ρ γ) _ _ _ q1;obtain ⟨u1,m1,rfl,g1,hm⟩:= @LR.ya (Th.at ρ γ) _ _ _ _ hm;obtain ⟨u2,m2,rfl,g2,hm⟩:= @LR.ya (Th.at ρ γ) _ _ _ _ hm;obtain ⟨u3,m2,rfl,g3,hm⟩:= @LR.ya (Th.at ρ γ) _ _ _ _ hm;obtain rfl:= @LR.ic (Th.at ρ γ) _ _ hm;rw [k2 _ _ g1,x2 _ _ g2,y2 _ _ g3]
                     . exact fun w hw=>Ph Tas Vg c1 w1 (hp B w0) (fun R1 u hu=> @Jh (Th.at ρ γ) _ _ _ hu) hw
                     . exact fun w hw=>Ph Uas Vg c1 w1 (hp B w0) (WD f1 f2) hw
                     . exact fun w hw=>Ph Xah Vg c1 w1 (hp B w0) f3 hw
                     . exact fun w hw=>Ph Yah Vg c1 w1 (hp B w0) f4 hw
                     . exact fun w hw=>Ph O1 Vg c1 w1 (hp B w0) f5 hw
                     . exact fun w hw=>Ph raK Vg c1 w1 (hp B w0) f6 hw
                     . intro w hw;refine Ph Zah Vg c1 w1 (hq B w0) (fun R1 u hu=> ?_) hw;obtain ⟨l',hl,rfl⟩:= @mi (Th.at ρ γ) _ _ _ hu;obtain ⟨u1,l1,rfl,q1,hl⟩:= @LR.ya (Th.at ρ γ) _ _ _ _ hl;obtain ⟨u2,l1,rfl,q2,hl⟩:= @LR.ya (Th.at ρ γ) _ _ _ _ hl;obtain ⟨u3,l1,rfl,q3,hl⟩:= @LR.ya (Th.at ρ γ) _ _ _ _ hl;obtain ⟨u4,l1,rfl,q4,hl⟩:= @LR.ya (Th.at ρ γ) _ _ _ _ hl;obtain ⟨u5,l1,rfl,q5,hl⟩:= @LR.ya (Th.at ρ γ) _ _ _ _ hl;obtain ⟨u6,l1,rfl,q6,hl⟩:= @LR.ya (Th.at ρ γ) _ _ _ _ hl;obtain rfl:= @LR.ic (Th.at ρ γ) _ _ hl;rw [g1 _ _ q1,g2 _ _ q2,g3 _ _ q3,g4 _ _ q4,g5 _ _ q5,g6 _ _ q6]
                   . cases h4
                 . cases h4
               . cases h4
             . cases h4
           . cases h4
         . cases h4
       . cases h5
     . cases h5
   . cases h5
 . cases h5
end
theorem Ct.ex{P:Program}{p q:Nat}{n k x y z1 z2 z3 z4 z5 z6:Int}{α:Type}{T:α->World->Prop}{G:α->Prop}(h:∀a,Ct P p q n k x y z1 z2 z3 z4 z5 z6 (T a)):Ct P p q n k x y z1 z2 z3 z4 z5 z6 (fun w=>∃a,T a w/\G a) where
 at_:=fun w ⟨a,ha,_⟩=>(h a).at_ w ha
 op:=fun w ⟨a,ha,g⟩=>((h a).op w ha).mono fun e w' q=>⟨q.1,a,q.2,g⟩
 ans:=fun w ⟨a,ha,g⟩=>((h a).ans w ha).mono fun e w' q=>⟨q.1,a,q.2,g⟩
 result:=fun w ⟨a,ha,g⟩=>((h a).result w ha).mono fun e w' q=>⟨q.1,a,q.2,g⟩
 holds:=fun w ⟨a,ha,g⟩=>((h a).holds w ha).mono fun e w' q=>⟨q.1,a,q.2,g⟩
 Vq:=fun w ⟨a,ha,g⟩=>((h a).Vq w ha).mono fun e w' q=>⟨q.1,a,q.2,g⟩
 gy:=fun w ⟨a,ha,g⟩=>((h a).gy w ha).mono fun e w' q=>⟨q.1,a,q.2,g⟩
 writes:=fun w ⟨a,ha,g⟩=>((h a).writes w ha).mono fun e w' q=>⟨q.1,a,q.2,g⟩
 tell:=fun w ⟨a,ha,g⟩=>((h a).tell w ha).mono fun e w' q=>⟨q.1,a,q.2,g⟩
end Sk
end Go.Proofs.YtfnkmolffhfpoaaGreat
namespace Go.Proofs.YtfnkmolffhfpoaaGreat
open Go.RowKit Go.BigFrame
theorem XU(k:Int)(w:World):Calls Tryz.prog 88 #[.int .i64 k] w (Gc (.bool (decide (1<=k)&&decide (k<=8))) w):=by
 by_cases h1:1<=k
 . by_cases h2:k<=8
   . have e1:decide (1<=k)=true:=ga h1;have e2:decide (k<=8)=true:=ga h2
     go_enter Tryz.func88,Tryz.ntmps88
     go_wp2_with fail
     go_ret
     exact ⟨by simp [e1,e2],rfl⟩
   . have e1:decide (1<=k)=true:=ga h1;have e2:decide (k<=8)=false:=ua h2
     go_enter Tryz.func88,Tryz.ntmps88
     go_wp2_with fail
     go_ret
     exact ⟨by simp [e1,e2],rfl⟩
 . have e1:decide (1<=k)=false:=ua h1
   go_enter Tryz.func88,Tryz.ntmps88
   go_wp2_with fail
   go_ret
   exact ⟨by simp [e1],rfl⟩
def wu(k:Int):Int:=if 1<=k/\k<=8 then 7 else 1
theorem wA(x:Nat)(n k:Int)(b c:Value)(w:World)(h:w.cell? ⟨x,2,none⟩=some (.int .i64 n))(hn:n≠0)(hx:x<w.heap.size):Calls Tryz.prog 28 #[.pointer (some ⟨x,0,none⟩), .agg #[.int .i64 k,b,c]] w (Fc (.int .i64 (wu k)) w):=by
 have HK:=Lib.hid fun w=>XU k w
 have h2:∀o,(w.alloc o).cell? ⟨x,2,none⟩=some (.int .i64 n):=fun o=>by rw [<-h];exact ((Below.refl _ _).alloc (Nat.le_refl _) o).cell (p:=⟨x,2,none⟩) hx
 have hd:(n != 0)=true:=by simpa using hn
 clear h hx hn;by_cases hk:1<=k/\k<=8
 . have e:wu k=7:=if_pos hk;have e1:(decide (1<=k)&&decide (k<=8))=true:=by simp [hk.1,hk.2]
   rw [e];rw [e1]at HK;clear hk e e1
   go_enter Tryz.func28,Tryz.ntmps28
   go_wp2_with fail
   refine (HK.out _).mono ?_
   rintro e w1 ⟨rfl,rfl⟩
   go_wp2_with fail
   go_ret
   exact ⟨rfl,(Below.refl _ _).alloc (Nat.le_refl _) _⟩
 . have e:wu k=1:=if_neg hk;have e1:(decide (1<=k)&&decide (k<=8))=false:=by
    by_cases h1:1<=k
    . have:¬k<=8:=fun h=>hk ⟨h1,h⟩
      simp [this]
    . simp [h1]
   rw [e];rw [e1]at HK;clear hk e e1
   go_enter Tryz.func28,Tryz.ntmps28
   go_wp2_with fail
   refine (HK.out _).mono ?_
   rintro e w1 ⟨rfl,rfl⟩
   go_wp2_with fail
   go_ret
   exact ⟨rfl,(Below.refl _ _).alloc (Nat.le_refl _) _⟩
end Go.Proofs.YtfnkmolffhfpoaaGreat
namespace Go.Proofs.YtfnkmolffhfpoaaGreat
namespace Sk
open Go.RowKit Go.BigFrame
theorem zy[Interp]{R:Mp}{l:List (Option Value)}{e:TypeId}{c':Array Value}(hn:c'.size=l.length)(h:∀(i:Nat) (v:Value),l[i]?=some (some v)->∃v',c'[i]?=some v'/\VR R v v'):Jp R (ah.obj (.cells l e true)) (some (.cells c' e (0,0))) l.length:=
 ⟨c',rfl,hn,by show Ze l<=_;rw [Dc];omega,fun _=>Dc l,fun i v hv=>by
   have h2:=Lw l e true i v hv;exact ⟨by show i<Ze l;rw [Dc];exact (List.getElem?_eq_some_iff.1 h2).1,h i v h2⟩⟩
def pL:List (Option Value):=[some (.pointer (some ⟨4,0,none⟩)),some (vr 3 0),some (Cb 0),none,none,none,none,none,none]
def qL:List (Option Value):=[some (sy dh [vr 11 1,Cb 0]),some (sy dh [vr 11 1,Cb 1]),some (sy dh [vr 11 1,Cb 2]),some (sy dh [vr 11 1,Cb 3]),some (vr 3 0),some (Cb 0),some (Cb 0),some (.int .u32 0),some (.int .u32 0),none,none,none,none,none,none,none,none,none,none,none,none,none,none,none,none,none,none,none,none]
def Ap:List ah:=[.cells pL 161 true, .cells qL 86 true, .gh (vr 9 0), .gh (sy Uq [vr 9 0]), .gh (vr 11 1)]
def mp5(p q m r l:Nat):Mp:=fun b=>match b with|0=>some (p,9)|1=>some (q,29)|2=>some (m,0)|3=>some (r,0)|4=>some (l,0)|_=>none
theorem P1{W w:World}{p q l:Nat}{M:Mv}{N:Rv}{c:Xc}{t:Int}{a b d:Value}{k1 k2 k3:Value}{cq:Array Value}(hb:Below W.heap.size W w)(hl:Nc w l c.lv)(hf:Xh c)(hM:Ga w M)(hR:za w N)(lo:W.heap.size<=l)(qQ:∀k,M.own k->W.heap.size<=k/\k≠l/\¬N.own k)(T5:∀k,N.own k->W.heap.size<=k/\k≠l)(hml:jd M N)(oq:Wd N)
  (hp:w.heap[p]?=some (.cells #[.pointer (some ⟨l,0,none⟩), .int .i64 t, .int .i64 0,k1,k2,k3,a,b,d] 161 (0,0)))(hq:w.heap[q]?=some (.cells cq 86 (0,0)))(Cs:cq.size=29)(hc:(cq[0]?=some (.int .i64 c.th)/\cq[1]?=some (.int .i64 c.sl)/\cq[2]?=some (.int .i64 c.lo)/\cq[3]?=some (.int .i64 c.bu))/\cq[4]?=some (.int .i64 t)/\cq[5]?=some (.int .i64 0)/\cq[6]?=some (.int .i64 0)/\cq[7]?=some (.int .u32 0)/\cq[8]?=some (.int .u32 0))(CD:W.heap.size<=p/\p≠l/\¬M.own p/\¬N.own p)(Q1:W.heap.size<=q/\q≠l/\¬M.own q/\¬N.own q)(hpq:p≠q)(ρ:Nat->Int)(hρ:ρ 0=t)(t0:-9223372036854775808<=t)(t1:t<=9223372036854775807):
  @Qc (Th.at ρ (gam N c)) (fun k=>W.heap.size<=k) W (mp5 p q M.m N.m l) (Rp Ap) w:=by
 letI:Interp:=Th.at ρ (gam N c)
 have hng:NG (gam N c) N c:=⟨rfl,rfl,hf⟩;have om:M.own M.m:=Or.inl (by simp [Mv.blocks]);have orr:N.own N.m:=Or.inl (by simp [Rv.blocks]);have hmr:M.m≠N.m:=fun e=>(qQ _ om).2.2 (e▸orr)
 have saK:M.m≠l:=(qQ _ om).2.1
 have O5:N.m≠l:=(T5 _ orr).2
 have hpm:p≠M.m:=fun e=>CD.2.2.1 (e▸om)
 have hpr:p≠N.m:=fun e=>CD.2.2.2 (e▸orr)
 have hqm:q≠M.m:=fun e=>Q1.2.2.1 (e▸om)
 have hqr:q≠N.m:=fun e=>Q1.2.2.2 (e▸orr)
 have g0:(Rp Ap).get 0=some (ah.obj (.cells pL 161 true)):=by rw [Zf];rfl
 have g1:(Rp Ap).get 1=some (ah.obj (.cells qL 86 true)):=by rw [Zf];rfl
 have g2:(Rp Ap).get 2=some (.gh (vr 9 0)):=by rw [Zf];rfl
 have g3:(Rp Ap).get 3=some (.gh (sy Uq [vr 9 0])):=by rw [Zf];rfl
 have g4:(Rp Ap).get 4=some (.gh (vr 11 1)):=by rw [Zf];rfl
 have XD:∀b r s,mp5 p q M.m N.m l b=some (r,s)->(b=0/\r=p/\s=9)\/(b=1/\r=q/\s=29)\/(b=2/\r=M.m)\/(b=3/\r=N.m)\/(b=4/\r=l):=by
  intro b r s h;unfold mp5 at h
  split at h
  . cases h;exact .inl ⟨rfl,rfl,rfl⟩
  . cases h;exact .inr (.inl ⟨rfl,rfl,rfl⟩)
  . cases h;exact .inr (.inr (.inl ⟨rfl,rfl⟩))
  . cases h;exact .inr (.inr (.inr (.inl ⟨rfl,rfl⟩)))
  . cases h;exact .inr (.inr (.inr (.inr ⟨rfl,rfl⟩)))
  . cases h
 have h0:=hf.gJ;have h1:=hf.th;have h2:=hf.gP;have h3:=hf.sl;have h4:=hf.TQ;have h5:=hf.lo;have h6:=hf.UH;have h7:=hf.bu;refine ⟨fun b x h=> ?_,fun b r s h=> ?_,fun b r s o h hg=> ?_,fun b1 b2 r s1 s2 e1 e2 Jc=> ?_, ?_,fun k hk=>hk, ?_⟩
 . obtain ⟨r,s⟩:=x
   show b<5
   rcases XD b r s h with⟨rfl,-⟩|⟨rfl,-⟩|⟨rfl,-⟩|⟨rfl,-⟩|⟨rfl,-⟩<;>omega
 . rcases XD b r s h with⟨-,rfl,-⟩|⟨-,rfl,-⟩|⟨-,rfl⟩|⟨-,rfl⟩|⟨-,rfl⟩
   . exact zb hp
   . exact zb hq
   . exact hM.lt om
   . exact hR.lt orr
   . exact hl.lt
 . rcases XD b r s h with⟨rfl,rfl,rfl⟩|⟨rfl,rfl,rfl⟩|⟨rfl,rfl⟩|⟨rfl,rfl⟩|⟨rfl,rfl⟩
   . rw [g0]at hg;cases hg;refine ⟨CD.1, ?_⟩;rw [hp];refine zy (l:=pL) rfl fun i v hv=> ?_
     match i,hv with
     |0,hv=>cases hv;exact ⟨_,rfl, @VR.ptr _ _ 4 0 l 0 rfl⟩
     |1,hv=>cases hv;exact ⟨_,rfl,Nah 0 t hρ t0 t1⟩
     |2,hv=>cases hv;exact ⟨_,rfl, .flat _ rfl⟩
     |3,hv=>cases hv
     |4,hv=>cases hv
     |5,hv=>cases hv
     |6,hv=>cases hv
     |7,hv=>cases hv
     |8,hv=>cases hv
     |i+9,hv=>simp [pL]at hv
   . rw [g1]at hg;cases hg;refine ⟨Q1.1, ?_⟩;rw [hq];refine zy (l:=qL) (by rw [Cs];rfl) fun i v hv=> ?_
     match i,hv with
     |0,hv=>cases hv;exact ⟨_,hc.1.1,mM hng 0 c.th rfl (by omega) (by omega)⟩
     |1,hv=>cases hv;exact ⟨_,hc.1.2.1,mM hng 1 c.sl rfl (by omega) (by omega)⟩
     |2,hv=>cases hv;exact ⟨_,hc.1.2.2.1,mM hng 2 c.lo rfl (by omega) (by omega)⟩
     |3,hv=>cases hv;exact ⟨_,hc.1.2.2.2,mM hng 3 c.bu rfl (by omega) (by omega)⟩
     |4,hv=>cases hv;exact ⟨_,hc.2.1,Nah 0 t hρ t0 t1⟩
     |5,hv=>cases hv;exact ⟨_,hc.2.2.1, .flat _ rfl⟩
     |6,hv=>cases hv;exact ⟨_,hc.2.2.2.1, .flat _ rfl⟩
     |7,hv=>cases hv;exact ⟨_,hc.2.2.2.2.1, .flat _ rfl⟩
     |8,hv=>cases hv;exact ⟨_,hc.2.2.2.2.2, .flat _ rfl⟩
     |i+9,hv=>
      exfalso;have:∀j:Nat,qL[j+9]?≠some (some v):=fun j=>by
       unfold qL;by_cases hj:j<20
       . have:∀x,x∈([none,none,none,none,none,none,none,none,none,none,none,none,none,none,none,none,none,none,none,none]:List (Option Value))->x=none:=by intro x hx;simpa using hx
         intro e;have e':([none,none,none,none,none,none,none,none,none,none,none,none,none,none,none,none,none,none,none,none]:List (Option Value))[j]?=some (some v):=e
         exact absurd (this _ (List.mem_of_getElem? e')) (by simp)
       . intro e;have:=(List.getElem?_eq_some_iff.1 e).1
         simp at this;omega
      exact this i hv
   . rw [g2]at hg;cases hg;exact ⟨(qQ _ om).1,trivial⟩
   . rw [g3]at hg;cases hg;exact ⟨(T5 _ orr).1,trivial⟩
   . rw [g4]at hg;cases hg;exact ⟨lo,trivial⟩
 . exfalso;have Gz:=CD.2.1
   have hql:=Q1.2.1
   rcases XD _ _ _ e1 with⟨rfl,e1,-⟩|⟨rfl,e1,-⟩|⟨rfl,e1⟩|⟨rfl,e1⟩|⟨rfl,e1⟩<;>rcases XD _ _ _ e2 with⟨rfl,e2,-⟩|⟨rfl,e2,-⟩|⟨rfl,e2⟩|⟨rfl,e2⟩|⟨rfl,e2⟩<;>omega
 . exact ⟨hb.os,hb.tape,hb.output,hb.size,fun k hk _=>hb.block k hk⟩
 . refine ⟨fun b=>match b with|2=>M.own|3=>N.own|4=>fun k=>k=l|_=>fun _=>False,fun b r s e h hg=> ?_⟩;rcases XD b r s h with⟨rfl,rfl,rfl⟩|⟨rfl,rfl,rfl⟩|⟨rfl,rfl⟩|⟨rfl,rfl⟩|⟨rfl,rfl⟩
   . rw [g0]at hg;cases hg
   . rw [g1]at hg;cases hg
   . rw [g2]at hg;cases hg;refine ⟨⟨.mem N,rfl,M,hM,rfl,rfl,hml,oq⟩,fun k hk=>(qQ k hk).1,fun b2 r2 s2 o2 Jc h2 Sr=> ?_⟩;rcases XD b2 r2 s2 h2 with⟨rfl,rfl,rfl⟩|⟨rfl,rfl,rfl⟩|⟨rfl,rfl⟩|⟨rfl,rfl⟩|⟨rfl,rfl⟩
     . exact ⟨CD.2.2.1,fun e2 he k hk=>id⟩
     . exact ⟨Q1.2.2.1,fun e2 he k hk=>id⟩
     . exact absurd rfl Jc
     . exact ⟨fun hk=>(qQ _ hk).2.2 orr,fun e2 he k hk=>(qQ k hk).2.2⟩
     . exact ⟨fun hk=>(qQ _ hk).2.1 rfl,fun e2 he k hk=>(qQ k hk).2.1⟩
   . rw [g3]at hg;cases hg;refine ⟨⟨.ref N,rfl,N,hR,rfl,rfl,⟨rfl,rfl,rfl,rfl,rfl,rfl,rfl,rfl,rfl,rfl,rfl,rfl⟩,oq⟩,fun k hk=>(T5 k hk).1,fun b2 r2 s2 o2 Jc h2 Sr=> ?_⟩;rcases XD b2 r2 s2 h2 with⟨rfl,rfl,rfl⟩|⟨rfl,rfl,rfl⟩|⟨rfl,rfl⟩|⟨rfl,rfl⟩|⟨rfl,rfl⟩
     . exact ⟨CD.2.2.2,fun e2 he k hk=>id⟩
     . exact ⟨Q1.2.2.2,fun e2 he k hk=>id⟩
     . exact ⟨fun hk=>(qQ _ om).2.2 hk,fun e2 he k hk pS=>(qQ k pS).2.2 hk⟩
     . exact absurd rfl Jc
     . exact ⟨fun hk=>(T5 _ hk).2 rfl,fun e2 he k hk=>(T5 k hk).2⟩
   . rw [g4]at hg;cases hg;refine ⟨⟨.lay c, @jy ρ (gam N c) N c hng,hl,rfl,hf⟩,fun k hk=>by subst hk;exact lo,fun b2 r2 s2 o2 Jc h2 Sr=> ?_⟩;rcases XD b2 r2 s2 h2 with⟨rfl,rfl,rfl⟩|⟨rfl,rfl,rfl⟩|⟨rfl,rfl⟩|⟨rfl,rfl⟩|⟨rfl,rfl⟩
     . exact ⟨CD.2.1,fun e2 he k hk=>id⟩
     . exact ⟨Q1.2.1,fun e2 he k hk=>id⟩
     . exact ⟨fun hk=>saK hk,fun e2 he k hk pS=>(qQ k pS).2.1 hk⟩
     . exact ⟨fun hk=>O5 hk,fun e2 he k hk pS=>(T5 k pS).2 hk⟩
     . exact absurd rfl Jc
end Sk
end Go.Proofs.YtfnkmolffhfpoaaGreat
namespace Go.Proofs.YtfnkmolffhfpoaaGreat
namespace Sk
noncomputable section
def S1(b:Nat):Nat->Nat->List Nat
 |0,_=>[]
 |f+1,n=>match Nat.beq n 0 with|true=>[]|false=>Nat.mod n b::S1 b f (Nat.div n b)
def Vas{α:Type}(D:List (List α))(i:Nat):Option α:=match Xf D (Nat.div i 16)with|some l=>Xf l (Nat.mod i 16)|none=>none
def cai(n:Nat)(D:List (List bY))(M:List (List Nat)):Nat->Nat->List bY->List bY
 |0,_,r=>r
 |f+1,d,r=>match Nat.ble d n with
  |true=>match Vas D (Nat.pred d)with|some x=>x::r|none=>r
  |false=>match Vas M (Nat.sub (Nat.pred d) n)with|some ab=>cai n D M f (Nat.div ab 4096) (cai n D M f (Nat.mod ab 4096) r)|none=>r
def U5(n:Nat)(D:List (List bY))(M:List (List Nat)):List Nat->List bY
 |[]=>[]
 |d::ds=>cai n D M 30 d (U5 n D M ds)
def YU:List Nat->List (Nat×Nat×Nat)
 |[]=>[]
 |d::ds=>match Nat.pred d with|e=>(Nat.div e 32,Nat.div (Nat.mod e 32) 2,Nat.mod e 2)::YU ds
def qa(ks fs:Nat)(a b:MI)(os:List MI):Vc:=⟨S1 16 64 ks,a::b:: .g (vr 9 0):: .g (sy Uq [vr 9 0]):: .g (vr 11 1)::os,YU (S1 4096 99 fs)⟩
def ckN(tab:List Vc)(s:Vc)(t:Tree):Bool:=match Gr s.shape with|0=>false|_=>S5 tab s t
def Gf(tab:List Vc):List (Vc×Tree)->Bool
 |[]=>true
 |p::ps=>match ckN tab p.1 p.2 with|true=>Gf tab ps|false=>false
def Ub(r:List Vc):List (Vc×Tree)->List Vc
 |[]=>r
 |p::ps=>p.1::Ub r ps
end
def OkS(tab:List Vc)(s0 s:Vc):Prop:=(s=s0\/Gr s.shape≠0)/\∃t,S5 tab s t=true
theorem Xb{tab:List Vc}{s0:Vc}{r:List Vc}(hr:Nn (OkS tab s0) r):∀{l:List (Vc×Tree)},Gf tab l=true->Nn (OkS tab s0) (Ub r l)
 |[],h=>hr
 |p::ps,h=>by
  simp only [Gf]at h
  split at h
  . rename_i h1;unfold ckN at h1
    split at h1
    . cases h1
    . rename_i hn;exact ⟨⟨.inr hn,_,h1⟩,Xb hr h⟩
  . cases h
theorem Nn.mono{P Q:Vc->Prop}(h:∀s,P s->Q s):∀{l:List Vc},Nn P l->Nn Q l
 |[],_=>trivial
 |s::ss,k=>⟨h s k.1,Nn.mono h k.2⟩
end Sk
end Go.Proofs.YtfnkmolffhfpoaaGreat
namespace Go.Proofs.YtfnkmolffhfpoaaGreat
namespace Sk
open Go.RowKit Go.BigFrame
theorem Sn{T:Kj}{E0:Env}(hE:∀(ρ:Nat->Int) (γ:Nat->T.G) (F:List (Value×Value)),(∀p,p∈F-> @den (T.at ρ γ) p.1= @den (T.at ρ γ) p.2)-> @Yb (T.at ρ γ) (E0.Ll F)/\ @yk (T.at ρ γ) (E0.Ll F))
  {n:Nat}{cs:List (FuncId×List Value)}{post:Shape->List Value->Bd->Bool}{tab:List Shape}{roots:Nat}{σ:AH}{ρ:Nat->Int}{γ:Nat->T.G}{B:Nat->Prop}{w0:World}{R:Mp}{w:World}(hS: @Qc (T.at ρ γ) B w0 R σ w){ds:List (FuncId×Array Value)}(hA: @Ui (T.at ρ γ) R cs ds):
  ∀{t:Tree} {F:List (Value×Value)},Ml E0 n cs post tab roots σ t F=true->(∀p,p∈F-> @den (T.at ρ γ) p.1= @den (T.at ρ γ) p.2)->yc E0.P (fun w'=>Ci B w0 w') ds (Stepped T tab roots post ρ γ B w0 R) w
 | .leaf j,F,h,hF=>by
   simp only [Ml]at h
   split at h
   . rename_i vs σ' hr
     split at h
     . rename_i S hSj
       split at h
       . rename_i hh;obtain ⟨sS,hO1⟩:=hE ρ γ F hF;have:= @Pn (T.at ρ γ) _ sS hO1 _ _ _ _ _ _ _ _ _ _ hr hS hA;refine this.mono ?_
         rintro ws w' ⟨R1,q1,q2,q3⟩;generalize II σ' 0 ⟨upN roots 0,[],[]⟩ S.Sb=s at h hh;unfold OQ at hh;simp only [Da,Bool.and_eq_true,xd,decide_eq_true_eq]at hh;obtain ⟨h1,h2,h3,h4,h5⟩:=hh;rw [Pc]at hSj;refine ⟨j,S,vs,s,R1,hSj,h,q1,q2,⟨Rq ρ γ s.θ s.η sS h3,reshape ρ γ s.θ s.η sS q3 h1 h2⟩,fun i hi=> ?_⟩;rw [Dc]at h5;have hl:i<s.f.length:=by omega
         have h6:=Nl (j:=i) h4 (b:=s.f[i]) (by rw [Sq,List.getElem?_take,if_pos hi];exact List.getElem?_eq_getElem hl);unfold Lj;rw [List.getElem?_eq_getElem hl,h6];simp
       . cases h
     . cases h
   . cases h
 | .no t lo hi,F,h,hF=>(@aL (T.at ρ γ) _ _ _ _ h hF).elim
 | .split c l r,F,h,hF=>by
   simp only [Ml]at h
   split at h
   . rename_i hc
     split at h
     . rename_i hl;have h8:Wf c=some 8:=by
        unfold isB at hc
        split at hc
        . rename_i k hk;rw [Va]at hc;rw [hk,of_decide_eq_true hc]
        . cases hc
       obtain ⟨c',hd,hs⟩:= @Zr (T.at ρ γ) _ _ h8;obtain ⟨b,rfl⟩:= @Sc.bool (T.at ρ γ) _ hs;have hF2:∀p,p∈((c,Value.bool b)::F)-> @den (T.at ρ γ) p.1= @den (T.at ρ γ) p.2:=by
        intro p hp;rcases List.mem_cons.1 hp with e|e
        . rw [e,hd];rfl
        . exact hF p e
       cases b with
       |true=>exact Sn hE hS hA hl hF2
       |false=>exact Sn hE hS hA h hF2
     . cases h
   . cases h
theorem yc.imp{P:Program}{I I':World->Prop}(hi:∀w,I w->I' w):∀{cs:List (FuncId×Array Value)} {Q:List Value->World->Prop} {w:World},yc P I cs Q w->yc P I' cs Q w
 |[],Q,w,h=>h
 |c::cs,Q,w,h=>Calls.mono h fun e w' ⟨v,h1,h2,h3⟩=>⟨v,h1,hi _ h2,h3.imp hi⟩
theorem Qc.Ay[Interp]{B:Nat->Prop}{w0:World}{R:Mp}{σ:AH}{w w1:World}(hS:Qc B w0 R σ w)(h:Below w.heap.size w w1):Qc (fun k=>(k<w.heap.size/\B k)\/w1.heap.size<=k) w1 R σ w1 where
 tC:=hS.tC
 lt:=fun b r s hb=>Nat.lt_of_lt_of_le (hS.lt b r s hb) h.size
 obj:=fun b r s o hb ho=>⟨.inl ⟨hS.lt b r s hb,(hS.obj b r s o hb ho).1⟩,by rw [h.block r (hS.lt b r s hb)];exact (hS.obj b r s o hb ho).2⟩
 inj:=hS.inj
 below:=⟨rfl,rfl,rfl,Nat.le_refl _,fun k hk hb=>rfl⟩
 base:=fun k hk=> .inr hk
 MK:=by
  obtain ⟨O,hO⟩:=hS.MK;refine ⟨O,fun b r s e hb he=> ?_⟩;obtain ⟨⟨g,h1,h2⟩,h3,h4⟩:=hO b r s e hb he;exact ⟨⟨g,h1,Interp.gh_keep g r (O b) w w1 h2 h.size fun k hk=>h.block k (Interp.gh_lt g r (O b) w h2 k hk)⟩,fun k hk=> .inl ⟨Interp.gh_lt g r (O b) w h2 k hk,h3 k hk⟩,h4⟩
theorem lH[Interp]{E:Env}(hE:Yb E)(hO:yk E){n:Nat}{B:Nat->Prop}{w0:World}{c1 c2:FuncId×List Value}{d1 d2:FuncId×Array Value}{a1 a2:Value}{σ σ':AH}{R:Mp}{w:World}(h:runs E n [c1,c2] σ=some ([a1,a2],σ'))(hS:Qc B w0 R σ w)(hA:Ui R [c1,c2] [d1,d2]):
  Calls E.P d1.1 d1.2 w fun e w1=>∃(v1:Value) (R1:Mp),e= .returned v1/\Ci B w0 w1/\VR R1 a1 v1/\∀xE,Below w1.heap.size w1 xE->Calls E.P d2.1 d2.2 xE fun e w2=>∃(v2:Value) (R2:Mp),e= .returned v2/\R.le R2/\VR R2 a2 v2/\Qc (fun k=>(k<w1.heap.size/\B k)\/xE.heap.size<=k) xE R2 σ' w2:=by
 obtain ⟨h1,h2,h3⟩:=hA;rw [runs]at h
 split at h
 . rename_i v σ1 hr
   split at h
   . rename_i vs1 σ2 qS;cases h;rw [<-h1];refine (Mh hE hO hr hS h2).mono ?_
     rintro e w1 ⟨R1,v',rfl,e1,e2,e3⟩;refine ⟨v',R1,rfl,e3.below,e2,fun xE hb=> ?_⟩;have:=Pn hE hO qS (e3.Ay hb) (h3.mono e1.le);unfold yc at this;refine this.mono ?_
     rintro e w2 ⟨v2,rfl,-,h4⟩;unfold yc at h4;obtain ⟨R2,q1,q2,q3⟩:=h4;obtain ⟨y,l1,ey,hy,-⟩:=LR.ya q2;cases ey;exact ⟨v2,R2,rfl,Mp.le_trans e1.le q1,hy,q3⟩
   . cases h
 . cases h
section
variable{tab:List Vc}{W:World}{p q m r l:Nat}{A:Rv}{c:Xc}{S:Shape}{ρ:Nat->Int}{γ:Nat->Gh}{B:Nat->Prop}{w0:World}{R:Mp}{w:World}
theorem V5{s:Vc}(h:We tab W p q m r l A c s.shape ρ γ B w0 R w)(oq:Wd A)(k0:1<=ρ 1)(k1:ρ 1<=8)(c1:A.ck<999000)(w1:A.wm<999000):∀z,z∈kF s-> @den (Th.at ρ γ) z.1= @den (Th.at ρ γ) z.2:=by
 letI:Interp:=Th.at ρ γ
 intro z hz;rcases ly hz with hz|hz
 . have dv:den (vr 3 1)= .v (.int .i64 (ρ 1)):=by
    show Tc.v (Value.int .i64 (IntKind.i64.wrap (ρ 1)))=_
    rw [Ln _ (by omega) (by omega)]
   have dl:∀n:Int,den (Cb n)= .v (.int .i64 n):=fun n=>rfl
   simp only [R5,List.mem_cons,List.not_mem_nil,or_false]at hz;rcases hz with rfl|rfl
   . have e:den (sy 280 [vr 3 1,Cb 1])=Bh 280 [den (vr 3 1),den (Cb 1)]:=rfl;rw [e,dv,dl]
     show Tc.v (fk 8 (if ρ 1<1 then 1 else 0))=Tc.v (.bool false)
     rw [if_neg (by omega)];rfl
   . have e:den (sy 280 [Cb 8,vr 3 1])=Bh 280 [den (Cb 8),den (vr 3 1)]:=rfl;rw [e,dv,dl]
     show Tc.v (fk 8 (if 8<ρ 1 then 1 else 0))=Tc.v (.bool false)
     rw [if_neg (by omega)];rfl
 . exact h.facts oq c1 w1 z hz
theorem By{cs:List (FuncId×List Value)}{g:List Value->Bool}{s:Vc}{t:Tree}(Tu:Ml env 100000 cs (tu g) (ug tab) 5 (Rp s.shape.Sb) t (kF s)=true)(Vg:Gi tab=true)(h:We tab W p q m r l A c s.shape ρ γ B w0 R w)(k0:1<=ρ 1)(k1:ρ 1<=8)(c1:A.ck<999000)(w1:A.wm<999000){ds:List (FuncId×Array Value)}(hA: @Ui (Th.at ρ γ) R cs ds):
  yc Tryz.prog (fun w'=>Below W.heap.size W w') ds (fun ws w'=>∃(vs:List Value) (S':Shape) (A':Rv) (ρ':Nat->Int) (γ':Nat->Gh) (R1 R':Mp),g vs=true/\ @LR (Th.at ρ γ) R1 vs ws/\We tab W p q m r l A' c S' ρ' γ' B w0 R' w'/\Grown A A'/\ρ' 1=ρ 1) w:=by
 have oq:=h.wd Vg;have hk:=V5 h oq k0 k1 c1 w1;have ht:∀w',Ci B w0 w'->Below W.heap.size W w':=fun w' k=>by
  have b:=h.base;exact ⟨k.os.trans b.os,k.tape.trans b.tape,k.output.trans b.output,Nat.le_trans b.size k.size,fun i hi=>(k.block i (Nat.lt_of_lt_of_le hi b.size) fun hB=>by have:=h.own i hB;omega).trans (b.block i hi)⟩
 refine ((Sn Kn h.ins.Yj hA Tu hk).imp ht).mono ?_
 rintro ws w' ⟨j,S',vs,sb,R1,hj,ym,hle,hLR,Bg,bq⟩;unfold tu at ym;simp only [Da,Bool.and_eq_true]at ym;obtain ⟨hg,ox,mH⟩:=ym;obtain ⟨A',ng',Ni⟩:=qt (θ:=sb.θ) h.ng oq.Cm oq.WQ ox h.ng.Cn;have hr:∀i x,i<5->(∃s,R i=some (x,s))->∃s,Lj sb.f R1 i=some (x,s):=fun i x hi ⟨s,e⟩=>⟨s,by rw [bq i hi];exact hle _ _ e⟩
 exact ⟨vs,S',A',_,_,R1,_,hg,hLR,⟨List.mem_of_getElem? hj,ng',Bg,hr 0 p (by omega) h.r0,hr 1 q (by omega) h.r1,hr 2 m (by omega) h.r2,hr 3 r (by omega) h.r3,hr 4 l (by omega) h.r4,h.base,h.own⟩,Ni,wy mH⟩
theorem We.Ay(h:We tab W p q m r l A c S ρ γ B w0 R w){w1:World}(hb:Below w.heap.size w w1):We tab W p q m r l A c S ρ γ (fun k=>(k<w.heap.size/\B k)\/w1.heap.size<=k) w1 R w1:=
 have hw:=h.below
 ⟨h.tab,h.ng,⟨h.ins.facts, @Qc.Ay (Th.at ρ γ) _ _ _ _ _ _ h.ins.Yj hb⟩,h.r0,h.r1,h.r2,h.r3,h.r4,hw.trans (hb.mono hw.size),fun k hk=>hk.elim (fun e=>h.own k e.2) (fun e=>Nat.le_trans hw.size (Nat.le_trans hb.size e))⟩
theorem ZU{s0:Vc}(h0:s0.shape.Sb=Ap)(hf0:s0.shape.facts=[])(h:We tab W p q m r l A c s0.shape ρ γ B w0 R w)(k x y:Int):∃(ρ':Nat->Int) (R':Mp),We tab W p q m r l A c s0.shape ρ' γ B w0 R' w/\ρ' 1=k/\ρ' 2=x/\ρ' 3=y:=by
 have hs:=h.ins.Yj;rw [h0]at hs;have hm:D4 (env.Ll []) [vr 3 0, .int .i64 k, .int .u32 x, .int .u32 y] [vr 9 0,vr 11 1] [0,1,2,3,4] (Rp Ap) [0,1,2,3,4] Ap=true:=by kernel_rfl
 have:=reshape (T:=Th) ρ γ [vr 3 0, .int .i64 k, .int .u32 x, .int .u32 y] [vr 9 0,vr 11 1] (xas ρ γ) hs hm (by kernel_rfl);have hγ:=Q5 (ρ:=ρ) h.ng (η:=[vr 9 0,vr 11 1]) (by kernel_rfl);have hr:∀i x,i<5->(∃s,R i=some (x,s))->∃s,Lj [0,1,2,3,4] R i=some (x,s):=fun i x hi ⟨s,e⟩=>⟨s,by
  unfold Lj
  match i,hi with
  |0,_=>exact e
  |1,_=>exact e
  |2,_=>exact e
  |3,_=>exact e
  |4,_=>exact e⟩
 refine ⟨qm (T:=Th) ρ γ [vr 3 0, .int .i64 k, .int .u32 x, .int .u32 y],Lj [0,1,2,3,4] R,⟨h.tab,h.ng,⟨fun z hz=> ?_, ?_⟩,hr 0 p (by omega) h.r0,hr 1 q (by omega) h.r1,hr 2 m (by omega) h.r2,hr 3 r (by omega) h.r3,hr 4 l (by omega) h.r4,h.base,h.own⟩,rfl,rfl,rfl⟩
 . rw [hf0]at hz;cases hz
 . rw [h0];have e: @ri Th ρ γ [vr 3 0, .int .i64 k, .int .u32 x, .int .u32 y] [vr 9 0,vr 11 1]=Th.at (qm (T:=Th) ρ γ [vr 3 0, .int .i64 k, .int .u32 x, .int .u32 y]) (zk (T:=Th) ρ γ [vr 9 0,vr 11 1]):=rfl;rw [hγ]at e;rw [<-e];exact this
end
end Sk
end Go.Proofs.YtfnkmolffhfpoaaGreat
