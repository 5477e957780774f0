/- -/
import Derived.Test.YtfnkmolffhfpoaaGreatHp34
import Derived.Test.YtfnkmolffhfpoaaGreatHp35
import Derived.Test.YtfnkmolffhfpoaaGreatHp36
import Derived.Test.YtfnkmolffhfpoaaGreatHp37
import Derived.Test.YtfnkmolffhfpoaaGreatHp38
import Derived.Test.YtfnkmolffhfpoaaGreatHp39
import Derived.Test.YtfnkmolffhfpoaaGreatHp40
import Derived.Test.YtfnkmolffhfpoaaGreatHp41
import Derived.Test.YtfnkmolffhfpoaaGreatHp42
import Derived.Test.YtfnkmolffhfpoaaGreatHp43
import Derived.Test.YtfnkmolffhfpoaaGreatHp33
import Derived.Sort.CutIn
import Derived.WalkSmall
import Derived.Deep.RegionHeld3
set_option maxRecDepth 100000
set_option linter.unusedVariables false
set_option linter.unusedSimpArgs false
namespace Go.Proofs.YtfnkmolffhfpoaaGreat
namespace Sk
theorem FaM:Gf Gb aaE=true:=by kernel_rfl
theorem GaM:Gf Gb baE=true:=by kernel_rfl
theorem kU:S5 Gb S2 tU0=true:=by kernel_rfl
theorem iU:Ml env 100000 Ras (tu gI) (ug Gb) 5 (Rp S2.shape.Sb) iU0 (kF S2)=true:=by kernel_rfl
theorem HaM:Nn (OkS Gb S2) []:=trivial
theorem Gv:Nn (OkS Gb S2) Gb:=⟨⟨.inl rfl,_,kU⟩,(Xb (Xb (Xb (Xb (Xb (Xb (Xb (Xb (Xb (Xb (Xb (Xb (Xb (Xb (Xb (Xb (Xb (Xb (Xb (Xb (Xb (Xb (Xb (Xb (Xb (Xb (Xb (Xb (Xb (Xb (Xb (Xb (Xb (Xb (Xb (Xb (Xb (Xb (Xb (Xb (Xb (Xb (Xb (Xb (Xb (Xb (Xb (Xb (Xb (Xb (Xb (Xb (Xb (Xb (Xb (Xb (Xb (Xb (Xb (Xb (Xb (Xb (Xb (Xb (Xb (Xb (Xb (Xb (Xb (Xb (Xb (Xb (Xb (Xb HaM GaM) FaM) EaM) DaM) CaM) BaM) AaM) zaM) yaM) xaM) waM) vaM) uaM) taM) saM) raM) qaM) paM) oaM) naM) maM) laM) kaM) jaM) iaM) haM) gaM) faM) eaM) daM) caM) baM) aaM) ZaL) YaL) XaL) WaL) VaL) UaL) TaL) SaL) RaL) QaL) PaL) OaL) NaL) MaL) LaL) KaL) JaL) IaL) HaL) GaL) FaL) EaL) DaL) CaL) BaL) AaL) zaL) yaL) xaL) waL) vaL) kU9) kU8) kU7) kU6) kU5) kU4) kU3) kU2) kU1) kU0)⟩
end Sk
end Go.Proofs.YtfnkmolffhfpoaaGreat
namespace Go.Proofs.YtfnkmolffhfpoaaGreat
namespace Sk
open Go.RowKit Go.BigFrame
theorem VW:S2.shape.Sb=Ap:=by kernel_rfl
theorem MN:S2.shape.facts=[]:=by kernel_rfl
theorem WW:Nn (fun s=>∃t,S5 Gb s t=true) Gb:=Nn.mono (fun s h=>h.2) Gv
theorem Yn:Gi Gb=true:=Bt WW
def Uc(W1:World)(p q m r l:Nat)(c:Xc)(n:Nat)(wr:World):Prop:=∃(A:Rv) (S:Shape) (ρ:Nat->Int) (γ:Nat->Gh) (B:Nat->Prop) (w0:World),ai Gb W1 p q m r l A c S ρ γ B w0 wr/\(A.ck<=(n:Int)/\A.wm<=(n:Int))/\0<A.np/\1<=ρ 1/\ρ 1<=8
section
variable{W1:World}{p q m r l:Nat}{c:Xc}{n:Nat}{w:World}
theorem Uc.below(h:Uc W1 p q m r l c n w):Below W1.heap.size W1 w:=by
 obtain ⟨A,S,ρ,γ,B,w0,⟨R,h⟩,-⟩:=h;exact h.below
theorem Uc.more{n':Nat}(h:Uc W1 p q m r l c n w)(hn:n<=n'):Uc W1 p q m r l c n' w:=by
 obtain ⟨A,S,ρ,γ,B,w0,h,hb,h2⟩:=h;exact ⟨A,S,ρ,γ,B,w0,h,⟨by omega,by omega⟩,h2⟩
theorem Hy{A:Rv}{S:Shape}{ρ:Nat->Int}{γ:Nat->Gh}{B:Nat->Prop}{w0 w':World}(h:ai Gb W1 p q m r l A c S ρ γ B w0 w)(hb:Below w.heap.size w w'):ai Gb W1 p q m r l A c S ρ γ B w0 w':=by
 obtain ⟨R,h⟩:=h;exact ⟨R,h.grow Yn hb⟩
theorem Uc.grow{w':World}(h:Uc W1 p q m r l c n w)(hb:Below w.heap.size w w'):Uc W1 p q m r l c n w':=by
 obtain ⟨A,S,ρ,γ,B,w0,h,h2⟩:=h;exact ⟨A,S,ρ,γ,B,w0,Hy h hb,h2⟩
theorem Gt{A A':Rv}{S':Shape}{ρ':Nat->Int}{γ':Nat->Gh}{B:Nat->Prop}{w0:World}{R':Mp}(hp:We Gb W1 p q m r l A' c S' ρ' γ' B w0 R' w)(Ni:Grown A A')(hb:A.ck<=(n:Int)/\A.wm<=(n:Int))(Zj:0<A.np)(k0:1<=ρ' 1)(k1:ρ' 1<=8):Uc W1 p q m r l c (n+30) w:=
 ⟨A',S',ρ',γ',B,w0,⟨R',hp⟩,⟨by have:=Ni.1.1;omega,by have:=Ni.1.2;omega⟩,by rw [Ni.2];exact Zj,k0,k1⟩
theorem FH(h:Uc W1 p q m r l c n w)(hn:n<=900000):
  Calls Tryz.prog 27 #[.pointer (some ⟨p,0,none⟩), .pointer (some ⟨m,0,none⟩)] w fun e w1=>∃v,e= .returned v/\Below W1.heap.size W1 w1/\Calls Tryz.prog 37 #[.pointer (some ⟨q,0,none⟩), .pointer (some ⟨r,0,none⟩)] w1 fun e w2=>∃b:Bool,v= .bool b/\e= .returned (.bool b)/\Uc W1 p q m r l c (n+30) w2:=by
 obtain ⟨A,S,ρ,γ,B,w0,⟨R,h⟩,hb,Zj,k0,k1⟩:=h;obtain ⟨s,rfl,-,t,ht⟩:=Gv.of h.tab;have hA: @Ui (Th.at ρ γ) R UU [(27,#[.pointer (some ⟨p,0,none⟩), .pointer (some ⟨m,0,none⟩)]),(37,#[.pointer (some ⟨q,0,none⟩), .pointer (some ⟨r,0,none⟩)])]:=
  ⟨rfl, @lr2 (Th.at ρ γ) _ _ _ _ _ h.UJ h.zas,rfl, @lr2 (Th.at ρ γ) _ _ _ _ _ h.dQ h.Aas,trivial⟩
 have:=By (UD ht).1 Yn h k0 k1 (by omega) (by omega) hA
 unfold yc at this;refine this.mono ?_
 rintro e w1 ⟨v,rfl,Jm,h2⟩;refine ⟨v,rfl,Jm, ?_⟩;unfold yc at h2;refine h2.mono ?_
 rintro e w2 ⟨v2,rfl,-,h3⟩;unfold yc at h3;obtain ⟨us,S',A',ρ',γ',R1,R',hg,hl,hp,Ni,hρ⟩:=h3;unfold gS at hg
 split at hg
 . rename_i a b;obtain rfl:=VD hg;obtain ⟨u1,l1,e1,g1,hl⟩:= @LR.ya (Th.at ρ γ) _ _ _ _ hl;cases e1;obtain ⟨u2,l2,e2,g2,hl⟩:= @LR.ya (Th.at ρ γ) _ _ _ _ hl;cases e2;exact ⟨a, @Jh (Th.at ρ γ) _ _ _ g1,by rw [@Jh (Th.at ρ γ) _ _ _ g2],Gt hp Ni hb Zj (by omega) (by omega)⟩
 . cases hg
theorem lK(h:Uc W1 p q m r l c n w)(hn:n<=900000)(k x y:Int)(ka:-9223372036854775808<=k)(kb:k<=9223372036854775807)(x0:0<=x)(x1:x<=4294967295)(y0:0<=y)(y1:y<=4294967295):
  Calls Tryz.prog 28 #[.pointer (some ⟨p,0,none⟩), .agg #[.int .i64 k, .int .u32 x, .int .u32 y]] w fun e w1=>∃v,e= .returned v/\Below W1.heap.size W1 w1/\Calls Tryz.prog 35 #[.pointer (some ⟨q,0,none⟩), .agg #[.int .i64 k, .int .u32 x, .int .u32 y]] w1 fun e w2=>∃z:Int,v= .int .i64 z/\e= .returned (.int .i64 z)/\Uc W1 p q m r l c (n+30) w2:=by
 have h0:=h;obtain ⟨A,S,ρ,γ,B,w0,⟨R,h⟩,hb,Zj,k0,k1⟩:=h;obtain ⟨nn,kk,xx,yy,z1,z2,z3,z4,z5,z6,OK,ht⟩:=uu WW h (by omega) (by omega);obtain ⟨c5,-,-,-,c2,hp,hq⟩:=(ht B w0).at_ w ⟨R,h⟩
 by_cases tg:nn≠0\/¬(1<=k/\k<=8)
 . refine (bV p nn k (.int .u32 x) (.int .u32 y) w c2 hp tg).mono ?_
   rintro e w1 ⟨rfl,Jm⟩;have h1:=h0.grow Jm;refine ⟨_,rfl,h1.below, ?_⟩;refine (aV q nn k (.int .u32 x) (.int .u32 y) w1 ((Jm.cell (p:=⟨q,5,none⟩) hq).trans c5) (Nat.lt_of_lt_of_le hq Jm.size) tg).mono ?_
   rintro e w2 ⟨rfl,Uj⟩;exact ⟨_,rfl,rfl,(h1.grow Uj).more (by omega)⟩
 . have yC:nn=0:=Classical.byContradiction fun f=>tg (.inl f)
   have hk:1<=k/\k<=8:=Classical.byContradiction fun f=>tg (.inr f)
   subst yC;obtain ⟨s,rfl,hs0,-⟩:=Gv.of h.tab;have hpz:Gr s.shape=0:=N1 (n:=0) OK;obtain rfl:=hs0.resolve_right fun f=>f hpz
   obtain ⟨ρ',R',h',e1,e2,e3⟩:=ZU VW MN h k x y;have Wj: @VR (Th.at ρ' γ) R' opL (.agg #[.int .i64 k, .int .u32 x, .int .u32 y]):=
    @Oah (Th.at ρ' γ) R' _ [.int .i64 k, .int .u32 x, .int .u32 y] (@LR.cons (Th.at ρ' γ) _ _ _ _ _ (Nah 1 k e1 ka kb) (@lr2 (Th.at ρ' γ) _ _ _ _ _ (NU 2 x e2 x0 x1) (NU 3 y e3 y0 y1)))
   have hA: @Ui (Th.at ρ' γ) R' Ras [(28,#[.pointer (some ⟨p,0,none⟩), .agg #[.int .i64 k, .int .u32 x, .int .u32 y]]),(35,#[.pointer (some ⟨q,0,none⟩), .agg #[.int .i64 k, .int .u32 x, .int .u32 y]])]:=
    ⟨rfl, @lr2 (Th.at ρ' γ) _ _ _ _ _ h'.UJ Wj,rfl, @lr2 (Th.at ρ' γ) _ _ _ _ _ h'.dQ Wj,trivial⟩
   have:=By iU Yn h' (by omega) (by omega) (by omega) (by omega) hA;unfold yc at this;refine this.mono ?_
   rintro e w1 ⟨v,rfl,Jm,h2⟩;refine ⟨v,rfl,Jm, ?_⟩;unfold yc at h2;refine h2.mono ?_
   rintro e w2 ⟨v2,rfl,-,h3⟩;unfold yc at h3;obtain ⟨us,S',A',ρ2,γ2,R1,R2,hg,hl,hp,Ni,hρ⟩:=h3;unfold gI at hg
   split at hg
   . rename_i a b;simp only [Da,Bool.and_eq_true]at hg;obtain rfl:=Vf hg.1
     obtain rfl:=Vf hg.2
     obtain ⟨u1,l1,e1',g1,hl⟩:= @LR.ya (Th.at ρ' γ) _ _ _ _ hl;cases e1';obtain ⟨u2,l2,e2',g2,hl⟩:= @LR.ya (Th.at ρ' γ) _ _ _ _ hl;cases e2';exact ⟨0, @qc (Th.at ρ' γ) _ _ _ _ g1,by rw [@qc (Th.at ρ' γ) _ _ _ _ g2],Gt hp Ni hb Zj (by omega) (by omega)⟩
   . cases hg
theorem T2{S:Shape}{A:Rv}{ρ:Nat->Int}{γ:Nat->Gh}{B:Nat->Prop}{w0:World}(tg:M1 env S (pj S.facts Ak)=true)(c1:A.ck<999000)(w1:A.wm<999000):(∀w,ai Gb W1 p q m r l A c S ρ γ B w0 w->Calls Tryz.prog 26 #[.pointer (some ⟨p,0,none⟩)] w fun e w'=>e= .returned (.tuple #[.agg #[.int .i64 0, .int .u32 0], .int .i64 4])/\ai Gb W1 p q m r l A c S ρ γ B w0 w')/\∀w,ai Gb W1 p q m r l A c S ρ γ B w0 w->Calls Tryz.prog 36 #[.pointer (some ⟨q,0,none⟩)] w fun e w'=>e= .returned (.tuple #[.agg #[.int .i64 0, .int .u32 0], .int .i64 4])/\ai Gb W1 p q m r l A c S ρ γ B w0 w':=by
 have key:∀(R1:Mp) (u:Value), @VR (Th.at ρ γ) R1 (.tuple ⟨[.agg ⟨[.int .i64 0, .int .u32 0]⟩, .int .i64 4]⟩) u->u= .tuple #[.agg #[.int .i64 0, .int .u32 0], .int .i64 4]:=fun R1 u hu=>by
  obtain ⟨l',hl,rfl⟩:= @oC (Th.at ρ γ) _ _ _ hu;obtain ⟨u1,l1,rfl,g1,hl⟩:= @LR.ya (Th.at ρ γ) _ _ _ _ hl;obtain ⟨u2,l2,rfl,g2,hl⟩:= @LR.ya (Th.at ρ γ) _ _ _ _ hl;obtain rfl:= @LR.ic (Th.at ρ γ) _ _ hl;obtain rfl:= @qc (Th.at ρ γ) _ _ _ _ g2;rw [WD (ρ:=ρ) (γ:=γ) (x:= .int .i64 0) (y:= .int .u32 0) (fun R1 u h=> @qc (Th.at ρ γ) _ _ _ _ h) (fun R1 u h=> @qc (Th.at ρ γ) _ _ _ _ h) _ _ g1]
 unfold M1 at tg
 split at tg
 . rename_i a b e h1
   split at tg
   . rename_i a' b' e' h2;simp only [Da,Bool.and_eq_true]at tg;obtain ⟨⟨q1,q2,q3⟩,q4,q5,q6⟩:=tg;obtain rfl:=Vf q1;obtain rfl:=Vf q2;obtain rfl:=Vf q3;obtain rfl:=Vf q4;obtain rfl:=Vf q5;obtain rfl:=Vf q6;exact ⟨fun w hw=>Ph h1 Yn c1 w1 (fun R w k=>k.UJ) key hw,fun w hw=>Ph h2 Yn c1 w1 (fun R w k=>k.dQ) key hw⟩
   . cases tg
 . cases tg
theorem GH(h:Uc W1 p q m r l c n w)(hn:n<=900000):∃z1 z2 z3:Int,
  Calls Tryz.prog 26 #[.pointer (some ⟨p,0,none⟩)] w fun e w1=>e= .returned (.tuple #[.agg #[.int .i64 z1, .int .u32 z2], .int .i64 z3])/\Below W1.heap.size W1 w1/\∀xE,Below w1.heap.size w1 xE->Calls Tryz.prog 36 #[.pointer (some ⟨q,0,none⟩)] xE fun e w2=>e= .returned (.tuple #[.agg #[.int .i64 z1, .int .u32 z2], .int .i64 z3])/\(∀k,w1.heap.size<=k->k<xE.heap.size->w2.heap[k]?=xE.heap[k]?)/\Uc W1 p q m r l c (n+30) w2:=by
 have h0:=h;obtain ⟨A,S,ρ,γ,B,w0,⟨R,h⟩,hb,Zj,k0,k1⟩:=h;obtain ⟨s,rfl,-,t,ht⟩:=Gv.of h.tab;obtain ⟨-,h4,tg,-⟩:=UD ht;by_cases hp:Gr s.shape=4
 . have Tu:=h4 hp;have oq:=h.wd Yn;have hk:∀z,z∈kF s-> @den (Th.at ρ γ) z.1= @den (Th.at ρ γ) z.2:=V5 h oq k0 k1 (by omega) (by omega)
   simp only [Ml]at Tu
   split at Tu
   . rename_i vs σ' hr
     split at Tu
     . rename_i S' hS'
       split at Tu
       . rename_i hh;unfold tu at Tu;simp only [Da,Bool.and_eq_true]at Tu;obtain ⟨hg,ox,mH⟩:=Tu;unfold gT at hg
         split at hg
         . rename_i a b e a' b' e';simp only [Da,Bool.and_eq_true]at hg;obtain ⟨q1,q2,q3,q4,q5,q6⟩:=hg;obtain rfl:=Vf q1;obtain rfl:=Vf q2;obtain ⟨v1,s1,f1,g1⟩:=xy (ρ:=ρ) (γ:=γ) q3 q5;obtain ⟨v2,s2,f2,g2⟩:=xy (ρ:=ρ) (γ:=γ) q4 q6;obtain ⟨z1,rfl⟩:=fq s1;obtain ⟨z2,rfl⟩:=SD s2;have hA: @Ui (Th.at ρ γ) R VU [(26,#[.pointer (some ⟨p,0,none⟩)]),(36,#[.pointer (some ⟨q,0,none⟩)])]:=
            ⟨rfl, @lr1 (Th.at ρ γ) _ _ _ h.UJ,rfl, @lr1 (Th.at ρ γ) _ _ _ h.dQ,trivial⟩
           obtain ⟨sS,hO1⟩:=Kn ρ γ (kF s) hk;have key:∀(a b:Value),(∀(R1:Mp) (v:Value), @VR (Th.at ρ γ) R1 a v->v= .int .i64 z1)->(∀(R1:Mp) (v:Value), @VR (Th.at ρ γ) R1 b v->v= .int .u32 z2)->∀(R1:Mp) (u:Value), @VR (Th.at ρ γ) R1 (.tuple ⟨[.agg ⟨[a,b]⟩, .int .i64 0]⟩) u->u= .tuple #[.agg #[.int .i64 z1, .int .u32 z2], .int .i64 0]:=fun a b ha hb R1 u hu=>by
            obtain ⟨l',hl,rfl⟩:= @oC (Th.at ρ γ) _ _ _ hu;obtain ⟨u1,l1,rfl,g1,hl⟩:= @LR.ya (Th.at ρ γ) _ _ _ _ hl;obtain ⟨u2,l2,rfl,g2,hl⟩:= @LR.ya (Th.at ρ γ) _ _ _ _ hl;obtain rfl:= @LR.ic (Th.at ρ γ) _ _ hl;obtain rfl:= @qc (Th.at ρ γ) _ _ _ _ g2;rw [WD ha hb _ _ g1]
           refine ⟨z1,z2,0, ?_⟩;refine (@lH (Th.at ρ γ) _ sS hO1 _ _ _ _ _ _ _ _ _ _ _ _ _ hr h.ins.Yj hA).mono ?_
           rintro e w1 ⟨u1,R1,rfl,uL,hv1,h2⟩;have b0:=h.base;have Jm:Below W1.heap.size W1 w1:=⟨uL.os.trans b0.os,uL.tape.trans b0.tape,uL.output.trans b0.output,Nat.le_trans b0.size uL.size,fun i hi=>(uL.block i (Nat.lt_of_lt_of_le hi b0.size) fun hB=>by have:=h.own i hB;omega).trans (b0.block i hi)⟩;refine ⟨by rw [key a b f1 f2 _ _ hv1],Jm,fun xE hbx=>(h2 xE hbx).mono ?_⟩;rintro e w2 ⟨u2,R2,rfl,hle,hv2,hs2⟩;have Uj:= @Qc.below (Th.at ρ γ) _ _ _ _ _ hs2;refine ⟨by rw [key a' b' g1 g2 _ _ hv2],fun k ka kb=>Uj.block k kb (by omega), ?_⟩;generalize II σ' 0 ⟨upN 5 0,[],[]⟩ S'.Sb=sb at hh ox mH;unfold OQ at hh;simp only [Da,Bool.and_eq_true,xd,decide_eq_true_eq]at hh;obtain ⟨j1,j2,j3,j4,j5⟩:=hh;obtain ⟨A',ng',Ni⟩:=qt (θ:=sb.θ) h.ng oq.Cm oq.WQ ox h.ng.Cn;have Bg:InS Th S' (qm (T:=Th) ρ γ sb.θ) (zk (T:=Th) ρ γ sb.η) _ xE (Lj sb.f R2) w2:=⟨Rq (T:=Th) ρ γ sb.θ sb.η sS j3,reshape (T:=Th) ρ γ sb.θ sb.η sS hs2 j1 j2⟩;have bq:∀i,i<5->Lj sb.f R2 i=R2 i:=fun i hi=>by
            rw [Dc]at j5;have hl:i<sb.f.length:=by omega
            have h6:=Nl (j:=i) j4 (b:=sb.f[i]) (by rw [Sq,List.getElem?_take,if_pos hi];exact List.getElem?_eq_getElem hl);unfold Lj;rw [List.getElem?_eq_getElem hl,h6];simp
           have MG:∀i x,i<5->(∃s,R i=some (x,s))->∃s,Lj sb.f R2 i=some (x,s):=fun i x hi ⟨s,e⟩=>⟨s,by rw [bq i hi];exact hle _ _ e⟩
           rw [Pc]at hS';exact Gt (A:=A) ⟨List.mem_of_getElem? hS',ng',Bg,MG 0 p (by omega) h.r0,MG 1 q (by omega) h.r1,MG 2 m (by omega) h.r2,MG 3 r (by omega) h.r3,MG 4 l (by omega) h.r4,Jm.trans (hbx.mono Jm.size),fun k hk=>hk.elim (fun e=>h.own k e.2) (fun e=>Nat.le_trans Jm.size (Nat.le_trans hbx.size e))⟩ Ni hb Zj (by rw [wy mH];exact k0) (by rw [wy mH];exact k1)
         . cases hg
       . cases Tu
     . cases Tu
   . cases Tu
 . have vL:=fun(B:Nat->Prop) (w0:World)=>T2 (W1:=W1) (p:=p) (q:=q) (m:=m) (r:=r) (l:=l) (c:=c) (B:=B) (w0:=w0) (ρ:=ρ) (γ:=γ) (tg hp) (A:=A) (by omega) (by omega)
   refine ⟨0,0,4,((vL B w0).1 w ⟨R,h⟩).mono ?_⟩;rintro e w1 ⟨rfl,hs1⟩;have r1:Uc W1 p q m r l c n w1:=⟨A,_,ρ,γ,B,w0,hs1,hb,Zj,k0,k1⟩;refine ⟨rfl,r1.below,fun xE hbx=> ?_⟩;obtain ⟨R1,hs1⟩:=hs1;refine ((vL _ _).2 xE ⟨R1,hs1.Ay hbx⟩).mono ?_
   rintro e w2 ⟨rfl,R2,hs2⟩;have Uj:= @Qc.below (Th.at ρ γ) _ _ _ _ _ hs2.ins.Yj;have r2:Uc W1 p q m r l c n w2:=⟨A,_,ρ,γ,_,_,⟨R2,hs2⟩,hb,Zj,k0,k1⟩;exact ⟨rfl,fun k ka kb=>Uj.block k kb (by omega),r2.more (by omega)⟩
theorem mK(h:Uc W1 p q m r l c n w)(hn:n<=900000)(k t a o x:Int)(q0:-9223372036854775808<=a)(q1:a<=9223372036854775807)(hx:ud x):
  Calls Tryz.prog 12 #[.pointer (some ⟨m,0,none⟩), .agg #[.int .i64 k, .int .i64 t, .int .i64 a, .int .u64 o, .int .u64 x]] w fun e w1=>(∃v,e= .returned v)/\Below W1.heap.size W1 w1/\Calls Tryz.prog 13 #[.pointer (some ⟨r,0,none⟩), .agg #[.int .i64 k, .int .i64 t, .int .i64 a, .int .u64 o, .int .u64 x]] w1 fun e w2=>(∃v,e= .returned v)/\Uc W1 p q m r l c (n+30) w2:=by
 obtain ⟨A,S,ρ,γ,B,w0,⟨R,h⟩,hb,Zj,k0,k1⟩:=h;refine (oQ Yn h (by omega) (by omega) Zj k t a o x q0 q1 hx).mono ?_
 rintro e w1 ⟨hv,Jm,h2⟩;refine ⟨hv,Jm,h2.mono ?_⟩;rintro e w2 ⟨hv2,γ',hp⟩;obtain ⟨⟨g1,g2⟩,g3⟩:=mQ A k t a o x;exact ⟨hv2,_,S,ρ,γ',B,w0,⟨R,hp⟩,⟨by omega,by omega⟩,by rw [g3];exact Zj,k0,k1⟩
def Hv(W1:World)(p q m r l:Nat)(c:Xc)(A:Rv)(S:Shape)(ρ:Nat->Int)(γ:Nat->Gh)(Pr:Nat->Prop)(wb w:World):Prop:=∃B,ai Gb W1 p q m r l A c S ρ γ B wb w/\∀k,Pr k->¬B k/\k<wb.heap.size
theorem nK{A:Rv}{S:Shape}{ρ:Nat->Int}{γ:Nat->Gh}{Pr:Nat->Prop}{wb w:World}(h:Hv W1 p q m r l c A S ρ γ Pr wb w){k:Nat}(hk:Pr k):w.heap[k]?=wb.heap[k]?:=by
 obtain ⟨B,⟨R,h⟩,hp⟩:=h;obtain ⟨h1,h2⟩:=hp k hk;exact (@Qc.below (Th.at ρ γ) _ _ _ _ _ h.ins.Yj).block k h2 h1
theorem oK{A:Rv}{S:Shape}{ρ:Nat->Int}{γ:Nat->Gh}{Pr:Nat->Prop}{wb w w':World}(h:Hv W1 p q m r l c A S ρ γ Pr wb w)(hb:Below w.heap.size w w'):Hv W1 p q m r l c A S ρ γ (fun k=>Pr k\/(w.heap.size<=k/\k<w'.heap.size)) w' w':=by
 obtain ⟨B,⟨R,h⟩,hp⟩:=h;have hs:=(@Qc.below (Th.at ρ γ) _ _ _ _ _ h.ins.Yj).size
 refine ⟨_,⟨R,h.Ay hb⟩,fun k hk=> ?_⟩;rcases hk with hk|⟨ka,kb⟩
 . obtain ⟨h1,h2⟩:=hp k hk;have:=hb.size;exact ⟨fun e=>e.elim (fun e=>h1 e.2) (fun e=>by omega),by omega⟩
 . exact ⟨by omega,kb⟩
theorem IH(h:Uc W1 p q m r l c n w)(hn:n<=900000):
  ∃(z k x y z1 z2 z3 z4 z5 z6:Int) (St:(Nat->Prop)->World->World->Prop),(∃wb,St (fun _=>False) wb w)/\(∀Pr wb,Ct Tryz.prog p q z k x y z1 z2 z3 z4 z5 z6 (St Pr wb))/\(∀Pr wb w,St Pr wb w->Uc W1 p q m r l c n w)/\(∀Pr wb w,St Pr wb w->Calls Tryz.prog 14 #[.pointer (some ⟨m,0,none⟩), .pointer (some ⟨r,0,none⟩)] w fun e w'=>e= .returned (.bool true)/\St Pr wb w')/\(∀Pr wb w k,St Pr wb w->Pr k->w.heap[k]?=wb.heap[k]?)/\(∀Pr wb w w',St Pr wb w->Below w.heap.size w w'->St (fun k=>Pr k\/(w.heap.size<=k/\k<w'.heap.size)) w' w')/\∀Pr wb w w',St Pr wb w->Below w.heap.size w w'->St Pr wb w':=by
 obtain ⟨A,S,ρ,γ,B,w0,⟨R,h⟩,hb,Zj,k0,k1⟩:=h;obtain ⟨z,k,x,y,z1,z2,z3,z4,z5,z6,hz,ht⟩:=uu WW h (by omega) (by omega);exact ⟨z,k,x,y,z1,z2,z3,z4,z5,z6,Hv W1 p q m r l c A S ρ γ,⟨w0,B,⟨R,h⟩,fun k hk=>hk.elim⟩,fun Pr wb=>Ct.ex fun B=>ht B wb,fun Pr wb w ⟨B,hw,_⟩=>⟨A,S,ρ,γ,B,wb,hw,hb,Zj,k0,k1⟩,fun Pr wb w ⟨B,hw,hp⟩=>(nQ Yn hw).mono fun e w' q=>⟨q.1,B,q.2,hp⟩,fun Pr wb w k hw hk=>nK hw hk,fun Pr wb w w' hw hb=>oK hw hb,fun Pr wb w w' ⟨B,hw,hp⟩ hb=>⟨B,Hy hw hb,hp⟩⟩
theorem cE{W w2 w:World}{l:Nat}{M:Mv}{N:Rv}{c:Xc}{t:Int}{p q:Nat}{k1 k2 k3 a b d:Value}{cq:Array Value}(h2:Below W.heap.size W w2)(hb:Below w2.heap.size w2 w)(hl:Nc w2 l c.lv)(hf:Xh c)(hM:Ga w2 M)(hR:za w2 N)(lo:W.heap.size<=l)(qQ:∀k,M.own k->W.heap.size<=k/\k≠l/\¬N.own k)(T5:∀k,N.own k->W.heap.size<=k/\k≠l)(hml:jd M N)(oq:Wd N)(hc:N.ck<=200)(hw:N.wm<=200)(Zj:0<N.np)
  (hp:w.heap[p]?=some (.cells #[.pointer (some ⟨l,0,none⟩), .int .i64 t, .int .i64 0,k1,k2,k3,a,b,d] 161 (0,0)))(hq:w.heap[q]?=some (.cells cq 86 (0,0)))(Cs:cq.size=29)(hcq:(cq[0]?=some (.int .i64 c.th)/\cq[1]?=some (.int .i64 c.sl)/\cq[2]?=some (.int .i64 c.lo)/\cq[3]?=some (.int .i64 c.bu))/\cq[4]?=some (.int .i64 t)/\cq[5]?=some (.int .i64 0)/\cq[6]?=some (.int .i64 0)/\cq[7]?=some (.int .u32 0)/\cq[8]?=some (.int .u32 0))(CD:w2.heap.size<=p)(Q1:w2.heap.size<=q)(hpq:p≠q)(t0:-9223372036854775808<=t)(t1:t<=9223372036854775807):Uc W p q M.m N.m l c 200 w:=by
 obtain ⟨ρ,hρ⟩:∃ρ:Nat->Int,ρ=fun i=>match i with|0=>t|_=>1:=⟨_,rfl⟩
 have e0:ρ 0=t:=congrFun hρ 0;have e1:ρ 1=1:=congrFun hρ 1;have hng:NG (gam N c) N c:=⟨rfl,rfl,hf⟩;have hs:=P1 (h2.trans (hb.mono h2.size)) (hl.below hb hl.lt) hf (hM.below hb) (hR.below hb) lo qQ T5 hml oq hp hq Cs hcq
  ⟨Nat.le_trans h2.size CD,fun e=>by have:=hl.lt;omega,fun e=>by have:=hM.lt e;omega,fun e=>by have:=hR.lt e;omega⟩
  ⟨Nat.le_trans h2.size Q1,fun e=>by have:=hl.lt;omega,fun e=>by have:=hM.lt e;omega,fun e=>by have:=hR.lt e;omega⟩ hpq ρ e0 t0 t1
 rw [<-VW]at hs;exact ⟨N,S2.shape,ρ,gam N c,_,_,⟨mp5 p q M.m N.m l,⟨.head _,hng,⟨(fun z hz=>by rw [MN]at hz;cases hz),hs⟩,⟨9,rfl⟩,⟨29,rfl⟩,⟨0,rfl⟩,⟨0,rfl⟩,⟨0,rfl⟩,Below.refl _ _,fun k hk=>hk⟩⟩,⟨hc,hw⟩,Zj,by omega,by omega⟩
end
def dE:Prop:=∀w,Calls Tryz.prog 23 #[] w fun e w'=>e= .returned (.bool true)/\Below w.heap.size w w'
structure Qr where
 ki:Int
 k:Int
 x:Int
 y:Int
 pk:Bool
 ak:Int
 at_:Int
 ap:Int
 ao:Int
 an:Int
structure Ht(w:World)(b o:Nat)(v:Qr):Prop where
 c0:w.cell? ⟨b,o,none⟩=some (.int .i64 v.ki)
 c1:w.cell? ⟨b,o+1,none⟩=some (.int .i64 v.k)
 c2:w.cell? ⟨b,o+2,none⟩=some (.int .u32 v.x)
 c3:w.cell? ⟨b,o+3,none⟩=some (.int .u32 v.y)
 c4:w.cell? ⟨b,o+4,none⟩=some (.bool v.pk)
 c5:w.cell? ⟨b,o+5,none⟩=some (.int .i64 v.ak)
 c6:w.cell? ⟨b,o+6,none⟩=some (.int .i64 v.at_)
 c7:w.cell? ⟨b,o+7,none⟩=some (.int .i64 v.ap)
 c8:w.cell? ⟨b,o+8,none⟩=some (.int .u64 v.ao)
 c9:w.cell? ⟨b,o+9,none⟩=some (.int .u64 v.an)
structure XW(v:Qr):Prop where
 k0:-9223372036854775808<=v.k
 k1:v.k<=9223372036854775807
 x0:0<=v.x
 x1:v.x<=4294967295
 y0:0<=v.y
 y1:v.y<=4294967295
 p0:-9223372036854775808<=v.ap
 p1:v.ap<=9223372036854775807
 ne:ud v.an
theorem Ht.below{w w':World}{b o:Nat}{v:Qr}(h:Ht w b o v)(hl:b<w.heap.size)(hb:Below w.heap.size w w'):Ht w' b o v:=
 have k:=fun o:Nat=>World.cell?_of_block (a:=⟨b,o,none⟩) (hb.block b hl)
 ⟨(k _).trans h.c0,(k _).trans h.c1,(k _).trans h.c2,(k _).trans h.c3,(k _).trans h.c4,(k _).trans h.c5,(k _).trans h.c6,(k _).trans h.c7,(k _).trans h.c8,(k _).trans h.c9⟩
def Hj(W:World)(a:Option Addr)(n:Nat)(f:Nat->Qr):Prop:=
 ∀i,i<n->∃b off,a=some ⟨b,off,none⟩/\b<W.heap.size/\Ht W b (off+i*10) (f i)/\XW (f i)
theorem Hj.below{W W':World}{a:Option Addr}{n:Nat}{f:Nat->Qr}(h:Hj W a n f)(hb:Below W.heap.size W W'):Hj W' a n f:=fun i hi=>by
 obtain ⟨b,off,e,hl,h0,h1⟩:=h i hi;exact ⟨b,off,e,Nat.lt_of_lt_of_le hl hb.size,h0.below hl hb,h1⟩
set_option maxRecDepth 100000 in
theorem U2(HA:Hid dE)(c:Xc)(t:Int)(a:Option Addr)(len cap:Nat)(hl:len<=9223372036854775807)(at_ wv:Nat->Int)(a2:Option Addr)(n2 Rr:Nat)(W:World)(tg:¬(c.Cn/\len<=100)):Calls Tryz.prog 5 #[.agg (Sj c a len cap), .int .i64 t, .slice a2 n2 Rr] W (Fc (.bool true) W):=by
 have HL:Hid (∀w,Calls Tryz.prog 6 #[.agg (Sj c a len cap)] w fun e w'=>e= .returned (.tuple #[.pointer none, .pointer none, .pointer none, .bool false])/\Below w.heap.size w w'):=Lib.hid fun w=>by
  refine (C1 c a len cap hl at_ wv w tg).mono ?_
  rintro e w' (⟨-,h1,h2⟩|⟨h,-⟩)
  . exact ⟨h1,h2⟩
  . exact absurd h tg
 obtain ⟨th,sl,ib,bu⟩:=c;unfold Sj at*;simp only at*;have Vh:Hid (Below W.heap.size W (W.alloc (.cells #[.int .i64 th, .int .i64 sl, .int .i64 ib, .int .i64 bu, .slice a len cap] 26))):=Lib.hid ((Below.refl _ _).alloc (Nat.le_refl _) _);clear tg hl
 go_enter Tryz.func5,Tryz.ntmps5
 go_wp2_with (first|(go_at_call 6;refine (HL.out _).mono ?_;rintro e w2 ⟨rfl,hb⟩;have H2:=Lib.hid (Vh.out.trans (hb.mono Vh.out.size));clear hb)|(go_at_call 23;refine (HA.out _).mono ?_;rintro e w3 ⟨rfl,hb⟩;have H3:=Lib.hid (H2.out.trans (hb.mono H2.out.size));clear hb))
 go_ret
 exact ⟨rfl,H3.out⟩
set_option maxRecDepth 100000 in
theorem JQ(HA:Hid dE)(th sl ib bu:Nat)(t:Int)(hf:(⟨th,sl,ib,bu⟩:Xc).Cn)(a:Option Addr)(len cap:Nat)(hl:len<=100)(at_ wv:Nat->Int)(a2:Option Addr)(n2 Rr:Nat)(hn2:200<n2)(W:World)(hP:Rj W a len at_ wv):Calls Tryz.prog 5 #[.agg (Sj ⟨th,sl,ib,bu⟩ a len cap), .int .i64 t, .slice a2 n2 Rr] W (Fc (.bool true) W):=by
 obtain ⟨W1,mg⟩:∃W1,W1=W.alloc (.cells #[.int .i64 (th:Int), .int .i64 (sl:Int), .int .i64 (ib:Int), .int .i64 (bu:Int), .slice a len cap] 26):=⟨_,rfl⟩;have XH:=Lib.hid mg;have Jm:Below W.heap.size W W1:=by rw [mg];exact (Below.refl _ _).alloc (Nat.le_refl _) _
 have Vh:=Lib.hid Jm;have HL:Hid (Calls Tryz.prog 6 #[.agg #[.int .i64 (th:Int), .int .i64 (sl:Int), .int .i64 (ib:Int), .int .i64 (bu:Int), .slice a len cap]] W1 fun e w'=>∃l m r,e= .returned (.tuple #[.pointer (some ⟨l,0,none⟩), .pointer (some ⟨m,0,none⟩), .pointer (some ⟨r,0,none⟩), .bool true])/\Below W1.heap.size W1 w'):=Lib.hid (by
  refine (eH th sl ib bu hf a len cap hl at_ wv W1 (hP.below Jm)).mono ?_
  rintro e w' (⟨h,-⟩|⟨-,l,M,R,rfl,h⟩)
  . exact absurd ⟨hf,hl⟩ h
  . exact ⟨l,_,_,rfl,h.below⟩)
 have Vz:W1.heap[W.heap.size]?=some (.cells #[.int .i64 (th:Int), .int .i64 (sl:Int), .int .i64 (ib:Int), .int .i64 (bu:Int), .slice a len cap] 26 (0,0)):=by rw [mg];exact heap_alloc_new _ _
 have g0:=ma Vz 0 _ rfl;have g1:=ma Vz 1 _ rfl;have g2:=ma Vz 2 _ rfl;have g3:=ma Vz 3 _ rfl;have g4:=ma Vz 4 _ rfl;have d1:decide ((200:Int)<(n2:Int))=true:=decide_eq_true (by omega);have d2:decide (200<n2)=true:=decide_eq_true hn2;unfold Sj;simp only;clear hf hl hP hn2 mg Jm Vz
 go_enter Tryz.func5,Tryz.ntmps5
 go_upto_region 1 with fail
 rw [<-XH.out]
 go_wp2_with (first|(go_at_call 6;refine HL.out.mono ?_;rintro e w2 ⟨l,m,r,rfl,hb⟩;have H2:=Lib.hid (Vh.out.trans (hb.mono Vh.out.size));clear hb)|(go_at_call 23;refine (HA.out _).mono ?_;rintro e w3 ⟨rfl,hb⟩;have H3:=Lib.hid (H2.out.trans (hb.mono H2.out.size));clear hb))
 go_ret
 exact ⟨rfl,H3.out⟩
end Sk
end Go.Proofs.YtfnkmolffhfpoaaGreat
