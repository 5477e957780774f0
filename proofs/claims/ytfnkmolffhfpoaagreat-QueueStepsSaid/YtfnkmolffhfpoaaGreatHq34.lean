/- -/
import Derived.Test.YtfnkmolffhfpoaaGreatHq32
import Derived.Test.YtfnkmolffhfpoaaGreatHq33
import Derived.Test.YtfnkmolffhfpoaaGreatHq29
import Derived.Test.YtfnkmolffhfpoaaGreatHq22
set_option linter.unusedVariables false
set_option linter.unusedSimpArgs false
set_option linter.unusedSectionVars false
namespace Go.Proofs.YtfnkmolffhfpoaaGreat
open Go.RowKit Go.BigFrame
theorem mr{M:Rv}{at_:Int}(h:(M.La at_).2=false):(M.La at_).1=0:=by
 unfold Rv.La te at*;by_cases h0:0<=at_<;>by_cases h1:at_/8<(M.n:Int)<;>by_cases h2:-1 -at_<(M.np:Int)<;>simp [h0,h1,h2]at h⊢
theorem vx{M:Rv}{at_:Int}(h:(M.La at_).2=true):(0<=at_/\at_.toNat<8*M.n)\/(¬0<=at_/\(-1 -at_).toNat<M.np/\at_=-1 -((-1 -at_).toNat:Int)):=by
 unfold Rv.La te at h;by_cases h0:0<=at_
 . rw [if_pos h0]at h;by_cases h1:at_/8<(M.n:Int)
   . exact Or.inl ⟨h0,by omega⟩
   . rw [if_neg h1]at h;cases h
 . rw [if_neg h0]at h;by_cases h1:-1 -at_<(M.np:Int)
   . exact Or.inr ⟨h0,by omega,by omega⟩
   . rw [if_neg h1]at h;cases h
theorem nr(M:Rv)(t at_ old w:Int)(q0:-9223372036854775808<=at_)(q1:at_<=9223372036854775807)(W:World)(h:ua W M)(hc:M.ck<=1000000):
  Calls Tryz.prog 47 #[.pointer (some ⟨M.m,0,none⟩), .int .i64 1, .int .i64 t, .int .i64 at_, .int .u64 old, .int .u64 w] W (xi M (M.load t at_) W):=by
 unfold Rv.load Rv.Me Rv.res;cases hp:(M.La at_).2 with
 |true=>
  have:=xC M t at_ old w q0 q1 W h hc (M.La at_).1 (Prod.ext rfl hp)
  simpa [hp]using this
 |false=>
  have e:=mr hp;have:=Vy M t at_ old w q0 q1 W h hc 0 (Prod.ext e hp)
  simpa [hp]using this
theorem uk(M:Rv)(t at_ old w:Int)(q0:-9223372036854775808<=at_)(q1:at_<=9223372036854775807)(W:World)(h:ua W M)(hc:M.ck<=1000000):
  Calls Tryz.prog 47 #[.pointer (some ⟨M.m,0,none⟩), .int .i64 2, .int .i64 t, .int .i64 at_, .int .u64 old, .int .u64 w] W (xi M (M.store t at_ w) W):=by
 unfold Rv.store Rv.Me Rv.res;cases hp:(M.La at_).2 with
 |true=>
  rcases vx hp with⟨h0,h1⟩|⟨h0,h1,h2⟩
  . obtain ⟨k,rfl⟩:=Int.eq_ofNat_of_zero_le h0;have:=Wy M t old w k W h hc (M.La (k:Int)).1 (Prod.ext rfl hp) h1
    simpa [hp,Rv.put]using this
  . obtain ⟨k,hk⟩:∃k,k=(-1 -at_).toNat:=⟨_,rfl⟩
    rw [<-hk]at h1 h2;subst h2;have:=Xy M t old w k W h hc (M.La (-1 -(k:Int))).1 (Prod.ext rfl hp) h1
    have e:(-1 -(-1 -(k:Int))).toNat=k:=by omega
    have h9:¬((k:Int)<=-1):=by omega
    simpa [hp,Rv.put,h9,e]using this
 |false=>
  have e:=mr hp;have:=yC M t at_ old w q0 q1 W h hc 0 (Prod.ext e hp)
  simpa [hp]using this
theorem Kg(M:Rv)(t at_ old w:Int)(q0:-9223372036854775808<=at_)(q1:at_<=9223372036854775807)(W:World)(h:ua W M)(hc:M.ck<=1000000):
  Calls Tryz.prog 47 #[.pointer (some ⟨M.m,0,none⟩), .int .i64 3, .int .i64 t, .int .i64 at_, .int .u64 old, .int .u64 w] W (xi M (M.swap t at_ old w) W):=by
 unfold Rv.swap Rv.Me Rv.res;cases hp:(M.La at_).2 with
 |true=>
  cases he:((M.La at_).1==old)with
  |true=>
   rcases vx hp with⟨h0,h1⟩|⟨h0,h1,h2⟩
   . obtain ⟨k,rfl⟩:=Int.eq_ofNat_of_zero_le h0;have:=zC M t old w k W h hc (M.La (k:Int)).1 (Prod.ext rfl hp) h1 he
     simpa [hp,he,Rv.put]using this
   . obtain ⟨k,hk⟩:∃k,k=(-1 -at_).toNat:=⟨_,rfl⟩
     rw [<-hk]at h1 h2;subst h2;have:=BC M t old w k W h hc (M.La (-1 -(k:Int))).1 (Prod.ext rfl hp) h1 he
     have e:(-1 -(-1 -(k:Int))).toNat=k:=by omega
     have h9:¬((k:Int)<=-1):=by omega
     simpa [hp,he,Rv.put,h9,e]using this
  |false=>
   have:=pI M t at_ old w q0 q1 W h hc (M.La at_).1 (Prod.ext rfl hp) he
   simpa [hp,he]using this
 |false=>
  have e:=mr hp;have:=zF M t at_ old w q0 q1 W h hc 0 (Prod.ext e hp)
  simpa [hp]using this
theorem gp(M:Rv)(t at_ old w:Int)(q0:-9223372036854775808<=at_)(q1:at_<=9223372036854775807)(W:World)(h:ua W M)(hc:M.ck<=1000000):
  Calls Tryz.prog 47 #[.pointer (some ⟨M.m,0,none⟩), .int .i64 4, .int .i64 t, .int .i64 at_, .int .u64 old, .int .u64 w] W (xi M (M.Fa t at_) W):=by
 unfold Rv.Fa;by_cases h0:0<=at_
 . by_cases hE:M.Kb t (at_/8)=0
   . rw [if_pos ⟨h0,hE⟩];exact DC M t at_ old w q0 q1 W h hc _ _ rfl h0 hE
   . rw [if_neg (fun c=>hE c.2)];exact AF M t at_ old w q0 q1 W h hc _ _ rfl h0 hE
 . rw [if_neg (fun c=>h0 c.1)];exact CC M t at_ old w q0 q1 W h hc _ _ rfl (by omega)
theorem lp(M:Rv)(t at_ old w:Int)(q0:-9223372036854775808<=at_)(q1:at_<=9223372036854775807)(W:World)(h:ua W M)(hc:M.ck<=1000000)(hw:M.wm<=999999):
  Calls Tryz.prog 47 #[.pointer (some ⟨M.m,0,none⟩), .int .i64 5, .int .i64 t, .int .i64 at_, .int .u64 old, .int .u64 w] W (xi M (M.Ha t) W):=by
 unfold Rv.Ha;by_cases hE:Bb M.nt t=0
 . rw [if_pos hE];have ht:0<=t/\t<M.nt:=by unfold Bb at hE;split at hE;cases hE;omega
   obtain ⟨k,rfl⟩:=Int.eq_ofNat_of_zero_le ht.1
   exact FC M _ at_ old w q0 q1 W h hc _ _ rfl k (by omega) hw rfl
 . rw [if_neg hE];exact BF M t at_ old w q0 q1 W h hc _ _ rfl hE
theorem CN(M:Rv)(a:Acc):(M.JE a).own=M.own/\(M.JE a).m=M.m/\(M.JE a).wm<=M.wm+1/\(M.JE a).ck<=M.ck+1:=by
 unfold Rv.JE;have hp:∀x v,(M.put x v).own=M.own/\(M.put x v).m=M.m/\(M.put x v).wm=M.wm/\(M.put x v).ck=M.ck:=fun x v=>by unfold Rv.put;split<;>exact ⟨rfl,rfl,rfl,rfl⟩
 have hd:∀x nw pu,(M.Me x nw pu).own=M.own/\(M.Me x nw pu).m=M.m/\(M.Me x nw pu).wm<=M.wm+1/\(M.Me x nw pu).ck<=M.ck+1:=fun x nw pu=>by
  unfold Rv.Me
  split
  . obtain ⟨a,b,c,d⟩:=hp x.pl nw;exact ⟨a,b,by show(M.put x.pl nw).wm<=_;omega,by show(M.put x.pl nw).ck+1<=_;omega⟩
  . exact ⟨rfl,rfl,by show M.wm<=M.wm+1;omega,by show M.ck+1<=M.ck+1;omega⟩
 split
 . exact hd _ _ _
 split
 . exact hd _ _ _
 split
 . exact hd _ _ _
 split
 . unfold Rv.Fa;split
   . exact ⟨rfl,rfl,by show M.wm<=M.wm+1;omega,by show M.ck+1<=M.ck+1;omega⟩
   . exact ⟨rfl,rfl,by show M.wm<=M.wm+1;omega,by show M.ck+1<=M.ck+1;omega⟩
 split
 . unfold Rv.Ha;split
   . exact ⟨rfl,rfl,by show M.wm+1<=M.wm+1;omega,by show M.ck+1<=M.ck+1;omega⟩
   . exact ⟨rfl,rfl,by show M.wm<=M.wm+1;omega,by show M.ck+1<=M.ck+1;omega⟩
 . exact ⟨rfl,rfl,by omega,by omega⟩
end Go.Proofs.YtfnkmolffhfpoaaGreat
namespace Go.Proofs.YtfnkmolffhfpoaaGreat
namespace Sk
open Go.RowKit
theorem He(M:Rv)(x:Acc)(nw:Int)(pu:Bool):(M.Me x nw pu).own=M.own/\(M.Me x nw pu).m=M.m:=by
 unfold Rv.Me Rv.note
 split
 . unfold Rv.put;split<;>exact ⟨rfl,rfl⟩
 . exact ⟨rfl,rfl⟩
theorem Up(M:Rv)(t a:Int):(M.Fa t a).own=M.own/\(M.Fa t a).m=M.m:=by unfold Rv.Fa;split<;>exact ⟨rfl,rfl⟩
theorem Vp(M:Rv)(t:Int):(M.Ha t).own=M.own/\(M.Ha t).m=M.m:=by unfold Rv.Ha;split<;>exact ⟨rfl,rfl⟩
section
variable{ρ:Nat->Int}{γ:Nat->Gh}
theorem rK{σ:AH}{p e m:Value}(h:rE 10 σ p=some e)(hm:RB e=some m){B:Nat->Prop}{w0:World}{R:Mp}{w:World}{p':Value}(hS: @Vc (Th.at ρ γ) B w0 R σ w)(hp: @VR (Th.at ρ γ) R p p'):
  ∃b r s A M,Bm p=b/\p'= .pointer (some ⟨r,0,none⟩)/\R b=some (r,s)/\σ.get b=some (.gh e)/\ @den (Th.at ρ γ) m= .g (Gh.mem A)/\ua w M/\M.m=r/\Mb M A/\Wd A/\(∀b2 r2 s2 o2,b2≠b->R b2=some (r2,s2)->σ.get b2=some o2->¬M.own r2)/\
   ∀w' e' M' A', @den (Th.at ρ γ) e'= .g (Gh.ref A')->ua w' M'->M'.m=r->Mb M' A'->Wd A'->(∀k,M'.own k->M.own k\/w.heap.size<=k)->Ba M.own w w'-> @Vc (Th.at ρ γ) B w0 R (σ.put b (some (.gh e'))) w':=by
 letI:Interp:=Th.at ρ γ
 obtain ⟨b,r,s,_,_,rfl,rfl,h1,h2,h3,_,_⟩:=qC h hS hp;obtain ⟨_,A,hA,hE⟩:=Rw (ρ:=ρ) (γ:=γ) hm;obtain ⟨g0,O0,k1,k2,k3,k5,k4⟩:=hS.gat h1 h2;rw [hE]at k1;injection k1 with k1
 subst k1;obtain ⟨M,m1,m2,rfl,m4,m5⟩:=k2;refine ⟨b,r,s,A,M,rfl,rfl,h1,h2,hA,m1,m2,m4,m5,k5,fun w' e' M' A' q1 q2 q3 q4 q5 q6 q7=> ?_⟩;exact k4 w' e' (Gh.ref A') M'.own q1 ⟨M',q2,q3,rfl,q4,q5⟩ q6 (uF q7)
theorem gRf{m:Value}{A:Rv}(h: @den (Th.at ρ γ) m= .g (Gh.mem A)): @den (Th.at ρ γ) (sy Cs [m])= .g (Gh.ref A):=by
 have e1: @den (Th.at ρ γ) (sy Cs [m])=(Qc.g (tu 10 (Em 20 [@den (Th.at ρ γ) m])):Qc Gh):=rfl;rw [h]at e1;exact e1
theorem xx[Interp]{R:Mp}{v1 v2 v3 v4 v5 v6:Value}{a1 a2 a3 a4 a5:Int}{a6:Bool}(h1:VR R v1 (.int .i64 a1))(h2:VR R v2 (.int .i64 a2))(h3:VR R v3 (.int .i64 a3))(h4:VR R v4 (.int .u64 a4))(h5:VR R v5 (.int .u64 a5))(h6:VR R v6 (.bool a6)){x:Acc}(hx:x=⟨a1,a2,a3,a4,a5,a6⟩):VR R (.agg ⟨[v1,v2,v3,v4,v5,v6]⟩) (.agg x.cells):=by
 subst hx;exact (LR.cons h1 (.cons h2 (.cons h3 (.cons h4 (.cons h5 (.cons h6 (.nil R))))))).agg
variable{F:List (Value×Value)}(hF:∀p,p∈F-> @den (Th.at ρ γ) p.1= @den (Th.at ρ γ) p.2)
include hF
theorem yaa: @SH (Th.at ρ γ) Tryz.prog F oDo 47:=by
 letI:Interp:=Th.at ρ γ
 haveI:Lc:=Da ρ γ
 intro args σ v σ' hg B w0 R w args' hS hl;unfold oDo at hg
 split at hg
 . rename_i p k t a o x
   split at hg
   . rename_i e he
     split at hg
     . rename_i m n hm hn
       split at hg
       . rename_i hc hf;simp only [Aa,Bool.and_eq_true]at hc;obtain ⟨hk,ht,ha,ho,hx⟩:=hc;obtain ⟨p',l',rfl,hp,hl⟩:=hl.Ea;obtain ⟨k',l',rfl,dM,hl⟩:=hl.Ea;obtain ⟨t',l',rfl,dm,hl⟩:=hl.Ea;obtain ⟨a',l',rfl,tF,hl⟩:=hl.Ea;obtain ⟨o',l',rfl,jM,hl⟩:=hl.Ea;obtain ⟨x',l',rfl,BM,hl⟩:=hl.Ea;cases hl.Fc;obtain ⟨b,r,s,A,M,rfl,rfl,k1,k2,k3,k4,rfl,k5,k6,_,k7⟩:=rK he hm hS hp;obtain ⟨kn,rfl,dk,_,_⟩:=Ve dM hk;obtain ⟨tn,rfl,dt,t0,t1⟩:=Ve dm ht;obtain ⟨an,rfl,da,a0,a1⟩:=Ve tF ha;obtain ⟨on,rfl,dO,ou⟩:=Pt jM ho;obtain ⟨xn,rfl,dx,xu⟩:=Pt BM hx;obtain ⟨c1,c2⟩:=Ei hF hf k3 k6;have Mf:M.ck<=1000000:=by rw [k5.ck];omega
         have Ss:M.wm<=999999:=by rw [k5.wm];omega
         have bq:kn=n:=by
          obtain ⟨q,rfl⟩:=jK hn;exact Vl dk
         subst bq;obtain ⟨⟨q,q1⟩,q2⟩:=tf hF [m,a] (t:=Ft) (by decide);obtain ⟨⟨z,z1⟩,z2⟩:=tf hF [m,a] (t:=tIs) (by decide);have hp:=k5.La an;have vpk:VR R (mk F Ft [m,a]) (.int .u64 (A.La an).1):=Yc R q1 (q2.trans (TX k6 k3 da));have vis:VR R (mk F tIs [m,a]) (.bool (A.La an).2):=Yc R z1 (z2.trans (dIs k3 da));have v0:VR R (Zi 0) (.int .u64 0):=Yc R (c:=7) rfl rfl;have vz:VR R (Fb 0) (.int .i64 0):=Yc R (c:=3) rfl rfl;have Ch:(A.La an).2=false->(A.La an).1=0:=fun h=>mr h
         split at hg
         . rw [ic]at hg;cases hg;refine (nr M tn an on xn a0 a1 w k4 Mf).mono ?_
           rintro y w' ⟨rfl,m1,m2⟩;refine ⟨R,_,rfl,Af k1 _,xx dM dm tF vpk v0 vis ?_,k7 w' _ (M.load tn an) (A.load tn an) (gRf (gLd k3 dt da)) m1 (He M ⟨1,tn,an,0,0,false⟩ 0 false).2 (k5.Me _ _ _) (k6.Me _ _ (by omega) u0) (fun k hk=> .inl (by have:=(He M ⟨1,tn,an,0,0,false⟩ 0 false).1;exact this▸hk)) m2⟩
           show M.res ⟨1,tn,an,0,0,false⟩ _=_
           unfold Rv.res;rw [hp];cases hb:(A.La an).2 with
           |true=>simp
           |false=>simp [Ch hb]
         . rw [ic]at hg;cases hg;refine (uk M tn an on xn a0 a1 w k4 Mf).mono ?_
           rintro y w' ⟨rfl,m1,m2⟩;refine ⟨R,_,rfl,Af k1 _,xx dM dm tF vpk BM vis ?_,k7 w' _ (M.store tn an xn) (A.store tn an xn) (gRf (gSt k3 dt da dx)) m1 (He M ⟨2,tn,an,0,xn,false⟩ xn true).2 (k5.Me _ _ _) (k6.Me _ _ (by omega) xu) (fun k hk=> .inl (by have:=(He M ⟨2,tn,an,0,xn,false⟩ xn true).1;exact this▸hk)) m2⟩
           show M.res ⟨2,tn,an,0,xn,false⟩ _=_
           unfold Rv.res;rw [hp];cases hb:(A.La an).2 with
           |true=>simp
           |false=>simp [Ch hb]
         . rw [ic]at hg;cases hg;obtain ⟨⟨y,y1⟩,y2⟩:=tf hF [m,a,o] (t:=Gt) (by decide);have vsw:VR R (mk F Gt [m,a,o]) (.bool ((A.La an).2&&(A.La an).1==on)):=Yc R y1 (y2.trans (jaa k3 da dO));refine (Kg M tn an on xn a0 a1 w k4 Mf).mono ?_
           rintro y w' ⟨rfl,m1,m2⟩;refine ⟨R,_,rfl,Af k1 _,xx dM dm tF vpk BM vsw ?_,k7 w' _ (M.swap tn an on xn) (A.swap tn an on xn) (gRf (gSw k3 dt da dO dx)) m1 (He M ⟨3,tn,an,0,xn,false⟩ xn ((M.La an).1==on)).2 (k5.swap _ _ _ _) (k6.Me _ _ (by omega) xu) (fun k hk=> .inl (by have:=(He M ⟨3,tn,an,0,xn,false⟩ xn ((M.La an).1==on)).1;exact this▸hk)) m2⟩
           show M.res ⟨3,tn,an,0,xn,false⟩ _=_
           unfold Rv.res;rw [hp];cases hb:(A.La an).2 with
           |true=>simp
           |false=>simp [Ch hb]
         . rw [ic]at hg;cases hg;obtain ⟨⟨y,y1⟩,y2⟩:=tf hF [m,t,a] (t:=kV) (by decide);have vfl:VR R (mk F kV [m,t,a]) (.bool (A.Fa tn an).la.dn):=Yc R y1 (y2.trans (Nax k3 dt da));refine (gp M tn an on xn a0 a1 w k4 Mf).mono ?_
           rintro y w' ⟨rfl,m1,m2⟩;refine ⟨R,_,rfl,Af k1 _,xx dM dm tF v0 v0 vfl ?_,k7 w' _ (M.Fa tn an) (A.Fa tn an) (gRf (gFl k3 dt da)) m1 (Up M tn an).2 (k5.Fa _ _) (k6.Fa _ _ (by omega)) (fun k hk=> .inl (by have:=(Up M tn an).1;exact this▸hk)) m2⟩
           show(M.Fa tn an).la=_
           rw [<-(k5.Fa tn an).la];unfold Rv.Fa
           split<;>rfl
         . rw [ic]at hg;cases hg;obtain ⟨⟨y,y1⟩,y2⟩:=tf hF [m,t] (t:=lV) (by decide);have vfe:VR R (mk F lV [m,t]) (.bool (A.Ha tn).la.dn):=Yc R y1 (y2.trans (Oax k3 dt));refine (lp M tn an on xn a0 a1 w k4 Mf Ss).mono ?_
           rintro y w' ⟨rfl,m1,m2⟩;refine ⟨R,_,rfl,Af k1 _,xx dM dm vz v0 v0 vfe ?_,k7 w' _ (M.Ha tn) (A.Ha tn) (gRf (gFe k3 dt)) m1 (Vp M tn).2 (k5.Ha _) (k6.Ha _ (by omega) (by omega)) (fun k hk=> .inl (by have:=(Vp M tn).1;exact this▸hk)) m2⟩
           show(M.Ha tn).la=_
           rw [<-(k5.Ha tn).la];unfold Rv.Ha
           split<;>rfl
         . cases hg
       . cases hg
     . cases hg
   . cases hg
 . cases hg
end
end Sk
end Go.Proofs.YtfnkmolffhfpoaaGreat
namespace Go.Proofs.YtfnkmolffhfpoaaGreat
open Go.RowKit Go.BigFrame
theorem tR{W:World}{b:Nat}{k0 k1 k2 k3 k4 k5 k6 k7:Value}{t:TypeId}(h:W.heap[b]?=some (.cells #[k0,k1,k2,k3,k4,k5,k6,k7] t (0,0))):
  W.cell? ⟨b,0,none⟩=some k0/\W.cell? ⟨b,1,none⟩=some k1/\W.cell? ⟨b,2,none⟩=some k2/\W.cell? ⟨b,3,none⟩=some k3/\W.cell? ⟨b,4,none⟩=some k4/\W.cell? ⟨b,5,none⟩=some k5/\W.cell? ⟨b,6,none⟩=some k6/\W.cell? ⟨b,7,none⟩=some k7/\∀j,W.frozen? ⟨b,j,none⟩=false:=by
 refine ⟨?_, ?_, ?_, ?_, ?_, ?_, ?_, ?_,fun j=> ?_⟩
 all_goals first|(rw [cell_of_row _ _ _ _ _ _ h];rfl)|(unfold World.frozen?;rw [h];simp)
theorem uR(a b c d e f:Value)(w:World):(Instr.field 112 (.agg #[a,b,c,d,e,f]) 5).run Tryz.prog w= .ok f w:=by kernel_rfl
theorem Ba.GC{F:Nat->Prop}{a w:World}(h:Ba F a w)(n:Nat):Ba F a (w.drewN n):=⟨h.os,h.tape,h.output,h.size,h.block⟩
def yx(M N:Rv)(rs:Nat)(row:Array Value)(ty:TypeId)(W:World)(e:Ending)(W':World):Prop:=e= .returned undef/\ua W' N/\W'.heap[rs]?=some (.cells row ty (0,0))/\Ba (fun k=>M.own k\/k=rs) W W'
theorem ua.Ze{W:World}{M:Rv}(h:ua W M){rs:Nat}(hn:¬M.own rs)(j:Nat)(v:Value):ua (W.setCell ⟨rs,j,none⟩ v) M:=h.keep fun k hk=>aa fun e=>hn (e▸hk)
set_option maxRecDepth 100000 in
theorem DN(M:Rv)(rs:Nat)(t a old new:Int)(pu wh wr:Value)(ty:TypeId)(W:World)(h:ua W M)(hr:W.heap[rs]?=some (.cells #[.int .i64 t, .int .i64 a, .int .i64 1, .int .u64 old, .int .u64 new,pu,wh,wr] ty (0,0)))(hn:¬M.own rs)(q0:-9223372036854775808<=a)(q1:a<=9223372036854775807)(hu:Tc new)(hc:M.ck<=1000000)(hd:(M.swap t a old (gb new)).la.dn=false):
  Calls Tryz.prog 244 #[.pointer (some ⟨rs,0,none⟩), .pointer (some ⟨M.m,0,none⟩)] W (yx M (M.swap t a old (gb new)) rs #[.int .i64 t, .int .i64 a, .int .i64 0, .int .u64 old, .int .u64 new,pu,wh,wr] ty W):=by
 obtain ⟨c0,c1,c2,c3,c4,c5,c6,c7,cf⟩:=tR hr;have HS:=Lib.hid fun w=>cr new hu w
 have HO:Hid ((M.swap t a old (gb new)).own=M.own/\(M.swap t a old (gb new)).m=M.m):=Lib.hid (Sk.He M _ _ _);have gV:rs<W.heap.size:=(Array.getElem?_eq_some_iff.1 hr).1
 have HM:Hid (∀w,ua w M->Calls Tryz.prog 47 #[.pointer (some ⟨M.m,0,none⟩), .int .i64 3, .int .i64 t, .int .i64 a, .int .u64 old, .int .u64 (gb new)] w (xi M (M.swap t a old (gb new)) w)):=Lib.hid fun w hw=>Kg M t a old _ q0 q1 w hw hc
 have HW:=Lib.hid h;have HR:=Lib.hid hr;have HN:=Lib.hid hn;have FD:=fun a b c d e f w=>uR a b c d e f w
 clear h hr hn;generalize gb new=sn at*;generalize M.swap t a old sn=N at*;obtain ⟨x,hx⟩:∃x,x=N.la:=⟨_,rfl⟩;have HX:=Lib.hid hx;rw [<-hx]at hd;clear hx;obtain ⟨ki,th,pl,ol,ne,dn⟩:=x;simp only at hd;subst hd
 go_enter Tryz.func244,Tryz.ntmps244
 go_wp2_with fail
 refine ae 0 18 (by kernel_rfl) (by kernel_rfl) (fun _ _ d _ _ h=>by cases d<;>exact h) ?_
 simp only [List.take_succ_cons,List.take_zero,List.drop_succ_cons,List.drop_zero,Nat.reduceAdd]
 repeat (first|go_big_quiet_skip|(go_big_quiet_want;go_big_quiet_op;go_big_quiet_on))
 refine wpQuiet_nil ?_
 repeat (first|go_big_quiet_skip|(go_big_quiet_want;go_big_quiet_op;first|go_big_quiet_on|go_big_quiet_call ((go_at_call 292;exact Calls.quiet_of_same (HS.out _)))))
 refine wpQuiet_nil ?_
 rintro _ ⟨k,rfl⟩
 go_wp2_with fail
 refine (HM.out ((W.setCell ⟨rs,2,none⟩ (.int .i64 0)).drewN k) ((HW.out.Ze HN.out 2 (.int .i64 0)).keep fun _ _=>rfl)).mono ?_
 rintro e w1 ⟨rfl,hm,ht⟩;rw [<-HX.out];have iD:=Lib.hid hm;have HT1:=Lib.hid ht;have AU:=Lib.hid ((ht.block rs (by simpa [World.setCell]using gV) HN.out).trans (heap_set (.int .i64 0) HR.out));simp only [List.setIfInBounds_toArray,List.set_cons_succ,List.set_cons_zero]at AU;clear hm ht;simp only [Acc.cells];clear c0 c1 c2 c3 c4 c5 c6 c7 cf
 go_wp2_with fail
 go_end0
 exact ⟨rfl,iD.out,AU.out,(((Ba.refl _ W).set (fun _=> .inr rfl) 2 (.int .i64 0)).GC k).trans HT1.out (fun _ _ h=> .inl h)⟩
set_option maxRecDepth 100000 in
theorem qI(M:Rv)(rs:Nat)(t a old new:Int)(pu wh wr:Value)(ty:TypeId)(W:World)(h:ua W M)(hr:W.heap[rs]?=some (.cells #[.int .i64 t, .int .i64 a, .int .i64 1, .int .u64 old, .int .u64 new,pu,wh,wr] ty (0,0)))(hn:¬M.own rs)(q0:-9223372036854775808<=a)(q1:a<=9223372036854775807)(hu:Tc new)(hc:M.ck<=1000000)(hd:(M.swap t a old (gb new)).la.dn=true)(ha:0<=a/\a/8<((M.swap t a old (gb new)).n:Int)):
  Calls Tryz.prog 244 #[.pointer (some ⟨rs,0,none⟩), .pointer (some ⟨M.m,0,none⟩)] W (yx M (M.swap t a old (gb new)) rs #[.int .i64 t, .int .i64 a, .int .i64 2, .int .u64 old, .int .u64 new, .bool true, .int .i64 (M.swap t a old (gb new)).ck, .int .i64 ((M.swap t a old (gb new)).wr (a/8).toNat)] ty W):=by
 obtain ⟨c0,c1,c2,c3,c4,c5,c6,c7,cf⟩:=tR hr;have HS:=Lib.hid fun w=>cr new hu w
 have HO:Hid ((M.swap t a old (gb new)).own=M.own/\(M.swap t a old (gb new)).m=M.m):=Lib.hid (Sk.He M _ _ _);have gV:rs<W.heap.size:=(Array.getElem?_eq_some_iff.1 hr).1
 have HM:Hid (∀w,ua w M->Calls Tryz.prog 47 #[.pointer (some ⟨M.m,0,none⟩), .int .i64 3, .int .i64 t, .int .i64 a, .int .u64 old, .int .u64 (gb new)] w (xi M (M.swap t a old (gb new)) w)):=Lib.hid fun w hw=>Kg M t a old _ q0 q1 w hw hc
 have HW:=Lib.hid h;have HR:=Lib.hid hr;have HN:=Lib.hid hn;have FD:=fun a b c d e f w=>uR a b c d e f w
 clear h hr hn;generalize gb new=sn at*;generalize M.swap t a old sn=N at*;obtain ⟨x,hx⟩:∃x,x=N.la:=⟨_,rfl⟩;have HX:=Lib.hid hx;rw [<-hx]at hd;clear hx;obtain ⟨ki,th,pl,ol,ne,dn⟩:=x;simp only at hd;subst hd
 go_enter Tryz.func244,Tryz.ntmps244
 go_wp2_with fail
 refine ae 0 18 (by kernel_rfl) (by kernel_rfl) (fun _ _ d _ _ h=>by cases d<;>exact h) ?_
 simp only [List.take_succ_cons,List.take_zero,List.drop_succ_cons,List.drop_zero,Nat.reduceAdd]
 repeat (first|go_big_quiet_skip|(go_big_quiet_want;go_big_quiet_op;go_big_quiet_on))
 refine wpQuiet_nil ?_
 repeat (first|go_big_quiet_skip|(go_big_quiet_want;go_big_quiet_op;first|go_big_quiet_on|go_big_quiet_call ((go_at_call 292;exact Calls.quiet_of_same (HS.out _)))))
 refine wpQuiet_nil ?_
 rintro _ ⟨k,rfl⟩
 go_wp2_with fail
 refine (HM.out ((W.setCell ⟨rs,2,none⟩ (.int .i64 0)).drewN k) ((HW.out.Ze HN.out 2 (.int .i64 0)).keep fun _ _=>rfl)).mono ?_
 rintro e w1 ⟨rfl,hm,ht⟩;rw [<-HX.out];have iD:=Lib.hid hm;have HT1:=Lib.hid ht;have AU:=Lib.hid ((ht.block rs (by simpa [World.setCell]using gV) HN.out).trans (heap_set (.int .i64 0) HR.out));simp only [List.setIfInBounds_toArray,List.set_cons_succ,List.set_cons_zero]at AU;clear hm ht;simp only [Acc.cells];clear c0 c1 c2 c3 c4 c5 c6 c7 cf;obtain ⟨c0,c1,c2,c3,c4,c5,c6,c7,cf⟩:=tR AU.out;obtain ⟨x0,x1,x2,-⟩:=Uc iD.out.row;obtain ⟨y0,y1,y2,y3⟩:=Jb iD.out.dev;have sK:¬N.own rs:=by rw [HO.out.1];exact HN.out
 have vO:=HO.out.2
 rw [vO]at x0 x1 x2;have n1:rs≠M.m:=fun e=>sK (by rw [e,<-vO];exact Or.inl (by simp [Rv.blocks]))
 have n2:rs≠N.d:=fun e=>sK (by rw [e];exact Or.inl (by simp [Rv.blocks]))
 have n3:rs≠N.wb:=fun e=>sK (by rw [e];exact Or.inl (by simp [Rv.blocks]))
 have n1':=Ne.symm n1;have n2':=Ne.symm n2;have n3':=Ne.symm n3;have hnn:=iD.out.n1;have d0:decide (0<=a)=true:=ea ha.1
 have e8:a.tdiv 8=a/8:=Int.tdiv_eq_ediv_of_nonneg ha.1
 have hcw:w1.cell? ⟨N.wb,(a/8).toNat,none⟩=some (.int .i64 (N.wr (a/8).toNat)):=iD.out.wr.cell (by omega);obtain ⟨i,hi⟩:=Int.eq_ofNat_of_zero_le (show 0<=a/8 by omega);rw [hi]at hcw e8;rw [Int.toNat_natCast]at hcw;have f1:(i:Int)<(N.n:Int):=by omega
 have d1:decide ((i:Int)<(N.n:Int))=true:=ea f1
 go_wp2_with fail
 refine ae 0 15 (by kernel_rfl) (by kernel_rfl) (fun _ _ d _ _ h=>by cases d<;>exact h) ?_
 simp only [List.take_succ_cons,List.take_zero,List.drop_succ_cons,List.drop_zero,Nat.reduceAdd]
 repeat (first|go_big_quiet_skip|(go_big_quiet_want;go_big_quiet_op;go_big_quiet_on))
 refine wpQuiet_nil ?_
 repeat (first|go_big_quiet_skip|(go_big_quiet_want;go_big_quiet_op;first|go_big_quiet_on))
 refine wpQuiet_nil ?_
 rintro _ ⟨k2,rfl⟩
 go_wp2_with fail
 go_end0
 have ei:(a/8).toNat=i:=by omega
 rw [ei];refine ⟨rfl, ?_, ?_, ?_⟩
 . exact ((((iD.out.Ze sK 5 _).Ze sK 6 _).keep (W':=((w1.setCell ⟨rs,5,none⟩ (.bool true)).setCell ⟨rs,6,none⟩ (.int .i64 N.ck)).drewN k2) fun _ _=>rfl).Ze sK 7 _).Ze sK 2 _
 . exact heap_set (.int .i64 2) (heap_set (.int .i64 (N.wr i)) (w:=((w1.setCell ⟨rs,5,none⟩ (.bool true)).setCell ⟨rs,6,none⟩ (.int .i64 N.ck)).drewN k2) (heap_set (.int .i64 N.ck) (heap_set (.bool true) AU.out)))
 . exact ((((((((Ba.refl _ W).set (fun _=> .inr rfl) 2 (.int .i64 0)).GC k).trans HT1.out (fun _ _ h=> .inl h)).set (fun _=> .inr rfl) 5 _).set (fun _=> .inr rfl) 6 _).GC k2).set (fun _=> .inr rfl) 7 _).set (fun _=> .inr rfl) 2 _
set_option maxRecDepth 100000 in
theorem CF(M:Rv)(rs:Nat)(t a old new:Int)(pu wh wr:Value)(ty:TypeId)(W:World)(h:ua W M)(hr:W.heap[rs]?=some (.cells #[.int .i64 t, .int .i64 a, .int .i64 1, .int .u64 old, .int .u64 new,pu,wh,wr] ty (0,0)))(hn:¬M.own rs)(q0:-9223372036854775808<=a)(q1:a<=9223372036854775807)(hu:Tc new)(hc:M.ck<=1000000)(hd:(M.swap t a old (gb new)).la.dn=true)(ha:a<0):
  Calls Tryz.prog 244 #[.pointer (some ⟨rs,0,none⟩), .pointer (some ⟨M.m,0,none⟩)] W (yx M (M.swap t a old (gb new)) rs #[.int .i64 t, .int .i64 a, .int .i64 2, .int .u64 old, .int .u64 new, .bool true, .int .i64 (M.swap t a old (gb new)).ck,wr] ty W):=by
 obtain ⟨c0,c1,c2,c3,c4,c5,c6,c7,cf⟩:=tR hr;have HS:=Lib.hid fun w=>cr new hu w
 have HO:Hid ((M.swap t a old (gb new)).own=M.own/\(M.swap t a old (gb new)).m=M.m):=Lib.hid (Sk.He M _ _ _);have gV:rs<W.heap.size:=(Array.getElem?_eq_some_iff.1 hr).1
 have HM:Hid (∀w,ua w M->Calls Tryz.prog 47 #[.pointer (some ⟨M.m,0,none⟩), .int .i64 3, .int .i64 t, .int .i64 a, .int .u64 old, .int .u64 (gb new)] w (xi M (M.swap t a old (gb new)) w)):=Lib.hid fun w hw=>Kg M t a old _ q0 q1 w hw hc
 have HW:=Lib.hid h;have HR:=Lib.hid hr;have HN:=Lib.hid hn;have FD:=fun a b c d e f w=>uR a b c d e f w
 clear h hr hn;generalize gb new=sn at*;generalize M.swap t a old sn=N at*;obtain ⟨x,hx⟩:∃x,x=N.la:=⟨_,rfl⟩;have HX:=Lib.hid hx;rw [<-hx]at hd;clear hx;obtain ⟨ki,th,pl,ol,ne,dn⟩:=x;simp only at hd;subst hd
 go_enter Tryz.func244,Tryz.ntmps244
 go_wp2_with fail
 refine ae 0 18 (by kernel_rfl) (by kernel_rfl) (fun _ _ d _ _ h=>by cases d<;>exact h) ?_
 simp only [List.take_succ_cons,List.take_zero,List.drop_succ_cons,List.drop_zero,Nat.reduceAdd]
 repeat (first|go_big_quiet_skip|(go_big_quiet_want;go_big_quiet_op;go_big_quiet_on))
 refine wpQuiet_nil ?_
 repeat (first|go_big_quiet_skip|(go_big_quiet_want;go_big_quiet_op;first|go_big_quiet_on|go_big_quiet_call ((go_at_call 292;exact Calls.quiet_of_same (HS.out _)))))
 refine wpQuiet_nil ?_
 rintro _ ⟨k,rfl⟩
 go_wp2_with fail
 refine (HM.out ((W.setCell ⟨rs,2,none⟩ (.int .i64 0)).drewN k) ((HW.out.Ze HN.out 2 (.int .i64 0)).keep fun _ _=>rfl)).mono ?_
 rintro e w1 ⟨rfl,hm,ht⟩;rw [<-HX.out];have iD:=Lib.hid hm;have HT1:=Lib.hid ht;have AU:=Lib.hid ((ht.block rs (by simpa [World.setCell]using gV) HN.out).trans (heap_set (.int .i64 0) HR.out));simp only [List.setIfInBounds_toArray,List.set_cons_succ,List.set_cons_zero]at AU;clear hm ht;simp only [Acc.cells];clear c0 c1 c2 c3 c4 c5 c6 c7 cf;obtain ⟨c0,c1,c2,c3,c4,c5,c6,c7,cf⟩:=tR AU.out;obtain ⟨x0,x1,x2,-⟩:=Uc iD.out.row;obtain ⟨y0,y1,y2,y3⟩:=Jb iD.out.dev;have sK:¬N.own rs:=by rw [HO.out.1];exact HN.out
 have vO:=HO.out.2
 rw [vO]at x0 x1 x2;have n1:rs≠M.m:=fun e=>sK (by rw [e,<-vO];exact Or.inl (by simp [Rv.blocks]))
 have n2:rs≠N.d:=fun e=>sK (by rw [e];exact Or.inl (by simp [Rv.blocks]))
 have n3:rs≠N.wb:=fun e=>sK (by rw [e];exact Or.inl (by simp [Rv.blocks]))
 have n1':=Ne.symm n1;have n2':=Ne.symm n2;have n3':=Ne.symm n3;have hnn:=iD.out.n1;have d0:decide (0<=a)=false:=ta (by omega)
 go_wp2_with fail
 go_end0
 refine ⟨rfl, ?_, ?_, ?_⟩
 . exact ((iD.out.Ze sK 5 _).Ze sK 6 _).Ze sK 2 _
 . exact heap_set (.int .i64 2) (heap_set (.int .i64 N.ck) (heap_set (.bool true) AU.out))
 . exact (((((((Ba.refl _ W).set (fun _=> .inr rfl) 2 (.int .i64 0)).GC k).trans HT1.out (fun _ _ h=> .inl h)).set (fun _=> .inr rfl) 5 _).set (fun _=> .inr rfl) 6 _)).set (fun _=> .inr rfl) 2 _
end Go.Proofs.YtfnkmolffhfpoaaGreat
namespace Go.Proofs.YtfnkmolffhfpoaaGreat
namespace Sk
open Go.RowKit
theorem EN[Interp]{B:Nat->Prop}{w0:World}{R:Mp}{σ:AH}{w:World}(hS:Vc B w0 R σ w){b r s:Nat}(hb:R b=some (r,s)){c:Row}{e:TypeId}(hg:σ.get b=some (.cells c e true)){m:Nat}{l:List Value}(hn:c.n=m)(hl:c.from 0 m=some l):
  ∃l':List Value,w.heap[r]?=some (.cells ⟨l'⟩ e (0,0))/\s=m/\LR R l l':=by
 obtain ⟨_,c',h1,h2,h3,h4,h5⟩:=hS.obj b r s _ hb hg;obtain ⟨k1,k2⟩:=tD m c 0 l hl;have hs:s=m:=by rw [<-h4 rfl,hn]
 refine ⟨c'.toList,h1,hs, ?_,fun i x y hx hy=> ?_⟩
 . rw [k1,Array.length_toList,h2,hs]
 . have hi:i<m:=by have:=(List.getElem?_eq_some_iff.1 hx).1;omega
   have:=k2 i hi;rw [Nat.zero_add,hx]at this;obtain ⟨_,v',q1,q2⟩:=h5 i x this;have hy:c'[i]?=some y:=by simpa using hy
   rw [hy]at q1;cases q1;exact q2
theorem vR(w:World)(r:Nat)(o:Obj)(h:r<w.heap.size):({w with heap:=w.heap.setIfInBounds r o}:World).heap[r]?=some o:=by simp [h]
theorem Bn(w:World)(r:Nat)(o:Obj){k:Nat}(h:k≠r):({w with heap:=w.heap.setIfInBounds r o}:World).heap[k]?=w.heap[k]?:=by
 show(w.heap.setIfInBounds r o)[k]?=_
 rw [Array.getElem?_setIfInBounds,if_neg (Ne.symm h)]
section
variable{ρ:Nat->Int}{γ:Nat->Gh}
variable{F:List (Value×Value)}(hF:∀p,p∈F-> @den (Th.at ρ γ) p.1= @den (Th.at ρ γ) p.2)
theorem tK{B:Nat->Prop}{w0:World}{R:Mp}{σ:AH}{w w':World}{b s rs z:Nat}{M N:Rv}{A':Rv}{row qW:List Value}{ty:TypeId}{c0:Array Value}{y:qa}{e':Value}
  (k7:∀w' e' M' A', @den (Th.at ρ γ) e'= .g (Gh.ref A')->ua w' M'->M'.m=M.m->Mb M' A'->Wd A'->(∀k,M'.own k->M.own k\/w.heap.size<=k)->Ba M.own w w'-> @Vc (Th.at ρ γ) B w0 R (σ.put b (some (.gh e'))) w')
  (hb:R s=some (rs,z))(VU:s≠b)(hy:σ.get s=some y)(hyg:∀e,y≠ .gh e)(h0:w.heap[rs]?=some (.cells c0 ty (0,0)))(hn:¬M.own rs)(he: @den (Th.at ρ γ) e'= .g (Gh.ref A'))(hA:Mb N A')(hw:Wd A')(hN:N.own=M.own/\N.m=M.m)
  (hr: @LR (Th.at ρ γ) R row qW)(hz:qW.length=z)(hx:yx M N rs ⟨qW⟩ ty w (.returned undef) w'): @Vc (Th.at ρ γ) B w0 R ((σ.put b (some (.gh e'))).put s (some (.cells (Row.nil.app row) ty true))) w':=by
 letI:Interp:=Th.at ρ γ
 obtain ⟨_,x1,x2,x3⟩:=hx;have zb:rs<w'.heap.size:=(Array.getElem?_eq_some_iff.1 x2).1
 have Vh:({w' with heap:=w'.heap.setIfInBounds rs (.cells c0 ty (0,0))}:World).heap.size=w'.heap.size:=by simp
 have s1:=k7 {w' with heap:=w'.heap.setIfInBounds rs (.cells c0 ty (0,0))} e' N A' he
  (x1.keep fun k hk=>Bn w' rs _ fun q=>hn (by rw [<-hN.1];exact q▸hk)) hN.2 hA hw (fun k hk=> .inl (hN.1▸hk))
  ⟨x3.os,x3.tape,x3.output,by rw [Vh];exact x3.size,fun k hk ho=>by
    by_cases q:k=rs
    . subst q;rw [vR w' k _ zb,h0]
    . rw [Bn w' rs _ q];exact x3.block k hk fun z=>z.elim ho q⟩
 refine s1.RO hb ⟨y,by rw [tb,if_neg VU];exact hy,hyg⟩ ?_ (fun k hk=>(Bn w' rs _ hk).symm) Vh.symm rfl rfl rfl
 rw [x2,<-hz];exact Fk hr ty
include hF
theorem rW: @SH (Th.at ρ γ) Tryz.prog F rV 244:=by
 letI:Interp:=Th.at ρ γ
 haveI:Lc:=Da ρ γ
 intro args σ v σ' hg B w0 R w args' hS hl;unfold rV at hg
 split at hg
 . rename_i s o p
   split at hg
   . split at hg
     . rename_i c ty hc
       split at hg
       . rename_i t a old new put Sg wr yU Mi
         split at hg
         . rename_i e he
           split at hg
           . rename_i m hm
             split at hg
             . rename_i hk hf;simp only [Aa,Bool.and_eq_true]at hk;obtain ⟨ht,ha,ho,hnw,sW⟩:=hk;rw [Na]at yU;have yU:=of_decide_eq_true yU;obtain ⟨s',l',rfl,hp0,hl⟩:=hl.Ea;obtain ⟨p',l',rfl,hp,hl⟩:=hl.Ea;cases hl.Fc;obtain ⟨rs,z,hsr,rfl⟩:=Wg hp0;obtain ⟨b,r,z2,A,M,rfl,rfl,k1,kg,k3,k4,rfl,k5,k6,k8,k7⟩:=rK he hm hS hp;have VU:s≠Bm p:=fun q=>by rw [q,kg]at hc;cases hc
               have Ch:=k8 s rs z _ VU hsr hc;obtain ⟨qW,hh,rfl,wB⟩:=EN hS hsr hc yU Mi;obtain ⟨t',l',rfl,h0,wB⟩:=wB.Ea;obtain ⟨a',l',rfl,h1,wB⟩:=wB.Ea;obtain ⟨i',l',rfl,h2,wB⟩:=wB.Ea;obtain ⟨o',l',rfl,h3,wB⟩:=wB.Ea;obtain ⟨n',l',rfl,h4,wB⟩:=wB.Ea;obtain ⟨pu,l',rfl,h5,wB⟩:=wB.Ea;obtain ⟨wh,l',rfl,h6,wB⟩:=wB.Ea;obtain ⟨wv,l',rfl,h7,wB⟩:=wB.Ea;cases wB.Fc;obtain ⟨tn,rfl,dt,t0,t1⟩:=Ve h0 ht;obtain ⟨an,rfl,da,a0,a1⟩:=Ve h1 ha;have hi:=Wc h2;subst hi;obtain ⟨on,rfl,dO,ou⟩:=Pt h3 ho;obtain ⟨nn,rfl,dn,nu⟩:=Pt h4 hnw;obtain ⟨c1,c2⟩:=Ei hF hf k3 k6;have Mf:M.ck<=1000000:=by rw [k5.ck];omega
               obtain ⟨⟨q,q1⟩,q2⟩:=tf hF [new] (t:=Rg) (by decide);have dsn:den (mk F Rg [new])= .v (.int .u64 (gb nn)):=q2.trans (aA dn)
               have hpk:=k5.La an;have oX:(M.swap tn an on (gb nn)).la.dn=((A.La an).2&&(A.La an).1==on):=by
                show(M.res ⟨3,tn,an,0,gb nn,false⟩ ((M.La an).1==on)).dn=_
                unfold Rv.res;rw [hpk];cases (A.La an).2<;>simp
               have hgs:=gSw k3 dt da dO dsn;have hNo:=He M ⟨3,tn,an,0,gb nn,false⟩ (gb nn) ((M.La an).1==on);have XX:Mb (M.swap tn an on (gb nn)) (A.swap tn an on (gb nn)):=k5.swap _ _ _ _;have Qu:Wd (A.swap tn an on (gb nn)):=k6.Me _ _ (by omega) (Zz nn);dsimp only at hg
               split at hg
               . rename_i b2 hsn bq;have bq:=Ye hF bq;obtain ⟨⟨y,y1⟩,y2⟩:=tf hF [m,a,old] (t:=Gt) (by decide);rw [y2,jaa k3 da dO]at bq;injection bq with bq
                 injection bq with bq
                 rw [bq]at oX
                 split at hg
                 . rw [ic,Si,ic]at hg;cases hg;have hp2:(A.La an).2=true:=by
                    rw [Bool.and_eq_true]at bq;exact bq.1
                   obtain ⟨⟨x,x1⟩,x2⟩:=tf hF [sy cm [m,t,a,old,mk F Rg [new]]] (t:=rM) (by decide);obtain ⟨⟨u,u1⟩,u2⟩:=tf hF [sy cm [m,t,a,old,mk F Rg [new]],a] (t:=N7) (by decide);have vck:VR R (mk F rM [sy cm [m,t,a,old,mk F Rg [new]]]) (.int .i64 (M.swap tn an on (gb nn)).ck):=by
                    refine Yc R x1 (x2.trans ((dCk hgs).trans ?_));have:=Qu.Cm;have:=Qu.ck;rw [XX.ck,IntKind.wrap_i64];exact congrArg (fun z=>(Qc.v (Value.int .i64 z):Qc Gh)) (by omega)
                   have qR:0<=Rk (A.swap tn an on (gb nn)) an/\Rk (A.swap tn an on (gb nn)) an<=2000000:=by
                    unfold Rk
                    split
                    . rename_i q;have hn:(A.swap tn an on (gb nn)).n=M.n:=by
                       rw [<-XX.n];unfold Rv.swap Rv.Me Rv.note;split
                       . unfold Rv.put;split<;>rfl
                       . rfl
                      rw [hn]at q;have:=k4.Oz (an/8).toNat (by omega)
                      have hw3:(A.swap tn an on (gb nn)).wr=A.wr:=(fx A _ _ _).2.2
                      rw [hw3,<-k5.wr];have:=k5.wm;have:=k6.wm;omega
                    . omega
                   have vwr:VR R (mk F N7 [sy cm [m,t,a,old,mk F Rg [new]],a]) (.int .i64 (Rk (A.swap tn an on (gb nn)) an)):=Yc R u1 (u2.trans (dWr qR hgs da));have vtt:VR R tt (.bool true):=Yc R (c:=8) rfl rfl;have v2:VR R (Fb 2) (.int .i64 2):=Yc R (c:=3) rfl rfl;have wR:LR R [t,a,Fb 2,old,new,tt,mk F rM [sy cm [m,t,a,old,mk F Rg [new]]],mk F N7 [sy cm [m,t,a,old,mk F Rg [new]],a]] [.int .i64 tn, .int .i64 an, .int .i64 2, .int .u64 on, .int .u64 nn, .bool true, .int .i64 (M.swap tn an on (gb nn)).ck, .int .i64 (Rk (A.swap tn an on (gb nn)) an)]:=
                    .cons h0 (.cons h1 (.cons v2 (.cons h3 (.cons h4 (.cons vtt (.cons vck (.cons vwr (.nil R))))))))
                   have qJ:Calls Tryz.prog 244 #[.pointer (some ⟨rs,0,none⟩), .pointer (some ⟨M.m,0,none⟩)] w (yx M (M.swap tn an on (gb nn)) rs #[.int .i64 tn, .int .i64 an, .int .i64 2, .int .u64 on, .int .u64 nn, .bool true, .int .i64 (M.swap tn an on (gb nn)).ck, .int .i64 (Rk (A.swap tn an on (gb nn)) an)] ty w):=by
                    by_cases hz:0<=an
                    . have ag:an/8<((M.swap tn an on (gb nn)).n:Int):=by
                       have hn:(M.swap tn an on (gb nn)).n=M.n:=by
                        unfold Rv.swap Rv.Me Rv.note;split
                        . unfold Rv.put;split<;>rfl
                        . rfl
                       rw [hn];rw [<-hpk]at hp2;rcases vx hp2 with⟨g0,g1⟩|⟨g0,_⟩
                       . omega
                       . exact absurd hz g0
                      have:=qI M rs tn an on nn pu wh wv ty w k4 hh Ch a0 a1 nu Mf oX ⟨hz,ag⟩;have e:Rk (A.swap tn an on (gb nn)) an=(M.swap tn an on (gb nn)).wr (an/8).toNat:=by
                       unfold Rk;rw [<-XX.n,if_pos ⟨hz,ag⟩,XX.wr]
                      rw [e];exact this
                    . have:=CF M rs tn an on nn pu wh wv ty w k4 hh Ch a0 a1 nu Mf oX (by omega);have e:Rk (A.swap tn an on (gb nn)) an=0:=by
                       unfold Rk;rw [if_neg (fun q=>hz q.1)]
                      have e2:wv= .int .i64 0:=by
                       rw [rl,Bool.or_eq_true]at sW;rcases sW with sW|sW
                       . obtain ⟨q,hq,rfl⟩:=Di sW;have:q= .i64:=Qb (by rw [Na];exact decide_eq_true hq)
                         subst this;exact Wc h7
                       . split at sW
                         . rename_i bb ED;have ED:=Ye hF ED;obtain ⟨_,g2⟩:=tf hF [a,Fb 0] (t:=280) (by decide);rw [g2,ZJ da (yb 0)]at ED;injection ED with ED
                           injection ED with ED
                           rw [Ae,<-ED]at sW;have:¬an<0:=by simpa using sW
                           omega
                         . cases sW
                      rw [e,<-e2];exact this
                   refine qJ.mono ?_
                   intro e w' hx;have BM:=hx;obtain ⟨rfl,_⟩:=BM;refine ⟨R,_,rfl,(Af k1 _).trans (Af hsr _),me R, ?_⟩;exact tK k7 hsr VU hc (fun e h=>by cases h) hh Ch (gRf hgs) XX Qu hNo wR rfl hx
                 . rw [ic,Si,ic]at hg;cases hg;have v2:VR R (Fb 0) (.int .i64 0):=Yc R (c:=3) rfl rfl;have wR:LR R [t,a,Fb 0,old,new,put,Sg,wr] [.int .i64 tn, .int .i64 an, .int .i64 0, .int .u64 on, .int .u64 nn,pu,wh,wv]:=
                    .cons h0 (.cons h1 (.cons v2 (.cons h3 (.cons h4 (.cons h5 (.cons h6 (.cons h7 (.nil R))))))))
                   refine (DN M rs tn an on nn pu wh wv ty w k4 hh Ch a0 a1 nu Mf oX).mono ?_
                   intro e w' hx;have BM:=hx;obtain ⟨rfl,_⟩:=BM;refine ⟨R,_,rfl,(Af k1 _).trans (Af hsr _),me R, ?_⟩;exact tK k7 hsr VU hc (fun e h=>by cases h) hh Ch (gRf hgs) XX Qu hNo wR rfl hx
               . cases hg
             . cases hg
           . cases hg
         . cases hg
       . cases hg
     . cases hg
   . cases hg
 . cases hg
end
end Sk
end Go.Proofs.YtfnkmolffhfpoaaGreat
