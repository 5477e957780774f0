/- -/
import Derived.Test.YtfnkmolffhfpoaaGreatHb33
import Derived.Test.YtfnkmolffhfpoaaGreatHb34
import Derived.Test.YtfnkmolffhfpoaaGreatHb31
import Derived.Test.YtfnkmolffhfpoaaGreatHb2
set_option linter.unusedVariables false
set_option linter.unusedSimpArgs false
set_option linter.unusedSectionVars false
namespace Go.Proofs.YtfnkmolffhfpoaaGreat
open Go.RowKit Go.BigFrame
theorem Mo{M:Rv}{at_:Int}(h:(M.Ga at_).2=false):(M.Ga at_).1=0:=by
 unfold Rv.Ga fe at*;by_cases h0:0<=at_<;>by_cases h1:at_/8<(M.n:Int)<;>by_cases h2:-1 -at_<(M.np:Int)<;>simp [h0,h1,h2]at h⊢
theorem Ot{M:Rv}{at_:Int}(h:(M.Ga at_).2=true):(0<=at_/\at_.toNat<8*M.n)\/(¬0<=at_/\(-1 -at_).toNat<M.np/\at_=-1 -((-1 -at_).toNat:Int)):=by
 unfold Rv.Ga fe at h;by_cases h0:0<=at_
 . rw [if_pos h0]at h;by_cases h1:at_/8<(M.n:Int)
   . exact Or.inl ⟨h0,by omega⟩
   . rw [if_neg h1]at h;cases h
 . rw [if_neg h0]at h;by_cases h1:-1 -at_<(M.np:Int)
   . exact Or.inr ⟨h0,by omega,by omega⟩
   . rw [if_neg h1]at h;cases h
theorem eA(M:Rv)(t at_ old w:Int)(q0:-9223372036854775808<=at_)(q1:at_<=9223372036854775807)(W:World)(h:ma W M)(hc:M.ck<=1000000):
  Calls Tryz.prog 47 #[.pointer (some ⟨M.m,0,none⟩), .int .i64 1, .int .i64 t, .int .i64 at_, .int .u64 old, .int .u64 w] W (Ch M (M.load t at_) W):=by
 unfold Rv.load Rv.Oe Rv.res;cases hp:(M.Ga at_).2 with
 |true=>
  have:=Wz M t at_ old w q0 q1 W h hc (M.Ga at_).1 (Prod.ext rfl hp)
  simpa [hp]using this
 |false=>
  have e:=Mo hp;have:=aw M t at_ old w q0 q1 W h hc 0 (Prod.ext e hp)
  simpa [hp]using this
theorem um(M:Rv)(t at_ old w:Int)(q0:-9223372036854775808<=at_)(q1:at_<=9223372036854775807)(W:World)(h:ma W M)(hc:M.ck<=1000000):
  Calls Tryz.prog 47 #[.pointer (some ⟨M.m,0,none⟩), .int .i64 2, .int .i64 t, .int .i64 at_, .int .u64 old, .int .u64 w] W (Ch M (M.store t at_ w) W):=by
 unfold Rv.store Rv.Oe Rv.res;cases hp:(M.Ga at_).2 with
 |true=>
  rcases Ot hp with⟨h0,h1⟩|⟨h0,h1,h2⟩
  . obtain ⟨k,rfl⟩:=Int.eq_ofNat_of_zero_le h0;have:=bw M t old w k W h hc (M.Ga (k:Int)).1 (Prod.ext rfl hp) h1
    simpa [hp,Rv.put]using this
  . obtain ⟨k,hk⟩:∃k,k=(-1 -at_).toNat:=⟨_,rfl⟩
    rw [<-hk]at h1 h2;subst h2;have:=ew M t old w k W h hc (M.Ga (-1 -(k:Int))).1 (Prod.ext rfl hp) h1
    have e:(-1 -(-1 -(k:Int))).toNat=k:=by omega
    have h9:¬((k:Int)<=-1):=by omega
    simpa [hp,Rv.put,h9,e]using this
 |false=>
  have e:=Mo hp;have:=Xz M t at_ old w q0 q1 W h hc 0 (Prod.ext e hp)
  simpa [hp]using this
theorem eh(M:Rv)(t at_ old w:Int)(q0:-9223372036854775808<=at_)(q1:at_<=9223372036854775807)(W:World)(h:ma W M)(hc:M.ck<=1000000):
  Calls Tryz.prog 47 #[.pointer (some ⟨M.m,0,none⟩), .int .i64 3, .int .i64 t, .int .i64 at_, .int .u64 old, .int .u64 w] W (Ch M (M.swap t at_ old w) W):=by
 unfold Rv.swap Rv.Oe Rv.res;cases hp:(M.Ga at_).2 with
 |true=>
  cases he:((M.Ga at_).1==old)with
  |true=>
   rcases Ot hp with⟨h0,h1⟩|⟨h0,h1,h2⟩
   . obtain ⟨k,rfl⟩:=Int.eq_ofNat_of_zero_le h0;have:=Yz M t old w k W h hc (M.Ga (k:Int)).1 (Prod.ext rfl hp) h1 he
     simpa [hp,he,Rv.put]using this
   . obtain ⟨k,hk⟩:∃k,k=(-1 -at_).toNat:=⟨_,rfl⟩
     rw [<-hk]at h1 h2;subst h2;have:=Zz M t old w k W h hc (M.Ga (-1 -(k:Int))).1 (Prod.ext rfl hp) h1 he
     have e:(-1 -(-1 -(k:Int))).toNat=k:=by omega
     have h9:¬((k:Int)<=-1):=by omega
     simpa [hp,he,Rv.put,h9,e]using this
  |false=>
   have:=pF M t at_ old w q0 q1 W h hc (M.Ga at_).1 (Prod.ext rfl hp) he
   simpa [hp,he]using this
 |false=>
  have e:=Mo hp;have:=SC M t at_ old w q0 q1 W h hc 0 (Prod.ext e hp)
  simpa [hp]using this
theorem jw(M:Rv)(t at_ old w:Int)(q0:-9223372036854775808<=at_)(q1:at_<=9223372036854775807)(W:World)(h:ma W M)(hc:M.ck<=1000000):
  Calls Tryz.prog 47 #[.pointer (some ⟨M.m,0,none⟩), .int .i64 4, .int .i64 t, .int .i64 at_, .int .u64 old, .int .u64 w] W (Ch M (M.Ka t at_) W):=by
 unfold Rv.Ka;by_cases h0:0<=at_
 . by_cases hE:M.Jb t (at_/8)=0
   . rw [if_pos ⟨h0,hE⟩];exact bA M t at_ old w q0 q1 W h hc _ _ rfl h0 hE
   . rw [if_neg (fun c=>hE c.2)];exact TC M t at_ old w q0 q1 W h hc _ _ rfl h0 hE
 . rw [if_neg (fun c=>h0 c.1)];exact aA M t at_ old w q0 q1 W h hc _ _ rfl (by omega)
theorem ow(M:Rv)(t at_ old w:Int)(q0:-9223372036854775808<=at_)(q1:at_<=9223372036854775807)(W:World)(h:ma W M)(hc:M.ck<=1000000)(hw:M.wm<=999999):
  Calls Tryz.prog 47 #[.pointer (some ⟨M.m,0,none⟩), .int .i64 5, .int .i64 t, .int .i64 at_, .int .u64 old, .int .u64 w] W (Ch M (M.Oa t) W):=by
 unfold Rv.Oa;by_cases hE:Bb M.nt t=0
 . rw [if_pos hE];have ht:0<=t/\t<M.nt:=by unfold Bb at hE;split at hE;cases hE;omega
   obtain ⟨k,rfl⟩:=Int.eq_ofNat_of_zero_le ht.1
   exact dA M _ at_ old w q0 q1 W h hc _ _ rfl k (by omega) hw rfl
 . rw [if_neg hE];exact UC M t at_ old w q0 q1 W h hc _ _ rfl hE
theorem LJ(M:Rv)(a:Acc):(M.nC a).own=M.own/\(M.nC a).m=M.m/\(M.nC a).wm<=M.wm+1/\(M.nC a).ck<=M.ck+1:=by
 unfold Rv.nC;have hp:∀x v,(M.put x v).own=M.own/\(M.put x v).m=M.m/\(M.put x v).wm=M.wm/\(M.put x v).ck=M.ck:=fun x v=>by unfold Rv.put;split<;>exact ⟨rfl,rfl,rfl,rfl⟩
 have hd:∀x nw pu,(M.Oe x nw pu).own=M.own/\(M.Oe x nw pu).m=M.m/\(M.Oe x nw pu).wm<=M.wm+1/\(M.Oe x nw pu).ck<=M.ck+1:=fun x nw pu=>by
  unfold Rv.Oe
  split
  . obtain ⟨a,b,c,d⟩:=hp x.pl nw;exact ⟨a,b,by show(M.put x.pl nw).wm<=_;omega,by show(M.put x.pl nw).ck+1<=_;omega⟩
  . exact ⟨rfl,rfl,by show M.wm<=M.wm+1;omega,by show M.ck+1<=M.ck+1;omega⟩
 split
 . exact hd _ _ _
 split
 . exact hd _ _ _
 split
 . exact hd _ _ _
 split
 . unfold Rv.Ka;split
   . exact ⟨rfl,rfl,by show M.wm<=M.wm+1;omega,by show M.ck+1<=M.ck+1;omega⟩
   . exact ⟨rfl,rfl,by show M.wm<=M.wm+1;omega,by show M.ck+1<=M.ck+1;omega⟩
 split
 . unfold Rv.Oa;split
   . exact ⟨rfl,rfl,by show M.wm+1<=M.wm+1;omega,by show M.ck+1<=M.ck+1;omega⟩
   . exact ⟨rfl,rfl,by show M.wm<=M.wm+1;omega,by show M.ck+1<=M.ck+1;omega⟩
 . exact ⟨rfl,rfl,by omega,by omega⟩
end Go.Proofs.YtfnkmolffhfpoaaGreat
namespace Go.Proofs.YtfnkmolffhfpoaaGreat
namespace Sk
open Go.RowKit
theorem Gf(M:Rv)(x:Acc)(nw:Int)(pu:Bool):(M.Oe x nw pu).own=M.own/\(M.Oe x nw pu).m=M.m:=by
 unfold Rv.Oe Rv.note
 split
 . unfold Rv.put;split<;>exact ⟨rfl,rfl⟩
 . exact ⟨rfl,rfl⟩
theorem Pt(M:Rv)(t a:Int):(M.Ka t a).own=M.own/\(M.Ka t a).m=M.m:=by unfold Rv.Ka;split<;>exact ⟨rfl,rfl⟩
theorem Qt(M:Rv)(t:Int):(M.Oa t).own=M.own/\(M.Oa t).m=M.m:=by unfold Rv.Oa;split<;>exact ⟨rfl,rfl⟩
section
variable{ρ:Nat->Int}{γ:Nat->Gh}
theorem YG{σ:AH}{p e m:Value}(h:DA 10 σ p=some e)(hm:lE e=some m){B:Nat->Prop}{w0:World}{R:Mp}{w:World}{p':Value}(hS: @Ic (Th.at ρ γ) B w0 R σ w)(hp: @VR (Th.at ρ γ) R p p'):
  ∃b r s A M,Ij p=b/\p'= .pointer (some ⟨r,0,none⟩)/\R b=some (r,s)/\σ.get b=some (.gh e)/\ @den (Th.at ρ γ) m= .g (Gh.mem A)/\ma w M/\M.m=r/\od M A/\Wd A/\(∀b2 r2 s2 o2,b2≠b->R b2=some (r2,s2)->σ.get b2=some o2->¬M.own r2)/\
   ∀w' e' M' A', @den (Th.at ρ γ) e'= .g (Gh.ref A')->ma w' M'->M'.m=r->od M' A'->Wd A'->(∀k,M'.own k->M.own k\/w.heap.size<=k)->Ea M.own w w'-> @Ic (Th.at ρ γ) B w0 R (σ.put b (some (.gh e'))) w':=by
 letI:Interp:=Th.at ρ γ
 obtain ⟨b,r,s,_,_,rfl,rfl,h1,h2,h3,_,_⟩:=Oz h hS hp;obtain ⟨_,A,hA,hE⟩:=IC (ρ:=ρ) (γ:=γ) hm;obtain ⟨g0,O0,k1,k2,k3,k5,k4⟩:=hS.gat h1 h2;rw [hE]at k1;injection k1 with k1
 subst k1;obtain ⟨M,m1,m2,rfl,m4,m5⟩:=k2;refine ⟨b,r,s,A,M,rfl,rfl,h1,h2,hA,m1,m2,m4,m5,k5,fun w' e' M' A' q1 q2 q3 q4 q5 q6 q7=> ?_⟩;exact k4 w' e' (Gh.ref A') M'.own q1 ⟨M',q2,q3,rfl,q4,q5⟩ q6 (PC q7)
theorem ZY{m:Value}{A:Rv}(h: @den (Th.at ρ γ) m= .g (Gh.mem A)): @den (Th.at ρ γ) (sy xp [m])= .g (Gh.ref A):=by
 have e1: @den (Th.at ρ γ) (sy xp [m])=(tc.g (Wv 10 (Yj 20 [@den (Th.at ρ γ) m])):tc Gh):=rfl;rw [h]at e1;exact e1
theorem Rt[Interp]{R:Mp}{v1 v2 v3 v4 v5 v6:Value}{a1 a2 a3 a4 a5:Int}{a6:Bool}(h1:VR R v1 (.int .i64 a1))(h2:VR R v2 (.int .i64 a2))(h3:VR R v3 (.int .i64 a3))(h4:VR R v4 (.int .u64 a4))(h5:VR R v5 (.int .u64 a5))(h6:VR R v6 (.bool a6)){x:Acc}(hx:x=⟨a1,a2,a3,a4,a5,a6⟩):VR R (.agg ⟨[v1,v2,v3,v4,v5,v6]⟩) (.agg x.cells):=by
 subst hx;exact (LR.cons h1 (.cons h2 (.cons h3 (.cons h4 (.cons h5 (.cons h6 (.nil R))))))).agg
variable{F:List (Value×Value)}(hF:∀p,p∈F-> @den (Th.at ρ γ) p.1= @den (Th.at ρ γ) p.2)
include hF
theorem aZ: @yD (Th.at ρ γ) Tryz.prog F oDo 47:=by
 letI:Interp:=Th.at ρ γ
 haveI:Bc:=ua ρ γ
 intro args σ v σ' hg B w0 R w args' hS hl;unfold oDo at hg
 split at hg
 . rename_i p k t a o x
   split at hg
   . rename_i e he
     split at hg
     . rename_i m n hm hn
       split at hg
       . rename_i hc hf;simp only [za,Bool.and_eq_true]at hc;obtain ⟨hk,ht,ha,ho,hx⟩:=hc;obtain ⟨p',l',rfl,hp,hl⟩:=hl.qa;obtain ⟨k',l',rfl,rI,hl⟩:=hl.qa;obtain ⟨t',l',rfl,dj,hl⟩:=hl.qa;obtain ⟨a',l',rfl,OC,hl⟩:=hl.qa;obtain ⟨o',l',rfl,OH,hl⟩:=hl.qa;obtain ⟨x',l',rfl,OI,hl⟩:=hl.qa;cases hl.uc;obtain ⟨b,r,s,A,M,rfl,rfl,k1,k2,k3,k4,rfl,k5,k6,_,k7⟩:=YG he hm hS hp;obtain ⟨kn,rfl,dk,_,_⟩:=te rI hk;obtain ⟨tn,rfl,dt,t0,t1⟩:=te dj ht;obtain ⟨an,rfl,da,a0,a1⟩:=te OC ha;obtain ⟨on,rfl,dO,ou⟩:=Ho OH ho;obtain ⟨xn,rfl,dx,xu⟩:=Ho OI hx;obtain ⟨c1,c2⟩:=Fh hF hf k3 k6;have ej:M.ck<=1000000:=by rw [k5.ck];omega
         have S2:M.wm<=999999:=by rw [k5.wm];omega
         have yn:kn=n:=by
          obtain ⟨q,rfl⟩:=SG hn;exact Rj dk
         subst yn;obtain ⟨⟨q,q1⟩,q2⟩:=ze hF [m,a] (t:=kq) (by decide);obtain ⟨⟨z,z1⟩,z2⟩:=ze hF [m,a] (t:=Q4) (by decide);have hp:=k5.Ga an;have vpk:VR R (mk F kq [m,a]) (.int .u64 (A.Ga an).1):=Mc R q1 (q2.trans (aU k6 k3 da));have vis:VR R (mk F Q4 [m,a]) (.bool (A.Ga an).2):=Mc R z1 (z2.trans (dIs k3 da));have v0:VR R (Zh 0) (.int .u64 0):=Mc R (c:=7) rfl rfl;have vz:VR R (rb 0) (.int .i64 0):=Mc R (c:=3) rfl rfl;have Mh:(A.Ga an).2=false->(A.Ga an).1=0:=fun h=>Mo h
         split at hg
         . rw [Wb]at hg;cases hg;refine (eA M tn an on xn a0 a1 w k4 ej).mono ?_
           rintro y w' ⟨rfl,m1,m2⟩;refine ⟨R,_,rfl,Ke k1 _,Rt rI dj OC vpk v0 vis ?_,k7 w' _ (M.load tn an) (A.load tn an) (ZY (gLd k3 dt da)) m1 (Gf M ⟨1,tn,an,0,0,false⟩ 0 false).2 (k5.Oe _ _ _) (k6.Oe _ _ (by omega) u0) (fun k hk=> .inl (by have:=(Gf M ⟨1,tn,an,0,0,false⟩ 0 false).1;exact this▸hk)) m2⟩
           show M.res ⟨1,tn,an,0,0,false⟩ _=_
           unfold Rv.res;rw [hp];cases hb:(A.Ga an).2 with
           |true=>simp
           |false=>simp [Mh hb]
         . rw [Wb]at hg;cases hg;refine (um M tn an on xn a0 a1 w k4 ej).mono ?_
           rintro y w' ⟨rfl,m1,m2⟩;refine ⟨R,_,rfl,Ke k1 _,Rt rI dj OC vpk OI vis ?_,k7 w' _ (M.store tn an xn) (A.store tn an xn) (ZY (gSt k3 dt da dx)) m1 (Gf M ⟨2,tn,an,0,xn,false⟩ xn true).2 (k5.Oe _ _ _) (k6.Oe _ _ (by omega) xu) (fun k hk=> .inl (by have:=(Gf M ⟨2,tn,an,0,xn,false⟩ xn true).1;exact this▸hk)) m2⟩
           show M.res ⟨2,tn,an,0,xn,false⟩ _=_
           unfold Rv.res;rw [hp];cases hb:(A.Ga an).2 with
           |true=>simp
           |false=>simp [Mh hb]
         . rw [Wb]at hg;cases hg;obtain ⟨⟨y,y1⟩,y2⟩:=ze hF [m,a,o] (t:=mq) (by decide);have vsw:VR R (mk F mq [m,a,o]) (.bool ((A.Ga an).2&&(A.Ga an).1==on)):=Mc R y1 (y2.trans (NY k3 da dO));refine (eh M tn an on xn a0 a1 w k4 ej).mono ?_
           rintro y w' ⟨rfl,m1,m2⟩;refine ⟨R,_,rfl,Ke k1 _,Rt rI dj OC vpk OI vsw ?_,k7 w' _ (M.swap tn an on xn) (A.swap tn an on xn) (ZY (gSw k3 dt da dO dx)) m1 (Gf M ⟨3,tn,an,0,xn,false⟩ xn ((M.Ga an).1==on)).2 (k5.swap _ _ _ _) (k6.Oe _ _ (by omega) xu) (fun k hk=> .inl (by have:=(Gf M ⟨3,tn,an,0,xn,false⟩ xn ((M.Ga an).1==on)).1;exact this▸hk)) m2⟩
           show M.res ⟨3,tn,an,0,xn,false⟩ _=_
           unfold Rv.res;rw [hp];cases hb:(A.Ga an).2 with
           |true=>simp
           |false=>simp [Mh hb]
         . rw [Wb]at hg;cases hg;obtain ⟨⟨y,y1⟩,y2⟩:=ze hF [m,t,a] (t:=IQ) (by decide);have vfl:VR R (mk F IQ [m,t,a]) (.bool (A.Ka tn an).la.dn):=Mc R y1 (y2.trans (Caq k3 dt da));refine (jw M tn an on xn a0 a1 w k4 ej).mono ?_
           rintro y w' ⟨rfl,m1,m2⟩;refine ⟨R,_,rfl,Ke k1 _,Rt rI dj OC v0 v0 vfl ?_,k7 w' _ (M.Ka tn an) (A.Ka tn an) (ZY (gFl k3 dt da)) m1 (Pt M tn an).2 (k5.Ka _ _) (k6.Ka _ _ (by omega)) (fun k hk=> .inl (by have:=(Pt M tn an).1;exact this▸hk)) m2⟩
           show(M.Ka tn an).la=_
           rw [<-(k5.Ka tn an).la];unfold Rv.Ka
           split<;>rfl
         . rw [Wb]at hg;cases hg;obtain ⟨⟨y,y1⟩,y2⟩:=ze hF [m,t] (t:=JQ) (by decide);have vfe:VR R (mk F JQ [m,t]) (.bool (A.Oa tn).la.dn):=Mc R y1 (y2.trans (Daq k3 dt));refine (ow M tn an on xn a0 a1 w k4 ej S2).mono ?_
           rintro y w' ⟨rfl,m1,m2⟩;refine ⟨R,_,rfl,Ke k1 _,Rt rI dj vz v0 v0 vfe ?_,k7 w' _ (M.Oa tn) (A.Oa tn) (ZY (gFe k3 dt)) m1 (Qt M tn).2 (k5.Oa _) (k6.Oa _ (by omega) (by omega)) (fun k hk=> .inl (by have:=(Qt M tn).1;exact this▸hk)) m2⟩
           show(M.Oa tn).la=_
           rw [<-(k5.Oa tn).la];unfold Rv.Oa
           split<;>rfl
         . cases hg
       . cases hg
     . cases hg
   . cases hg
 . cases hg
end
end Sk
end Go.Proofs.YtfnkmolffhfpoaaGreat
namespace Go.Proofs.YtfnkmolffhfpoaaGreat
open Go.RowKit Go.BigFrame
theorem mN{W:World}{b:Nat}{k0 k1 k2 k3 k4 k5 k6 k7:Value}{t:TypeId}(h:W.heap[b]?=some (.cells #[k0,k1,k2,k3,k4,k5,k6,k7] t (0,0))):
  W.cell? ⟨b,0,none⟩=some k0/\W.cell? ⟨b,1,none⟩=some k1/\W.cell? ⟨b,2,none⟩=some k2/\W.cell? ⟨b,3,none⟩=some k3/\W.cell? ⟨b,4,none⟩=some k4/\W.cell? ⟨b,5,none⟩=some k5/\W.cell? ⟨b,6,none⟩=some k6/\W.cell? ⟨b,7,none⟩=some k7/\∀j,W.frozen? ⟨b,j,none⟩=false:=by
 refine ⟨?_, ?_, ?_, ?_, ?_, ?_, ?_, ?_,fun j=> ?_⟩
 all_goals first|(rw [cell_of_row _ _ _ _ _ _ h];rfl)|(unfold World.frozen?;rw [h];simp)
theorem nN(a b c d e f:Value)(w:World):(Instr.field 112 (.agg #[a,b,c,d,e,f]) 5).run Tryz.prog w= .ok f w:=by kernel_rfl
theorem Ea.fA{F:Nat->Prop}{a w:World}(h:Ea F a w)(n:Nat):Ea F a (w.drewN n):=⟨h.os,h.tape,h.output,h.size,h.block⟩
def St(M N:Rv)(rs:Nat)(row:Array Value)(ty:TypeId)(W:World)(e:Ending)(W':World):Prop:=e= .returned undef/\ma W' N/\W'.heap[rs]?=some (.cells row ty (0,0))/\Ea (fun k=>M.own k\/k=rs) W W'
theorem ma.He{W:World}{M:Rv}(h:ma W M){rs:Nat}(hn:¬M.own rs)(j:Nat)(v:Value):ma (W.setCell ⟨rs,j,none⟩ v) M:=h.keep fun k hk=>aa fun e=>hn (e▸hk)
set_option maxRecDepth 100000 in
theorem MJ(M:Rv)(rs:Nat)(t a old new:Int)(pu wh wr:Value)(ty:TypeId)(W:World)(h:ma W M)(hr:W.heap[rs]?=some (.cells #[.int .i64 t, .int .i64 a, .int .i64 1, .int .u64 old, .int .u64 new,pu,wh,wr] ty (0,0)))(hn:¬M.own rs)(q0:-9223372036854775808<=a)(q1:a<=9223372036854775807)(hu:cd new)(hc:M.ck<=1000000)(hd:(M.swap t a old (Xa new)).la.dn=false):
  Calls Tryz.prog 244 #[.pointer (some ⟨rs,0,none⟩), .pointer (some ⟨M.m,0,none⟩)] W (St M (M.swap t a old (Xa new)) rs #[.int .i64 t, .int .i64 a, .int .i64 0, .int .u64 old, .int .u64 new,pu,wh,wr] ty W):=by
 obtain ⟨c0,c1,c2,c3,c4,c5,c6,c7,cf⟩:=mN hr;have HS:=Lib.hid fun w=>Eo new hu w
 have HO:Hid ((M.swap t a old (Xa new)).own=M.own/\(M.swap t a old (Xa new)).m=M.m):=Lib.hid (Sk.Gf M _ _ _);have qX:rs<W.heap.size:=(Array.getElem?_eq_some_iff.1 hr).1
 have HM:Hid (∀w,ma w M->Calls Tryz.prog 47 #[.pointer (some ⟨M.m,0,none⟩), .int .i64 3, .int .i64 t, .int .i64 a, .int .u64 old, .int .u64 (Xa new)] w (Ch M (M.swap t a old (Xa new)) w)):=Lib.hid fun w hw=>eh M t a old _ q0 q1 w hw hc
 have HW:=Lib.hid h;have HR:=Lib.hid hr;have HN:=Lib.hid hn;have FD:=fun a b c d e f w=>nN a b c d e f w
 clear h hr hn;generalize Xa new=sn at*;generalize M.swap t a old sn=N at*;obtain ⟨x,hx⟩:∃x,x=N.la:=⟨_,rfl⟩;have HX:=Lib.hid hx;rw [<-hx]at hd;clear hx;obtain ⟨ki,th,pl,ol,ne,dn⟩:=x;simp only at hd;subst hd
 go_enter Tryz.func244,Tryz.ntmps244
 go_wp2_with fail
 refine vg 0 18 (by kernel_rfl) (by kernel_rfl) (fun _ _ d _ _ h=>by cases d<;>exact h) ?_
 simp only [List.take_succ_cons,List.take_zero,List.drop_succ_cons,List.drop_zero,Nat.reduceAdd]
 repeat (first|go_big_quiet_skip|(go_big_quiet_want;go_big_quiet_op;go_big_quiet_on))
 refine wpQuiet_nil ?_
 repeat (first|go_big_quiet_skip|(go_big_quiet_want;go_big_quiet_op;first|go_big_quiet_on|go_big_quiet_call ((go_at_call 292;exact Calls.quiet_of_same (HS.out _)))))
 refine wpQuiet_nil ?_
 rintro _ ⟨k,rfl⟩
 go_wp2_with fail
 refine (HM.out ((W.setCell ⟨rs,2,none⟩ (.int .i64 0)).drewN k) ((HW.out.He HN.out 2 (.int .i64 0)).keep fun _ _=>rfl)).mono ?_
 rintro e w1 ⟨rfl,hm,ht⟩;rw [<-HX.out];have GA:=Lib.hid hm;have HT1:=Lib.hid ht;have OP:=Lib.hid ((ht.block rs (by simpa [World.setCell]using qX) HN.out).trans (heap_set (.int .i64 0) HR.out));simp only [List.setIfInBounds_toArray,List.set_cons_succ,List.set_cons_zero]at OP;clear hm ht;simp only [Acc.cells];clear c0 c1 c2 c3 c4 c5 c6 c7 cf
 go_wp2_with fail
 go_end0
 exact ⟨rfl,GA.out,OP.out,(((Ea.refl _ W).set (fun _=> .inr rfl) 2 (.int .i64 0)).fA k).trans HT1.out (fun _ _ h=> .inl h)⟩
set_option maxRecDepth 100000 in
theorem qF(M:Rv)(rs:Nat)(t a old new:Int)(pu wh wr:Value)(ty:TypeId)(W:World)(h:ma W M)(hr:W.heap[rs]?=some (.cells #[.int .i64 t, .int .i64 a, .int .i64 1, .int .u64 old, .int .u64 new,pu,wh,wr] ty (0,0)))(hn:¬M.own rs)(q0:-9223372036854775808<=a)(q1:a<=9223372036854775807)(hu:cd new)(hc:M.ck<=1000000)(hd:(M.swap t a old (Xa new)).la.dn=true)(ha:0<=a/\a/8<((M.swap t a old (Xa new)).n:Int)):
  Calls Tryz.prog 244 #[.pointer (some ⟨rs,0,none⟩), .pointer (some ⟨M.m,0,none⟩)] W (St M (M.swap t a old (Xa new)) rs #[.int .i64 t, .int .i64 a, .int .i64 2, .int .u64 old, .int .u64 new, .bool true, .int .i64 (M.swap t a old (Xa new)).ck, .int .i64 ((M.swap t a old (Xa new)).wr (a/8).toNat)] ty W):=by
 obtain ⟨c0,c1,c2,c3,c4,c5,c6,c7,cf⟩:=mN hr;have HS:=Lib.hid fun w=>Eo new hu w
 have HO:Hid ((M.swap t a old (Xa new)).own=M.own/\(M.swap t a old (Xa new)).m=M.m):=Lib.hid (Sk.Gf M _ _ _);have qX:rs<W.heap.size:=(Array.getElem?_eq_some_iff.1 hr).1
 have HM:Hid (∀w,ma w M->Calls Tryz.prog 47 #[.pointer (some ⟨M.m,0,none⟩), .int .i64 3, .int .i64 t, .int .i64 a, .int .u64 old, .int .u64 (Xa new)] w (Ch M (M.swap t a old (Xa new)) w)):=Lib.hid fun w hw=>eh M t a old _ q0 q1 w hw hc
 have HW:=Lib.hid h;have HR:=Lib.hid hr;have HN:=Lib.hid hn;have FD:=fun a b c d e f w=>nN a b c d e f w
 clear h hr hn;generalize Xa new=sn at*;generalize M.swap t a old sn=N at*;obtain ⟨x,hx⟩:∃x,x=N.la:=⟨_,rfl⟩;have HX:=Lib.hid hx;rw [<-hx]at hd;clear hx;obtain ⟨ki,th,pl,ol,ne,dn⟩:=x;simp only at hd;subst hd
 go_enter Tryz.func244,Tryz.ntmps244
 go_wp2_with fail
 refine vg 0 18 (by kernel_rfl) (by kernel_rfl) (fun _ _ d _ _ h=>by cases d<;>exact h) ?_
 simp only [List.take_succ_cons,List.take_zero,List.drop_succ_cons,List.drop_zero,Nat.reduceAdd]
 repeat (first|go_big_quiet_skip|(go_big_quiet_want;go_big_quiet_op;go_big_quiet_on))
 refine wpQuiet_nil ?_
 repeat (first|go_big_quiet_skip|(go_big_quiet_want;go_big_quiet_op;first|go_big_quiet_on|go_big_quiet_call ((go_at_call 292;exact Calls.quiet_of_same (HS.out _)))))
 refine wpQuiet_nil ?_
 rintro _ ⟨k,rfl⟩
 go_wp2_with fail
 refine (HM.out ((W.setCell ⟨rs,2,none⟩ (.int .i64 0)).drewN k) ((HW.out.He HN.out 2 (.int .i64 0)).keep fun _ _=>rfl)).mono ?_
 rintro e w1 ⟨rfl,hm,ht⟩;rw [<-HX.out];have GA:=Lib.hid hm;have HT1:=Lib.hid ht;have OP:=Lib.hid ((ht.block rs (by simpa [World.setCell]using qX) HN.out).trans (heap_set (.int .i64 0) HR.out));simp only [List.setIfInBounds_toArray,List.set_cons_succ,List.set_cons_zero]at OP;clear hm ht;simp only [Acc.cells];clear c0 c1 c2 c3 c4 c5 c6 c7 cf;obtain ⟨c0,c1,c2,c3,c4,c5,c6,c7,cf⟩:=mN OP.out;obtain ⟨x0,x1,x2,-⟩:=ae GA.out.row;obtain ⟨y0,y1,y2,y3⟩:=Qd GA.out.dev;have ZG:¬N.own rs:=by rw [HO.out.1];exact HN.out
 have hmm:=HO.out.2
 rw [hmm]at x0 x1 x2;have n1:rs≠M.m:=fun e=>ZG (by rw [e,<-hmm];exact Or.inl (by simp [Rv.blocks]))
 have n2:rs≠N.d:=fun e=>ZG (by rw [e];exact Or.inl (by simp [Rv.blocks]))
 have n3:rs≠N.wb:=fun e=>ZG (by rw [e];exact Or.inl (by simp [Rv.blocks]))
 have n1':=Ne.symm n1;have n2':=Ne.symm n2;have n3':=Ne.symm n3;have hnn:=GA.out.n1;have d0:decide (0<=a)=true:=ca ha.1
 have e8:a.tdiv 8=a/8:=Int.tdiv_eq_ediv_of_nonneg ha.1
 have hcw:w1.cell? ⟨N.wb,(a/8).toNat,none⟩=some (.int .i64 (N.wr (a/8).toNat)):=GA.out.wr.cell (by omega);obtain ⟨i,hi⟩:=Int.eq_ofNat_of_zero_le (show 0<=a/8 by omega);rw [hi]at hcw e8;rw [Int.toNat_natCast]at hcw;have f1:(i:Int)<(N.n:Int):=by omega
 have d1:decide ((i:Int)<(N.n:Int))=true:=ca f1
 go_wp2_with fail
 refine vg 0 15 (by kernel_rfl) (by kernel_rfl) (fun _ _ d _ _ h=>by cases d<;>exact h) ?_
 simp only [List.take_succ_cons,List.take_zero,List.drop_succ_cons,List.drop_zero,Nat.reduceAdd]
 repeat (first|go_big_quiet_skip|(go_big_quiet_want;go_big_quiet_op;go_big_quiet_on))
 refine wpQuiet_nil ?_
 repeat (first|go_big_quiet_skip|(go_big_quiet_want;go_big_quiet_op;first|go_big_quiet_on))
 refine wpQuiet_nil ?_
 rintro _ ⟨k2,rfl⟩
 go_wp2_with fail
 go_end0
 have ei:(a/8).toNat=i:=by omega
 rw [ei];refine ⟨rfl, ?_, ?_, ?_⟩
 . exact ((((GA.out.He ZG 5 _).He ZG 6 _).keep (W':=((w1.setCell ⟨rs,5,none⟩ (.bool true)).setCell ⟨rs,6,none⟩ (.int .i64 N.ck)).drewN k2) fun _ _=>rfl).He ZG 7 _).He ZG 2 _
 . exact heap_set (.int .i64 2) (heap_set (.int .i64 (N.wr i)) (w:=((w1.setCell ⟨rs,5,none⟩ (.bool true)).setCell ⟨rs,6,none⟩ (.int .i64 N.ck)).drewN k2) (heap_set (.int .i64 N.ck) (heap_set (.bool true) OP.out)))
 . exact ((((((((Ea.refl _ W).set (fun _=> .inr rfl) 2 (.int .i64 0)).fA k).trans HT1.out (fun _ _ h=> .inl h)).set (fun _=> .inr rfl) 5 _).set (fun _=> .inr rfl) 6 _).fA k2).set (fun _=> .inr rfl) 7 _).set (fun _=> .inr rfl) 2 _
set_option maxRecDepth 100000 in
theorem VC(M:Rv)(rs:Nat)(t a old new:Int)(pu wh wr:Value)(ty:TypeId)(W:World)(h:ma W M)(hr:W.heap[rs]?=some (.cells #[.int .i64 t, .int .i64 a, .int .i64 1, .int .u64 old, .int .u64 new,pu,wh,wr] ty (0,0)))(hn:¬M.own rs)(q0:-9223372036854775808<=a)(q1:a<=9223372036854775807)(hu:cd new)(hc:M.ck<=1000000)(hd:(M.swap t a old (Xa new)).la.dn=true)(ha:a<0):
  Calls Tryz.prog 244 #[.pointer (some ⟨rs,0,none⟩), .pointer (some ⟨M.m,0,none⟩)] W (St M (M.swap t a old (Xa new)) rs #[.int .i64 t, .int .i64 a, .int .i64 2, .int .u64 old, .int .u64 new, .bool true, .int .i64 (M.swap t a old (Xa new)).ck,wr] ty W):=by
 obtain ⟨c0,c1,c2,c3,c4,c5,c6,c7,cf⟩:=mN hr;have HS:=Lib.hid fun w=>Eo new hu w
 have HO:Hid ((M.swap t a old (Xa new)).own=M.own/\(M.swap t a old (Xa new)).m=M.m):=Lib.hid (Sk.Gf M _ _ _);have qX:rs<W.heap.size:=(Array.getElem?_eq_some_iff.1 hr).1
 have HM:Hid (∀w,ma w M->Calls Tryz.prog 47 #[.pointer (some ⟨M.m,0,none⟩), .int .i64 3, .int .i64 t, .int .i64 a, .int .u64 old, .int .u64 (Xa new)] w (Ch M (M.swap t a old (Xa new)) w)):=Lib.hid fun w hw=>eh M t a old _ q0 q1 w hw hc
 have HW:=Lib.hid h;have HR:=Lib.hid hr;have HN:=Lib.hid hn;have FD:=fun a b c d e f w=>nN a b c d e f w
 clear h hr hn;generalize Xa new=sn at*;generalize M.swap t a old sn=N at*;obtain ⟨x,hx⟩:∃x,x=N.la:=⟨_,rfl⟩;have HX:=Lib.hid hx;rw [<-hx]at hd;clear hx;obtain ⟨ki,th,pl,ol,ne,dn⟩:=x;simp only at hd;subst hd
 go_enter Tryz.func244,Tryz.ntmps244
 go_wp2_with fail
 refine vg 0 18 (by kernel_rfl) (by kernel_rfl) (fun _ _ d _ _ h=>by cases d<;>exact h) ?_
 simp only [List.take_succ_cons,List.take_zero,List.drop_succ_cons,List.drop_zero,Nat.reduceAdd]
 repeat (first|go_big_quiet_skip|(go_big_quiet_want;go_big_quiet_op;go_big_quiet_on))
 refine wpQuiet_nil ?_
 repeat (first|go_big_quiet_skip|(go_big_quiet_want;go_big_quiet_op;first|go_big_quiet_on|go_big_quiet_call ((go_at_call 292;exact Calls.quiet_of_same (HS.out _)))))
 refine wpQuiet_nil ?_
 rintro _ ⟨k,rfl⟩
 go_wp2_with fail
 refine (HM.out ((W.setCell ⟨rs,2,none⟩ (.int .i64 0)).drewN k) ((HW.out.He HN.out 2 (.int .i64 0)).keep fun _ _=>rfl)).mono ?_
 rintro e w1 ⟨rfl,hm,ht⟩;rw [<-HX.out];have GA:=Lib.hid hm;have HT1:=Lib.hid ht;have OP:=Lib.hid ((ht.block rs (by simpa [World.setCell]using qX) HN.out).trans (heap_set (.int .i64 0) HR.out));simp only [List.setIfInBounds_toArray,List.set_cons_succ,List.set_cons_zero]at OP;clear hm ht;simp only [Acc.cells];clear c0 c1 c2 c3 c4 c5 c6 c7 cf;obtain ⟨c0,c1,c2,c3,c4,c5,c6,c7,cf⟩:=mN OP.out;obtain ⟨x0,x1,x2,-⟩:=ae GA.out.row;obtain ⟨y0,y1,y2,y3⟩:=Qd GA.out.dev;have ZG:¬N.own rs:=by rw [HO.out.1];exact HN.out
 have hmm:=HO.out.2
 rw [hmm]at x0 x1 x2;have n1:rs≠M.m:=fun e=>ZG (by rw [e,<-hmm];exact Or.inl (by simp [Rv.blocks]))
 have n2:rs≠N.d:=fun e=>ZG (by rw [e];exact Or.inl (by simp [Rv.blocks]))
 have n3:rs≠N.wb:=fun e=>ZG (by rw [e];exact Or.inl (by simp [Rv.blocks]))
 have n1':=Ne.symm n1;have n2':=Ne.symm n2;have n3':=Ne.symm n3;have hnn:=GA.out.n1;have d0:decide (0<=a)=false:=ea (by omega)
 go_wp2_with fail
 go_end0
 refine ⟨rfl, ?_, ?_, ?_⟩
 . exact ((GA.out.He ZG 5 _).He ZG 6 _).He ZG 2 _
 . exact heap_set (.int .i64 2) (heap_set (.int .i64 N.ck) (heap_set (.bool true) OP.out))
 . exact (((((((Ea.refl _ W).set (fun _=> .inr rfl) 2 (.int .i64 0)).fA k).trans HT1.out (fun _ _ h=> .inl h)).set (fun _=> .inr rfl) 5 _).set (fun _=> .inr rfl) 6 _)).set (fun _=> .inr rfl) 2 _
end Go.Proofs.YtfnkmolffhfpoaaGreat
namespace Go.Proofs.YtfnkmolffhfpoaaGreat
namespace Sk
open Go.RowKit
theorem NJ[Interp]{B:Nat->Prop}{w0:World}{R:Mp}{σ:AH}{w:World}(hS:Ic B w0 R σ w){b r s:Nat}(hb:R b=some (r,s)){c:Row}{e:TypeId}(hg:σ.get b=some (.cells c e true)){m:Nat}{l:List Value}(hn:c.n=m)(hl:c.from 0 m=some l):
  ∃l':List Value,w.heap[r]?=some (.cells ⟨l'⟩ e (0,0))/\s=m/\LR R l l':=by
 obtain ⟨_,c',h1,h2,h3,h4,h5⟩:=hS.obj b r s _ hb hg;obtain ⟨k1,k2⟩:=cB m c 0 l hl;have hs:s=m:=by rw [<-h4 rfl,hn]
 refine ⟨c'.toList,h1,hs, ?_,fun i x y hx hy=> ?_⟩
 . rw [k1,Array.length_toList,h2,hs]
 . have hi:i<m:=by have:=(List.getElem?_eq_some_iff.1 hx).1;omega
   have:=k2 i hi;rw [Nat.zero_add,hx]at this;obtain ⟨_,v',q1,q2⟩:=h5 i x this;have hy:c'[i]?=some y:=by simpa using hy
   rw [hy]at q1;cases q1;exact q2
theorem oN(w:World)(r:Nat)(o:Obj)(h:r<w.heap.size):({w with heap:=w.heap.setIfInBounds r o}:World).heap[r]?=some o:=by simp [h]
theorem Pk(w:World)(r:Nat)(o:Obj){k:Nat}(h:k≠r):({w with heap:=w.heap.setIfInBounds r o}:World).heap[k]?=w.heap[k]?:=by
 show(w.heap.setIfInBounds r o)[k]?=_
 rw [Array.getElem?_setIfInBounds,if_neg (Ne.symm h)]
section
variable{ρ:Nat->Int}{γ:Nat->Gh}
variable{F:List (Value×Value)}(hF:∀p,p∈F-> @den (Th.at ρ γ) p.1= @den (Th.at ρ γ) p.2)
theorem aH{B:Nat->Prop}{w0:World}{R:Mp}{σ:AH}{w w':World}{b s rs z:Nat}{M N:Rv}{A':Rv}{row YR:List Value}{ty:TypeId}{c0:Array Value}{y:ya}{e':Value}
  (k7:∀w' e' M' A', @den (Th.at ρ γ) e'= .g (Gh.ref A')->ma w' M'->M'.m=M.m->od M' A'->Wd A'->(∀k,M'.own k->M.own k\/w.heap.size<=k)->Ea M.own w w'-> @Ic (Th.at ρ γ) B w0 R (σ.put b (some (.gh e'))) w')
  (hb:R s=some (rs,z))(sQ:s≠b)(hy:σ.get s=some y)(hyg:∀e,y≠ .gh e)(h0:w.heap[rs]?=some (.cells c0 ty (0,0)))(hn:¬M.own rs)(he: @den (Th.at ρ γ) e'= .g (Gh.ref A'))(hA:od N A')(hw:Wd A')(hN:N.own=M.own/\N.m=M.m)
  (hr: @LR (Th.at ρ γ) R row YR)(hz:YR.length=z)(hx:St M N rs ⟨YR⟩ ty w (.returned undef) w'): @Ic (Th.at ρ γ) B w0 R ((σ.put b (some (.gh e'))).put s (some (.cells (Row.nil.app row) ty true))) w':=by
 letI:Interp:=Th.at ρ γ
 obtain ⟨_,x1,x2,x3⟩:=hx;have Ab:rs<w'.heap.size:=(Array.getElem?_eq_some_iff.1 x2).1
 have Xg:({w' with heap:=w'.heap.setIfInBounds rs (.cells c0 ty (0,0))}:World).heap.size=w'.heap.size:=by simp
 have s1:=k7 {w' with heap:=w'.heap.setIfInBounds rs (.cells c0 ty (0,0))} e' N A' he
  (x1.keep fun k hk=>Pk w' rs _ fun q=>hn (by rw [<-hN.1];exact q▸hk)) hN.2 hA hw (fun k hk=> .inl (hN.1▸hk))
  ⟨x3.os,x3.tape,x3.output,by rw [Xg];exact x3.size,fun k hk ho=>by
    by_cases q:k=rs
    . subst q;rw [oN w' k _ Ab,h0]
    . rw [Pk w' rs _ q];exact x3.block k hk fun z=>z.elim ho q⟩
 refine s1.aL hb ⟨y,by rw [ib,if_neg sQ];exact hy,hyg⟩ ?_ (fun k hk=>(Pk w' rs _ hk).symm) Xg.symm rfl rfl rfl
 rw [x2,<-hz];exact Ki hr ty
include hF
theorem ZR: @yD (Th.at ρ γ) Tryz.prog F NQ 244:=by
 letI:Interp:=Th.at ρ γ
 haveI:Bc:=ua ρ γ
 intro args σ v σ' hg B w0 R w args' hS hl;unfold NQ at hg
 split at hg
 . rename_i s o p
   split at hg
   . split at hg
     . rename_i c ty hc
       split at hg
       . rename_i t a old new put XB wr LP Cj
         split at hg
         . rename_i e he
           split at hg
           . rename_i m hm
             split at hg
             . rename_i hk hf;simp only [za,Bool.and_eq_true]at hk;obtain ⟨ht,ha,ho,hnw,aS⟩:=hk;rw [Ja]at LP;have LP:=of_decide_eq_true LP;obtain ⟨s',l',rfl,hp0,hl⟩:=hl.qa;obtain ⟨p',l',rfl,hp,hl⟩:=hl.qa;cases hl.uc;obtain ⟨rs,z,U2,rfl⟩:=wg hp0;obtain ⟨b,r,z2,A,M,rfl,rfl,k1,kg,k3,k4,rfl,k5,k6,k8,k7⟩:=YG he hm hS hp;have sQ:s≠Ij p:=fun q=>by rw [q,kg]at hc;cases hc
               have Mh:=k8 s rs z _ sQ U2 hc;obtain ⟨YR,hh,rfl,My⟩:=NJ hS U2 hc LP Cj;obtain ⟨t',l',rfl,h0,My⟩:=My.qa;obtain ⟨a',l',rfl,h1,My⟩:=My.qa;obtain ⟨i',l',rfl,h2,My⟩:=My.qa;obtain ⟨o',l',rfl,h3,My⟩:=My.qa;obtain ⟨n',l',rfl,h4,My⟩:=My.qa;obtain ⟨pu,l',rfl,h5,My⟩:=My.qa;obtain ⟨wh,l',rfl,h6,My⟩:=My.qa;obtain ⟨wv,l',rfl,h7,My⟩:=My.qa;cases My.uc;obtain ⟨tn,rfl,dt,t0,t1⟩:=te h0 ht;obtain ⟨an,rfl,da,a0,a1⟩:=te h1 ha;have hi:=wc h2;subst hi;obtain ⟨on,rfl,dO,ou⟩:=Ho h3 ho;obtain ⟨nn,rfl,dn,nu⟩:=Ho h4 hnw;obtain ⟨c1,c2⟩:=Fh hF hf k3 k6;have ej:M.ck<=1000000:=by rw [k5.ck];omega
               obtain ⟨⟨q,q1⟩,q2⟩:=ze hF [new] (t:=tg) (by decide);have dsn:den (mk F tg [new])= .v (.int .u64 (Xa nn)):=q2.trans (qx dn)
               have hpk:=k5.Ga an;have qT:(M.swap tn an on (Xa nn)).la.dn=((A.Ga an).2&&(A.Ga an).1==on):=by
                show(M.res ⟨3,tn,an,0,Xa nn,false⟩ ((M.Ga an).1==on)).dn=_
                unfold Rv.res;rw [hpk];cases (A.Ga an).2<;>simp
               have hgs:=gSw k3 dt da dO dsn;have hNo:=Gf M ⟨3,tn,an,0,Xa nn,false⟩ (Xa nn) ((M.Ga an).1==on);have eU:od (M.swap tn an on (Xa nn)) (A.swap tn an on (Xa nn)):=k5.swap _ _ _ _;have Dq:Wd (A.swap tn an on (Xa nn)):=k6.Oe _ _ (by omega) (px nn);dsimp only at hg
               split at hg
               . rename_i b2 hsn yn;have yn:=Ge hF yn;obtain ⟨⟨y,y1⟩,y2⟩:=ze hF [m,a,old] (t:=mq) (by decide);rw [y2,NY k3 da dO]at yn;injection yn with yn
                 injection yn with yn
                 rw [yn]at qT
                 split at hg
                 . rw [Wb,Qh,Wb]at hg;cases hg;have S1:(A.Ga an).2=true:=by
                    rw [Bool.and_eq_true]at yn;exact yn.1
                   obtain ⟨⟨x,x1⟩,x2⟩:=ze hF [sy Vj [m,t,a,old,mk F tg [new]]] (t:=EI) (by decide);obtain ⟨⟨u,u1⟩,u2⟩:=ze hF [sy Vj [m,t,a,old,mk F tg [new]],a] (t:=uX) (by decide);have vck:VR R (mk F EI [sy Vj [m,t,a,old,mk F tg [new]]]) (.int .i64 (M.swap tn an on (Xa nn)).ck):=by
                    refine Mc R x1 (x2.trans ((dCk hgs).trans ?_));have:=Dq.ak;have:=Dq.ck;rw [eU.ck,IntKind.wrap_i64];exact congrArg (fun z=>(tc.v (Value.int .i64 z):tc Gh)) (by omega)
                   have hwb:0<=Ui (A.swap tn an on (Xa nn)) an/\Ui (A.swap tn an on (Xa nn)) an<=2000000:=by
                    unfold Ui
                    split
                    . rename_i q;have hn:(A.swap tn an on (Xa nn)).n=M.n:=by
                       rw [<-eU.n];unfold Rv.swap Rv.Oe Rv.note;split
                       . unfold Rv.put;split<;>rfl
                       . rfl
                      rw [hn]at q;have:=k4.yG (an/8).toNat (by omega)
                      have hw3:(A.swap tn an on (Xa nn)).wr=A.wr:=(Pz A _ _ _).2.2
                      rw [hw3,<-k5.wr];have:=k5.wm;have:=k6.wm;omega
                    . omega
                   have vwr:VR R (mk F uX [sy Vj [m,t,a,old,mk F tg [new]],a]) (.int .i64 (Ui (A.swap tn an on (Xa nn)) an)):=Mc R u1 (u2.trans (dWr hwb hgs da));have vtt:VR R tt (.bool true):=Mc R (c:=8) rfl rfl;have v2:VR R (rb 2) (.int .i64 2):=Mc R (c:=3) rfl rfl;have pN:LR R [t,a,rb 2,old,new,tt,mk F EI [sy Vj [m,t,a,old,mk F tg [new]]],mk F uX [sy Vj [m,t,a,old,mk F tg [new]],a]] [.int .i64 tn, .int .i64 an, .int .i64 2, .int .u64 on, .int .u64 nn, .bool true, .int .i64 (M.swap tn an on (Xa nn)).ck, .int .i64 (Ui (A.swap tn an on (Xa nn)) an)]:=
                    .cons h0 (.cons h1 (.cons v2 (.cons h3 (.cons h4 (.cons vtt (.cons vck (.cons vwr (.nil R))))))))
                   have jG:Calls Tryz.prog 244 #[.pointer (some ⟨rs,0,none⟩), .pointer (some ⟨M.m,0,none⟩)] w (St M (M.swap tn an on (Xa nn)) rs #[.int .i64 tn, .int .i64 an, .int .i64 2, .int .u64 on, .int .u64 nn, .bool true, .int .i64 (M.swap tn an on (Xa nn)).ck, .int .i64 (Ui (A.swap tn an on (Xa nn)) an)] ty w):=by
                    by_cases hz:0<=an
                    . have Cf:an/8<((M.swap tn an on (Xa nn)).n:Int):=by
                       have hn:(M.swap tn an on (Xa nn)).n=M.n:=by
                        unfold Rv.swap Rv.Oe Rv.note;split
                        . unfold Rv.put;split<;>rfl
                        . rfl
                       rw [hn];rw [<-hpk]at S1;rcases Ot S1 with⟨g0,g1⟩|⟨g0,_⟩
                       . omega
                       . exact absurd hz g0
                      have:=qF M rs tn an on nn pu wh wv ty w k4 hh Mh a0 a1 nu ej qT ⟨hz,Cf⟩;have e:Ui (A.swap tn an on (Xa nn)) an=(M.swap tn an on (Xa nn)).wr (an/8).toNat:=by
                       unfold Ui;rw [<-eU.n,if_pos ⟨hz,Cf⟩,eU.wr]
                      rw [e];exact this
                    . have:=VC M rs tn an on nn pu wh wv ty w k4 hh Mh a0 a1 nu ej qT (by omega);have e:Ui (A.swap tn an on (Xa nn)) an=0:=by
                       unfold Ui;rw [if_neg (fun q=>hz q.1)]
                      have e2:wv= .int .i64 0:=by
                       rw [sj,Bool.or_eq_true]at aS;rcases aS with aS|aS
                       . obtain ⟨q,hq,rfl⟩:=Eh aS;have:q= .i64:=Nb (by rw [Ja];exact decide_eq_true hq)
                         subst this;exact wc h7
                       . split at aS
                         . rename_i bb oB;have oB:=Ge hF oB;obtain ⟨_,g2⟩:=ze hF [a,rb 0] (t:=280) (by decide);rw [g2,IG da (mb 0)]at oB;injection oB with oB
                           injection oB with oB
                           rw [ke,<-oB]at aS;have:¬an<0:=by simpa using aS
                           omega
                         . cases aS
                      rw [e,<-e2];exact this
                   refine jG.mono ?_
                   intro e w' hx;have OI:=hx;obtain ⟨rfl,_⟩:=OI;refine ⟨R,_,rfl,(Ke k1 _).trans (Ke U2 _),Vd R, ?_⟩;exact aH k7 U2 sQ hc (fun e h=>by cases h) hh Mh (ZY hgs) eU Dq hNo pN rfl hx
                 . rw [Wb,Qh,Wb]at hg;cases hg;have v2:VR R (rb 0) (.int .i64 0):=Mc R (c:=3) rfl rfl;have pN:LR R [t,a,rb 0,old,new,put,XB,wr] [.int .i64 tn, .int .i64 an, .int .i64 0, .int .u64 on, .int .u64 nn,pu,wh,wv]:=
                    .cons h0 (.cons h1 (.cons v2 (.cons h3 (.cons h4 (.cons h5 (.cons h6 (.cons h7 (.nil R))))))))
                   refine (MJ M rs tn an on nn pu wh wv ty w k4 hh Mh a0 a1 nu ej qT).mono ?_
                   intro e w' hx;have OI:=hx;obtain ⟨rfl,_⟩:=OI;refine ⟨R,_,rfl,(Ke k1 _).trans (Ke U2 _),Vd R, ?_⟩;exact aH k7 U2 sQ hc (fun e h=>by cases h) hh Mh (ZY hgs) eU Dq hNo pN rfl hx
               . cases hg
             . cases hg
           . cases hg
         . cases hg
       . cases hg
     . cases hg
   . cases hg
 . cases hg
end
end Sk
end Go.Proofs.YtfnkmolffhfpoaaGreat
