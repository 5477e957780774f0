/- -/
import Derived.Test.YtfnkmolffhfpoaaGreatHb30
import Derived.Test.YtfnkmolffhfpoaaGreatHb24
import Derived.Shelf.Abstract
set_option linter.unusedVariables false
set_option linter.unusedSimpArgs false
set_option linter.unusedSectionVars false
namespace Go.Proofs.YtfnkmolffhfpoaaGreat
namespace Sk
open Go.RowKit
theorem ZM{A:Rv}(h:Wd A)(a:Int):cd (A.Ga a).1:=by
 unfold Rv.Ga fe
 split
 . split
   . exact h.seen _
   . exact u0
 . split
   . exact h.pass _
   . exact u0
section
variable{ρ:Nat->Int}{γ:Nat->Gh}
theorem aU{e a:Value}{A:Rv}{n:Int}(hw:Wd A)(he: @den (Th.at ρ γ) e= .g (Gh.mem A))(ha: @den (Th.at ρ γ) a= .v (.int .i64 n)): @den (Th.at ρ γ) (sy kq [e,a])= .v (.int .u64 (A.Ga n).1):=by
 letI:Interp:=Th.at ρ γ
 haveI:Bc:=ua ρ γ
 have:= @mg (Th.at ρ γ) 90 7 (by decide) (by decide) [e,a];rw [NP]at this;have e2: @jc (Th.at ρ γ) [e,a]=[.g (Gh.mem A), .v (.int .i64 n)]:=by
  show[@den (Th.at ρ γ) e, @den (Th.at ρ γ) a]=_
  rw [he,ha]
 rw [e2]at this;refine this.trans ?_
 show tc.v (Value.int .u64 (IntKind.u64.wrap (A.Ga n).1))=_
 rw [Yc (ZM hw n)]
theorem NY{e a o:Value}{A:Rv}{n m:Int}(he: @den (Th.at ρ γ) e= .g (Gh.mem A))(ha: @den (Th.at ρ γ) a= .v (.int .i64 n))(ho: @den (Th.at ρ γ) o= .v (.int .u64 m)): @den (Th.at ρ γ) (sy mq [e,a,o])= .v (.bool ((A.Ga n).2&&(A.Ga n).1==m)):=by
 letI:Interp:=Th.at ρ γ
 have:= @mg (Th.at ρ γ) 91 8 (by decide) (by decide) [e,a,o];rw [Qc]at this;have e2: @jc (Th.at ρ γ) [e,a,o]=[.g (Gh.mem A), .v (.int .i64 n), .v (.int .u64 m)]:=by
  show[@den (Th.at ρ γ) e, @den (Th.at ρ γ) a, @den (Th.at ρ γ) o]=_
  rw [he,ha,ho]
 rw [e2]at this;refine this.trans ?_
 show tc.v (Value.bool (decide (bN ((A.Ga n).2&&(A.Ga n).1==m)≠0)))=_
 cases ((A.Ga n).2&&(A.Ga n).1==m)<;>rfl
theorem dIs{e a:Value}{A:Rv}{n:Int}(he: @den (Th.at ρ γ) e= .g (Gh.mem A))(ha: @den (Th.at ρ γ) a= .v (.int .i64 n)): @den (Th.at ρ γ) (sy Q4 [e,a])= .v (.bool (A.Ga n).2):=by
 letI:Interp:=Th.at ρ γ
 have:= @mg (Th.at ρ γ) 95 8 (by decide) (by decide) [e,a];rw [Qc]at this;have e2: @jc (Th.at ρ γ) [e,a]=[.g (Gh.mem A), .v (.int .i64 n)]:=by
  show[@den (Th.at ρ γ) e, @den (Th.at ρ γ) a]=_
  rw [he,ha]
 rw [e2]at this;refine this.trans ?_
 show tc.v (Value.bool (decide (bN (A.Ga n).2≠0)))=_
 cases (A.Ga n).2<;>rfl
theorem Caq{e t a:Value}{A:Rv}{k n:Int}(he: @den (Th.at ρ γ) e= .g (Gh.mem A))(ht: @den (Th.at ρ γ) t= .v (.int .i64 k))(ha: @den (Th.at ρ γ) a= .v (.int .i64 n)): @den (Th.at ρ γ) (sy IQ [e,t,a])= .v (.bool (A.Ka k n).la.dn):=by
 letI:Interp:=Th.at ρ γ
 have:= @mg (Th.at ρ γ) 97 8 (by decide) (by decide) [e,t,a];rw [Qc]at this;have e2: @jc (Th.at ρ γ) [e,t,a]=[.g (Gh.mem A), .v (.int .i64 k), .v (.int .i64 n)]:=by
  show[@den (Th.at ρ γ) e, @den (Th.at ρ γ) t, @den (Th.at ρ γ) a]=_
  rw [he,ht,ha]
 rw [e2]at this;refine this.trans ?_
 show tc.v (Value.bool (decide (bN (A.Ka k n).la.dn≠0)))=_
 cases (A.Ka k n).la.dn<;>rfl
theorem Daq{e t:Value}{A:Rv}{k:Int}(he: @den (Th.at ρ γ) e= .g (Gh.mem A))(ht: @den (Th.at ρ γ) t= .v (.int .i64 k)): @den (Th.at ρ γ) (sy JQ [e,t])= .v (.bool (A.Oa k).la.dn):=by
 letI:Interp:=Th.at ρ γ
 have:= @mg (Th.at ρ γ) 98 8 (by decide) (by decide) [e,t];rw [Qc]at this;have e2: @jc (Th.at ρ γ) [e,t]=[.g (Gh.mem A), .v (.int .i64 k)]:=by
  show[@den (Th.at ρ γ) e, @den (Th.at ρ γ) t]=_
  rw [he,ht]
 rw [e2]at this;refine this.trans ?_
 show tc.v (Value.bool (decide (bN (A.Oa k).la.dn≠0)))=_
 cases (A.Oa k).la.dn<;>rfl
theorem OR{A:Rv}{M:Mv}{w:World}(h:Ba w M)(hl:bg M A)(hw:Wd A)(a:Int):0<=Ui A a/\Ui A a<=2000000:=by
 unfold Ui
 split
 . rename_i c;have hn:=hl.Lg.n;have:=h.yG (a/8).toNat (by omega)
   rw [hl.wr _ (by omega)]at this;have:=hl.wm;have:=hw.wm;omega
 . omega
theorem dWr{e a:Value}{A:Rv}{n:Int}(hb:0<=Ui A n/\Ui A n<=2000000)(he: @den (Th.at ρ γ) e= .g (Gh.mem A))(ha: @den (Th.at ρ γ) a= .v (.int .i64 n)): @den (Th.at ρ γ) (sy uX [e,a])= .v (.int .i64 (Ui A n)):=by
 letI:Interp:=Th.at ρ γ
 have:= @mg (Th.at ρ γ) 93 3 (by decide) (by decide) [e,a];rw [ME]at this;have e2: @jc (Th.at ρ γ) [e,a]=[.g (Gh.mem A), .v (.int .i64 n)]:=by
  show[@den (Th.at ρ γ) e, @den (Th.at ρ γ) a]=_
  rw [he,ha]
 rw [e2]at this;refine this.trans ?_
 show tc.v (Value.int .i64 (IntKind.i64.wrap (Ui A n)))=_
 rw [IntKind.wrap_i64]
 congr 2
 omega
theorem gLd{e t a:Value}{A:Rv}{k n:Int}(he: @den (Th.at ρ γ) e= .g (Gh.mem A))(ht: @den (Th.at ρ γ) t= .v (.int .i64 k))(ha: @den (Th.at ρ γ) a= .v (.int .i64 n)): @den (Th.at ρ γ) (sy UB [e,t,a])= .g (Gh.mem (A.load k n)):=by
 have e1: @den (Th.at ρ γ) (sy UB [e,t,a])=(tc.g (Wv 9 (Yj 1 [@den (Th.at ρ γ) e, @den (Th.at ρ γ) t, @den (Th.at ρ γ) a])):tc Gh):=rfl;rw [he,ht,ha]at e1;exact e1
theorem gSt{e t a x:Value}{A:Rv}{k n m:Int}(he: @den (Th.at ρ γ) e= .g (Gh.mem A))(ht: @den (Th.at ρ γ) t= .v (.int .i64 k))(ha: @den (Th.at ρ γ) a= .v (.int .i64 n))(hx: @den (Th.at ρ γ) x= .v (.int .u64 m)): @den (Th.at ρ γ) (sy Ks [e,t,a,x])= .g (Gh.mem (A.store k n m)):=by
 have e1: @den (Th.at ρ γ) (sy Ks [e,t,a,x])=(tc.g (Wv 9 (Yj 2 [@den (Th.at ρ γ) e, @den (Th.at ρ γ) t, @den (Th.at ρ γ) a, @den (Th.at ρ γ) x])):tc Gh):=rfl;rw [he,ht,ha,hx]at e1;exact e1
theorem gSw{e t a o x:Value}{A:Rv}{k n l m:Int}(he: @den (Th.at ρ γ) e= .g (Gh.mem A))(ht: @den (Th.at ρ γ) t= .v (.int .i64 k))(ha: @den (Th.at ρ γ) a= .v (.int .i64 n))(ho: @den (Th.at ρ γ) o= .v (.int .u64 l))(hx: @den (Th.at ρ γ) x= .v (.int .u64 m)): @den (Th.at ρ γ) (sy Vj [e,t,a,o,x])= .g (Gh.mem (A.swap k n l m)):=by
 have e1: @den (Th.at ρ γ) (sy Vj [e,t,a,o,x])=(tc.g (Wv 9 (Yj 3 [@den (Th.at ρ γ) e, @den (Th.at ρ γ) t, @den (Th.at ρ γ) a, @den (Th.at ρ γ) o, @den (Th.at ρ γ) x])):tc Gh):=rfl;rw [he,ht,ha,ho,hx]at e1;exact e1
theorem gFl{e t a:Value}{A:Rv}{k n:Int}(he: @den (Th.at ρ γ) e= .g (Gh.mem A))(ht: @den (Th.at ρ γ) t= .v (.int .i64 k))(ha: @den (Th.at ρ γ) a= .v (.int .i64 n)): @den (Th.at ρ γ) (sy Ls [e,t,a])= .g (Gh.mem (A.Ka k n)):=by
 have e1: @den (Th.at ρ γ) (sy Ls [e,t,a])=(tc.g (Wv 9 (Yj 4 [@den (Th.at ρ γ) e, @den (Th.at ρ γ) t, @den (Th.at ρ γ) a])):tc Gh):=rfl;rw [he,ht,ha]at e1;exact e1
theorem gFe{e t:Value}{A:Rv}{k:Int}(he: @den (Th.at ρ γ) e= .g (Gh.mem A))(ht: @den (Th.at ρ γ) t= .v (.int .i64 k)): @den (Th.at ρ γ) (sy Ms [e,t])= .g (Gh.mem (A.Oa k)):=by
 have e1: @den (Th.at ρ γ) (sy Ms [e,t])=(tc.g (Wv 9 (Yj 5 [@den (Th.at ρ γ) e, @den (Th.at ρ γ) t])):tc Gh):=rfl;rw [he,ht]at e1;exact e1
variable{F:List (Value×Value)}(hF:∀p,p∈F-> @den (Th.at ρ γ) p.1= @den (Th.at ρ γ) p.2)
include hF
theorem aN: @yD (Th.at ρ γ) Tryz.prog F sG 64:=by
 letI:Interp:=Th.at ρ γ
 haveI:Bc:=ua ρ γ
 intro args σ v σ' hg B w0 R w args' hS hl;unfold sG at hg
 split at hg
 . rename_i p t a
   split at hg
   . rename_i e he ht ha
     split at hg
     . rename_i hf;rw [Wb]at hg;cases hg;obtain ⟨p',l',rfl,hp,hl⟩:=hl.qa;obtain ⟨t',l',rfl,dj,hl⟩:=hl.qa;obtain ⟨a',l',rfl,OC,hl⟩:=hl.qa;cases hl.uc;obtain ⟨b,r,s,A,M,rfl,rfl,k1,k2,k3,rfl,k5,k6,k7⟩:=Sj he hS hp;obtain ⟨tn,rfl,dt,t0,t1⟩:=te dj ht;obtain ⟨an,rfl,da,a0,a1⟩:=te OC ha;obtain ⟨c1,c2⟩:=Fh hF hf k2 k6;have ej:M.ck<=1000000:=by rw [k5.Lg.ck];omega
       obtain ⟨⟨q,q1⟩,q2⟩:=ze hF [e,a] (t:=kq) (by decide);have hc:=MX M tn an a0 a1 w k3 ej;rw [k5.Lg.Ga]at hc;refine hc.mono ?_
       rintro x w' ⟨rfl,m1,m2⟩;refine ⟨R,_,rfl,Ke k1 _,Mc R q1 (q2.trans (aU k6 k2 da)), ?_⟩
       . exact k7 w' _ (M.load tn an) (A.load tn an) (gLd k2 dt da) m1 (bt M _ _ _).2.1 (k5.Oe _ _ _) (k6.Oe _ _ (by omega) u0) (fun k hk=> .inl (by unfold Mv.load at hk;rw [Mv.uo]at hk;exact hk)) m2
     . cases hg
   . cases hg
 . cases hg
theorem yJ: @yD (Th.at ρ γ) Tryz.prog F iz 46:=by
 letI:Interp:=Th.at ρ γ
 haveI:Bc:=ua ρ γ
 intro args σ v σ' hg B w0 R w args' hS hl;unfold iz at hg
 split at hg
 . rename_i p t a x
   split at hg
   . rename_i e he ht ha hx
     split at hg
     . rename_i hf;rw [Wb]at hg;cases hg;obtain ⟨p',l',rfl,hp,hl⟩:=hl.qa;obtain ⟨t',l',rfl,dj,hl⟩:=hl.qa;obtain ⟨a',l',rfl,OC,hl⟩:=hl.qa;obtain ⟨x',l',rfl,OI,hl⟩:=hl.qa;cases hl.uc;obtain ⟨b,r,s,A,M,rfl,rfl,k1,k2,k3,rfl,k5,k6,k7⟩:=Sj he hS hp;obtain ⟨tn,rfl,dt,t0,t1⟩:=te dj ht;obtain ⟨an,rfl,da,a0,a1⟩:=te OC ha;obtain ⟨xn,rfl,dx,xu⟩:=Ho OI hx;obtain ⟨c1,c2⟩:=Fh hF hf k2 k6;have ej:M.ck<=1000000:=by rw [k5.Lg.ck];omega
       have S2:M.wm<=999999:=Int.le_trans k5.wm (by omega);refine (WM M tn an xn a0 a1 w k3 ej).mono ?_
       rintro x w' ⟨rfl,m1,m2⟩;refine ⟨R,_,rfl,Ke k1 _,Vd R, ?_⟩;exact k7 w' _ (M.store tn an xn) (A.store tn an xn) (gSt k2 dt da dx) m1 (bt M _ _ _).2.1 (k5.Oe _ _ _) (k6.Oe _ _ (by omega) xu) (fun k hk=> .inl (by unfold Mv.store at hk;rw [Mv.uo]at hk;exact hk)) m2
     . cases hg
   . cases hg
 . cases hg
theorem cN: @yD (Th.at ρ γ) Tryz.prog F tG 65:=by
 letI:Interp:=Th.at ρ γ
 haveI:Bc:=ua ρ γ
 intro args σ v σ' hg B w0 R w args' hS hl;unfold tG at hg
 split at hg
 . rename_i p t a o x
   split at hg
   . rename_i e he ht ha ho hx
     split at hg
     . rename_i hf;rw [Wb]at hg;cases hg;obtain ⟨p',l',rfl,hp,hl⟩:=hl.qa;obtain ⟨t',l',rfl,dj,hl⟩:=hl.qa;obtain ⟨a',l',rfl,OC,hl⟩:=hl.qa;obtain ⟨o',l',rfl,OH,hl⟩:=hl.qa;obtain ⟨x',l',rfl,OI,hl⟩:=hl.qa;cases hl.uc;obtain ⟨b,r,s,A,M,rfl,rfl,k1,k2,k3,rfl,k5,k6,k7⟩:=Sj he hS hp;obtain ⟨tn,rfl,dt,t0,t1⟩:=te dj ht;obtain ⟨an,rfl,da,a0,a1⟩:=te OC ha;obtain ⟨on,rfl,do',ou⟩:=Ho OH ho;obtain ⟨xn,rfl,dx,xu⟩:=Ho OI hx;obtain ⟨c1,c2⟩:=Fh hF hf k2 k6;have ej:M.ck<=1000000:=by rw [k5.Lg.ck];omega
       have S2:M.wm<=999999:=Int.le_trans k5.wm (by omega);obtain ⟨⟨q,q1⟩,q2⟩:=ze hF [e,a,o] (t:=mq) (by decide);have qT:(M.swap tn an on xn).la.dn=((A.Ga an).2&&(A.Ga an).1==on):=by
        show(M.res ⟨3,tn,an,0,xn,false⟩ ((M.Ga an).1==on)).dn=_
        unfold Mv.res;rw [k5.Lg.Ga];cases (A.Ga an).2<;>simp
       have hc:=NX M tn an on xn a0 a1 w k3 ej;rw [qT]at hc;refine hc.mono ?_
       rintro x w' ⟨rfl,m1,m2⟩;refine ⟨R,_,rfl,Ke k1 _,Mc R q1 (q2.trans (NY k2 da do')), ?_⟩;exact k7 w' _ (M.swap tn an on xn) (A.swap tn an on xn) (gSw k2 dt da do' dx) m1 (bt M _ _ _).2.1 (k5.swap _ _ _ _) (k6.Oe _ _ (by omega) xu) (fun k hk=> .inl (by unfold Mv.swap at hk;rw [Mv.uo]at hk;exact hk)) m2
     . cases hg
   . cases hg
 . cases hg
theorem zJ: @yD (Th.at ρ γ) Tryz.prog F jz 66:=by
 letI:Interp:=Th.at ρ γ
 haveI:Bc:=ua ρ γ
 intro args σ v σ' hg B w0 R w args' hS hl;unfold jz at hg
 split at hg
 . rename_i p t a
   split at hg
   . rename_i e he ht ha
     split at hg
     . rename_i hf;rw [Wb]at hg;cases hg;obtain ⟨p',l',rfl,hp,hl⟩:=hl.qa;obtain ⟨t',l',rfl,dj,hl⟩:=hl.qa;obtain ⟨a',l',rfl,OC,hl⟩:=hl.qa;cases hl.uc;obtain ⟨b,r,s,A,M,rfl,rfl,k1,k2,k3,rfl,k5,k6,k7⟩:=Sj he hS hp;obtain ⟨tn,rfl,dt,t0,t1⟩:=te dj ht;obtain ⟨an,rfl,da,a0,a1⟩:=te OC ha;obtain ⟨c1,c2⟩:=Fh hF hf k2 k6;have ej:M.ck<=1000000:=by rw [k5.Lg.ck];omega
       have S2:M.wm<=999999:=Int.le_trans k5.wm (by omega);refine (XM M tn an a1 w k3 ej).mono ?_
       rintro x w' ⟨rfl,v',m1,m2,m3⟩;refine ⟨R,_,rfl,Ke k1 _,Vd R, ?_⟩;refine k7 w' _ (M.Ka tn an v') (A.Ka tn an) (gFl k2 dt da) m1 ?_ (k5.Ka _ _ _) (k6.Ka _ _ (by omega)) m3 m2
       unfold Mv.Ka;split<;>rfl
     . cases hg
   . cases hg
 . cases hg
theorem AJ: @yD (Th.at ρ γ) Tryz.prog F kz 67:=by
 letI:Interp:=Th.at ρ γ
 haveI:Bc:=ua ρ γ
 intro args σ v σ' hg B w0 R w args' hS hl;unfold kz at hg
 split at hg
 . rename_i p t
   split at hg
   . rename_i e he ht
     split at hg
     . rename_i hf;rw [Wb]at hg;cases hg;obtain ⟨p',l',rfl,hp,hl⟩:=hl.qa;obtain ⟨t',l',rfl,dj,hl⟩:=hl.qa;cases hl.uc;obtain ⟨b,r,s,A,M,rfl,rfl,k1,k2,k3,rfl,k5,k6,k7⟩:=Sj he hS hp;obtain ⟨tn,rfl,dt,t0,t1⟩:=te dj ht;obtain ⟨c1,c2⟩:=Fh hF hf k2 k6;have ej:M.ck<=1000000:=by rw [k5.Lg.ck];omega
       have S2:M.wm<=999999:=Int.le_trans k5.wm (by omega);refine (YM M tn w k3 ej S2).mono ?_
       rintro x w' ⟨rfl,v',m1,m2,m3⟩;refine ⟨R,_,rfl,Ke k1 _,Vd R, ?_⟩;refine k7 w' _ (M.Oa tn) (A.Oa tn) (gFe k2 dt) m1 ?_ (k5.Oa _) (k6.Oa _ (by omega) (by omega)) m3 m2
       unfold Mv.Oa;split<;>rfl
     . cases hg
   . cases hg
 . cases hg
theorem BJ: @yD (Th.at ρ γ) Tryz.prog F lz 72:=by
 letI:Interp:=Th.at ρ γ
 haveI:Bc:=ua ρ γ
 intro args σ v σ' hg B w0 R w args' hS hl;unfold lz at hg
 split at hg
 . rename_i p
   split at hg
   . rename_i e he;cases hg;obtain ⟨p',l',rfl,hp,hl⟩:=hl.qa;cases hl.uc;obtain ⟨b,r,s,A,M,rfl,rfl,k1,k2,k3,rfl,k5,k6,k7⟩:=Sj he hS hp;obtain ⟨⟨q,q1⟩,q2⟩:=ze hF [e] (t:=EI) (by decide);refine cg hS (Mc R q1 (q2.trans (dCk k2))) (Sa ?_);have c0:=k6.ak;have c1:=k6.ck;have:IntKind.i64.wrap A.ck=M.ck:=by rw [k5.Lg.ck,IntKind.wrap_i64];omega
     rw [this];exact TP M.m M.ck w (ae k3.row).2.2.1
   . cases hg
 . cases hg
end
end Sk
end Go.Proofs.YtfnkmolffhfpoaaGreat
namespace Go.Proofs.YtfnkmolffhfpoaaGreat
open Go.RowKit Go.BigFrame
theorem Rz(M:Mv)(l:Int)(hl:l<0\/(M.n:Int)<=l)(W:World)(h:Ba W M):Calls Tryz.prog 291 #[.pointer (some ⟨M.d,0,none⟩), .int .i64 l] W (Rb (.int .i64 0) W):=by
 have HL:=Lib.hid (Tx M.d (some ⟨M.sb,0,none⟩) M.n M.c1 l W (by rw [Ma h.dev];rfl));rw [yi,if_pos hl]at HL;clear h hl
 go_enter Tryz.func291,Tryz.ntmps291
 go_wp2_with fail
 refine HL.out.mono ?_
 rintro e w ⟨rfl,rfl⟩
 go_wp2_with fail
 go_ret
 exact ⟨rfl,rfl⟩
set_option maxRecDepth 100000 in
theorem Xv(M:Mv)(k:Nat)(hk:k<M.n)(W:World)(h:Ba W M):Calls Tryz.prog 291 #[.pointer (some ⟨M.d,0,none⟩), .int .i64 (k:Int)] W (Rb (.int .i64 (M.wr k)) W):=by
 have HL:=Lib.hid (Tx M.d (some ⟨M.sb,0,none⟩) M.n M.c1 (k:Int) W (by rw [Ma h.dev];rfl));rw [yi,if_neg (by omega)]at HL;have y2:W.cell? ⟨M.d,2,none⟩=some (.slice (some ⟨M.wb,0,none⟩) M.n M.c2):=by rw [Ma h.dev];rfl
 have hc:=h.wr.cell hk;have n1:=h.n1;clear h;generalize M.wr k=v at*;generalize M.n=n at*;have f1:(k:Int)<(n:Int):=by omega
 have f2:decide ((k:Int)<(n:Int))=true:=ca f1
 go_enter Tryz.func291,Tryz.ntmps291
 go_wp2_with fail
 refine HL.out.mono ?_
 rintro e w ⟨rfl,rfl⟩
 go_wp2_with fail
 go_ret
 exact ⟨rfl,rfl⟩
set_option maxRecDepth 100000 in
theorem Yv(m:Nat)(a:Int)(ha:a<0)(W:World):Calls Tryz.prog 237 #[.pointer (some ⟨m,0,none⟩), .int .i64 a] W (Rb (.int .i64 0) W):=by
 have d0:decide (a<0)=true:=ca ha
 go_enter Tryz.func237,Tryz.ntmps237
 go_wp2_with fail
 go_ret
 exact ⟨rfl,rfl⟩
set_option maxRecDepth 100000 in
theorem Ko(M:Mv)(a v:Int)(ha:0<=a)(q1:a<=9223372036854775807)(W:World)(h:Ba W M)(hc:Calls Tryz.prog 291 #[.pointer (some ⟨M.d,0,none⟩), .int .i64 (a/8)] W (Rb (.int .i64 v) W)):Calls Tryz.prog 237 #[.pointer (some ⟨M.m,0,none⟩), .int .i64 a] W (Rb (.int .i64 v) W):=by
 have d0:decide (a<0)=false:=ea (by omega);have e8:a.tdiv 8=a/8:=Int.tdiv_eq_ediv_of_nonneg ha;have hd:W.cell? ⟨M.m,0,none⟩=some (.pointer (some ⟨M.d,0,none⟩)):=(ae h.row).1
 have HC:=Lib.hid hc;clear h hc
 go_enter Tryz.func237,Tryz.ntmps237
 go_wp2_with fail
 refine HC.out.mono ?_
 rintro e w ⟨rfl,rfl⟩
 go_wp2_with fail
 go_ret
 exact ⟨rfl,rfl⟩
theorem dF(M:Mv)(a:Int)(q1:a<=9223372036854775807)(W:World)(h:Ba W M):Calls Tryz.prog 237 #[.pointer (some ⟨M.m,0,none⟩), .int .i64 a] W (Rb (.int .i64 (if 0<=a/\a/8<(M.n:Int)then M.wr (a/8).toNat else 0)) W):=by
 by_cases h0:0<=a
 . by_cases h1:a/8<(M.n:Int)
   . rw [if_pos ⟨h0,h1⟩];have:=Xv M (a/8).toNat (by omega) W h
     rw [show(((a/8).toNat:Nat):Int)=a/8 by omega]at this;exact Ko M a _ h0 q1 W h this
   . rw [if_neg (fun q=>h1 q.2)];exact Ko M a _ h0 q1 W h (Rz M (a/8) (by omega) W h)
 . rw [if_neg (fun q=>h0 q.1)];exact Yv M.m a (by omega) W
end Go.Proofs.YtfnkmolffhfpoaaGreat
namespace Go.Proofs.YtfnkmolffhfpoaaGreat
namespace Sk
section
variable{ρ:Nat->Int}{γ:Nat->Gh}{F:List (Value×Value)}(hF:∀p,p∈F-> @den (Th.at ρ γ) p.1= @den (Th.at ρ γ) p.2)
include hF
theorem fF: @yD (Th.at ρ γ) Tryz.prog F Mq 237:=by
 letI:Interp:=Th.at ρ γ
 haveI:Bc:=ua ρ γ
 intro args σ v σ' hg B w0 R w args' hS hl;unfold Mq at hg
 split at hg
 . rename_i p a
   split at hg
   . rename_i e he ha;cases hg;obtain ⟨p',l',rfl,hp,hl⟩:=hl.qa;obtain ⟨a',l',rfl,OC,hl⟩:=hl.qa;cases hl.uc;obtain ⟨b,r,s,A,M,rfl,rfl,k1,k2,k3,rfl,k5,k6,k7⟩:=Sj he hS hp;obtain ⟨an,rfl,da,a0,a1⟩:=te OC ha;obtain ⟨⟨q,q1⟩,q2⟩:=ze hF [e,a] (t:=uX) (by decide);refine cg hS (Mc R q1 (q2.trans (dWr (OR k3 k5 k6 an) k2 da))) (Sa ?_);have:Ui A an=if 0<=an/\an/8<(M.n:Int)then M.wr (an/8).toNat else 0:=by
      unfold Ui;rw [k5.Lg.n];by_cases q:0<=an/\an/8<(A.n:Int)
      . rw [if_pos q,if_pos q,k5.wr _ (by rw [k5.Lg.n];omega)]
      . rw [if_neg q,if_neg q]
     rw [this];exact dF M an a1 w k3
   . cases hg
 . cases hg
end
end Sk
end Go.Proofs.YtfnkmolffhfpoaaGreat
namespace Go.Proofs.YtfnkmolffhfpoaaGreat
open Go.RowKit Go.BigFrame
def vad(R:World->Prop):Exit->Act->World->Prop
 | .normal,_,w=>R w
 |_,_,_=>False
theorem PR{assign body:Code}{Q:Exit->Act->World->Prop}{a:Act}{g:Operand}{w0 w:World}{po b2 b3 b off n cap:Nat}{f:Nat->Int}(hn:n<=cap)(hc:cap<=9223372036854775807)(n1:po≠b2)(n2:b2≠b3)
  (hg:a.eval g= .func (.func 274) #[] #[.pointer (some ⟨b2,0,none⟩), .pointer (some ⟨b3,0,none⟩)])
  (h0:Je w0 w po b2 b3 b off n cap f 0 0)
  (QR:∀(l:Nat) (v:Value) (W:World) (K:Act->World->Prop),K {tmps:=(a.tmps.setIfInBounds 15 v).setIfInBounds 6 v,defers:=[]} W->
    assign.wpIn (Fence.wide.inRound l) 7 Tryz.prog (Exit.then K (fun _ _ _=>False)) {tmps:=a.tmps.setIfInBounds 15 v,defers:=[]} W)
  (wad:∀(l k:Nat) (W:World),8*(k+1)<=n->Je w0 W po b2 b3 b off n cap f k k->
    body.wpIn (Fence.wide.inRound l) 7 Tryz.prog (vad fun W'=>Je w0 W' po b2 b3 b off n cap f k (k+1)/\pq W W') {tmps:=(a.tmps.setIfInBounds 15 (.slice (some ⟨b,off+8*k,none⟩) 8 8)).setIfInBounds 6 (.slice (some ⟨b,off+8*k,none⟩) 8 8),defers:=[]} W)
  (CK:∀(D:Nat) (W:World),w0.heap.size<=D->Je w0 W po b2 b3 b off n cap f (n/8) (n/8)->W.heap[D]?=some (.deferred (some []))->Q .normal {a with defers:={target:= .collected D,args:=#[]}::a.defers} W):
  (Code.rangeFunc g #[15] assign body).wpIn Fence.wide 9 Tryz.prog Q a w:=by
 refine wpIn_rangeFunc ?_
 intro fn hfn;obtain ⟨rec,gF⟩:∃rec:LoopState->Option Code->Loop,rec=fun st pe=>{state:=st,pending:=pe,fn,tmps:=a.tmps,params:=#[15],assign,body,defers:=w.heap.size}:=⟨_,rfl⟩
 obtain ⟨W1,Lj⟩:∃W1,(w.alloc (.deferred (some []))).alloc (.loop (rec .ready none))=W1:=⟨_,rfl⟩
 have hsw:=h0.below.size;have hL1:W1.heap[w.heap.size+1]?=some (.loop (rec .ready none)):=by
  rw [<-Lj];have:=World.alloc_heap_new (w.alloc (.deferred (some []))) (.loop (rec .ready none));rwa [World.size_alloc]at this
 have hK1:W1.heap[w.heap.size]?=some (.deferred (some [])):=by
  rw [<-Lj];exact (Below.heap_alloc _ _ _ (by simp)).trans (World.alloc_heap_new w _)
 have hI1:Je w0 W1 po b2 b3 b off n cap f 0 0:=h0.grow (by rw [<-Lj];exact ((Below.refl _ w).alloc (Nat.le_refl _) _).alloc (by simp) _);refine ⟨w.heap.size+1,[{target:= .collected w.heap.size,args:=#[]}],W1,{target:= .fn (.func 274) #[.pointer (some ⟨b2,0,none⟩), .pointer (some ⟨b3,0,none⟩)],args:=#[.func (.yield (w.heap.size+1)) #[] #[]]},W1,274,
  #[.func (.yield (w.heap.size+1)) #[] #[]]++#[.pointer (some ⟨b2,0,none⟩), .pointer (some ⟨b3,0,none⟩)],W1, ?_, ?_, ?_, ?_,fun _=>by omega, ?_⟩
 . rw [<-Lj,gF];exact run_enterLoop_outer _ _ _ _ _
 . simp only [resolve,hg];simp [go_sem]
 . intro f' hf';simp [Target.leads]at hf';subst hf';trivial
 . have eg:∀args w,(callFunc 274 args).run Tryz.prog w= .ok (.enter 274 args) w:=ja Tryz.func274 (by kernel_rfl) rfl
   simp [invoke,go_sem,eg]
 . have K:∀(k j:Nat),World->Prop:=fun _ _ _=>True
   refine (eY 8 (w.heap.size+1) b2 b3 b off n cap n2 (by omega) hn hc
    (fun k W=>Je w0 W po b2 b3 b off n cap f k k/\W.heap[w.heap.size+1]?=some (.loop (rec .ready none))/\W.heap[w.heap.size]?=some (.deferred (some [])))
    (fun k W=>Je w0 W po b2 b3 b off n cap f k (k+1)/\W.heap[w.heap.size+1]?=some (.loop (rec .ready none))/\W.heap[w.heap.size]?=some (.deferred (some [])))
    (fun k W h=>h.1.parts) (fun k W h=>h.1.parts) ?_ ?_ W1 ⟨hI1,hL1,hK1⟩).mono ?_
   . rintro k W hk ⟨hi,hl,gT⟩;have Ab:w.heap.size+1<W.heap.size:=(Array.getElem?_eq_some_iff.1 hl).1
     have hy:(Instr.yield (w.heap.size+1) #[.slice (some ⟨b,off+8*k,none⟩) 8 8]).run Tryz.prog W= .ok (.round (w.heap.size+1) fn (a.tmps.setIfInBounds 15 (.slice (some ⟨b,off+8*k,none⟩) 8 8)) assign body) W:=by
      refine (run_yield (P:=Tryz.prog) (args:=#[.slice (some ⟨b,off+8*k,none⟩) 8 8]) hl (by rw [gF];rfl)).trans ?_
      rw [gF];simp
     refine ⟨fn,_,assign,body,hy,roundIn_of_wpIn hfn (QR _ _ W _ ⟨_,run_beginRound hl (by rw [gF]), ?_⟩)⟩;have iG:(W.putObj (w.heap.size+1) (.loop {rec .ready none with state:= .busy})).heap[w.heap.size+1]?=some (.loop {rec .ready none with state:= .busy}):=World.putObj_heap_same Ab
     have JL:(W.putObj (w.heap.size+1) (.loop {rec .ready none with state:= .busy})).heap[w.heap.size]?=some (.deferred (some [])):=(World.putObj_heap_other (by omega)).trans gT
     refine wpIn_mono (wad _ k _ hk (hi.put hl rfl (by omega) _)) ?_
     rintro e a3 W3 hp;cases e with
     |normal=>
      obtain ⟨hi3,hs3⟩:=hp;have K2:=hs3 _ _ iG rfl;have hk3:=hs3 _ _ JL rfl;have Faq:=run_endRound (P:=Tryz.prog) none K2;refine ⟨_,_,Faq,rfl,hi3.put K2 rfl (by omega) _, ?_,(World.putObj_heap_other (by omega)).trans hk3⟩;rw [World.putObj_heap_same (Array.getElem?_eq_some_iff.1 K2).1,gF];rfl
     |_=>exact hp.elim
   . rintro k W A hk ⟨hi,hl,gT⟩ hA;obtain ⟨A0,-,c2,-,-⟩:=hi.parts;have hs:=bJ (v:= .slice A (n -8*(k+1)) (cap -8*(k+1))) c2 0;exact ⟨hi.next n1 n2 hA,hs _ _ hl rfl,hs _ _ gT rfl⟩
   . rintro e W2 ⟨⟨v,rfl⟩,hi,hl,hk⟩;exact ⟨none,_,by have:=run_endLoop (P:=Tryz.prog) hl (by rw [gF];simp);rw [gF]at this;exact this,CK _ _ hsw (hi.put hl rfl (by omega) _) ((World.putObj_heap_other (by omega)).trans hk)⟩
theorem RR(v:Value)(hv:∃a m c,v= .slice a m c)(n:Int)(w:World):Calls Tryz.prog 202 #[v, .int .i64 n] w fun e w'=>
  e= .returned (.func (.func 274) #[] #[.pointer (some ⟨w.heap.size,0,none⟩), .pointer (some ⟨w.heap.size+1,0,none⟩)])/\w'=(w.alloc (.cells #[v] 99)).alloc (.cells #[.int .i64 n] 3):=by
 obtain ⟨a,m,c,rfl⟩:=hv;have hmf:∀(fn:Fn) (first cap:Array Value) (w:World),(Instr.makeFunc fn first cap).run Tryz.prog w= .ok (.func fn first cap) w:=fun _ _ _ _=>rfl
 go_enter Tryz.func202,Tryz.ntmps202
 go_wp2_with fail
 go_ret
 exact ⟨rfl,rfl⟩
end Go.Proofs.YtfnkmolffhfpoaaGreat
