/- -/
import Derived.Test.YtfnkmolffhfpoaaGreatHp22
import Derived.Test.YtfnkmolffhfpoaaGreatHp16
import Derived.Test.YtfnkmolffhfpoaaGreatHp21
set_option linter.unusedVariables false
set_option linter.unusedSimpArgs false
set_option linter.unusedSectionVars false
namespace Go.Proofs.YtfnkmolffhfpoaaGreat
namespace Sk
open Go.RowKit
theorem TZ{v:Lv}(h:v.Ok)(k a b:Int):-10000000<=jB v k a b/\jB v k a b<=10000000:=by
 by_cases k1:k<=13
 . have:=kT h (k:=k) (a:=a) (b:=b) k1;omega
 . obtain ⟨gJ,YS,gP,P4,TQ,lo1,UH,Q4,zZ,pt1,R4,pl1,S4,T4,U4,bS,iP,jP⟩:=h;unfold jB hasB;rw [if_neg (by omega:¬k=8)]
   split
   . omega
   . rw [if_neg (by omega:¬k=5),if_neg (by omega:¬k=6),if_neg (by omega:¬k=7)]
     split
     . split
       . rename_i q;have:=of_decide_eq_true q;omega
       . omega
     . split
       . split
         . rename_i q;have:=of_decide_eq_true q;omega
         . omega
       . rw [if_neg (by omega)];omega
theorem FP{c:Xc}(h:Xh c)(k a b:Int):Ex c k a b=jB c.lv k a b:=by unfold Ex;rw [if_pos h]
section
variable{ρ:Nat->Int}{γ:Nat->Gh}
theorem dAt{e k a b:Value}{q:IntKind}{c:Xc}{n x y:Int}(hc:Xh c)(he: @den (Th.at ρ γ) e= .g (Gh.lay c))(hk: @den (Th.at ρ γ) k= .v (.int q n))(ha: @den (Th.at ρ γ) a= .v (.int .i64 x))(hb: @den (Th.at ρ γ) b= .v (.int .i64 y)):
  @den (Th.at ρ γ) (sy E4 [e,k,a,b])= .v (.int .i64 (jB c.lv n x y)):=by
 letI:Interp:=Th.at ρ γ
 have:= @yh (Th.at ρ γ) 80 3 (by decide) (by decide) [e,k,a,b];rw [rJ]at this;have e2: @mc (Th.at ρ γ) [e,k,a,b]=[.g (Gh.lay c), .v (.int q n), .v (.int .i64 x), .v (.int .i64 y)]:=by
  show[@den (Th.at ρ γ) e, @den (Th.at ρ γ) k, @den (Th.at ρ γ) a, @den (Th.at ρ γ) b]=_
  rw [he,hk,ha,hb]
 rw [e2]at this;refine this.trans ?_
 show Tc.v (Value.int .i64 (IntKind.i64.wrap (Ex c n x y)))=_
 rw [FP hc];have:=TZ hc.ok n x y;rw [IntKind.wrap_i64]
 congr 2
 omega
theorem Yaq{e:Value}{c:Xc}(hc:Xh c)(he: @den (Th.at ρ γ) e= .g (Gh.lay c))(i:Int):
  @den (Th.at ρ γ) (sy dh [e,Cb i])= .v (.int .i64 (dj c i)):=by
 letI:Interp:=Th.at ρ γ
 have:= @yh (Th.at ρ γ) 81 3 (by decide) (by decide) [e,Cb i];rw [rJ]at this;have e2: @mc (Th.at ρ γ) [e,Cb i]=[.g (Gh.lay c), .v (.int .i64 i)]:=by
  show[@den (Th.at ρ γ) e, @den (Th.at ρ γ) (Cb i)]=_
  rw [he];rfl
 rw [e2]at this;refine this.trans ?_
 show Tc.v (Value.int .i64 (IntKind.i64.wrap (dj c i)))=_
 have:-100000<=dj c i/\dj c i<=100000:=by
  obtain ⟨h1,h2,h3,h4,h5,h6,h7,h8⟩:=hc;unfold dj
  split
  . omega
  . split
    . omega
    . split<;>omega
 rw [IntKind.wrap_i64]
 congr 2
 omega
theorem zD{k:Nat}{σ:AH}{p e:Value}(h:sE k σ p=some e){B:Nat->Prop}{w0:World}{R:Mp}{w:World}{p':Value}(hS: @Qc (Th.at ρ γ) B w0 R σ w)(hp: @VR (Th.at ρ γ) R p p'):
  ∃b r s g O,p= .pointer (some ⟨b,0,none⟩)/\p'= .pointer (some ⟨r,0,none⟩)/\R b=some (r,s)/\σ.get b=some (.gh e)/\gn k e=true/\ @den (Th.at ρ γ) e= .g g/\nT g r O w:=by
 letI:Interp:=Th.at ρ γ
 unfold sE at h
 split at h
 . rename_i b o
   split at h
   . split at h
     . rename_i e' he
       split at h
       . rename_i hk;cases h;obtain ⟨r,s,hb,rfl⟩:=ji hp;obtain ⟨O,hO⟩:=hS.MK;obtain ⟨⟨g,h1,h2⟩,_⟩:=hO b r s _ hb he;exact ⟨b,r,s,g,O b,rfl,rfl,hb,he,hk,h1,h2⟩
       . cases h
     . cases h
   . cases h
 . cases h
theorem Cv{σ:AH}{p e:Value}(h:sE 11 σ p=some e){B:Nat->Prop}{w0:World}{R:Mp}{w:World}{p':Value}(hS: @Qc (Th.at ρ γ) B w0 R σ w)(hp: @VR (Th.at ρ γ) R p p'):
  ∃l c,p'= .pointer (some ⟨l,0,none⟩)/\ @den (Th.at ρ γ) e= .g (Gh.lay c)/\Nc w l c.lv/\Xh c:=by
 obtain ⟨b,r,s,g,O,rfl,rfl,h1,h2,h3,h4,h5⟩:=zD h hS hp;obtain ⟨c,h6,h7⟩:=sD (ρ:=ρ) (γ:=γ) h3;rw [h6]at h4;injection h4 with h4
 subst h4;exact ⟨r,c,rfl,h6,h5.1,h7⟩
def Qx(f:Nat)(k:Int):Prop:=∀(l:Nat) (v:Lv) (n:Int) (w:World),-9223372036854775808<=n->n<=9223372036854775807->Nc w l v->Calls Tryz.prog f #[.pointer (some ⟨l,0,none⟩), .int .i64 n] w (Fc (.int .i64 (jB v k n 0)) w)
theorem Pj{F:List (Value×Value)}(hF:∀p,p∈F-> @den (Th.at ρ γ) p.1= @den (Th.at ρ γ) p.2){f kind:Nat}(h:Qx f kind): @yG (Th.at ρ γ) Tryz.prog F (Hz kind) f:=by
 letI:Interp:=Th.at ρ γ
 haveI:Wc:=Ia ρ γ
 intro args σ v σ' hg B w0 R w args' hS hl;unfold Hz at hg
 split at hg
 . rename_i p a
   split at hg
   . rename_i e he ha;cases hg;obtain ⟨p',l',rfl,hp,hl⟩:=hl.ya;obtain ⟨a',l',rfl,hx,hl⟩:=hl.ya;cases hl.ic;obtain ⟨l,c,rfl,k1,k2,k3⟩:=Cv he hS hp;obtain ⟨n,rfl,hd,n0,n1⟩:=Te hx ha;obtain ⟨⟨q,q1⟩,q2⟩:=Ue hF [e,Cb (.ofNat kind),a,Cb 0] (t:=E4) (by decide);exact Eg hS (Yc R q1 (q2.trans (dAt k3 k1 (Eb _) hd (Eb 0)))) (h l c.lv n w n0 n1 k2)
   . cases hg
 . cases hg
theorem UZ{F:List (Value×Value)}(hF:∀p,p∈F-> @den (Th.at ρ γ) p.1= @den (Th.at ρ γ) p.2): @yG (Th.at ρ γ) Tryz.prog F (eZ 8) 223:=by
 letI:Interp:=Th.at ρ γ
 haveI:Wc:=Ia ρ γ
 intro args σ v σ' hg B w0 R w args' hS hl;unfold eZ at hg
 split at hg
 . rename_i p a b
   split at hg
   . rename_i e he ha hb;cases hg;obtain ⟨p',l',rfl,hp,hl⟩:=hl.ya;obtain ⟨a',l',rfl,hx,hl⟩:=hl.ya;obtain ⟨b',l',rfl,hy,hl⟩:=hl.ya;cases hl.ic;obtain ⟨l,c,rfl,k1,k2,k3⟩:=Cv he hS hp;obtain ⟨n,rfl,hd,n0,n1⟩:=Te hx ha;obtain ⟨m,rfl,tO,m0,m1⟩:=Te hy hb;obtain ⟨⟨q,q1⟩,q2⟩:=Ue hF [e,Cb (.ofNat 8),a,b] (t:=E4) (by decide);refine Eg hS (Yc R q1 (q2.trans (dAt k3 k1 (Eb _) hd tO))) ?_
     have e:jB c.lv (Int.ofNat 8) n m=c.lv.log n m:=by unfold jB Lv.log;rw [if_pos (show(Int.ofNat 8)=8 from rfl)]
     rw [e];exact Oag l c.lv n m w k2
   . cases hg
 . cases hg
theorem Mg{v:Value}{w:World}{f:FuncId}{a:Array Value}(h:Calls Tryz.prog f a w (Sl v w)):Calls Tryz.prog f a w (Fc v w):=h.mono fun e w' ⟨h1,n,h2⟩=>⟨h1,h2▸xb (Below.refl _ _) n⟩
theorem Zaq:Qx 267 5:=fun l v n w _ _ h=>iB l v n w h
theorem aar:Qx 126 6:=fun l v n w _ _ h=>Mg (RZ l v n w h)
theorem bar:Qx 124 7:=fun l v n w _ _ h=>Mg (zP l v n w h)
theorem car:Qx 343 9:=fun l v n w _ _ h=>Mg (lag l v n w h)
theorem qaJ:Qx 341 10:=fun l v n w _ _ h=>Mg (Vap l v n w h)
theorem raJ:Qx 133 11:=fun l v n w _ _ h=>Mg (Wap l v n w h)
theorem saJ:Qx 211 12:=fun l v n w _ _ h=>Mg (jag l v n w h)
theorem dar:Qx 212 13:=fun l v n w _ _ h=>Mg (kag l v n w h)
theorem ear:Qx 182 16:=fun l v n w _ _ h=>zG l v n w h
theorem far:Qx 288 17:=fun l v n w _ _ h=>TT l v n w h
theorem Wag{R:Mp}{e:Value}{c:Xc}(hc:Xh c)(he: @den (Th.at ρ γ) e= .g (Gh.lay c)): @LR (Th.at ρ γ) R (GO e) [.int .i64 c.th, .int .i64 c.sl, .int .i64 c.lo, .int .i64 c.bu]:=by
 letI:Interp:=Th.at ρ γ
 have h:=fun i=>Yc R (c:=3) rfl (Yaq hc he i)
 exact .cons (h 0) (.cons (h 1) (.cons (h 2) (.cons (h 3) (.nil R))))
theorem VZ{F:List (Value×Value)}: @yG (Th.at ρ γ) Tryz.prog F fZ 240:=by
 letI:Interp:=Th.at ρ γ
 intro args σ v σ' hg B w0 R w args' hS hl;unfold fZ at hg
 split at hg
 . rename_i p
   split at hg
   . rename_i e he;cases hg;obtain ⟨p',l',rfl,hp,hl⟩:=hl.ya;cases hl.ic;obtain ⟨l,c,rfl,k1,k2,k3⟩:=Cv he hS hp;exact Eg hS (Wag k3 k1).agg (Dn l c.lv w k2)
   . cases hg
 . cases hg
theorem UL{k:Value}{n:Nat}(hn:FO k=some n):∃q,k= .int q (Int.ofNat n):=by
 unfold FO at hn
 split at hn
 . rename_i q m;cases hn;exact ⟨q,rfl⟩
 . cases hn
theorem cm{q:IntKind}{n m:Int}(h: @den (Th.at ρ γ) (Value.int q n)= .v (.int .i64 m)):m=n:=by
 have: @den (Th.at ρ γ) (Value.int q n)= .v (.int q n):=rfl
 rw [this]at h;injection h with h
 injection h with _ h
 exact h.symm
theorem Ej{R:Mp}{e:Value}{c:Xc}(hc:Xh c)(he: @den (Th.at ρ γ) e= .g (Gh.lay c)){i:Int}{x:Value}(h: @VR (Th.at ρ γ) R (sy dh [e,Cb i]) x):x= .int .i64 (dj c i):=by
 letI:Interp:=Th.at ρ γ
 have:=js h (c:=3) rfl;rw [Yaq hc he i]at this;injection this with this
 exact this.symm
theorem Xag{F:List (Value×Value)}(hF:∀p,p∈F-> @den (Th.at ρ γ) p.1= @den (Th.at ρ γ) p.2): @yG (Th.at ρ γ) Tryz.prog F oAt 83:=by
 letI:Interp:=Th.at ρ γ
 haveI:Wc:=Ia ρ γ
 intro args σ v σ' hg B w0 R w args' hS hl;unfold oAt at hg
 split at hg
 . rename_i c k a b
   split at hg
   . rename_i c0 cs
     split at hg
     . rename_i e x hx
       split at hg
       . rename_i n he JA hk
         split at hg
         . rename_i hc;simp only [Da,Bool.and_eq_true,xd,decide_eq_true_eq]at hc;obtain ⟨s1,s2,s3,n0,n1⟩:=hc;obtain ⟨C,hC,fj⟩:=sD (ρ:=ρ) (γ:=γ) he;rw [zo _ _ _ JA]at hl;obtain ⟨p',l',rfl,hp,hl⟩:=hl.ya;obtain ⟨p2',l',rfl,SQ,hl⟩:=hl.ya;cases hl.ic;obtain ⟨c',jx,rfl⟩:=mi hp;obtain ⟨m',EG,rfl⟩:=mi SQ;obtain ⟨k',l',rfl,yI,EG⟩:=LR.ya EG;obtain ⟨a',l',rfl,Rx,EG⟩:=EG.ya;obtain ⟨b',l',rfl,SE,EG⟩:=EG.ya;cases EG.ic;obtain ⟨kn,rfl,hdk,k0,k1⟩:=Te yI s1;obtain ⟨an,rfl,hda,a0,a1⟩:=Te Rx s2;obtain ⟨bn,rfl,hdb,b0,b1⟩:=Te SE s3;have mq:kn=n:=by
            obtain ⟨q,rfl⟩:=UL hk;exact cm hdk
           subst mq;have hcv:c'=[.int .i64 C.th, .int .i64 C.sl, .int .i64 C.lo, .int .i64 C.bu]:=by
            unfold GO at jx;obtain ⟨x0,l',rfl,h0,jx⟩:=LR.ya jx;obtain ⟨x1,l',rfl,h1,jx⟩:=jx.ya;obtain ⟨x2,l',rfl,h2,jx⟩:=jx.ya;obtain ⟨x3,l',rfl,h3,jx⟩:=jx.ya;cases jx.ic;rw [Ej fj hC h0,Ej fj hC h1,Ej fj hC h2,Ej fj hC h3];rfl
           subst hcv;have av:=fun(w:World)=>faq C.th.toNat C.sl.toNat C.lo.toNat C.bu.toNat (by have:=fj.th;omega) (by have:=fj.sl;omega) (by have:=fj.lo;omega) (by have:=fj.bu;omega) ((n:Int),an,bn) w
           rw [show((C.th.toNat:Nat):Int)=C.th by have:=fj.gJ;omega,show((C.sl.toNat:Nat):Int)=C.sl by have:=fj.gP;omega,show((C.lo.toNat:Nat):Int)=C.lo by have:=fj.TQ;omega,show((C.bu.toNat:Nat):Int)=C.bu by have:=fj.UH;omega]at av
           split at hg
           . rename_i n4;have n4:=of_decide_eq_true ((xd _ _).symm.trans n4)
             split at hg
             . rename_i hz;simp only [Da,Bool.and_eq_true]at hz;cases hg;obtain ⟨q,hq,rfl⟩:=ej hz.1
               obtain ⟨q',hq',rfl⟩:=ej hz.2
               have ha0:an=0:=cm hda;have tv:bn=0:=cm hdb;subst ha0;subst tv;refine Eg hS (v':= .int .i64 (iY C.th.toNat C.sl.toNat C.lo.toNat C.bu.toNat ((n:Int),0,0))) ?_ (av w)
               have:iY C.th.toNat C.sl.toNat C.lo.toNat C.bu.toNat ((n:Int),0,0)=(8*n:Nat):=by
                rcases (show n=2\/n=3\/n=4 by omega)with rfl|rfl|rfl
                . exact zr yD.1 _ _ _ _
                . exact zr yD.2.1 _ _ _ _
                . exact zr yD.2.2 _ _ _ _
               rw [this];exact Yc R (c:=3) rfl rfl
             . cases hg
           . rename_i n4;have n4:=of_decide_eq_false ((xd _ _).symm.trans n4)
             split at hg
             . cases hg
             . rename_i h14;rw [zl,Bool.or_eq_false_iff,Va,Va]at h14;have h14:=And.intro (of_decide_eq_false h14.1) (of_decide_eq_false h14.2);cases hg;obtain ⟨⟨q,q1⟩,q2⟩:=Ue hF [e,Cb (.ofNat n),a,b] (t:=E4) (by decide);refine Eg hS (v':= .int .i64 (iY C.th.toNat C.sl.toNat C.lo.toNat C.bu.toNat ((n:Int),an,bn))) ?_ (av w)
               rw [aU C fj (n:Int) an bn (by omega)];exact Yc R q1 (q2.trans (dAt fj hC (Eb _) hda hdb))
         . cases hg
       . cases hg
     . cases hg
   . cases hg
 . cases hg
theorem gar{v:Lv}(h:v.Ok)(b0:1<=v.bu)(k x:Int):-10000000<=v.hd k x/\v.hd k x<=10000000:=by
 obtain ⟨gJ,YS,gP,P4,TQ,lo1,UH,Q4,zZ,pt1,R4,pl1,S4,T4,U4,bS,iP,jP⟩:=h;have hb:-10000000<=v.bucket (Ef x v.bu)/\v.bucket (Ef x v.bu)<=10000000:=by
  unfold Lv.bucket
  split
  . rename_i q;have:=Ik q;omega
  . omega
 unfold Lv.hd
 repeat' split
 all_goals omega
theorem dHd{e k a:Value}{c:Xc}{n x:Int}(hc:Xh c)(he: @den (Th.at ρ γ) e= .g (Gh.lay c))(hk: @den (Th.at ρ γ) k= .v (.int .i64 n))(ha: @den (Th.at ρ γ) a= .v (.int .u32 x)):
  @den (Th.at ρ γ) (sy tHd [e,k,a])= .v (.int .i64 (c.lv.hd n x)):=by
 letI:Interp:=Th.at ρ γ
 have:= @yh (Th.at ρ γ) 82 3 (by decide) (by decide) [e,k,a];rw [rJ]at this;have e2: @mc (Th.at ρ γ) [e,k,a]=[.g (Gh.lay c), .v (.int .i64 n), .v (.int .u32 x)]:=by
  show[@den (Th.at ρ γ) e, @den (Th.at ρ γ) k, @den (Th.at ρ γ) a]=_
  rw [he,hk,ha]
 rw [e2]at this;refine this.trans ?_
 show Tc.v (Value.int .i64 (IntKind.i64.wrap (IL c n x)))=_
 have e3:IL c n x=c.lv.hd n x:=by unfold IL;rw [if_pos hc]
 rw [e3];have:=gar hc.ok hc.UH n x;rw [IntKind.wrap_i64]
 congr 2
 omega
theorem Yag{F:List (Value×Value)}(hF:∀p,p∈F-> @den (Th.at ρ γ) p.1= @den (Th.at ρ γ) p.2): @yG (Th.at ρ γ) Tryz.prog F oHd 185:=by
 letI:Interp:=Th.at ρ γ
 haveI:Wc:=Ia ρ γ
 intro args σ v σ' hg B w0 R w args' hS hl;unfold oHd at hg
 split at hg
 . rename_i p k x y
   split at hg
   . rename_i e he hk hx;cases hg;obtain ⟨p',l',rfl,hp,hl⟩:=hl.ya;obtain ⟨o',l',rfl,ho,hl⟩:=hl.ya;cases hl.ic;obtain ⟨l,c,rfl,k1,k2,k3⟩:=Cv he hS hp;obtain ⟨lo,hlo,rfl⟩:=mi ho;obtain ⟨a1,l1,rfl,q1,hl⟩:=hlo.ya;obtain ⟨a2,l2,rfl,q2,hl⟩:=hl.ya;obtain ⟨a3,l3,rfl,q3,hl⟩:=hl.ya;cases hl.ic;obtain ⟨n,rfl,hd,n0,n1⟩:=Te q1 hk;obtain ⟨z,rfl,tO,z0,z1⟩:=PL q2 hx;obtain ⟨⟨q,e1⟩,e2⟩:=Ue hF [e,k,x] (t:=tHd) (by decide);exact Eg hS (Yc R e1 (e2.trans (dHd k3 k1 hd tO))) (DZ l c.lv n z a3 z0 k3.UH w k2)
   . cases hg
 . cases hg
end
end Sk
end Go.Proofs.YtfnkmolffhfpoaaGreat
namespace Go.Proofs.YtfnkmolffhfpoaaGreat
open Go.RowKit Go.BigFrame
def J5(M:Mv)(f:Value->Mv)(W:World)(e:Ending)(W':World):Prop:=e= .returned undef/\∃v,Se M (f v) W W'
set_option maxRecDepth 100000 in
theorem bU(M:Mv)(t at_ v:Int)(q0:-9223372036854775808<=at_)(q1:at_<=9223372036854775807)(W:World)(h:Ga W M)(hc:M.ck<=1000000):
  Calls Tryz.prog 46 #[.pointer (some ⟨M.m,0,none⟩), .int .i64 t, .int .i64 at_, .int .u64 v] W (rp M (M.store t at_ v) undef W):=by
 have H:Hid (∀o,Calls Tryz.prog 106 #[.pointer (some ⟨M.m,0,none⟩), .agg (Acc.cells ⟨2,t,at_,0,v,false⟩), .func (.func 107) #[] #[.pointer (some ⟨W.heap.size,0,none⟩)]] (W.alloc (.cells #[.int .u64 v] o)) (rp M (M.store t at_ v) (.agg (M.res ⟨2,t,at_,0,v,false⟩ true).cells) (W.alloc (.cells #[.int .u64 v] o)))):=Lib.hid fun o=>by
  refine rv M ⟨2,t,at_,0,v,false⟩ 107 _ v true (Ca Tryz.func107 (by kernel_rfl) rfl) _ (h.below ((Below.refl _ _).alloc (Nat.le_refl _) _)) hc q0 q1 (fun w1 hb=> ?_);exact LF _ v W.heap.size w1 ((hb.cell (p:=⟨W.heap.size,0,none⟩) (by simp)).trans (cell_of_row _ _ 0 _ _ _ (heap_alloc_new W _)))
 generalize M.store t at_ v=N at*;generalize M.res ⟨2,t,at_,0,v,false⟩ true=r at*;simp only [Acc.cells]at*;clear h
 go_enter Tryz.func46,Tryz.ntmps46
 go_wp2_with fail
 refine (H.out _).mono ?_
 rintro e w1 ⟨rfl,hm,ht⟩;have HM:=Lib.hid hm;have HT:=Lib.hid ht;clear hm ht
 go_wp2_with fail
 go_end0
 exact ⟨rfl,HM.out,((Ja.refl _ _).alloc _).trans HT.out (fun _ _ h=>h)⟩
set_option maxRecDepth 100000 in
theorem cU(M:Mv)(t at_:Int)(q1:at_<=9223372036854775807)(W:World)(h:Ga W M)(hc:M.ck<=1000000):
  Calls Tryz.prog 66 #[.pointer (some ⟨M.m,0,none⟩), .int .i64 t, .int .i64 at_] W (J5 M (M.Ka t at_) W):=by
 by_cases h0:at_<0
 . have d0:decide (at_<0)=true:=ga h0;have HL:=Lib.hid (qp M ⟨4,t,at_,0,0,false⟩ 5 W h hc);have HE:Hid (∀v,M.Ka t at_ v=M.note ⟨4,t,at_,0,0,false⟩ false):=Lib.hid fun v=>by unfold Mv.Ka;rw [if_neg (by omega)]
   have HM:=Lib.hid h;simp only [Acc.cells]at HL;clear h h0
   go_enter Tryz.func66,Tryz.ntmps66
   go_wp2_with fail
   refine HL.out.mono ?_
   rintro e w ⟨⟨x,rfl⟩,hm,ht⟩;have HI:Hid (Se M (M.note ⟨4,t,at_,0,0,false⟩ false) W w):=Lib.hid ⟨hm,ht,fun k hk=>Or.inl hk⟩;clear hm ht
   go_wp2_with fail
   go_end0
   exact ⟨rfl, .slice none 0 0,by rw [HE.out];exact HI.out⟩
 . have d0:decide (at_<0)=false:=ua h0;have e8:at_.tdiv 8=at_/8:=Int.tdiv_eq_ediv_of_nonneg (by omega);have hd:W.cell? ⟨M.m,0,none⟩=some (.pointer (some ⟨M.d,0,none⟩)):=(qd h.row).1
   obtain ⟨E,hE⟩:∃E,E=M.Nb t (at_/8):=⟨_,rfl⟩;have HF:=Lib.hid (sL M t (at_/8) W h);unfold Yq at HF;rw [<-hE]at HF;have HX:Hid (∀W1,(E≠0/\Se M M W W1\/E=0/\∃v,Se M (M.Rc t (at_/8) v) W W1)->Calls Tryz.prog 170 #[.pointer (some ⟨M.m,0,none⟩), .agg (Acc.cells ⟨4,t,at_,0,0,false⟩), .int .i64 E] W1 (Ends M (M.Ka t at_) W)):=Lib.hid fun W1 hw=>by
    rcases hw with⟨h1,hi⟩|⟨h1,v,hi⟩
    . have e0:(E==0)=false:=by simpa using h1
      have:=qp M ⟨4,t,at_,0,0,false⟩ E W1 hi.1 hc
      refine this.mono ?_
      rintro e w hd;refine ⟨hd.1, .slice none 0 0, ?_⟩;unfold Mv.Ka;rw [if_neg (by rw [<-hE];omega)];rw [e0]at hd;exact hi.note hd
    . subst h1;have:=qp (M.Rc t (at_/8) v) ⟨4,t,at_,0,0,false⟩ 0 W1 hi.1 hc
      refine this.mono ?_
      rintro e w hd;refine ⟨hd.1,v, ?_⟩;unfold Mv.Ka;rw [if_pos ⟨by omega,hE.symm⟩];exact hi.note hd
   simp only [Acc.cells]at HX;have q0:0<=at_:=by omega
   clear h h0 hE;generalize Mv.Ka M t at_=N at*
   go_enter Tryz.func66,Tryz.ntmps66
   go_wp2_with fail
   with_reducible refine HF.out.mono ?_
   rintro e w ⟨rfl,hw⟩;have HC:=Lib.hid (HX.out w hw);clear hw HX
   go_wp2_with fail
   with_reducible refine HC.out.mono ?_
   rintro e w' hp;obtain ⟨x,rfl⟩:=hp.1
   have HP:=Lib.hid hp.2
   clear hp
   go_wp2_with fail
   go_end0
   exact ⟨rfl,HP.out⟩
set_option maxRecDepth 100000 in
theorem dU(M:Mv)(t:Int)(W:World)(h:Ga W M)(hc:M.ck<=1000000)(hw:M.wm<=999999):
  Calls Tryz.prog 67 #[.pointer (some ⟨M.m,0,none⟩), .int .i64 t] W (J5 M (fun _=>M.Ma t) W):=by
 have hd:W.cell? ⟨M.m,0,none⟩=some (.pointer (some ⟨M.d,0,none⟩)):=(qd h.row).1
 obtain ⟨E,hE⟩:∃E,E=Hb M.nt t:=⟨_,rfl⟩;have HF:=Lib.hid (xL M t W h hw);unfold br at HF;rw [<-hE]at HF;have HX:Hid (∀W1,(E≠0/\Se M M W W1\/E=0/\Se M (M.fenced t) W W1)->Calls Tryz.prog 170 #[.pointer (some ⟨M.m,0,none⟩), .agg (Acc.cells ⟨5,t,0,0,0,false⟩), .int .i64 E] W1 (Ends M (fun _=>M.Ma t) W)):=Lib.hid fun W1 hw=>by
  rcases hw with⟨h1,hi⟩|⟨h1,hi⟩
  . have e0:(E==0)=false:=by simpa using h1
    refine (qp M ⟨5,t,0,0,0,false⟩ E W1 hi.1 hc).mono ?_
    rintro e w hd;refine ⟨hd.1, .slice none 0 0, ?_⟩;unfold Mv.Ma;rw [if_neg (by rw [<-hE];exact h1)];rw [e0]at hd;exact hi.note hd
  . subst h1;refine (qp (M.fenced t) ⟨5,t,0,0,0,false⟩ 0 W1 hi.1 hc).mono ?_
    rintro e w hd;refine ⟨hd.1, .slice none 0 0, ?_⟩;unfold Mv.Ma;rw [if_pos hE.symm];exact hi.note hd
 simp only [Acc.cells]at HX;clear h hE;generalize Mv.Ma M t=N at*
 go_enter Tryz.func67,Tryz.ntmps67
 go_wp2_with fail
 with_reducible refine HF.out.mono ?_
 rintro e w ⟨rfl,hw⟩;have HC:=Lib.hid (HX.out w hw);clear hw HX
 go_wp2_with fail
 with_reducible refine HC.out.mono ?_
 rintro e w' hp;obtain ⟨x,rfl⟩:=hp.1
 have HP:=Lib.hid hp.2
 clear hp
 go_wp2_with fail
 go_end0
 exact ⟨rfl,HP.out⟩
end Go.Proofs.YtfnkmolffhfpoaaGreat
namespace Go.Proofs.YtfnkmolffhfpoaaGreat
namespace Sk
open Go.RowKit
theorem VL{f:Nat->Int}(h:∀k,ud (f k))(i:Nat){v:Int}(hv:ud v)(k:Nat):ud (nd f i v k):=by
 unfold nd;split
 . exact hv
 . exact h k
theorem Wd.put{A:Rv}(h:Wd A)(a:Int){v:Int}(hv:ud v):Wd (A.put a v):=by
 unfold Rv.put
 split
 . exact ⟨VL h.seen _ hv,h.kept,h.pass,h.Cm,h.ck,h.WQ,h.wm⟩
 . exact ⟨h.seen,h.kept,VL h.pass _ hv,h.Cm,h.ck,h.WQ,h.wm⟩
theorem Wd.note{A:Rv}(h:Wd A)(x:Acc)(is:Bool)(hc:A.ck<=1000000):Wd (A.note x is):=
 ⟨h.seen,h.kept,h.pass,by show 0<=A.ck+1;have:=h.Cm;omega,by show A.ck+1<=2000000;omega,h.WQ,h.wm⟩
theorem fx(A:Rv)(a v:Int):(A.put a v).ck=A.ck/\(A.put a v).wm=A.wm/\(A.put a v).wr=A.wr:=by unfold Rv.put;split<;>exact ⟨rfl,rfl,rfl⟩
theorem Sx(A:Rv)(x:Acc)(nw:Int)(pu:Bool):(A.Ye x nw pu).ck=A.ck+1/\(A.Ye x nw pu).wm=A.wm/\(A.Ye x nw pu).wr=A.wr:=by
 unfold Rv.Ye Rv.note
 split
 . obtain ⟨h1,h2,h3⟩:=fx A x.pl nw;exact ⟨by show(A.put x.pl nw).ck+1=_;rw [h1],h2,h3⟩
 . exact ⟨rfl,rfl,rfl⟩
theorem Wd.Ye{A:Rv}(h:Wd A)(x:Acc){nw:Int}(pu:Bool)(hc:A.ck<=1000000)(hv:ud nw):Wd (A.Ye x nw pu):=by
 unfold Rv.Ye
 split
 . exact (h.put _ hv).note _ _ (by rw [(fx A x.pl nw).1];exact hc)
 . exact h.note _ _ hc
theorem u0:ud 0:=by unfold ud;omega
theorem bt(A:Rv)(t a:Int):(A.Ka t a).ck=A.ck+1/\(A.Ka t a).wm=A.wm/\(A.Ka t a).wr=A.wr:=by unfold Rv.Ka;split<;>exact ⟨rfl,rfl,rfl⟩
theorem wB(A:Rv)(t:Int):(A.Ma t).ck=A.ck+1/\A.wm<=(A.Ma t).wm/\(A.Ma t).wm<=A.wm+1:=by
 unfold Rv.Ma
 split
 . exact ⟨rfl,by show A.wm<=A.wm+1;omega,by show A.wm+1<=A.wm+1;omega⟩
 . exact ⟨rfl,Int.le_refl _,by show A.wm<=A.wm+1;omega⟩
theorem Wd.Ka{A:Rv}(h:Wd A)(t a:Int)(hc:A.ck<=1000000):Wd (A.Ka t a):=by
 unfold Rv.Ka
 split
 . exact Wd.note (A:=A.Rc t (a/8)) ⟨h.seen,h.kept,h.pass,h.Cm,h.ck,h.WQ,h.wm⟩ _ _ hc
 . exact h.note _ _ hc
theorem Wd.Ma{A:Rv}(h:Wd A)(t:Int)(hc:A.ck<=1000000)(hw:A.wm<=999999):Wd (A.Ma t):=by
 unfold Rv.Ma
 split
 . refine Wd.note (A:=A.fenced t.toNat) ⟨h.seen,fun k=> ?_,h.pass,h.Cm,h.ck,by show 0<=A.wm+1;have:=h.WQ;omega,by show A.wm+1<=2000000;omega⟩ _ _ hc
   show ud (if k/8<A.n/\A.fl t.toNat (k/8)=true then A.seen k else A.kept k)
   split
   . exact h.seen k
   . exact h.kept k
 . exact h.note _ _ hc
theorem Rb.Ua{R A:Rv}(h:Rb R A)(a:Int):R.Ua a=A.Ua a:=by unfold Rv.Ua;rw [h.n,h.np,h.seen,h.pass]
theorem Rb.note{R A:Rv}(h:Rb R A)(x:Acc)(is:Bool):Rb (R.note x is) (A.note x is):=
 {h with
  ck:=by show R.ck+1=A.ck+1;rw [h.ck]
  bd:=by show(if is then R.bd else R.bd+1)=(if is then A.bd else A.bd+1);rw [h.bd]
  la:=rfl}
theorem Rb.put{R A:Rv}(h:Rb R A)(a v:Int):Rb (R.put a v) (A.put a v):=by
 unfold Rv.put
 split
 . exact {h with seen:=by show nd R.seen _ _=nd A.seen _ _;rw [h.seen]}
 . exact {h with pass:=by show nd R.pass _ _=nd A.pass _ _;rw [h.pass]}
theorem Rb.Ye{R A:Rv}(h:Rb R A)(x:Acc)(nw:Int)(pu:Bool):Rb (R.Ye x nw pu) (A.Ye x nw pu):=by
 unfold Rv.Ye Rv.res;rw [h.Ua];refine Rb.note ?_ _ _
 split
 . exact h.put _ _
 . exact h
theorem Rb.Nb{R A:Rv}(h:Rb R A)(t l:Int):R.Nb t l=A.Nb t l:=by unfold Rv.Nb;rw [h.n,h.nt]
theorem Rb.Ka{R A:Rv}(h:Rb R A)(t a:Int):Rb (R.Ka t a) (A.Ka t a):=by
 unfold Rv.Ka;rw [h.Nb]
 split
 . refine Rb.note ?_ _ _
   exact {h with fl:=by show nd R.fl _ (nd (R.fl _) _ _)=nd A.fl _ (nd (A.fl _) _ _);rw [h.fl]}
 . exact h.note _ _
theorem Rb.fenced{R A:Rv}(h:Rb R A)(t:Nat):Rb (R.fenced t) (A.fenced t):=by
 obtain ⟨m,d,kb,sb,wb,fb,pb,n,nt,np,c0,c1,c2,c3,c4,fg,fc,kept,seen,pass,wr,fl,ck,bd,la,wm⟩:=R;obtain ⟨m',d',kb',sb',wb',fb',pb',n',nt',np',c0',c1',c2',c3',c4',fg',fc',XaN,YaN,ZaN,wr',fl',ck',bd',la',wm'⟩:=A;obtain ⟨h1,h2,h3,h4,h5,h6,h7,h8,h9,h10,h11,h12⟩:=h;simp only at h1 h2 h3 h4 h5 h6 h7 h8 h9 h10 h11 h12;subst h1 h2 h3 h4 h5 h6 h7 h8 h9 h10 h11 h12;exact ⟨rfl,rfl,rfl,rfl,rfl,rfl,rfl,rfl,rfl,rfl,rfl,rfl⟩
theorem Rb.Ma{R A:Rv}(h:Rb R A)(t:Int):Rb (R.Ma t) (A.Ma t):=by
 unfold Rv.Ma;rw [h.nt]
 split
 . exact (h.fenced _).note _ _
 . exact h.note _ _
theorem Rb.swap{R A:Rv}(h:Rb R A)(t a o x:Int):Rb (R.swap t a o x) (A.swap t a o x):=by
 unfold Rv.swap;rw [h.Ua];exact h.Ye _ _ _
theorem WL(M:Mv)(x:Acc)(nw:Int)(pu:Bool):(M.Ye x nw pu).wr=M.wr/\(M.Ye x nw pu).n=M.n:=by
 unfold Mv.Ye Mv.note
 split
 . unfold Mv.put;split<;>exact ⟨rfl,rfl⟩
 . exact ⟨rfl,rfl⟩
theorem jd.Ye{M:Mv}{A:Rv}(h:jd M A)(x:Acc)(nw:Int)(pu:Bool):jd (M.Ye x nw pu) (A.Ye x nw pu):=by
 obtain ⟨h1,h2⟩:=WL M x nw pu;obtain ⟨_,h3,h4⟩:=Sx A x nw pu;refine ⟨h.Md.Ye x nw pu,fun k hk=> ?_, ?_⟩
 . rw [h1,h4];exact h.wr k (by rw [h2]at hk;exact hk)
 . rw [(An M x nw pu).1,h3];exact h.wm
theorem jd.swap{M:Mv}{A:Rv}(h:jd M A)(t a o x:Int):jd (M.swap t a o x) (A.swap t a o x):=by
 unfold Mv.swap Rv.swap;rw [h.Md.Ua];exact h.Ye _ _ _
theorem jd.Ka{M:Mv}{A:Rv}(h:jd M A)(t a:Int)(v:Value):jd (M.Ka t a v) (A.Ka t a):=by
 have h1:(M.Ka t a v).wr=M.wr/\(M.Ka t a v).n=M.n/\(M.Ka t a v).wm=M.wm:=by unfold Mv.Ka;split<;>exact ⟨rfl,rfl,rfl⟩
 obtain ⟨_,h3,h4⟩:=bt A t a;refine ⟨h.Md.Ka t a v,fun k hk=> ?_, ?_⟩
 . rw [h1.1,h4];exact h.wr k (by rw [h1.2.1]at hk;exact hk)
 . rw [h1.2.2,h3];exact h.wm
theorem jd.Ma{M:Mv}{A:Rv}(h:jd M A)(t:Int):jd (M.Ma t) (A.Ma t):=by
 refine ⟨h.Md.Ma t, ?_, ?_⟩
 . unfold Mv.Ma Rv.Ma;rw [h.Md.nt]
   split
   . rename_i c;have ht:0<=t/\t<A.nt:=by
      unfold Hb at c;by_cases q:t<0\/(A.nt:Int)<=t
      . rw [if_pos q]at c;omega
      . omega
     obtain ⟨a,rfl⟩:=Int.eq_ofNat_of_zero_le ht.1
     intro k hk;have hk:k<M.n:=hk
     show(if(M.fl a).contains (k:Int)then M.wr k+1 else M.wr k)=if k<A.n/\A.fl a k=true then A.wr k+1 else A.wr k
     have:=h.Md.fl a (by rw [h.Md.nt];omega) k hk;by_cases q:A.fl a k=true
     . rw [if_pos (by simpa using this.1 q),if_pos ⟨by rw [<-h.Md.n];exact hk,q⟩,h.wr k hk]
     . rw [if_neg (fun z=>q (this.2 (by simpa using z))),if_neg (fun z=>q z.2),h.wr k hk]
   . exact fun k hk=>h.wr k hk
 . unfold Mv.Ma Rv.Ma;rw [h.Md.nt];have:=h.wm
   split
   . show M.wm+1<=A.wm+1;omega
   . exact this
theorem Of[Interp]{R:Mp}{σ:AH}{b:Nat}{x:Nat×Nat}(hb:R b=some x)(y:Option Na):Ext R σ R (σ.put b y):=
 ⟨R.le_refl,Nat.le_refl _,fun c _ hc=>⟨by rw [Bb,if_neg (fun e=>by rw [e,hb]at hc;cases hc)],hc⟩⟩
theorem FG{F:Nat->Prop}{w w':World}(h:Ja F w w'):Ci F w w':=⟨h.os,h.tape,h.output,h.size,h.block⟩
section
variable{ρ:Nat->Int}{γ:Nat->Gh}
theorem dm{σ:AH}{p e:Value}(h:sE 9 σ p=some e){B:Nat->Prop}{w0:World}{R:Mp}{w:World}{p':Value}(hS: @Qc (Th.at ρ γ) B w0 R σ w)(hp: @VR (Th.at ρ γ) R p p'):
  ∃b r s A M,jn p=b/\p'= .pointer (some ⟨r,0,none⟩)/\R b=some (r,s)/\ @den (Th.at ρ γ) e= .g (Gh.mem A)/\Ga w M/\M.m=r/\jd M A/\Wd A/\
   ∀w' e' M' A', @den (Th.at ρ γ) e'= .g (Gh.mem A')->Ga w' M'->M'.m=r->jd M' A'->Wd A'->(∀k,M'.own k->M.own k\/w.heap.size<=k)->Ja M.own w w'-> @Qc (Th.at ρ γ) B w0 R (σ.put b (some (.gh e'))) w':=by
 letI:Interp:=Th.at ρ γ
 obtain ⟨b,r,s,_,_,rfl,rfl,h1,h2,h3,_,_⟩:=zD h hS hp;obtain ⟨A,hA⟩:=Av (ρ:=ρ) (γ:=γ) h3;obtain ⟨g0,O0,k1,k2,k3,_,k4⟩:=hS.gat h1 h2;rw [hA]at k1;injection k1 with k1
 subst k1;obtain ⟨M,m1,m2,rfl,m4,m5⟩:=k2;refine ⟨b,r,s,A,M,rfl,rfl,h1,hA,m1,m2,m4,m5,fun w' e' M' A' q1 q2 q3 q4 q5 q6 q7=> ?_⟩;exact k4 w' e' (Gh.mem A') M'.own q1 ⟨M',q2,q3,rfl,q4,q5⟩ q6 (FG q7)
def GP(A A':Rv):Prop:=(A'.ck<=0/\A'.wm<=0)\/(A.ck<=A'.ck/\A'.ck<=A.ck+1/\A.wm<=A'.wm/\A'.wm<=A.wm+1)
theorem Yh(A:Rv):GP A jT:= .inl ⟨Int.le_refl _,Int.le_refl _⟩
theorem Tx(A:Rv)(x:Acc)(nw:Int)(pu:Bool):GP A (A.Ye x nw pu):=by
 obtain ⟨h1,h2,_⟩:=Sx A x nw pu;refine .inr ⟨?_, ?_, ?_, ?_⟩<;>omega
theorem DJ(A:Rv)(t a:Int):GP A (A.Ka t a):=by
 obtain ⟨h1,h2,_⟩:=bt A t a;refine .inr ⟨?_, ?_, ?_, ?_⟩<;>omega
theorem EJ(A:Rv)(t:Int):GP A (A.Ma t):=by
 obtain ⟨h1,h2,h3⟩:=wB A t;refine .inr ⟨?_, ?_, ?_, ?_⟩<;>omega
theorem Lk(k:Nat)(hk:k=1\/k=2\/k=3\/k=4\/k=5)(A:Rv)(l:List (Tc Gh)):∃A',Dm k (.g (Gh.mem A)::l)= .mem A'/\GP A A':=by
 rcases hk with rfl|rfl|rfl|rfl|rfl
 . match l with
   |[t,a]=>exact ⟨_,rfl,Tx A _ _ _⟩
   |[]=>exact ⟨_,rfl,Yh A⟩
   |[t]=>exact ⟨_,rfl,Yh A⟩
   |t::a::b::l=>exact ⟨_,rfl,Yh A⟩
 . match l with
   |[t,a,x]=>exact ⟨_,rfl,Tx A _ _ _⟩
   |[]=>exact ⟨_,rfl,Yh A⟩
   |[t]=>exact ⟨_,rfl,Yh A⟩
   |[t,a]=>exact ⟨_,rfl,Yh A⟩
   |t::a::b::c::l=>exact ⟨_,rfl,Yh A⟩
 . match l with
   |[t,a,x,y]=>exact ⟨_,rfl,Tx A _ _ _⟩
   |[]=>exact ⟨_,rfl,Yh A⟩
   |[t]=>exact ⟨_,rfl,Yh A⟩
   |[t,a]=>exact ⟨_,rfl,Yh A⟩
   |[t,a,x]=>exact ⟨_,rfl,Yh A⟩
   |t::a::b::c::d::l=>exact ⟨_,rfl,Yh A⟩
 . match l with
   |[t,a]=>exact ⟨_,rfl,DJ A _ _⟩
   |[]=>exact ⟨_,rfl,Yh A⟩
   |[t]=>exact ⟨_,rfl,Yh A⟩
   |t::a::b::l=>exact ⟨_,rfl,Yh A⟩
 . match l with
   |[t]=>exact ⟨_,rfl,EJ A _⟩
   |[]=>exact ⟨_,rfl,Yh A⟩
   |t::a::l=>exact ⟨_,rfl,Yh A⟩
theorem AD:∀(d:Nat) (e:Value) (n:Nat) (r:Value),deep d e=some (n,r)->n<d/\∃A, @den (Th.at ρ γ) e= .g (Gh.mem A)/\((A.ck<=n/\A.wm<=n)\/∃A0, @den (Th.at ρ γ) r= .g (Gh.mem A0)/\A0.ck<=A.ck/\A.ck<=A0.ck+n/\A0.wm<=A.wm/\A.wm<=A0.wm+n)
 |0,e,n,r,h=>by simp [deep]at h
 |d+1,e,n,r,h=>by
  letI:Interp:=Th.at ρ γ
  simp only [deep]at h
  split at h
  . rename_i t s l c
    split at h
    . rename_i ht;rw [Va]at ht;have ht:=of_decide_eq_true ht;subst ht;cases h;obtain ⟨A,hA⟩:=Av (ρ:=ρ) (γ:=γ) (e:= .func (.methodOf 9 s) ⟨l⟩ c) rfl;exact ⟨by omega,A,hA, .inr ⟨A,hA,Int.le_refl _,by simp,Int.le_refl _,by simp⟩⟩
    . split at h
      . rename_i x l ht
        split at h
        . rename_i m r' hx;cases h;obtain ⟨h1,Ax,h2,h3⟩:=AD d x m r hx;have tag:t=25\/t=41\/t=57\/t=73\/t=89:=by
           simp only [zl,Bool.or_eq_true,Va,decide_eq_true_eq]at ht;exact ht
          have key:∃A', @den (Th.at ρ γ) (.func (.methodOf t s) ⟨x::l⟩ c)= .g (Gh.mem A')/\GP Ax A':=by
           rcases tag with rfl|rfl|rfl|rfl|rfl
           . obtain ⟨A',q1,q2⟩:=Lk 1 (by omega) Ax (mc l);refine ⟨A', ?_,q2⟩;have e: @den (Th.at ρ γ) (.func (.methodOf 25 s) ⟨x::l⟩ c)=(Tc.g (Gh.mem (Dm 1 (@den (Th.at ρ γ) x:: @mc (Th.at ρ γ) l)).A):Tc Gh):=rfl;rw [h2]at e;exact e.trans (congrArg (fun g:Gh=>(Tc.g (Gh.mem g.A):Tc Gh)) q1)
           . obtain ⟨A',q1,q2⟩:=Lk 2 (by omega) Ax (mc l);refine ⟨A', ?_,q2⟩;have e: @den (Th.at ρ γ) (.func (.methodOf 41 s) ⟨x::l⟩ c)=(Tc.g (Gh.mem (Dm 2 (@den (Th.at ρ γ) x:: @mc (Th.at ρ γ) l)).A):Tc Gh):=rfl;rw [h2]at e;exact e.trans (congrArg (fun g:Gh=>(Tc.g (Gh.mem g.A):Tc Gh)) q1)
           . obtain ⟨A',q1,q2⟩:=Lk 3 (by omega) Ax (mc l);refine ⟨A', ?_,q2⟩;have e: @den (Th.at ρ γ) (.func (.methodOf 57 s) ⟨x::l⟩ c)=(Tc.g (Gh.mem (Dm 3 (@den (Th.at ρ γ) x:: @mc (Th.at ρ γ) l)).A):Tc Gh):=rfl;rw [h2]at e;exact e.trans (congrArg (fun g:Gh=>(Tc.g (Gh.mem g.A):Tc Gh)) q1)
           . obtain ⟨A',q1,q2⟩:=Lk 4 (by omega) Ax (mc l);refine ⟨A', ?_,q2⟩;have e: @den (Th.at ρ γ) (.func (.methodOf 73 s) ⟨x::l⟩ c)=(Tc.g (Gh.mem (Dm 4 (@den (Th.at ρ γ) x:: @mc (Th.at ρ γ) l)).A):Tc Gh):=rfl;rw [h2]at e;exact e.trans (congrArg (fun g:Gh=>(Tc.g (Gh.mem g.A):Tc Gh)) q1)
           . obtain ⟨A',q1,q2⟩:=Lk 5 (by omega) Ax (mc l);refine ⟨A', ?_,q2⟩;have e: @den (Th.at ρ γ) (.func (.methodOf 89 s) ⟨x::l⟩ c)=(Tc.g (Gh.mem (Dm 5 (@den (Th.at ρ γ) x:: @mc (Th.at ρ γ) l)).A):Tc Gh):=rfl;rw [h2]at e;exact e.trans (congrArg (fun g:Gh=>(Tc.g (Gh.mem g.A):Tc Gh)) q1)
          obtain ⟨A',k1,k2⟩:=key;refine ⟨by show m+1<d+1;omega,A',k1, ?_⟩;have em:((m.succ:Nat):Int)=(m:Int)+1:=rfl;rw [em];rcases k2 with⟨a1,a2⟩|⟨a1,a2,a3,a4⟩
          . exact .inl ⟨by omega,by omega⟩
          . rcases h3 with⟨b1,b2⟩|⟨A0,b0,b1,b2,b3,b4⟩
            . exact .inl ⟨by omega,by omega⟩
            . exact .inr ⟨A0,b0,by omega,by omega,by omega,by omega⟩
        . cases h
      . cases h
  . cases h
theorem ij{F:List (Value×Value)}(hF:∀p,p∈F-> @den (Th.at ρ γ) p.1= @den (Th.at ρ γ) p.2){e:Value}(h:Rl F e=true){A:Rv}(hA: @den (Th.at ρ γ) e= .g (Gh.mem A))(hw:Wd A):A.ck<=999100/\A.wm<=999100:=by
 letI:Interp:=Th.at ρ γ
 unfold Rl at h
 split at h
 . rename_i n r hd
   split at h
   . rename_i k1 k2;obtain ⟨h1,A',h2,h3⟩:=AD (ρ:=ρ) (γ:=γ) 30 e n r hd;rw [hA]at h2;injection h2 with h2
     injection h2 with h2
     subst h2;rcases h3 with⟨b1,b2⟩|⟨A0,b0,b1,b2,b3,b4⟩
     . omega
     . have d1:=Kf hF k1;have d2:=Kf hF k2;rw [KL (dCk b0) (Eb 999000)]at d1;rw [KL (dWm b0) (Eb 999000)]at d2;injection d1 with d1
       injection d1 with d1
       injection d2 with d2
       injection d2 with d2
       have d1:=of_decide_eq_true d1;have d2:=of_decide_eq_true d2;have c0:=hw.Cm;have c1:=hw.ck;have c2:=hw.WQ;have c3:=hw.wm;rw [IntKind.wrap_i64]at d1 d2;omega
   . cases h
 . cases h
end
theorem eU{A:Rv}(h:Wd A)(a:Int):ud (A.Ua a).1:=by
 unfold Rv.Ua Je
 split
 . split
   . exact h.seen _
   . exact u0
 . split
   . exact h.pass _
   . exact u0
section
variable{ρ:Nat->Int}{γ:Nat->Gh}
theorem K5{e a:Value}{A:Rv}{n:Int}(hw:Wd A)(he: @den (Th.at ρ γ) e= .g (Gh.mem A))(ha: @den (Th.at ρ γ) a= .v (.int .i64 n)): @den (Th.at ρ γ) (sy Zt [e,a])= .v (.int .u64 (A.Ua n).1):=by
 letI:Interp:=Th.at ρ γ
 haveI:Wc:=Ia ρ γ
 have:= @yh (Th.at ρ γ) 90 7 (by decide) (by decide) [e,a];rw [jY]at this;have e2: @mc (Th.at ρ γ) [e,a]=[.g (Gh.mem A), .v (.int .i64 n)]:=by
  show[@den (Th.at ρ γ) e, @den (Th.at ρ γ) a]=_
  rw [he,ha]
 rw [e2]at this;refine this.trans ?_
 show Tc.v (Value.int .u64 (IntKind.u64.wrap (A.Ua n).1))=_
 rw [Nd (eU hw n)]
theorem Zag{e a o:Value}{A:Rv}{n m:Int}(he: @den (Th.at ρ γ) e= .g (Gh.mem A))(ha: @den (Th.at ρ γ) a= .v (.int .i64 n))(ho: @den (Th.at ρ γ) o= .v (.int .u64 m)): @den (Th.at ρ γ) (sy au [e,a,o])= .v (.bool ((A.Ua n).2&&(A.Ua n).1==m)):=by
 letI:Interp:=Th.at ρ γ
 have:= @yh (Th.at ρ γ) 91 8 (by decide) (by decide) [e,a,o];rw [Dd]at this;have e2: @mc (Th.at ρ γ) [e,a,o]=[.g (Gh.mem A), .v (.int .i64 n), .v (.int .u64 m)]:=by
  show[@den (Th.at ρ γ) e, @den (Th.at ρ γ) a, @den (Th.at ρ γ) o]=_
  rw [he,ha,ho]
 rw [e2]at this;refine this.trans ?_
 show Tc.v (Value.bool (decide (bN ((A.Ua n).2&&(A.Ua n).1==m)≠0)))=_
 cases ((A.Ua n).2&&(A.Ua n).1==m)<;>rfl
theorem dIs{e a:Value}{A:Rv}{n:Int}(he: @den (Th.at ρ γ) e= .g (Gh.mem A))(ha: @den (Th.at ρ γ) a= .v (.int .i64 n)): @den (Th.at ρ γ) (sy tIs [e,a])= .v (.bool (A.Ua n).2):=by
 letI:Interp:=Th.at ρ γ
 have:= @yh (Th.at ρ γ) 95 8 (by decide) (by decide) [e,a];rw [Dd]at this;have e2: @mc (Th.at ρ γ) [e,a]=[.g (Gh.mem A), .v (.int .i64 n)]:=by
  show[@den (Th.at ρ γ) e, @den (Th.at ρ γ) a]=_
  rw [he,ha]
 rw [e2]at this;refine this.trans ?_
 show Tc.v (Value.bool (decide (bN (A.Ua n).2≠0)))=_
 cases (A.Ua n).2<;>rfl
theorem taJ{e t a:Value}{A:Rv}{k n:Int}(he: @den (Th.at ρ γ) e= .g (Gh.mem A))(ht: @den (Th.at ρ γ) t= .v (.int .i64 k))(ha: @den (Th.at ρ γ) a= .v (.int .i64 n)): @den (Th.at ρ γ) (sy bZ [e,t,a])= .v (.bool (A.Ka k n).la.dn):=by
 letI:Interp:=Th.at ρ γ
 have:= @yh (Th.at ρ γ) 97 8 (by decide) (by decide) [e,t,a];rw [Dd]at this;have e2: @mc (Th.at ρ γ) [e,t,a]=[.g (Gh.mem A), .v (.int .i64 k), .v (.int .i64 n)]:=by
  show[@den (Th.at ρ γ) e, @den (Th.at ρ γ) t, @den (Th.at ρ γ) a]=_
  rw [he,ht,ha]
 rw [e2]at this;refine this.trans ?_
 show Tc.v (Value.bool (decide (bN (A.Ka k n).la.dn≠0)))=_
 cases (A.Ka k n).la.dn<;>rfl
theorem uaJ{e t:Value}{A:Rv}{k:Int}(he: @den (Th.at ρ γ) e= .g (Gh.mem A))(ht: @den (Th.at ρ γ) t= .v (.int .i64 k)): @den (Th.at ρ γ) (sy cZ [e,t])= .v (.bool (A.Ma k).la.dn):=by
 letI:Interp:=Th.at ρ γ
 have:= @yh (Th.at ρ γ) 98 8 (by decide) (by decide) [e,t];rw [Dd]at this;have e2: @mc (Th.at ρ γ) [e,t]=[.g (Gh.mem A), .v (.int .i64 k)]:=by
  show[@den (Th.at ρ γ) e, @den (Th.at ρ γ) t]=_
  rw [he,ht]
 rw [e2]at this;refine this.trans ?_
 show Tc.v (Value.bool (decide (bN (A.Ma k).la.dn≠0)))=_
 cases (A.Ma k).la.dn<;>rfl
theorem WZ{A:Rv}{M:Mv}{w:World}(h:Ga w M)(hl:jd M A)(hw:Wd A)(a:Int):0<=Jk A a/\Jk A a<=2000000:=by
 unfold Jk
 split
 . rename_i c;have hn:=hl.Md.n;have:=h.ZA (a/8).toNat (by omega)
   rw [hl.wr _ (by omega)]at this;have:=hl.wm;have:=hw.wm;omega
 . omega
theorem dWr{e a:Value}{A:Rv}{n:Int}(hb:0<=Jk A n/\Jk A n<=2000000)(he: @den (Th.at ρ γ) e= .g (Gh.mem A))(ha: @den (Th.at ρ γ) a= .v (.int .i64 n)): @den (Th.at ρ γ) (sy tWr [e,a])= .v (.int .i64 (Jk A n)):=by
 letI:Interp:=Th.at ρ γ
 have:= @yh (Th.at ρ γ) 93 3 (by decide) (by decide) [e,a];rw [rJ]at this;have e2: @mc (Th.at ρ γ) [e,a]=[.g (Gh.mem A), .v (.int .i64 n)]:=by
  show[@den (Th.at ρ γ) e, @den (Th.at ρ γ) a]=_
  rw [he,ha]
 rw [e2]at this;refine this.trans ?_
 show Tc.v (Value.int .i64 (IntKind.i64.wrap (Jk A n)))=_
 rw [IntKind.wrap_i64]
 congr 2
 omega
theorem gLd{e t a:Value}{A:Rv}{k n:Int}(he: @den (Th.at ρ γ) e= .g (Gh.mem A))(ht: @den (Th.at ρ γ) t= .v (.int .i64 k))(ha: @den (Th.at ρ γ) a= .v (.int .i64 n)): @den (Th.at ρ γ) (sy EF [e,t,a])= .g (Gh.mem (A.load k n)):=by
 have e1: @den (Th.at ρ γ) (sy EF [e,t,a])=(Tc.g (Ru 9 (Dm 1 [@den (Th.at ρ γ) e, @den (Th.at ρ γ) t, @den (Th.at ρ γ) a])):Tc Gh):=rfl;rw [he,ht,ha]at e1;exact e1
theorem gSt{e t a x:Value}{A:Rv}{k n m:Int}(he: @den (Th.at ρ γ) e= .g (Gh.mem A))(ht: @den (Th.at ρ γ) t= .v (.int .i64 k))(ha: @den (Th.at ρ γ) a= .v (.int .i64 n))(hx: @den (Th.at ρ γ) x= .v (.int .u64 m)): @den (Th.at ρ γ) (sy Qw [e,t,a,x])= .g (Gh.mem (A.store k n m)):=by
 have e1: @den (Th.at ρ γ) (sy Qw [e,t,a,x])=(Tc.g (Ru 9 (Dm 2 [@den (Th.at ρ γ) e, @den (Th.at ρ γ) t, @den (Th.at ρ γ) a, @den (Th.at ρ γ) x])):Tc Gh):=rfl;rw [he,ht,ha,hx]at e1;exact e1
theorem gSw{e t a o x:Value}{A:Rv}{k n l m:Int}(he: @den (Th.at ρ γ) e= .g (Gh.mem A))(ht: @den (Th.at ρ γ) t= .v (.int .i64 k))(ha: @den (Th.at ρ γ) a= .v (.int .i64 n))(ho: @den (Th.at ρ γ) o= .v (.int .u64 l))(hx: @den (Th.at ρ γ) x= .v (.int .u64 m)): @den (Th.at ρ γ) (sy tm [e,t,a,o,x])= .g (Gh.mem (A.swap k n l m)):=by
 have e1: @den (Th.at ρ γ) (sy tm [e,t,a,o,x])=(Tc.g (Ru 9 (Dm 3 [@den (Th.at ρ γ) e, @den (Th.at ρ γ) t, @den (Th.at ρ γ) a, @den (Th.at ρ γ) o, @den (Th.at ρ γ) x])):Tc Gh):=rfl;rw [he,ht,ha,ho,hx]at e1;exact e1
theorem gFl{e t a:Value}{A:Rv}{k n:Int}(he: @den (Th.at ρ γ) e= .g (Gh.mem A))(ht: @den (Th.at ρ γ) t= .v (.int .i64 k))(ha: @den (Th.at ρ γ) a= .v (.int .i64 n)): @den (Th.at ρ γ) (sy Rw [e,t,a])= .g (Gh.mem (A.Ka k n)):=by
 have e1: @den (Th.at ρ γ) (sy Rw [e,t,a])=(Tc.g (Ru 9 (Dm 4 [@den (Th.at ρ γ) e, @den (Th.at ρ γ) t, @den (Th.at ρ γ) a])):Tc Gh):=rfl;rw [he,ht,ha]at e1;exact e1
theorem gFe{e t:Value}{A:Rv}{k:Int}(he: @den (Th.at ρ γ) e= .g (Gh.mem A))(ht: @den (Th.at ρ γ) t= .v (.int .i64 k)): @den (Th.at ρ γ) (sy Sw [e,t])= .g (Gh.mem (A.Ma k)):=by
 have e1: @den (Th.at ρ γ) (sy Sw [e,t])=(Tc.g (Ru 9 (Dm 5 [@den (Th.at ρ γ) e, @den (Th.at ρ γ) t])):Tc Gh):=rfl;rw [he,ht]at e1;exact e1
variable{F:List (Value×Value)}(hF:∀p,p∈F-> @den (Th.at ρ γ) p.1= @den (Th.at ρ γ) p.2)
include hF
theorem fU: @yG (Th.at ρ γ) Tryz.prog F dL 64:=by
 letI:Interp:=Th.at ρ γ
 haveI:Wc:=Ia ρ γ
 intro args σ v σ' hg B w0 R w args' hS hl;unfold dL at hg
 split at hg
 . rename_i p t a
   split at hg
   . rename_i e he ht ha
     split at hg
     . rename_i hf;rw [Ec]at hg;cases hg;obtain ⟨p',l',rfl,hp,hl⟩:=hl.ya;obtain ⟨t',l',rfl,um,hl⟩:=hl.ya;obtain ⟨a',l',rfl,Rx,hl⟩:=hl.ya;cases hl.ic;obtain ⟨b,r,s,A,M,rfl,rfl,k1,k2,k3,rfl,k5,k6,k7⟩:=dm he hS hp;obtain ⟨tn,rfl,dt,t0,t1⟩:=Te um ht;obtain ⟨an,rfl,da,a0,a1⟩:=Te Rx ha;obtain ⟨c1,c2⟩:=ij hF hf k2 k6;have jg:M.ck<=1000000:=by rw [k5.Md.ck];omega
       obtain ⟨⟨q,q1⟩,q2⟩:=Ue hF [e,a] (t:=Zt) (by decide);have hc:=JS M tn an a0 a1 w k3 jg;rw [k5.Md.Ua]at hc;refine hc.mono ?_
       rintro x w' ⟨rfl,m1,m2⟩;refine ⟨R,_,rfl,Of k1 _,Yc R q1 (q2.trans (K5 k6 k2 da)), ?_⟩
       . exact k7 w' _ (M.load tn an) (A.load tn an) (gLd k2 dt da) m1 (An M _ _ _).2.1 (k5.Ye _ _ _) (k6.Ye _ _ (by omega) u0) (fun k hk=> .inl (by unfold Mv.load at hk;rw [Mv.Bj]at hk;exact hk)) m2
     . cases hg
   . cases hg
 . cases hg
theorem IP: @yG (Th.at ρ γ) Tryz.prog F RC 46:=by
 letI:Interp:=Th.at ρ γ
 haveI:Wc:=Ia ρ γ
 intro args σ v σ' hg B w0 R w args' hS hl;unfold RC at hg
 split at hg
 . rename_i p t a x
   split at hg
   . rename_i e he ht ha hx
     split at hg
     . rename_i hf;rw [Ec]at hg;cases hg;obtain ⟨p',l',rfl,hp,hl⟩:=hl.ya;obtain ⟨t',l',rfl,um,hl⟩:=hl.ya;obtain ⟨a',l',rfl,Rx,hl⟩:=hl.ya;obtain ⟨x',l',rfl,RO,hl⟩:=hl.ya;cases hl.ic;obtain ⟨b,r,s,A,M,rfl,rfl,k1,k2,k3,rfl,k5,k6,k7⟩:=dm he hS hp;obtain ⟨tn,rfl,dt,t0,t1⟩:=Te um ht;obtain ⟨an,rfl,da,a0,a1⟩:=Te Rx ha;obtain ⟨xn,rfl,dx,xu⟩:=mu RO hx;obtain ⟨c1,c2⟩:=ij hF hf k2 k6;have jg:M.ck<=1000000:=by rw [k5.Md.ck];omega
       have ct:M.wm<=999999:=Int.le_trans k5.wm (by omega);refine (bU M tn an xn a0 a1 w k3 jg).mono ?_
       rintro x w' ⟨rfl,m1,m2⟩;refine ⟨R,_,rfl,Of k1 _,Ge R, ?_⟩;exact k7 w' _ (M.store tn an xn) (A.store tn an xn) (gSt k2 dt da dx) m1 (An M _ _ _).2.1 (k5.Ye _ _ _) (k6.Ye _ _ (by omega) xu) (fun k hk=> .inl (by unfold Mv.store at hk;rw [Mv.Bj]at hk;exact hk)) m2
     . cases hg
   . cases hg
 . cases hg
theorem gU: @yG (Th.at ρ γ) Tryz.prog F eL 65:=by
 letI:Interp:=Th.at ρ γ
 haveI:Wc:=Ia ρ γ
 intro args σ v σ' hg B w0 R w args' hS hl;unfold eL at hg
 split at hg
 . rename_i p t a o x
   split at hg
   . rename_i e he ht ha ho hx
     split at hg
     . rename_i hf;rw [Ec]at hg;cases hg;obtain ⟨p',l',rfl,hp,hl⟩:=hl.ya;obtain ⟨t',l',rfl,um,hl⟩:=hl.ya;obtain ⟨a',l',rfl,Rx,hl⟩:=hl.ya;obtain ⟨o',l',rfl,wO,hl⟩:=hl.ya;obtain ⟨x',l',rfl,RO,hl⟩:=hl.ya;cases hl.ic;obtain ⟨b,r,s,A,M,rfl,rfl,k1,k2,k3,rfl,k5,k6,k7⟩:=dm he hS hp;obtain ⟨tn,rfl,dt,t0,t1⟩:=Te um ht;obtain ⟨an,rfl,da,a0,a1⟩:=Te Rx ha;obtain ⟨on,rfl,do',ou⟩:=mu wO ho;obtain ⟨xn,rfl,dx,xu⟩:=mu RO hx;obtain ⟨c1,c2⟩:=ij hF hf k2 k6;have jg:M.ck<=1000000:=by rw [k5.Md.ck];omega
       have ct:M.wm<=999999:=Int.le_trans k5.wm (by omega);obtain ⟨⟨q,q1⟩,q2⟩:=Ue hF [e,a,o] (t:=au) (by decide);have T3:(M.swap tn an on xn).la.dn=((A.Ua an).2&&(A.Ua an).1==on):=by
        show(M.res ⟨3,tn,an,0,xn,false⟩ ((M.Ua an).1==on)).dn=_
        unfold Mv.res;rw [k5.Md.Ua];cases (A.Ua an).2<;>simp
       have hc:=KS M tn an on xn a0 a1 w k3 jg;rw [T3]at hc;refine hc.mono ?_
       rintro x w' ⟨rfl,m1,m2⟩;refine ⟨R,_,rfl,Of k1 _,Yc R q1 (q2.trans (Zag k2 da do')), ?_⟩;exact k7 w' _ (M.swap tn an on xn) (A.swap tn an on xn) (gSw k2 dt da do' dx) m1 (An M _ _ _).2.1 (k5.swap _ _ _ _) (k6.Ye _ _ (by omega) xu) (fun k hk=> .inl (by unfold Mv.swap at hk;rw [Mv.Bj]at hk;exact hk)) m2
     . cases hg
   . cases hg
 . cases hg
theorem JP: @yG (Th.at ρ γ) Tryz.prog F SC 66:=by
 letI:Interp:=Th.at ρ γ
 haveI:Wc:=Ia ρ γ
 intro args σ v σ' hg B w0 R w args' hS hl;unfold SC at hg
 split at hg
 . rename_i p t a
   split at hg
   . rename_i e he ht ha
     split at hg
     . rename_i hf;rw [Ec]at hg;cases hg;obtain ⟨p',l',rfl,hp,hl⟩:=hl.ya;obtain ⟨t',l',rfl,um,hl⟩:=hl.ya;obtain ⟨a',l',rfl,Rx,hl⟩:=hl.ya;cases hl.ic;obtain ⟨b,r,s,A,M,rfl,rfl,k1,k2,k3,rfl,k5,k6,k7⟩:=dm he hS hp;obtain ⟨tn,rfl,dt,t0,t1⟩:=Te um ht;obtain ⟨an,rfl,da,a0,a1⟩:=Te Rx ha;obtain ⟨c1,c2⟩:=ij hF hf k2 k6;have jg:M.ck<=1000000:=by rw [k5.Md.ck];omega
       have ct:M.wm<=999999:=Int.le_trans k5.wm (by omega);refine (cU M tn an a1 w k3 jg).mono ?_
       rintro x w' ⟨rfl,v',m1,m2,m3⟩;refine ⟨R,_,rfl,Of k1 _,Ge R, ?_⟩;refine k7 w' _ (M.Ka tn an v') (A.Ka tn an) (gFl k2 dt da) m1 ?_ (k5.Ka _ _ _) (k6.Ka _ _ (by omega)) m3 m2
       unfold Mv.Ka;split<;>rfl
     . cases hg
   . cases hg
 . cases hg
theorem KP: @yG (Th.at ρ γ) Tryz.prog F TC 67:=by
 letI:Interp:=Th.at ρ γ
 haveI:Wc:=Ia ρ γ
 intro args σ v σ' hg B w0 R w args' hS hl;unfold TC at hg
 split at hg
 . rename_i p t
   split at hg
   . rename_i e he ht
     split at hg
     . rename_i hf;rw [Ec]at hg;cases hg;obtain ⟨p',l',rfl,hp,hl⟩:=hl.ya;obtain ⟨t',l',rfl,um,hl⟩:=hl.ya;cases hl.ic;obtain ⟨b,r,s,A,M,rfl,rfl,k1,k2,k3,rfl,k5,k6,k7⟩:=dm he hS hp;obtain ⟨tn,rfl,dt,t0,t1⟩:=Te um ht;obtain ⟨c1,c2⟩:=ij hF hf k2 k6;have jg:M.ck<=1000000:=by rw [k5.Md.ck];omega
       have ct:M.wm<=999999:=Int.le_trans k5.wm (by omega);refine (dU M tn w k3 jg ct).mono ?_
       rintro x w' ⟨rfl,v',m1,m2,m3⟩;refine ⟨R,_,rfl,Of k1 _,Ge R, ?_⟩;refine k7 w' _ (M.Ma tn) (A.Ma tn) (gFe k2 dt) m1 ?_ (k5.Ma _) (k6.Ma _ (by omega) (by omega)) m3 m2
       unfold Mv.Ma;split<;>rfl
     . cases hg
   . cases hg
 . cases hg
theorem LP: @yG (Th.at ρ γ) Tryz.prog F UC 72:=by
 letI:Interp:=Th.at ρ γ
 haveI:Wc:=Ia ρ γ
 intro args σ v σ' hg B w0 R w args' hS hl;unfold UC at hg
 split at hg
 . rename_i p
   split at hg
   . rename_i e he;cases hg;obtain ⟨p',l',rfl,hp,hl⟩:=hl.ya;cases hl.ic;obtain ⟨b,r,s,A,M,rfl,rfl,k1,k2,k3,rfl,k5,k6,k7⟩:=dm he hS hp;obtain ⟨⟨q,q1⟩,q2⟩:=Ue hF [e] (t:=EO) (by decide);refine Eg hS (Yc R q1 (q2.trans (dCk k2))) (gb ?_);have c0:=k6.Cm;have c1:=k6.ck;have:IntKind.i64.wrap A.ck=M.ck:=by rw [k5.Md.ck,IntKind.wrap_i64];omega
     rw [this];exact iL M.m M.ck w (qd k3.row).2.2.1
   . cases hg
 . cases hg
end
end Sk
end Go.Proofs.YtfnkmolffhfpoaaGreat
