/- -/
import Derived.Test.YtfnkmolffhfpoaaGreatHb28
import Derived.Test.YtfnkmolffhfpoaaGreatHb29
import Derived.Test.YtfnkmolffhfpoaaGreatHb22
set_option linter.unusedVariables false
set_option linter.unusedSimpArgs false
set_option linter.unusedSectionVars false
namespace Go.Proofs.YtfnkmolffhfpoaaGreat
namespace Sk
open Go.RowKit
theorem FR{v:Lv}(h:v.Ok)(k a b:Int):-10000000<=zC v k a b/\zC v k a b<=10000000:=by
 by_cases k1:k<=13
 . have:=lM h (k:=k) (a:=a) (b:=b) k1;omega
 . obtain ⟨WI,dM,qK,IT,GP,UX,XI,JT,fR,VX,KT,WX,MT,NT,OT,wL,YI,ZI⟩:=h;unfold zC hasB;rw [if_neg (by omega:¬k=8)]
   split
   . omega
   . rw [if_neg (by omega:¬k=5),if_neg (by omega:¬k=6),if_neg (by omega:¬k=7)]
     split
     . split
       . rename_i q;have:=of_decide_eq_true q;omega
       . omega
     . split
       . split
         . rename_i q;have:=of_decide_eq_true q;omega
         . omega
       . rw [if_neg (by omega)];omega
theorem vJ{c:Dc}(h:Bg c)(k a b:Int):vt c k a b=zC c.lv k a b:=by unfold vt;rw [if_pos h]
section
variable{ρ:Nat->Int}{γ:Nat->Gh}
theorem dAt{e k a b:Value}{q:IntKind}{c:Dc}{n x y:Int}(hc:Bg c)(he: @den (Th.at ρ γ) e= .g (Gh.lay c))(hk: @den (Th.at ρ γ) k= .v (.int q n))(ha: @den (Th.at ρ γ) a= .v (.int .i64 x))(hb: @den (Th.at ρ γ) b= .v (.int .i64 y)):
  @den (Th.at ρ γ) (sy zT [e,k,a,b])= .v (.int .i64 (zC c.lv n x y)):=by
 letI:Interp:=Th.at ρ γ
 have:= @mg (Th.at ρ γ) 80 3 (by decide) (by decide) [e,k,a,b];rw [ME]at this;have e2: @jc (Th.at ρ γ) [e,k,a,b]=[.g (Gh.lay c), .v (.int q n), .v (.int .i64 x), .v (.int .i64 y)]:=by
  show[@den (Th.at ρ γ) e, @den (Th.at ρ γ) k, @den (Th.at ρ γ) a, @den (Th.at ρ γ) b]=_
  rw [he,hk,ha,hb]
 rw [e2]at this;refine this.trans ?_
 show tc.v (Value.int .i64 (IntKind.i64.wrap (vt c n x y)))=_
 rw [vJ hc];have:=FR hc.ok n x y;rw [IntKind.wrap_i64]
 congr 2
 omega
theorem GR{e:Value}{c:Dc}(hc:Bg c)(he: @den (Th.at ρ γ) e= .g (Gh.lay c))(i:Int):
  @den (Th.at ρ γ) (sy Lh [e,rb i])= .v (.int .i64 (Nj c i)):=by
 letI:Interp:=Th.at ρ γ
 have:= @mg (Th.at ρ γ) 81 3 (by decide) (by decide) [e,rb i];rw [ME]at this;have e2: @jc (Th.at ρ γ) [e,rb i]=[.g (Gh.lay c), .v (.int .i64 i)]:=by
  show[@den (Th.at ρ γ) e, @den (Th.at ρ γ) (rb i)]=_
  rw [he];rfl
 rw [e2]at this;refine this.trans ?_
 show tc.v (Value.int .i64 (IntKind.i64.wrap (Nj c i)))=_
 have:-100000<=Nj c i/\Nj c i<=100000:=by
  obtain ⟨h1,h2,h3,h4,h5,h6,h7,h8⟩:=hc;unfold Nj
  split
  . omega
  . split
    . omega
    . split<;>omega
 rw [IntKind.wrap_i64]
 congr 2
 omega
theorem Oz{k:Nat}{σ:AH}{p e:Value}(h:DA k σ p=some e){B:Nat->Prop}{w0:World}{R:Mp}{w:World}{p':Value}(hS: @Ic (Th.at ρ γ) B w0 R σ w)(hp: @VR (Th.at ρ γ) R p p'):
  ∃b r s g O,p= .pointer (some ⟨b,0,none⟩)/\p'= .pointer (some ⟨r,0,none⟩)/\R b=some (r,s)/\σ.get b=some (.gh e)/\Ml k e=true/\ @den (Th.at ρ γ) e= .g g/\pM g r O w:=by
 letI:Interp:=Th.at ρ γ
 unfold DA at h
 split at h
 . rename_i b o
   split at h
   . split at h
     . rename_i e' he
       split at h
       . rename_i hk;cases h;obtain ⟨r,s,hb,rfl⟩:=wg hp;obtain ⟨O,hO⟩:=hS.lK;obtain ⟨⟨g,h1,h2⟩,_⟩:=hO b r s _ hb he;exact ⟨b,r,s,g,O b,rfl,rfl,hb,he,hk,h1,h2⟩
       . cases h
     . cases h
   . cases h
 . cases h
theorem Yq{σ:AH}{p e:Value}(h:DA 11 σ p=some e){B:Nat->Prop}{w0:World}{R:Mp}{w:World}{p':Value}(hS: @Ic (Th.at ρ γ) B w0 R σ w)(hp: @VR (Th.at ρ γ) R p p'):
  ∃l c,p'= .pointer (some ⟨l,0,none⟩)/\ @den (Th.at ρ γ) e= .g (Gh.lay c)/\Ac w l c.lv/\Bg c:=by
 obtain ⟨b,r,s,g,O,rfl,rfl,h1,h2,h3,h4,h5⟩:=Oz h hS hp;obtain ⟨c,h6,h7⟩:=KG (ρ:=ρ) (γ:=γ) h3;rw [h6]at h4;injection h4 with h4
 subst h4;exact ⟨r,c,rfl,h6,h5.1,h7⟩
def It(f:Nat)(k:Int):Prop:=∀(l:Nat) (v:Lv) (n:Int) (w:World),-9223372036854775808<=n->n<=9223372036854775807->Ac w l v->Calls Tryz.prog f #[.pointer (some ⟨l,0,none⟩), .int .i64 n] w (Rc (.int .i64 (zC v k n 0)) w)
theorem ui{F:List (Value×Value)}(hF:∀p,p∈F-> @den (Th.at ρ γ) p.1= @den (Th.at ρ γ) p.2){f kind:Nat}(h:It f kind): @yD (Th.at ρ γ) Tryz.prog F (gv kind) f:=by
 letI:Interp:=Th.at ρ γ
 haveI:Bc:=ua ρ γ
 intro args σ v σ' hg B w0 R w args' hS hl;unfold gv at hg
 split at hg
 . rename_i p a
   split at hg
   . rename_i e he ha;cases hg;obtain ⟨p',l',rfl,hp,hl⟩:=hl.qa;obtain ⟨a',l',rfl,hx,hl⟩:=hl.qa;cases hl.uc;obtain ⟨l,c,rfl,k1,k2,k3⟩:=Yq he hS hp;obtain ⟨n,rfl,hd,n0,n1⟩:=te hx ha;obtain ⟨⟨q,q1⟩,q2⟩:=ze hF [e,rb (.ofNat kind),a,rb 0] (t:=zT) (by decide);exact cg hS (Mc R q1 (q2.trans (dAt k3 k1 (mb _) hd (mb 0)))) (h l c.lv n w n0 n1 k2)
   . cases hg
 . cases hg
theorem JR{F:List (Value×Value)}(hF:∀p,p∈F-> @den (Th.at ρ γ) p.1= @den (Th.at ρ γ) p.2): @yD (Th.at ρ γ) Tryz.prog F (LQ 8) 223:=by
 letI:Interp:=Th.at ρ γ
 haveI:Bc:=ua ρ γ
 intro args σ v σ' hg B w0 R w args' hS hl;unfold LQ at hg
 split at hg
 . rename_i p a b
   split at hg
   . rename_i e he ha hb;cases hg;obtain ⟨p',l',rfl,hp,hl⟩:=hl.qa;obtain ⟨a',l',rfl,hx,hl⟩:=hl.qa;obtain ⟨b',l',rfl,hy,hl⟩:=hl.qa;cases hl.uc;obtain ⟨l,c,rfl,k1,k2,k3⟩:=Yq he hS hp;obtain ⟨n,rfl,hd,n0,n1⟩:=te hx ha;obtain ⟨m,rfl,uI,m0,m1⟩:=te hy hb;obtain ⟨⟨q,q1⟩,q2⟩:=ze hF [e,rb (.ofNat 8),a,b] (t:=zT) (by decide);refine cg hS (Mc R q1 (q2.trans (dAt k3 k1 (mb _) hd uI))) ?_
     have e:zC c.lv (Int.ofNat 8) n m=c.lv.log n m:=by unfold zC Lv.log;rw [if_pos (show(Int.ofNat 8)=8 from rfl)]
     rw [e];exact BY l c.lv n m w k2
   . cases hg
 . cases hg
theorem Mf{v:Value}{w:World}{f:FuncId}{a:Array Value}(h:Calls Tryz.prog f a w (fj v w)):Calls Tryz.prog f a w (Rc v w):=h.mono fun e w' ⟨h1,n,h2⟩=>⟨h1,h2▸zb (Below.refl _ _) n⟩
theorem mad:It 267 5:=fun l v n w _ _ h=>gx l v n w h
theorem nad:It 126 6:=fun l v n w _ _ h=>Mf (DR l v n w h)
theorem oad:It 124 7:=fun l v n w _ _ h=>Mf (pJ l v n w h)
theorem qad:It 343 9:=fun l v n w _ _ h=>Mf (ZX l v n w h)
theorem zaq:It 341 10:=fun l v n w _ _ h=>Mf (iac l v n w h)
theorem Aaq:It 133 11:=fun l v n w _ _ h=>Mf (jac l v n w h)
theorem Baq:It 211 12:=fun l v n w _ _ h=>Mf (XX l v n w h)
theorem rad:It 212 13:=fun l v n w _ _ h=>Mf (YX l v n w h)
theorem sad:It 182 16:=fun l v n w _ _ h=>JC l v n w h
theorem tad:It 288 17:=fun l v n w _ _ h=>PM l v n w h
theorem VM{R:Mp}{e:Value}{c:Dc}(hc:Bg c)(he: @den (Th.at ρ γ) e= .g (Gh.lay c)): @LR (Th.at ρ γ) R (fz e) [.int .i64 c.th, .int .i64 c.sl, .int .i64 c.lo, .int .i64 c.bu]:=by
 letI:Interp:=Th.at ρ γ
 have h:=fun i=>Mc R (c:=3) rfl (GR hc he i)
 exact .cons (h 0) (.cons (h 1) (.cons (h 2) (.cons (h 3) (.nil R))))
theorem KR{F:List (Value×Value)}: @yD (Th.at ρ γ) Tryz.prog F MQ 240:=by
 letI:Interp:=Th.at ρ γ
 intro args σ v σ' hg B w0 R w args' hS hl;unfold MQ at hg
 split at hg
 . rename_i p
   split at hg
   . rename_i e he;cases hg;obtain ⟨p',l',rfl,hp,hl⟩:=hl.qa;cases hl.uc;obtain ⟨l,c,rfl,k1,k2,k3⟩:=Yq he hS hp;exact cg hS (VM k3 k1).agg (Jk l c.lv w k2)
   . cases hg
 . cases hg
theorem SG{k:Value}{n:Nat}(hn:FI k=some n):∃q,k= .int q (Int.ofNat n):=by
 unfold FI at hn
 split at hn
 . rename_i q m;cases hn;exact ⟨q,rfl⟩
 . cases hn
theorem Rj{q:IntKind}{n m:Int}(h: @den (Th.at ρ γ) (Value.int q n)= .v (.int .i64 m)):m=n:=by
 have: @den (Th.at ρ γ) (Value.int q n)= .v (.int q n):=rfl
 rw [this]at h;injection h with h
 injection h with _ h
 exact h.symm
theorem mi{R:Mp}{e:Value}{c:Dc}(hc:Bg c)(he: @den (Th.at ρ γ) e= .g (Gh.lay c)){i:Int}{x:Value}(h: @VR (Th.at ρ γ) R (sy Lh [e,rb i]) x):x= .int .i64 (Nj c i):=by
 letI:Interp:=Th.at ρ γ
 have:=Wo h (c:=3) rfl;rw [GR hc he i]at this;injection this with this
 exact this.symm
theorem LY{F:List (Value×Value)}(hF:∀p,p∈F-> @den (Th.at ρ γ) p.1= @den (Th.at ρ γ) p.2): @yD (Th.at ρ γ) Tryz.prog F oAt 83:=by
 letI:Interp:=Th.at ρ γ
 haveI:Bc:=ua ρ γ
 intro args σ v σ' hg B w0 R w args' hS hl;unfold oAt at hg
 split at hg
 . rename_i c k a b
   split at hg
   . rename_i c0 cs
     split at hg
     . rename_i e x hx
       split at hg
       . rename_i n he eG hk
         split at hg
         . rename_i hc;simp only [za,Bool.and_eq_true,jd,decide_eq_true_eq]at hc;obtain ⟨s1,s2,s3,n0,n1⟩:=hc;obtain ⟨C,hC,Pl⟩:=KG (ρ:=ρ) (γ:=γ) he;rw [xl _ _ _ eG]at hl;obtain ⟨p',l',rfl,hp,hl⟩:=hl.qa;obtain ⟨p2',l',rfl,S1,hl⟩:=hl.qa;cases hl.uc;obtain ⟨c',pK,rfl⟩:=wk hp;obtain ⟨m',NR,rfl⟩:=wk S1;obtain ⟨k',l',rfl,rI,NR⟩:=LR.qa NR;obtain ⟨a',l',rfl,OC,NR⟩:=NR.qa;obtain ⟨b',l',rfl,zP,NR⟩:=NR.qa;cases NR.uc;obtain ⟨kn,rfl,hdk,k0,k1⟩:=te rI s1;obtain ⟨an,rfl,hda,a0,a1⟩:=te OC s2;obtain ⟨bn,rfl,hdb,b0,b1⟩:=te zP s3;have yn:kn=n:=by
            obtain ⟨q,rfl⟩:=SG hk;exact Rj hdk
           subst yn;have hcv:c'=[.int .i64 C.th, .int .i64 C.sl, .int .i64 C.lo, .int .i64 C.bu]:=by
            unfold fz at pK;obtain ⟨x0,l',rfl,h0,pK⟩:=LR.qa pK;obtain ⟨x1,l',rfl,h1,pK⟩:=pK.qa;obtain ⟨x2,l',rfl,h2,pK⟩:=pK.qa;obtain ⟨x3,l',rfl,h3,pK⟩:=pK.qa;cases pK.uc;rw [mi Pl hC h0,mi Pl hC h1,mi Pl hC h2,mi Pl hC h3];rfl
           subst hcv;have GB:=fun(w:World)=>haq C.th.toNat C.sl.toNat C.lo.toNat C.bu.toNat (by have:=Pl.th;omega) (by have:=Pl.sl;omega) (by have:=Pl.lo;omega) (by have:=Pl.bu;omega) ((n:Int),an,bn) w
           rw [show((C.th.toNat:Nat):Int)=C.th by have:=Pl.WI;omega,show((C.sl.toNat:Nat):Int)=C.sl by have:=Pl.qK;omega,show((C.lo.toNat:Nat):Int)=C.lo by have:=Pl.GP;omega,show((C.bu.toNat:Nat):Int)=C.bu by have:=Pl.XI;omega]at GB
           split at hg
           . rename_i n4;have n4:=of_decide_eq_true ((jd _ _).symm.trans n4)
             split at hg
             . rename_i hz;simp only [za,Bool.and_eq_true]at hz;cases hg;obtain ⟨q,hq,rfl⟩:=Eh hz.1
               obtain ⟨q',hq',rfl⟩:=Eh hz.2
               have ha0:an=0:=Rj hda;have Uq:bn=0:=Rj hdb;subst ha0;subst Uq;refine cg hS (v':= .int .i64 (nR C.th.toNat C.sl.toNat C.lo.toNat C.bu.toNat ((n:Int),0,0))) ?_ (GB w)
               have:nR C.th.toNat C.sl.toNat C.lo.toNat C.bu.toNat ((n:Int),0,0)=(8*n:Nat):=by
                rcases (show n=2\/n=3\/n=4 by omega)with rfl|rfl|rfl
                . exact Ht aF.1 _ _ _ _
                . exact Ht aF.2.1 _ _ _ _
                . exact Ht aF.2.2 _ _ _ _
               rw [this];exact Mc R (c:=3) rfl rfl
             . cases hg
           . rename_i n4;have n4:=of_decide_eq_false ((jd _ _).symm.trans n4)
             split at hg
             . cases hg
             . rename_i h14;rw [sj,Bool.or_eq_false_iff,Ja,Ja]at h14;have h14:=And.intro (of_decide_eq_false h14.1) (of_decide_eq_false h14.2);cases hg;obtain ⟨⟨q,q1⟩,q2⟩:=ze hF [e,rb (.ofNat n),a,b] (t:=zT) (by decide);refine cg hS (v':= .int .i64 (nR C.th.toNat C.sl.toNat C.lo.toNat C.bu.toNat ((n:Int),an,bn))) ?_ (GB w)
               rw [JY C Pl (n:Int) an bn (by omega)];exact Mc R q1 (q2.trans (dAt Pl hC (mb _) hda hdb))
         . cases hg
       . cases hg
     . cases hg
   . cases hg
 . cases hg
theorem uad{v:Lv}(h:v.Ok)(b0:1<=v.bu)(k x:Int):-10000000<=v.hd k x/\v.hd k x<=10000000:=by
 obtain ⟨WI,dM,qK,IT,GP,UX,XI,JT,fR,VX,KT,WX,MT,NT,OT,wL,YI,ZI⟩:=h;have hb:-10000000<=v.bucket (ye x v.bu)/\v.bucket (ye x v.bu)<=10000000:=by
  unfold Lv.bucket
  split
  . rename_i q;have:=Si q;omega
  . omega
 unfold Lv.hd
 repeat' split
 all_goals omega
theorem dHd{e k a:Value}{c:Dc}{n x:Int}(hc:Bg c)(he: @den (Th.at ρ γ) e= .g (Gh.lay c))(hk: @den (Th.at ρ γ) k= .v (.int .i64 n))(ha: @den (Th.at ρ γ) a= .v (.int .u32 x)):
  @den (Th.at ρ γ) (sy tHd [e,k,a])= .v (.int .i64 (c.lv.hd n x)):=by
 letI:Interp:=Th.at ρ γ
 have:= @mg (Th.at ρ γ) 82 3 (by decide) (by decide) [e,k,a];rw [ME]at this;have e2: @jc (Th.at ρ γ) [e,k,a]=[.g (Gh.lay c), .v (.int .i64 n), .v (.int .u32 x)]:=by
  show[@den (Th.at ρ γ) e, @den (Th.at ρ γ) k, @den (Th.at ρ γ) a]=_
  rw [he,hk,ha]
 rw [e2]at this;refine this.trans ?_
 show tc.v (Value.int .i64 (IntKind.i64.wrap (FG c n x)))=_
 have e3:FG c n x=c.lv.hd n x:=by unfold FG;rw [if_pos hc]
 rw [e3];have:=uad hc.ok hc.XI n x;rw [IntKind.wrap_i64]
 congr 2
 omega
theorem MY{F:List (Value×Value)}(hF:∀p,p∈F-> @den (Th.at ρ γ) p.1= @den (Th.at ρ γ) p.2): @yD (Th.at ρ γ) Tryz.prog F oHd 185:=by
 letI:Interp:=Th.at ρ γ
 haveI:Bc:=ua ρ γ
 intro args σ v σ' hg B w0 R w args' hS hl;unfold oHd at hg
 split at hg
 . rename_i p k x y
   split at hg
   . rename_i e he hk hx;cases hg;obtain ⟨p',l',rfl,hp,hl⟩:=hl.qa;obtain ⟨o',l',rfl,ho,hl⟩:=hl.qa;cases hl.uc;obtain ⟨l,c,rfl,k1,k2,k3⟩:=Yq he hS hp;obtain ⟨lo,hlo,rfl⟩:=wk ho;obtain ⟨a1,l1,rfl,q1,hl⟩:=hlo.qa;obtain ⟨a2,l2,rfl,q2,hl⟩:=hl.qa;obtain ⟨a3,l3,rfl,q3,hl⟩:=hl.qa;cases hl.uc;obtain ⟨n,rfl,hd,n0,n1⟩:=te q1 hk;obtain ⟨z,rfl,uI,z0,z1⟩:=NM q2 hx;obtain ⟨⟨q,e1⟩,e2⟩:=ze hF [e,k,x] (t:=tHd) (by decide);exact cg hS (Mc R e1 (e2.trans (dHd k3 k1 hd uI))) (qR l c.lv n z a3 z0 k3.XI w k2)
   . cases hg
 . cases hg
end
end Sk
end Go.Proofs.YtfnkmolffhfpoaaGreat
namespace Go.Proofs.YtfnkmolffhfpoaaGreat
open Go.RowKit Go.BigFrame
def ZT(M:Mv)(f:Value->Mv)(W:World)(e:Ending)(W':World):Prop:=e= .returned undef/\∃v,Xf M (f v) W W'
set_option maxRecDepth 100000 in
theorem WM(M:Mv)(t at_ v:Int)(q0:-9223372036854775808<=at_)(q1:at_<=9223372036854775807)(W:World)(h:Ba W M)(hc:M.ck<=1000000):
  Calls Tryz.prog 46 #[.pointer (some ⟨M.m,0,none⟩), .int .i64 t, .int .i64 at_, .int .u64 v] W (im M (M.store t at_ v) undef W):=by
 have H:Hid (∀o,Calls Tryz.prog 106 #[.pointer (some ⟨M.m,0,none⟩), .agg (Acc.cells ⟨2,t,at_,0,v,false⟩), .func (.func 107) #[] #[.pointer (some ⟨W.heap.size,0,none⟩)]] (W.alloc (.cells #[.int .u64 v] o)) (im M (M.store t at_ v) (.agg (M.res ⟨2,t,at_,0,v,false⟩ true).cells) (W.alloc (.cells #[.int .u64 v] o)))):=Lib.hid fun o=>by
  refine Rq M ⟨2,t,at_,0,v,false⟩ 107 _ v true (ja Tryz.func107 (by kernel_rfl) rfl) _ (h.below ((Below.refl _ _).alloc (Nat.le_refl _) _)) hc q0 q1 (fun w1 hb=> ?_);exact aC _ v W.heap.size w1 ((hb.cell (p:=⟨W.heap.size,0,none⟩) (by simp)).trans (cell_of_row _ _ 0 _ _ _ (heap_alloc_new W _)))
 generalize M.store t at_ v=N at*;generalize M.res ⟨2,t,at_,0,v,false⟩ true=r at*;simp only [Acc.cells]at*;clear h
 go_enter Tryz.func46,Tryz.ntmps46
 go_wp2_with fail
 refine (H.out _).mono ?_
 rintro e w1 ⟨rfl,hm,ht⟩;have HM:=Lib.hid hm;have HT:=Lib.hid ht;clear hm ht
 go_wp2_with fail
 go_end0
 exact ⟨rfl,HM.out,((Ea.refl _ _).alloc _).trans HT.out (fun _ _ h=>h)⟩
set_option maxRecDepth 100000 in
theorem XM(M:Mv)(t at_:Int)(q1:at_<=9223372036854775807)(W:World)(h:Ba W M)(hc:M.ck<=1000000):
  Calls Tryz.prog 66 #[.pointer (some ⟨M.m,0,none⟩), .int .i64 t, .int .i64 at_] W (ZT M (M.Ka t at_) W):=by
 by_cases h0:at_<0
 . have d0:decide (at_<0)=true:=ca h0;have HL:=Lib.hid (dC M ⟨4,t,at_,0,0,false⟩ 5 W h hc);have HE:Hid (∀v,M.Ka t at_ v=M.note ⟨4,t,at_,0,0,false⟩ false):=Lib.hid fun v=>by unfold Mv.Ka;rw [if_neg (by omega)]
   have HM:=Lib.hid h;simp only [Acc.cells]at HL;clear h h0
   go_enter Tryz.func66,Tryz.ntmps66
   go_wp2_with fail
   refine HL.out.mono ?_
   rintro e w ⟨⟨x,rfl⟩,hm,ht⟩;have HI:Hid (Xf M (M.note ⟨4,t,at_,0,0,false⟩ false) W w):=Lib.hid ⟨hm,ht,fun k hk=>Or.inl hk⟩;clear hm ht
   go_wp2_with fail
   go_end0
   exact ⟨rfl, .slice none 0 0,by rw [HE.out];exact HI.out⟩
 . have d0:decide (at_<0)=false:=ea h0;have e8:at_.tdiv 8=at_/8:=Int.tdiv_eq_ediv_of_nonneg (by omega);have hd:W.cell? ⟨M.m,0,none⟩=some (.pointer (some ⟨M.d,0,none⟩)):=(ae h.row).1
   obtain ⟨E,hE⟩:∃E,E=M.Jb t (at_/8):=⟨_,rfl⟩;have HF:=Lib.hid (XQ M t (at_/8) W h);unfold Sq at HF;rw [<-hE]at HF;have HX:Hid (∀W1,(E≠0/\Xf M M W W1\/E=0/\∃v,Xf M (M.Kc t (at_/8) v) W W1)->Calls Tryz.prog 170 #[.pointer (some ⟨M.m,0,none⟩), .agg (Acc.cells ⟨4,t,at_,0,0,false⟩), .int .i64 E] W1 (Ends M (M.Ka t at_) W)):=Lib.hid fun W1 hw=>by
    rcases hw with⟨h1,hi⟩|⟨h1,v,hi⟩
    . have e0:(E==0)=false:=by simpa using h1
      have:=dC M ⟨4,t,at_,0,0,false⟩ E W1 hi.1 hc
      refine this.mono ?_
      rintro e w hd;refine ⟨hd.1, .slice none 0 0, ?_⟩;unfold Mv.Ka;rw [if_neg (by rw [<-hE];omega)];rw [e0]at hd;exact hi.note hd
    . subst h1;have:=dC (M.Kc t (at_/8) v) ⟨4,t,at_,0,0,false⟩ 0 W1 hi.1 hc
      refine this.mono ?_
      rintro e w hd;refine ⟨hd.1,v, ?_⟩;unfold Mv.Ka;rw [if_pos ⟨by omega,hE.symm⟩];exact hi.note hd
   simp only [Acc.cells]at HX;have q0:0<=at_:=by omega
   clear h h0 hE;generalize Mv.Ka M t at_=N at*
   go_enter Tryz.func66,Tryz.ntmps66
   go_wp2_with fail
   with_reducible refine HF.out.mono ?_
   rintro e w ⟨rfl,hw⟩;have HC:=Lib.hid (HX.out w hw);clear hw HX
   go_wp2_with fail
   with_reducible refine HC.out.mono ?_
   rintro e w' hp;obtain ⟨x,rfl⟩:=hp.1
   have HP:=Lib.hid hp.2
   clear hp
   go_wp2_with fail
   go_end0
   exact ⟨rfl,HP.out⟩
set_option maxRecDepth 100000 in
theorem YM(M:Mv)(t:Int)(W:World)(h:Ba W M)(hc:M.ck<=1000000)(hw:M.wm<=999999):
  Calls Tryz.prog 67 #[.pointer (some ⟨M.m,0,none⟩), .int .i64 t] W (ZT M (fun _=>M.Oa t) W):=by
 have hd:W.cell? ⟨M.m,0,none⟩=some (.pointer (some ⟨M.d,0,none⟩)):=(ae h.row).1
 obtain ⟨E,hE⟩:∃E,E=Bb M.nt t:=⟨_,rfl⟩;have HF:=Lib.hid (eR M t W h hw);unfold Tq at HF;rw [<-hE]at HF;have HX:Hid (∀W1,(E≠0/\Xf M M W W1\/E=0/\Xf M (M.fenced t) W W1)->Calls Tryz.prog 170 #[.pointer (some ⟨M.m,0,none⟩), .agg (Acc.cells ⟨5,t,0,0,0,false⟩), .int .i64 E] W1 (Ends M (fun _=>M.Oa t) W)):=Lib.hid fun W1 hw=>by
  rcases hw with⟨h1,hi⟩|⟨h1,hi⟩
  . have e0:(E==0)=false:=by simpa using h1
    refine (dC M ⟨5,t,0,0,0,false⟩ E W1 hi.1 hc).mono ?_
    rintro e w hd;refine ⟨hd.1, .slice none 0 0, ?_⟩;unfold Mv.Oa;rw [if_neg (by rw [<-hE];exact h1)];rw [e0]at hd;exact hi.note hd
  . subst h1;refine (dC (M.fenced t) ⟨5,t,0,0,0,false⟩ 0 W1 hi.1 hc).mono ?_
    rintro e w hd;refine ⟨hd.1, .slice none 0 0, ?_⟩;unfold Mv.Oa;rw [if_pos hE.symm];exact hi.note hd
 simp only [Acc.cells]at HX;clear h hE;generalize Mv.Oa M t=N at*
 go_enter Tryz.func67,Tryz.ntmps67
 go_wp2_with fail
 with_reducible refine HF.out.mono ?_
 rintro e w ⟨rfl,hw⟩;have HC:=Lib.hid (HX.out w hw);clear hw HX
 go_wp2_with fail
 with_reducible refine HC.out.mono ?_
 rintro e w' hp;obtain ⟨x,rfl⟩:=hp.1
 have HP:=Lib.hid hp.2
 clear hp
 go_wp2_with fail
 go_end0
 exact ⟨rfl,HP.out⟩
end Go.Proofs.YtfnkmolffhfpoaaGreat
namespace Go.Proofs.YtfnkmolffhfpoaaGreat
namespace Sk
open Go.RowKit
theorem TG{f:Nat->Int}(h:∀k,cd (f k))(i:Nat){v:Int}(hv:cd v)(k:Nat):cd (Ed f i v k):=by
 unfold Ed;split
 . exact hv
 . exact h k
theorem Wd.put{A:Rv}(h:Wd A)(a:Int){v:Int}(hv:cd v):Wd (A.put a v):=by
 unfold Rv.put
 split
 . exact ⟨TG h.seen _ hv,h.kept,h.pass,h.ak,h.ck,h.oM,h.wm⟩
 . exact ⟨h.seen,h.kept,TG h.pass _ hv,h.ak,h.ck,h.oM,h.wm⟩
theorem Wd.note{A:Rv}(h:Wd A)(x:Acc)(is:Bool)(hc:A.ck<=1000000):Wd (A.note x is):=
 ⟨h.seen,h.kept,h.pass,by show 0<=A.ck+1;have:=h.ak;omega,by show A.ck+1<=2000000;omega,h.oM,h.wm⟩
theorem Ws(A:Rv)(a v:Int):(A.put a v).ck=A.ck/\(A.put a v).wm=A.wm/\(A.put a v).wr=A.wr:=by unfold Rv.put;split<;>exact ⟨rfl,rfl,rfl⟩
theorem Pz(A:Rv)(x:Acc)(nw:Int)(pu:Bool):(A.Oe x nw pu).ck=A.ck+1/\(A.Oe x nw pu).wm=A.wm/\(A.Oe x nw pu).wr=A.wr:=by
 unfold Rv.Oe Rv.note
 split
 . obtain ⟨h1,h2,h3⟩:=Ws A x.pl nw;exact ⟨by show(A.put x.pl nw).ck+1=_;rw [h1],h2,h3⟩
 . exact ⟨rfl,rfl,rfl⟩
theorem Wd.Oe{A:Rv}(h:Wd A)(x:Acc){nw:Int}(pu:Bool)(hc:A.ck<=1000000)(hv:cd nw):Wd (A.Oe x nw pu):=by
 unfold Rv.Oe
 split
 . exact (h.put _ hv).note _ _ (by rw [(Ws A x.pl nw).1];exact hc)
 . exact h.note _ _ hc
theorem u0:cd 0:=by unfold cd;omega
theorem Ex(A:Rv)(t a:Int):(A.Ka t a).ck=A.ck+1/\(A.Ka t a).wm=A.wm/\(A.Ka t a).wr=A.wr:=by unfold Rv.Ka;split<;>exact ⟨rfl,rfl,rfl⟩
theorem wJ(A:Rv)(t:Int):(A.Oa t).ck=A.ck+1/\A.wm<=(A.Oa t).wm/\(A.Oa t).wm<=A.wm+1:=by
 unfold Rv.Oa
 split
 . exact ⟨rfl,by show A.wm<=A.wm+1;omega,by show A.wm+1<=A.wm+1;omega⟩
 . exact ⟨rfl,Int.le_refl _,by show A.wm<=A.wm+1;omega⟩
theorem Wd.Ka{A:Rv}(h:Wd A)(t a:Int)(hc:A.ck<=1000000):Wd (A.Ka t a):=by
 unfold Rv.Ka
 split
 . exact Wd.note (A:=A.Kc t (a/8)) ⟨h.seen,h.kept,h.pass,h.ak,h.ck,h.oM,h.wm⟩ _ _ hc
 . exact h.note _ _ hc
theorem Wd.Oa{A:Rv}(h:Wd A)(t:Int)(hc:A.ck<=1000000)(hw:A.wm<=999999):Wd (A.Oa t):=by
 unfold Rv.Oa
 split
 . refine Wd.note (A:=A.fenced t.toNat) ⟨h.seen,fun k=> ?_,h.pass,h.ak,h.ck,by show 0<=A.wm+1;have:=h.oM;omega,by show A.wm+1<=2000000;omega⟩ _ _ hc
   show cd (if k/8<A.n/\A.fl t.toNat (k/8)=true then A.seen k else A.kept k)
   split
   . exact h.seen k
   . exact h.kept k
 . exact h.note _ _ hc
theorem od.Ga{R A:Rv}(h:od R A)(a:Int):R.Ga a=A.Ga a:=by unfold Rv.Ga;rw [h.n,h.np,h.seen,h.pass]
theorem od.note{R A:Rv}(h:od R A)(x:Acc)(is:Bool):od (R.note x is) (A.note x is):=
 {h with
  ck:=by show R.ck+1=A.ck+1;rw [h.ck]
  bd:=by show(if is then R.bd else R.bd+1)=(if is then A.bd else A.bd+1);rw [h.bd]
  la:=rfl}
theorem od.put{R A:Rv}(h:od R A)(a v:Int):od (R.put a v) (A.put a v):=by
 unfold Rv.put
 split
 . exact {h with seen:=by show Ed R.seen _ _=Ed A.seen _ _;rw [h.seen]}
 . exact {h with pass:=by show Ed R.pass _ _=Ed A.pass _ _;rw [h.pass]}
theorem od.Oe{R A:Rv}(h:od R A)(x:Acc)(nw:Int)(pu:Bool):od (R.Oe x nw pu) (A.Oe x nw pu):=by
 unfold Rv.Oe Rv.res;rw [h.Ga];refine od.note ?_ _ _
 split
 . exact h.put _ _
 . exact h
theorem od.Jb{R A:Rv}(h:od R A)(t l:Int):R.Jb t l=A.Jb t l:=by unfold Rv.Jb;rw [h.n,h.nt]
theorem od.Ka{R A:Rv}(h:od R A)(t a:Int):od (R.Ka t a) (A.Ka t a):=by
 unfold Rv.Ka;rw [h.Jb]
 split
 . refine od.note ?_ _ _
   exact {h with fl:=by show Ed R.fl _ (Ed (R.fl _) _ _)=Ed A.fl _ (Ed (A.fl _) _ _);rw [h.fl]}
 . exact h.note _ _
theorem od.fenced{R A:Rv}(h:od R A)(t:Nat):od (R.fenced t) (A.fenced t):=by
 obtain ⟨m,d,kb,sb,wb,fb,pb,n,nt,np,c0,c1,c2,c3,c4,fg,fc,kept,seen,pass,wr,fl,ck,bd,la,wm⟩:=R;obtain ⟨m',d',kb',sb',wb',fb',pb',n',nt',np',c0',c1',c2',c3',c4',fg',fc',Oaw,Paw,Qaw,wr',fl',ck',bd',la',wm'⟩:=A;obtain ⟨h1,h2,h3,h4,h5,h6,h7,h8,h9,h10,h11,h12⟩:=h;simp only at h1 h2 h3 h4 h5 h6 h7 h8 h9 h10 h11 h12;subst h1 h2 h3 h4 h5 h6 h7 h8 h9 h10 h11 h12;exact ⟨rfl,rfl,rfl,rfl,rfl,rfl,rfl,rfl,rfl,rfl,rfl,rfl⟩
theorem od.Oa{R A:Rv}(h:od R A)(t:Int):od (R.Oa t) (A.Oa t):=by
 unfold Rv.Oa;rw [h.nt]
 split
 . exact (h.fenced _).note _ _
 . exact h.note _ _
theorem od.swap{R A:Rv}(h:od R A)(t a o x:Int):od (R.swap t a o x) (A.swap t a o x):=by
 unfold Rv.swap;rw [h.Ga];exact h.Oe _ _ _
theorem UG(M:Mv)(x:Acc)(nw:Int)(pu:Bool):(M.Oe x nw pu).wr=M.wr/\(M.Oe x nw pu).n=M.n:=by
 unfold Mv.Oe Mv.note
 split
 . unfold Mv.put;split<;>exact ⟨rfl,rfl⟩
 . exact ⟨rfl,rfl⟩
theorem bg.Oe{M:Mv}{A:Rv}(h:bg M A)(x:Acc)(nw:Int)(pu:Bool):bg (M.Oe x nw pu) (A.Oe x nw pu):=by
 obtain ⟨h1,h2⟩:=UG M x nw pu;obtain ⟨_,h3,h4⟩:=Pz A x nw pu;refine ⟨h.Lg.Oe x nw pu,fun k hk=> ?_, ?_⟩
 . rw [h1,h4];exact h.wr k (by rw [h2]at hk;exact hk)
 . rw [(bt M x nw pu).1,h3];exact h.wm
theorem bg.swap{M:Mv}{A:Rv}(h:bg M A)(t a o x:Int):bg (M.swap t a o x) (A.swap t a o x):=by
 unfold Mv.swap Rv.swap;rw [h.Lg.Ga];exact h.Oe _ _ _
theorem bg.Ka{M:Mv}{A:Rv}(h:bg M A)(t a:Int)(v:Value):bg (M.Ka t a v) (A.Ka t a):=by
 have h1:(M.Ka t a v).wr=M.wr/\(M.Ka t a v).n=M.n/\(M.Ka t a v).wm=M.wm:=by unfold Mv.Ka;split<;>exact ⟨rfl,rfl,rfl⟩
 obtain ⟨_,h3,h4⟩:=Ex A t a;refine ⟨h.Lg.Ka t a v,fun k hk=> ?_, ?_⟩
 . rw [h1.1,h4];exact h.wr k (by rw [h1.2.1]at hk;exact hk)
 . rw [h1.2.2,h3];exact h.wm
theorem bg.Oa{M:Mv}{A:Rv}(h:bg M A)(t:Int):bg (M.Oa t) (A.Oa t):=by
 refine ⟨h.Lg.Oa t, ?_, ?_⟩
 . unfold Mv.Oa Rv.Oa;rw [h.Lg.nt]
   split
   . rename_i c;have ht:0<=t/\t<A.nt:=by
      unfold Bb at c;by_cases q:t<0\/(A.nt:Int)<=t
      . rw [if_pos q]at c;omega
      . omega
     obtain ⟨a,rfl⟩:=Int.eq_ofNat_of_zero_le ht.1
     intro k hk;have hk:k<M.n:=hk
     show(if(M.fl a).contains (k:Int)then M.wr k+1 else M.wr k)=if k<A.n/\A.fl a k=true then A.wr k+1 else A.wr k
     have:=h.Lg.fl a (by rw [h.Lg.nt];omega) k hk;by_cases q:A.fl a k=true
     . rw [if_pos (by simpa using this.1 q),if_pos ⟨by rw [<-h.Lg.n];exact hk,q⟩,h.wr k hk]
     . rw [if_neg (fun z=>q (this.2 (by simpa using z))),if_neg (fun z=>q z.2),h.wr k hk]
   . exact fun k hk=>h.wr k hk
 . unfold Mv.Oa Rv.Oa;rw [h.Lg.nt];have:=h.wm
   split
   . show M.wm+1<=A.wm+1;omega
   . exact this
theorem Ke[Interp]{R:Mp}{σ:AH}{b:Nat}{x:Nat×Nat}(hb:R b=some x)(y:Option ya):Ext R σ R (σ.put b y):=
 ⟨R.le_refl,Nat.le_refl _,fun c _ hc=>⟨by rw [ib,if_neg (fun e=>by rw [e,hb]at hc;cases hc)],hc⟩⟩
theorem PC{F:Nat->Prop}{w w':World}(h:Ea F w w'):yk F w w':=⟨h.os,h.tape,h.output,h.size,h.block⟩
section
variable{ρ:Nat->Int}{γ:Nat->Gh}
theorem Sj{σ:AH}{p e:Value}(h:DA 9 σ p=some e){B:Nat->Prop}{w0:World}{R:Mp}{w:World}{p':Value}(hS: @Ic (Th.at ρ γ) B w0 R σ w)(hp: @VR (Th.at ρ γ) R p p'):
  ∃b r s A M,Ij p=b/\p'= .pointer (some ⟨r,0,none⟩)/\R b=some (r,s)/\ @den (Th.at ρ γ) e= .g (Gh.mem A)/\Ba w M/\M.m=r/\bg M A/\Wd A/\
   ∀w' e' M' A', @den (Th.at ρ γ) e'= .g (Gh.mem A')->Ba w' M'->M'.m=r->bg M' A'->Wd A'->(∀k,M'.own k->M.own k\/w.heap.size<=k)->Ea M.own w w'-> @Ic (Th.at ρ γ) B w0 R (σ.put b (some (.gh e'))) w':=by
 letI:Interp:=Th.at ρ γ
 obtain ⟨b,r,s,_,_,rfl,rfl,h1,h2,h3,_,_⟩:=Oz h hS hp;obtain ⟨A,hA⟩:=Wq (ρ:=ρ) (γ:=γ) h3;obtain ⟨g0,O0,k1,k2,k3,_,k4⟩:=hS.gat h1 h2;rw [hA]at k1;injection k1 with k1
 subst k1;obtain ⟨M,m1,m2,rfl,m4,m5⟩:=k2;refine ⟨b,r,s,A,M,rfl,rfl,h1,hA,m1,m2,m4,m5,fun w' e' M' A' q1 q2 q3 q4 q5 q6 q7=> ?_⟩;exact k4 w' e' (Gh.mem A') M'.own q1 ⟨M',q2,q3,rfl,q4,q5⟩ q6 (PC q7)
def xJ(A A':Rv):Prop:=(A'.ck<=0/\A'.wm<=0)\/(A.ck<=A'.ck/\A'.ck<=A.ck+1/\A.wm<=A'.wm/\A'.wm<=A.wm+1)
theorem Mg(A:Rv):xJ A Vv:= .inl ⟨Int.le_refl _,Int.le_refl _⟩
theorem Jt(A:Rv)(x:Acc)(nw:Int)(pu:Bool):xJ A (A.Oe x nw pu):=by
 obtain ⟨h1,h2,_⟩:=Pz A x nw pu;refine .inr ⟨?_, ?_, ?_, ?_⟩<;>omega
theorem bF(A:Rv)(t a:Int):xJ A (A.Ka t a):=by
 obtain ⟨h1,h2,_⟩:=Ex A t a;refine .inr ⟨?_, ?_, ?_, ?_⟩<;>omega
theorem cF(A:Rv)(t:Int):xJ A (A.Oa t):=by
 obtain ⟨h1,h2,h3⟩:=wJ A t;refine .inr ⟨?_, ?_, ?_, ?_⟩<;>omega
theorem Wi(k:Nat)(hk:k=1\/k=2\/k=3\/k=4\/k=5)(A:Rv)(l:List (tc Gh)):∃A',Yj k (.g (Gh.mem A)::l)= .mem A'/\xJ A A':=by
 rcases hk with rfl|rfl|rfl|rfl|rfl
 . match l with
   |[t,a]=>exact ⟨_,rfl,Jt A _ _ _⟩
   |[]=>exact ⟨_,rfl,Mg A⟩
   |[t]=>exact ⟨_,rfl,Mg A⟩
   |t::a::b::l=>exact ⟨_,rfl,Mg A⟩
 . match l with
   |[t,a,x]=>exact ⟨_,rfl,Jt A _ _ _⟩
   |[]=>exact ⟨_,rfl,Mg A⟩
   |[t]=>exact ⟨_,rfl,Mg A⟩
   |[t,a]=>exact ⟨_,rfl,Mg A⟩
   |t::a::b::c::l=>exact ⟨_,rfl,Mg A⟩
 . match l with
   |[t,a,x,y]=>exact ⟨_,rfl,Jt A _ _ _⟩
   |[]=>exact ⟨_,rfl,Mg A⟩
   |[t]=>exact ⟨_,rfl,Mg A⟩
   |[t,a]=>exact ⟨_,rfl,Mg A⟩
   |[t,a,x]=>exact ⟨_,rfl,Mg A⟩
   |t::a::b::c::d::l=>exact ⟨_,rfl,Mg A⟩
 . match l with
   |[t,a]=>exact ⟨_,rfl,bF A _ _⟩
   |[]=>exact ⟨_,rfl,Mg A⟩
   |[t]=>exact ⟨_,rfl,Mg A⟩
   |t::a::b::l=>exact ⟨_,rfl,Mg A⟩
 . match l with
   |[t]=>exact ⟨_,rfl,cF A _⟩
   |[]=>exact ⟨_,rfl,Mg A⟩
   |t::a::l=>exact ⟨_,rfl,Mg A⟩
theorem Qz:∀(d:Nat) (e:Value) (n:Nat) (r:Value),deep d e=some (n,r)->n<d/\∃A, @den (Th.at ρ γ) e= .g (Gh.mem A)/\((A.ck<=n/\A.wm<=n)\/∃A0, @den (Th.at ρ γ) r= .g (Gh.mem A0)/\A0.ck<=A.ck/\A.ck<=A0.ck+n/\A0.wm<=A.wm/\A.wm<=A0.wm+n)
 |0,e,n,r,h=>by simp [deep]at h
 |d+1,e,n,r,h=>by
  letI:Interp:=Th.at ρ γ
  simp only [deep]at h
  split at h
  . rename_i t s l c
    split at h
    . rename_i ht;rw [Ja]at ht;have ht:=of_decide_eq_true ht;subst ht;cases h;obtain ⟨A,hA⟩:=Wq (ρ:=ρ) (γ:=γ) (e:= .func (.methodOf 9 s) ⟨l⟩ c) rfl;exact ⟨by omega,A,hA, .inr ⟨A,hA,Int.le_refl _,by simp,Int.le_refl _,by simp⟩⟩
    . split at h
      . rename_i x l ht
        split at h
        . rename_i m r' hx;cases h;obtain ⟨h1,Ax,h2,h3⟩:=Qz d x m r hx;have tag:t=25\/t=41\/t=57\/t=73\/t=89:=by
           simp only [sj,Bool.or_eq_true,Ja,decide_eq_true_eq]at ht;exact ht
          have key:∃A', @den (Th.at ρ γ) (.func (.methodOf t s) ⟨x::l⟩ c)= .g (Gh.mem A')/\xJ Ax A':=by
           rcases tag with rfl|rfl|rfl|rfl|rfl
           . obtain ⟨A',q1,q2⟩:=Wi 1 (by omega) Ax (jc l);refine ⟨A', ?_,q2⟩;have e: @den (Th.at ρ γ) (.func (.methodOf 25 s) ⟨x::l⟩ c)=(tc.g (Gh.mem (Yj 1 (@den (Th.at ρ γ) x:: @jc (Th.at ρ γ) l)).A):tc Gh):=rfl;rw [h2]at e;exact e.trans (congrArg (fun g:Gh=>(tc.g (Gh.mem g.A):tc Gh)) q1)
           . obtain ⟨A',q1,q2⟩:=Wi 2 (by omega) Ax (jc l);refine ⟨A', ?_,q2⟩;have e: @den (Th.at ρ γ) (.func (.methodOf 41 s) ⟨x::l⟩ c)=(tc.g (Gh.mem (Yj 2 (@den (Th.at ρ γ) x:: @jc (Th.at ρ γ) l)).A):tc Gh):=rfl;rw [h2]at e;exact e.trans (congrArg (fun g:Gh=>(tc.g (Gh.mem g.A):tc Gh)) q1)
           . obtain ⟨A',q1,q2⟩:=Wi 3 (by omega) Ax (jc l);refine ⟨A', ?_,q2⟩;have e: @den (Th.at ρ γ) (.func (.methodOf 57 s) ⟨x::l⟩ c)=(tc.g (Gh.mem (Yj 3 (@den (Th.at ρ γ) x:: @jc (Th.at ρ γ) l)).A):tc Gh):=rfl;rw [h2]at e;exact e.trans (congrArg (fun g:Gh=>(tc.g (Gh.mem g.A):tc Gh)) q1)
           . obtain ⟨A',q1,q2⟩:=Wi 4 (by omega) Ax (jc l);refine ⟨A', ?_,q2⟩;have e: @den (Th.at ρ γ) (.func (.methodOf 73 s) ⟨x::l⟩ c)=(tc.g (Gh.mem (Yj 4 (@den (Th.at ρ γ) x:: @jc (Th.at ρ γ) l)).A):tc Gh):=rfl;rw [h2]at e;exact e.trans (congrArg (fun g:Gh=>(tc.g (Gh.mem g.A):tc Gh)) q1)
           . obtain ⟨A',q1,q2⟩:=Wi 5 (by omega) Ax (jc l);refine ⟨A', ?_,q2⟩;have e: @den (Th.at ρ γ) (.func (.methodOf 89 s) ⟨x::l⟩ c)=(tc.g (Gh.mem (Yj 5 (@den (Th.at ρ γ) x:: @jc (Th.at ρ γ) l)).A):tc Gh):=rfl;rw [h2]at e;exact e.trans (congrArg (fun g:Gh=>(tc.g (Gh.mem g.A):tc Gh)) q1)
          obtain ⟨A',k1,k2⟩:=key;refine ⟨by show m+1<d+1;omega,A',k1, ?_⟩;have em:((m.succ:Nat):Int)=(m:Int)+1:=rfl;rw [em];rcases k2 with⟨a1,a2⟩|⟨a1,a2,a3,a4⟩
          . exact .inl ⟨by omega,by omega⟩
          . rcases h3 with⟨b1,b2⟩|⟨A0,b0,b1,b2,b3,b4⟩
            . exact .inl ⟨by omega,by omega⟩
            . exact .inr ⟨A0,b0,by omega,by omega,by omega,by omega⟩
        . cases h
      . cases h
  . cases h
theorem Fh{F:List (Value×Value)}(hF:∀p,p∈F-> @den (Th.at ρ γ) p.1= @den (Th.at ρ γ) p.2){e:Value}(h:Jj F e=true){A:Rv}(hA: @den (Th.at ρ γ) e= .g (Gh.mem A))(hw:Wd A):A.ck<=999100/\A.wm<=999100:=by
 letI:Interp:=Th.at ρ γ
 unfold Jj at h
 split at h
 . rename_i n r hd
   split at h
   . rename_i k1 k2;obtain ⟨h1,A',h2,h3⟩:=Qz (ρ:=ρ) (γ:=γ) 30 e n r hd;rw [hA]at h2;injection h2 with h2
     injection h2 with h2
     subst h2;rcases h3 with⟨b1,b2⟩|⟨A0,b0,b1,b2,b3,b4⟩
     . omega
     . have d1:=Ge hF k1;have d2:=Ge hF k2;rw [IG (dCk b0) (mb 999000)]at d1;rw [IG (dWm b0) (mb 999000)]at d2;injection d1 with d1
       injection d1 with d1
       injection d2 with d2
       injection d2 with d2
       have d1:=of_decide_eq_true d1;have d2:=of_decide_eq_true d2;have c0:=hw.ak;have c1:=hw.ck;have c2:=hw.oM;have c3:=hw.wm;rw [IntKind.wrap_i64]at d1 d2;omega
   . cases h
 . cases h
end
end Sk
end Go.Proofs.YtfnkmolffhfpoaaGreat
