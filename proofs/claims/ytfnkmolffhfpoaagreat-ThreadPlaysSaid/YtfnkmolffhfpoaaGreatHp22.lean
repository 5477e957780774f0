/- -/
import Derived.Test.YtfnkmolffhfpoaaGreatHp21
import Derived.Test.YtfnkmolffhfpoaaGreatHp20
set_option linter.unusedVariables false
set_option linter.unusedSimpArgs false
set_option linter.unusedSectionVars false
namespace Go.Proofs.YtfnkmolffhfpoaaGreat
namespace Sk
open Go.RowKit
theorem gb{v:Value}{w:World}{P:Program}{f:FuncId}{a:Array Value}(h:Calls P f a w (Gc v w)):Calls P f a w (Fc v w):=h.mono fun e w' ⟨h1,h2⟩=>⟨h1,h2▸Below.refl _ _⟩
theorem qu{k:Nat}{ks:List Nat}{args:List Value}(h:Ql (k::ks) args=true):∃x l,args=x::l/\tc k x=true/\Ql ks l=true:=by
 cases args with
 |nil=>cases h
 |cons x l=>
  simp only [Ql]at h
  split at h
  . rename_i h1;exact ⟨x,l,rfl,h1,h⟩
  . cases h
theorem QL{args:List Value}(h:Ql [] args=true):args=[]:=by
 cases args with
 |nil=>rfl
 |cons x l=>cases h
section
variable[Interp][Wc]{P:Program}
theorem nh{f t:Nat}(h:∀x n,den x= .v (.int .u64 n)->ud n->∃v',den (sy t [x])= .v v'/\∀w,Calls P f #[.int .u64 n] w (Fc v' w)):Lc P f t [7]:=fun args args' R hk hl=>by
 obtain ⟨x,l,rfl,h1,h2⟩:=qu hk;cases QL h2;obtain ⟨x',l',rfl,hx,hl⟩:=hl.ya;cases hl.ic;obtain ⟨n,rfl,hd,hu⟩:=mu hx h1;exact h x n hd hu
theorem vD{f t:Nat}(h:∀x n y m,den x= .v (.int .i64 n)->(-9223372036854775808<=n/\n<=9223372036854775807)->den y= .v (.int .i64 m)->(-9223372036854775808<=m/\m<=9223372036854775807)->∃v',den (sy t [x,y])= .v v'/\∀w,Calls P f #[.int .i64 n, .int .i64 m] w (Fc v' w)):Lc P f t [3,3]:=fun args args' R hk hl=>by
 obtain ⟨x,l,rfl,h1,h2⟩:=qu hk;obtain ⟨y,l,rfl,h3,h4⟩:=qu h2;cases QL h4;obtain ⟨x',l',rfl,hx,hl⟩:=hl.ya;obtain ⟨y',l',rfl,hy,hl⟩:=hl.ya;cases hl.ic;obtain ⟨n,rfl,hd,hu⟩:=Te hx h1;obtain ⟨m,rfl,tO,AY⟩:=Te hy h3;exact h x n y m hd hu tO AY
theorem RT{f t:Nat}(h:∀x n y m,den x= .v (.int .i64 n)->(-9223372036854775808<=n/\n<=9223372036854775807)->den y= .v (.int .u32 m)->(0<=m/\m<4294967296)->∃v',den (sy t [x,y])= .v v'/\∀w,Calls P f #[.int .i64 n, .int .u32 m] w (Fc v' w)):Lc P f t [3,6]:=fun args args' R hk hl=>by
 obtain ⟨x,l,rfl,h1,h2⟩:=qu hk;obtain ⟨y,l,rfl,h3,h4⟩:=qu h2;cases QL h4;obtain ⟨x',l',rfl,hx,hl⟩:=hl.ya;obtain ⟨y',l',rfl,hy,hl⟩:=hl.ya;cases hl.ic;obtain ⟨n,rfl,hd,hu⟩:=Te hx h1;obtain ⟨m,rfl,tO,AY⟩:=PL hy h3;exact h x n y m hd hu tO AY
theorem RL{f t:Nat}(h:∀x n y b z m,den x= .v (.int .i64 n)->(-9223372036854775808<=n/\n<=9223372036854775807)->den y= .v (.bool b)->den z= .v (.int .u32 m)->(0<=m/\m<4294967296)->∃v',den (sy t [x,y,z])= .v v'/\∀w,Calls P f #[.int .i64 n, .bool b, .int .u32 m] w (Fc v' w)):Lc P f t [3,8,6]:=fun args args' R hk hl=>by
 obtain ⟨x,l,rfl,h1,h2⟩:=qu hk;obtain ⟨y,l,rfl,h3,h4⟩:=qu h2;obtain ⟨z,l,rfl,h5,h6⟩:=qu h4;cases QL h6;obtain ⟨x',l',rfl,hx,hl⟩:=hl.ya;obtain ⟨y',l',rfl,hy,hl⟩:=hl.ya;obtain ⟨z',l',rfl,hz,hl⟩:=hl.ya;cases hl.ic;obtain ⟨n,rfl,hd,hu⟩:=Te hx h1;obtain ⟨b,rfl,tO⟩:=vaq hy h3;obtain ⟨m,rfl,hd3,hu3⟩:=PL hz h5;exact h x n y b z m hd hu tO hd3 hu3
end
section
variable[Interp][Wc]
theorem waq:Lc Tryz.prog 120 uS [7]:=nh fun x n hx h=>⟨_,dTo hx h,fun w=>Rap n h w⟩
theorem xaq:Lc Tryz.prog 243 uS [7]:=nh fun x n hx h=>⟨_,dTo hx h,fun w=>gb (Mag n h w)⟩
theorem iaJ:Lc Tryz.prog 131 aZ [7]:=nh fun x n hx h=>⟨_,dBy hx h,fun w=>uaI n h w⟩
theorem yaq:Lc Tryz.prog 150 aZ [7]:=nh fun x n hx h=>⟨_,dBy hx h,fun w=>gb (Nag n h w)⟩
theorem zaq:Lc Tryz.prog 308 Tp [7]:=nh fun x n hx h=>⟨_,sJ hx h,fun w=>SS n h w⟩
theorem Aaq:Lc Tryz.prog 293 Tp [7]:=nh fun x n hx h=>⟨_,sJ hx h,fun w=>gb (xP n h w)⟩
theorem Baq:Lc Tryz.prog 309 CO [7]:=nh fun x n hx h=>⟨_,paq hx h,fun w=>gb (Xaf n h w)⟩
theorem Caq:Lc Tryz.prog 302 CO [7]:=nh fun x n hx h=>⟨_,paq hx h,fun w=>gb (PZ n h w)⟩
theorem Daq:Lc Tryz.prog 132 DO [7]:=nh fun x n hx h=>⟨_,Fag hx h,fun w=>gb (Waf n h w)⟩
theorem Eaq:Lc Tryz.prog 128 JI [7]:=nh fun x n hx h=>⟨_,Gag hx h,fun w=>Vaf n h w⟩
theorem Faq:Lc Tryz.prog 156 JI [7]:=nh fun x n hx h=>⟨_,Gag hx h,fun w=>gb (OZ n h w)⟩
theorem Gaq:Lc Tryz.prog 134 TA [7]:=nh fun x n hx h=>⟨_,E5 hx,fun w=>xZ n h w⟩
theorem Haq:Lc Tryz.prog 153 TA [7]:=nh fun x n hx h=>⟨_,E5 hx,fun w=>gb (NT n h w)⟩
theorem Iaq:Lc Tryz.prog 281 si [7]:=nh fun x n hx h=>⟨_,Ws hx,fun w=>gb (TS n w)⟩
theorem Jaq:Lc Tryz.prog 252 si [7]:=nh fun x n hx h=>⟨_,Ws hx,fun w=>gb (vP n h w)⟩
theorem Kaq:Lc Tryz.prog 217 ti [7]:=nh fun x n hx h=>⟨_,En hx,fun w=>gb (US n h w)⟩
theorem Laq:Lc Tryz.prog 251 ti [7]:=nh fun x n hx h=>⟨_,En hx,fun w=>gb (wP n h w)⟩
theorem Maq:Lc Tryz.prog 236 Ah [7]:=nh fun x n hx h=>⟨_,oB hx,fun w=>gb (yZ n h w)⟩
theorem Naq:Lc Tryz.prog 292 Ah [7]:=nh fun x n hx h=>⟨_,oB hx,fun w=>gb (sr n h w)⟩
theorem jaJ:Lc Tryz.prog 84 Tq [3,3]:=vD fun x n y m hx h hy k=>⟨_,sG hx hy,fun w=>Yaf n m w⟩
theorem Oaq:Lc Tryz.prog 161 Tq [3,3]:=vD fun x n y m hx h hy k=>⟨_,sG hx hy,fun w=>gb (OT n m h.1 h.2 k.1 k.2 w)⟩
theorem Paq:Lc Tryz.prog 224 Ls [3,3]:=vD fun x n y m hx h hy k=>⟨_,vT hx hy,fun w=>VS n m w⟩
theorem Qaq:Lc Tryz.prog 249 Ls [3,3]:=vD fun x n y m hx h hy k=>⟨_,vT hx hy,fun w=>gb (yP n m h.1 h.2 k.1 k.2 w)⟩
theorem Raq:Lc Tryz.prog 289 DF [3,6]:=RT fun x n y m hx h hy k=>⟨_,(Hag hx hy).trans (by rw [Nd (tG k.1 k.2)]),fun w=>Zaf n m k.1 k.2 w⟩
theorem Saq:Lc Tryz.prog 301 DF [3,6]:=RT fun x n y m hx h hy k=>⟨_,(Hag hx hy).trans (by rw [Nd (tG k.1 k.2)]),fun w=>gb (QZ n m h.1 h.2 k.1 k.2 w)⟩
theorem kaJ:Lc Tryz.prog 127 ep [3,8,6]:=RL fun x n y b z m hx h hy hz k=>⟨_,(uG hx hy hz).trans (by rw [Nd (Xs k.1 k.2)]),fun w=>aag n m b k.1 k.2 w⟩
theorem Taq:Lc Tryz.prog 155 ep [3,8,6]:=RL fun x n y b z m hx h hy hz k=>⟨_,(uG hx hy hz).trans (by rw [Nd (Xs k.1 k.2)]),fun w=>gb (PT n m b h.1 h.2 k.1 k.2 w)⟩
end
end Sk
end Go.Proofs.YtfnkmolffhfpoaaGreat
namespace Go.Proofs.YtfnkmolffhfpoaaGreat
open Go.RowKit Go.BigFrame
def Lv.thr(v:Lv)(t at_:Int):Int:=v.word t v.th v.pt 1 at_
theorem sB(l:Nat)(v:Lv)(s at_:Int)(a0:0<=at_)(a1:at_<=100)(w:World)(h:Nc w l v):
  Calls Tryz.prog 218 #[.pointer (some ⟨l,0,none⟩), .int .i64 s, .int .i64 at_] w (Sl (.int .i64 (v.thr s at_)) w):=by
 have HW:Hid (∀w,Nc w l v->Calls Tryz.prog 282 #[.pointer (some ⟨l,0,none⟩), .int .i64 s, .int .i64 v.th, .int .i64 v.pt, .int .i64 1, .int .i64 at_] w (Gc (.int .i64 (v.thr s at_)) w)):=Lib.hid fun w h=>
  kD l v s v.th v.pt 1 at_ (by have:=h.ok.YS;omega) h.ok.zZ (by have:=h.ok.pt1;omega) (by omega) (by omega) a0 a1 w h
 have HL:=Lib.hid h;obtain ⟨l0,l1,l2,l3,l4,l5,l6,l7,l8,lf⟩:=eB h.row;clear h;generalize v.thr s at_=r at*;generalize v.th=sl at*;generalize v.pt=ps at*
 go_enter Tryz.func218,Tryz.ntmps218
 go_wp2_with fail
 go_quiet ((go_at_call 282;exact Calls.quiet_of_same (HW.out _ (HL.out.keep rfl))))
 go_wp2_with fail
 go_ret
 exact ⟨rfl,_,rfl⟩
theorem RZ(l:Nat)(v:Lv)(s:Int)(w:World)(h:Nc w l v):Calls Tryz.prog 126 #[.pointer (some ⟨l,0,none⟩), .int .i64 s] w (Sl (.int .i64 (v.thr s 0)) w):=by
 have HS:=Lib.hid (sB l v s 0 (by omega) (by omega) w h);clear h
 go_enter Tryz.func126,Tryz.ntmps126
 go_wp2_with fail
 refine HS.out.mono ?_
 rintro e w1 ⟨rfl,n,rfl⟩
 go_wp2_with fail
 go_ret
 exact ⟨rfl,n,rfl⟩
theorem zP(l:Nat)(v:Lv)(s:Int)(w:World)(h:Nc w l v):Calls Tryz.prog 124 #[.pointer (some ⟨l,0,none⟩), .int .i64 s] w (Sl (.int .i64 (v.thr s 1)) w):=by
 have HS:=Lib.hid (sB l v s 1 (by omega) (by omega) w h);clear h
 go_enter Tryz.func124,Tryz.ntmps124
 go_wp2_with fail
 refine HS.out.mono ?_
 rintro e w1 ⟨rfl,n,rfl⟩
 go_wp2_with fail
 go_ret
 exact ⟨rfl,n,rfl⟩
def Lv.log(v:Lv)(t n:Int):Int:=if hasB n v.lo then v.word t v.th v.pl v.ls n else v.ln*8
theorem Oag(l:Nat)(v:Lv)(t n:Int)(w:World)(h:Nc w l v):Calls Tryz.prog 223 #[.pointer (some ⟨l,0,none⟩), .int .i64 t, .int .i64 n] w (Fc (.int .i64 (v.log t n)) w):=by
 have HA:=Lib.hid fun w=>Ts n v.lo w
 have HN:=Lib.hid fun w h=>Jo l v w h
 have HE:Hid (v.log t n=if hasB n v.lo then v.word t v.th v.pl v.ls n else v.ln*8):=Lib.hid rfl;have HW:Hid (hasB n v.lo=true->∀w,Nc w l v->Calls Tryz.prog 282 #[.pointer (some ⟨l,0,none⟩), .int .i64 t, .int .i64 v.th, .int .i64 v.pl, .int .i64 v.ls, .int .i64 n] w (Gc (.int .i64 (v.word t v.th v.pl v.ls n)) w)):=Lib.hid fun hb w h=>
  kD l v t v.th v.pl v.ls n (by have:=h.ok.YS;omega) h.ok.R4 (by have:=h.ok.pl1;omega) h.ok.S4 h.ok.T4 (Ik hb).1 (by have:=(Ik hb).2;have:=h.ok.lo1;omega) w h
 have HL:=Lib.hid h;have n0:=h.ok.iP;have n1:=h.ok.jP;obtain ⟨l0,l1,l2,l3,l4,l5,l6,l7,l8,lf⟩:=eB h.row;clear h;generalize v.log t n=r at*;generalize v.word t v.th v.pl v.ls n=x at*;generalize hasB n v.lo=y at*;generalize v.th=th at*;generalize v.pl=pl at*;generalize v.ls=ls at*;generalize v.lo=lo at*;generalize v.ln=ln at*;cases y with
 |true=>
  have HW2:=Lib.hid (HW.out rfl)
  go_enter Tryz.func223,Tryz.ntmps223
  go_wp2_with fail
  refine (HA.out _).mono ?_
  rintro e w2 ⟨rfl,rfl⟩
  go_wp2_with fail
  go_quiet ((go_at_call 282;exact Calls.quiet_of_same (HW2.out _ (HL.out.keep rfl))))
  go_wp2_with fail
  go_ret
  exact ⟨Ta HE.out.symm,xb (Below.refl _ _) _⟩
 |false=>
  go_enter Tryz.func223,Tryz.ntmps223
  go_wp2_with fail
  refine (HA.out _).mono ?_
  rintro e w2 ⟨rfl,rfl⟩
  go_wp2_with fail
  refine (HN.out _ HL.out).mono ?_
  rintro e w2 ⟨rfl,rfl⟩
  go_wp2_with fail
  go_ret
  exact ⟨Ta HE.out.symm,Below.refl _ _⟩
theorem Vaq(a b c d:Value)(w:World):(Instr.field 23 (.agg #[a,b,c,d]) 0).run Tryz.prog w= .ok a w:=by kernel_rfl
theorem Waq(a b c d:Value)(w:World):(Instr.field 23 (.agg #[a,b,c,d]) 1).run Tryz.prog w= .ok b w:=by kernel_rfl
theorem SL(l:Nat)(n:Int)(n0:0<=n)(n1:n<=1000000)(w:World):Calls Tryz.prog 262 #[.pointer (some ⟨l,0,none⟩), .int .i64 n] w (Gc (.int .i64 (-1 -n)) w):=by
 go_enter Tryz.func262,Tryz.ntmps262
 go_wp2_with fail
 go_ret
 exact ⟨rfl,rfl⟩
def Lv.Jx(v:Lv)(n:Int):Int:=if hasB n v.th then-3 -n else v.ln*8
set_option maxRecDepth 100000 in
theorem zG(l:Nat)(v:Lv)(n:Int)(w:World)(h:Nc w l v):Calls Tryz.prog 182 #[.pointer (some ⟨l,0,none⟩), .int .i64 n] w (Fc (.int .i64 (v.Jx n)) w):=by
 have HC:=Lib.hid fun w h=>Dn l v w h
 have HL:=Lib.hid fun w h=>Jo l v w h
 have FD:=fun a b c d w=>Vaq a b c d w
 have HH:=Lib.hid fun w=>Ts n v.th w
 have HW:=Lib.hid h;have HN:=Lib.hid fun n h0 h1 w=>SL l n h0 h1 w
 have Vg:=h.ok;have b0:=Vg.gJ;have b1:=Vg.YS;have c0:=Vg.gJ;have c1:=Vg.YS;have l0:=Vg.iP;have l1:=Vg.jP;have HE:Hid (v.Jx n=if hasB n v.th then-3 -n else v.ln*8):=Lib.hid rfl;have HY:Hid (hasB n v.th=true->0<=n/\n<v.th):=Lib.hid Ik;clear h Vg;generalize v.Jx n=r at*;generalize hasB n v.th=y at*;cases y with
 |true=>
  obtain ⟨n0,n1⟩:=HY.out rfl;clear HY
  go_enter Tryz.func182,Tryz.ntmps182
  go_wp2_with fail
  refine (HC.out _ HW.out).mono ?_
  rintro e w1 ⟨rfl,hb⟩;have HB:=Lib.hid hb;clear hb
  go_wp2_with fail
  refine (HH.out _).mono ?_
  rintro e w2 ⟨rfl,rfl⟩
  go_wp2_with fail
  refine (HN.out _ (by omega) (by omega) _).mono ?_
  rintro e w2 ⟨rfl,rfl⟩
  go_wp2_with fail
  go_ret
  exact ⟨Ta (by rw [HE.out,if_pos trivial];omega),HB.out⟩
 |false=>
  clear HY
  go_enter Tryz.func182,Tryz.ntmps182
  go_wp2_with fail
  refine (HC.out _ HW.out).mono ?_
  rintro e w1 ⟨rfl,hb⟩;have HB:=Lib.hid hb;clear hb
  go_wp2_with fail
  refine (HH.out _).mono ?_
  rintro e w2 ⟨rfl,rfl⟩
  go_wp2_with fail
  refine (HL.out _ (HW.out.keep (HB.out.block l HW.out.lt))).mono ?_
  rintro e w2 ⟨rfl,rfl⟩
  go_wp2_with fail
  go_ret
  exact ⟨Ta (by rw [HE.out];simp),HB.out⟩
def Lv.after(v:Lv)(n:Int):Int:=if hasB n v.sl then-3 -v.th -n else v.ln*8
set_option maxRecDepth 100000 in
theorem TT(l:Nat)(v:Lv)(n:Int)(w:World)(h:Nc w l v):Calls Tryz.prog 288 #[.pointer (some ⟨l,0,none⟩), .int .i64 n] w (Fc (.int .i64 (v.after n)) w):=by
 have HC:=Lib.hid fun w h=>Dn l v w h
 have HL:=Lib.hid fun w h=>Jo l v w h
 have FD:=fun a b c d w=>Waq a b c d w
 have HH:=Lib.hid fun w=>Ts n v.sl w
 have HW:=Lib.hid h;have HN:=Lib.hid fun n h0 h1 w=>SL l n h0 h1 w
 have Vg:=h.ok;have b0:=Vg.gP;have b1:=Vg.P4;have c0:=Vg.gJ;have c1:=Vg.YS;have l0:=Vg.iP;have l1:=Vg.jP;have HE:Hid (v.after n=if hasB n v.sl then-3 -v.th -n else v.ln*8):=Lib.hid rfl;have HY:Hid (hasB n v.sl=true->0<=n/\n<v.sl):=Lib.hid Ik;clear h Vg;generalize v.after n=r at*;generalize hasB n v.sl=y at*;cases y with
 |true=>
  obtain ⟨n0,n1⟩:=HY.out rfl;clear HY
  go_enter Tryz.func288,Tryz.ntmps288
  go_wp2_with fail
  refine (HC.out _ HW.out).mono ?_
  rintro e w1 ⟨rfl,hb⟩;have HB:=Lib.hid hb;clear hb
  go_wp2_with fail
  refine (HH.out _).mono ?_
  rintro e w2 ⟨rfl,rfl⟩;obtain ⟨q0,q1,q2,q3,q4,q5,q6,q7,q8,qf⟩:=eB (HW.out.keep (HB.out.block l HW.out.lt)).row
  go_wp2_with fail
  refine (HN.out _ (by omega) (by omega) _).mono ?_
  rintro e w2 ⟨rfl,rfl⟩
  go_wp2_with fail
  go_ret
  exact ⟨Ta (by rw [HE.out,if_pos trivial];omega),HB.out⟩
 |false=>
  clear HY
  go_enter Tryz.func288,Tryz.ntmps288
  go_wp2_with fail
  refine (HC.out _ HW.out).mono ?_
  rintro e w1 ⟨rfl,hb⟩;have HB:=Lib.hid hb;clear hb
  go_wp2_with fail
  refine (HH.out _).mono ?_
  rintro e w2 ⟨rfl,rfl⟩
  go_wp2_with fail
  refine (HL.out _ (HW.out.keep (HB.out.block l HW.out.lt))).mono ?_
  rintro e w2 ⟨rfl,rfl⟩
  go_wp2_with fail
  go_ret
  exact ⟨Ta (by rw [HE.out];simp),HB.out⟩
end Go.Proofs.YtfnkmolffhfpoaaGreat
namespace Go.Proofs.YtfnkmolffhfpoaaGreat
open Go.RowKit
theorem Mo(x y:Nm)(t:List Nm)(i:Nat):Tb x (y::t) i=if y=x then some i else Tb x t (i+1):=rfl
theorem Kx(x:Nm):∀(l:List Nm) (i:Nat),Tb x l i=(Tb x l 0).map (i+·)
 |[],i=>rfl
 |y::t,i=>by
  unfold Tb;by_cases h:y=x
  . rw [if_pos h,if_pos h];simp
  . rw [if_neg h,if_neg h,Kx x t (i+1),Kx x t (0+1)];cases Tb x t 0 with
    |none=>rfl
    |some j=>simp;omega
theorem Gn(x:Nm):∀(l m:List Nm) (i:Nat),Tb x (l++m) i=match Tb x l i with|some j=>some j|none=>Tb x m (i+l.length)
 |[],m,i=>by simp [Tb]
 |y::t,m,i=>by
  rw [List.cons_append,Mo,Mo];by_cases h:y=x
  . rw [if_pos h,if_pos h]
  . rw [if_neg h,if_neg h,Gn x t m (i+1)];rw [show i+1+t.length=i+(y::t).length by simp;omega]
theorem Ig(x:Nm)(l:List Nm)(i:Nat)(h:∀y,y∈l->y.1≠x.1):Tb x l i=none:=by
 refine Lo x l i fun k hk e=> ?_
 exact h x (List.mem_of_getElem? e) rfl
theorem me{x:Nm}{l m:List Nm}{i j:Nat}(h:Tb x l i=some j):Tb x (l++m) i=some j:=by rw [Gn,h]
theorem Fb{x:Nm}{l m:List Nm}{i:Nat}(h:Tb x l i=none):Tb x (l++m) i=Tb x m (i+l.length):=by rw [Gn,h]
theorem ur(f:Nat->List Nm)(m:Nat)(hm:∀t,(f t).length=m):∀k,((List.range k).flatMap f).length=m*k
 |0=>by simp
 |k+1=>by rw [List.range_succ,List.flatMap_append,List.length_append,ur f m hm k];simp [hm,Nat.mul_succ]
theorem Ff(x:Nm)(f:Nat->List Nm)(h:∀t j,Tb x (f t) j=none):∀(k i:Nat),Tb x ((List.range k).flatMap f) i=none
 |0,i=>rfl
 |k+1,i=>by
  rw [List.range_succ,List.flatMap_append,Fb (Ff x f h k i)];simp [h]
theorem Hh(x:Nm)(f:Nat->List Nm)(m t0 q:Nat)(hm:∀t,(f t).length=m)(h1:∀j,Tb x (f t0) j=some (j+q))(h2:∀t,t≠t0->∀j,Tb x (f t) j=none):∀(k i:Nat),Tb x ((List.range k).flatMap f) i=if t0<k then some (i+m*t0+q)else none
 |0,i=>by simp [Tb]
 |k+1,i=>by
  have ih:=Hh x f m t0 q hm h1 h2 k i;rw [List.range_succ,List.flatMap_append];by_cases h:t0<k
  . rw [if_pos h]at ih;rw [me ih,if_pos (by omega)]
  . rw [if_neg h]at ih;rw [Fb ih,ur f m hm];simp only [List.flatMap_cons,List.flatMap_nil,List.append_nil];by_cases e:t0=k
    . subst e;rw [h1,if_pos (by omega)]
    . rw [h2 k (fun q=>e q.symm),if_neg (by omega)]
theorem Yl(x:Nm)(n i:Nat)(h:x.1≠0):Tb x (te n) i=none:=
 Ig x _ i fun y hy=>by
  unfold te at hy;rw [(List.mem_replicate.1 hy).2];exact fun e=>h e.symm
theorem vJ(kind:Int)(k:Nat):fe kind k=(List.range k).flatMap fun(i:Nat)=>[(kind,(i:Int),0)]:=by
 unfold fe;rw [List.map_eq_flatMap]
theorem oh(x y:Nm)(j:Nat):Tb x [y] j=if y=x then some j else none:=by unfold Tb;rfl
theorem Ys(kind a b:Int)(k i:Nat):Tb (kind,a,b) (fe kind k) i=if b=0/\0<=a/\a<k then some (i+a.toNat)else none:=by
 rw [vJ];by_cases h:b=0/\0<=a
 . obtain ⟨rfl,ha⟩:=h;obtain ⟨t0,rfl⟩:=Int.eq_ofNat_of_zero_le ha;rw [Hh _ _ 1 t0 0 (fun t=>rfl) (fun j=>by rw [oh,if_pos rfl];rfl) (fun t ht j=>by
    rw [oh,if_neg];intro e;simp only [Prod.mk.injEq]at e;omega)]
   by_cases hk:t0<k
   . rw [if_pos hk,if_pos ⟨rfl,ha,by omega⟩];simp
   . rw [if_neg hk,if_neg (fun q=>hk (by have:=q.2.2;omega))]
 . rw [Ff,if_neg (fun q=>h ⟨q.1,q.2.1⟩)];intro t j;rw [oh,if_neg];intro e;simp only [Prod.mk.injEq]at e;exact h ⟨e.2.2.symm,by omega⟩
def tB(t:Nat):List Nm:=[((6:Int),(t:Int),(0:Int)),(7,t,0)]++te 6
theorem yd(k:Nat):Ra k=(List.range k).flatMap tB:=rfl
theorem Lx(x y z:Nm)(l:List Nm)(j:Nat):Tb x ([y,z]++l) j=if y=x then some j else if z=x then some (j+1)else Tb x l (j+2):=by
 show Tb x (y::z::l) j=_
 rw [Mo,Mo]
theorem wJ(q:Nat)(hq:q<2)(a b:Int)(k i:Nat):Tb (6+(q:Int),a,b) (Ra k) i=if b=0/\0<=a/\a<k then some (i+8*a.toNat+q)else none:=by
 rw [yd];have hz:∀(t j:Nat),Tb (6+(q:Int),a,b) (te 6) j=none:=fun t j=>Yl _ _ _ (by show(6+(q:Int))≠0;omega)
 by_cases h:b=0/\0<=a
 . obtain ⟨rfl,ha⟩:=h;obtain ⟨t0,rfl⟩:=Int.eq_ofNat_of_zero_le ha;rw [Hh _ _ 8 t0 q (fun t=>rfl) (fun j=>by
    unfold tB;rw [Lx]
    match q,hq with
    |0,_=>rw [if_pos (by rfl)];rfl
    |1,_=>rw [if_neg (by simp),if_pos (by rfl)]) (fun t ht j=>by
    unfold tB;rw [Lx,if_neg,if_neg,hz t]
    . intro e;simp only [Prod.mk.injEq]at e;omega
    . intro e;simp only [Prod.mk.injEq]at e;omega)]
   by_cases hk:t0<k
   . rw [if_pos hk,if_pos ⟨rfl,ha,by omega⟩];simp
   . rw [if_neg hk,if_neg (fun q=>hk (by have:=q.2.2;omega))]
 . rw [Ff,if_neg (fun q=>h ⟨q.1,q.2.1⟩)];intro t j;unfold tB;rw [Lx,if_neg,if_neg,hz t]
   . intro e;simp only [Prod.mk.injEq]at e;exact h ⟨e.2.2.symm,by omega⟩
   . intro e;simp only [Prod.mk.injEq]at e;exact h ⟨e.2.2.symm,by omega⟩
theorem UT(t0:Nat)(a b:Int)(k i:Nat):Tb (8,a,b) (To t0 k) i=if a=t0/\0<=b/\b<k then some (i+b.toNat)else none:=by
 have e:To t0 k=(List.range k).flatMap fun(i:Nat)=>[((8:Int),(t0:Int),(i:Int))]:=by unfold To;rw [List.map_eq_flatMap]
 rw [e];by_cases h:a=t0/\0<=b
 . obtain ⟨rfl,hb⟩:=h;obtain ⟨n,rfl⟩:=Int.eq_ofNat_of_zero_le hb;rw [Hh _ _ 1 n 0 (fun t=>rfl) (fun j=>by rw [oh,if_pos rfl];rfl) (fun t ht j=>by
    rw [oh,if_neg];intro e;simp only [Prod.mk.injEq]at e;omega)]
   by_cases hk:n<k
   . rw [if_pos hk,if_pos ⟨rfl,hb,by omega⟩];simp
   . rw [if_neg hk,if_neg (fun q=>hk (by have:=q.2.2;omega))]
 . rw [Ff,if_neg (fun q=>h ⟨q.1,q.2.1⟩)];intro t j;rw [oh,if_neg];intro e;simp only [Prod.mk.injEq]at e;exact h ⟨e.2.1.symm,by omega⟩
theorem VT(t k:Nat):(To t k).length=k:=by unfold To;simp
theorem Wp(k:Nat):(te k).length=k:=by unfold te;simp
def xJ(ib t:Nat):List Nm:=To t ib++te (Vd ib -ib)
theorem AG(ib k:Nat):cj ib k=(List.range k).flatMap (xJ ib):=rfl
theorem WT(n:Nat):n<=Vd n:=by unfold Vd;omega
theorem BG(ib t:Nat):(xJ ib t).length=Vd ib:=by
 unfold xJ;rw [List.length_append,VT,Wp];have:=WT ib;omega
theorem Zs(ib t:Nat)(a b:Int)(j:Nat):Tb (8,a,b) (xJ ib t) j=if a=t/\0<=b/\b<ib then some (j+b.toNat)else none:=by
 unfold xJ;have h1:=UT t a b ib j;by_cases h:a=t/\0<=b/\b<ib
 . rw [if_pos h]at h1⊢;exact me h1
 . rw [if_neg h]at h1⊢;rw [Fb h1];exact Yl _ _ _ (by show(8:Int)≠0;omega)
theorem AP(a b:Int)(ib k i:Nat):Tb (8,a,b) (cj ib k) i=if(0<=b/\b<ib)/\0<=a/\a<k then some (i+Vd ib*a.toNat+b.toNat)else none:=by
 rw [AG];by_cases h:(0<=b/\b<ib)/\0<=a
 . obtain ⟨hb,ha⟩:=h;obtain ⟨t0,rfl⟩:=Int.eq_ofNat_of_zero_le ha;rw [Hh _ _ (Vd ib) t0 b.toNat (fun t=>BG _ _) (fun j=>by rw [Zs,if_pos ⟨rfl,hb⟩]) (fun t ht j=>by
    rw [Zs,if_neg];intro e;omega)]
   by_cases hk:t0<k
   . rw [if_pos hk,if_pos ⟨hb,ha,by omega⟩];simp
   . rw [if_neg hk,if_neg (fun q=>hk (by have:=q.2.2;omega))]
 . rw [Ff,if_neg (fun q=>h ⟨q.1,q.2.1⟩)];intro t j;rw [Zs,if_neg];intro e;exact h ⟨e.2,by omega⟩
def CG(s:Nat):List Nm:=Ei s 5++te 3
theorem uB(k:Nat):mh k=(List.range k).flatMap CG:=rfl
theorem BP(t k:Nat):(Ei t k).length=k:=by unfold Ei;simp
theorem CP(q s k:Nat)(a b:Int)(i:Nat):Tb (9+(q:Int),a,b) (Ei s k) i=if b=0/\a=s/\q<k then some (i+q)else none:=by
 have e:Ei s k=(List.range k).flatMap fun(i:Nat)=>[(9+(i:Int),(s:Int),(0:Int))]:=by unfold Ei;rw [List.map_eq_flatMap]
 rw [e];by_cases h:b=0/\a=s
 . obtain ⟨rfl,rfl⟩:=h;rw [Hh _ _ 1 q 0 (fun t=>rfl) (fun j=>by rw [oh,if_pos rfl];rfl) (fun t ht j=>by
    rw [oh,if_neg];intro e;simp only [Prod.mk.injEq]at e;omega)]
   by_cases hk:q<k
   . rw [if_pos hk,if_pos ⟨rfl,rfl,hk⟩];simp
   . rw [if_neg hk,if_neg (fun q=>hk q.2.2)]
 . rw [Ff,if_neg (fun q=>h ⟨q.1,q.2.1⟩)];intro t j;rw [oh,if_neg];intro e;simp only [Prod.mk.injEq]at e;exact h ⟨e.2.2.symm,by omega⟩
theorem Xp(q s:Nat)(hq:q<5)(a b:Int)(j:Nat):Tb (9+(q:Int),a,b) (CG s) j=if b=0/\a=s then some (j+q)else none:=by
 unfold CG;have h1:=CP q s 5 a b j;by_cases h:b=0/\a=s
 . rw [if_pos ⟨h.1,h.2,hq⟩]at h1;rw [if_pos h];exact me h1
 . rw [if_neg (fun q=>h ⟨q.1,q.2.1⟩)]at h1;rw [if_neg h,Fb h1];exact Yl _ _ _ (by show(9+(q:Int))≠0;omega)
theorem yJ(q:Nat)(hq:q<5)(a b:Int)(k i:Nat):Tb (9+(q:Int),a,b) (mh k) i=if b=0/\0<=a/\a<k then some (i+8*a.toNat+q)else none:=by
 rw [uB];by_cases h:b=0/\0<=a
 . obtain ⟨rfl,ha⟩:=h;obtain ⟨t0,rfl⟩:=Int.eq_ofNat_of_zero_le ha;rw [Hh _ _ 8 t0 q (fun t=>by unfold CG;rw [List.length_append,BP,Wp]) (fun j=>by rw [Xp q t0 hq,if_pos ⟨rfl,rfl⟩]) (fun t ht j=>by
    rw [Xp q t hq,if_neg];intro e;omega)]
   by_cases hk:t0<k
   . rw [if_pos hk,if_pos ⟨rfl,ha,by omega⟩];simp
   . rw [if_neg hk,if_neg (fun q=>hk (by have:=q.2.2;omega))]
 . rw [Ff,if_neg (fun q=>h ⟨q.1,q.2.1⟩)];intro t j;rw [Xp q t hq,if_neg];intro e;exact h ⟨e.1,by omega⟩
theorem DG:∀y,y∈Lg->y.1<=4:=by decide
theorem Mx:Lg.length=40:=by decide
theorem vB(kind:Int)(k:Nat):(fe kind k).length=k:=by unfold fe;simp
theorem Kk{kind:Int}{k:Nat}{y:Nm}(h:y∈fe kind k):y.1=kind:=by
 unfold fe at h;obtain ⟨i,_,rfl⟩:=List.mem_map.1 h
 rfl
theorem Zl{k:Nat}{y:Nm}(h:y∈te k):y.1=0:=by
 unfold te at h;rw [(List.mem_replicate.1 h).2]
theorem Nx{k:Nat}{y:Nm}(h:y∈Ra k):y.1=6\/y.1=7\/y.1=0:=by
 rw [yd]at h;obtain ⟨t,_,h⟩:=List.mem_flatMap.1 h
 unfold tB at h;rcases List.mem_append.1 h with h|h
 . simp only [List.mem_cons,List.not_mem_nil,or_false]at h;rcases h with rfl|rfl
   . exact .inl rfl
   . exact .inr (.inl rfl)
 . exact .inr (.inr (Zl h))
theorem DP{ib k:Nat}{y:Nm}(h:y∈cj ib k):y.1=8\/y.1=0:=by
 rw [AG]at h;obtain ⟨t,_,h⟩:=List.mem_flatMap.1 h
 unfold xJ at h;rcases List.mem_append.1 h with h|h
 . unfold To at h;obtain ⟨i,_,rfl⟩:=List.mem_map.1 h
   exact .inl rfl
 . exact .inr (Zl h)
theorem zJ{k:Nat}{y:Nm}(h:y∈mh k):(9<=y.1/\y.1<=13)\/y.1=0:=by
 rw [uB]at h;obtain ⟨t,_,h⟩:=List.mem_flatMap.1 h
 unfold CG at h;rcases List.mem_append.1 h with h|h
 . unfold Ei at h;obtain ⟨i,hi,rfl⟩:=List.mem_map.1 h
   have:=List.mem_range.1 hi
   exact .inl ⟨by show(9:Int)<=9+(i:Int);omega,by show 9+(i:Int)<=13;omega⟩
 . exact .inr (Zl h)
theorem Ox(k:Nat):(Ra k).length=8*k:=ur tB 8 (fun t=>rfl) k
theorem EP(ib k:Nat):(cj ib k).length=Vd ib*k:=ur (xJ ib) (Vd ib) (fun t=>BG ib t) k
theorem AJ(bu:Nat):(ld (40+bu) (Lg++fe 5 bu)).length=Vd (40+bu):=by
 unfold ld;rw [List.length_append,List.length_append,Mx,vB,Wp];have:=WT (40+bu);omega
theorem BJ{bu:Nat}{y:Nm}(h:y∈ld (40+bu) (Lg++fe 5 bu)):y.1<=5:=by
 unfold ld at h;rcases List.mem_append.1 h with h|h
 . rcases List.mem_append.1 h with h|h
   . have:=DG y h;omega
   . rw [Kk h];exact Int.le_refl _
 . rw [Zl h];decide
theorem CJ(a b:Int)(bu i:Nat):Tb (5,a,b) (ld (40+bu) (Lg++fe 5 bu)) i=if b=0/\0<=a/\a<bu then some (i+40+a.toNat)else none:=by
 unfold ld;have h0:Tb (5,a,b) Lg i=none:=Ig _ _ _ fun y hy e=>by have:=DG y hy;have e:y.1=5:=e;omega
 have h1:Tb (5,a,b) (Lg++fe 5 bu) i=if b=0/\0<=a/\a<bu then some (i+40+a.toNat)else none:=by
  rw [Fb h0,Mx,Ys]
 by_cases h:b=0/\0<=a/\a<bu
 . rw [if_pos h]at h1⊢;exact me h1
 . rw [if_neg h]at h1⊢;rw [Fb h1];exact Yl _ _ _ (by show(5:Int)≠0;omega)
end Go.Proofs.YtfnkmolffhfpoaaGreat
namespace Go.Proofs.YtfnkmolffhfpoaaGreat
open Go.RowKit
open Sk (Xh jB)
theorem Oh{th sl ib bu:Nat}{k a b:Int}(h:6<=k)(i:Nat):Tb (k,a,b) (Ud th sl ib bu) 0=Tb (k,a,b) (Ra th++(cj ib th++mh sl)) (Vd (40+bu)):=by
 have h0:Tb (k,a,b) (ld (40+bu) (Lg++fe 5 bu)) 0=none:=Ig _ _ _ fun y hy e=>by have:=BJ hy;have e:y.1=k:=e;omega
 unfold Ud;rw [List.append_assoc,List.append_assoc,Fb h0,AJ,Nat.zero_add]
theorem Px{th:Nat}{k a b:Int}(h:8<=k)(i:Nat):Tb (k,a,b) (Ra th) i=none:=
 Ig _ _ _ fun y hy e=>by have e:y.1=k:=e;rcases Nx hy with q|q|q<;>omega
theorem Bv{ib th:Nat}{k a b:Int}(h0:k≠0)(h:k≠8)(i:Nat):Tb (k,a,b) (cj ib th) i=none:=
 Ig _ _ _ fun y hy e=>by have e:y.1=k:=e;rcases DP hy with q|q<;>omega
theorem yr{sl:Nat}{k a b:Int}(h0:k≠0)(h:k<9\/13<k)(i:Nat):Tb (k,a,b) (mh sl) i=none:=
 Ig _ _ _ fun y hy e=>by have e:y.1=k:=e;rcases zJ hy with q|q<;>omega
theorem SZ{th sl:Nat}{k a b:Int}(h:k<=13)(i:Nat):Tb (k,a,b) (Dg th sl) i=none:=by
 refine Ig _ _ _ fun y hy e=> ?_
 have e:y.1=k:=e
 unfold Dg at hy;rcases List.mem_append.1 hy with hy|hy
 . rcases List.mem_append.1 hy with hy|hy
   . simp only [List.mem_cons,List.not_mem_nil,or_false]at hy;rcases hy with rfl|rfl
     . have:(14:Int)=k:=e;omega
     . have:(15:Int)=k:=e;omega
   . rw [Kk hy]at e;omega
 . rw [Kk hy]at e;omega
theorem F5(th sl ib bu:Nat)(a b:Int):Tb (5,a,b) (Ud th sl ib bu) 0=if b=0/\0<=a/\a<bu then some (40+a.toNat)else none:=by
 unfold Ud;rw [List.append_assoc,List.append_assoc];have h1:=CJ a b bu 0;rw [Nat.zero_add]at h1;by_cases h:b=0/\0<=a/\a<bu
 . rw [if_pos h]at h1⊢;exact me h1
 . rw [if_neg h]at h1⊢;rw [Fb h1,Fb (Ig _ _ _ fun y hy e=>by have e:y.1=5:=e;rcases Nx hy with q|q|q<;>omega),Fb (Bv (by omega) (by omega) _)];exact yr (by omega) (by omega) _
theorem XT(th sl ib bu q:Nat)(hq:q<2)(a b:Int):Tb (6+(q:Int),a,b) (Ud th sl ib bu) 0=if b=0/\0<=a/\a<th then some (Vd (40+bu)+8*a.toNat+q)else none:=by
 rw [Oh (by omega) 0];have h1:=wJ q hq a b th (Vd (40+bu));by_cases h:b=0/\0<=a/\a<th
 . rw [if_pos h]at h1⊢;exact me h1
 . rw [if_neg h]at h1⊢;rw [Fb h1,Fb (Bv (by omega) (by omega) _)];exact yr (by omega) (by omega) _
theorem Xaq(th sl ib bu:Nat)(a b:Int):Tb (8,a,b) (Ud th sl ib bu) 0=if(0<=b/\b<ib)/\0<=a/\a<th then some (Vd (40+bu)+8*th+Vd ib*a.toNat+b.toNat)else none:=by
 rw [Oh (by omega) 0,Fb (Px (by omega) _),Ox];have h1:=AP a b ib th (Vd (40+bu)+8*th);by_cases h:(0<=b/\b<ib)/\0<=a/\a<th
 . rw [if_pos h]at h1⊢;exact me h1
 . rw [if_neg h]at h1⊢;rw [Fb h1];exact yr (by omega) (by omega) _
theorem G5(th sl ib bu q:Nat)(hq:q<5)(a b:Int):Tb (9+(q:Int),a,b) (Ud th sl ib bu) 0=if b=0/\0<=a/\a<sl then some (Vd (40+bu)+8*th+Vd ib*th+8*a.toNat+q)else none:=by
 rw [Oh (by omega) 0,Fb (Px (by omega) _),Ox,Fb (Bv (by omega) (by omega) _),EP,yJ q hq]
theorem YT(th sl ib bu:Nat)(k a b:Int)(hk:14<=k):Tb (k,a,b) (Ud th sl ib bu) 0=none:=by
 rw [Oh (by omega) 0,Fb (Px (by omega) _),Fb (Bv (by omega) (by omega) _)];exact yr (by omega) (by omega) _
theorem Pag(th sl:Nat)(a b:Int):Tb (16,a,b) (Dg th sl) 0=if b=0/\0<=a/\a<th then some (2+a.toNat)else none:=by
 unfold Dg;rw [List.append_assoc,Fb (Ig _ _ _ fun y hy e=>by
  have e:y.1=16:=e
  simp only [List.mem_cons,List.not_mem_nil,or_false]at hy;rcases hy with rfl|rfl
  . have:(14:Int)=16:=e;omega
  . have:(15:Int)=16:=e;omega)]
 have h1:=Ys 16 a b th 2;by_cases h:b=0/\0<=a/\a<th
 . rw [if_pos h]at h1⊢;exact me h1
 . rw [if_neg h]at h1⊢;refine (Fb h1).trans ?_
   exact Ig _ _ _ fun y hy e=>by have e:y.1=16:=e;rw [Kk hy]at e;omega
theorem Qag(th sl:Nat)(a b:Int):Tb (17,a,b) (Dg th sl) 0=if b=0/\0<=a/\a<sl then some (2+th+a.toNat)else none:=by
 unfold Dg;rw [List.append_assoc,Fb (Ig _ _ _ fun y hy e=>by
  have e:y.1=17:=e
  simp only [List.mem_cons,List.not_mem_nil,or_false]at hy;rcases hy with rfl|rfl
  . have:(14:Int)=17:=e;omega
  . have:(15:Int)=17:=e;omega),Fb (Ig _ _ _ fun y hy e=>by have e:y.1=17:=e;rw [Kk hy]at e;omega),vB]
 exact Ys 17 a b sl _
theorem wD{last pass:List Nm}{n:Nat}{k:Nm}{c:Prop}[Decidable c]{j:Nat}{x y:Int}(h:Tb k last 0=if c then some j else none)(hp:Tb k pass 0=none)(h1:c->(j:Int)=x)(h2:¬c->(n:Int)=y):EL last pass n k=if c then x else y:=by
 unfold EL;by_cases hc:c
 . rw [if_pos hc]at h⊢;rw [h];exact h1 hc
 . rw [if_neg hc]at h⊢;rw [h,hp];exact h2 hc
theorem TL{last pass:List Nm}{n:Nat}{k:Nm}{c:Prop}[Decidable c]{j:Nat}{x y:Int}(h:Tb k last 0=none)(hp:Tb k pass 0=if c then some j else none)(h1:c->-1 -(j:Int)=x)(h2:¬c->(n:Int)=y):EL last pass n k=if c then x else y:=by
 unfold EL;rw [h];by_cases hc:c
 . rw [if_pos hc]at hp⊢;rw [hp];exact h1 hc
 . rw [if_neg hc]at hp⊢;rw [hp];exact h2 hc
theorem Rag{last pass:List Nm}{n:Nat}{k:Nm}(h:Tb k last 0=none)(hp:Tb k pass 0=none):EL last pass n k=n:=by
 unfold EL;rw [h,hp]
theorem H5(n:Nat):(Vd n:Int)=8*qb n:=by unfold Vd qb;omega
theorem ZT(n:Nat):(Vd (40+n):Int)=40+8*qb n:=by unfold Vd qb;omega
theorem xD(th sl lo bu k a b:Int):jB (Xc.lv ⟨th,sl,lo,bu⟩) k a b=
 if k=8 then(if hasB b lo then(Xc.lv ⟨th,sl,lo,bu⟩).word a th (Xc.lv ⟨th,sl,lo,bu⟩).pl (Xc.lv ⟨th,sl,lo,bu⟩).ls b else(Xc.lv ⟨th,sl,lo,bu⟩).ln*8)
 else if b≠0 then(Xc.lv ⟨th,sl,lo,bu⟩).ln*8
 else if k=5 then(if hasB a bu then 40+a else(Xc.lv ⟨th,sl,lo,bu⟩).ln*8)
 else if k=6 then(Xc.lv ⟨th,sl,lo,bu⟩).word a th (Xc.lv ⟨th,sl,lo,bu⟩).pt 1 0
 else if k=7 then(Xc.lv ⟨th,sl,lo,bu⟩).word a th (Xc.lv ⟨th,sl,lo,bu⟩).pt 1 1
 else if k=16 then(if hasB a th then-3 -a else(Xc.lv ⟨th,sl,lo,bu⟩).ln*8)
 else if k=17 then(if hasB a sl then-3 -th -a else(Xc.lv ⟨th,sl,lo,bu⟩).ln*8)
 else if 9<=k/\k<=13 then(Xc.lv ⟨th,sl,lo,bu⟩).slot a (k -9)else 0:=rfl
theorem Sag(th sl lo bu a b:Int):jB (Xc.lv ⟨th,sl,lo,bu⟩) 16 a b=if b=0 then(if hasB a th then-3 -a else(Xc.lv ⟨th,sl,lo,bu⟩).ln*8)else(Xc.lv ⟨th,sl,lo,bu⟩).ln*8:=by
 rw [xD,if_neg (by decide:¬(16:Int)=8)];by_cases b0:b=0
 . rw [if_neg (fun q=>q b0),if_neg (by decide:¬(16:Int)=5),if_neg (by decide:¬(16:Int)=6),if_neg (by decide:¬(16:Int)=7),if_pos (rfl:(16:Int)=16),if_pos b0]
 . rw [if_pos b0,if_neg b0]
theorem Uag(th sl lo bu a b:Int):jB (Xc.lv ⟨th,sl,lo,bu⟩) 17 a b=if b=0 then(if hasB a sl then-3 -th -a else(Xc.lv ⟨th,sl,lo,bu⟩).ln*8)else(Xc.lv ⟨th,sl,lo,bu⟩).ln*8:=by
 rw [xD,if_neg (by decide:¬(17:Int)=8)];by_cases b0:b=0
 . rw [if_neg (fun q=>q b0),if_neg (by decide:¬(17:Int)=5),if_neg (by decide:¬(17:Int)=6),if_neg (by decide:¬(17:Int)=7),if_neg (by decide:¬(17:Int)=16),if_pos (rfl:(17:Int)=17),if_pos b0]
 . rw [if_pos b0,if_neg b0]
theorem aU(c:Xc)(h:Xh c)(k a b:Int)(hk:(5<=k/\k<=13)\/k=16\/k=17):iY c.th.toNat c.sl.toNat c.lo.toNat c.bu.toNat (k,a,b)=jB c.lv k a b:=by
 obtain ⟨ith,isl,ilo,ibu⟩:=c;obtain ⟨h1,h2,h3,h4,h5,h6,h7,h8⟩:=h;simp only at*;obtain ⟨th,rfl⟩:=Int.eq_ofNat_of_zero_le (show 0<=ith by omega);obtain ⟨sl,rfl⟩:=Int.eq_ofNat_of_zero_le (show 0<=isl by omega);obtain ⟨lo,rfl⟩:=Int.eq_ofNat_of_zero_le (show 0<=ilo by omega);obtain ⟨bu,rfl⟩:=Int.eq_ofNat_of_zero_le (show 0<=ibu by omega);simp only [Int.toNat_natCast];have e1:=ZT bu;have e2:=H5 lo;have e3:((Vd lo*th:Nat):Int)=8*((th:Int)*qb lo):=by
  rw [Int.natCast_mul,e2,Int.mul_assoc,Int.mul_comm (qb lo)]
 have eln:((Vd (40+bu)+8*th+Vd lo*th+8*sl:Nat):Int)=(Xc.lv ⟨th,sl,lo,bu⟩).ln*8:=by
  show _=(5+qb bu+th+th*qb lo+sl)*8
  simp only [Int.natCast_add,e1,e3];omega
 unfold iY;generalize hn:Vd (40+bu)+8*th+Vd lo*th+8*sl=n at*;have hb:∀x m:Int,hasB x m=true<->0<=x/\x<m:=fun x m=>by unfold hasB;exact decide_eq_true_iff
 rcases hk with⟨k1,k2⟩|rfl|rfl
 . have hp:=SZ (th:=th) (sl:=sl) (a:=a) (b:=b) k2 0;by_cases k8:k=8
   . subst k8;have:=wD (n:=n) (x:=(Xc.lv ⟨th,sl,lo,bu⟩).word a th (Xc.lv ⟨th,sl,lo,bu⟩).pl (Xc.lv ⟨th,sl,lo,bu⟩).ls b) (y:=(Xc.lv ⟨th,sl,lo,bu⟩).ln*8) (Xaq th sl lo bu a b) hp (fun q=>by
      unfold Lv.word;rw [if_pos ((hb _ _).2 q.2)];obtain ⟨x,rfl⟩:=Int.eq_ofNat_of_zero_le q.2.1
      obtain ⟨y,rfl⟩:=Int.eq_ofNat_of_zero_le q.1.1
      show _=(5+qb bu+th+qb lo*x)*8+y
      simp only [Int.toNat_natCast,Int.natCast_add,Int.natCast_mul,e1,e2];rw [Int.mul_assoc];omega) (fun _=>eln)
     refine this.trans ?_
     rw [xD];rw [if_pos rfl];by_cases q:0<=b/\b<lo
     . rw [if_pos ((hb b _).2 q)];by_cases q2:0<=a/\a<th
       . rw [if_pos ⟨q,q2⟩]
       . rw [if_neg (fun z=>q2 z.2)]
         show _=Lv.word _ _ _ _ _ _
         unfold Lv.word;rw [if_neg (fun z=>q2 ((hb a _).1 z))]
     . rw [if_neg (fun z=>q z.1),if_neg (fun z=>q ((hb b _).1 z))]
   . rw [xD];rw [if_neg k8];by_cases b0:b=0
     . subst b0;rw [if_neg (by omega)];by_cases k5:k=5
       . subst k5;rw [if_pos rfl];refine (wD (n:=n) (x:=40+a) (y:=(Xc.lv ⟨th,sl,lo,bu⟩).ln*8) (F5 th sl lo bu a 0) hp (fun q=>by omega) (fun _=>eln)).trans ?_
         by_cases q:0<=a/\a<bu
         . rw [if_pos ⟨rfl,q⟩,if_pos ((hb a _).2 q)]
         . rw [if_neg (fun z=>q z.2),if_neg (fun z=>q ((hb a _).1 z))]
       . rw [if_neg k5];by_cases k67:k<=7
         . obtain ⟨q0,I5,rfl⟩:∃q:Nat,q<2/\k=6+(q:Int):=⟨(k -6).toNat,by omega,by omega⟩;refine (wD (n:=n) (x:=(5+qb bu+1*a)*8+q0) (y:=(Xc.lv ⟨th,sl,lo,bu⟩).ln*8) (XT th sl lo bu q0 I5 a 0) hp (fun q=>by
            obtain ⟨x,rfl⟩:=Int.eq_ofNat_of_zero_le q.2.1
            simp only [Int.toNat_natCast,Int.natCast_add,Int.natCast_mul,e1];omega) (fun _=>eln)).trans ?_
           have key:(if(0:Int)=0/\0<=a/\a<th then(5+qb bu+1*a)*8+(q0:Int)else(Xc.lv ⟨th,sl,lo,bu⟩).ln*8)=(Xc.lv ⟨th,sl,lo,bu⟩).word a th (Xc.lv ⟨th,sl,lo,bu⟩).pt 1 q0:=by
            unfold Lv.word;by_cases q:0<=a/\a<th
            . rw [if_pos ⟨rfl,q⟩,if_pos ((hb a _).2 q)];rfl
            . rw [if_neg (fun z=>q z.2),if_neg (fun z=>q ((hb a _).1 z))]
           rw [key]
           match q0,I5 with
           |0,_=>rw [if_pos (by rfl)];rfl
           |1,_=>rw [if_neg (by decide),if_pos (by rfl)];rfl
         . rw [if_neg (by omega),if_neg (by omega),if_neg (by omega),if_neg (by omega),if_pos (by omega)];obtain ⟨q0,I5,rfl⟩:∃q:Nat,q<5/\k=9+(q:Int):=⟨(k -9).toNat,by omega,by omega⟩;refine (wD (n:=n) (x:=(5+qb bu+th+th*qb lo+1*a)*8+q0) (y:=(Xc.lv ⟨th,sl,lo,bu⟩).ln*8) (G5 th sl lo bu q0 I5 a 0) hp (fun q=>by
            obtain ⟨x,rfl⟩:=Int.eq_ofNat_of_zero_le q.2.1
            simp only [Int.toNat_natCast,Int.natCast_add,e1,e3];omega) (fun _=>eln)).trans ?_
           rw [show 9+(q0:Int) -9=q0 by omega]
           show _=(Xc.lv ⟨th,sl,lo,bu⟩).word a sl (Xc.lv ⟨th,sl,lo,bu⟩).ps 1 q0
           unfold Lv.word;by_cases q:0<=a/\a<sl
           . rw [if_pos ⟨rfl,q⟩,if_pos ((hb a _).2 q)];rfl
           . rw [if_neg (fun z=>q z.2),if_neg (fun z=>q ((hb a _).1 z))]
     . rw [if_pos b0];have:Tb (k,a,b) (Ud th sl lo bu) 0=none:=by
        by_cases k5:k=5
        . subst k5;rw [F5,if_neg (fun z=>b0 z.1)]
        . by_cases k67:k<=7
          . obtain ⟨q0,I5,rfl⟩:∃q:Nat,q<2/\k=6+(q:Int):=⟨(k -6).toNat,by omega,by omega⟩;rw [XT _ _ _ _ _ I5,if_neg (fun z=>b0 z.1)]
          . obtain ⟨q0,I5,rfl⟩:∃q:Nat,q<5/\k=9+(q:Int):=⟨(k -9).toNat,by omega,by omega⟩;rw [G5 _ _ _ _ _ I5,if_neg (fun z=>b0 z.1)]
       rw [Rag this hp];exact eln
 . refine (TL (n:=n) (x:=-3 -a) (y:=(Xc.lv ⟨th,sl,lo,bu⟩).ln*8) (YT th sl lo bu 16 a b (by omega)) (Pag th sl a b) (fun q=>by omega) (fun _=>eln)).trans ?_
   rw [Sag];by_cases b0:b=0
   . subst b0;rw [if_pos (rfl:(0:Int)=0)];by_cases q:0<=a/\a<th
     . rw [if_pos ⟨rfl,q⟩,if_pos ((hb a _).2 q)]
     . rw [if_neg (fun z=>q z.2),if_neg (fun z=>q ((hb a _).1 z))]
   . rw [if_neg (fun z=>b0 z.1),if_neg b0]
 . refine (TL (n:=n) (x:=-3 -(th:Int) -a) (y:=(Xc.lv ⟨th,sl,lo,bu⟩).ln*8) (YT th sl lo bu 17 a b (by omega)) (Qag th sl a b) (fun q=>by omega) (fun _=>eln)).trans ?_
   rw [Uag];by_cases b0:b=0
   . subst b0;rw [if_pos (rfl:(0:Int)=0)];by_cases q:0<=a/\a<sl
     . rw [if_pos ⟨rfl,q⟩,if_pos ((hb a _).2 q)]
     . rw [if_neg (fun z=>q z.2),if_neg (fun z=>q ((hb a _).1 z))]
   . rw [if_neg (fun z=>b0 z.1),if_neg b0]
theorem yD:Tb (2,0,0) Lg 0=some 16/\Tb (3,0,0) Lg 0=some 24/\Tb (4,0,0) Lg 0=some 32:=by decide
theorem zr{n i:Nat}(h:Tb ((n:Int),0,0) Lg 0=some i)(th sl lo bu:Nat):iY th sl lo bu ((n:Int),0,0)=i:=by
 have:Tb ((n:Int),0,0) (Ud th sl lo bu) 0=some i:=by
  unfold Ud ld;exact me (me (me (me (me h))))
 unfold iY EL;rw [this]
end Go.Proofs.YtfnkmolffhfpoaaGreat
