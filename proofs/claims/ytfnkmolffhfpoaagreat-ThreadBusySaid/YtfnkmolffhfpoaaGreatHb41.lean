/- -/
import Derived.Test.YtfnkmolffhfpoaaGreatHb2
import Derived.Test.YtfnkmolffhfpoaaGreatHb40
import Derived.Sort.CutIn
import Derived.WalkSmall
import Derived.Test.YtfnkmolffhfpoaaGreatHb14
import Derived.Test.YtfnkmolffhfpoaaGreatHb18
import Derived.Test.YtfnkmolffhfpoaaGreatHb17
import Derived.KernelRfl
set_option linter.unusedVariables false
set_option linter.unusedSimpArgs false
set_option maxRecDepth 1000000
namespace Go.Proofs.YtfnkmolffhfpoaaGreat
namespace Sk
open Go.RowKit Go.BigFrame
def Ip:Prop:=∀w,Calls Tryz.prog 23 #[] w fun e w'=>e= .returned (.bool true)/\Below w.heap.size w w'
set_option maxRecDepth 100000 in
theorem RZ(HA:Hid Ip)(th sl Ta bu k x y k2 x2 y2 n:Int)(W:World)(hf:¬(⟨th,sl,Ta,bu⟩:Dc).qm):Calls Tryz.prog 4 #[.agg #[.int .i64 th, .int .i64 sl, .int .i64 Ta, .int .i64 bu], .agg #[.int .i64 k, .int .u32 x, .int .u32 y, .int .i64 k2, .int .u32 x2, .int .u32 y2], .int .u16 n] W (Rc (.bool true) W):=by
 have HF:Hid (∀w,Calls Tryz.prog 22 #[.agg #[.int .i64 th, .int .i64 sl, .int .i64 Ta, .int .i64 bu]] w fun e w'=>e= .returned (.bool false)/\Below w.heap.size w w'):=Lib.hid fun w=>by
  have h:=Zw ⟨th,sl,Ta,bu⟩ w;rw [ea hf]at h;exact h
 have jh:Hid (Below W.heap.size W ((W.alloc (.cells #[.int .i64 th, .int .i64 sl, .int .i64 Ta, .int .i64 bu] 23)).alloc (.cells #[.int .i64 k, .int .u32 x, .int .u32 y, .int .i64 k2, .int .u32 x2, .int .u32 y2] 69))):=Lib.hid (((Below.refl _ _).alloc (Nat.le_refl _) _).alloc (by simp) _);have qt:Hid (∀w,Below ((W.alloc (.cells #[.int .i64 th, .int .i64 sl, .int .i64 Ta, .int .i64 bu] 23)).alloc (.cells #[.int .i64 k, .int .u32 x, .int .u32 y, .int .i64 k2, .int .u32 x2, .int .u32 y2] 69)).heap.size ((W.alloc (.cells #[.int .i64 th, .int .i64 sl, .int .i64 Ta, .int .i64 bu] 23)).alloc (.cells #[.int .i64 k, .int .u32 x, .int .u32 y, .int .i64 k2, .int .u32 x2, .int .u32 y2] 69)) w->w.cell? ⟨W.heap.size+1,0,none⟩=some (.int .i64 k)/\Below W.heap.size W w):=Lib.hid fun w hb=>by
  refine ⟨?_,jh.out.trans (hb.mono jh.out.size)⟩;have h:=heap_alloc_new (W.alloc (.cells #[.int .i64 th, .int .i64 sl, .int .i64 Ta, .int .i64 bu] 23)) (.cells #[.int .i64 k, .int .u32 x, .int .u32 y, .int .i64 k2, .int .u32 x2, .int .u32 y2] 69);rw [World.size_alloc]at h;rw [<-hb.block (W.heap.size+1) (by simp)]at h;exact ga h 0 _ rfl
 clear hf
 go_enter Tryz.func4,Tryz.ntmps4
 go_wp2_with fail
 refine (HF.out _).mono ?_
 rintro e w2 ⟨rfl,hb⟩;obtain ⟨c0,Ih⟩:=qt.out _ hb;have H2:=Lib.hid Ih;clear hb Ih
 go_wp2_with fail
 refine (HA.out _).mono ?_
 rintro e w3 ⟨rfl,hb⟩;have H3:=Lib.hid (H2.out.trans (hb.mono H2.out.size));clear hb
 go_wp2_with fail
 go_ret
 exact ⟨rfl,H3.out⟩
set_option maxRecDepth 100000 in
theorem SZ(HA:Hid Ip)(th sl Ta bu k x y k2 x2 y2 n:Int)(W:World)(hf:(⟨th,sl,Ta,bu⟩:Dc).qm)(hk:k<1):Calls Tryz.prog 4 #[.agg #[.int .i64 th, .int .i64 sl, .int .i64 Ta, .int .i64 bu], .agg #[.int .i64 k, .int .u32 x, .int .u32 y, .int .i64 k2, .int .u32 x2, .int .u32 y2], .int .u16 n] W (Rc (.bool true) W):=by
 have HF:Hid (∀w,Calls Tryz.prog 22 #[.agg #[.int .i64 th, .int .i64 sl, .int .i64 Ta, .int .i64 bu]] w fun e w'=>e= .returned (.bool true)/\Below w.heap.size w w'):=Lib.hid fun w=>by
  have h:=Zw ⟨th,sl,Ta,bu⟩ w;rw [ca hf]at h;exact h
 have jh:Hid (Below W.heap.size W ((W.alloc (.cells #[.int .i64 th, .int .i64 sl, .int .i64 Ta, .int .i64 bu] 23)).alloc (.cells #[.int .i64 k, .int .u32 x, .int .u32 y, .int .i64 k2, .int .u32 x2, .int .u32 y2] 69))):=Lib.hid (((Below.refl _ _).alloc (Nat.le_refl _) _).alloc (by simp) _);have qt:Hid (∀w,Below ((W.alloc (.cells #[.int .i64 th, .int .i64 sl, .int .i64 Ta, .int .i64 bu] 23)).alloc (.cells #[.int .i64 k, .int .u32 x, .int .u32 y, .int .i64 k2, .int .u32 x2, .int .u32 y2] 69)).heap.size ((W.alloc (.cells #[.int .i64 th, .int .i64 sl, .int .i64 Ta, .int .i64 bu] 23)).alloc (.cells #[.int .i64 k, .int .u32 x, .int .u32 y, .int .i64 k2, .int .u32 x2, .int .u32 y2] 69)) w->w.cell? ⟨W.heap.size+1,0,none⟩=some (.int .i64 k)/\Below W.heap.size W w):=Lib.hid fun w hb=>by
  refine ⟨?_,jh.out.trans (hb.mono jh.out.size)⟩;have h:=heap_alloc_new (W.alloc (.cells #[.int .i64 th, .int .i64 sl, .int .i64 Ta, .int .i64 bu] 23)) (.cells #[.int .i64 k, .int .u32 x, .int .u32 y, .int .i64 k2, .int .u32 x2, .int .u32 y2] 69);rw [World.size_alloc]at h;rw [<-hb.block (W.heap.size+1) (by simp)]at h;exact ga h 0 _ rfl
 have d1:decide (k<1)=true:=ca hk;clear hf hk
 go_enter Tryz.func4,Tryz.ntmps4
 go_wp2_with fail
 refine (HF.out _).mono ?_
 rintro e w2 ⟨rfl,hb⟩;obtain ⟨c0,Ih⟩:=qt.out _ hb;have H2:=Lib.hid Ih;clear hb Ih
 go_wp2_with fail
 refine (HA.out _).mono ?_
 rintro e w3 ⟨rfl,hb⟩;have H3:=Lib.hid (H2.out.trans (hb.mono H2.out.size));clear hb
 go_wp2_with fail
 go_ret
 exact ⟨rfl,H3.out⟩
set_option maxRecDepth 100000 in
theorem QS(HA:Hid Ip)(th sl Ta bu k x y k2 x2 y2 n:Int)(W:World)(hf:(⟨th,sl,Ta,bu⟩:Dc).qm)(hk:8<k):Calls Tryz.prog 4 #[.agg #[.int .i64 th, .int .i64 sl, .int .i64 Ta, .int .i64 bu], .agg #[.int .i64 k, .int .u32 x, .int .u32 y, .int .i64 k2, .int .u32 x2, .int .u32 y2], .int .u16 n] W (Rc (.bool true) W):=by
 have HF:Hid (∀w,Calls Tryz.prog 22 #[.agg #[.int .i64 th, .int .i64 sl, .int .i64 Ta, .int .i64 bu]] w fun e w'=>e= .returned (.bool true)/\Below w.heap.size w w'):=Lib.hid fun w=>by
  have h:=Zw ⟨th,sl,Ta,bu⟩ w;rw [ca hf]at h;exact h
 have jh:Hid (Below W.heap.size W ((W.alloc (.cells #[.int .i64 th, .int .i64 sl, .int .i64 Ta, .int .i64 bu] 23)).alloc (.cells #[.int .i64 k, .int .u32 x, .int .u32 y, .int .i64 k2, .int .u32 x2, .int .u32 y2] 69))):=Lib.hid (((Below.refl _ _).alloc (Nat.le_refl _) _).alloc (by simp) _);have qt:Hid (∀w,Below ((W.alloc (.cells #[.int .i64 th, .int .i64 sl, .int .i64 Ta, .int .i64 bu] 23)).alloc (.cells #[.int .i64 k, .int .u32 x, .int .u32 y, .int .i64 k2, .int .u32 x2, .int .u32 y2] 69)).heap.size ((W.alloc (.cells #[.int .i64 th, .int .i64 sl, .int .i64 Ta, .int .i64 bu] 23)).alloc (.cells #[.int .i64 k, .int .u32 x, .int .u32 y, .int .i64 k2, .int .u32 x2, .int .u32 y2] 69)) w->w.cell? ⟨W.heap.size+1,0,none⟩=some (.int .i64 k)/\Below W.heap.size W w):=Lib.hid fun w hb=>by
  refine ⟨?_,jh.out.trans (hb.mono jh.out.size)⟩;have h:=heap_alloc_new (W.alloc (.cells #[.int .i64 th, .int .i64 sl, .int .i64 Ta, .int .i64 bu] 23)) (.cells #[.int .i64 k, .int .u32 x, .int .u32 y, .int .i64 k2, .int .u32 x2, .int .u32 y2] 69);rw [World.size_alloc]at h;rw [<-hb.block (W.heap.size+1) (by simp)]at h;exact ga h 0 _ rfl
 have d1:decide (k<1)=false:=ea (by omega);have d2:decide (8<k)=true:=ca hk;clear hf hk
 go_enter Tryz.func4,Tryz.ntmps4
 go_wp2_with fail
 refine (HF.out _).mono ?_
 rintro e w2 ⟨rfl,hb⟩;obtain ⟨c0,Ih⟩:=qt.out _ hb;have H2:=Lib.hid Ih;clear hb Ih
 go_wp2_with fail
 refine (HA.out _).mono ?_
 rintro e w3 ⟨rfl,hb⟩;have H3:=Lib.hid (H2.out.trans (hb.mono H2.out.size));clear hb
 go_wp2_with fail
 go_ret
 exact ⟨rfl,H3.out⟩
set_option maxRecDepth 100000 in
theorem RS(HA:Hid Ip)(th sl Ta bu k x y k2 x2 y2 n:Int)(W:World)(hf:(⟨th,sl,Ta,bu⟩:Dc).qm)(hk:1<=k/\k<=8)(hn:2000<n):Calls Tryz.prog 4 #[.agg #[.int .i64 th, .int .i64 sl, .int .i64 Ta, .int .i64 bu], .agg #[.int .i64 k, .int .u32 x, .int .u32 y, .int .i64 k2, .int .u32 x2, .int .u32 y2], .int .u16 n] W (Rc (.bool true) W):=by
 have HF:Hid (∀w,Calls Tryz.prog 22 #[.agg #[.int .i64 th, .int .i64 sl, .int .i64 Ta, .int .i64 bu]] w fun e w'=>e= .returned (.bool true)/\Below w.heap.size w w'):=Lib.hid fun w=>by
  have h:=Zw ⟨th,sl,Ta,bu⟩ w;rw [ca hf]at h;exact h
 have jh:Hid (Below W.heap.size W ((W.alloc (.cells #[.int .i64 th, .int .i64 sl, .int .i64 Ta, .int .i64 bu] 23)).alloc (.cells #[.int .i64 k, .int .u32 x, .int .u32 y, .int .i64 k2, .int .u32 x2, .int .u32 y2] 69))):=Lib.hid (((Below.refl _ _).alloc (Nat.le_refl _) _).alloc (by simp) _);have qt:Hid (∀w,Below ((W.alloc (.cells #[.int .i64 th, .int .i64 sl, .int .i64 Ta, .int .i64 bu] 23)).alloc (.cells #[.int .i64 k, .int .u32 x, .int .u32 y, .int .i64 k2, .int .u32 x2, .int .u32 y2] 69)).heap.size ((W.alloc (.cells #[.int .i64 th, .int .i64 sl, .int .i64 Ta, .int .i64 bu] 23)).alloc (.cells #[.int .i64 k, .int .u32 x, .int .u32 y, .int .i64 k2, .int .u32 x2, .int .u32 y2] 69)) w->w.cell? ⟨W.heap.size+1,0,none⟩=some (.int .i64 k)/\Below W.heap.size W w):=Lib.hid fun w hb=>by
  refine ⟨?_,jh.out.trans (hb.mono jh.out.size)⟩;have h:=heap_alloc_new (W.alloc (.cells #[.int .i64 th, .int .i64 sl, .int .i64 Ta, .int .i64 bu] 23)) (.cells #[.int .i64 k, .int .u32 x, .int .u32 y, .int .i64 k2, .int .u32 x2, .int .u32 y2] 69);rw [World.size_alloc]at h;rw [<-hb.block (W.heap.size+1) (by simp)]at h;exact ga h 0 _ rfl
 have d1:decide (k<1)=false:=ea (by omega);have d2:decide (8<k)=false:=ea (by omega);have d3:decide (2000<n)=true:=ca hn;clear hf hk hn
 go_enter Tryz.func4,Tryz.ntmps4
 go_wp2_with fail
 refine (HF.out _).mono ?_
 rintro e w2 ⟨rfl,hb⟩;obtain ⟨c0,Ih⟩:=qt.out _ hb;have H2:=Lib.hid Ih;clear hb Ih
 go_wp2_with fail
 refine (HA.out _).mono ?_
 rintro e w3 ⟨rfl,hb⟩;have H3:=Lib.hid (H2.out.trans (hb.mono H2.out.size));clear hb
 go_wp2_with fail
 go_ret
 exact ⟨rfl,H3.out⟩
theorem eK{n j:Nat}(h:j<n)(e:wrap64 ((j:Int)+1)=(j:Int)+1):n -(intOf (Value.int .i64 (wrap64 ((j:Int)+1)))).toNat<n -(intOf (Value.int .i64 (j:Int))).toNat:=by
 rw [e];have e1:(intOf (Value.int .i64 ((j:Int)+1))).toNat=j+1:=by simp [intOf]
 have e2:(intOf (Value.int .i64 (j:Int))).toNat=j:=by simp [intOf]
 rw [e1,e2];omega
set_option maxHeartbeats 4000000 in
set_option maxRecDepth 100000 in
theorem Zak(HA:Hid Ip)(th sl Ta bu n:Nat)(k x y k2 x2 y2:Int)(W:World)(hf:(⟨th,sl,Ta,bu⟩:Dc).qm)(k0:1<=k)(k1:k<=8)(x0:0<=x)(x1:x<=4294967295)(y0:0<=y)(y1:y<=4294967295)(hn:n<=2000):
  Calls Tryz.prog 4 #[.agg #[.int .i64 (th:Int), .int .i64 (sl:Int), .int .i64 (Ta:Int), .int .i64 (bu:Int)], .agg #[.int .i64 k, .int .u32 x, .int .u32 y, .int .i64 k2, .int .u32 x2, .int .u32 y2], .int .u16 (n:Int)] W (Rc (.bool true) W):=by
 have HF:Hid (∀w,Calls Tryz.prog 22 #[.agg #[.int .i64 (th:Int), .int .i64 (sl:Int), .int .i64 (Ta:Int), .int .i64 (bu:Int)]] w fun e w'=>e= .returned (.bool true)/\Below w.heap.size w w'):=Lib.hid fun w=>by
  have h:=Zw ⟨th,sl,Ta,bu⟩ w;rw [ca hf]at h;exact h
 obtain ⟨W1,Lj⟩:∃W1,W1=((W.alloc (.cells #[.int .i64 (th:Int), .int .i64 (sl:Int), .int .i64 (Ta:Int), .int .i64 (bu:Int)] 23)).alloc (.cells #[.int .i64 k, .int .u32 x, .int .u32 y, .int .i64 k2, .int .u32 x2, .int .u32 y2] 69)):=⟨_,rfl⟩;have kY:=Lib.hid Lj;have jh:Hid (Below W.heap.size W W1):=Lib.hid (by rw [Lj];exact ((Below.refl _ _).alloc (Nat.le_refl _) _).alloc (by simp) _);have qt:Hid (∀w,Below W1.heap.size W1 w->(w.cell? ⟨W.heap.size,0,none⟩=some (.int .i64 (th:Int))/\w.cell? ⟨W.heap.size,1,none⟩=some (.int .i64 (sl:Int))/\w.cell? ⟨W.heap.size,2,none⟩=some (.int .i64 (Ta:Int))/\w.cell? ⟨W.heap.size,3,none⟩=some (.int .i64 (bu:Int)))/\(w.cell? ⟨W.heap.size+1,0,none⟩=some (.int .i64 k)/\w.cell? ⟨W.heap.size+1,1,none⟩=some (.int .u32 x)/\w.cell? ⟨W.heap.size+1,2,none⟩=some (.int .u32 y)/\w.cell? ⟨W.heap.size+1,3,none⟩=some (.int .i64 k2)/\w.cell? ⟨W.heap.size+1,4,none⟩=some (.int .u32 x2)/\w.cell? ⟨W.heap.size+1,5,none⟩=some (.int .u32 y2))/\Below W.heap.size W w):=Lib.hid fun w hb=>by
  have h:=heap_alloc_new (W.alloc (.cells #[.int .i64 (th:Int), .int .i64 (sl:Int), .int .i64 (Ta:Int), .int .i64 (bu:Int)] 23)) (.cells #[.int .i64 k, .int .u32 x, .int .u32 y, .int .i64 k2, .int .u32 x2, .int .u32 y2] 69);rw [World.size_alloc,<-Lj]at h;have hs:W1.heap.size=W.heap.size+2:=by rw [Lj];simp
  have g:W1.heap[W.heap.size]?=some (.cells #[.int .i64 (th:Int), .int .i64 (sl:Int), .int .i64 (Ta:Int), .int .i64 (bu:Int)] 23 (0,0)):=by rw [Lj,Below.heap_alloc _ _ _ (by simp)];exact heap_alloc_new _ _
  rw [<-hb.block (W.heap.size+1) (by omega)]at h;rw [<-hb.block W.heap.size (by omega)]at g;exact ⟨⟨ga g 0 _ rfl,ga g 1 _ rfl,ga g 2 _ rfl,ga g 3 _ rfl⟩,⟨ga h 0 _ rfl,ga h 1 _ rfl,ga h 2 _ rfl,ga h 3 _ rfl,ga h 4 _ rfl,ga h 5 _ rfl⟩,jh.out.trans (hb.mono jh.out.size)⟩
 have HFR:Hid (∀w,Calls Tryz.prog 24 #[.agg #[.int .i64 (th:Int), .int .i64 (sl:Int), .int .i64 (Ta:Int), .int .i64 (bu:Int)]] w fun e w'=>∃(a:Option Addr) (len cap:Nat) (at_ wv:Nat->Int),e= .returned (.agg #[.int .i64 (th:Int), .int .i64 (sl:Int), .int .i64 (Ta:Int), .int .i64 (bu:Int), .slice a len cap])/\Below w.heap.size w w'/\len<=100/\Xt w' a len at_ wv):=Lib.hid fun w=>PS (yN hf) (by have:=hf.2.2.1;exact this) w
 have MP:=Lib.hid fun a len cap hl at_ wv w hP=>rO th sl Ta bu hf a len cap hl at_ wv k x y w hP
 have HIN:=Lib.hid fun(w3:World) (p m l:Nat) (w:World) (h:Idle w3 p m l ⟨th,sl,Ta,bu⟩ k x y 200 w)=>qO h (by omega) k0 k1 x0 x1 y0 y1
 have TZ:=Lib.hid fun(w3:World) (p m l q:Nat) (w:World) (h:Hq w3 p m l ⟨th,sl,Ta,bu⟩ k x y q w)=>AF h k0 k1 x0 x1 y0 y1
 have HN:=Lib.hid hn;have d1:decide (k<1)=false:=ea (by omega);have d2:decide (8<k)=false:=ea (by omega);have d3:decide ((2000:Int)<(n:Int))=false:=ea (by omega);have d4:decide (2000<n)=false:=ea (by omega);have d5:wrap64 (n:Int)=(n:Int):=IntWalk.wrap64_in _ (by omega);clear hf k0 k1 x0 x1 y0 y1 hn Lj
 go_enter Tryz.func4,Tryz.ntmps4
 go_upto_region 1 with fail
 rw [<-kY.out];obtain ⟨⟨g0,g1,g2,g3⟩,⟨c0,c1,c2,c3,c4,c5⟩,-⟩:=qt.out W1 (Below.refl _ _)
 go_wp2_with fail
 refine (HF.out _).mono ?_
 rintro e w2 ⟨rfl,hb⟩;clear g0 g1 g2 g3 c0 c1 c2 c3 c4 c5;have H2:=Lib.hid hb;clear hb;obtain ⟨⟨g0,g1,g2,g3⟩,⟨c0,c1,c2,c3,c4,c5⟩,-⟩:=qt.out _ H2.out
 go_wp2_with fail
 refine (HFR.out _).mono ?_
 rintro e w3 ⟨a,len,cap,at_,wv,rfl,hb,hl,hP⟩;clear g0 g1 g2 g3 c0 c1 c2 c3 c4 c5;have H3:=Lib.hid (H2.out.trans (hb.mono H2.out.size));have HL:=Lib.hid hl;have HP:=Lib.hid hP;clear hb hl hP
 go_wp2_with fail
 refine (MP.out a len cap HL.out at_ wv w3 HP.out).mono ?_
 rintro e w4 ⟨l,m,r,rfl,hb,aal⟩;have H4:=Lib.hid (H3.out.trans (hb.mono H3.out.size));have HNW:=Lib.hid aal;clear hb aal MP HP HL HFR HF
 go_wp2_with fail
 refine HNW.out.mono ?_
 rintro e w5 ⟨p,rfl,hi⟩;have HI:=Lib.hid hi;clear hi HNW
 go_wp2_with fail
 refine (RA p _ (mn HI.out).1 (mn HI.out).2).mono ?_
 rintro e w6 ⟨rfl,hb⟩;have HI6:=Lib.hid (HI.out.grow hb);clear hb HI
 go_upto_region 6 with fail
 obtain ⟨w7,hw7⟩:∃w7,w7=w6.alloc (.cells #[.int .i64 0, .int .u32 0] 60):=⟨_,rfl⟩;rw [<-hw7];have HI7:=Lib.hid (HI6.out.grow (w':=w7) (by rw [hw7];exact (Below.refl _ _).alloc (Nat.le_refl _) _));clear HI6 hw7
 go_wp2_with fail
 refine (SA p _ _ (mn HI7.out).1).mono ?_
 rintro e w8 ⟨rfl,rfl⟩;obtain ⟨⟨g0,g1,g2,g3⟩,⟨c0,c1,c2,c3,c4,c5⟩,-⟩:=qt.out _ (H3.out.trans (HI7.out.below.mono H3.out.size))
 go_wp2_with fail
 refine (HIN.out w3 p m l _ HI7.out).mono ?_
 rintro e w9 ⟨rfl,hb⟩;have HBZ:=Lib.hid hb;clear hb g0 g1 g2 g3 c0 c1 c2 c3 c4 c5 HI7 HIN
 go_wp2_with fail
 go_loopw [16] (fun i wr=>∃j:Nat,j<=n/\i= .int .i64 j/\Hid (Hq w3 p m l ⟨th,sl,Ta,bu⟩ k x y (230+30*j) wr)) (fun i _=>n -(intOf i).toNat)
 case atStart=>exact ⟨0,Nat.zero_le _,rfl,HBZ⟩
 case round=>
  obtain ⟨j,hj,rfl,HJ⟩:=hrel;by_cases Ab:j<n
  . have e1:decide ((j:Int)<(n:Int))=true:=ca (by omega);have e2:decide (j<n)=true:=ca Ab;have e3:wrap64 ((j:Int)+1)=(j:Int)+1:=IntWalk.wrap64_in _ (by have:=HN.out;omega);have HJN:Hid (j<n):=Lib.hid Ab;have HJM:Hid (230+30*j<=900000):=Lib.hid (by have:=HN.out;omega);clear Ab hj
    go_wp2_with fail
    refine (cK HJ.out HJM.out).mono ?_
    rintro e w10 ⟨⟨b,rfl⟩,hb⟩;have HK:=Lib.hid hb;clear hb
    go_wp2_with fail
    go_roundw
    case rel=>(have h1:=HJN.out;refine ⟨j+1,by omega,by rw [e3];rfl,Lib.hid (by have:=HK.out;rw [show 230+30*(j+1)=230+30*j+30 by omega];exact this)⟩)
    case measure=>exact eK HJN.out e3
  . obtain rfl:j=n:=by omega
    have e1:decide ((j:Int)<(j:Int))=false:=by simp
    have Gav:=TZ.out w3 p m l _ _ HJ.out;obtain ⟨z,hz,z2,z3,z4,z5,hp⟩:=Gav;have HZ:Hid (z≠0/\wr.cell? ⟨p,2,none⟩=some (.int .i64 z)/\p<wr.heap.size):=Lib.hid ⟨hz,z2,hp⟩;obtain ⟨⟨g0,g1,g2,g3⟩,⟨c0,c1,c2,c3,c4,c5⟩,-⟩:=qt.out _ (H3.out.trans (HJ.out.below.mono H3.out.size));clear hz z2 z3 z4 z5 hp g0 g1 g2 g3 HBZ
    go_wp2_with fail
    refine (jv p z k2 (.int .u32 x2) (.int .u32 y2) _ HZ.out.2.1 HZ.out.1 HZ.out.2.2).mono ?_
    rintro e w11 ⟨rfl,hb⟩;have fK:=Lib.hid (HJ.out.grow hb);clear hb HZ c0 c1 c2 c3 c4 c5 HJ;obtain ⟨⟨g0,g1,g2,g3⟩,⟨c0,c1,c2,c3,c4,c5⟩,-⟩:=qt.out _ (H3.out.trans (fK.out.below.mono H3.out.size));clear g0 g1 g2 g3;obtain ⟨ev,yI⟩:∃ev,ev=XF k2:=⟨_,rfl⟩;rw [<-yI];have HV:=Lib.hid yI;clear yI;by_cases q1:k2<1
    . have b1:decide (k2<1)=true:=ca q1;have yI:ev=1:=by rw [HV.out];exact if_neg (by omega)
      clear HV q1;subst yI
      go_wp2_with fail
      obtain ⟨z,hz,z2,z3,z4,z5,hp⟩:=TZ.out w3 p m l _ _ fK.out;refine (Po p z k x y _ z2 z3 z4 z5 hz hp).mono ?_
      rintro e tO ⟨rfl,hb⟩;have uO:=Lib.hid ((H3.out.trans (fK.out.below.mono H3.out.size)).trans (hb.mono ((H3.out.trans (fK.out.below.mono H3.out.size)).size)));clear hb hz z2 z3 z4 z5 hp c0 c1 c2 c3 c4 c5 fK TZ
      go_upto_region 17 with fail
      obtain ⟨ku,Vk⟩:∃ku,ku=tO.alloc (.cells #[.int .i64 k, .int .u32 x, .int .u32 y] 29):=⟨_,rfl⟩;rw [<-Vk];obtain ⟨tb,JH⟩:∃tb,tb=tO.heap.size:=⟨_,rfl⟩;rw [<-JH];have HT:Hid (∀w,Below ku.heap.size ku w->(w.cell? ⟨tb,0,none⟩=some (.int .i64 k)/\w.cell? ⟨tb,1,none⟩=some (.int .u32 x)/\w.cell? ⟨tb,2,none⟩=some (.int .u32 y))/\Below W1.heap.size W1 w):=Lib.hid fun w hb=>by
       have h:=heap_alloc_new tO (.cells #[.int .i64 k, .int .u32 x, .int .u32 y] 29);rw [<-Vk,<-JH,<-hb.block tb (by rw [Vk,JH];simp)]at h;have Bv:Below W1.heap.size W1 ku:=by rw [Vk];exact uO.out.alloc uO.out.size _
       exact ⟨⟨ga h 0 _ rfl,ga h 1 _ rfl,ga h 2 _ rfl⟩,Bv.trans (hb.mono Bv.size)⟩
      clear Vk JH uO H3
      go_wp2_with fail
      refine (Em _).mono ?_
      rintro e w14 ⟨rfl,hb⟩;have vO:=Lib.hid hb;clear hb
      go_upto_region 19 with fail
      obtain ⟨wO,lu⟩:∃wO,wO=w14.alloc (.cells #[.int .i64 0, .int .u32 0] 60):=⟨_,rfl⟩;rw [<-lu];have xO:Hid (Below ku.heap.size ku wO):=Lib.hid (by rw [lu];exact vO.out.alloc vO.out.size _);clear lu vO
      go_wp2_with fail
      refine (HA.out _).mono ?_
      rintro e w16 ⟨rfl,hb⟩;have H16:=Lib.hid (xO.out.trans (hb.mono xO.out.size));clear hb xO;obtain ⟨⟨t0,t1,t2⟩,Bv⟩:=HT.out _ H16.out;obtain ⟨⟨g0,g1,g2,g3⟩,⟨c0,c1,c2,c3,c4,c5⟩,Ih⟩:=qt.out _ Bv;have wD:=Lib.hid Ih;clear Bv Ih g0 g1 g2 g3
      go_wp2_with fail
      refine (lj _ _ _ _).mono ?_
      rintro e w17 ⟨rfl,hb⟩;have HBF:=Lib.hid (wD.out.trans (hb.mono wD.out.size));clear hb t0 t1 t2 c0 c1 c2 c3 c4 c5 wD
      go_wp2_with fail
      refine (Gm _ _).mono ?_
      rintro e jD ⟨rfl,rfl⟩
      go_wp2_with fail
      refine (ek _).mono ?_
      rintro e jD ⟨rfl,rfl⟩
      go_wp2_with fail
      refine (Hm _).mono ?_
      rintro e jD ⟨rfl,rfl⟩
      go_wp2_with fail
      refine (jk _).mono ?_
      rintro e jD ⟨rfl,rfl⟩
      go_wp2_with fail
      refine (kj _).mono ?_
      rintro e jD ⟨rfl,rfl⟩
      go_wp2_with fail
      refine (ph _).mono ?_
      rintro e jD ⟨rfl,rfl⟩
      go_wp2_with fail
      go_ret
      exact ⟨rfl,HBF.out⟩
    . by_cases q2:8<k2
      . have b1:decide (k2<1)=false:=ea q1;have b2:decide (8<k2)=true:=ca q2;have yI:ev=1:=by rw [HV.out];exact if_neg (by omega)
        clear HV q1 q2;subst yI
        go_wp2_with fail
        obtain ⟨z,hz,z2,z3,z4,z5,hp⟩:=TZ.out w3 p m l _ _ fK.out;refine (Po p z k x y _ z2 z3 z4 z5 hz hp).mono ?_
        rintro e tO ⟨rfl,hb⟩;have uO:=Lib.hid ((H3.out.trans (fK.out.below.mono H3.out.size)).trans (hb.mono ((H3.out.trans (fK.out.below.mono H3.out.size)).size)));clear hb hz z2 z3 z4 z5 hp c0 c1 c2 c3 c4 c5 fK TZ
        go_upto_region 17 with fail
        obtain ⟨ku,Vk⟩:∃ku,ku=tO.alloc (.cells #[.int .i64 k, .int .u32 x, .int .u32 y] 29):=⟨_,rfl⟩;rw [<-Vk];obtain ⟨tb,JH⟩:∃tb,tb=tO.heap.size:=⟨_,rfl⟩;rw [<-JH];have HT:Hid (∀w,Below ku.heap.size ku w->(w.cell? ⟨tb,0,none⟩=some (.int .i64 k)/\w.cell? ⟨tb,1,none⟩=some (.int .u32 x)/\w.cell? ⟨tb,2,none⟩=some (.int .u32 y))/\Below W1.heap.size W1 w):=Lib.hid fun w hb=>by
         have h:=heap_alloc_new tO (.cells #[.int .i64 k, .int .u32 x, .int .u32 y] 29);rw [<-Vk,<-JH,<-hb.block tb (by rw [Vk,JH];simp)]at h;have Bv:Below W1.heap.size W1 ku:=by rw [Vk];exact uO.out.alloc uO.out.size _
         exact ⟨⟨ga h 0 _ rfl,ga h 1 _ rfl,ga h 2 _ rfl⟩,Bv.trans (hb.mono Bv.size)⟩
        clear Vk JH uO H3
        go_wp2_with fail
        refine (Em _).mono ?_
        rintro e w14 ⟨rfl,hb⟩;have vO:=Lib.hid hb;clear hb
        go_upto_region 19 with fail
        obtain ⟨wO,lu⟩:∃wO,wO=w14.alloc (.cells #[.int .i64 0, .int .u32 0] 60):=⟨_,rfl⟩;rw [<-lu];have xO:Hid (Below ku.heap.size ku wO):=Lib.hid (by rw [lu];exact vO.out.alloc vO.out.size _);clear lu vO
        go_wp2_with fail
        refine (HA.out _).mono ?_
        rintro e w16 ⟨rfl,hb⟩;have H16:=Lib.hid (xO.out.trans (hb.mono xO.out.size));clear hb xO;obtain ⟨⟨t0,t1,t2⟩,Bv⟩:=HT.out _ H16.out;obtain ⟨⟨g0,g1,g2,g3⟩,⟨c0,c1,c2,c3,c4,c5⟩,Ih⟩:=qt.out _ Bv;have wD:=Lib.hid Ih;clear Bv Ih g0 g1 g2 g3
        go_wp2_with fail
        refine (lj _ _ _ _).mono ?_
        rintro e w17 ⟨rfl,hb⟩;have HBF:=Lib.hid (wD.out.trans (hb.mono wD.out.size));clear hb t0 t1 t2 c0 c1 c2 c3 c4 c5 wD
        go_wp2_with fail
        refine (Gm _ _).mono ?_
        rintro e jD ⟨rfl,rfl⟩
        go_wp2_with fail
        refine (ek _).mono ?_
        rintro e jD ⟨rfl,rfl⟩
        go_wp2_with fail
        refine (Hm _).mono ?_
        rintro e jD ⟨rfl,rfl⟩
        go_wp2_with fail
        refine (jk _).mono ?_
        rintro e jD ⟨rfl,rfl⟩
        go_wp2_with fail
        refine (kj _).mono ?_
        rintro e jD ⟨rfl,rfl⟩
        go_wp2_with fail
        refine (ph _).mono ?_
        rintro e jD ⟨rfl,rfl⟩
        go_wp2_with fail
        go_ret
        exact ⟨rfl,HBF.out⟩
      . have b1:decide (k2<1)=false:=ea q1;have b2:decide (8<k2)=false:=ea q2;have yI:ev=7:=by rw [HV.out];exact if_pos (by omega)
        clear HV q1 q2;subst yI
        go_wp2_with fail
        obtain ⟨z,hz,z2,z3,z4,z5,hp⟩:=TZ.out w3 p m l _ _ fK.out;refine (Po p z k x y _ z2 z3 z4 z5 hz hp).mono ?_
        rintro e tO ⟨rfl,hb⟩;have uO:=Lib.hid ((H3.out.trans (fK.out.below.mono H3.out.size)).trans (hb.mono ((H3.out.trans (fK.out.below.mono H3.out.size)).size)));clear hb hz z2 z3 z4 z5 hp c0 c1 c2 c3 c4 c5 fK TZ
        go_upto_region 17 with fail
        obtain ⟨ku,Vk⟩:∃ku,ku=tO.alloc (.cells #[.int .i64 k, .int .u32 x, .int .u32 y] 29):=⟨_,rfl⟩;rw [<-Vk];obtain ⟨tb,JH⟩:∃tb,tb=tO.heap.size:=⟨_,rfl⟩;rw [<-JH];have HT:Hid (∀w,Below ku.heap.size ku w->(w.cell? ⟨tb,0,none⟩=some (.int .i64 k)/\w.cell? ⟨tb,1,none⟩=some (.int .u32 x)/\w.cell? ⟨tb,2,none⟩=some (.int .u32 y))/\Below W1.heap.size W1 w):=Lib.hid fun w hb=>by
         have h:=heap_alloc_new tO (.cells #[.int .i64 k, .int .u32 x, .int .u32 y] 29);rw [<-Vk,<-JH,<-hb.block tb (by rw [Vk,JH];simp)]at h;have Bv:Below W1.heap.size W1 ku:=by rw [Vk];exact uO.out.alloc uO.out.size _
         exact ⟨⟨ga h 0 _ rfl,ga h 1 _ rfl,ga h 2 _ rfl⟩,Bv.trans (hb.mono Bv.size)⟩
        clear Vk JH uO H3
        go_wp2_with fail
        refine (Em _).mono ?_
        rintro e w14 ⟨rfl,hb⟩;have vO:=Lib.hid hb;clear hb
        go_upto_region 19 with fail
        obtain ⟨wO,lu⟩:∃wO,wO=w14.alloc (.cells #[.int .i64 0, .int .u32 0] 60):=⟨_,rfl⟩;rw [<-lu];have xO:Hid (Below ku.heap.size ku wO):=Lib.hid (by rw [lu];exact vO.out.alloc vO.out.size _);clear lu vO
        go_wp2_with fail
        refine (HA.out _).mono ?_
        rintro e w16 ⟨rfl,hb⟩;have H16:=Lib.hid (xO.out.trans (hb.mono xO.out.size));clear hb xO;obtain ⟨⟨t0,t1,t2⟩,Bv⟩:=HT.out _ H16.out;obtain ⟨⟨g0,g1,g2,g3⟩,⟨c0,c1,c2,c3,c4,c5⟩,Ih⟩:=qt.out _ Bv;have wD:=Lib.hid Ih;clear Bv Ih g0 g1 g2 g3
        go_wp2_with fail
        refine (lj _ _ _ _).mono ?_
        rintro e w17 ⟨rfl,hb⟩;have HBF:=Lib.hid (wD.out.trans (hb.mono wD.out.size));clear hb t0 t1 t2 c0 c1 c2 c3 c4 c5 wD
        go_wp2_with fail
        refine (Gm _ _).mono ?_
        rintro e jD ⟨rfl,rfl⟩
        go_wp2_with fail
        refine (ek _).mono ?_
        rintro e jD ⟨rfl,rfl⟩
        go_wp2_with fail
        refine (Hm _).mono ?_
        rintro e jD ⟨rfl,rfl⟩
        go_wp2_with fail
        refine (jk _).mono ?_
        rintro e jD ⟨rfl,rfl⟩
        go_wp2_with fail
        refine (kj _).mono ?_
        rintro e jD ⟨rfl,rfl⟩
        go_wp2_with fail
        refine (ph _).mono ?_
        rintro e jD ⟨rfl,rfl⟩
        go_wp2_with fail
        go_ret
        exact ⟨rfl,HBF.out⟩
end Sk
end Go.Proofs.YtfnkmolffhfpoaaGreat
namespace Go.Proofs.YtfnkmolffhfpoaaGreat
namespace Sk
open Go.RowKit
inductive Fm where
 |seq(n:Nat)(b:Code)
 |blk(i:Nat)
 |loop(n:Nat)(a:Code)
inductive Fo where
 |code(n:Nat)(c:Code)(t:Tm)(ms:List Nat)(σ:AH)
 |res(r:Hh)
noncomputable section
def fmR(E:Env):Fm->Option Hh->Option Hh
 | .seq n b,r=>match r with
   |some (.at .normal t ms σ)=>run E n (.code false b t ms σ)
   |r=>r
 | .blk i,r=>match r with
   |some (.at (.exit j) t ms σ)=>match Nat.beq i j with|true=>some (.at .normal t ms σ)|false=>some (.at (.exit j) t ms σ)
   |r=>r
 | .loop n a,r=>match r with
   |some (.at .normal t ms σ)=>run E n (.code false (.loop a) t ms σ)
   |r=>r
def kD(E:Env):List Fm->Option Hh->Option Hh
 |[],r=>r
 |f::K,r=>kD E K (fmR E f r)
def whole(E:Env):Fo->List Fm->Option Hh
 | .code n c t ms σ,K=>kD E K (run E n (.code false c t ms σ))
 | .res r,K=>kD E K (some r)
def yO(E:Env)(n:Nat)(c:Code)(t:Tm)(ms:List Nat)(σ:AH)(K:List Fm):Option (Fo×List Fm):=
 match run E n (.code false c t ms σ)with
 |some r=>some (.res r,K)
 |none=>none
def KH(E:Env):Fo->List Fm->Option (Fo×List Fm)
 | .code n c t ms σ,K=>match n with
   |0=>none
   |m+1=>match c with
    | .seq a b=>some (.code m a t ms σ, .seq m b::K)
    | .block i a=>some (.code m a t ms σ, .blk i::K)
    | .loop a=>some (.code m a t ms σ, .loop m a::K)
    |c=>yO E (Nat.succ m) c t ms σ K
 | .res r,K=>match K with
   |[]=>none
   |f::K=>match f with
    | .seq n b=>match r with
      | .at .normal t ms σ=>some (.code n b t ms σ,K)
      |r=>some (.res r,K)
    | .blk i=>match r with
      | .at (.exit j) t ms σ=>match Nat.beq i j with|true=>some (.res (.at .normal t ms σ),K)|false=>some (.res (.at (.exit j) t ms σ),K)
      |r=>some (.res r,K)
    | .loop n a=>match r with
      | .at .normal t ms σ=>some (.code n (.loop a) t ms σ,K)
      |r=>some (.res r,K)
def UZ(E:Env):Nat->Fo->List Fm->Option (Fo×List Fm)
 |0,f,K=>some (f,K)
 |m+1,f,K=>match KH E f K with
  |some (f',K')=>UZ E m f' K'
  |none=>none
theorem zO{E:Env}{n:Nat}{c:Code}{t:Tm}{ms:List Nat}{σ:AH}{K:List Fm}{f':Fo}{K':List Fm}(h:yO E n c t ms σ K=some (f',K')):whole E (.code n c t ms σ) K=whole E f' K':=by
 unfold yO at h;cases hr:run E n (.code false c t ms σ)with
 |none=>rw [hr]at h;cases h
 |some r=>
  rw [hr]at h;cases h;simp only [whole,hr]
theorem AO{E:Env}{f:Fo}{K:List Fm}{f':Fo}{K':List Fm}(h:KH E f K=some (f',K')):whole E f K=whole E f' K':=by
 unfold KH at h
 split at h
 . rename_i n c t ms σ
   split at h
   . cases h
   . rename_i m
     split at h
     . rename_i a b;cases h;simp only [whole,kD]
       congr 1
     . rename_i i a;cases h;simp only [whole,kD]
       congr 1
     . rename_i a;cases h;simp only [whole,kD]
       congr 1
     . exact zO h
 . rename_i r
   split at h
   . cases h
   . rename_i fm K;simp only [whole,kD]
     split at h
     . split at h
       . cases h;simp only [whole,fmR]
       . rename_i hn;cases h;simp only [whole]
         congr 1
         cases r with
         |val v s=>rfl
         |«at»x t1 m1 s1=>cases x<;>first|rfl|exact absurd rfl (hn _ _ _)
     . split at h
       . split at h
         . rename_i hb;cases h;simp only [whole,fmR,hb]
         . rename_i hb;cases h;simp only [whole,fmR,hb]
       . rename_i hn;cases h;simp only [whole]
         congr 1
         cases r with
         |val v s=>rfl
         |«at»x t1 m1 s1=>cases x<;>first|rfl|exact absurd rfl (hn _ _ _ _)
     . split at h
       . cases h;simp only [whole,fmR]
       . rename_i hn;cases h;simp only [whole]
         congr 1
         cases r with
         |val v s=>rfl
         |«at»x t1 m1 s1=>cases x<;>first|rfl|exact absurd rfl (hn _ _ _)
theorem BF{E:Env}:∀{m:Nat} {f:Fo} {K:List Fm} {f':Fo} {K':List Fm},UZ E m f K=some (f',K')->whole E f K=whole E f' K'
 |0,f,K,f',K',h=>by cases h;rfl
 |m+1,f,K,f',K',h=>by
  simp only [UZ]at h;cases hs:KH E f K with
  |none=>rw [hs]at h;cases h
  |some q=>
   obtain ⟨f1,K1⟩:=q;rw [hs]at h;exact (AO hs).trans (BF h)
def mu:Code->List Nat->Code
 |c,[]=>c
 | .seq a b,n::p=>match n with|0=>mu a p|_=>mu b p
 | .cond _ a b,n::p=>match n with|0=>mu a p|_=>mu b p
 | .block _ a,_::p=>mu a p
 | .loop a,_::p=>mu a p
 | .rangeFunc _ _ a b,n::p=>match n with|0=>mu a p|_=>mu b p
 |c,_=>c
def BO(E:Env)(f:FuncId):Code:=match E.fn f with|some fn=>(match fn.body with|some c=>c|none=> .skip)|none=> .skip
def CF(E:Env)(f:FuncId)(n:Nat):Fo:=match E.fn f with
 |some fn=>(match fn.body with|some c=> .code n c ⟨fn.ntmps,some undef, .nil⟩ [] ⟨Nat.zero, .nil⟩|none=> .res (.val undef ⟨Nat.zero, .nil⟩))
 |none=> .res (.val undef ⟨Nat.zero, .nil⟩)
def CO(E:Env)(f:FuncId):Option (Fo×List Fm)->Bool
 |some (.res r,[])=>match E.fn f with|some fn=>Um (tell E fn (some r))|none=>false
 |_=>false
def LH(E:Env)(f:FuncId)(r:Option Hh):Bool:=match E.fn f with|some fn=>Um (tell E fn r)|none=>false
theorem DO{E:Env}{f:FuncId}{m:Nat}{fo:Fo}{K:List Fm}(h:CO E f (UZ E m fo K)=true):LH E f (whole E fo K)=true:=by
 unfold CO at h;cases hi:UZ E m fo K with
 |none=>rw [hi]at h;cases h
 |some q=>
  obtain ⟨f1,K1⟩:=q;rw [hi]at h;rw [BF hi];cases f1 with
  |code=>cases h
  |res r=>cases K1 with
   |cons=>cases h
   |nil=>exact h
theorem EO{E:Env}{f:FuncId}{n:Nat}(ho:E.NW f=none)(h:LH E f (whole E (CF E f n) [])=true):Um (run E (n+1) (.call f [] ⟨0, .nil⟩))=true:=by
 unfold LH CF at h;simp only [run,step,ho];cases hf:E.fn f with
 |none=>simp [hf]at h
 |some fn=>
  simp only [hf]at h;cases hb:fn.body with
  |none=>simp [hb,whole,kD,tell,Um]at h
  |some c=>
   simp only [hb]at h
   show Um (match fn.body with
    |none=>none
    |some c=>tmpsOf 0 [] ⟨fn.ntmps,some undef, .nil⟩ fun t=>tell E fn (run E n (.code false c t [] ⟨0, .nil⟩)))=true
   simp only [hb];exact h
namespace Sh
abbrev i(m:Nat):Value:= .int .i64 (.ofNat m)
abbrev u(m:Nat):Value:= .int .u64 (.ofNat m)
abbrev p(b o:Nat):Value:= .pointer (some ⟨b,o,none⟩)
abbrev z{α:Type}:Tr α:= .nil
abbrev l{α:Type}(x:α):Tr α:= .node .nil (some x) .nil
abbrev n{α:Type}(a:Tr α)(v:Option α)(b:Tr α):Tr α:= .node a v b
abbrev m{α:Type}(a:Tr α)(v:α)(b:Tr α):Tr α:= .node a (some v) b
abbrev y{α:Type}(a b:Tr α):Tr α:= .node a none b
abbrev q(n:Nat)(e:TypeId)(t:Tr Value):ya:= .cells ⟨n,none,t⟩ e true
end Sh
end
end Sk
end Go.Proofs.YtfnkmolffhfpoaaGreat
namespace Go.Proofs.YtfnkmolffhfpoaaGreat
namespace Sk
noncomputable def vw:Env:=⟨env.P,env.fn,env.ty,env.ov,fun _=>none,fun _ _ _=>none,[],fun _ v=>v⟩
noncomputable def b23:Code:=BO vw 23
noncomputable def fal:Code:=BO vw 103
end Sk
end Go.Proofs.YtfnkmolffhfpoaaGreat
