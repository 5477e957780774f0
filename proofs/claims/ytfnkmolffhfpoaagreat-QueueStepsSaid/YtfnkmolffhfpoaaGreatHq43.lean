/- -/
import Derived.Test.YtfnkmolffhfpoaaGreatHq42
import Derived.Sort.CutIn
import Derived.WalkSmall
import Derived.Deep.RegionHeld3
import Derived.Test.YtfnkmolffhfpoaaGreatHq12
import Derived.Test.YtfnkmolffhfpoaaGreatHq16
import Derived.Test.YtfnkmolffhfpoaaGreatHq15
import Derived.KernelRfl
set_option linter.unusedVariables false
set_option linter.unusedSimpArgs false
set_option maxRecDepth 1000000
namespace Go.Proofs.YtfnkmolffhfpoaaGreat
namespace Sk
open Go.RowKit Go.BigFrame
set_option maxRecDepth 100000 in
set_option maxHeartbeats 4000000 in
theorem WW(HA:Hid (Sx Tryz.prog 7))(th sl Xa bu:Nat)(a:Option Addr)(len cap:Nat)(t k x y:Int)(a2:Option Addr)(n2 zr:Nat)(f:Nat->LA)(W W1:World)(W6:n2<=150)
  (VJ:Hid (W1=((W.alloc (.cells #[.int .i64 (th:Int), .int .i64 (sl:Int), .int .i64 (Xa:Int), .int .i64 (bu:Int), .slice a len cap] 26)).alloc (.cells #[.int .i64 t, .int .i64 k, .int .u32 x, .int .u32 y] 31))))
  (hPK:kj W a2 n2 f)
  (HL:Hid (Calls Tryz.prog 6 #[.agg #[.int .i64 (th:Int), .int .i64 (sl:Int), .int .i64 (Xa:Int), .int .i64 (bu:Int), .slice a len cap]] W1 fun e w2=>∃l m r,e= .returned (.tuple #[.pointer (some ⟨l,0,none⟩), .pointer (some ⟨m,0,none⟩), .pointer (some ⟨r,0,none⟩), .bool true])/\Below W1.heap.size W1 w2/\∀j,Calls Tryz.prog 8 #[.pointer (some ⟨l,0,none⟩), .int .i64 t, .agg #[.int .i64 k, .int .u32 x, .int .u32 y]] (w2.drewN j) fun e w3=>∃v,e= .returned v/\Below W1.heap.size W1 w3/\Calls Tryz.prog 9 #[.agg #[.int .i64 (th:Int), .int .i64 (sl:Int), .int .i64 (Xa:Int), .int .i64 (bu:Int)], .int .i64 t, .agg #[.int .i64 k, .int .u32 x, .int .u32 y]] w3 fun e w4=>∃p q,v= .pointer (some ⟨p,0,none⟩)/\e= .returned (.pointer (some ⟨q,0,none⟩))/\Ng W1 p q m r l ⟨th,sl,Xa,bu⟩ 200 w4)):
  Calls Tryz.prog 3 #[.agg #[.int .i64 (th:Int), .int .i64 (sl:Int), .int .i64 (Xa:Int), .int .i64 (bu:Int), .slice a len cap], .agg #[.int .i64 t, .int .i64 k, .int .u32 x, .int .u32 y], .slice a2 n2 zr] W (Cd (.bool true) W):=by
 have Ni:=VJ.out;have Fy:W1.heap[W.heap.size]?=some (.cells #[.int .i64 (th:Int), .int .i64 (sl:Int), .int .i64 (Xa:Int), .int .i64 (bu:Int), .slice a len cap] 26 (0,0)):=by rw [Ni,Below.heap_alloc _ _ _ (by simp)];exact heap_alloc_new _ _
 have UN:W1.heap[W.heap.size+1]?=some (.cells #[.int .i64 t, .int .i64 k, .int .u32 x, .int .u32 y] 31 (0,0)):=by
  have:=heap_alloc_new (W.alloc (.cells #[.int .i64 (th:Int), .int .i64 (sl:Int), .int .i64 (Xa:Int), .int .i64 (bu:Int), .slice a len cap] 26)) (.cells #[.int .i64 t, .int .i64 k, .int .u32 x, .int .u32 y] 31);rw [World.size_alloc]at this;rw [Ni];exact this
 have g0:=ja Fy 0 _ rfl;have g1:=ja Fy 1 _ rfl;have g2:=ja Fy 2 _ rfl;have g3:=ja Fy 3 _ rfl;have g4:=ja Fy 4 _ rfl;have v0:=ja UN 0 _ rfl;have v1:=ja UN 1 _ rfl;have v2:=ja UN 2 _ rfl;have v3:=ja UN 3 _ rfl;have HBA:Hid (Below W.heap.size W W1):=Lib.hid (by rw [Ni];exact ((Below.refl _ _).alloc (Nat.le_refl _) _).alloc (by simp) _);have HRG:Hid (∀w,Below W1.heap.size W1 w->w.heap[W.heap.size]?=some (.cells #[.int .i64 (th:Int), .int .i64 (sl:Int), .int .i64 (Xa:Int), .int .i64 (bu:Int), .slice a len cap] 26 (0,0))/\w.heap[W.heap.size+1]?=some (.cells #[.int .i64 t, .int .i64 k, .int .u32 x, .int .u32 y] 31 (0,0))):=Lib.hid fun w hb=>⟨(hb.block _ (Db Fy)).trans Fy,(hb.block _ (Db UN)).trans UN⟩
 have HPK:Hid (∀w,Below W1.heap.size W1 w->kj w a2 n2 f):=Lib.hid fun w hb=>(hPK.below HBA.out).below hb
 have d1:decide ((150:Int)<(n2:Int))=false:=decide_eq_false (by omega);have d2:decide (150<n2)=false:=decide_eq_false (by omega);have IX:=Lib.hid W6;clear Ni Fy UN hPK W6
 go_enter Tryz.func3,Tryz.ntmps3
 go_upto_region 1 with fail
 rw [<-VJ.out]
 go_upto_region 4 with(first|(go_at_call 6;refine HL.out.mono ?_;rintro e w2 ⟨l,m,r,rfl,hb,hnx⟩;have oO:=Lib.hid hb;have HNX:=Lib.hid hnx;clear hb hnx g0 g1 g2 g3 g4 v0 v1 v2 v3;obtain ⟨rg,rw⟩:=HRG.out _ oO.out;have g0:=ja rg 0 _ rfl;have g1:=ja rg 1 _ rfl;have g2:=ja rg 2 _ rfl;have g3:=ja rg 3 _ rfl;have v0:=ja rw 0 _ rfl;have v1:=ja rw 1 _ rfl;have v2:=ja rw 2 _ rfl;have v3:=ja rw 3 _ rfl;clear rg rw))
 go_cut [11,12]from 30 (fun v11 v12 wx=>∃p q,v11= .pointer (some ⟨p,0,none⟩)/\v12= .pointer (some ⟨q,0,none⟩)/\Hid (Ng W1 p q m r l ⟨th,sl,Xa,bu⟩ 200 wx))
 case first=>
  go_region_held3 (fun w'=>w'.cell? ⟨W.heap.size,0,none⟩=some (.int .i64 (th:Int))/\w'.cell? ⟨W.heap.size,1,none⟩=some (.int .i64 (sl:Int))/\w'.cell? ⟨W.heap.size,2,none⟩=some (.int .i64 (Xa:Int))/\w'.cell? ⟨W.heap.size,3,none⟩=some (.int .i64 (bu:Int))/\w'.cell? ⟨W.heap.size+1,0,none⟩=some (.int .i64 t)/\w'.cell? ⟨W.heap.size+1,1,none⟩=some (.int .i64 k)/\w'.cell? ⟨W.heap.size+1,2,none⟩=some (.int .u32 x)/\w'.cell? ⟨W.heap.size+1,3,none⟩=some (.int .u32 y)) (go_keep) (first
   |(go_at_call 8;refine ((HNX.out 1)).mono ?_;rintro e w3 ⟨v,rfl,hb,hnx⟩;have HNY:=Lib.hid hnx;obtain ⟨rg,rw⟩:=HRG.out _ hb;clear hb hnx;have e0:=ja rg 0 _ rfl;have e1:=ja rg 1 _ rfl;have e2:=ja rg 2 _ rfl;have e3:=ja rg 3 _ rfl;have f0:=ja rw 0 _ rfl;have f1:=ja rw 1 _ rfl;have f2:=ja rw 2 _ rfl;have f3:=ja rw 3 _ rfl;clear rg rw)
   |(go_at_call 9;refine HNY.out.mono ?_;rintro e w4 ⟨p,q,rfl,rfl,hr⟩;have HRD:=Lib.hid hr;obtain ⟨rg,rw⟩:=HRG.out _ hr.below;clear hr e0 e1 e2 e3 f0 f1 f2 f3;have e0:=ja rg 0 _ rfl;have e1:=ja rg 1 _ rfl;have e2:=ja rg 2 _ rfl;have e3:=ja rg 3 _ rfl;have f0:=ja rw 0 _ rfl;have f1:=ja rw 1 _ rfl;have f2:=ja rw 2 _ rfl;have f3:=ja rw 3 _ rfl;clear rg rw))
  all_goals
   go_wp2_with fail
   go_meet
   exact ⟨p,q,rfl,rfl,HRD⟩
 case rest=>
  obtain ⟨p,q,rfl,rfl,HR0⟩:=hcut;clear HNX HL HRG g0 g1 g2 g3 v0 v1 v2 v3 oO
  go_wp2_with fail
  go_loopw [13] (fun i wr=>∃j:Nat,j<=n2/\i= .int .i64 j/\Hid (Ng W1 p q m r l ⟨th,sl,Xa,bu⟩ (200+30*j) wr)) (fun i _=>n2 -(intOf i).toNat)
  case atStart=>exact ⟨0,Nat.zero_le _,rfl,HR0⟩
  case round=>
   obtain ⟨j,hj,rfl,HJ⟩:=hrel;by_cases zb:j<n2
   . have e1:decide ((j:Int)<(n2:Int))=true:=ea (by omega);have e2:decide (j<n2)=true:=ea zb;have e3:(0:Int)<=(j:Int):=by omega
     have e4:(j:Int)<(n2:Int):=by omega
     obtain ⟨b,off,rfl,hbs,c0,c1,c2,c3,c4,c5,Qr,bc⟩:=HPK.out wr HJ.out.below j zb;have X4:Hid (200+30*j<=900000/\j<n2/\n2<=150):=Lib.hid (by have:=IX.out;omega);have II:=Lib.hid fun(n:Nat) (w:World) (h:Ng W1 p q m r l ⟨th,sl,Xa,bu⟩ n w) (hn:n<=900000)=>GI h hn (f j).ki (f j).th (f j).pl (f j).ol (f j).ne Qr.1 Qr.2 bc
     obtain ⟨ki,hki⟩:∃z,z=(f j).ki:=⟨_,rfl⟩
     obtain ⟨ht,hht⟩:∃z,z=(f j).th:=⟨_,rfl⟩
     obtain ⟨pl,yab⟩:∃z,z=(f j).pl:=⟨_,rfl⟩
     obtain ⟨ol,hol⟩:∃z,z=(f j).ol:=⟨_,rfl⟩
     obtain ⟨ne,Fq⟩:∃z,z=(f j).ne:=⟨_,rfl⟩
     obtain ⟨st,bo⟩:∃z,z=(f j).st:=⟨_,rfl⟩
     rw [<-hki]at c1 II;rw [<-hht]at c2 II;rw [<-yab]at c3 II;rw [<-hol]at c4 II;rw [<-Fq]at c5 II;rw [<-bo]at c0;have HCL:Hid (∀w,Below W1.heap.size W1 w->w.cell? ⟨b,off+j*6+1,none⟩=some (.int .i64 ki)/\w.cell? ⟨b,off+j*6+2,none⟩=some (.int .i64 ht)/\w.cell? ⟨b,off+j*6+3,none⟩=some (.int .i64 pl)/\w.cell? ⟨b,off+j*6+4,none⟩=some (.int .u64 ol)/\w.cell? ⟨b,off+j*6+5,none⟩=some (.int .u64 ne)):=Lib.hid fun w hb=>by
      obtain ⟨b',iaI,e',-,-,k1,k2,k3,k4,k5,-⟩:=HPK.out w hb j zb;cases e';rw [hki,hht,yab,hol,Fq];exact ⟨k1,k2,k3,k4,k5⟩
     clear hki hht yab hol Fq bo Qr bc zb hj hbs
     go_upto_if 53 with fail
     go_cut [14]from 43 to 137 (fun v14 wx=>Hid (Ng W1 p q m r l ⟨th,sl,Xa,bu⟩ (200+30*(j+1)) wx))
     case first=>
      cases st
      case true=>
       go_upto_region 11 with(first
        |(go_at_call 10;refine (fG HJ.out X4.out.1).mono ?_;rintro e w5 ⟨v,rfl,hs⟩;have HS:=Lib.hid hs;clear hs)
        |(go_at_call 11;refine HS.out.mono ?_;rintro e w6 ⟨⟨u,rfl⟩,hr,z,hz,rfl⟩;have HR6:=Lib.hid hr;have HZ:=Lib.hid hz;clear hr hz))
       have hz:=HZ.out;by_cases h0:z=0
       . subst h0
         go_wp2_with fail
         go_meet
         exact HR6
       . have h1:decide (z=0)=false:=decide_eq_false h0;have h2:(z==0)=false:=by simp [h0]
         rw [h1]
         go_wp2_with fail
         go_meet
         exact HR6
      case false=>
       go_wp2_with (first
        |(go_at_call 12;refine (II.out _ _ HJ.out X4.out.1).mono ?_;rintro e w5 ⟨⟨u,rfl⟩,hb,hm⟩;have HM:=Lib.hid hm;clear c0 c1 c2 c3 c4 c5;obtain ⟨c1,c2,c3,c4,c5⟩:=HCL.out _ hb;clear hb hm)
        |(go_at_call 13;refine HM.out.mono ?_;rintro e w6 ⟨⟨u2,rfl⟩,hr⟩;have HR6:=Lib.hid hr;clear hr))
       go_meet
       exact HR6
     case rest=>
      have HR:=hcut;clear II HCL c0 c1 c2 c3 c4 c5;obtain ⟨TS,z,x1,x2,x3,x4,x5,hT,hTR,ht,hsm,hdr⟩:=gG HR.out (by have:=X4.out;omega);have HT:=Lib.hid ht;have lh:Hid (∀w,TS w->DR rp q z x1 x2 x3 x4 x5 w):=Lib.hid ht.at_;have HSM:=Lib.hid hsm;have HDR:=Lib.hid hdr;have HTR:=Lib.hid hTR;have HT0:=Lib.hid hT;obtain ⟨hv,mJ⟩:=ht.holds;have HHD:=Lib.hid mJ;clear hT hTR ht hsm mJ hdr
      go_upto_region 15 with fail
      go_cut [137]from 43 to 137 (fun AaC wx=>AaC= .bool false/\Hid (TS wx))
      case first=>
       have Cb:=HT0;have z0:wc.cell? ⟨q,8,none⟩=some (.int .i64 z):=(lh.out _ Cb.out).line;have z1:wc.cell? ⟨q,52,none⟩=some (.int .i64 x1):=(lh.out _ Cb.out).res;have z2:wc.cell? ⟨q,53,none⟩=some (.int .u32 x2):=(lh.out _ Cb.out).val;have z3:wc.cell? ⟨q,54,none⟩=some (.int .i64 x3):=(lh.out _ Cb.out).Sg;have z4:wc.cell? ⟨q,55,none⟩=some (.int .i64 x4):=(lh.out _ Cb.out).Mg;have z5:wc.cell? ⟨q,56,none⟩=some (.int .i64 x5):=(lh.out _ Cb.out).writes
       clear Cb;obtain ⟨bz,Kh,tg⟩:∃bz:Bool,decide (z=0)=bz/\(z==0)=bz:=⟨_,rfl,by by_cases h:z=0<;>simp [h]⟩;have HDN:Hid (∀w,TS w->Calls Tryz.prog 15 #[.pointer (some ⟨p,0,none⟩)] w fun e w'=>e= .returned (.bool bz)/\TS w'):=Lib.hid fun w h=>by rw [<-Kh];exact HT.out.done w h
       clear Kh;clear HJ HR HR0 HPK HA HBA VJ IX X4
       go_region_held3 (fun w'=>w'.cell? ⟨q,8,none⟩=some (.int .i64 z)/\w'.cell? ⟨q,52,none⟩=some (.int .i64 x1)/\w'.cell? ⟨q,53,none⟩=some (.int .u32 x2)/\w'.cell? ⟨q,54,none⟩=some (.int .i64 x3)/\w'.cell? ⟨q,55,none⟩=some (.int .i64 x4)/\w'.cell? ⟨q,56,none⟩=some (.int .i64 x5)) (go_keep) (first|(go_at_call 14;refine (HSM.out _ (HDR.out _ 1 HT0.out)).mono ?_;rintro e wa ⟨rfl,hb⟩;have Cb:=Lib.hid hb;clear hb z0 z1 z2 z3 z4 z5;have z0:wa.cell? ⟨q,8,none⟩=some (.int .i64 z):=(lh.out _ Cb.out).line;have z1:wa.cell? ⟨q,52,none⟩=some (.int .i64 x1):=(lh.out _ Cb.out).res;have z2:wa.cell? ⟨q,53,none⟩=some (.int .u32 x2):=(lh.out _ Cb.out).val;have z3:wa.cell? ⟨q,54,none⟩=some (.int .i64 x3):=(lh.out _ Cb.out).Sg;have z4:wa.cell? ⟨q,55,none⟩=some (.int .i64 x4):=(lh.out _ Cb.out).Mg;have z5:wa.cell? ⟨q,56,none⟩=some (.int .i64 x5):=(lh.out _ Cb.out).writes)|(go_at_call 15;refine (HDN.out _ Cb.out).mono ?_;rintro e wb ⟨rfl,hb⟩;have Cb:=Lib.hid hb;clear hb z0 z1 z2 z3 z4 z5;have z0:wb.cell? ⟨q,8,none⟩=some (.int .i64 z):=(lh.out _ Cb.out).line;have z1:wb.cell? ⟨q,52,none⟩=some (.int .i64 x1):=(lh.out _ Cb.out).res;have z2:wb.cell? ⟨q,53,none⟩=some (.int .u32 x2):=(lh.out _ Cb.out).val;have z3:wb.cell? ⟨q,54,none⟩=some (.int .i64 x3):=(lh.out _ Cb.out).Sg;have z4:wb.cell? ⟨q,55,none⟩=some (.int .i64 x4):=(lh.out _ Cb.out).Mg;have z5:wb.cell? ⟨q,56,none⟩=some (.int .i64 x5):=(lh.out _ Cb.out).writes)|(go_at_call 16;refine (HT.out.result _ Cb.out).mono ?_;rintro e wd ⟨rfl,hb⟩;have Cb:=Lib.hid hb;clear hb z0 z1 z2 z3 z4 z5;have z0:wd.cell? ⟨q,8,none⟩=some (.int .i64 z):=(lh.out _ Cb.out).line;have z1:wd.cell? ⟨q,52,none⟩=some (.int .i64 x1):=(lh.out _ Cb.out).res;have z2:wd.cell? ⟨q,53,none⟩=some (.int .u32 x2):=(lh.out _ Cb.out).val;have z3:wd.cell? ⟨q,54,none⟩=some (.int .i64 x3):=(lh.out _ Cb.out).Sg;have z4:wd.cell? ⟨q,55,none⟩=some (.int .i64 x4):=(lh.out _ Cb.out).Mg;have z5:wd.cell? ⟨q,56,none⟩=some (.int .i64 x5):=(lh.out _ Cb.out).writes)|(go_at_call 17;refine ((HHD.out _ Cb.out).1).mono ?_;rintro e we ⟨rfl,hb⟩;have Cb:=Lib.hid hb;clear hb z0 z1 z2 z3 z4 z5;have z0:we.cell? ⟨q,8,none⟩=some (.int .i64 z):=(lh.out _ Cb.out).line;have z1:we.cell? ⟨q,52,none⟩=some (.int .i64 x1):=(lh.out _ Cb.out).res;have z2:we.cell? ⟨q,53,none⟩=some (.int .u32 x2):=(lh.out _ Cb.out).val;have z3:we.cell? ⟨q,54,none⟩=some (.int .i64 x3):=(lh.out _ Cb.out).Sg;have z4:we.cell? ⟨q,55,none⟩=some (.int .i64 x4):=(lh.out _ Cb.out).Mg;have z5:we.cell? ⟨q,56,none⟩=some (.int .i64 x5):=(lh.out _ Cb.out).writes)|(go_at_call 18;refine ((HHD.out _ Cb.out).2).mono ?_;rintro e wf ⟨rfl,hb⟩;have Cb:=Lib.hid hb;clear hb z0 z1 z2 z3 z4 z5;have z0:wf.cell? ⟨q,8,none⟩=some (.int .i64 z):=(lh.out _ Cb.out).line;have z1:wf.cell? ⟨q,52,none⟩=some (.int .i64 x1):=(lh.out _ Cb.out).res;have z2:wf.cell? ⟨q,53,none⟩=some (.int .u32 x2):=(lh.out _ Cb.out).val;have z3:wf.cell? ⟨q,54,none⟩=some (.int .i64 x3):=(lh.out _ Cb.out).Sg;have z4:wf.cell? ⟨q,55,none⟩=some (.int .i64 x4):=(lh.out _ Cb.out).Mg;have z5:wf.cell? ⟨q,56,none⟩=some (.int .i64 x5):=(lh.out _ Cb.out).writes)|(go_at_call 19;refine (HT.out.Sg _ Cb.out).mono ?_;rintro e wg ⟨rfl,hb⟩;have Cb:=Lib.hid hb;clear hb z0 z1 z2 z3 z4 z5;have z0:wg.cell? ⟨q,8,none⟩=some (.int .i64 z):=(lh.out _ Cb.out).line;have z1:wg.cell? ⟨q,52,none⟩=some (.int .i64 x1):=(lh.out _ Cb.out).res;have z2:wg.cell? ⟨q,53,none⟩=some (.int .u32 x2):=(lh.out _ Cb.out).val;have z3:wg.cell? ⟨q,54,none⟩=some (.int .i64 x3):=(lh.out _ Cb.out).Sg;have z4:wg.cell? ⟨q,55,none⟩=some (.int .i64 x4):=(lh.out _ Cb.out).Mg;have z5:wg.cell? ⟨q,56,none⟩=some (.int .i64 x5):=(lh.out _ Cb.out).writes)|(go_at_call 20;refine (HT.out.Mg _ Cb.out).mono ?_;rintro e wh ⟨rfl,hb⟩;have Cb:=Lib.hid hb;clear hb z0 z1 z2 z3 z4 z5;have z0:wh.cell? ⟨q,8,none⟩=some (.int .i64 z):=(lh.out _ Cb.out).line;have z1:wh.cell? ⟨q,52,none⟩=some (.int .i64 x1):=(lh.out _ Cb.out).res;have z2:wh.cell? ⟨q,53,none⟩=some (.int .u32 x2):=(lh.out _ Cb.out).val;have z3:wh.cell? ⟨q,54,none⟩=some (.int .i64 x3):=(lh.out _ Cb.out).Sg;have z4:wh.cell? ⟨q,55,none⟩=some (.int .i64 x4):=(lh.out _ Cb.out).Mg;have z5:wh.cell? ⟨q,56,none⟩=some (.int .i64 x5):=(lh.out _ Cb.out).writes)|(go_at_call 21;refine (HT.out.writes _ Cb.out).mono ?_;rintro e wi ⟨rfl,hb⟩;have Cb:=Lib.hid hb;clear hb z0 z1 z2 z3 z4 z5;have z0:wi.cell? ⟨q,8,none⟩=some (.int .i64 z):=(lh.out _ Cb.out).line;have z1:wi.cell? ⟨q,52,none⟩=some (.int .i64 x1):=(lh.out _ Cb.out).res;have z2:wi.cell? ⟨q,53,none⟩=some (.int .u32 x2):=(lh.out _ Cb.out).val;have z3:wi.cell? ⟨q,54,none⟩=some (.int .i64 x3):=(lh.out _ Cb.out).Sg;have z4:wi.cell? ⟨q,55,none⟩=some (.int .i64 x4):=(lh.out _ Cb.out).Mg;have z5:wi.cell? ⟨q,56,none⟩=some (.int .i64 x5):=(lh.out _ Cb.out).writes))
       all_goals
        go_wp2_with fail
        go_meet
        exact ⟨rfl,Cb⟩
      case rest=>
       obtain ⟨rfl,HTW⟩:=hcut;have HRN:=Lib.hid (HTR.out _ HTW.out);clear HT lh HSM HTR HT0 HHD HTW HDR
       go_wp2_with fail
       go_roundw
       case rel=>
        have hw:wrap64 ((j:Int)+1)=(j:Int)+1:=by have:=X4.out;unfold wrap64;omega
        exact ⟨j+1,by have:=X4.out;omega,by first|(rw [hw];go_num)|go_num,HRN⟩
       case measure=>
        have hw:wrap64 ((j:Int)+1)=(j:Int)+1:=by have:=X4.out;unfold wrap64;omega
        try rw [hw]
        have h:=X4.out.2.1
        have e1:(intOf (.int .i64 ((j:Int)+1))).toNat=j+1:=by show((j:Int)+1).toNat=j+1;omega
        have e2:(intOf (.int .i64 (j:Int))).toNat=j:=by show((j:Int)).toNat=j;omega
        rw [e1,e2];exact Nat.sub_lt_sub_left h (Nat.lt_succ_self j)
   . obtain rfl:j=n2:=by omega
     have e1:decide ((j:Int)<(j:Int))=false:=by simp
     go_wp2_with (first|(go_at_call 7;refine (HA.out _).mono ?_;rintro e w9 ⟨rfl,hb⟩;have H9:=Lib.hid (HBA.out.trans (((HJ.out.below).trans (hb.mono HJ.out.below.size)).mono HBA.out.size));clear hb))
     go_ret
     exact ⟨rfl,H9.out⟩
theorem iG{{B:Nat}}{{w w':World}}(h:Lh (fun k=>B<=k) w w')(hB:B<=w.heap.size):Below B w w':=⟨h.os,h.tape,h.output,h.size,fun k hk=>h.block k (Nat.lt_of_lt_of_le hk hB) (by omega)⟩
theorem zab(th sl Xa bu:Nat)(hf:(⟨th,sl,Xa,bu⟩:Nc).Ho)(a:Option Addr)(len cap:Nat)(hl:len<=100)(at_ wv:Nat->Int)(t k x y:Int)(t0:-9223372036854775808<=t)(t1:t<=9223372036854775807)(k0:-9223372036854775808<=k)(k1:k<=9223372036854775807)(x0:0<=x)(x1:x<=4294967295)(y0:0<=y)(y1:y<=4294967295)(W1:World)(hP:vk W1 a len at_ wv):
  Calls Tryz.prog 6 #[.agg #[.int .i64 (th:Int), .int .i64 (sl:Int), .int .i64 (Xa:Int), .int .i64 (bu:Int), .slice a len cap]] W1 fun e w2=>∃l m r,e= .returned (.tuple #[.pointer (some ⟨l,0,none⟩), .pointer (some ⟨m,0,none⟩), .pointer (some ⟨r,0,none⟩), .bool true])/\Below W1.heap.size W1 w2/\∀j,Calls Tryz.prog 8 #[.pointer (some ⟨l,0,none⟩), .int .i64 t, .agg #[.int .i64 k, .int .u32 x, .int .u32 y]] (w2.drewN j) fun e w3=>∃v,e= .returned v/\Below W1.heap.size W1 w3/\Calls Tryz.prog 9 #[.agg #[.int .i64 (th:Int), .int .i64 (sl:Int), .int .i64 (Xa:Int), .int .i64 (bu:Int)], .int .i64 t, .agg #[.int .i64 k, .int .u32 x, .int .u32 y]] w3 fun e w4=>∃p q,v= .pointer (some ⟨p,0,none⟩)/\e= .returned (.pointer (some ⟨q,0,none⟩))/\Ng W1 p q m r l ⟨th,sl,Xa,bu⟩ 200 w4:=by
 refine (RF th sl Xa bu hf a len cap hl at_ wv W1 hP).mono ?_
 rintro e w2 (⟨h,-⟩|⟨-,l,M,N,rfl,h⟩)
 . exact absurd ⟨hf,hl⟩ h
 refine ⟨l,M.m,N.m,rfl,h.below,fun j=> ?_⟩;obtain ⟨M0,R0,CV,hR0,z1,z2,z3,z4,z5,z6,z7,z8,z9⟩:=h.Dh;obtain ⟨b1,b2,b3⟩:=SF M0 at_ wv len;obtain ⟨c1,c2,c3⟩:=Mx R0 at_ wv len;rw [<-CV]at b1 b2 b3;rw [<-hR0]at c1 c2 c3;have hu:∀i,i<len->Tc (wv i):=fun i hi=>by
  obtain ⟨b,off,-,-,-,-,-,h⟩:=hP i hi;exact h
 have BaC:Wd R0:=⟨fun k=>by rw [z4];exact u0,fun k=>by rw [z5];exact u0,fun k=>by rw [z6];exact u0,by omega,by omega,by omega,by omega⟩;have Qu:Wd N:=by rw [hR0];exact TF R0 BaC (by omega) at_ wv len hu (by omega) len (Nat.le_refl _)
 have j7:Ic M N:=⟨h.ud,fun k hk=>by rw [b1,c1,z1,z7],by omega⟩;have hd:Below w2.heap.size w2 (w2.drewN j):=ab (Below.refl _ _) j;have hbj:Below W1.heap.size W1 (w2.drewN j):=h.below.trans (hd.mono h.below.size);have hp:=zI (tab:=yu) (fN:=8) (fR:=9) xab hbj (h.lay.below hd h.lay.lt) (Oaa hf) (h.mem.below hd) (h.ref.below hd) (by have:=h.lo.1;omega) (fun k hk=>by obtain ⟨i1,i2,i3⟩:=h.lo.2.1 k hk;exact ⟨by omega,i2,i3⟩) (fun k hk=>by obtain ⟨i1,i2⟩:=h.lo.2.2 k hk;exact ⟨by omega,i2⟩) j7 Qu (by omega) (by omega) t k x y t0 t1 k0 k1 x0 x1 y0 y1;unfold Je at hp;refine hp.mono ?_
 rintro e w3 ⟨v,rfl,ht,h2⟩;refine ⟨v,rfl,iG ht (Nat.le_refl _), ?_⟩;unfold Je at h2;refine h2.mono ?_
 rintro e w4 ⟨v2,rfl,-,h3⟩;unfold Je at h3;obtain ⟨p,q,A,S,ρ,γ,R,hws,Qr,hg⟩:=h3;cases hws;refine ⟨p,q,rfl,rfl,A,S,ρ,γ,⟨R,Qr⟩,⟨by have:=hg.1.1;omega,by have:=hg.1.2;omega⟩, ?_⟩;rw [hg.2,<-h.ud.np,b3];exact z3
theorem CaC(HA:Hid (Sx Tryz.prog 7))(th sl Xa bu:Int)(a:Option Addr)(len cap:Nat)(hl:len<=9223372036854775807)(at_ wv:Nat->Int)(t k x y:Int)(t0:-9223372036854775808<=t)(t1:t<=9223372036854775807)(k0:-9223372036854775808<=k)(k1:k<=9223372036854775807)(x0:0<=x)(x1:x<=4294967295)(y0:0<=y)(y1:y<=4294967295)(a2:Option Addr)(n2 zr:Nat)(f:Nat->LA)(W:World)(hP:vk W a len at_ wv)(hK:kj W a2 n2 f):
  Calls Tryz.prog 3 #[.agg (wk ⟨th,sl,Xa,bu⟩ a len cap), .agg #[.int .i64 t, .int .i64 k, .int .u32 x, .int .u32 y], .slice a2 n2 zr] W (Cd (.bool true) W):=by
 by_cases hf:(⟨th,sl,Xa,bu⟩:Nc).Ho/\len<=100
 . obtain ⟨hf,hlen⟩:=hf;have hf':=hf;obtain ⟨⟨f1,f2,f3,f4,f5,f6,f7,f8⟩,f9,f10,f11,f12⟩:=hf';simp only at f1 f2 f3 f4 f5 f6 f7 f8 f9 f10 f11 f12;obtain ⟨th',rfl⟩:=Int.eq_ofNat_of_zero_le (show 0<=th by omega);obtain ⟨sl',rfl⟩:=Int.eq_ofNat_of_zero_le (show 0<=sl by omega);obtain ⟨lo2,rfl⟩:=Int.eq_ofNat_of_zero_le (show 0<=Xa by omega);obtain ⟨bu',rfl⟩:=Int.eq_ofNat_of_zero_le (show 0<=bu by omega);by_cases hn:150<n2
   . exact bO HA th' sl' lo2 bu' hf a len cap hlen at_ wv t k x y a2 n2 zr hn W hP
   . exact WW HA th' sl' lo2 bu' a len cap t k x y a2 n2 zr f W _ (by omega) (Lib.hid rfl) hK (Lib.hid (zab th' sl' lo2 bu' hf a len cap hlen at_ wv t k x y t0 t1 k0 k1 x0 x1 y0 y1 _ (hP.below (((Below.refl _ _).alloc (Nat.le_refl _) _).alloc (by simp) _))))
 . exact VW HA _ a len cap hl at_ wv t k x y a2 n2 zr W hf
end Sk
end Go.Proofs.YtfnkmolffhfpoaaGreat
namespace Go.Proofs.YtfnkmolffhfpoaaGreat
namespace Sk
open Go.RowKit
inductive Fm where
 |seq(n:Nat)(b:Code)
 |blk(i:Nat)
 |loop(n:Nat)(a:Code)
inductive Fo where
 |code(n:Nat)(c:Code)(t:Tm)(ms:List Nat)(σ:AH)
 |res(r:Ki)
noncomputable section
def fmR(E:Env):Fm->Option Ki->Option Ki
 | .seq n b,r=>match r with
   |some (.at .normal t ms σ)=>run E n (.code false b t ms σ)
   |r=>r
 | .blk i,r=>match r with
   |some (.at (.exit j) t ms σ)=>match Nat.beq i j with|true=>some (.at .normal t ms σ)|false=>some (.at (.exit j) t ms σ)
   |r=>r
 | .loop n a,r=>match r with
   |some (.at .normal t ms σ)=>run E n (.code false (.loop a) t ms σ)
   |r=>r
def jG(E:Env):List Fm->Option Ki->Option Ki
 |[],r=>r
 |f::K,r=>jG E K (fmR E f r)
def whole(E:Env):Fo->List Fm->Option Ki
 | .code n c t ms σ,K=>jG E K (run E n (.code false c t ms σ))
 | .res r,K=>jG E K (some r)
def MS(E:Env)(n:Nat)(c:Code)(t:Tm)(ms:List Nat)(σ:AH)(K:List Fm):Option (Fo×List Fm):=
 match run E n (.code false c t ms σ)with
 |some r=>some (.res r,K)
 |none=>none
def gL(E:Env):Fo->List Fm->Option (Fo×List Fm)
 | .code n c t ms σ,K=>match n with
   |0=>none
   |m+1=>match c with
    | .seq a b=>some (.code m a t ms σ, .seq m b::K)
    | .block i a=>some (.code m a t ms σ, .blk i::K)
    | .loop a=>some (.code m a t ms σ, .loop m a::K)
    |c=>MS E (Nat.succ m) c t ms σ K
 | .res r,K=>match K with
   |[]=>none
   |f::K=>match f with
    | .seq n b=>match r with
      | .at .normal t ms σ=>some (.code n b t ms σ,K)
      |r=>some (.res r,K)
    | .blk i=>match r with
      | .at (.exit j) t ms σ=>match Nat.beq i j with|true=>some (.res (.at .normal t ms σ),K)|false=>some (.res (.at (.exit j) t ms σ),K)
      |r=>some (.res r,K)
    | .loop n a=>match r with
      | .at .normal t ms σ=>some (.code n (.loop a) t ms σ,K)
      |r=>some (.res r,K)
def Y4(E:Env):Nat->Fo->List Fm->Option (Fo×List Fm)
 |0,f,K=>some (f,K)
 |m+1,f,K=>match gL E f K with
  |some (f',K')=>Y4 E m f' K'
  |none=>none
theorem NS{E:Env}{n:Nat}{c:Code}{t:Tm}{ms:List Nat}{σ:AH}{K:List Fm}{f':Fo}{K':List Fm}(h:MS E n c t ms σ K=some (f',K')):whole E (.code n c t ms σ) K=whole E f' K':=by
 unfold MS at h;cases hr:run E n (.code false c t ms σ)with
 |none=>rw [hr]at h;cases h
 |some r=>
  rw [hr]at h;cases h;simp only [whole,hr]
theorem OS{E:Env}{f:Fo}{K:List Fm}{f':Fo}{K':List Fm}(h:gL E f K=some (f',K')):whole E f K=whole E f' K':=by
 unfold gL at h
 split at h
 . rename_i n c t ms σ
   split at h
   . cases h
   . rename_i m
     split at h
     . rename_i a b;cases h;simp only [whole,jG]
       congr 1
     . rename_i i a;cases h;simp only [whole,jG]
       congr 1
     . rename_i a;cases h;simp only [whole,jG]
       congr 1
     . exact NS h
 . rename_i r
   split at h
   . cases h
   . rename_i fm K;simp only [whole,jG]
     split at h
     . split at h
       . cases h;simp only [whole,fmR]
       . rename_i hn;cases h;simp only [whole]
         congr 1
         cases r with
         |val v s=>rfl
         |«at»x t1 m1 s1=>cases x<;>first|rfl|exact absurd rfl (hn _ _ _)
     . split at h
       . split at h
         . rename_i hb;cases h;simp only [whole,fmR,hb]
         . rename_i hb;cases h;simp only [whole,fmR,hb]
       . rename_i hn;cases h;simp only [whole]
         congr 1
         cases r with
         |val v s=>rfl
         |«at»x t1 m1 s1=>cases x<;>first|rfl|exact absurd rfl (hn _ _ _ _)
     . split at h
       . cases h;simp only [whole,fmR]
       . rename_i hn;cases h;simp only [whole]
         congr 1
         cases r with
         |val v s=>rfl
         |«at»x t1 m1 s1=>cases x<;>first|rfl|exact absurd rfl (hn _ _ _)
theorem NC{E:Env}:∀{m:Nat} {f:Fo} {K:List Fm} {f':Fo} {K':List Fm},Y4 E m f K=some (f',K')->whole E f K=whole E f' K'
 |0,f,K,f',K',h=>by cases h;rfl
 |m+1,f,K,f',K',h=>by
  simp only [Y4]at h;cases hs:gL E f K with
  |none=>rw [hs]at h;cases h
  |some q=>
   obtain ⟨f1,K1⟩:=q;rw [hs]at h;exact (OS hs).trans (NC h)
def zu:Code->List Nat->Code
 |c,[]=>c
 | .seq a b,n::p=>match n with|0=>zu a p|_=>zu b p
 | .cond _ a b,n::p=>match n with|0=>zu a p|_=>zu b p
 | .block _ a,_::p=>zu a p
 | .loop a,_::p=>zu a p
 | .rangeFunc _ _ a b,n::p=>match n with|0=>zu a p|_=>zu b p
 |c,_=>c
def PS(E:Env)(f:FuncId):Code:=match E.fn f with|some fn=>(match fn.body with|some c=>c|none=> .skip)|none=> .skip
def JI(E:Env)(f:FuncId)(n:Nat):Fo:=match E.fn f with
 |some fn=>(match fn.body with|some c=> .code n c ⟨fn.ntmps,some undef, .nil⟩ [] ⟨Nat.zero, .nil⟩|none=> .res (.val undef ⟨Nat.zero, .nil⟩))
 |none=> .res (.val undef ⟨Nat.zero, .nil⟩)
def QS(E:Env)(f:FuncId):Option (Fo×List Fm)->Bool
 |some (.res r,[])=>match E.fn f with|some fn=>Jp (tell E fn (some r))|none=>false
 |_=>false
def iL(E:Env)(f:FuncId)(r:Option Ki):Bool:=match E.fn f with|some fn=>Jp (tell E fn r)|none=>false
theorem RS{E:Env}{f:FuncId}{m:Nat}{fo:Fo}{K:List Fm}(h:QS E f (Y4 E m fo K)=true):iL E f (whole E fo K)=true:=by
 unfold QS at h;cases hi:Y4 E m fo K with
 |none=>rw [hi]at h;cases h
 |some q=>
  obtain ⟨f1,K1⟩:=q;rw [hi]at h;rw [NC hi];cases f1 with
  |code=>cases h
  |res r=>cases K1 with
   |cons=>cases h
   |nil=>exact h
theorem SS{E:Env}{f:FuncId}{n:Nat}(ho:E.E6 f=none)(h:iL E f (whole E (JI E f n) [])=true):Jp (run E (n+1) (.call f [] ⟨0, .nil⟩))=true:=by
 unfold iL JI at h;simp only [run,step,ho];cases hf:E.fn f with
 |none=>simp [hf]at h
 |some fn=>
  simp only [hf]at h;cases hb:fn.body with
  |none=>simp [hb,whole,jG,tell,Jp]at h
  |some c=>
   simp only [hb]at h
   show Jp (match fn.body with
    |none=>none
    |some c=>tmpsOf 0 [] ⟨fn.ntmps,some undef, .nil⟩ fun t=>tell E fn (run E n (.code false c t [] ⟨0, .nil⟩)))=true
   simp only [hb];exact h
namespace Sh
abbrev i(m:Nat):Value:= .int .i64 (.ofNat m)
abbrev u(m:Nat):Value:= .int .u64 (.ofNat m)
abbrev p(b o:Nat):Value:= .pointer (some ⟨b,o,none⟩)
abbrev z{α:Type}:Tr α:= .nil
abbrev l{α:Type}(x:α):Tr α:= .node .nil (some x) .nil
abbrev n{α:Type}(a:Tr α)(v:Option α)(b:Tr α):Tr α:= .node a v b
abbrev m{α:Type}(a:Tr α)(v:α)(b:Tr α):Tr α:= .node a (some v) b
abbrev y{α:Type}(a b:Tr α):Tr α:= .node a none b
abbrev q(n:Nat)(e:TypeId)(t:Tr Value):qa:= .cells ⟨n,none,t⟩ e true
end Sh
end
end Sk
end Go.Proofs.YtfnkmolffhfpoaaGreat
namespace Go.Proofs.YtfnkmolffhfpoaaGreat
namespace Sk
noncomputable def Tx:Env:=⟨env.P,env.fn,env.ty,env.py,fun _=>none,fun _ _ _=>none,[],fun _ v=>v⟩
noncomputable def b7:Code:=PS Tx 7
noncomputable def nas:Code:=PS Tx 103
end Sk
end Go.Proofs.YtfnkmolffhfpoaaGreat
