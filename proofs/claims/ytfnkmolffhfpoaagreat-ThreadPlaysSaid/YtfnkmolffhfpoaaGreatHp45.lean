/- -/
import Derived.Test.YtfnkmolffhfpoaaGreatHp44
import Derived.Test.YtfnkmolffhfpoaaGreatHp9
import Derived.Test.YtfnkmolffhfpoaaGreatHp13
import Derived.Test.YtfnkmolffhfpoaaGreatHp12
import Derived.KernelRfl
import Derived.Test.YtfnkmolffhfpoaaGreatHp28
import Derived.Lib.SmallJoins
import Derived.Test.YtfnkmolffhfpoaaGreatHp29
import Derived.Test.YtfnkmolffhfpoaaGreatRows
import Derived.WalkKit
import Derived.ProofKit
import Derived.OpenShut
set_option linter.unusedVariables false
set_option linter.unusedSimpArgs false
set_option maxRecDepth 1000000
set_option maxRecDepth 100000
namespace Go.Proofs.YtfnkmolffhfpoaaGreat
namespace Sk
open Go.RowKit Go.BigFrame
set_option maxRecDepth 100000 in
set_option maxHeartbeats 4000000 in
theorem V2(HA:Hid dE)(th sl ib bu:Nat)(t:Int)(a:Option Addr)(len cap:Nat)(a2:Option Addr)(n2 Rr:Nat)(f:Nat->Qr)(W W1:World)(hn2:n2<=200)
  (XH:Hid (W1=(W.alloc (.cells #[.int .i64 (th:Int), .int .i64 (sl:Int), .int .i64 (ib:Int), .int .i64 (bu:Int), .slice a len cap] 26))))
  (hPK:Hj W a2 n2 f)
  (HL:Hid (Calls Tryz.prog 6 #[.agg #[.int .i64 (th:Int), .int .i64 (sl:Int), .int .i64 (ib:Int), .int .i64 (bu:Int), .slice a len cap]] W1 fun e w2=>∃l m r,e= .returned (.tuple #[.pointer (some ⟨l,0,none⟩), .pointer (some ⟨m,0,none⟩), .pointer (some ⟨r,0,none⟩), .bool true])/\Below W1.heap.size W1 w2/\∀(w:World) (p q:Nat) (k1 k2 k3 a b d:Value),Below w2.heap.size w2 w->w.heap[p]?=some (.cells #[.pointer (some ⟨l,0,none⟩), .int .i64 t, .int .i64 0,k1,k2,k3,a,b,d] 161 (0,0))->(∃cq:Array Value,w.heap[q]?=some (.cells cq 86 (0,0))/\cq.size=29/\(cq[0]?=some (.int .i64 (th:Int))/\cq[1]?=some (.int .i64 (sl:Int))/\cq[2]?=some (.int .i64 (ib:Int))/\cq[3]?=some (.int .i64 (bu:Int)))/\cq[4]?=some (.int .i64 t)/\cq[5]?=some (.int .i64 0)/\cq[6]?=some (.int .i64 0)/\cq[7]?=some (.int .u32 0)/\cq[8]?=some (.int .u32 0))->w2.heap.size<=p->w2.heap.size<=q->p≠q->Uc W1 p q m r l ⟨th,sl,ib,bu⟩ 200 w)):
  Calls Tryz.prog 5 #[.agg #[.int .i64 (th:Int), .int .i64 (sl:Int), .int .i64 (ib:Int), .int .i64 (bu:Int), .slice a len cap], .int .i64 t, .slice a2 n2 Rr] W (Fc (.bool true) W):=by
 have mg:=XH.out;have Vz:W1.heap[W.heap.size]?=some (.cells #[.int .i64 (th:Int), .int .i64 (sl:Int), .int .i64 (ib:Int), .int .i64 (bu:Int), .slice a len cap] 26 (0,0)):=by rw [mg];exact heap_alloc_new _ _
 have g0:=ma Vz 0 _ rfl;have g1:=ma Vz 1 _ rfl;have g2:=ma Vz 2 _ rfl;have g3:=ma Vz 3 _ rfl;have g4:=ma Vz 4 _ rfl;have HBA:Hid (Below W.heap.size W W1):=Lib.hid (by rw [mg];exact (Below.refl _ _).alloc (Nat.le_refl _) _);have HRG:Hid (∀w,Below W1.heap.size W1 w->w.heap[W.heap.size]?=some (.cells #[.int .i64 (th:Int), .int .i64 (sl:Int), .int .i64 (ib:Int), .int .i64 (bu:Int), .slice a len cap] 26 (0,0))):=Lib.hid fun w hb=>(hb.block _ (zb Vz)).trans Vz
 have HPK:Hid (∀w,Below W1.heap.size W1 w->Hj w a2 n2 f):=Lib.hid fun w hb=>(hPK.below HBA.out).below hb
 have d1:decide ((200:Int)<(n2:Int))=false:=decide_eq_false (by omega);have d2:decide (200<n2)=false:=decide_eq_false (by omega);have Y4:=Lib.hid hn2;clear mg Vz hPK hn2
 go_enter Tryz.func5,Tryz.ntmps5
 go_upto_region 1 with fail
 rw [<-XH.out]
 go_upto_region 5 with(first
  |(go_at_call 6;refine HL.out.mono ?_;rintro e w2 ⟨l,m,r,rfl,hb,hnx⟩;have Iz:=Lib.hid hb;have lA:=Lib.hid hnx;clear hb hnx g0 g1 g2 g3 g4)
  |(go_at_call 25;refine (Was l t w2).mono ?_;rintro e w3 ⟨rfl,hb,k1,k2,k3,e1,e2,e3,qi⟩;have W4:=Lib.hid hb;have X2:=Lib.hid qi;have VH:=Lib.hid (Iz.out.trans (hb.mono Iz.out.size));clear hb qi;have rg:=HRG.out _ VH.out;have g0:=ma rg 0 _ rfl;have g1:=ma rg 1 _ rfl;have g2:=ma rg 2 _ rfl;have g3:=ma rg 3 _ rfl;clear rg))
 go_wp2_with fail
 obtain ⟨p,hp⟩:∃p,p=w2.heap.size:=⟨_,rfl⟩;obtain ⟨q,hq⟩:∃q,q=w3.heap.size:=⟨_,rfl⟩;rw [<-hp,<-hq]
 go_loopw [13] (fun i wr=>∃j:Nat,j<=n2/\i= .int .i64 j/\Hid (Uc W1 p q m r l ⟨th,sl,ib,bu⟩ (200+30*j) wr)) (fun i _=>n2 -(intOf i).toNat)
 case atStart=>
  refine ⟨0,Nat.zero_le _,rfl,Lib.hid (lA.out _ p q k1 k2 k3 e1 e2 e3 (W4.out.alloc W4.out.size _) ?_ ?_ ?_ ?_ ?_)⟩
  . rw [hp];exact (((Below.refl w3.heap.size w3).alloc (Nat.le_refl _) _).block _ (zb X2.out)).trans X2.out
  . rw [hq];exact ⟨_,heap_alloc_new w3 _,rfl,⟨rfl,rfl,rfl,rfl⟩,rfl,rfl,rfl,rfl,rfl⟩
  . rw [hp];exact Nat.le_refl _
  . rw [hq];exact W4.out.size
  . have:=zb X2.out;omega
 case round=>
  clear lA HL HRG g0 g1 g2 g3 Iz W4 VH X2 hp hq;obtain ⟨j,hj,rfl,HJ⟩:=hrel;by_cases Db:j<n2
  . have d3:decide ((j:Int)<(n2:Int))=true:=ga (by omega);have d4:decide (j<n2)=true:=ga Db;have d5:(0:Int)<=(j:Int):=by omega
    have d6:(j:Int)<(n2:Int):=by omega
    obtain ⟨b,off,rfl,hbs,fP,Vg⟩:=HPK.out wr HJ.out.below j Db;have mY:Hid (200+30*j<=900000/\j<n2/\n2<=200):=Lib.hid (by have:=Y4.out;omega);have HMV:Hid (∀w,Below W1.heap.size W1 w->Ht w b (off+j*10) (f j)):=Lib.hid fun w hb=>by
     obtain ⟨b',qaS,e',-,h,-⟩:=HPK.out w hb j Db;cases e';exact h
    have kP:=Lib.hid Vg;obtain ⟨v,hv⟩:∃v,v=f j:=⟨_,rfl⟩;rw [<-hv]at fP HMV kP;clear Vg hv;obtain ⟨ki,k,x,y,pk,ak,at_,ap,ao,an⟩:=v;obtain ⟨c0,c1,c2,c3,c4,c5,c6,c7,c8,c9⟩:=fP;simp only at c0 c1 c2 c3 c4 c5 c6 c7 c8 c9;have YW:=Lib.hid fun(n:Nat) (w:World) (h:Uc W1 p q m r l ⟨th,sl,ib,bu⟩ n w) (hn:n<=900000)=>mK h hn ak at_ ap ao an kP.out.p0 kP.out.p1 kP.out.ne
    have Y2:=Lib.hid fun(n:Nat) (w:World) (h:Uc W1 p q m r l ⟨th,sl,ib,bu⟩ n w) (hn:n<=900000)=>lK h hn k x y kP.out.k0 kP.out.k1 kP.out.x0 kP.out.x1 kP.out.y0 kP.out.y1
    clear kP Db hj hbs
    go_upto_if 54 with fail
    go_cut [14]from 44 to 173 (fun v14 wx=>Hid (Uc W1 p q m r l ⟨th,sl,ib,bu⟩ (200+30*(j+1)) wx))
    case first=>
     cases pk
     case true=>
      go_wp2_with (first
       |(go_at_call 12;refine (YW.out _ _ HJ.out mY.out.1).mono ?_;rintro e w5 ⟨⟨u,rfl⟩,hb,hm⟩;have HM:=Lib.hid hm;have fP:=HMV.out _ hb;clear c0 c1 c2 c3 c4 c5 c6 c7 c8 c9;obtain ⟨c0,c1,c2,c3,c4,c5,c6,c7,c8,c9⟩:=fP;simp only at c0 c1 c2 c3 c4 c5 c6 c7 c8 c9;clear hb hm)
       |(go_at_call 13;refine HM.out.mono ?_;rintro e w6 ⟨⟨u2,rfl⟩,hr⟩;have HR6:=Lib.hid hr;clear hr))
      go_meet
      exact HR6
     case false=>
      have HRW:Hid (∀w i,Uc W1 p q m r l ⟨th,sl,ib,bu⟩ (200+30*j) w->Uc W1 p q m r l ⟨th,sl,ib,bu⟩ (200+30*j) (w.drewN i)):=Lib.hid fun w i h=>h.grow (xb (Below.refl _ _) i)
      by_cases h0:ki=0
      . subst h0;clear c5 c6 c7 c8 c9 YW
        go_upto_region 13 with fail
        go_region_held3 (fun w'=>w'.cell? ⟨b,off+j*10+1,none⟩=some (.int .i64 k)/\w'.cell? ⟨b,off+j*10+2,none⟩=some (.int .u32 x)/\w'.cell? ⟨b,off+j*10+3,none⟩=some (.int .u32 y)) (go_keep) (first
         |(go_at_call 28;refine (Y2.out _ _ (HRW.out _ 1 HJ.out) mY.out.1).mono ?_;rintro e w5 ⟨v1,rfl,hb,hm⟩;have HM:=Lib.hid hm;have fP:=HMV.out _ hb;clear c0 c1 c2 c3 c4;obtain ⟨c0,c1,c2,c3,c4,-⟩:=fP;simp only at c0 c1 c2 c3 c4;clear hb hm)
         |(go_at_call 35;refine HM.out.mono ?_;rintro e w6 ⟨z,rfl,rfl,hr⟩;have HR6:=Lib.hid hr;have fP:=HMV.out _ hr.below;clear c0 c1 c2 c3 c4;obtain ⟨c0,c1,c2,c3,c4,-⟩:=fP;simp only at c0 c1 c2 c3 c4;clear hr))
        all_goals
         go_wp2_with fail
         go_meet
         exact HR6
      . have b0:(ki==0)=false:=by simp [h0]
        by_cases h1:ki=1
        . subst h1;clear c5 c6 c7 c8 c9 YW Y2 HRW;obtain ⟨z1,z2,z3,htk⟩:=GH HJ.out mY.out.1
          have HTK:=Lib.hid htk;clear htk
          go_wp2_with (go_at_call 26;refine HTK.out.mono ?_;rintro e w5 ⟨rfl,hb,hm⟩;have HM:=Lib.hid hm;have X4:=Lib.hid hb;clear hb hm)
          refine (HM.out _ ((Below.refl _ _).alloc (Nat.le_refl _) _)).mono ?_
          rintro e w6 ⟨rfl,hk,hr⟩;have HR6:=Lib.hid (fun o=>hr.grow ((Below.refl w6.heap.size w6).alloc (Nat.le_refl _) o));have ha:w6.heap[w5.heap.size]?=some (.cells #[.int .i64 z1, .int .u32 z2] 60 (0,0)):=(hk _ (Nat.le_refl _) (by simp)).trans (heap_alloc_new _ _)
          have hl:w5.heap.size<w6.heap.size:=zb ha;have Rx:∀o,(w6.alloc o).heap[w5.heap.size]?=some (.cells #[.int .i64 z1, .int .u32 z2] 60 (0,0)):=fun o=>(((Below.refl w6.heap.size w6).alloc (Nat.le_refl _) o).block _ hl).trans ha
          have SE:=heap_alloc_new w6 (.cells #[.int .i64 z1, .int .u32 z2] 60);have a0:=fun o=>ma (Rx o) 0 _ rfl
          have a1:=fun o=>ma (Rx o) 1 _ rfl
          have r0:=ma SE 0 _ rfl;have r1:=ma SE 1 _ rfl;clear hk hr ha Rx SE
          go_wp2_with fail
          go_meet
          exact Lib.hid (HR6.out _)
        . have b1:(ki==1)=false:=by simp [h1]
          clear c5 c6 c7 c8 c9 YW Y2 HRW
          go_wp2_with (first
           |(go_at_call 27;refine (FH HJ.out mY.out.1).mono ?_;rintro e w5 ⟨v1,rfl,hb,hm⟩;have HM:=Lib.hid hm;clear hb hm)
           |(go_at_call 37;refine HM.out.mono ?_;rintro e w6 ⟨bb,rfl,rfl,hr⟩;have HR6:=Lib.hid hr;clear hr))
          go_meet
          exact HR6
    case rest=>
     have HR:=hcut;clear YW Y2 HMV c0 c1 c2 c3 c4 c5 c6 c7 c8 c9;obtain ⟨z,k0,x0,y0,z1,z2,z3,z4,z5,z6,St,⟨wb,KA⟩,ht,htr,hsm,hkp,hnx,Ni⟩:=IH HR.out (by have:=mY.out;omega);have HT:=Lib.hid ht;have HTR:=Lib.hid htr;have HSM:=Lib.hid hsm;have HKP:=Lib.hid hkp;have lA:=Lib.hid hnx;have HGR:=Lib.hid Ni;have HS0:=Lib.hid KA;clear KA ht htr hsm hkp hnx Ni
     go_upto_region 23 with(go_at_call 29;refine ((HT.out _ _).op _ HS0.out).mono ?_;rintro e w5 ⟨rfl,hs⟩;obtain ⟨Pr1,WH,CD⟩:∃Pr:Nat->Prop,St Pr (w5.alloc (.cells #[.int .i64 k0, .int .u32 x0, .int .u32 y0] 29)) (w5.alloc (.cells #[.int .i64 k0, .int .u32 x0, .int .u32 y0] 29))/\Pr w5.heap.size:=⟨_,lA.out _ _ _ _ hs ((Below.refl w5.heap.size w5).alloc (Nat.le_refl _) _), .inr ⟨Nat.le_refl _,by simp⟩⟩;have Bo:=heap_alloc_new w5 (.cells #[.int .i64 k0, .int .u32 x0, .int .u32 y0] 29);clear hs)
     obtain ⟨w6,hw6⟩:∃w6,w6=w5.alloc (.cells #[.int .i64 k0, .int .u32 x0, .int .u32 y0] 29):=⟨_,rfl⟩;obtain ⟨o,ho⟩:∃o,o=w5.heap.size:=⟨_,rfl⟩;rw [<-hw6,<-ho]at Bo;rw [<-hw6]at WH;rw [<-ho]at CD;rw [<-hw6,<-ho];have xg:=Lib.hid WH;have B0:=Lib.hid CD;have HRO:=Lib.hid Bo;clear hw6 ho WH CD Bo HS0
     go_upto_region 24 with(first
      |(go_at_call 38;refine ((HT.out _ _).result _ xg.out).mono ?_;rintro e wa ⟨rfl,hs⟩;have xg:=Lib.hid hs;clear hs)
      |(go_at_call 30;refine ((HT.out _ _).holds _ xg.out).mono ?_;rintro e wa ⟨rfl,hs⟩;have xg:=Lib.hid hs;clear hs)
      |(go_at_call 31;refine ((HT.out _ _).Vq _ xg.out).mono ?_;rintro e wa ⟨rfl,hs⟩;have xg:=Lib.hid hs;clear hs)
      |(go_at_call 32;refine ((HT.out _ _).gy _ xg.out).mono ?_;rintro e wa ⟨rfl,hs⟩;have xg:=Lib.hid hs;clear hs)
      |(go_at_call 33;refine ((HT.out _ _).writes _ xg.out).mono ?_;rintro e nY ⟨rfl,hs⟩;obtain ⟨Pr2,SQ,haE,hpt⟩:∃Pr:Nat->Prop,St Pr (nY.alloc (.cells #[.int .i64 z1, .int .u32 z2, .int .i64 z3, .int .i64 z4, .int .i64 z5, .int .i64 z6] 94)) (nY.alloc (.cells #[.int .i64 z1, .int .u32 z2, .int .i64 z3, .int .i64 z4, .int .i64 z5, .int .i64 z6] 94))/\Pr o/\Pr nY.heap.size:=⟨_,lA.out _ _ _ _ hs ((Below.refl nY.heap.size nY).alloc (Nat.le_refl _) _), .inl B0.out, .inr ⟨Nat.le_refl _,by simp⟩⟩;have hrt:=heap_alloc_new nY (.cells #[.int .i64 z1, .int .u32 z2, .int .i64 z3, .int .i64 z4, .int .i64 z5, .int .i64 z6] 94);have Bo:=(HKP.out _ _ _ _ hs B0.out).trans HRO.out;have xai:=(((Below.refl nY.heap.size nY).alloc (Nat.le_refl _) (.cells #[.int .i64 z1, .int .u32 z2, .int .i64 z3, .int .i64 z4, .int .i64 z5, .int .i64 z6] 94)).block o (zb Bo)).trans Bo;clear hs Bo))
     obtain ⟨w12,yai⟩:∃w12,w12=nY.alloc (.cells #[.int .i64 z1, .int .u32 z2, .int .i64 z3, .int .i64 z4, .int .i64 z5, .int .i64 z6] 94):=⟨_,rfl⟩;obtain ⟨td,htd⟩:∃td,td=nY.heap.size:=⟨_,rfl⟩;rw [<-yai]at hrt xai SQ;rw [<-htd]at hrt hpt;rw [<-yai,<-htd];have Iy:Hid (∀w,St Pr2 w12 w->(w.cell? ⟨q,5,none⟩=some (.int .i64 z)/\w.cell? ⟨q,6,none⟩=some (.int .i64 k0)/\w.cell? ⟨q,7,none⟩=some (.int .u32 x0)/\w.cell? ⟨q,8,none⟩=some (.int .u32 y0))/\(w.cell? ⟨o,0,none⟩=some (.int .i64 k0)/\w.cell? ⟨o,1,none⟩=some (.int .u32 x0)/\w.cell? ⟨o,2,none⟩=some (.int .u32 y0))/\w.cell? ⟨td,0,none⟩=some (.int .i64 z1)/\w.cell? ⟨td,1,none⟩=some (.int .u32 z2)/\w.cell? ⟨td,2,none⟩=some (.int .i64 z3)/\w.cell? ⟨td,3,none⟩=some (.int .i64 z4)/\w.cell? ⟨td,4,none⟩=some (.int .i64 z5)/\w.cell? ⟨td,5,none⟩=some (.int .i64 z6)):=Lib.hid fun w hw=>by
      obtain ⟨a1,a2,a3,a4,-⟩:=(HT.out _ _).at_ w hw
      have b1:=(HKP.out _ _ _ _ hw haE).trans xai
      have b2:=(HKP.out _ _ _ _ hw hpt).trans hrt
      exact ⟨⟨a1,a2,a3,a4⟩,⟨ma b1 0 _ rfl,ma b1 1 _ rfl,ma b1 2 _ rfl⟩,ma b2 0 _ rfl,ma b2 1 _ rfl,ma b2 2 _ rfl,ma b2 3 _ rfl,ma b2 4 _ rfl,ma b2 5 _ rfl⟩
     have HDR:Hid (∀w,St Pr2 w12 w->St Pr2 w12 (w.drewN 1)):=Lib.hid fun w hw=>HGR.out _ _ _ _ hw (xb (Below.refl _ _) 1)
     have xg:=Lib.hid SQ;clear SQ haE hpt hrt xai yai htd;obtain ⟨bz,Mi,uh,VX⟩:∃bz:Bool,(!decide (z=0))=bz/\(z==0)= !bz/\(z != 0)=bz:=⟨_,rfl,by by_cases h:z=0<;>simp [h],by by_cases h:z=0<;>simp [h]⟩;rw [Mi];clear Mi
     go_cut [173]from 44 to 173 (fun NaM wx=>NaM= .bool false/\Hid (St Pr2 w12 wx))
     case first=>
      obtain ⟨⟨m5,m6,m7,m8⟩,⟨o0,o1,o2⟩,s0,s1,s2,s3,s4,s5⟩:=Iy.out _ xg.out;obtain ⟨bw,hw1,hw2⟩:∃bw:Bool,decide (z=4)=bw/\(z==4)=bw:=⟨_,rfl,by by_cases h:z=4<;>simp [h]⟩;have OaM:Hid (∀w,St Pr2 w12 w->Calls Tryz.prog 34 #[.pointer (some ⟨p,0,none⟩)] w fun e w'=>e= .returned (.bool bw)/\St Pr2 w12 w'):=Lib.hid fun w h=>by rw [<-hw1];exact (HT.out _ _).ans w h
      clear hw1 HPK HA HBA XH Y4 mY HJ HR HTR HKP lA HGR B0 HRO
      go_region_held3 (fun w'=>w'.cell? ⟨q,5,none⟩=some (.int .i64 z)/\w'.cell? ⟨q,6,none⟩=some (.int .i64 k0)/\w'.cell? ⟨q,7,none⟩=some (.int .u32 x0)/\w'.cell? ⟨q,8,none⟩=some (.int .u32 y0)/\w'.cell? ⟨o,0,none⟩=some (.int .i64 k0)/\w'.cell? ⟨o,1,none⟩=some (.int .u32 x0)/\w'.cell? ⟨o,2,none⟩=some (.int .u32 y0)/\w'.cell? ⟨td,0,none⟩=some (.int .i64 z1)/\w'.cell? ⟨td,1,none⟩=some (.int .u32 z2)/\w'.cell? ⟨td,2,none⟩=some (.int .i64 z3)/\w'.cell? ⟨td,3,none⟩=some (.int .i64 z4)/\w'.cell? ⟨td,4,none⟩=some (.int .i64 z5)/\w'.cell? ⟨td,5,none⟩=some (.int .i64 z6)) (go_keep) (first
       |(go_at_call 14;refine (HSM.out _ _ _ (HDR.out _ xg.out)).mono ?_;rintro e wa ⟨rfl,hs⟩;have xg:=Lib.hid hs;clear m5 m6 m7 m8 o0 o1 o2 s0 s1 s2 s3 s4 s5;obtain ⟨⟨m5,m6,m7,m8⟩,⟨o0,o1,o2⟩,s0,s1,s2,s3,s4,s5⟩:=Iy.out _ hs;clear hs)
       |(go_at_call 34;refine (OaM.out _ xg.out).mono ?_;rintro e wb ⟨rfl,hs⟩;have xg:=Lib.hid hs;clear m5 m6 m7 m8 o0 o1 o2 s0 s1 s2 s3 s4 s5;obtain ⟨⟨m5,m6,m7,m8⟩,⟨o0,o1,o2⟩,s0,s1,s2,s3,s4,s5⟩:=Iy.out _ hs;clear hs)
       |(go_at_call 39;refine ((HT.out _ _).tell _ xg.out).mono ?_;rintro e wc ⟨rfl,hs⟩;have xg:=Lib.hid hs;clear m5 m6 m7 m8 o0 o1 o2 s0 s1 s2 s3 s4 s5;obtain ⟨⟨m5,m6,m7,m8⟩,⟨o0,o1,o2⟩,s0,s1,s2,s3,s4,s5⟩:=Iy.out _ hs;clear hs))
      all_goals
       go_wp2_with fail
       go_meet
       exact ⟨rfl,xg⟩
     case rest=>
      obtain ⟨rfl,HTW⟩:=hcut;have HRN:=Lib.hid (HTR.out _ _ _ HTW.out);clear HT HTR HSM HKP lA HGR B0 HRO HTW Iy HDR
      go_wp2_with fail
      go_roundw
      case rel=>
       have hw:wrap64 ((j:Int)+1)=(j:Int)+1:=by have:=mY.out;unfold wrap64;omega
       exact ⟨j+1,by have:=mY.out;omega,by first|(rw [hw];go_num)|go_num,HRN⟩
      case measure=>
       have hw:wrap64 ((j:Int)+1)=(j:Int)+1:=by have:=mY.out;unfold wrap64;omega
       try rw [hw]
       have h:=mY.out.2.1
       have e1:(intOf (.int .i64 ((j:Int)+1))).toNat=j+1:=by show((j:Int)+1).toNat=j+1;omega
       have e2:(intOf (.int .i64 (j:Int))).toNat=j:=by show((j:Int)).toNat=j;omega
       rw [e1,e2];exact Nat.sub_lt_sub_left h (Nat.lt_succ_self j)
  . obtain rfl:j=n2:=by omega
    have d3:decide ((j:Int)<(j:Int))=false:=by simp
    go_wp2_with (first|(go_at_call 23;refine (HA.out _).mono ?_;rintro e w9 ⟨rfl,hb⟩;have H9:=Lib.hid (HBA.out.trans (((HJ.out.below).trans (hb.mono HJ.out.below.size)).mono HBA.out.size));clear hb))
    go_ret
    exact ⟨rfl,H9.out⟩
theorem hl5(th sl ib bu:Nat)(t:Int)(t0:-9223372036854775808<=t)(t1:t<=9223372036854775807)(hf:(⟨th,sl,ib,bu⟩:Xc).Cn)(a:Option Addr)(len cap:Nat)(hl:len<=100)(at_ wv:Nat->Int)(W1:World)(hP:Rj W1 a len at_ wv):
  Calls Tryz.prog 6 #[.agg #[.int .i64 (th:Int), .int .i64 (sl:Int), .int .i64 (ib:Int), .int .i64 (bu:Int), .slice a len cap]] W1 fun e w2=>∃l m r,e= .returned (.tuple #[.pointer (some ⟨l,0,none⟩), .pointer (some ⟨m,0,none⟩), .pointer (some ⟨r,0,none⟩), .bool true])/\Below W1.heap.size W1 w2/\∀(w:World) (p q:Nat) (k1 k2 k3 a b d:Value),Below w2.heap.size w2 w->w.heap[p]?=some (.cells #[.pointer (some ⟨l,0,none⟩), .int .i64 t, .int .i64 0,k1,k2,k3,a,b,d] 161 (0,0))->(∃cq:Array Value,w.heap[q]?=some (.cells cq 86 (0,0))/\cq.size=29/\(cq[0]?=some (.int .i64 (th:Int))/\cq[1]?=some (.int .i64 (sl:Int))/\cq[2]?=some (.int .i64 (ib:Int))/\cq[3]?=some (.int .i64 (bu:Int)))/\cq[4]?=some (.int .i64 t)/\cq[5]?=some (.int .i64 0)/\cq[6]?=some (.int .i64 0)/\cq[7]?=some (.int .u32 0)/\cq[8]?=some (.int .u32 0))->w2.heap.size<=p->w2.heap.size<=q->p≠q->Uc W1 p q m r l ⟨th,sl,ib,bu⟩ 200 w:=by
 refine (eH th sl ib bu hf a len cap hl at_ wv W1 hP).mono ?_
 rintro e w2 (⟨h,-⟩|⟨-,l,M,N,rfl,h⟩)
 . exact absurd ⟨hf,hl⟩ h
 obtain ⟨M0,R0,sZ,hR0,z1,z2,z3,z4,z5,z6,z7,z8,z9⟩:=h.di;obtain ⟨b1,b2,b3⟩:=fH M0 at_ wv len;obtain ⟨c1,c2,c3⟩:=qy R0 at_ wv len;rw [<-sZ]at b1 b2 b3;rw [<-hR0]at c1 c2 c3;have hu:∀i,i<len->ud (wv i):=fun i hi=>by
  obtain ⟨b,off,-,-,-,-,-,h⟩:=hP i hi;exact h
 have PaM:Wd R0:=⟨fun k=>by rw [z4];exact u0,fun k=>by rw [z5];exact u0,fun k=>by rw [z6];exact u0,by omega,by omega,by omega,by omega⟩;have oq:Wd N:=by rw [hR0];exact gH R0 PaM (by omega) at_ wv len hu (by omega) len (Nat.le_refl _)
 have hml:jd M N:=⟨h.Md,fun k hk=>by rw [b1,c1,z1,z7],by omega⟩;have Zj:0<N.np:=by rw [<-h.Md.np,b3];exact z3
 exact ⟨l,M.m,N.m,rfl,h.below,fun w p q k1 k2 k3 a b d hb hp ⟨cq,hq,hz,hc⟩ j1 j2 j3=>cE h.below hb h.lay (Mah hf) h.mem h.ref (by have:=h.lo.1;omega) (fun k hk=>by obtain ⟨i1,i2,i3⟩:=h.lo.2.1 k hk;exact ⟨by omega,i2,i3⟩) (fun k hk=>by obtain ⟨i1,i2⟩:=h.lo.2.2 k hk;exact ⟨by omega,i2⟩) hml oq (by omega) (by omega) Zj hp hq hz hc j1 j2 j3 t0 t1⟩
theorem QaM(HA:Hid dE)(th sl ib bu:Int)(a:Option Addr)(len cap:Nat)(hl:len<=9223372036854775807)(at_ wv:Nat->Int)(t:Int)(t0:-9223372036854775808<=t)(t1:t<=9223372036854775807)(a2:Option Addr)(n2 Rr:Nat)(f:Nat->Qr)(W:World)(hP:Rj W a len at_ wv)(hK:Hj W a2 n2 f):
  Calls Tryz.prog 5 #[.agg (Sj ⟨th,sl,ib,bu⟩ a len cap), .int .i64 t, .slice a2 n2 Rr] W (Fc (.bool true) W):=by
 by_cases hf:(⟨th,sl,ib,bu⟩:Xc).Cn/\len<=100
 . obtain ⟨hf,hlen⟩:=hf;have hf':=hf;obtain ⟨⟨f1,f2,f3,f4,f5,f6,f7,f8⟩,f9,f10,f11,f12⟩:=hf';simp only at f1 f2 f3 f4 f5 f6 f7 f8 f9 f10 f11 f12;obtain ⟨th',rfl⟩:=Int.eq_ofNat_of_zero_le (show 0<=th by omega);obtain ⟨sl',rfl⟩:=Int.eq_ofNat_of_zero_le (show 0<=sl by omega);obtain ⟨lo2,rfl⟩:=Int.eq_ofNat_of_zero_le (show 0<=ib by omega);obtain ⟨bu',rfl⟩:=Int.eq_ofNat_of_zero_le (show 0<=bu by omega);by_cases hn:200<n2
   . exact JQ HA th' sl' lo2 bu' t hf a len cap hlen at_ wv a2 n2 Rr hn W hP
   . exact V2 HA th' sl' lo2 bu' t a len cap a2 n2 Rr f W _ (by omega) (Lib.hid rfl) hK (Lib.hid (hl5 th' sl' lo2 bu' t t0 t1 hf a len cap hlen at_ wv _ (hP.below ((Below.refl _ _).alloc (Nat.le_refl _) _))))
 . exact U2 HA _ t a len cap hl at_ wv a2 n2 Rr W hf
end Sk
end Go.Proofs.YtfnkmolffhfpoaaGreat
namespace Go.Proofs.YtfnkmolffhfpoaaGreat
namespace Sk
open Go.RowKit
inductive Fm where
 |seq(n:Nat)(b:Code)
 |blk(i:Nat)
 |loop(n:Nat)(a:Code)
inductive Fo where
 |code(n:Nat)(c:Code)(t:Tm)(ms:List Nat)(σ:AH)
 |res(r:lj)
noncomputable section
def fmR(E:Env):Fm->Option lj->Option lj
 | .seq n b,r=>match r with
   |some (.at .normal t ms σ)=>run E n (.code false b t ms σ)
   |r=>r
 | .blk i,r=>match r with
   |some (.at (.exit j) t ms σ)=>match Nat.beq i j with|true=>some (.at .normal t ms σ)|false=>some (.at (.exit j) t ms σ)
   |r=>r
 | .loop n a,r=>match r with
   |some (.at .normal t ms σ)=>run E n (.code false (.loop a) t ms σ)
   |r=>r
def JH(E:Env):List Fm->Option lj->Option lj
 |[],r=>r
 |f::K,r=>JH E K (fmR E f r)
def whole(E:Env):Fo->List Fm->Option lj
 | .code n c t ms σ,K=>JH E K (run E n (.code false c t ms σ))
 | .res r,K=>JH E K (some r)
def ZW(E:Env)(n:Nat)(c:Code)(t:Tm)(ms:List Nat)(σ:AH)(K:List Fm):Option (Fo×List Fm):=
 match run E n (.code false c t ms σ)with
 |some r=>some (.res r,K)
 |none=>none
def ON(E:Env):Fo->List Fm->Option (Fo×List Fm)
 | .code n c t ms σ,K=>match n with
   |0=>none
   |m+1=>match c with
    | .seq a b=>some (.code m a t ms σ, .seq m b::K)
    | .block i a=>some (.code m a t ms σ, .blk i::K)
    | .loop a=>some (.code m a t ms σ, .loop m a::K)
    |c=>ZW E (Nat.succ m) c t ms σ K
 | .res r,K=>match K with
   |[]=>none
   |f::K=>match f with
    | .seq n b=>match r with
      | .at .normal t ms σ=>some (.code n b t ms σ,K)
      |r=>some (.res r,K)
    | .blk i=>match r with
      | .at (.exit j) t ms σ=>match Nat.beq i j with|true=>some (.res (.at .normal t ms σ),K)|false=>some (.res (.at (.exit j) t ms σ),K)
      |r=>some (.res r,K)
    | .loop n a=>match r with
      | .at .normal t ms σ=>some (.code n (.loop a) t ms σ,K)
      |r=>some (.res r,K)
def itF(E:Env):Nat->Fo->List Fm->Option (Fo×List Fm)
 |0,f,K=>some (f,K)
 |m+1,f,K=>match ON E f K with
  |some (f',K')=>itF E m f' K'
  |none=>none
theorem aX{E:Env}{n:Nat}{c:Code}{t:Tm}{ms:List Nat}{σ:AH}{K:List Fm}{f':Fo}{K':List Fm}(h:ZW E n c t ms σ K=some (f',K')):whole E (.code n c t ms σ) K=whole E f' K':=by
 unfold ZW at h;cases hr:run E n (.code false c t ms σ)with
 |none=>rw [hr]at h;cases h
 |some r=>
  rw [hr]at h;cases h;simp only [whole,hr]
theorem bX{E:Env}{f:Fo}{K:List Fm}{f':Fo}{K':List Fm}(h:ON E f K=some (f',K')):whole E f K=whole E f' K':=by
 unfold ON at h
 split at h
 . rename_i n c t ms σ
   split at h
   . cases h
   . rename_i m
     split at h
     . rename_i a b;cases h;simp only [whole,JH]
       congr 1
     . rename_i i a;cases h;simp only [whole,JH]
       congr 1
     . rename_i a;cases h;simp only [whole,JH]
       congr 1
     . exact aX h
 . rename_i r
   split at h
   . cases h
   . rename_i fm K;simp only [whole,JH]
     split at h
     . split at h
       . cases h;simp only [whole,fmR]
       . rename_i hn;cases h;simp only [whole]
         congr 1
         cases r with
         |val v s=>rfl
         |«at»x t1 m1 s1=>cases x<;>first|rfl|exact absurd rfl (hn _ _ _)
     . split at h
       . split at h
         . rename_i hb;cases h;simp only [whole,fmR,hb]
         . rename_i hb;cases h;simp only [whole,fmR,hb]
       . rename_i hn;cases h;simp only [whole]
         congr 1
         cases r with
         |val v s=>rfl
         |«at»x t1 m1 s1=>cases x<;>first|rfl|exact absurd rfl (hn _ _ _ _)
     . split at h
       . cases h;simp only [whole,fmR]
       . rename_i hn;cases h;simp only [whole]
         congr 1
         cases r with
         |val v s=>rfl
         |«at»x t1 m1 s1=>cases x<;>first|rfl|exact absurd rfl (hn _ _ _)
theorem pK{E:Env}:∀{m:Nat} {f:Fo} {K:List Fm} {f':Fo} {K':List Fm},itF E m f K=some (f',K')->whole E f K=whole E f' K'
 |0,f,K,f',K',h=>by cases h;rfl
 |m+1,f,K,f',K',h=>by
  simp only [itF]at h;cases hs:ON E f K with
  |none=>rw [hs]at h;cases h
  |some q=>
   obtain ⟨f1,K1⟩:=q;rw [hs]at h;exact (bX hs).trans (pK h)
def Jy:Code->List Nat->Code
 |c,[]=>c
 | .seq a b,n::p=>match n with|0=>Jy a p|_=>Jy b p
 | .cond _ a b,n::p=>match n with|0=>Jy a p|_=>Jy b p
 | .block _ a,_::p=>Jy a p
 | .loop a,_::p=>Jy a p
 | .rangeFunc _ _ a b,n::p=>match n with|0=>Jy a p|_=>Jy b p
 |c,_=>c
def cX(E:Env)(f:FuncId):Code:=match E.fn f with|some fn=>(match fn.body with|some c=>c|none=> .skip)|none=> .skip
def qK(E:Env)(f:FuncId)(n:Nat):Fo:=match E.fn f with
 |some fn=>(match fn.body with|some c=> .code n c ⟨fn.ntmps,some undef, .nil⟩ [] ⟨Nat.zero, .nil⟩|none=> .res (.val undef ⟨Nat.zero, .nil⟩))
 |none=> .res (.val undef ⟨Nat.zero, .nil⟩)
def dX(E:Env)(f:FuncId):Option (Fo×List Fm)->Bool
 |some (.res r,[])=>match E.fn f with|some fn=>Qp (tell E fn (some r))|none=>false
 |_=>false
def PN(E:Env)(f:FuncId)(r:Option lj):Bool:=match E.fn f with|some fn=>Qp (tell E fn r)|none=>false
theorem eX{E:Env}{f:FuncId}{m:Nat}{fo:Fo}{K:List Fm}(h:dX E f (itF E m fo K)=true):PN E f (whole E fo K)=true:=by
 unfold dX at h;cases hi:itF E m fo K with
 |none=>rw [hi]at h;cases h
 |some q=>
  obtain ⟨f1,K1⟩:=q;rw [hi]at h;rw [pK hi];cases f1 with
  |code=>cases h
  |res r=>cases K1 with
   |cons=>cases h
   |nil=>exact h
theorem fX{E:Env}{f:FuncId}{n:Nat}(ho:E.orc f=none)(h:PN E f (whole E (qK E f n) [])=true):Qp (run E (n+1) (.call f [] ⟨0, .nil⟩))=true:=by
 unfold PN qK at h;simp only [run,step,ho];cases hf:E.fn f with
 |none=>simp [hf]at h
 |some fn=>
  simp only [hf]at h;cases hb:fn.body with
  |none=>simp [hb,whole,JH,tell,Qp]at h
  |some c=>
   simp only [hb]at h
   show Qp (match fn.body with
    |none=>none
    |some c=>tmpsOf 0 [] ⟨fn.ntmps,some undef, .nil⟩ fun t=>tell E fn (run E n (.code false c t [] ⟨0, .nil⟩)))=true
   simp only [hb];exact h
namespace Sh
abbrev i(m:Nat):Value:= .int .i64 (.ofNat m)
abbrev u(m:Nat):Value:= .int .u64 (.ofNat m)
abbrev p(b o:Nat):Value:= .pointer (some ⟨b,o,none⟩)
abbrev z{α:Type}:Tr α:= .nil
abbrev l{α:Type}(x:α):Tr α:= .node .nil (some x) .nil
abbrev n{α:Type}(a:Tr α)(v:Option α)(b:Tr α):Tr α:= .node a v b
abbrev m{α:Type}(a:Tr α)(v:α)(b:Tr α):Tr α:= .node a (some v) b
abbrev y{α:Type}(a b:Tr α):Tr α:= .node a none b
abbrev q(n:Nat)(e:TypeId)(t:Tr Value):Na:= .cells ⟨n,none,t⟩ e true
end Sh
end
end Sk
end Go.Proofs.YtfnkmolffhfpoaaGreat
namespace Go.Proofs.YtfnkmolffhfpoaaGreat
namespace Sk
noncomputable def zA:Env:=⟨env.P,env.fn,env.ty,env.Jz,fun _=>none,fun _ _ _=>none,[],fun _ v=>v⟩
noncomputable def b23:Code:=cX zA 23
noncomputable def jaE:Code:=cX zA 103
end Sk
end Go.Proofs.YtfnkmolffhfpoaaGreat
namespace Go.Proofs.YtfnkmolffhfpoaaGreat
namespace Sk
open Sh
noncomputable section
def Vb:Value:=i 1
def pg:Tr Value:=l Vb
def Cp:Na:=q 4 23 (m (m pg (i 3) z) Vb pg)
def gX:Value:= .slice (some ⟨566,0,none⟩) 4 2
def hX:Na:=q 5 26 (m (m pg (i 3) z) Vb (m (l gX) Vb z))
def Jb:Value:=i 0
def Ya:Tr Value:=l Jb
def KH:Na:=q 3 154 (m Ya (i 4) Ya)
def LH:Na:=q 3 154 (m Ya (i 11) Ya)
def Zn:Tr Value:=l (u 0)
def kaE:Na:=q 1 43 Zn
def Dp:Tr Value:=l (i 2)
def MH:Na:=q 3 154 (m Ya Vb Dp)
def yg:Tr Value:=m Ya Jb Ya
def Ba:Na:=q 3 154 yg
def NH:Na:=q 3 154 (m Ya Vb Ya)
def OH:Na:=q 3 154 (m Ya (i 9) Ya)
def iX:Tr Value:=l (.slice (some ⟨1342,0,none⟩) 11 1)
def laE:Na:=q 1 225 iX
def Ky:Na:=q 3 154 (m Ya (i 6) Ya)
def Ly:Na:=q 3 154 (m Dp (i 11) Ya)
def It:Na:=q 3 154 (m Ya (i 2) Ya)
def My:Na:=q 3 154 (m Dp (i 9) Ya)
def Ny:Na:=q 3 154 (m Ya (i 5) Ya)
def Oy:Na:=q 3 154 (m pg (i 11) Ya)
def Py:Na:=q 3 154 (m pg Vb Dp)
def Qy:Na:=q 3 154 (m pg Vb Ya)
def Ry:Na:=q 3 154 (m pg (i 9) Ya)
def eE:Tr Value:=m Zn Jb (l (.bool true))
def jX:Tr Value:=m (l (u 2)) (.int .i64 (.negSucc 1)) z
def fE:Na:=q 6 112 (m eE (i 2) jX)
def Sy:Na:=q 3 154 (m Ya (i 8) Ya)
def rK:Na:=q 3 154 (m Ya (i 17) Ya)
def Jt:Na:=q 3 154 (m Ya (i 3) Ya)
def kX:Na:=q 1 3 Ya
def Kt:Tr Value:=m Zn (u 0) z
def sK:Tr Value:=m Kt (u 0) Kt
def tK:Tr Value:=m Kt (u 0) Zn
def gE:Tr Value:=m sK (u 0) tK
def iE:Tr Value:=m gE (u 0) gE
def lX:Tr Value:=m (m (m sK (u 0) sK) (u 0) gE) (u 0) iE
def mX:Tr Value:=m lX (u 0) (m (m (m (m Kt (u 1) Kt) (u 0) (m Kt (u 1) Zn)) (u 0) gE) (u 0) iE)
def nX:Na:= .cells ⟨88,none,mX⟩ 43 false
def Ty:Na:=q 3 154 (m Ya Vb (l (i 6)))
def Uy:Na:=q 3 154 (m Ya Vb (l (i 4)))
def Vy:Na:=q 3 154 (m Ya (i 13) Ya)
def jE:Na:=q 6 112 (m eE (i 2) (m (l (u 1)) (i 16) z))
def Wy:Na:=q 3 154 (m Dp (i 13) Ya)
def Xy:Na:=q 3 154 (m pg Vb (l (i 6)))
def Yy:Na:=q 3 154 (m pg Vb (l (i 4)))
def Zy:Na:=q 3 154 (m pg (i 13) Ya)
def oX:Tr Value:=m (l (u 3)) (.int .i64 (.negSucc 4)) z
def kE:Na:=q 6 112 (m eE (i 2) oX)
def Aai:Na:= .cells ⟨88,none,mX⟩ 259 false
def lE:Na:=q 1 3 (l (i 32))
def uK:Na:=q 3 154 (m Dp (i 17) Ya)
def pX:Tr Value:=m lX (u 0) (m iE (u 0) iE)
def Bai:Na:= .cells ⟨88,none,pX⟩ 259 false
def Cai:Na:=q 2 110 (m (l (u 1)) (i 24) z)
def mE:Na:=q 6 112 (m eE (i 2) (m (l (u 1)) (i 24) z))
def qX:Na:= .cells ⟨6,some (u 0),(y (l (u 2)) (y (l (u 3)) z))⟩ 43 true
def Dai:Na:=q 1 3 (l (i 8))
def Eai:Na:=q 1 3 (l (i 11))
def cz:Na:=q 3 154 (m Ya (i 12) Ya)
def ez:Na:=q 3 154 (m Ya Vb (l (i 3)))
def fz:Na:=q 3 154 (m Ya Vb pg)
def iz:Na:=q 3 154 (m Ya (i 10) Ya)
def rX:Tr Value:=m (m (l (u 3)) (i 2) z) (i 4) (l (.int .i64 (.negSucc 4)))
def Fai:Na:=q 10 141 (m (m (m Zn Jb z) (.slice (some ⟨987,0,none⟩) 6 1) (m (l (.bool true)) Jb z)) (p 988 0) rX)
def jz:Na:=q 3 154 (m Ya (i 7) Ya)
def kz:Na:=q 3 154 (m Dp (i 12) Ya)
def lz:Na:=q 3 154 (m Dp (i 10) Ya)
def mz:Na:=q 3 154 (m pg (i 12) Ya)
def oz:Na:=q 3 154 (m pg Vb (l (i 3)))
def pz:Na:=q 3 154 (m pg Vb pg)
def qz:Na:=q 3 154 (m pg (i 10) Ya)
def nE:Na:=q 3 154 (m pg (i 17) Ya)
def vK:Na:=q 3 154 (m Ya (i 16) Ya)
def tz:Na:=q 3 154 (m Ya Vb (l (i 7)))
def uz:Na:=q 3 154 (m Ya Vb (l (i 5)))
def xz:Na:=q 3 154 (m pg Vb (l (i 7)))
def yz:Na:=q 3 154 (m pg Vb (l (i 5)))
def sX:Na:=q 1 3 (l (i 7))
def tX:Value:= .slice (some ⟨979,0,none⟩) 11 8
def Gai:Na:=q 1 176 (l tX)
def Hai:Na:= .cells ⟨1,some (.slice none 0 0),z⟩ 285 true
def Az:Tr Value:=m Ya Jb z
def Bz:Tr Value:=m Az Jb Ya
def oE:Tr Value:=m Ya Jb pg
def Cz:Tr Value:=m yg Jb (m Ya Jb Dp)
def pE:Tr Value:=m yg Vb yg
def wK:Tr Value:=m Ya Jb (l (i 12))
def uX:Tr Value:=m (m Bz Vb oE) Vb (m yg Jb yg)
def xK:Tr Value:=m Ya Jb (l (i 13))
def Dz:Na:= .cells ⟨264,none,(m (m (m (m (m (m Bz Vb oE) Vb (m yg (i 7) yg)) Jb (m (m Bz Vb yg) (i 7) Cz)) Vb (m (m (m (m Az Jb (l (i 10))) (i 3) yg) Jb (m (m (l (i 7)) Jb Ya) Jb (m Ya Jb (l (i 10))))) (i 3) (m pE Vb (m (m Ya Jb (l (i 10))) Jb yg)))) Jb (m (m (m (m Bz Vb wK) (i 5) Cz) Vb (m (m wK (i 5) yg) Vb (m oE Jb wK))) Vb (m uX Jb (m pE Vb Cz)))) Vb (m (m (m (m (m (m Az Jb (l (i 9))) (i 2) (m Ya (i 4) Ya)) Jb (m (m (l (i 6)) Jb Ya) (i 2) (m Ya Jb (l (i 9))))) (i 2) (m (m (m Ya (i 3) Ya) Vb (m (l (i 8)) Jb Ya)) Vb (m (m Ya Jb (l (i 9))) Jb (m Ya (i 5) Ya)))) Jb (m (m (m Bz Vb xK) (i 6) Cz) Vb (m (m xK (i 6) yg) Vb (m oE Jb xK)))) Jb (m (m uX Jb (m pE Jb Cz)) Vb (m (m (m (m Az Jb (l (i 11))) (i 4) yg) Jb (m yg Jb (m Ya Jb (l (i 11))))) (i 4) (m pE Vb (m (m Ya Jb (l (i 11))) Jb yg))))))⟩ 154 false
def Iai:Na:=q 2 110 oX
def Jai:Na:=q 2 110 jX
def vX:Na:= .cells ⟨11,some Jb,z⟩ 3 true
def yK:Value:= .slice (some ⟨942,0,none⟩) 88 1
def Kai:Na:= .loop .exhausted none 0 ⟨23,some (.tuple ⟨[]⟩),(m (y (m (l yK) Jb (l (.bool false))) (m Ya (p 953 0) (l yK))) yK (m (m (l (i 88)) Jb z) (.slice none 0 0) (y Ya (l (.func (.func 274) ⟨[]⟩ ⟨[p 954 0,p 955 0]⟩)))))⟩ #[15] (Jy jaE [1,1,1,0,1,0,0]) (Jy jaE [1,1,1,0,1,0,1]) 956
def Lai:Na:= .cells ⟨1,none,iX⟩ 225 false
def zK:Na:=q 8 259 (m tK (u 0) (m Zn (u 0) Zn))
def wX:Na:=q 8 259 (m tK (u 1) (m Zn (u 0) Zn))
def AK:Na:=q 6 154 (m (m (l (i 15)) Jb Ya) (i 14) Az)
def Mai:Na:=q 1 43 (l (u 1))
def Nai:Na:=q 4 188 (m (m (l (.slice (some ⟨981,0,none⟩) 1 1)) (.slice (some ⟨983,0,none⟩) 11 8) z) tX (l (.slice (some ⟨980,0,none⟩) 11 1)))
def BK:Na:= .cells ⟨18,none,(m (m (m (m (l (i 17)) Jb z) (i 15) Ya) Jb (m (m Ya (i 17) z) Jb pg)) (i 14) (m (m (m Dp Jb z) Jb (l (i 17))) Jb (m Ya (i 16) Ya)))⟩ 154 false
def Oai:Na:=q 1 43 (l (u 3))
def Pai:Na:=q 4 148 (m (m (l (.slice (some ⟨1344,0,none⟩) 1 1)) (.slice (some ⟨1340,0,none⟩) 88 1) z) (.slice (some ⟨1338,0,none⟩) 88 1) (l (.slice (some ⟨1341,0,none⟩) 11 1)))
def Qai:Na:= .YB false
def Rai:Na:=q 9 174 (m (m (m (l (i 8)) Vb z) (i 3) (l (i 7))) Vb (m (m (l (i 11)) (i 6) z) Vb pg))
def Sai:Na:=q 10 181 (m (m (m Zn Jb z) (.slice (some ⟨985,0,none⟩) 6 1) (m (l (.bool true)) Jb z)) (p 984 0) rX)
def Tai:Na:=q 2 110 (m (l (u 1)) (i 16) z)
def Uai:Na:= .cells ⟨88,none,pX⟩ 43 false
def Vai:Na:=q 1 99 (l (.slice (some ⟨0,0,some 1⟩) 0 0))
def Wai:Na:=q 0 259 z
def Xai:Na:= .cells ⟨8,none,(m (m (m (l (u 3)) (u 1) z) (u 1) (l (u 2))) (i 16) (m (l (.int .i64 (.negSucc 1))) (i 24) (l (.int .i64 (.negSucc 4)))))⟩ 110 false
def Yai:Na:=q 1 43 (l (u 2))
def Zai:Na:= .cells ⟨88,some (u 0),z⟩ 43 true
def aaj:Na:= .cells ⟨11,some (.bool false),z⟩ 4 true
def xX:Tr Value:=l (.tuple ⟨[p 764 0,p 986 0,p 1345 0, .bool true]⟩)
def Z2:Tm:=⟨39,some (.tuple ⟨[]⟩),(m (m (m (y (l (.bool true)) z) (p 1345 0) xX) (p 764 0) (y (l (.agg ⟨[Vb,i 3,Vb,Vb]⟩)) (l (p 986 0)))) (.bool false) (m (m xX (.bool true) (l (p 764 0))) (p 986 0) (y (l (.agg ⟨[Vb,i 3,Vb,Vb,gX]⟩)) (l (p 1345 0)))))⟩
def Za:Tr Na:=l kaE
def qg:Tr Na:=y Za z
def Qb:Tr Na:=m Za Ba z
def mb:Tr Na:=y z z
def gq:Tr Na:=m Qb Ba mb
def jb:Tr Na:=y mb z
def iq:Tr Na:=m Qb Ba qg
def CK:Tr Na:=y iq gq
def DK:Tr Na:=m Qb Ba Za
def Lt:Tr Na:=m Za Cp z
def yX:Tr Na:=m (m Za uK z) Ba qg
def EK:Tr Na:=m Qb Ba jb
def jq:Tr Na:=y jb (l zK)
def Mt:Tr Na:=m mb Ba z
def kq:Tr Na:=y jb Mt
def jm:Tr Na:=y jb mb
def zX:Tr Na:=y (y jb (m (l fE) Ba z)) jq
def Bi:Tr Na:=y jb (l Ba)
def AX:Tr Na:=y (y jb (m (l Mai) Ba z)) jq
def Ez:Tr Na:=y jb (m (l zK) Ba z)
def qE:Tr Na:=y Ez jm
def BX:Tr Na:=y jb (m (l kE) Ba z)
def rE:Tr Na:=m mb Cp z
def CX:Tr Na:=y (m jb Cp (l Ba)) (y rE mb)
def DX:Tr Na:=y (y jb (m (l jE) Ba z)) jq
def EX:Tr Na:=y (y jb (m (l mE) Ba z)) jq
def A3:AH:=⟨1392,(m (m (m (y (y (y (y (y (m (m Za LH z) KH qg) (m Qb MH mb)) (m (m (m Za MH z) OH (y (l laE) z)) NH (m (m Za LH z) Ba mb))) (y (y (m (m Za Ly z) Ky qg) gq) (m (m Qb My jb) It (m (m Za Ly z) Ba Za)))) (y (y (y (m (m Za Oy z) Ny qg) (m Qb Py mb)) (m (m (m Za Py z) Ry (y (l fE) z)) Qy (m (m Za Oy z) Ba mb))) (y (y (m (m Za rK z) Sy qg) (m Qb Ba (l Cp))) (m (m Qb kX (y (l nX) z)) Jt (m (m Za rK z) Ba Za))))) (y (y (y (y iq (m Qb Ty mb)) (m (m (m Za Ty z) Vy (y (l jE) z)) Uy gq)) (y CK (m (m Qb Wy jb) Ba DK))) (y (y (y iq (m Qb Xy mb)) (m (m (m Za Xy z) Zy (y (l kE) z)) Yy (m Qb Ba (l Aai)))) (y (m (m Lt Ba qg) lE (m Qb Ba (l uK))) (m (m Qb Cp mb) Ba (m Lt Ba Za)))))) Cp (y (y (y (y (y (m (m Za Vy z) Ba qg) (m Qb Uy mb)) (m (m (m Za Uy z) LH (y (l jE) z)) MH (m (m Za Vy z) Ba mb))) (y (y (m (m Za Wy z) Ba qg) gq) (m (m Qb Ly jb) Ba (m (m Za Wy z) Ba Za)))) (y (y (y (m (m Za Zy z) Ba qg) (m Qb Yy mb)) (m (m (m Za Yy z) Oy (y (l fE) z)) Py (m (m Za Zy z) Ba (l Bai)))) (y (y yX (m Qb Ba (l rK))) (m (m Qb Cai mb) Ba (m (m Za uK z) Ba Za))))) (y (y (y (y (m (m Za Ry z) Ba qg) (m (m Za Ny z) Qy mb)) (m (m (m Za Qy z) Ba (y (l mE) z)) Ty (m (m Za Ry z) Ny mb))) (y (y (m Lt Ba qg) (m (m Za Sy z) Jt mb)) (m (m (m Za Jt z) Ba jb) Ba (m Lt Sy Za)))) (y (y (y (m (m Za My z) Ba qg) (m (m Za Ky z) It mb)) (m (m (m Za It z) Ba jb) Xy (m (m Za My z) Ky (l qX)))) (y (y (m (m Za NH z) Ba qg) (m (m Za OH z) KH (l Dai))) (m (m (m Za KH z) NH mb) Ba (m (m Za Eai z) OH Za))))))) hX (m (y (y (y (y (y (m (m Za cz z) Ba qg) (m Qb ez mb)) (m (m (m Za ez z) iz (y (l Fai) z)) fz (m (m Za cz z) Ba mb))) (y (y (m (m Za kz z) jz qg) gq) (m (m Qb lz jb) Ba (m (m Za kz z) Ba Za)))) (y (y (y (m (m Za mz z) Ba qg) (m Qb oz mb)) (m (m (m Za oz z) qz (y (l fE) z)) pz (m (m Za mz z) Ba mb))) (y (y (m (m Za nE z) Ba qg) (m Qb Ba (l vK))) (m (m Qb lE mb) Ba (m (m Za nE z) Ba Za))))) (y (y (y (y iq (m Qb tz mb)) (m (m (m Za tz z) Ba (y (l mE) z)) uz gq)) (y CK (m EK Ba DK))) (y (y (y iq (m Qb xz mb)) (m (m (m Za xz z) Ba (y (l kE) z)) yz (m Qb Ba (l qX)))) (y (m yX sX (m Qb Ba (l Gai))) (m (m Qb nE mb) Ba (m Lt Ba Za)))))) Cp (y (y (y (y (y iq (m Qb uz mb)) (m (m (m Za uz z) cz (y (l jE) z)) ez gq)) (y CK (m (m Qb kz jb) Ba DK))) (y (y (y iq (m Qb yz mb)) (m (m (m Za yz z) mz (y (l kE) z)) oz (m Qb Ba (l Hai)))) (y (m (m (m Za Iai z) Ba qg) Dz (m Qb Ba (l nE))) (m (m Qb Jai mb) Ba (m (m Za hX z) Ba Za))))) (y (y (y (y (m (m Za qz z) Ba qg) (m Qb pz mb)) (m (m (m Za pz z) Ba (y (l mE) z)) tz (m (m Za qz z) Ba mb))) (y (y (m (m Za vK z) Ba qg) (m Qb Ba (l Dz))) (m EK Ba (m (m Za vK z) Ba Za)))) (y (y (y (m (m Za lz z) Ba qg) (m (m Za jz z) Ba mb)) (m EK xz (m (m Za lz z) jz Za))) (y (m (m (m Za fz z) Ba (y (l vX) z)) Jt (m (m Za iz z) Ba (l Kai))) (m (m Qb fz mb) Ba (m Lt iz Za)))))))) Cp (m (m (m (m (m (m (m (y jb (m mb fz z)) Ba (y jb (l iz))) Ba (y (y jb (m (l Lai) Ba z)) jq)) yz (m (m kq Ba (y jb (l lz))) Ba (y (y jb (m (l wX) jz z)) jm))) uz (m (m (m (y jb (m mb pz z)) Ba (y jb (l qz))) Ba zX) Ba (m (m kq Ba (y jb (l AK))) Ba (y (m jb lE (l Ba)) jm)))) fz (m (m (m (m (y jb (m mb uz z)) iz Bi) Ba AX) Ba (m (m kq lz Bi) jz qE)) pz (m (m (m (y jb (m mb yz z)) qz Bi) Ba (y BX (y jb (l Nai)))) Ba (m (m (y rE Mt) lE (y jb (l BK))) Ba CX)))) It (m (m (m (m (m (y jb (m mb ez z)) Ba (y jb (l cz))) Ba DX) xz (m (m kq Ba (y jb (l kz))) Ba qE)) tz (m (m (m (y jb (m mb oz z)) Ba (y jb (l mz))) Ba (y (y jb (m (l Oai) Ba z)) (y jb (l vX)))) Ba (m (m (y (m mb BK z) Mt) Ba jm) Ba (y Bi (y (m mb BK z) mb))))) ez (m (m (m (m (y jb (m mb tz z)) cz Bi) Ba EX) Ba (m (m (y (m mb AK z) Mt) kz Bi) Ba (y Ez (y (m mb AK z) mb)))) oz (m (m (m (y jb (m mb xz z)) mz Bi) Ba (y Ez (y jb (l Pai)))) Ba (m (m (y jb (m (l nX) Ba z)) Cp (y jb (l Qai))) Ba (y Bi (y (m mb Rai z) mb))))))) hX (m (m (m (m (m (m (y jb (m mb MH z)) Ba (y jb (l LH))) Ba AX) Xy (m (m kq Ba (y jb (l Ly))) Ba qE)) Ty (m (m (m (y jb (m mb Py z)) Ba (y jb (l Oy))) Ba zX) Ba (m (m kq Ba jm) Ba (y (m jb sX (l Ba)) jm)))) MH (m (m (m (m (y jb (m mb Ty z)) LH Bi) Ba EX) Ba (m (m (y (m mb Dz z) Mt) Ly Bi) Ba (y Ez (y (m mb Dz z) mb)))) Py (m (m (m (y jb (m mb Xy z)) Oy Bi) Ba (y Ez (y jb (l Sai)))) Ba (m (m (y rE (m (l Uai) Ba z)) Tai (y jb (l Vai))) Ba CX)))) NH (m (m (m (m (m (y jb (m mb Uy z)) OH (y jb (l Vy))) KH DX) It (m (m kq My (y jb (l Wy))) Ky qE)) Qy (m (m (m (y jb (m mb Yy z)) Ry (y jb (l Zy))) Ny (y BX (y jb (l Wai)))) Jt (m (m (y (m mb Xai z) Mt) kX jm) Sy (y Bi (y rE mb))))) Uy (m (m (m (m (y jb (m mb Qy z)) Vy (y jb (l Ry))) Ba (y (y jb (m (l Yai) Ny z)) jq)) Ba (m (m (y jb (m mb Jt z)) Wy (y jb (l Zai))) Ba (y (m jb Dz (m (l zK) Sy z)) jm))) Yy (m (m (m (y jb (m mb It z)) Zy (y jb (l My))) Ba (y (y jb (m (l wX) Ky z)) jm)) Ba (m (m (y jb (m (l aaj) KH z)) Cp jq) Ba (y (y jb (l OH)) (y (m mb NH z) mb)))))))))⟩
def QN:Fo:= .code 99998 (Jy b23 [1,1]) Z2 [] A3
def RN:List Fm:=[]
end
end Sk
end Go.Proofs.YtfnkmolffhfpoaaGreat
namespace Go.Proofs.YtfnkmolffhfpoaaGreat
namespace Sk
theorem FX:itF zA 6 (qK zA 23 100000) []=some (QN,RN):=by kernel_rfl
theorem GX:dX zA 23 (itF zA 13 QN RN)=true:=by kernel_rfl
theorem baj:Qp (run zA 100001 (.call 23 [] ⟨0, .nil⟩))=true:=fX (by kernel_rfl) ((congrArg (PN zA 23) (pK FX)).trans (eX GX))
end Sk
end Go.Proofs.YtfnkmolffhfpoaaGreat
namespace Go.Proofs.YtfnkmolffhfpoaaGreat
namespace Sk
open Go.RowKit
theorem C3: @Yb (Th.at (fun _=>0) fun _=> .mem jT) zA:=by
 letI:Interp:=Th.at (fun _=>0) fun _=> .mem jT
 exact lS fL VA gL WA SG (fun F hF v c hv=>⟨⟨c,hv⟩,rfl⟩) (fun e o ty v h=>by cases h)
theorem D3: @yk (Th.at (fun _=>0) fun _=> .mem jT) zA:=by
 intro f g hg;cases hg
theorem E3(w:World):Calls Tryz.prog 23 #[] w fun e w'=>e= .returned (.bool true)/\Below w.heap.size w w':=by
 letI:Interp:=Th.at (fun _=>0) fun _=> .mem jT
 exact Wz C3 D3 baj w
end Sk
end Go.Proofs.YtfnkmolffhfpoaaGreat
namespace Go.Proofs.YtfnkmolffhfpoaaGreat
open Go.RowKit Go.BigFrame Go.ChangeShapes Go.WideShapes Go.Deep
theorem SN:Tryz.prog.cellsOf 88=10:=by kernel_rfl
theorem PH:Rd Tryz.prog 5 88 0=some (some .i64):=by kernel_rfl
theorem IX:Rd Tryz.prog 5 88 1=some (some .i64):=by kernel_rfl
theorem JX:Rd Tryz.prog 5 88 2=some (some .u32):=by kernel_rfl
theorem KX:Rd Tryz.prog 5 88 3=some (some .u32):=by kernel_rfl
theorem LX:Rd Tryz.prog 5 88 4=some (none):=by kernel_rfl
theorem MX:Rd Tryz.prog 5 88 5=some (some .i64):=by kernel_rfl
theorem NX:Rd Tryz.prog 5 88 6=some (some .i64):=by kernel_rfl
theorem OX:Rd Tryz.prog 5 88 7=some (some .i64):=by kernel_rfl
theorem PX:Rd Tryz.prog 5 88 8=some (some .u64):=by kernel_rfl
theorem QX:Rd Tryz.prog 5 88 9=some (some .u64):=by kernel_rfl
theorem AA{H:Type}{enc:TypeId×Value->H}{w:World}{base:Nat}{spare:Nat->Bool}{held:Bool}{fuel:Nat}{a:Option Addr}{len cap:Nat}{x:DataW H×List MemPlace}
  (h:DataW.trod enc Tryz.prog w base spare held fuel 82 (Value.cells (.slice a len cap)).toList=some x):∃f,Sk.Hj w a len f:=by
 obtain ⟨h1,h2,h3⟩:=Nk (P:=Tryz.prog) Tryz.underlying82 (by rw [SN];decide) ⟨5,_,PH⟩ h a len cap (by simp [Value.cells]);unfold maxLen at h2;rcases h3 with rfl|⟨b,off,rfl,hb,hc⟩
 . exact ⟨fun _=>⟨0,0,0,0,false,0,0,0,0,0⟩,fun i hi=>by omega⟩
 . rw [SN]at hc;have each:∀i,∃c:Sk.Qr,i<len->Sk.Ht w b (off+i*10) c/\Sk.XW c:=by
    intro i;by_cases hi:i<len
    . skip
      obtain ⟨_,c0,n0,rfl,f0⟩:=hc i hi 5 0 _ (by decide) PH;obtain ⟨_,c1,n1,rfl,f1⟩:=hc i hi 5 1 _ (by decide) IX;obtain ⟨_,c2,n2,rfl,f2⟩:=hc i hi 5 2 _ (by decide) JX;obtain ⟨_,c3,n3,rfl,f3⟩:=hc i hi 5 3 _ (by decide) KX;obtain ⟨_,c4,n4,rfl⟩:=hc i hi 5 4 _ (by decide) LX;obtain ⟨_,c5,n5,rfl,f5⟩:=hc i hi 5 5 _ (by decide) MX;obtain ⟨_,c6,n6,rfl,f6⟩:=hc i hi 5 6 _ (by decide) NX;obtain ⟨_,c7,n7,rfl,f7⟩:=hc i hi 5 7 _ (by decide) OX;obtain ⟨_,c8,n8,rfl,f8⟩:=hc i hi 5 8 _ (by decide) PX;obtain ⟨_,c9,n9,rfl,f9⟩:=hc i hi 5 9 _ (by decide) QX;simp [Lit.wf,IntKind.min,IntKind.max,IntKind.signed,IntKind.bits]at f1 f2 f3 f7 f9;refine ⟨⟨n0,n1,n2,n3,n4,n5,n6,n7,n8,n9⟩,fun _=>⟨⟨c0,c1,c2,c3,c4,c5,c6,c7,c8,c9⟩,⟨?_, ?_, ?_, ?_, ?_, ?_, ?_, ?_, ?_⟩⟩⟩
      all_goals (try unfold ud);simp only;omega
    . exact ⟨⟨0,0,0,0,false,0,0,0,0,0⟩,fun h=>absurd h hi⟩
   exact ⟨fun i=>Classical.choose (each i),fun i hi=>⟨b,off,rfl,hb,(Classical.choose_spec (each i) hi).1,(Classical.choose_spec (each i) hi).2⟩⟩
theorem maE:Rd Tryz.prog 4 3 0=some (some .i64):=by kernel_rfl
set_option maxRecDepth 100000 in
theorem RX{H:Type}{enc:TypeId×Value->H}{w:World}{r:Reach}{b0 base:Nat}{spare:Nat->Bool}{held:Bool}{v:Value}{d:DataW H}{p:List MemPlace}
  (hv:Value.okWide Tryz.prog w r b0 3 v)(h:DataW.Trod enc Tryz.prog w base spare held 3 v d p):∃n:Int,v= .int .i64 n/\-9223372036854775808<=n/\n<=9223372036854775807:=by
 obtain ⟨n,rfl⟩:=okWide_int Tryz.underlying3 hv;obtain ⟨fuel,hf⟩:=h;obtain ⟨_,g0,n0,rfl,f0⟩:=Pg 4 3 0 _ fuel _ _ hf maE;simp [Lit.wf,IntKind.min,IntKind.max,IntKind.signed,IntKind.bits]at f0;simp [Value.cells]at g0;subst g0;exact ⟨_,rfl,by omega,by omega⟩
theorem SX{th sl ib bu:Int}{a:Option Addr}{len cap:Nat}{at_ wv:Nat->Int}{t:Int}{a2:Option Addr}{n2 Rr:Nat}{f:Nat->Sk.Qr}{W:World}(hl:len<=cap)(hc:cap<=maxLen)(hP:Rj W a len at_ wv)(t0:-9223372036854775808<=t)(t1:t<=9223372036854775807)(hK:Sk.Hj W a2 n2 f):
  Calls Tryz.prog 5 #[.agg #[.int .i64 th, .int .i64 sl, .int .i64 ib, .int .i64 bu, .slice a len cap], .int .i64 t, .slice a2 n2 Rr] W fun e w'=>e= .returned (.bool true)/\Below W.heap.size W w':=
 Sk.QaM (Lib.hid Sk.E3) th sl ib bu a len cap (by unfold maxLen at hc;omega) at_ wv t t0 t1 a2 n2 Rr f W hP hK
end Go.Proofs.YtfnkmolffhfpoaaGreat
namespace Go.Proofs.YtfnkmolffhfpoaaGreat.zd
theorem k0:(Rows.threadPlaysRow.wf (OpenSpec.ofChange Rows.threadPlaysSpec))=true:=by kernel_rfl
theorem k1:(laidOutB Tryz.checked.prog)=true:=by kernel_rfl
theorem k2:(mapsRowed Tryz.checked.prog)=true:=by kernel_rfl
end Go.Proofs.YtfnkmolffhfpoaaGreat.zd
