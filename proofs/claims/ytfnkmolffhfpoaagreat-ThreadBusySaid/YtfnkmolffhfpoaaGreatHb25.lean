/- -/
import Derived.Test.YtfnkmolffhfpoaaGreatHb24
import Derived.Test.YtfnkmolffhfpoaaGreatHb23
import Derived.IntWalk
set_option linter.unusedVariables false
set_option linter.unusedSimpArgs false
namespace Go.Proofs.YtfnkmolffhfpoaaGreat
open Go.RowKit Go.BigFrame
def IE(k:Nat):List Nm:=(List.range k).map fun(i:Nat)=>(1,(i:Int)/8,(i:Int) %8)
theorem cJ(k:Nat):IE (k+1)=IE k++[(1,(k:Int)/8,(k:Int) %8)]:=by simp [IE,List.range_succ]
def Lf:List Nm:=Cc 33 (Cc 25 (Cc 17 (IE 16++[(2,0,0)])++[(3,0,0)])++[(4,0,0)])
def Ca(k:Nat):List Nm:=(List.range k).flatMap fun(t:Nat)=>[((6:Int),(t:Int),(0:Int)),(7,t,0)]++Jd 6
theorem uC(k:Nat):Ca (k+1)=Ca k++([((6:Int),(k:Int),(0:Int)),(7,k,0)]++Jd 6):=by simp [Ca,List.range_succ]
def Ol(t k:Nat):List Nm:=(List.range k).map fun(i:Nat)=>(8,(t:Int),(i:Int))
theorem dJ(t k:Nat):Ol t (k+1)=Ol t k++[(8,(t:Int),(k:Int))]:=by simp [Ol,List.range_succ]
def Dh(Ta k:Nat):List Nm:=(List.range k).flatMap fun(t:Nat)=>Ol t Ta++Jd (Hd Ta -Ta)
theorem JE(Ta k:Nat):Dh Ta (k+1)=Dh Ta k++(Ol k Ta++Jd (Hd Ta -Ta)):=by simp [Dh,List.range_succ]
def Wg(s k:Nat):List Nm:=(List.range k).map fun(i:Nat)=>(9+(i:Int),(s:Int),0)
theorem KE(s k:Nat):Wg s (k+1)=Wg s k++[(9+(k:Int),(s:Int),0)]:=by simp [Wg,List.range_succ]
def ag(k:Nat):List Nm:=(List.range k).flatMap fun(s:Nat)=>Wg s 5++Jd 3
theorem vC(k:Nat):ag (k+1)=ag k++(Wg k 5++Jd 3):=by simp [ag,List.range_succ]
def Kd(th sl Ta bu:Nat):List Nm:=Cc (40+bu) (Lf++xd 5 bu)++Ca th++Dh Ta th++ag sl
set_option maxRecDepth 100000 in
set_option maxHeartbeats 4000000 in
theorem fx(th sl Ta bu:Nat)(h1:th<=64)(h2:sl<=65536)(h3:Ta<=64)(h4:bu<=64)(W:World):
  Calls Tryz.prog 41 #[.agg #[.int .i64 (th:Int), .int .i64 (sl:Int), .int .i64 (Ta:Int), .int .i64 (bu:Int)]] W (Cz (Hd (40+bu)+8*th+Hd Ta*th+8*sl) (Kd th sl Ta bu) W):=by
 obtain ⟨i64,hi,ft,Kh,qg⟩:=info_parts FE
 go_enter Tryz.func41,Tryz.ntmps41
 go_wp2_with fail
 obtain ⟨c,hc⟩:∃c,c=#[Value.int .i64 (th:Int),Value.int .i64 (sl:Int),Value.int .i64 (Ta:Int),Value.int .i64 (bu:Int)]:=⟨_,rfl⟩;have H0:Hid (Hb W c 0 (IE 0) (.slice none 0 0) (W.alloc (.cells #[.int .i64 (th:Int), .int .i64 (sl:Int), .int .i64 (Ta:Int), .int .i64 (bu:Int)] 23))):=Lib.hid
  ⟨(Below.refl _ _).alloc (Nat.le_refl _) _,by rw [hc];exact heap_alloc_new _ _,World.ownsRow_nil _ _ _ _⟩
 have QT:=Lib.hid hc;clear hc
 go_loopw [3,4] (fun v i wr=>∃k:Nat,k<=16/\i= .int .i64 k/\Hid (Hb W c k (IE k) v wr)) (fun _ i _=>16 -(intOf i).toNat)
 case atStart=>exact ⟨0,Nat.zero_le _,rfl,H0⟩
 case round=>
  obtain ⟨k,hk,rfl,HP⟩:=hrel;obtain ⟨va,vc,rfl⟩:=Ra HP.out.own;have HO:=Lib.hid HP.out.own;have Jh:Hid (W.heap.size+1<=_):=Lib.hid (Mb HP.out.box);have HK:=HP;clear HP;by_cases Ab:k<16
  . have d1:decide ((k:Int)<16)=true:=ca (by omega)
    go_wp2_with (at_builtin;refine Sd rfl _ _ 100 rfl (W.heap.size+1) 154 i64 _ 3 24 Tryz.underlying100 hi ft Kh qg rfl (by decide) _ Jh.out _ _ _ (by rfl) HO.out _ 1 1 (by rfl) (by rfl) (by simp [Value.oneCell']) (by unfold maxLen;first|omega|(simp only [Hd];omega)) (by first|omega|(simp only [Hd];omega)) ?_;intro v' w' yd Kk Yf Jc;have HP:=Lib.hid (HK.out.push (fun q hq=>(HO.out.lt q hq).1) yd Kk Yf);clear yd Kk Yf Jc HO Jh HK;obtain ⟨va,vc,rfl⟩:=Ra HP.out.own;have HO:=Lib.hid HP.out.own;have Jh:Hid (W.heap.size+1<=_):=Lib.hid (Mb HP.out.box);have HK:=HP;clear HP)
    go_roundw
    case rel=>exact ⟨k+1,by omega,by go_num,by rw [cJ];exact HK⟩
    case measure=>simp [intOf];omega
  . obtain rfl:k=16:=by omega
    have d1:decide (((16:Nat):Int)<16)=false:=by decide
    clear Ab hk H0;obtain ⟨m0,TD⟩:∃m0:Nat,m0=16:=⟨_,rfl⟩;have HM:=Lib.hid TD;obtain ⟨l0,Vl⟩:∃l0,l0=IE 16:=⟨_,rfl⟩;rw [<-Vl]at HK HO;have JP:=Lib.hid Vl;clear Vl;rw [<-TD]at HK HO⊢;rw [<-TD]at d1;clear TD
    go_wp2_with (first|(at_builtin;refine Sd rfl _ _ 100 rfl (W.heap.size+1) 154 i64 _ 3 24 Tryz.underlying100 hi ft Kh qg rfl (by decide) _ Jh.out _ _ _ (by rfl) HO.out _ 1 1 (by rfl) (by rfl) (by simp [Value.oneCell']) (by unfold maxLen;have:=HM.out;first|omega|(simp only [Hd];omega)) (by have:=HM.out;first|omega|(simp only [Hd];omega)) ?_;intro v' w' yd Kk Yf Jc;have HP:=Lib.hid (HK.out.push (fun q hq=>(HO.out.lt q hq).1) yd Kk Yf);clear yd Kk Yf Jc HO Jh HK;obtain ⟨va,vc,rfl⟩:=Ra HP.out.own;have HO:=Lib.hid HP.out.own;have Jh:Hid (W.heap.size+1<=_):=Lib.hid (Mb HP.out.box);have HK:=HP;clear HP)|(go_at_call 101;refine (Ao W c _ (by have:=HM.out;first|omega|(simp only [Hd];omega)) _ _ _ HK.out).mono ?_;rintro e w' ⟨v',rfl,hn⟩;have hn:Hb W c _ _ v' w':=hn;clear HO Jh HK;have HP:=Lib.hid hn;clear hn;obtain ⟨va,vc,rfl⟩:=Ra HP.out.own;have HO:=Lib.hid HP.out.own;have Jh:Hid (W.heap.size+1<=_):=Lib.hid (Mb HP.out.box);have HK:=HP;clear HP))
    clear d1;obtain ⟨m1,FA⟩:∃m1,m1=Hd (Hd (Hd (m0+1)+1)+1):=⟨_,rfl⟩;obtain ⟨l1,CP,I2⟩:∃l1,l1=Cc (Hd (Hd (m0+1)+1)+1) (Cc (Hd (m0+1)+1) (Cc (m0+1) (l0++[(2,0,0)])++[(3,0,0)])++[(4,0,0)])/\Hid (Hb W c m1 l1 _ _):=⟨_,rfl,by rw [FA];exact HK⟩;rw [<-FA];have GA:Hid (m1=40):=Lib.hid (by rw [FA,HM.out];rfl);have FP:Hid (l1=Lf):=Lib.hid (by rw [CP,JP.out,HM.out];rfl);have HA:Hid (Hb W c (m1+0) (l1++xd 5 0) (.slice va m1 vc) _):=Lib.hid (by rw [show xd 5 0=[]from rfl,List.append_nil,FA];rw [FA]at I2;exact I2.out);clear FA CP HK HO Jh I2
    go_loopw [3,5] (fun v i wr=>∃k:Nat,k<=bu/\i= .int .i64 k/\Hid (Hb W c (m1+k) (l1++xd 5 k) v wr)) (fun _ i _=>bu -(intOf i).toNat)
    case atStart=>exact ⟨0,Nat.zero_le _,rfl,HA⟩
    case round=>
     obtain ⟨k,hk,rfl,HP⟩:=hrel;have cb:wr.cell? ⟨W.heap.size,3,none⟩=some (.int .i64 (bu:Int)):=by rw [Ma HP.out.box,QT.out];rfl
     have bY:=Lib.hid (And.intro hk h4);obtain ⟨va,vc,rfl⟩:=Ra HP.out.own;have HO:=Lib.hid HP.out.own;have Jh:Hid (W.heap.size+1<=_):=Lib.hid (Mb HP.out.box);have HK:=HP;clear HP;obtain ⟨n0,sB⟩:∃n0,n0=m1+k:=⟨_,rfl⟩;obtain ⟨l2,iG⟩:∃l2,l2=l1++xd 5 k:=⟨_,rfl⟩;rw [<-sB,<-iG]at HK HO;rw [<-sB];have sC:=Lib.hid sB;have JI:=Lib.hid iG;clear sB iG;by_cases Ab:k<bu
     . have d1:decide ((k:Int)<(bu:Int))=true:=ca (by omega);have d2:decide (k<bu)=true:=ca Ab;have Ah:=Lib.hid Ab;clear Ab
       go_wp2_with (at_builtin;refine Sd rfl _ _ 100 rfl (W.heap.size+1) 154 i64 _ 3 24 Tryz.underlying100 hi ft Kh qg rfl (by decide) _ Jh.out _ _ _ (by rfl) HO.out _ 1 1 (by rfl) (by rfl) (by simp [Value.oneCell']) (by unfold maxLen;have:=sC.out;have:=GA.out;have:=bY.out;first|omega|(simp only [Hd];omega)) (by have:=sC.out;have:=GA.out;have:=bY.out;first|omega|(simp only [Hd];omega)) ?_;intro v' w' yd Kk Yf Jc;have HP:=Lib.hid (HK.out.push (fun q hq=>(HO.out.lt q hq).1) yd Kk Yf);clear yd Kk Yf Jc HO Jh HK;obtain ⟨va,vc,rfl⟩:=Ra HP.out.own;have HO:=Lib.hid HP.out.own;have Jh:Hid (W.heap.size+1<=_):=Lib.hid (Mb HP.out.box);have HK:=HP;clear HP)
       go_roundw
       case rel=>exact ⟨k+1,by have:=Ah.out;omega,by go_num,by rw [show m1+(k+1)=n0+1 by have:=sC.out;omega,Xm,<-List.append_assoc,<-JI.out];exact HK⟩
       case measure=>have:=Ah.out;simp [intOf];omega
     . have d1:decide ((k:Int)<(bu:Int))=false:=ea (by omega);have d2:decide (k<bu)=false:=ea Ab;have HE:Hid (k=bu):=Lib.hid (by omega);clear Ab hk
       go_wp2_with (go_at_call 101;refine (Ao W c _ (by have:=sC.out;have:=GA.out;have:=bY.out;first|omega|(simp only [Hd];omega)) _ _ _ HK.out).mono ?_;rintro e w' ⟨v',rfl,hn⟩;have hn:Hb W c _ _ v' w':=hn;clear HO Jh HK;have HP:=Lib.hid hn;clear hn;obtain ⟨va,vc,rfl⟩:=Ra HP.out.own;have HO:=Lib.hid HP.out.own;have Jh:Hid (W.heap.size+1<=_):=Lib.hid (Mb HP.out.box);have HK:=HP;clear HP)
       obtain ⟨m2,J2⟩:∃m2,m2=Hd n0:=⟨_,rfl⟩;rw [<-J2]at HK HO⊢;obtain ⟨l3,K2,I2⟩:∃l3,l3=Cc n0 l2/\Hid (Hb W c m2 l3 _ _):=⟨_,rfl,HK⟩;have rK:Hid (l3=Cc (40+bu) (Lf++xd 5 bu)):=Lib.hid (by rw [K2,JI.out,sC.out,GA.out,FP.out,HE.out]);have Kf:Hid (m2=Hd (40+bu)/\m2 %8=0/\m2<=200):=Lib.hid (by rw [J2,sC.out,GA.out,HE.out];exact ⟨rfl,by unfold Hd;omega,by unfold Hd;omega⟩);have eC:Hid (Hb W c (m2+8*0) (l3++Ca 0) (.slice va m2 vc) _):=Lib.hid (by rw [show Ca 0=[]from rfl,List.append_nil];exact I2.out);clear J2 K2 HK HO Jh I2 cb d1 d2
       go_loopw [3,6] (fun v i wr=>∃k:Nat,k<=th/\i= .int .i64 k/\Hid (Hb W c (m2+8*k) (l3++Ca k) v wr)) (fun _ i _=>th -(intOf i).toNat)
       case atStart=>exact ⟨0,Nat.zero_le _,rfl,eC⟩
       case round=>
        obtain ⟨k3,hk3,rfl,HP⟩:=hrel;have cb:wr.cell? ⟨W.heap.size,0,none⟩=some (.int .i64 (th:Int)):=by rw [Ma HP.out.box,QT.out];rfl
        obtain ⟨va,vc,rfl⟩:=Ra HP.out.own;have HO:=Lib.hid HP.out.own;have Jh:Hid (W.heap.size+1<=_):=Lib.hid (Mb HP.out.box);have HK:=HP;clear HP;obtain ⟨n3,hn3⟩:∃n3,n3=m2+8*k3:=⟨_,rfl⟩;obtain ⟨l4,hl4⟩:∃l4,l4=l3++Ca k3:=⟨_,rfl⟩;rw [<-hn3,<-hl4]at HK HO;rw [<-hn3];have iY:Hid (n3=m2+8*k3/\k3<=64):=Lib.hid ⟨hn3,by omega⟩;have aY:=Lib.hid hl4;clear hn3 hl4;by_cases Ab:k3<th
        . have d1:decide ((k3:Int)<(th:Int))=true:=ca (by omega);have d2:decide (k3<th)=true:=ca Ab;have Ah:=Lib.hid Ab;clear Ab
          go_wp2_with (first|(at_builtin;refine Sd rfl _ _ 100 rfl (W.heap.size+1) 154 i64 _ 3 24 Tryz.underlying100 hi ft Kh qg rfl (by decide) _ Jh.out _ _ _ (by rfl) HO.out _ 1 1 (by rfl) (by rfl) (by simp [Value.oneCell']) (by unfold maxLen;have:=iY.out;have:=Kf.out;first|omega|(simp only [Hd];omega)) (by have:=iY.out;have:=Kf.out;first|omega|(simp only [Hd];omega)) ?_;intro v' w' yd Kk Yf Jc;have HP:=Lib.hid (HK.out.push (fun q hq=>(HO.out.lt q hq).1) yd Kk Yf);clear yd Kk Yf Jc HO Jh HK;obtain ⟨va,vc,rfl⟩:=Ra HP.out.own;have HO:=Lib.hid HP.out.own;have Jh:Hid (W.heap.size+1<=_):=Lib.hid (Mb HP.out.box);have HK:=HP;clear HP)|(go_at_call 101;refine (Ao W c _ (by have:=iY.out;have:=Kf.out;first|omega|(simp only [Hd];omega)) _ _ _ HK.out).mono ?_;rintro e w' ⟨v',rfl,hn⟩;have hn:Hb W c _ _ v' w':=hn;clear HO Jh HK;have HP:=Lib.hid hn;clear hn;obtain ⟨va,vc,rfl⟩:=Ra HP.out.own;have HO:=Lib.hid HP.out.own;have Jh:Hid (W.heap.size+1<=_):=Lib.hid (Mb HP.out.box);have HK:=HP;clear HP))
          go_roundw
          case rel=>exact ⟨k3+1,by have:=Ah.out;omega,by go_num,by rw [show m2+8*(k3+1)=Hd (n3+1+1)by have:=iY.out;have:=Kf.out;unfold Hd;omega,show l3++Ca (k3+1)=Cc (n3+1+1) (l4++[(6,(k3:Int),0)]++[(7,(k3:Int),0)])by rw [aY.out,uC];unfold Cc;rw [show Hd (n3+1+1) -(n3+1+1)=6 by have:=iY.out;have:=Kf.out;unfold Hd;omega];simp];exact HK⟩
          case measure=>have:=Ah.out;simp [intOf];omega
        . have d1:decide ((k3:Int)<(th:Int))=false:=ea (by omega);have d2:decide (k3<th)=false:=ea Ab;have HE3:Hid (k3=th):=Lib.hid (by omega);clear Ab hk3
          go_wp2_with fail
          obtain ⟨L,hL⟩:∃L,L=Hd Ta:=⟨_,rfl⟩;have HLL:Hid (L=(Ta+7)/8*8/\L<=72/\Ta<=L/\Ta<=64/\L<Ta+8):=Lib.hid (by rw [hL];unfold Hd;omega);have JP:=Lib.hid hL;have HM3:Hid (n3 %8=0/\n3<=800):=Lib.hid (by have:=iY.out;have:=Kf.out;omega);have HA3:Hid (Hb W c (n3+L*0) (l4++Dh Ta 0) (.slice va n3 vc) _):=Lib.hid (by rw [show Dh Ta 0=[]from rfl,List.append_nil];exact HK.out);clear hL HK HO Jh cb d1 d2
          go_loopw [3,7] (fun v i wr=>∃k:Nat,k<=th/\i= .int .i64 k/\Hid (Hb W c (n3+L*k) (l4++Dh Ta k) v wr)) (fun _ i _=>th -(intOf i).toNat)
          case atStart=>exact ⟨0,Nat.zero_le _,rfl,HA3⟩
          case round=>
           obtain ⟨k4,wC,rfl,HP⟩:=hrel;have cb:wr.cell? ⟨W.heap.size,0,none⟩=some (.int .i64 (th:Int)):=by rw [Ma HP.out.box,QT.out];rfl
           obtain ⟨n4,hn4⟩:∃n4,n4=n3+L*k4:=⟨_,rfl⟩;obtain ⟨l5,hl5⟩:∃l5,l5=l4++Dh Ta k4:=⟨_,rfl⟩;rw [<-hn4,<-hl5]at HP;have pac:=Lib.hid hl5;clear hl5;have iM:Hid (n4 %8=0/\n4<=5408):=Lib.hid (by
            have h5:L*k4=(Ta+7)/8*k4*8:=by rw [HLL.out.1];exact Nat.mul_right_comm _ _ _
            have h6:L*k4<=72*64:=Nat.mul_le_mul HLL.out.2.1 (by omega)
            have:=HM3.out;omega)
           have HQ4:=Lib.hid hn4;clear hn4;obtain ⟨va,vc,rfl⟩:=Ra HP.out.own;have HO:=Lib.hid HP.out.own;have Jh:Hid (W.heap.size+1<=_):=Lib.hid (Mb HP.out.box);have HK:=HP;clear HP;by_cases Ab:k4<th
           . have d1:decide ((k4:Int)<(th:Int))=true:=ca (by omega);have d2:decide (k4<th)=true:=ca Ab;have Ah:=Lib.hid Ab;have HA4:Hid (Hb W c (n4+0) (l5++Ol k4 0) (.slice va n4 vc) wr):=Lib.hid (by rw [show Ol k4 0=[]from rfl,List.append_nil];exact HK.out);clear Ab
             go_wp2_with fail
             clear HK HO Jh cb d1 d2
             go_loopw [3,8] (fun v i wr=>∃k:Nat,k<=Ta/\i= .int .i64 k/\Hid (Hb W c (n4+k) (l5++Ol k4 k) v wr)) (fun _ i _=>Ta -(intOf i).toNat)
             case atStart=>exact ⟨0,Nat.zero_le _,rfl,HA4⟩
             case round=>
              obtain ⟨k5,hk5,rfl,HP⟩:=hrel;have cb:wr.cell? ⟨W.heap.size,2,none⟩=some (.int .i64 (Ta:Int)):=by rw [Ma HP.out.box,QT.out];rfl
              obtain ⟨va,vc,rfl⟩:=Ra HP.out.own;have HO:=Lib.hid HP.out.own;have Jh:Hid (W.heap.size+1<=_):=Lib.hid (Mb HP.out.box);have HK:=HP;clear HP;obtain ⟨n5,hn5⟩:∃n5,n5=n4+k5:=⟨_,rfl⟩;obtain ⟨l6,hl6⟩:∃l6,l6=l5++Ol k4 k5:=⟨_,rfl⟩;rw [<-hn5,<-hl6]at HK HO;rw [<-hn5];have N2:Hid (n5=n4+k5/\k5<=64):=Lib.hid ⟨hn5,by omega⟩;have cY:=Lib.hid hl6;clear hn5 hl6;by_cases Ab:k5<Ta
              . have d1:decide ((k5:Int)<(Ta:Int))=true:=ca (by omega);have d2:decide (k5<Ta)=true:=ca Ab;have D2:=Lib.hid Ab;clear Ab
                go_wp2_with (at_builtin;refine Sd rfl _ _ 100 rfl (W.heap.size+1) 154 i64 _ 3 24 Tryz.underlying100 hi ft Kh qg rfl (by decide) _ Jh.out _ _ _ (by rfl) HO.out _ 1 1 (by rfl) (by rfl) (by simp [Value.oneCell']) (by unfold maxLen;have:=N2.out;have:=iM.out;first|omega|(simp only [Hd];omega)) (by have:=N2.out;have:=iM.out;first|omega|(simp only [Hd];omega)) ?_;intro v' w' yd Kk Yf Jc;have HP:=Lib.hid (HK.out.push (fun q hq=>(HO.out.lt q hq).1) yd Kk Yf);clear yd Kk Yf Jc HO Jh HK;obtain ⟨va,vc,rfl⟩:=Ra HP.out.own;have HO:=Lib.hid HP.out.own;have Jh:Hid (W.heap.size+1<=_):=Lib.hid (Mb HP.out.box);have HK:=HP;clear HP)
                go_roundw
                case rel=>exact ⟨k5+1,by have:=D2.out;omega,by go_num,by rw [show n4+(k5+1)=n5+1 by have:=N2.out;omega,dJ,<-List.append_assoc,<-cY.out];exact HK⟩
                case measure=>have:=D2.out;simp [intOf];omega
              . have d1:decide ((k5:Int)<(Ta:Int))=false:=ea (by omega);have d2:decide (k5<Ta)=false:=ea Ab;have HE5:Hid (k5=Ta):=Lib.hid (by omega);clear Ab hk5
                go_wp2_with (go_at_call 101;refine (Ao W c _ (by have:=N2.out;have:=iM.out;first|omega|(simp only [Hd];omega)) _ _ _ HK.out).mono ?_;rintro e w' ⟨v',rfl,hn⟩;have hn:Hb W c _ _ v' w':=hn;clear HO Jh HK;have HP:=Lib.hid hn;clear hn;obtain ⟨va,vc,rfl⟩:=Ra HP.out.own;have HO:=Lib.hid HP.out.own;have Jh:Hid (W.heap.size+1<=_):=Lib.hid (Mb HP.out.box);have HK:=HP;clear HP)
                go_roundw
                case rel=>exact ⟨k4+1,by have:=Ah.out;omega,by go_num,by rw [show l4++Dh Ta (k4+1)=Cc n5 l6 by rw [cY.out,pac.out,JE,HE5.out];unfold Cc;rw [show Hd n5 -n5=Hd Ta -Ta by have:=N2.out;have:=iM.out;have:=HE5.out;unfold Hd;omega];simp,show n3+L*(k4+1)=Hd n5 by(have h7:Hd n5=n4+L:=by(have:=N2.out;have:=iM.out;have:=HE5.out;have:=HLL.out;unfold Hd;omega));rw [h7,HQ4.out,Nat.mul_succ];omega];exact HK⟩
                case measure=>have:=Ah.out;simp [intOf];omega
           . have d1:decide ((k4:Int)<(th:Int))=false:=ea (by omega);have d2:decide (k4<th)=false:=ea Ab;have HE4:Hid (k4=th):=Lib.hid (by omega);clear Ab wC
             go_wp2_with fail
             obtain ⟨n6,hn6⟩:∃n6,n6=n4:=⟨_,rfl⟩;rw [<-hn6]at HK HO iM HQ4⊢;clear hn6;have HA6:Hid (Hb W c (n6+8*0) (l5++ag 0) (.slice va n6 vc) _):=Lib.hid (by rw [show ag 0=[]from rfl,List.append_nil];exact HK.out);clear HK HO Jh cb d1 d2
             go_loopw [3,9] (fun v i wr=>∃k:Nat,k<=sl/\i= .int .i64 k/\Hid (Hb W c (n6+8*k) (l5++ag k) v wr)) (fun _ i _=>sl -(intOf i).toNat)
             case atStart=>exact ⟨0,Nat.zero_le _,rfl,HA6⟩
             case round=>
              obtain ⟨k6,hk6,rfl,HP⟩:=hrel;have cb:wr.cell? ⟨W.heap.size,1,none⟩=some (.int .i64 (sl:Int)):=by rw [Ma HP.out.box,QT.out];rfl
              obtain ⟨n7,hn7⟩:∃n7,n7=n6+8*k6:=⟨_,rfl⟩;obtain ⟨l7,hl7⟩:∃l7,l7=l5++ag k6:=⟨_,rfl⟩;rw [<-hn7,<-hl7]at HP;have HL7:=Lib.hid hl7;clear hl7;have P2:Hid (n7=n6+8*k6/\k6<=65536):=Lib.hid ⟨hn7,by omega⟩;clear hn7;obtain ⟨va,vc,rfl⟩:=Ra HP.out.own;have HO:=Lib.hid HP.out.own;have Jh:Hid (W.heap.size+1<=_):=Lib.hid (Mb HP.out.box);have HK:=HP;clear HP;by_cases Ab:k6<sl
              . have d1:decide ((k6:Int)<(sl:Int))=true:=ca (by omega);have d2:decide (k6<sl)=true:=ca Ab;have Ah:=Lib.hid Ab;have HA7:Hid (Hb W c (n7+0) (l7++Wg k6 0) (.slice va n7 vc) wr):=Lib.hid (by rw [show Wg k6 0=[]from rfl,List.append_nil];exact HK.out);clear Ab
                go_wp2_with fail
                clear HK HO Jh cb d1 d2
                go_loopw [3,10] (fun v i wr=>∃(k:Nat) (j:Int),k<=5/\i= .int .i64 j/\j=9+(k:Int)/\Hid (Hb W c (n7+k) (l7++Wg k6 k) v wr)) (fun _ i _=>14 -(intOf i).toNat)
                case atStart=>exact ⟨0,9,by omega,rfl,by omega,HA7⟩
                case round=>
                 obtain ⟨k8,j8,hk8,rfl,hj8,HP⟩:=hrel;obtain ⟨va,vc,rfl⟩:=Ra HP.out.own;have HO:=Lib.hid HP.out.own;have Jh:Hid (W.heap.size+1<=_):=Lib.hid (Mb HP.out.box);have HK:=HP;clear HP;obtain ⟨n8,LP⟩:∃n8,n8=n7+k8:=⟨_,rfl⟩;obtain ⟨l8,hl8⟩:∃l8,l8=l7++Wg k6 k8:=⟨_,rfl⟩;rw [<-LP,<-hl8]at HK HO;rw [<-LP];have sK:Hid (n8=n7+k8/\k8<=5/\j8=9+(k8:Int)):=Lib.hid ⟨LP,hk8,hj8⟩;have rac:=Lib.hid hl8;clear LP hj8 hl8;by_cases Ab:j8<=13
                 . have d1:decide (j8<=13)=true:=ca Ab;have HL8:=Lib.hid Ab;clear Ab hk8
                   go_wp2_with (at_builtin;refine Sd rfl _ _ 100 rfl (W.heap.size+1) 154 i64 _ 3 24 Tryz.underlying100 hi ft Kh qg rfl (by decide) _ Jh.out _ _ _ (by rfl) HO.out _ 1 1 (by rfl) (by rfl) (by simp [Value.oneCell']) (by unfold maxLen;have:=sK.out;have:=P2.out;have:=iM.out;first|omega|(simp only [Hd];omega)) (by have:=sK.out;have:=P2.out;have:=iM.out;first|omega|(simp only [Hd];omega)) ?_;intro v' w' yd Kk Yf Jc;have HP:=Lib.hid (HK.out.push (fun q hq=>(HO.out.lt q hq).1) yd Kk Yf);clear yd Kk Yf Jc HO Jh HK;obtain ⟨va,vc,rfl⟩:=Ra HP.out.own;have HO:=Lib.hid HP.out.own;have Jh:Hid (W.heap.size+1<=_):=Lib.hid (Mb HP.out.box);have HK:=HP;clear HP)
                   go_roundw
                   case rel=>exact ⟨k8+1,j8+1,by have:=HL8.out;have:=sK.out;omega,by have h8:=sK.out;have h9:=HL8.out;have hw:wrap64 (j8+1)=j8+1:=(by unfold wrap64;omega);first|rw [hw]|(simp [hw];done)|go_num,by have:=sK.out;omega,by rw [show n7+(k8+1)=n8+1 by have:=sK.out;omega,KE,<-List.append_assoc,<-rac.out,<-sK.out.2.2];exact HK⟩
                   case measure=>have h9:=HL8.out;have h8:=sK.out;have hw:wrap64 (j8+1)=j8+1:=(by unfold wrap64;omega);simp [intOf,hw];omega
                 . have d1:decide (j8<=13)=false:=ea Ab;have HE8:Hid (k8=5):=Lib.hid (by have:=sK.out;omega);clear Ab hk8
                   go_wp2_with (go_at_call 101;refine (Ao W c _ (by have:=sK.out;have:=P2.out;have:=iM.out;first|omega|(simp only [Hd];omega)) _ _ _ HK.out).mono ?_;rintro e w' ⟨v',rfl,hn⟩;have hn:Hb W c _ _ v' w':=hn;clear HO Jh HK;have HP:=Lib.hid hn;clear hn;obtain ⟨va,vc,rfl⟩:=Ra HP.out.own;have HO:=Lib.hid HP.out.own;have Jh:Hid (W.heap.size+1<=_):=Lib.hid (Mb HP.out.box);have HK:=HP;clear HP)
                   go_roundw
                   case rel=>exact ⟨k6+1,by have:=Ah.out;omega,by go_num,by rw [show l5++ag (k6+1)=Cc n8 l8 by rw [rac.out,HL7.out,vC,HE8.out];unfold Cc;rw [show Hd n8 -n8=3 by have:=sK.out;have:=P2.out;have:=iM.out;have:=HE8.out;unfold Hd;omega];simp,show n6+8*(k6+1)=Hd n8 by have:=sK.out;have:=P2.out;have:=iM.out;have:=HE8.out;unfold Hd;omega];exact HK⟩
                   case measure=>have:=Ah.out;simp [intOf];omega
              . have d1:decide ((k6:Int)<(sl:Int))=false:=ea (by omega);have d2:decide (k6<sl)=false:=ea Ab;have HE6:Hid (k6=sl):=Lib.hid (by omega);clear Ab hk6
                go_wp2_with fail
                go_ret
                have e:n7=Hd (40+bu)+8*th+Hd Ta*th+8*sl:=by
                 rw [P2.out.1,HQ4.out,HE6.out,HE4.out,iY.out.1,HE3.out,Kf.out.1,JP.out]
                have el:l7=Kd th sl Ta bu:=by rw [HL7.out,HE6.out,pac.out,HE4.out,aY.out,HE3.out,rK.out];rfl
                exact ⟨_,rfl,HK.out.below,by rw [<-e,<-el];exact rC HK.out.own (Nat.le_succ _)⟩
def Lv.bucket(v:Lv)(n:Int):Int:=if hasB n v.bu then 40+n else v.ln*8
theorem Si{n m:Int}(h:hasB n m=true):0<=n/\n<m:=by simpa [hasB]using h
theorem gx(l:Nat)(v:Lv)(n:Int)(w:World)(h:Ac w l v):Calls Tryz.prog 267 #[.pointer (some ⟨l,0,none⟩), .int .i64 n] w (Rc (.int .i64 (v.bucket n)) w):=by
 have HC:=Lib.hid fun w h=>Jk l v w h
 have HL:=Lib.hid fun w h=>El l v w h
 have HH:=Lib.hid fun w=>Bp n v.bu w
 have HW:=Lib.hid h;have HN:=Lib.hid fun w=>xo l 5 (by omega) (by omega) w
 have rm:=h.ok;have b0:=rm.XI;have b1:=rm.JT;have l0:=rm.YI;have l1:=rm.ZI;have HE:Hid (v.bucket n=if hasB n v.bu then 40+n else v.ln*8):=Lib.hid rfl;have HY:Hid (hasB n v.bu=true->0<=n/\n<v.bu):=Lib.hid Si;clear h rm;generalize v.bucket n=r at*;generalize hasB n v.bu=y at*;cases y with
 |true=>
  obtain ⟨n0,n1⟩:=HY.out rfl;clear HY
  go_enter Tryz.func267,Tryz.ntmps267
  go_wp2_with fail
  refine (HC.out _ HW.out).mono ?_
  rintro e w1 ⟨rfl,hb⟩;have HB:=Lib.hid hb;clear hb
  go_wp2_with fail
  refine (HH.out _).mono ?_
  rintro e w2 ⟨rfl,rfl⟩
  go_wp2_with fail
  refine (HN.out _).mono ?_
  rintro e w2 ⟨rfl,rfl⟩
  go_wp2_with fail
  go_ret
  exact ⟨Fa (by rw [HE.out];simp),HB.out.alloc HB.out.size _⟩
 |false=>
  clear HY
  go_enter Tryz.func267,Tryz.ntmps267
  go_wp2_with fail
  refine (HC.out _ HW.out).mono ?_
  rintro e w1 ⟨rfl,hb⟩;have HB:=Lib.hid hb;clear hb
  go_wp2_with fail
  refine (HH.out _).mono ?_
  rintro e w2 ⟨rfl,rfl⟩
  go_wp2_with fail
  refine (HL.out _ (HW.out.keep ((HB.out.alloc HB.out.size _).block l HW.out.lt))).mono ?_
  rintro e w2 ⟨rfl,rfl⟩
  go_wp2_with fail
  go_ret
  exact ⟨Fa (by rw [HE.out];simp),HB.out.alloc HB.out.size _⟩
def Dz(a:Nat):Nat:=a*2654435769 %4294967296
def sac(a:Nat):Nat:=Dz a^^^(Dz a/65536)
theorem Ez(a:Nat):Dz a<4294967296:=Nat.mod_lt _ (by decide)
theorem kR(a:Nat):sac a<4294967296:=by
 have h:=Ez a;exact Nat.xor_lt_two_pow (n:=32) h (by have:=Nat.div_le_self (Dz a) 65536;omega)
theorem Fz(x y:Nat)(hx:x<4294967296)(hy:y<4294967296):bits BinOp.xor IntKind.u32 (x:Int) (y:Int)=((x^^^y:Nat):Int):=by
 have h:x^^^y<4294967296:=Nat.xor_lt_two_pow (n:=32) hx hy;have e:(BitVec.ofNat 32 x^^^BitVec.ofNat 32 y).toNat=x^^^y:=by
  rw [BitVec.toNat_xor,BitVec.toNat_ofNat,BitVec.toNat_ofNat,Nat.mod_eq_of_lt hx,Nat.mod_eq_of_lt hy]
 simp only [bits,BitVec.ofInt_natCast]
 show IntKind.u32.wrap ((BitVec.ofNat 32 x^^^BitVec.ofNat 32 y).toNat:Int)=_
 rw [e,IntKind.wrap_u32];omega
def Bo(a:Int):Int:=(sac a.toNat:Nat)
theorem lR(a:Int):0<=Bo a:=by unfold Bo;omega
theorem mR(a:Int):Bo a<=4294967295:=by unfold Bo;have:=kR a.toNat;omega
theorem eJ(a:Int)(h0:0<=a):bits BinOp.xor IntKind.u32 (IntKind.u32.wrap (a*2654435769)) (IntKind.u32.wrap (a*2654435769)/65536)=Bo a:=by
 obtain ⟨n,rfl⟩:=Int.eq_ofNat_of_zero_le h0;have e:IntKind.u32.wrap ((n:Int)*2654435769)=(Dz n:Nat):=by rw [IntKind.wrap_u32];unfold Dz;omega
 have e2:((Dz n:Nat):Int)/65536=(Dz n/65536:Nat):=by omega
 rw [e,e2,Fz _ _ (Ez n) (by have:=Ez n;have:=Nat.div_le_self (Dz n) 65536;omega)];rfl
theorem jY(a:Int)(h0:0<=a)(w:World):Calls Tryz.prog 300 #[.int .u32 a] w (Rb (.int .u32 (Bo a)) w):=by
 have HM:=Lib.hid (eJ a h0)
 go_enter Tryz.func300,Tryz.ntmps300
 go_wp2_with fail
 go_ret
 exact ⟨Fa HM.out,rfl⟩
def ye(a m:Int):Int:=Bo a %m
theorem fJ(a m:Int)(h0:0<=a)(m0:1<=m)(m1:m<=100000)(w:World):Calls Tryz.prog 268 #[.int .u32 a, .int .i64 m] w (Rb (.int .i64 (ye a m)) w):=by
 have HM:=Lib.hid fun w=>jY a h0 w
 have i0:=lR a;have i1:=mR a;have HE:Hid (Bo a %m=ye a m):=Lib.hid rfl;have HE2:Hid ((Bo a).tmod m=ye a m):=Lib.hid (by rw [Int.tmod_eq_emod_of_nonneg i0];rfl);have HE3:Hid (wrap64 (Bo a %m)=ye a m):=Lib.hid (by
  have h1:=Int.emod_nonneg (Bo a) (show m≠0 by omega);have h2:=Int.emod_lt_of_pos (Bo a) (show 0<m by omega);exact (IntWalk.wrap64_in (Bo a %m) (by omega)).trans rfl)
 have hd:decide (m<1)=false:=ea (by omega);generalize Bo a=x at*;generalize ye a m=r at*
 go_enter Tryz.func268,Tryz.ntmps268
 go_wp2_with fail
 refine (HM.out _).mono ?_
 rintro e w1 ⟨rfl,rfl⟩
 go_wp2_with fail
 go_ret
 exact ⟨Fa (by exact HE3.out),rfl⟩
end Go.Proofs.YtfnkmolffhfpoaaGreat
