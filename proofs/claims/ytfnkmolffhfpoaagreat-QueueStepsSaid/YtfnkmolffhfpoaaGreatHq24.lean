/- -/
import Derived.Test.YtfnkmolffhfpoaaGreatHq23
import Derived.Test.YtfnkmolffhfpoaaGreatHq22
import Derived.IntWalk
set_option linter.unusedVariables false
set_option linter.unusedSimpArgs false
namespace Go.Proofs.YtfnkmolffhfpoaaGreat
open Go.RowKit Go.BigFrame
def MH(k:Nat):List Nm:=(List.range k).map fun(i:Nat)=>(1,(i:Int)/8,(i:Int) %8)
theorem UM(k:Nat):MH (k+1)=MH k++[(1,(k:Int)/8,(k:Int) %8)]:=by simp [MH,List.range_succ]
def cg:List Nm:=Jc 33 (Jc 25 (Jc 17 (MH 16++[(2,0,0)])++[(3,0,0)])++[(4,0,0)])
def Ja(k:Nat):List Nm:=(List.range k).flatMap fun(t:Nat)=>[((6:Int),(t:Int),(0:Int)),(7,t,0)]++Td 6
theorem aF(k:Nat):Ja (k+1)=Ja k++([((6:Int),(k:Int),(0:Int)),(7,k,0)]++Td 6):=by simp [Ja,List.range_succ]
def Io(t k:Nat):List Nm:=(List.range k).map fun(i:Nat)=>(8,(t:Int),(i:Int))
theorem VM(t k:Nat):Io t (k+1)=Io t k++[(8,(t:Int),(k:Int))]:=by simp [Io,List.range_succ]
def Bi(Xa k:Nat):List Nm:=(List.range k).flatMap fun(t:Nat)=>Io t Xa++Td (Sd Xa -Xa)
theorem NH(Xa k:Nat):Bi Xa (k+1)=Bi Xa k++(Io k Xa++Td (Sd Xa -Xa)):=by simp [Bi,List.range_succ]
def Nh(s k:Nat):List Nm:=(List.range k).map fun(i:Nat)=>(9+(i:Int),(s:Int),0)
theorem OH(s k:Nat):Nh s (k+1)=Nh s k++[(9+(k:Int),(s:Int),0)]:=by simp [Nh,List.range_succ]
def Fg(k:Nat):List Nm:=(List.range k).flatMap fun(s:Nat)=>Nh s 5++Td 3
theorem bF(k:Nat):Fg (k+1)=Fg k++(Nh k 5++Td 3):=by simp [Fg,List.range_succ]
def Ud(th sl Xa bu:Nat):List Nm:=Jc (40+bu) (cg++Ld 5 bu)++Ja th++Bi Xa th++Fg sl
set_option maxRecDepth 100000 in
set_option maxHeartbeats 4000000 in
theorem Wz(th sl Xa bu:Nat)(h1:th<=64)(h2:sl<=65536)(h3:Xa<=64)(h4:bu<=64)(W:World):
  Calls Tryz.prog 41 #[.agg #[.int .i64 (th:Int), .int .i64 (sl:Int), .int .i64 (Xa:Int), .int .i64 (bu:Int)]] W (iC (Sd (40+bu)+8*th+Sd Xa*th+8*sl) (Ud th sl Xa bu) W):=by
 obtain ⟨i64,hi,Nw,Kh,tg⟩:=info_parts LH
 go_enter Tryz.func41,Tryz.ntmps41
 go_wp2_with fail
 obtain ⟨c,hc⟩:∃c,c=#[Value.int .i64 (th:Int),Value.int .i64 (sl:Int),Value.int .i64 (Xa:Int),Value.int .i64 (bu:Int)]:=⟨_,rfl⟩;have H0:Hid (Lb W c 0 (MH 0) (.slice none 0 0) (W.alloc (.cells #[.int .i64 (th:Int), .int .i64 (sl:Int), .int .i64 (Xa:Int), .int .i64 (bu:Int)] 23))):=Lib.hid
  ⟨(Below.refl _ _).alloc (Nat.le_refl _) _,by rw [hc];exact heap_alloc_new _ _,World.ownsRow_nil _ _ _ _⟩
 have JX:=Lib.hid hc;clear hc
 go_loopw [3,4] (fun v i wr=>∃k:Nat,k<=16/\i= .int .i64 k/\Hid (Lb W c k (MH k) v wr)) (fun _ i _=>16 -(intOf i).toNat)
 case atStart=>exact ⟨0,Nat.zero_le _,rfl,H0⟩
 case round=>
  obtain ⟨k,hk,rfl,HP⟩:=hrel;obtain ⟨va,vc,rfl⟩:=Ua HP.out.own;have HO:=Lib.hid HP.out.own;have Li:Hid (W.heap.size+1<=_):=Lib.hid (Db HP.out.box);have HK:=HP;clear HP;by_cases zb:k<16
  . have d1:decide ((k:Int)<16)=true:=ea (by omega)
    go_wp2_with (at_builtin;refine se rfl _ _ 100 rfl (W.heap.size+1) 154 i64 _ 3 24 Tryz.underlying100 hi Nw Kh tg rfl (by decide) _ Li.out _ _ _ (by rfl) HO.out _ 1 1 (by rfl) (by rfl) (by simp [Value.oneCell']) (by unfold maxLen;first|omega|(simp only [Sd];omega)) (by first|omega|(simp only [Sd];omega)) ?_;intro v' w' Od rn Dg bc;have HP:=Lib.hid (HK.out.push (fun q hq=>(HO.out.lt q hq).1) Od rn Dg);clear Od rn Dg bc HO Li HK;obtain ⟨va,vc,rfl⟩:=Ua HP.out.own;have HO:=Lib.hid HP.out.own;have Li:Hid (W.heap.size+1<=_):=Lib.hid (Db HP.out.box);have HK:=HP;clear HP)
    go_roundw
    case rel=>exact ⟨k+1,by omega,by go_num,by rw [UM];exact HK⟩
    case measure=>simp [intOf];omega
  . obtain rfl:k=16:=by omega
    have d1:decide (((16:Nat):Int)<16)=false:=by decide
    clear zb hk H0;obtain ⟨m0,UG⟩:∃m0:Nat,m0=16:=⟨_,rfl⟩;have HM:=Lib.hid UG;obtain ⟨l0,Oo⟩:∃l0,l0=MH 16:=⟨_,rfl⟩;rw [<-Oo]at HK HO;have xU:=Lib.hid Oo;clear Oo;rw [<-UG]at HK HO⊢;rw [<-UG]at d1;clear UG
    go_wp2_with (first|(at_builtin;refine se rfl _ _ 100 rfl (W.heap.size+1) 154 i64 _ 3 24 Tryz.underlying100 hi Nw Kh tg rfl (by decide) _ Li.out _ _ _ (by rfl) HO.out _ 1 1 (by rfl) (by rfl) (by simp [Value.oneCell']) (by unfold maxLen;have:=HM.out;first|omega|(simp only [Sd];omega)) (by have:=HM.out;first|omega|(simp only [Sd];omega)) ?_;intro v' w' Od rn Dg bc;have HP:=Lib.hid (HK.out.push (fun q hq=>(HO.out.lt q hq).1) Od rn Dg);clear Od rn Dg bc HO Li HK;obtain ⟨va,vc,rfl⟩:=Ua HP.out.own;have HO:=Lib.hid HP.out.own;have Li:Hid (W.heap.size+1<=_):=Lib.hid (Db HP.out.box);have HK:=HP;clear HP)|(go_at_call 101;refine (Zq W c _ (by have:=HM.out;first|omega|(simp only [Sd];omega)) _ _ _ HK.out).mono ?_;rintro e w' ⟨v',rfl,hn⟩;have hn:Lb W c _ _ v' w':=hn;clear HO Li HK;have HP:=Lib.hid hn;clear hn;obtain ⟨va,vc,rfl⟩:=Ua HP.out.own;have HO:=Lib.hid HP.out.own;have Li:Hid (W.heap.size+1<=_):=Lib.hid (Db HP.out.box);have HK:=HP;clear HP))
    clear d1;obtain ⟨m1,gD⟩:∃m1,m1=Sd (Sd (Sd (m0+1)+1)+1):=⟨_,rfl⟩;obtain ⟨l1,bP,HKx⟩:∃l1,l1=Jc (Sd (Sd (m0+1)+1)+1) (Jc (Sd (m0+1)+1) (Jc (m0+1) (l0++[(2,0,0)])++[(3,0,0)])++[(4,0,0)])/\Hid (Lb W c m1 l1 _ _):=⟨_,rfl,by rw [gD];exact HK⟩;rw [<-gD];have iD:Hid (m1=40):=Lib.hid (by rw [gD,HM.out];rfl);have H8:Hid (l1=cg):=Lib.hid (by rw [bP,xU.out,HM.out];rfl);have HA:Hid (Lb W c (m1+0) (l1++Ld 5 0) (.slice va m1 vc) _):=Lib.hid (by rw [show Ld 5 0=[]from rfl,List.append_nil,gD];rw [gD]at HKx;exact HKx.out);clear gD bP HK HO Li HKx
    go_loopw [3,5] (fun v i wr=>∃k:Nat,k<=bu/\i= .int .i64 k/\Hid (Lb W c (m1+k) (l1++Ld 5 k) v wr)) (fun _ i _=>bu -(intOf i).toNat)
    case atStart=>exact ⟨0,Nat.zero_le _,rfl,HA⟩
    case round=>
     obtain ⟨k,hk,rfl,HP⟩:=hrel;have cb:wr.cell? ⟨W.heap.size,3,none⟩=some (.int .i64 (bu:Int)):=by rw [Oa HP.out.box,JX.out];rfl
     have n9:=Lib.hid (And.intro hk h4);obtain ⟨va,vc,rfl⟩:=Ua HP.out.own;have HO:=Lib.hid HP.out.own;have Li:Hid (W.heap.size+1<=_):=Lib.hid (Db HP.out.box);have HK:=HP;clear HP;obtain ⟨n0,KD⟩:∃n0,n0=m1+k:=⟨_,rfl⟩;obtain ⟨l2,zG⟩:∃l2,l2=l1++Ld 5 k:=⟨_,rfl⟩;rw [<-KD,<-zG]at HK HO;rw [<-KD];have YE:=Lib.hid KD;have A8:=Lib.hid zG;clear KD zG;by_cases zb:k<bu
     . have d1:decide ((k:Int)<(bu:Int))=true:=ea (by omega);have d2:decide (k<bu)=true:=ea zb;have Ih:=Lib.hid zb;clear zb
       go_wp2_with (at_builtin;refine se rfl _ _ 100 rfl (W.heap.size+1) 154 i64 _ 3 24 Tryz.underlying100 hi Nw Kh tg rfl (by decide) _ Li.out _ _ _ (by rfl) HO.out _ 1 1 (by rfl) (by rfl) (by simp [Value.oneCell']) (by unfold maxLen;have:=YE.out;have:=iD.out;have:=n9.out;first|omega|(simp only [Sd];omega)) (by have:=YE.out;have:=iD.out;have:=n9.out;first|omega|(simp only [Sd];omega)) ?_;intro v' w' Od rn Dg bc;have HP:=Lib.hid (HK.out.push (fun q hq=>(HO.out.lt q hq).1) Od rn Dg);clear Od rn Dg bc HO Li HK;obtain ⟨va,vc,rfl⟩:=Ua HP.out.own;have HO:=Lib.hid HP.out.own;have Li:Hid (W.heap.size+1<=_):=Lib.hid (Db HP.out.box);have HK:=HP;clear HP)
       go_roundw
       case rel=>exact ⟨k+1,by have:=Ih.out;omega,by go_num,by rw [show m1+(k+1)=n0+1 by have:=YE.out;omega,Pp,<-List.append_assoc,<-A8.out];exact HK⟩
       case measure=>have:=Ih.out;simp [intOf];omega
     . have d1:decide ((k:Int)<(bu:Int))=false:=ta (by omega);have d2:decide (k<bu)=false:=ta zb;have HE:Hid (k=bu):=Lib.hid (by omega);clear zb hk
       go_wp2_with (go_at_call 101;refine (Zq W c _ (by have:=YE.out;have:=iD.out;have:=n9.out;first|omega|(simp only [Sd];omega)) _ _ _ HK.out).mono ?_;rintro e w' ⟨v',rfl,hn⟩;have hn:Lb W c _ _ v' w':=hn;clear HO Li HK;have HP:=Lib.hid hn;clear hn;obtain ⟨va,vc,rfl⟩:=Ua HP.out.own;have HO:=Lib.hid HP.out.own;have Li:Hid (W.heap.size+1<=_):=Lib.hid (Db HP.out.box);have HK:=HP;clear HP)
       obtain ⟨m2,hm2⟩:∃m2,m2=Sd n0:=⟨_,rfl⟩;rw [<-hm2]at HK HO⊢;obtain ⟨l3,hl3,HKx⟩:∃l3,l3=Jc n0 l2/\Hid (Lb W c m2 l3 _ _):=⟨_,rfl,HK⟩;have qO:Hid (l3=Jc (40+bu) (cg++Ld 5 bu)):=Lib.hid (by rw [hl3,A8.out,YE.out,iD.out,H8.out,HE.out]);have bg:Hid (m2=Sd (40+bu)/\m2 %8=0/\m2<=200):=Lib.hid (by rw [hm2,YE.out,iD.out,HE.out];exact ⟨rfl,by unfold Sd;omega,by unfold Sd;omega⟩);have yE:Hid (Lb W c (m2+8*0) (l3++Ja 0) (.slice va m2 vc) _):=Lib.hid (by rw [show Ja 0=[]from rfl,List.append_nil];exact HKx.out);clear hm2 hl3 HK HO Li HKx cb d1 d2
       go_loopw [3,6] (fun v i wr=>∃k:Nat,k<=th/\i= .int .i64 k/\Hid (Lb W c (m2+8*k) (l3++Ja k) v wr)) (fun _ i _=>th -(intOf i).toNat)
       case atStart=>exact ⟨0,Nat.zero_le _,rfl,yE⟩
       case round=>
        obtain ⟨k3,hk3,rfl,HP⟩:=hrel;have cb:wr.cell? ⟨W.heap.size,0,none⟩=some (.int .i64 (th:Int)):=by rw [Oa HP.out.box,JX.out];rfl
        obtain ⟨va,vc,rfl⟩:=Ua HP.out.own;have HO:=Lib.hid HP.out.own;have Li:Hid (W.heap.size+1<=_):=Lib.hid (Db HP.out.box);have HK:=HP;clear HP;obtain ⟨n3,hn3⟩:∃n3,n3=m2+8*k3:=⟨_,rfl⟩;obtain ⟨l4,hl4⟩:∃l4,l4=l3++Ja k3:=⟨_,rfl⟩;rw [<-hn3,<-hl4]at HK HO;rw [<-hn3];have C9:Hid (n3=m2+8*k3/\k3<=64):=Lib.hid ⟨hn3,by omega⟩;have l9:=Lib.hid hl4;clear hn3 hl4;by_cases zb:k3<th
        . have d1:decide ((k3:Int)<(th:Int))=true:=ea (by omega);have d2:decide (k3<th)=true:=ea zb;have Ih:=Lib.hid zb;clear zb
          go_wp2_with (first|(at_builtin;refine se rfl _ _ 100 rfl (W.heap.size+1) 154 i64 _ 3 24 Tryz.underlying100 hi Nw Kh tg rfl (by decide) _ Li.out _ _ _ (by rfl) HO.out _ 1 1 (by rfl) (by rfl) (by simp [Value.oneCell']) (by unfold maxLen;have:=C9.out;have:=bg.out;first|omega|(simp only [Sd];omega)) (by have:=C9.out;have:=bg.out;first|omega|(simp only [Sd];omega)) ?_;intro v' w' Od rn Dg bc;have HP:=Lib.hid (HK.out.push (fun q hq=>(HO.out.lt q hq).1) Od rn Dg);clear Od rn Dg bc HO Li HK;obtain ⟨va,vc,rfl⟩:=Ua HP.out.own;have HO:=Lib.hid HP.out.own;have Li:Hid (W.heap.size+1<=_):=Lib.hid (Db HP.out.box);have HK:=HP;clear HP)|(go_at_call 101;refine (Zq W c _ (by have:=C9.out;have:=bg.out;first|omega|(simp only [Sd];omega)) _ _ _ HK.out).mono ?_;rintro e w' ⟨v',rfl,hn⟩;have hn:Lb W c _ _ v' w':=hn;clear HO Li HK;have HP:=Lib.hid hn;clear hn;obtain ⟨va,vc,rfl⟩:=Ua HP.out.own;have HO:=Lib.hid HP.out.own;have Li:Hid (W.heap.size+1<=_):=Lib.hid (Db HP.out.box);have HK:=HP;clear HP))
          go_roundw
          case rel=>exact ⟨k3+1,by have:=Ih.out;omega,by go_num,by rw [show m2+8*(k3+1)=Sd (n3+1+1)by have:=C9.out;have:=bg.out;unfold Sd;omega,show l3++Ja (k3+1)=Jc (n3+1+1) (l4++[(6,(k3:Int),0)]++[(7,(k3:Int),0)])by rw [l9.out,aF];unfold Jc;rw [show Sd (n3+1+1) -(n3+1+1)=6 by have:=C9.out;have:=bg.out;unfold Sd;omega];simp];exact HK⟩
          case measure=>have:=Ih.out;simp [intOf];omega
        . have d1:decide ((k3:Int)<(th:Int))=false:=ta (by omega);have d2:decide (k3<th)=false:=ta zb;have HE3:Hid (k3=th):=Lib.hid (by omega);clear zb hk3
          go_wp2_with fail
          obtain ⟨L,hL⟩:∃L,L=Sd Xa:=⟨_,rfl⟩;have HLL:Hid (L=(Xa+7)/8*8/\L<=72/\Xa<=L/\Xa<=64/\L<Xa+8):=Lib.hid (by rw [hL];unfold Sd;omega);have xU:=Lib.hid hL;have HM3:Hid (n3 %8=0/\n3<=800):=Lib.hid (by have:=C9.out;have:=bg.out;omega);have HA3:Hid (Lb W c (n3+L*0) (l4++Bi Xa 0) (.slice va n3 vc) _):=Lib.hid (by rw [show Bi Xa 0=[]from rfl,List.append_nil];exact HK.out);clear hL HK HO Li cb d1 d2
          go_loopw [3,7] (fun v i wr=>∃k:Nat,k<=th/\i= .int .i64 k/\Hid (Lb W c (n3+L*k) (l4++Bi Xa k) v wr)) (fun _ i _=>th -(intOf i).toNat)
          case atStart=>exact ⟨0,Nat.zero_le _,rfl,HA3⟩
          case round=>
           obtain ⟨k4,cF,rfl,HP⟩:=hrel;have cb:wr.cell? ⟨W.heap.size,0,none⟩=some (.int .i64 (th:Int)):=by rw [Oa HP.out.box,JX.out];rfl
           obtain ⟨n4,hn4⟩:∃n4,n4=n3+L*k4:=⟨_,rfl⟩;obtain ⟨l5,hl5⟩:∃l5,l5=l4++Bi Xa k4:=⟨_,rfl⟩;rw [<-hn4,<-hl5]at HP;have Uai:=Lib.hid hl5;clear hl5;have rQ:Hid (n4 %8=0/\n4<=5408):=Lib.hid (by
            have h5:L*k4=(Xa+7)/8*k4*8:=by rw [HLL.out.1];exact Nat.mul_right_comm _ _ _
            have h6:L*k4<=72*64:=Nat.mul_le_mul HLL.out.2.1 (by omega)
            have:=HM3.out;omega)
           have HQ4:=Lib.hid hn4;clear hn4;obtain ⟨va,vc,rfl⟩:=Ua HP.out.own;have HO:=Lib.hid HP.out.own;have Li:Hid (W.heap.size+1<=_):=Lib.hid (Db HP.out.box);have HK:=HP;clear HP;by_cases zb:k4<th
           . have d1:decide ((k4:Int)<(th:Int))=true:=ea (by omega);have d2:decide (k4<th)=true:=ea zb;have Ih:=Lib.hid zb;have HA4:Hid (Lb W c (n4+0) (l5++Io k4 0) (.slice va n4 vc) wr):=Lib.hid (by rw [show Io k4 0=[]from rfl,List.append_nil];exact HK.out);clear zb
             go_wp2_with fail
             clear HK HO Li cb d1 d2
             go_loopw [3,8] (fun v i wr=>∃k:Nat,k<=Xa/\i= .int .i64 k/\Hid (Lb W c (n4+k) (l5++Io k4 k) v wr)) (fun _ i _=>Xa -(intOf i).toNat)
             case atStart=>exact ⟨0,Nat.zero_le _,rfl,HA4⟩
             case round=>
              obtain ⟨k5,hk5,rfl,HP⟩:=hrel;have cb:wr.cell? ⟨W.heap.size,2,none⟩=some (.int .i64 (Xa:Int)):=by rw [Oa HP.out.box,JX.out];rfl
              obtain ⟨va,vc,rfl⟩:=Ua HP.out.own;have HO:=Lib.hid HP.out.own;have Li:Hid (W.heap.size+1<=_):=Lib.hid (Db HP.out.box);have HK:=HP;clear HP;obtain ⟨n5,hn5⟩:∃n5,n5=n4+k5:=⟨_,rfl⟩;obtain ⟨l6,hl6⟩:∃l6,l6=l5++Io k4 k5:=⟨_,rfl⟩;rw [<-hn5,<-hl6]at HK HO;rw [<-hn5];have HN5:Hid (n5=n4+k5/\k5<=64):=Lib.hid ⟨hn5,by omega⟩;have o9:=Lib.hid hl6;clear hn5 hl6;by_cases zb:k5<Xa
              . have d1:decide ((k5:Int)<(Xa:Int))=true:=ea (by omega);have d2:decide (k5<Xa)=true:=ea zb;have HL5:=Lib.hid zb;clear zb
                go_wp2_with (at_builtin;refine se rfl _ _ 100 rfl (W.heap.size+1) 154 i64 _ 3 24 Tryz.underlying100 hi Nw Kh tg rfl (by decide) _ Li.out _ _ _ (by rfl) HO.out _ 1 1 (by rfl) (by rfl) (by simp [Value.oneCell']) (by unfold maxLen;have:=HN5.out;have:=rQ.out;first|omega|(simp only [Sd];omega)) (by have:=HN5.out;have:=rQ.out;first|omega|(simp only [Sd];omega)) ?_;intro v' w' Od rn Dg bc;have HP:=Lib.hid (HK.out.push (fun q hq=>(HO.out.lt q hq).1) Od rn Dg);clear Od rn Dg bc HO Li HK;obtain ⟨va,vc,rfl⟩:=Ua HP.out.own;have HO:=Lib.hid HP.out.own;have Li:Hid (W.heap.size+1<=_):=Lib.hid (Db HP.out.box);have HK:=HP;clear HP)
                go_roundw
                case rel=>exact ⟨k5+1,by have:=HL5.out;omega,by go_num,by rw [show n4+(k5+1)=n5+1 by have:=HN5.out;omega,VM,<-List.append_assoc,<-o9.out];exact HK⟩
                case measure=>have:=HL5.out;simp [intOf];omega
              . have d1:decide ((k5:Int)<(Xa:Int))=false:=ta (by omega);have d2:decide (k5<Xa)=false:=ta zb;have HE5:Hid (k5=Xa):=Lib.hid (by omega);clear zb hk5
                go_wp2_with (go_at_call 101;refine (Zq W c _ (by have:=HN5.out;have:=rQ.out;first|omega|(simp only [Sd];omega)) _ _ _ HK.out).mono ?_;rintro e w' ⟨v',rfl,hn⟩;have hn:Lb W c _ _ v' w':=hn;clear HO Li HK;have HP:=Lib.hid hn;clear hn;obtain ⟨va,vc,rfl⟩:=Ua HP.out.own;have HO:=Lib.hid HP.out.own;have Li:Hid (W.heap.size+1<=_):=Lib.hid (Db HP.out.box);have HK:=HP;clear HP)
                go_roundw
                case rel=>exact ⟨k4+1,by have:=Ih.out;omega,by go_num,by rw [show l4++Bi Xa (k4+1)=Jc n5 l6 by rw [o9.out,Uai.out,NH,HE5.out];unfold Jc;rw [show Sd n5 -n5=Sd Xa -Xa by have:=HN5.out;have:=rQ.out;have:=HE5.out;unfold Sd;omega];simp,show n3+L*(k4+1)=Sd n5 by(have h7:Sd n5=n4+L:=by(have:=HN5.out;have:=rQ.out;have:=HE5.out;have:=HLL.out;unfold Sd;omega));rw [h7,HQ4.out,Nat.mul_succ];omega];exact HK⟩
                case measure=>have:=Ih.out;simp [intOf];omega
           . have d1:decide ((k4:Int)<(th:Int))=false:=ta (by omega);have d2:decide (k4<th)=false:=ta zb;have HE4:Hid (k4=th):=Lib.hid (by omega);clear zb cF
             go_wp2_with fail
             obtain ⟨n6,hn6⟩:∃n6,n6=n4:=⟨_,rfl⟩;rw [<-hn6]at HK HO rQ HQ4⊢;clear hn6;have HA6:Hid (Lb W c (n6+8*0) (l5++Fg 0) (.slice va n6 vc) _):=Lib.hid (by rw [show Fg 0=[]from rfl,List.append_nil];exact HK.out);clear HK HO Li cb d1 d2
             go_loopw [3,9] (fun v i wr=>∃k:Nat,k<=sl/\i= .int .i64 k/\Hid (Lb W c (n6+8*k) (l5++Fg k) v wr)) (fun _ i _=>sl -(intOf i).toNat)
             case atStart=>exact ⟨0,Nat.zero_le _,rfl,HA6⟩
             case round=>
              obtain ⟨k6,hk6,rfl,HP⟩:=hrel;have cb:wr.cell? ⟨W.heap.size,1,none⟩=some (.int .i64 (sl:Int)):=by rw [Oa HP.out.box,JX.out];rfl
              obtain ⟨n7,hn7⟩:∃n7,n7=n6+8*k6:=⟨_,rfl⟩;obtain ⟨l7,hl7⟩:∃l7,l7=l5++Fg k6:=⟨_,rfl⟩;rw [<-hn7,<-hl7]at HP;have HL7:=Lib.hid hl7;clear hl7;have HN7:Hid (n7=n6+8*k6/\k6<=65536):=Lib.hid ⟨hn7,by omega⟩;clear hn7;obtain ⟨va,vc,rfl⟩:=Ua HP.out.own;have HO:=Lib.hid HP.out.own;have Li:Hid (W.heap.size+1<=_):=Lib.hid (Db HP.out.box);have HK:=HP;clear HP;by_cases zb:k6<sl
              . have d1:decide ((k6:Int)<(sl:Int))=true:=ea (by omega);have d2:decide (k6<sl)=true:=ea zb;have Ih:=Lib.hid zb;have HA7:Hid (Lb W c (n7+0) (l7++Nh k6 0) (.slice va n7 vc) wr):=Lib.hid (by rw [show Nh k6 0=[]from rfl,List.append_nil];exact HK.out);clear zb
                go_wp2_with fail
                clear HK HO Li cb d1 d2
                go_loopw [3,10] (fun v i wr=>∃(k:Nat) (j:Int),k<=5/\i= .int .i64 j/\j=9+(k:Int)/\Hid (Lb W c (n7+k) (l7++Nh k6 k) v wr)) (fun _ i _=>14 -(intOf i).toNat)
                case atStart=>exact ⟨0,9,by omega,rfl,by omega,HA7⟩
                case round=>
                 obtain ⟨k8,j8,hk8,rfl,hj8,HP⟩:=hrel;obtain ⟨va,vc,rfl⟩:=Ua HP.out.own;have HO:=Lib.hid HP.out.own;have Li:Hid (W.heap.size+1<=_):=Lib.hid (Db HP.out.box);have HK:=HP;clear HP;obtain ⟨n8,yU⟩:∃n8,n8=n7+k8:=⟨_,rfl⟩;obtain ⟨l8,hl8⟩:∃l8,l8=l7++Nh k6 k8:=⟨_,rfl⟩;rw [<-yU,<-hl8]at HK HO;rw [<-yU];have sO:Hid (n8=n7+k8/\k8<=5/\j8=9+(k8:Int)):=Lib.hid ⟨yU,hk8,hj8⟩;have Wai:=Lib.hid hl8;clear yU hj8 hl8;by_cases zb:j8<=13
                 . have d1:decide (j8<=13)=true:=ea zb;have HL8:=Lib.hid zb;clear zb hk8
                   go_wp2_with (at_builtin;refine se rfl _ _ 100 rfl (W.heap.size+1) 154 i64 _ 3 24 Tryz.underlying100 hi Nw Kh tg rfl (by decide) _ Li.out _ _ _ (by rfl) HO.out _ 1 1 (by rfl) (by rfl) (by simp [Value.oneCell']) (by unfold maxLen;have:=sO.out;have:=HN7.out;have:=rQ.out;first|omega|(simp only [Sd];omega)) (by have:=sO.out;have:=HN7.out;have:=rQ.out;first|omega|(simp only [Sd];omega)) ?_;intro v' w' Od rn Dg bc;have HP:=Lib.hid (HK.out.push (fun q hq=>(HO.out.lt q hq).1) Od rn Dg);clear Od rn Dg bc HO Li HK;obtain ⟨va,vc,rfl⟩:=Ua HP.out.own;have HO:=Lib.hid HP.out.own;have Li:Hid (W.heap.size+1<=_):=Lib.hid (Db HP.out.box);have HK:=HP;clear HP)
                   go_roundw
                   case rel=>exact ⟨k8+1,j8+1,by have:=HL8.out;have:=sO.out;omega,by have h8:=sO.out;have h9:=HL8.out;have hw:wrap64 (j8+1)=j8+1:=(by unfold wrap64;omega);first|rw [hw]|(simp [hw];done)|go_num,by have:=sO.out;omega,by rw [show n7+(k8+1)=n8+1 by have:=sO.out;omega,OH,<-List.append_assoc,<-Wai.out,<-sO.out.2.2];exact HK⟩
                   case measure=>have h9:=HL8.out;have h8:=sO.out;have hw:wrap64 (j8+1)=j8+1:=(by unfold wrap64;omega);simp [intOf,hw];omega
                 . have d1:decide (j8<=13)=false:=ta zb;have HE8:Hid (k8=5):=Lib.hid (by have:=sO.out;omega);clear zb hk8
                   go_wp2_with (go_at_call 101;refine (Zq W c _ (by have:=sO.out;have:=HN7.out;have:=rQ.out;first|omega|(simp only [Sd];omega)) _ _ _ HK.out).mono ?_;rintro e w' ⟨v',rfl,hn⟩;have hn:Lb W c _ _ v' w':=hn;clear HO Li HK;have HP:=Lib.hid hn;clear hn;obtain ⟨va,vc,rfl⟩:=Ua HP.out.own;have HO:=Lib.hid HP.out.own;have Li:Hid (W.heap.size+1<=_):=Lib.hid (Db HP.out.box);have HK:=HP;clear HP)
                   go_roundw
                   case rel=>exact ⟨k6+1,by have:=Ih.out;omega,by go_num,by rw [show l5++Fg (k6+1)=Jc n8 l8 by rw [Wai.out,HL7.out,bF,HE8.out];unfold Jc;rw [show Sd n8 -n8=3 by have:=sO.out;have:=HN7.out;have:=rQ.out;have:=HE8.out;unfold Sd;omega];simp,show n6+8*(k6+1)=Sd n8 by have:=sO.out;have:=HN7.out;have:=rQ.out;have:=HE8.out;unfold Sd;omega];exact HK⟩
                   case measure=>have:=Ih.out;simp [intOf];omega
              . have d1:decide ((k6:Int)<(sl:Int))=false:=ta (by omega);have d2:decide (k6<sl)=false:=ta zb;have HE6:Hid (k6=sl):=Lib.hid (by omega);clear zb hk6
                go_wp2_with fail
                go_ret
                have e:n7=Sd (40+bu)+8*th+Sd Xa*th+8*sl:=by
                 rw [HN7.out.1,HQ4.out,HE6.out,HE4.out,C9.out.1,HE3.out,bg.out.1,xU.out]
                have el:l7=Ud th sl Xa bu:=by rw [HL7.out,HE6.out,Uai.out,HE4.out,l9.out,HE3.out,qO.out];rfl
                exact ⟨_,rfl,HK.out.below,by rw [<-e,<-el];exact XE HK.out.own (Nat.le_succ _)⟩
def Lv.bucket(v:Lv)(n:Int):Int:=if hasB n v.bu then 40+n else v.ln*8
theorem vn{n m:Int}(h:hasB n m=true):0<=n/\n<m:=by simpa [hasB]using h
theorem WM(l:Nat)(v:Lv)(n:Int)(w:World)(h:Kc w l v):Calls Tryz.prog 267 #[.pointer (some ⟨l,0,none⟩), .int .i64 n] w (Cd (.int .i64 (v.bucket n)) w):=by
 have HC:=Lib.hid fun w h=>Vq l v w h
 have HL:=Lib.hid fun w h=>Wq l v w h
 have HH:=Lib.hid fun w=>Ks n v.bu w
 have HW:=Lib.hid h;have HN:=Lib.hid fun w=>Ku l 5 (by omega) (by omega) w
 have Zh:=h.ok;have b0:=Zh.lQ;have b1:=Zh.bu1;have l0:=Zh.mQ;have l1:=Zh.nQ;have HE:Hid (v.bucket n=if hasB n v.bu then 40+n else v.ln*8):=Lib.hid rfl;have HY:Hid (hasB n v.bu=true->0<=n/\n<v.bu):=Lib.hid vn;clear h Zh;generalize v.bucket n=r at*;generalize hasB n v.bu=y at*;cases y with
 |true=>
  obtain ⟨n0,n1⟩:=HY.out rfl;clear HY
  go_enter Tryz.func267,Tryz.ntmps267
  go_wp2_with fail
  refine (HC.out _ HW.out).mono ?_
  rintro e w1 ⟨rfl,hb⟩;have HB:=Lib.hid hb;clear hb
  go_wp2_with fail
  refine (HH.out _).mono ?_
  rintro e w2 ⟨rfl,rfl⟩
  go_wp2_with fail
  refine (HN.out _).mono ?_
  rintro e w2 ⟨rfl,rfl⟩
  go_wp2_with fail
  go_ret
  exact ⟨Ta (by rw [HE.out];simp),HB.out.alloc HB.out.size _⟩
 |false=>
  clear HY
  go_enter Tryz.func267,Tryz.ntmps267
  go_wp2_with fail
  refine (HC.out _ HW.out).mono ?_
  rintro e w1 ⟨rfl,hb⟩;have HB:=Lib.hid hb;clear hb
  go_wp2_with fail
  refine (HH.out _).mono ?_
  rintro e w2 ⟨rfl,rfl⟩
  go_wp2_with fail
  refine (HL.out _ (HW.out.keep ((HB.out.alloc HB.out.size _).block l HW.out.lt))).mono ?_
  rintro e w2 ⟨rfl,rfl⟩
  go_wp2_with fail
  go_ret
  exact ⟨Ta (by rw [HE.out];simp),HB.out.alloc HB.out.size _⟩
theorem Ow(w:World)(a b:Nat):(w.drewN a).drewN b=w.drewN (a+b):=by unfold World.drewN;simp [Nat.add_assoc]
def Nb(x:Nm):List Nm->Nat->Option Nat
 |[],_=>none
 |y::t,i=>if y=x then some i else Nb x t (i+1)
theorem Ls(x:Nm):∀(l:List Nm) (k j:Nat),l[k]?=some x->(∀i,i<k->l[i]?≠some x)->Nb x l j=some (j+k)
 |[],k,j,h,_=>by simp at h
 |y::t,0,j,h,_=>by
  simp at h;unfold Nb;rw [if_pos h];rfl
 |y::t,k+1,j,h,hn=>by
  have h0:=hn 0 (by omega);simp at h0 h;unfold Nb;rw [if_neg h0,Ls x t k (j+1) h (fun i hi=>by have:=hn (i+1) (by omega);simpa using this)]
  congr 1;omega
theorem uo(x:Nm):∀(l:List Nm) (j:Nat),(∀i,i<l.length->l[i]?≠some x)->Nb x l j=none
 |[],_,_=>rfl
 |y::t,j,hn=>by
  have h0:=hn 0 (by simp);simp at h0;unfold Nb;rw [if_neg h0];exact uo x t (j+1) fun i hi=>by have:=hn (i+1) (by simp;omega);simpa using this
def TJ(last pass:List Nm)(n:Nat)(x:Nm):Int:=
 match Nb x last 0 with
 |some i=>i
 |none=>match Nb x pass 0 with
  |some i=>-1 -(i:Int)
  |none=>n
def MV(th sl Xa bu:Nat)(x:Nm):Int:=TJ (Ud th sl Xa bu) (Uf th sl) (Sd (40+bu)+8*th+Sd Xa*th+8*sl) x
theorem UJ:∀(l:List Nm) (k:Nat) (p:Nm),l[k]?=some p->(fD l)[k*3]?=some (.int .i64 p.1)/\(fD l)[k*3+1]?=some (.int .i64 p.2.1)/\(fD l)[k*3+2]?=some (.int .i64 p.2.2)
 |[],k,p,h=>by simp at h
 |y::t,0,p,h=>by
  simp at h;subst h;exact ⟨rfl,rfl,rfl⟩
 |y::t,k+1,p,h=>by
  have e:fD (y::t)=[.int .i64 y.1, .int .i64 y.2.1, .int .i64 y.2.2]++fD t:=rfl;have ih:=UJ t k p (by simpa using h);rw [e];refine ⟨?_, ?_, ?_⟩
  . rw [List.getElem?_append_right (by simp;omega)];simp only [List.length_cons,List.length_nil];rw [show(k+1)*3 -(0+1+1+1)=k*3 by omega];exact ih.1
  . rw [List.getElem?_append_right (by simp;omega)];simp only [List.length_cons,List.length_nil];rw [show(k+1)*3+1 -(0+1+1+1)=k*3+1 by omega];exact ih.2.1
  . rw [List.getElem?_append_right (by simp;omega)];simp only [List.length_cons,List.length_nil];rw [show(k+1)*3+2 -(0+1+1+1)=k*3+2 by omega];exact ih.2.2
theorem Xai(p x:Nm)(w:World):(binOp .eql 154 (.agg #[.int .i64 p.1, .int .i64 p.2.1, .int .i64 p.2.2]) (.agg #[.int .i64 x.1, .int .i64 x.2.1, .int .i64 x.2.2])).run Tryz.prog w= .ok (.bool (decide (p=x))) w:=by
 obtain ⟨a,b,c⟩:=p;obtain ⟨a',b',c'⟩:=x
 go_simp
 by_cases h1:a=a'<;>by_cases h2:b=b'<;>by_cases h3:c=c'<;>simp [h1,h2,h3]
theorem dF{w:World}{B n:Nat}{v:Value}{l:List Nm}(h:w.ownsRow B 154 3 v n (fD l)):l.length=n/\∀k p,l[k]?=some p->∃g c,v= .slice (some ⟨g,0,none⟩) n c/\B<=g/\g<w.heap.size/\w.cell? ⟨g,k*3,none⟩=some (.int .i64 p.1)/\w.cell? ⟨g,k*3+1,none⟩=some (.int .i64 p.2.1)/\w.cell? ⟨g,k*3+2,none⟩=some (.int .i64 p.2.2):=by
 have e:l.length=n:=by have:=h.1;rw [LV]at this;omega
 refine ⟨e,fun k p hk=> ?_⟩;have hkl:=(List.getElem?_eq_some_iff.1 hk).1
 obtain ⟨g,cap,c,rfl,hb,hg,h1,h2,h3⟩:=Eg h (by omega);obtain ⟨n1,n2,n3⟩:=UJ l k p hk;exact ⟨g,cap,rfl,hb,(Array.getElem?_eq_some_iff.1 hg).1,by rw [Oa hg,h3 _ (by omega)];exact n1,by rw [Oa hg,h3 _ (by omega)];exact n2,by rw [Oa hg,h3 _ (by omega)];exact n3⟩
set_option maxRecDepth 100000 in
set_option maxHeartbeats 4000000 in
theorem rax(th sl Xa bu:Nat)(h1:th<=64)(h2:sl<=1000)(h3:Xa<=64)(h4:bu<=64)(x:Nm)(W:World):
  Calls Tryz.prog 83 #[.agg #[.int .i64 (th:Int), .int .i64 (sl:Int), .int .i64 (Xa:Int), .int .i64 (bu:Int)], .agg #[.int .i64 x.1, .int .i64 x.2.1, .int .i64 x.2.2]] W (Cd (.int .i64 (MV th sl Xa bu x)) W):=by
 have D9:=Lib.hid fun w=>Wz th sl Xa bu h1 (by omega) h3 h4 w
 have HPA:=Lib.hid fun w=>Vz th sl (Xa:Int) (bu:Int) h1 (by omega) w
 have HB:Hid (Sd (40+bu)+8*th+Sd Xa*th+8*sl<=100000/\2+th+sl<=100000):=Lib.hid (by
  have:Sd Xa*th<=72*64:=Nat.mul_le_mul (by unfold Sd;omega) h1;unfold Sd at*;omega)
 unfold MV;generalize Ud th sl Xa bu=L1 at*;generalize Uf th sl=L2 at*;generalize Sd (40+bu)+8*th+Sd Xa*th+8*sl=n1 at*;generalize 2+th+sl=n2 at*;have HEQ:=fun(p:Nm) (w:World)=>Xai p x w
 obtain ⟨W1,Ni⟩:∃W1,W1=(W.alloc (.cells #[.int .i64 (th:Int), .int .i64 (sl:Int), .int .i64 (Xa:Int), .int .i64 (bu:Int)] 23)).alloc (.cells #[.int .i64 x.1, .int .i64 x.2.1, .int .i64 x.2.2] 154):=⟨_,rfl⟩
 have VJ:=Lib.hid Ni;have cj:Hid (Below W.heap.size W W1):=Lib.hid (by rw [Ni];exact ((Below.refl _ _).alloc (Nat.le_refl _) _).alloc (by simp) _);have E9:Hid (W1.heap[W.heap.size]?=some (.cells #[.int .i64 (th:Int), .int .i64 (sl:Int), .int .i64 (Xa:Int), .int .i64 (bu:Int)] 23 (0,0))):=Lib.hid (by rw [Ni,Below.heap_alloc _ _ _ (by simp)];exact heap_alloc_new _ _);have HN1:Hid (W1.heap[W.heap.size+1]?=some (.cells #[.int .i64 x.1, .int .i64 x.2.1, .int .i64 x.2.2] 154 (0,0))):=Lib.hid (by
  have:=heap_alloc_new (W.alloc (.cells #[.int .i64 (th:Int), .int .i64 (sl:Int), .int .i64 (Xa:Int), .int .i64 (bu:Int)] 23)) (.cells #[.int .i64 x.1, .int .i64 x.2.1, .int .i64 x.2.2] 154);rw [World.size_alloc]at this;rw [Ni];exact this)
 have HQ:Hid (∀w,Below W1.heap.size W1 w->(w.cell? ⟨W.heap.size,0,none⟩=some (.int .i64 (th:Int))/\w.cell? ⟨W.heap.size,1,none⟩=some (.int .i64 (sl:Int))/\w.cell? ⟨W.heap.size,2,none⟩=some (.int .i64 (Xa:Int))/\w.cell? ⟨W.heap.size,3,none⟩=some (.int .i64 (bu:Int)))/\w.cell? ⟨W.heap.size+1,0,none⟩=some (.int .i64 x.1)/\w.cell? ⟨W.heap.size+1,1,none⟩=some (.int .i64 x.2.1)/\w.cell? ⟨W.heap.size+1,2,none⟩=some (.int .i64 x.2.2)):=Lib.hid fun w hb=>by
  have h:=(hb.block _ (Db E9.out)).trans E9.out
  have h':=(hb.block _ (Db HN1.out)).trans HN1.out
  exact ⟨⟨ja h 0 _ rfl,ja h 1 _ rfl,ja h 2 _ rfl,ja h 3 _ rfl⟩,ja h' 0 _ rfl,ja h' 1 _ rfl,ja h' 2 _ rfl⟩
 clear Ni h1 h2 h3 h4
 go_enter Tryz.func83,Tryz.ntmps83
 go_wp2_with (go_at_call 41;refine (D9.out _).mono ?_;rintro e w2 ⟨v2,rfl,hb,ho⟩;rw [<-VJ.out]at hb ho;obtain ⟨va,vc,rfl⟩:=Ua ho;have B2:=Lib.hid hb;have O2:=Lib.hid ho;clear hb ho)
 obtain ⟨fF,sQ⟩:=dF O2.out;have H8:=Lib.hid fF;have HE1:=Lib.hid sQ;clear fF sQ
 go_loopw [6] (fun i wr=>∃(k q:Nat),k<=n1/\i= .int .i64 k/\wr=w2.drewN q/\Hid (∀i,i<k->L1[i]?≠some x)) (fun i _=>n1 -(intOf i).toNat)
 case atStart=>exact ⟨0,0,Nat.zero_le _,rfl,rfl,Lib.hid (fun i hi=>absurd hi (Nat.not_lt_zero _))⟩
 case round=>
  obtain ⟨k,q,hk,rfl,rfl,WJ⟩:=hrel;have HBQ:=Lib.hid (B2.out.trans ((ab (Below.refl _ w2) q).mono B2.out.size));by_cases zb:k<n1
  . have d1:decide ((k:Int)<(n1:Int))=true:=ea (by omega);have d2:decide (k<n1)=true:=ea zb;have Ih:=Lib.hid zb;obtain ⟨p,hp⟩:∃p,L1[k]?=some p:=⟨_,List.getElem?_eq_getElem (by have:=H8.out;omega)⟩
    obtain ⟨g,gc,ev,-,hgl,c1,c2,c3⟩:=HE1.out k p hp;cases ev;have HP:=Lib.hid hp;obtain ⟨-,m0,m1,m2⟩:=HQ.out _ B2.out;have i0:(0:Int)<=(k:Int):=by omega
    have i1:(k:Int)<(n1:Int):=by omega
    clear hp hgl zb hk;by_cases XM:p=x
    . have de:decide (p=x)=true:=ea XM;have F9:=Lib.hid XM;clear XM
      go_wp2_with fail
      go_quiet (fail)
      go_wp2_with fail
      go_ret
      have e:TJ L1 L2 n1 x=(k:Int):=by
       unfold TJ;rw [Ls x L1 k 0 (by rw [HP.out,F9.out]) WJ.out,Nat.zero_add]
      exact ⟨by rw [e];rfl,cj.out.trans ((HBQ.out.trans ((ab (Below.refl _ _) nq).mono HBQ.out.size)).mono cj.out.size)⟩
    . have de:decide (p=x)=false:=ta XM;have F9:=Lib.hid XM;clear XM
      go_wp2_with fail
      go_quiet (fail)
      go_wp2_with fail
      go_roundw
      case rel=>
       have hw:wrap64 ((k:Int)+1)=(k:Int)+1:=by have:=Ih.out;have:=HB.out;unfold wrap64;omega
       refine ⟨k+1,q+nq,by have:=Ih.out;omega,by rw [hw];go_num,by first|rfl|exact Ow _ _ _,Lib.hid fun i hi=> ?_⟩;by_cases Q6:i=k
       . subst Q6;rw [HP.out];intro e;cases e;exact F9.out rfl
       . exact WJ.out i (by omega)
      case measure=>
       have hw:wrap64 ((k:Int)+1)=(k:Int)+1:=by have:=Ih.out;have:=HB.out;unfold wrap64;omega
       rw [hw];have h:=Ih.out;have e1:(intOf (.int .i64 ((k:Int)+1))).toNat=k+1:=by show((k:Int)+1).toNat=k+1;omega
       have e2:(intOf (.int .i64 (k:Int))).toNat=k:=by show((k:Int)).toNat=k;omega
       rw [e1,e2];exact Nat.sub_lt_sub_left h (Nat.lt_succ_self k)
  . obtain rfl:k=n1:=by omega
    have d1:decide ((k:Int)<(k:Int))=false:=by simp
    have d2:decide (k<k)=false:=by simp
    have YE:Hid (Nb x L1 0=none):=Lib.hid (uo x L1 0 fun i hi=>WJ.out i (by have:=H8.out;omega));obtain ⟨⟨q0,q1,q2,q3⟩,-⟩:=HQ.out _ B2.out;clear zb hk WJ HE1 D9
    go_wp2_with (go_at_call 42;refine (HPA.out _).mono ?_;rintro e w4 ⟨v4,rfl,hb,ho⟩;obtain ⟨vd,ve,rfl⟩:=Ua ho;have B4:=Lib.hid (HBQ.out.trans (hb.mono HBQ.out.size));have O4:=Lib.hid ho;clear hb ho q0 q1 q2 q3)
    obtain ⟨fF,sQ⟩:=dF O4.out;have A8:=Lib.hid fF;have HE2:=Lib.hid sQ;clear fF sQ HPA d1 d2
    go_loopw [8] (fun i wr=>∃(j q:Nat),j<=n2/\i= .int .i64 j/\wr=w4.drewN q/\Hid (∀i,i<j->L2[i]?≠some x)) (fun i _=>n2 -(intOf i).toNat)
    case atStart=>exact ⟨0,0,Nat.zero_le _,rfl,rfl,Lib.hid (fun i hi=>absurd hi (Nat.not_lt_zero _))⟩
    case round=>
     obtain ⟨j,q',hj,rfl,rfl,WJ⟩:=hrel;have sax:=Lib.hid (B4.out.trans ((ab (Below.refl _ w4) q').mono B4.out.size));by_cases zb:j<n2
     . have d1:decide ((j:Int)<(n2:Int))=true:=ea (by omega);have d2:decide (j<n2)=true:=ea zb;have Ih:=Lib.hid zb;obtain ⟨p,hp⟩:∃p,L2[j]?=some p:=⟨_,List.getElem?_eq_getElem (by have:=A8.out;omega)⟩
       obtain ⟨g,gc,ev,-,hgl,c1,c2,c3⟩:=HE2.out j p hp;cases ev;have HP:=Lib.hid hp;obtain ⟨-,m0,m1,m2⟩:=HQ.out _ B4.out;have i0:(0:Int)<=(j:Int):=by omega
       have i1:(j:Int)<(n2:Int):=by omega
       clear hp hgl zb hj;by_cases XM:p=x
       . have de:decide (p=x)=true:=ea XM;have F9:=Lib.hid XM;clear XM
         go_wp2_with fail
         go_quiet (fail)
         go_wp2_with fail
         have hw:wrap64 (-1 -(j:Int))=-1 -(j:Int):=by have:=Ih.out;have:=HB.out;unfold wrap64;omega
         go_ret
         have e:TJ L1 L2 k x=-1 -(j:Int):=by
          unfold TJ;rw [YE.out];simp only;rw [Ls x L2 j 0 (by rw [HP.out,F9.out]) WJ.out,Nat.zero_add]
         exact ⟨by rw [e];first|rfl|(simp [hw];done)|(congr 1),cj.out.trans ((B4.out.trans ((ab (Below.refl _ w4) _).mono B4.out.size)).mono cj.out.size)⟩
       . have de:decide (p=x)=false:=ta XM;have F9:=Lib.hid XM;clear XM
         go_wp2_with fail
         go_quiet (fail)
         go_wp2_with fail
         go_roundw
         case rel=>
          have hw:wrap64 ((j:Int)+1)=(j:Int)+1:=by have:=Ih.out;have:=HB.out;unfold wrap64;omega
          refine ⟨j+1,q'+nq,by have:=Ih.out;omega,by rw [hw];go_num,by first|rfl|exact Ow _ _ _,Lib.hid fun i hi=> ?_⟩;by_cases Q6:i=j
          . subst Q6;rw [HP.out];intro e;cases e;exact F9.out rfl
          . exact WJ.out i (by omega)
         case measure=>
          have hw:wrap64 ((j:Int)+1)=(j:Int)+1:=by have:=Ih.out;have:=HB.out;unfold wrap64;omega
          rw [hw];have h:=Ih.out;have e1:(intOf (.int .i64 ((j:Int)+1))).toNat=j+1:=by show((j:Int)+1).toNat=j+1;omega
          have e2:(intOf (.int .i64 (j:Int))).toNat=j:=by show((j:Int)).toNat=j;omega
          rw [e1,e2];exact Nat.sub_lt_sub_left h (Nat.lt_succ_self j)
     . obtain rfl:j=n2:=by omega
       have d1:decide ((j:Int)<(j:Int))=false:=by simp
       have d2:decide (j<j)=false:=by simp
       have IX:Hid (Nb x L2 0=none):=Lib.hid (uo x L2 0 fun i hi=>WJ.out i (by have:=A8.out;omega));clear zb hj WJ HE2
       go_wp2_with fail
       go_ret
       have e:TJ L1 L2 k x=(k:Int):=by
        unfold TJ;rw [YE.out];simp only;rw [IX.out]
       exact ⟨by rw [e];rfl,cj.out.trans (sax.out.mono cj.out.size)⟩
end Go.Proofs.YtfnkmolffhfpoaaGreat
