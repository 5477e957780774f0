/- -/
import Derived.Test.YtfnkmolffhfpoaaGreatHb25
import Derived.Test.YtfnkmolffhfpoaaGreatHb2
import Derived.Test.YtfnkmolffhfpoaaGreatHb23
import Derived.Test.YtfnkmolffhfpoaaGreatHb16
import Derived.Test.YtfnkmolffhfpoaaGreatHb22
import Derived.Test.YtfnkmolffhfpoaaGreatHb1
set_option linter.unusedVariables false
set_option linter.unusedSimpArgs false
set_option linter.unusedSectionVars false
namespace Go.Proofs.YtfnkmolffhfpoaaGreat
open Go.RowKit Go.BigFrame
theorem jt(w:World)(a b:Nat):(w.drewN a).drewN b=w.drewN (a+b):=by unfold World.drewN;simp [Nat.add_assoc]
def Kb(x:Nm):List Nm->Nat->Option Nat
 |[],_=>none
 |y::t,i=>if y=x then some i else Kb x t (i+1)
theorem Cp(x:Nm):∀(l:List Nm) (k j:Nat),l[k]?=some x->(∀i,i<k->l[i]?≠some x)->Kb x l j=some (j+k)
 |[],k,j,h,_=>by simp at h
 |y::t,0,j,h,_=>by
  simp at h;unfold Kb;rw [if_pos h];rfl
 |y::t,k+1,j,h,hn=>by
  have h0:=hn 0 (by omega);simp at h0 h;unfold Kb;rw [if_neg h0,Cp x t k (j+1) h (fun i hi=>by have:=hn (i+1) (by omega);simpa using this)]
  congr 1;omega
theorem Gl(x:Nm):∀(l:List Nm) (j:Nat),(∀i,i<l.length->l[i]?≠some x)->Kb x l j=none
 |[],_,_=>rfl
 |y::t,j,hn=>by
  have h0:=hn 0 (by simp);simp at h0;unfold Kb;rw [if_neg h0];exact Gl x t (j+1) fun i hi=>by have:=hn (i+1) (by simp;omega);simpa using this
def DG(last pass:List Nm)(n:Nat)(x:Nm):Int:=
 match Kb x last 0 with
 |some i=>i
 |none=>match Kb x pass 0 with
  |some i=>-1 -(i:Int)
  |none=>n
def nR(th sl Ta bu:Nat)(x:Nm):Int:=DG (Kd th sl Ta bu) (Ff th sl) (Hd (40+bu)+8*th+Hd Ta*th+8*sl) x
theorem EG:∀(l:List Nm) (k:Nat) (p:Nm),l[k]?=some p->(EA l)[k*3]?=some (.int .i64 p.1)/\(EA l)[k*3+1]?=some (.int .i64 p.2.1)/\(EA l)[k*3+2]?=some (.int .i64 p.2.2)
 |[],k,p,h=>by simp at h
 |y::t,0,p,h=>by
  simp at h;subst h;exact ⟨rfl,rfl,rfl⟩
 |y::t,k+1,p,h=>by
  have e:EA (y::t)=[.int .i64 y.1, .int .i64 y.2.1, .int .i64 y.2.2]++EA t:=rfl;have ih:=EG t k p (by simpa using h);rw [e];refine ⟨?_, ?_, ?_⟩
  . rw [List.getElem?_append_right (by simp;omega)];simp only [List.length_cons,List.length_nil];rw [show(k+1)*3 -(0+1+1+1)=k*3 by omega];exact ih.1
  . rw [List.getElem?_append_right (by simp;omega)];simp only [List.length_cons,List.length_nil];rw [show(k+1)*3+1 -(0+1+1+1)=k*3+1 by omega];exact ih.2.1
  . rw [List.getElem?_append_right (by simp;omega)];simp only [List.length_cons,List.length_nil];rw [show(k+1)*3+2 -(0+1+1+1)=k*3+2 by omega];exact ih.2.2
theorem tac(p x:Nm)(w:World):(binOp .eql 154 (.agg #[.int .i64 p.1, .int .i64 p.2.1, .int .i64 p.2.2]) (.agg #[.int .i64 x.1, .int .i64 x.2.1, .int .i64 x.2.2])).run Tryz.prog w= .ok (.bool (decide (p=x))) w:=by
 obtain ⟨a,b,c⟩:=p;obtain ⟨a',b',c'⟩:=x
 go_simp
 by_cases h1:a=a'<;>by_cases h2:b=b'<;>by_cases h3:c=c'<;>simp [h1,h2,h3]
theorem xC{w:World}{B n:Nat}{v:Value}{l:List Nm}(h:w.ownsRow B 154 3 v n (EA l)):l.length=n/\∀k p,l[k]?=some p->∃g c,v= .slice (some ⟨g,0,none⟩) n c/\B<=g/\g<w.heap.size/\w.cell? ⟨g,k*3,none⟩=some (.int .i64 p.1)/\w.cell? ⟨g,k*3+1,none⟩=some (.int .i64 p.2.1)/\w.cell? ⟨g,k*3+2,none⟩=some (.int .i64 p.2.2):=by
 have e:l.length=n:=by have:=h.1;rw [jR]at this;omega
 refine ⟨e,fun k p hk=> ?_⟩;have hkl:=(List.getElem?_eq_some_iff.1 hk).1
 obtain ⟨g,cap,c,rfl,hb,hg,h1,h2,h3⟩:=Zf h (by omega);obtain ⟨n1,n2,n3⟩:=EG l k p hk;exact ⟨g,cap,rfl,hb,(Array.getElem?_eq_some_iff.1 hg).1,by rw [Ma hg,h3 _ (by omega)];exact n1,by rw [Ma hg,h3 _ (by omega)];exact n2,by rw [Ma hg,h3 _ (by omega)];exact n3⟩
set_option maxRecDepth 100000 in
set_option maxHeartbeats 4000000 in
theorem haq(th sl Ta bu:Nat)(h1:th<=64)(h2:sl<=1000)(h3:Ta<=64)(h4:bu<=64)(x:Nm)(W:World):
  Calls Tryz.prog 83 #[.agg #[.int .i64 (th:Int), .int .i64 (sl:Int), .int .i64 (Ta:Int), .int .i64 (bu:Int)], .agg #[.int .i64 x.1, .int .i64 x.2.1, .int .i64 x.2.2]] W (Rc (.int .i64 (nR th sl Ta bu x)) W):=by
 have MP:=Lib.hid fun w=>fx th sl Ta bu h1 (by omega) h3 h4 w
 have Q2:=Lib.hid fun w=>bx th sl (Ta:Int) (bu:Int) h1 (by omega) w
 have HB:Hid (Hd (40+bu)+8*th+Hd Ta*th+8*sl<=100000/\2+th+sl<=100000):=Lib.hid (by
  have:Hd Ta*th<=72*64:=Nat.mul_le_mul (by unfold Hd;omega) h1;unfold Hd at*;omega)
 unfold nR;generalize Kd th sl Ta bu=L1 at*;generalize Ff th sl=L2 at*;generalize Hd (40+bu)+8*th+Hd Ta*th+8*sl=n1 at*;generalize 2+th+sl=n2 at*;have HEQ:=fun(p:Nm) (w:World)=>tac p x w
 obtain ⟨W1,Lj⟩:∃W1,W1=(W.alloc (.cells #[.int .i64 (th:Int), .int .i64 (sl:Int), .int .i64 (Ta:Int), .int .i64 (bu:Int)] 23)).alloc (.cells #[.int .i64 x.1, .int .i64 x.2.1, .int .i64 x.2.2] 154):=⟨_,rfl⟩
 have kY:=Lib.hid Lj;have jh:Hid (Below W.heap.size W W1):=Lib.hid (by rw [Lj];exact ((Below.refl _ _).alloc (Nat.le_refl _) _).alloc (by simp) _);have qt:Hid (W1.heap[W.heap.size]?=some (.cells #[.int .i64 (th:Int), .int .i64 (sl:Int), .int .i64 (Ta:Int), .int .i64 (bu:Int)] 23 (0,0))):=Lib.hid (by rw [Lj,Below.heap_alloc _ _ _ (by simp)];exact heap_alloc_new _ _);have HN1:Hid (W1.heap[W.heap.size+1]?=some (.cells #[.int .i64 x.1, .int .i64 x.2.1, .int .i64 x.2.2] 154 (0,0))):=Lib.hid (by
  have:=heap_alloc_new (W.alloc (.cells #[.int .i64 (th:Int), .int .i64 (sl:Int), .int .i64 (Ta:Int), .int .i64 (bu:Int)] 23)) (.cells #[.int .i64 x.1, .int .i64 x.2.1, .int .i64 x.2.2] 154);rw [World.size_alloc]at this;rw [Lj];exact this)
 have HQ:Hid (∀w,Below W1.heap.size W1 w->(w.cell? ⟨W.heap.size,0,none⟩=some (.int .i64 (th:Int))/\w.cell? ⟨W.heap.size,1,none⟩=some (.int .i64 (sl:Int))/\w.cell? ⟨W.heap.size,2,none⟩=some (.int .i64 (Ta:Int))/\w.cell? ⟨W.heap.size,3,none⟩=some (.int .i64 (bu:Int)))/\w.cell? ⟨W.heap.size+1,0,none⟩=some (.int .i64 x.1)/\w.cell? ⟨W.heap.size+1,1,none⟩=some (.int .i64 x.2.1)/\w.cell? ⟨W.heap.size+1,2,none⟩=some (.int .i64 x.2.2)):=Lib.hid fun w hb=>by
  have h:=(hb.block _ (Mb qt.out)).trans qt.out
  have h':=(hb.block _ (Mb HN1.out)).trans HN1.out
  exact ⟨⟨ga h 0 _ rfl,ga h 1 _ rfl,ga h 2 _ rfl,ga h 3 _ rfl⟩,ga h' 0 _ rfl,ga h' 1 _ rfl,ga h' 2 _ rfl⟩
 clear Lj h1 h2 h3 h4
 go_enter Tryz.func83,Tryz.ntmps83
 go_wp2_with (go_at_call 41;refine (MP.out _).mono ?_;rintro e w2 ⟨v2,rfl,hb,ho⟩;rw [<-kY.out]at hb ho;obtain ⟨va,vc,rfl⟩:=Ra ho;have B2:=Lib.hid hb;have O2:=Lib.hid ho;clear hb ho)
 obtain ⟨yC,jM⟩:=xC O2.out;have FP:=Lib.hid yC;have HE1:=Lib.hid jM;clear yC jM
 go_loopw [6] (fun i wr=>∃(k q:Nat),k<=n1/\i= .int .i64 k/\wr=w2.drewN q/\Hid (∀i,i<k->L1[i]?≠some x)) (fun i _=>n1 -(intOf i).toNat)
 case atStart=>exact ⟨0,0,Nat.zero_le _,rfl,rfl,Lib.hid (fun i hi=>absurd hi (Nat.not_lt_zero _))⟩
 case round=>
  obtain ⟨k,q,hk,rfl,rfl,oR⟩:=hrel;have HBQ:=Lib.hid (B2.out.trans ((zb (Below.refl _ w2) q).mono B2.out.size));by_cases Ab:k<n1
  . have d1:decide ((k:Int)<(n1:Int))=true:=ca (by omega);have d2:decide (k<n1)=true:=ca Ab;have Ah:=Lib.hid Ab;obtain ⟨p,hp⟩:∃p,L1[k]?=some p:=⟨_,List.getElem?_eq_getElem (by have:=FP.out;omega)⟩
    obtain ⟨g,gc,ev,-,hgl,c1,c2,c3⟩:=HE1.out k p hp;cases ev;have HP:=Lib.hid hp;obtain ⟨-,m0,m1,m2⟩:=HQ.out _ B2.out;have i0:(0:Int)<=(k:Int):=by omega
    have i1:(k:Int)<(n1:Int):=by omega
    clear hp hgl Ab hk;by_cases gJ:p=x
    . have de:decide (p=x)=true:=ca gJ;have lY:=Lib.hid gJ;clear gJ
      go_wp2_with fail
      go_quiet (fail)
      go_wp2_with fail
      go_ret
      have e:DG L1 L2 n1 x=(k:Int):=by
       unfold DG;rw [Cp x L1 k 0 (by rw [HP.out,lY.out]) oR.out,Nat.zero_add]
      exact ⟨by rw [e];rfl,jh.out.trans ((HBQ.out.trans ((zb (Below.refl _ _) nq).mono HBQ.out.size)).mono jh.out.size)⟩
    . have de:decide (p=x)=false:=ea gJ;have lY:=Lib.hid gJ;clear gJ
      go_wp2_with fail
      go_quiet (fail)
      go_wp2_with fail
      go_roundw
      case rel=>
       have hw:wrap64 ((k:Int)+1)=(k:Int)+1:=by have:=Ah.out;have:=HB.out;unfold wrap64;omega
       refine ⟨k+1,q+nq,by have:=Ah.out;omega,by rw [hw];go_num,by first|rfl|exact jt _ _ _,Lib.hid fun i hi=> ?_⟩;by_cases YW:i=k
       . subst YW;rw [HP.out];intro e;cases e;exact lY.out rfl
       . exact oR.out i (by omega)
      case measure=>
       have hw:wrap64 ((k:Int)+1)=(k:Int)+1:=by have:=Ah.out;have:=HB.out;unfold wrap64;omega
       rw [hw];have h:=Ah.out;have e1:(intOf (.int .i64 ((k:Int)+1))).toNat=k+1:=by show((k:Int)+1).toNat=k+1;omega
       have e2:(intOf (.int .i64 (k:Int))).toNat=k:=by show((k:Int)).toNat=k;omega
       rw [e1,e2];exact Nat.sub_lt_sub_left h (Nat.lt_succ_self k)
  . obtain rfl:k=n1:=by omega
    have d1:decide ((k:Int)<(k:Int))=false:=by simp
    have d2:decide (k<k)=false:=by simp
    have sC:Hid (Kb x L1 0=none):=Lib.hid (Gl x L1 0 fun i hi=>oR.out i (by have:=FP.out;omega));obtain ⟨⟨q0,q1,q2,q3⟩,-⟩:=HQ.out _ B2.out;clear Ab hk oR HE1 MP
    go_wp2_with (go_at_call 42;refine (Q2.out _).mono ?_;rintro e w4 ⟨v4,rfl,hb,ho⟩;obtain ⟨vd,ve,rfl⟩:=Ra ho;have B4:=Lib.hid (HBQ.out.trans (hb.mono HBQ.out.size));have O4:=Lib.hid ho;clear hb ho q0 q1 q2 q3)
    obtain ⟨yC,jM⟩:=xC O4.out;have JI:=Lib.hid yC;have HE2:=Lib.hid jM;clear yC jM Q2 d1 d2
    go_loopw [8] (fun i wr=>∃(j q:Nat),j<=n2/\i= .int .i64 j/\wr=w4.drewN q/\Hid (∀i,i<j->L2[i]?≠some x)) (fun i _=>n2 -(intOf i).toNat)
    case atStart=>exact ⟨0,0,Nat.zero_le _,rfl,rfl,Lib.hid (fun i hi=>absurd hi (Nat.not_lt_zero _))⟩
    case round=>
     obtain ⟨j,q',hj,rfl,rfl,oR⟩:=hrel;have iaq:=Lib.hid (B4.out.trans ((zb (Below.refl _ w4) q').mono B4.out.size));by_cases Ab:j<n2
     . have d1:decide ((j:Int)<(n2:Int))=true:=ca (by omega);have d2:decide (j<n2)=true:=ca Ab;have Ah:=Lib.hid Ab;obtain ⟨p,hp⟩:∃p,L2[j]?=some p:=⟨_,List.getElem?_eq_getElem (by have:=JI.out;omega)⟩
       obtain ⟨g,gc,ev,-,hgl,c1,c2,c3⟩:=HE2.out j p hp;cases ev;have HP:=Lib.hid hp;obtain ⟨-,m0,m1,m2⟩:=HQ.out _ B4.out;have i0:(0:Int)<=(j:Int):=by omega
       have i1:(j:Int)<(n2:Int):=by omega
       clear hp hgl Ab hj;by_cases gJ:p=x
       . have de:decide (p=x)=true:=ca gJ;have lY:=Lib.hid gJ;clear gJ
         go_wp2_with fail
         go_quiet (fail)
         go_wp2_with fail
         have hw:wrap64 (-1 -(j:Int))=-1 -(j:Int):=by have:=Ah.out;have:=HB.out;unfold wrap64;omega
         go_ret
         have e:DG L1 L2 k x=-1 -(j:Int):=by
          unfold DG;rw [sC.out];simp only;rw [Cp x L2 j 0 (by rw [HP.out,lY.out]) oR.out,Nat.zero_add]
         exact ⟨by rw [e];first|rfl|(simp [hw];done)|(congr 1),jh.out.trans ((B4.out.trans ((zb (Below.refl _ w4) _).mono B4.out.size)).mono jh.out.size)⟩
       . have de:decide (p=x)=false:=ea gJ;have lY:=Lib.hid gJ;clear gJ
         go_wp2_with fail
         go_quiet (fail)
         go_wp2_with fail
         go_roundw
         case rel=>
          have hw:wrap64 ((j:Int)+1)=(j:Int)+1:=by have:=Ah.out;have:=HB.out;unfold wrap64;omega
          refine ⟨j+1,q'+nq,by have:=Ah.out;omega,by rw [hw];go_num,by first|rfl|exact jt _ _ _,Lib.hid fun i hi=> ?_⟩;by_cases YW:i=j
          . subst YW;rw [HP.out];intro e;cases e;exact lY.out rfl
          . exact oR.out i (by omega)
         case measure=>
          have hw:wrap64 ((j:Int)+1)=(j:Int)+1:=by have:=Ah.out;have:=HB.out;unfold wrap64;omega
          rw [hw];have h:=Ah.out;have e1:(intOf (.int .i64 ((j:Int)+1))).toNat=j+1:=by show((j:Int)+1).toNat=j+1;omega
          have e2:(intOf (.int .i64 (j:Int))).toNat=j:=by show((j:Int)).toNat=j;omega
          rw [e1,e2];exact Nat.sub_lt_sub_left h (Nat.lt_succ_self j)
     . obtain rfl:j=n2:=by omega
       have d1:decide ((j:Int)<(j:Int))=false:=by simp
       have d2:decide (j<j)=false:=by simp
       have HN2:Hid (Kb x L2 0=none):=Lib.hid (Gl x L2 0 fun i hi=>oR.out i (by have:=JI.out;omega));clear Ab hj oR HE2
       go_wp2_with fail
       go_ret
       have e:DG L1 L2 k x=(k:Int):=by
        unfold DG;rw [sC.out];simp only;rw [HN2.out]
       exact ⟨by rw [e];rfl,jh.out.trans (iaq.out.mono jh.out.size)⟩
theorem pR(a b c d:Value)(w:World):(Instr.field 23 (.agg #[a,b,c,d]) 3).run Tryz.prog w= .ok d w:=by kernel_rfl
theorem mY(l:Nat)(w:World):Calls Tryz.prog 266 #[.pointer (some ⟨l,0,none⟩)] w (Rb (.int .i64 32) w):=by
 have HN:=Lib.hid fun w=>xo l 4 (by omega) (by omega) w
 go_enter Tryz.func266,Tryz.ntmps266
 go_wp2_with fail
 refine (HN.out _).mono ?_
 rintro e w2 ⟨rfl,rfl⟩
 go_wp2_with fail
 go_ret
 exact ⟨Fa (by simp),rfl⟩
def Lv.hd(v:Lv)(k x:Int):Int:=if k=3 then 32 else if k=4 then 32 else if k=5 then 32 else if k=6 then v.bucket (ye x v.bu)else if k=7 then v.bucket (ye x v.bu)else if k=8 then v.bucket (ye x v.bu)else v.ln*8
theorem qR(l:Nat)(v:Lv)(k x:Int)(y:Value)(h0:0<=x)(b0:1<=v.bu)(w:World)(h:Ac w l v):Calls Tryz.prog 185 #[.pointer (some ⟨l,0,none⟩), .agg #[.int .i64 k, .int .u32 x,y]] w (Rc (.int .i64 (v.hd k x)) w):=by
 have HC:=Lib.hid fun w h=>Jk l v w h
 have HL:=Lib.hid fun w h=>El l v w h
 have HS:=Lib.hid fun w=>mY l w
 have HB:=Lib.hid fun w h=>gx l v (ye x v.bu) w h
 have HW:=Lib.hid h;have rm:=h.ok;have b1:=rm.JT;have l0:=rm.YI;have l1:=rm.ZI;have HK:=Lib.hid fun w=>fJ x v.bu h0 b0 (by omega) w
 have HE:Hid (v.hd k x=if k=3 then 32 else if k=4 then 32 else if k=5 then 32 else if k=6 then v.bucket (ye x v.bu)else if k=7 then v.bucket (ye x v.bu)else if k=8 then v.bucket (ye x v.bu)else v.ln*8):=Lib.hid rfl;have HP:Hid (∀W1,W1=w.alloc (.cells #[.int .i64 k, .int .u32 x,y] 29)->W1.cell? ⟨w.heap.size,1,none⟩=some (.int .u32 x)/\Ac W1 l v/\Below w.heap.size w W1/\∀w2,Below W1.heap.size W1 w2->w2.cell? ⟨w.heap.size,1,none⟩=some (.int .u32 x)/\Ac w2 l v/\Below w.heap.size w w2):=Lib.hid fun W1 e=>by
  have hb:Below w.heap.size w W1:=by rw [e];exact (Below.refl _ w).alloc (Nat.le_refl _) _
  have hs:w.heap.size<W1.heap.size:=by rw [e];simp
  have hc:W1.cell? ⟨w.heap.size,1,none⟩=some (.int .u32 x):=by
   rw [e,cell_of_row _ _ 1 _ _ _ (heap_alloc_new w _)];rfl
  have key:∀w2,Below w.heap.size w w2->Ac w2 l v:=fun w2 Ih=>h.keep (Ih.block l h.lt)
  refine ⟨hc,key _ hb,hb,fun w2 Ih=>⟨?_,key _ (hb.trans (Ih.mono (Nat.le_of_lt hs))),hb.trans (Ih.mono (Nat.le_of_lt hs))⟩⟩;have e2:=Ih.block w.heap.size hs;unfold World.cell? at hc⊢;simp only at hc⊢;rw [e2];exact hc
 have UF:=fun(a b c d:Value) (w:World)=>pR a b c d w
 clear h rm;generalize v.hd k x=r at*;generalize ye x v.bu=n at*;generalize v.bucket n=q at*;by_cases k3:k=3
 . subst k3
   go_enter Tryz.func185,Tryz.ntmps185
   go_wp2_with fail
   refine (HS.out _).mono ?_
   rintro e w1 ⟨rfl,rfl⟩
   go_wp2_with fail
   go_ret
   exact ⟨Fa (by rw [HE.out];simp),(Below.refl _ _).alloc (Nat.le_refl _) _⟩
 by_cases k4:k=4
 . subst k4
   go_enter Tryz.func185,Tryz.ntmps185
   go_wp2_with fail
   refine (HS.out _).mono ?_
   rintro e w1 ⟨rfl,rfl⟩
   go_wp2_with fail
   go_ret
   exact ⟨Fa (by rw [HE.out];simp),(Below.refl _ _).alloc (Nat.le_refl _) _⟩
 by_cases k5:k=5
 . subst k5
   go_enter Tryz.func185,Tryz.ntmps185
   go_wp2_with fail
   refine (HS.out _).mono ?_
   rintro e w1 ⟨rfl,rfl⟩
   go_wp2_with fail
   go_ret
   exact ⟨Fa (by rw [HE.out];simp),(Below.refl _ _).alloc (Nat.le_refl _) _⟩
 by_cases k6:k=6
 . subst k6
   go_enter Tryz.func185,Tryz.ntmps185
   go_wp2_with fail
   obtain ⟨W1,Lj⟩:∃W1,W1=w.alloc (.cells #[.int .i64 6, .int .u32 x,y] 29):=⟨_,rfl⟩;rw [<-Lj];obtain ⟨c1,hl,Uq,hk⟩:=HP.out W1 Lj;have FP:=Lib.hid hl;have kM:=Lib.hid hk;clear hl Uq hk Lj HP
   go_region_held3 (fun w'=>w'.cell? ⟨w.heap.size,1,none⟩=some (.int .u32 x)) (go_keep) (first
    |(go_at_call 240;refine (HC.out _ (kM.out _ (Below.refl _ _).drew).2.1).mono ?_;rintro e w2 ⟨rfl,hb⟩;obtain ⟨c2,hl,Uq⟩:=kM.out _ (((Below.refl _ W1).drew).trans hb);have JI:=Lib.hid hl;have vD:=Lib.hid (((Below.refl _ W1).drew).trans hb);clear hl Uq hb c1)
    |(go_at_call 268;refine (HK.out _).mono ?_;rintro e w3 ⟨rfl,rfl⟩)
    |(go_at_call 267;refine (HB.out _ JI.out).mono ?_;rintro e w4 ⟨rfl,hb⟩;obtain ⟨c4,-,Uq⟩:=kM.out _ (vD.out.trans (hb.mono vD.out.size));have gY:=Lib.hid Uq;clear hb Uq c2))
   all_goals
    go_wp2_with fail
    go_ret
    exact ⟨Fa (by rw [HE.out];simp),gY.out⟩
 by_cases k7:k=7
 . subst k7
   go_enter Tryz.func185,Tryz.ntmps185
   go_wp2_with fail
   obtain ⟨W1,Lj⟩:∃W1,W1=w.alloc (.cells #[.int .i64 7, .int .u32 x,y] 29):=⟨_,rfl⟩;rw [<-Lj];obtain ⟨c1,hl,Uq,hk⟩:=HP.out W1 Lj;have FP:=Lib.hid hl;have kM:=Lib.hid hk;clear hl Uq hk Lj HP
   go_region_held3 (fun w'=>w'.cell? ⟨w.heap.size,1,none⟩=some (.int .u32 x)) (go_keep) (first
    |(go_at_call 240;refine (HC.out _ (kM.out _ (Below.refl _ _).drew).2.1).mono ?_;rintro e w2 ⟨rfl,hb⟩;obtain ⟨c2,hl,Uq⟩:=kM.out _ (((Below.refl _ W1).drew).trans hb);have JI:=Lib.hid hl;have vD:=Lib.hid (((Below.refl _ W1).drew).trans hb);clear hl Uq hb c1)
    |(go_at_call 268;refine (HK.out _).mono ?_;rintro e w3 ⟨rfl,rfl⟩)
    |(go_at_call 267;refine (HB.out _ JI.out).mono ?_;rintro e w4 ⟨rfl,hb⟩;obtain ⟨c4,-,Uq⟩:=kM.out _ (vD.out.trans (hb.mono vD.out.size));have gY:=Lib.hid Uq;clear hb Uq c2))
   all_goals
    go_wp2_with fail
    go_ret
    exact ⟨Fa (by rw [HE.out];simp),gY.out⟩
 by_cases k8:k=8
 . subst k8
   go_enter Tryz.func185,Tryz.ntmps185
   go_wp2_with fail
   obtain ⟨W1,Lj⟩:∃W1,W1=w.alloc (.cells #[.int .i64 8, .int .u32 x,y] 29):=⟨_,rfl⟩;rw [<-Lj];obtain ⟨c1,hl,Uq,hk⟩:=HP.out W1 Lj;have FP:=Lib.hid hl;have kM:=Lib.hid hk;clear hl Uq hk Lj HP
   go_region_held3 (fun w'=>w'.cell? ⟨w.heap.size,1,none⟩=some (.int .u32 x)) (go_keep) (first
    |(go_at_call 240;refine (HC.out _ (kM.out _ (Below.refl _ _).drew).2.1).mono ?_;rintro e w2 ⟨rfl,hb⟩;obtain ⟨c2,hl,Uq⟩:=kM.out _ (((Below.refl _ W1).drew).trans hb);have JI:=Lib.hid hl;have vD:=Lib.hid (((Below.refl _ W1).drew).trans hb);clear hl Uq hb c1)
    |(go_at_call 268;refine (HK.out _).mono ?_;rintro e w3 ⟨rfl,rfl⟩)
    |(go_at_call 267;refine (HB.out _ JI.out).mono ?_;rintro e w4 ⟨rfl,hb⟩;obtain ⟨c4,-,Uq⟩:=kM.out _ (vD.out.trans (hb.mono vD.out.size));have gY:=Lib.hid Uq;clear hb Uq c2))
   all_goals
    go_wp2_with fail
    go_ret
    exact ⟨Fa (by rw [HE.out];simp),gY.out⟩
 go_enter Tryz.func185,Tryz.ntmps185
 go_wp2_with fail
 obtain ⟨W1,Lj⟩:∃W1,W1=w.alloc (.cells #[.int .i64 k, .int .u32 x,y] 29):=⟨_,rfl⟩;rw [<-Lj];obtain ⟨c1,hl,Uq,hk⟩:=HP.out W1 Lj;refine (HL.out _ hl).mono ?_
 rintro e w2 ⟨rfl,rfl⟩
 go_wp2_with fail
 go_ret
 exact ⟨Fa (by rw [HE.out];simp [k3,k4,k5,k6,k7,k8]),by rw [<-Lj];exact Uq⟩
end Go.Proofs.YtfnkmolffhfpoaaGreat
namespace Go.Proofs.YtfnkmolffhfpoaaGreat
namespace Sk
open Go.RowKit
noncomputable section
inductive Gh where
 |mem(A:Rv)
 |ref(A:Rv)
 |lay(c:Dc)
def Vv:Rv:=⟨0,0,0,0,0,0,0,0,0,0,0,0,0,0,0,fun _=>0,fun _=>0,fun _=>0,fun _=>0,fun _=>0,fun _=>0,fun _ _=>false,0,0,⟨0,0,0,0,0,false⟩,0⟩
def Gh.A:Gh->Rv
 | .mem A=>A
 | .ref A=>A
 | .lay _=>Vv
def Gh.C:Gh->Dc
 | .lay c=>c
 |_=>⟨0,0,0,0⟩
def Mj:tc Gh->Gh
 | .g g=>g
 | .v _=> .mem Vv
def bN(b:Bool):Int:=if b then 1 else 0
def Nj(c:Dc)(i:Int):Int:=if i=0 then c.th else if i=1 then c.sl else if i=2 then c.lo else c.bu
structure Bg(c:Dc):Prop where
 WI:1<=c.th
 th:c.th<=64
 qK:1<=c.sl
 sl:c.sl<=1000
 GP:1<=c.lo
 lo:c.lo<=64
 XI:1<=c.bu
 bu:c.bu<=64
def zC(v:Lv)(k a b:Int):Int:=
 if k=8 then(if hasB b v.lo then v.word a v.th v.pl v.ls b else v.ln*8)
 else if b≠0 then v.ln*8
 else if k=5 then(if hasB a v.bu then 40+a else v.ln*8)
 else if k=6 then v.word a v.th v.pt 1 0
 else if k=7 then v.word a v.th v.pt 1 1
 else if k=16 then(if hasB a v.th then-3 -a else v.ln*8)
 else if k=17 then(if hasB a v.sl then-3 -v.th -a else v.ln*8)
 else if 9<=k/\k<=13 then v.slot a (k -9)else 0
open Classical in
def vt(c:Dc)(k a b:Int):Int:=if Bg c then zC c.lv k a b else 0
open Classical in
def FG(c:Dc)(k x:Int):Int:=if Bg c then c.lv.hd k x else 0
theorem Bg.ok{c:Dc}(h:Bg c):c.lv.Ok:=Dc.PT c ⟨h.WI,h.th,h.qK,by have:=h.sl;omega,h.GP,h.lo,h.XI,h.bu⟩
theorem Vq{v:Lv}(h:v.Ok){n many first size at_:Int}(hm:many<=65536)(f0:0<=first)(f1:first<=1000)(s0:0<=size)(s1:size<=8)(a0:0<=at_)(a1:at_<=100):0<=v.word n many first size at_/\v.word n many first size at_<=10000000:=by
 have l0:=h.YI;have l1:=h.ZI;unfold Lv.word hasB
 split
 . rename_i hn;have hn:=of_decide_eq_true hn;have:=CE size n 8 65536 s0 s1 hn.1 (by omega)
   omega
 . omega
theorem lM{v:Lv}(h:v.Ok){k a b:Int}(k1:k<=13):0<=zC v k a b/\zC v k a b<=10000000:=by
 obtain ⟨WI,dM,qK,IT,GP,UX,XI,JT,fR,VX,KT,WX,MT,NT,OT,wL,YI,ZI⟩:=h;have h:v.Ok:=⟨WI,dM,qK,IT,GP,UX,XI,JT,fR,VX,KT,WX,MT,NT,OT,wL,YI,ZI⟩;unfold zC
 split
 . split
   . rename_i hb;unfold hasB at hb;have hb:=of_decide_eq_true hb;exact Vq h (by omega) KT (by omega) MT NT (by omega) (by omega)
   . omega
 . split
   . omega
   . split
     . split
       . rename_i hb;unfold hasB at hb;have hb:=of_decide_eq_true hb;omega
       . omega
     . split
       . exact Vq h (by omega) fR (by omega) (by omega) (by omega) (by omega) (by omega)
       . split
         . exact Vq h (by omega) fR (by omega) (by omega) (by omega) (by omega) (by omega)
         . rw [if_neg (by omega),if_neg (by omega)]
           split
           . unfold Lv.slot;exact Vq h (by omega) OT (by omega) (by omega) (by omega) (by omega) (by omega)
           . omega
theorem mM(c:Dc){k a b:Int}(k1:k<=13):0<=vt c k a b/\vt c k a b<=10000000:=by
 unfold vt
 split
 . rename_i h;exact lM h.ok k1
 . omega
open Classical in
def qm(c:Dc):Dc:=if Bg c then c else⟨1,1,1,1⟩
theorem GG(c:Dc):Bg (qm c):=by
 unfold qm
 split
 . assumption
 . constructor<;>decide
theorem nM{c:Dc}(h:Bg c):qm c=c:=by unfold qm;rw [if_pos h]
def Ui(A:Rv)(a:Int):Int:=if 0<=a/\a/8<(A.n:Int)then A.wr (a/8).toNat else 0
def jaq(op:Nat)(l:List (tc Gh)):Int:=
 match op,l with
 |64,[x]=>KA (Ha x)
 |65,[x]=>QH (Ha x)
 |66,[x]=>mh (Ha x)
 |67,[x]=>iv (Ha x)
 |68,[x]=>vK (Ha x)
 |69,[x]=>Nc 33 31 (Ha x)
 |70,[x]=>bN (Nc 32 1 (Ha x)==1)
 |71,[x]=>bN (vf (Ha x))
 |72,[x]=>Od (Ha x)
 |73,[x]=>Xa (Ha x)
 |74,[x,y]=>nh (Ha x) (Ha y)
 |75,[x,y]=>oh (Ha x) (Ha y)
 |76,[x,y]=>vq (Ha x) (Ha y)
 |77,[x,y,z]=>cellW (Ha x) (decide (Ha y≠0)) (Ha z)
 |80,[g,k,a,b]=>vt (Mj g).C (Ha k) (Ha a) (Ha b)
 |81,[g,i]=>Nj (Mj g).C (Ha i)
 |82,[g,k,x]=>FG (Mj g).C (Ha k) (Ha x)
 |90,[g,a]=>((Mj g).A.Ga (Ha a)).1
 |91,[g,a,o]=>bN (((Mj g).A.Ga (Ha a)).2&&((Mj g).A.Ga (Ha a)).1==Ha o)
 |92,[g]=>(Mj g).A.ck
 |93,[g,a]=>Ui (Mj g).A (Ha a)
 |95,[g,a]=>bN ((Mj g).A.Ga (Ha a)).2
 |96,[g]=>(Mj g).A.wm
 |97,[g,t,a]=>bN ((Mj g).A.Ka (Ha t) (Ha a)).la.dn
 |98,[g,t]=>bN ((Mj g).A.Oa (Ha t)).la.dn
 |_,_=>0
def Yj(op:Nat)(l:List (tc Gh)):Gh:=
 match op,l with
 |1,[g,t,a]=> .mem ((Mj g).A.load (Ha t) (Ha a))
 |2,[g,t,a,x]=> .mem ((Mj g).A.store (Ha t) (Ha a) (Ha x))
 |3,[g,t,a,o,x]=> .mem ((Mj g).A.swap (Ha t) (Ha a) (Ha o) (Ha x))
 |4,[g,t,a]=> .mem ((Mj g).A.Ka (Ha t) (Ha a))
 |5,[g,t]=> .mem ((Mj g).A.Oa (Ha t))
 |20,[g]=> .ref (Mj g).A
 |_,_=> .mem Vv
def Wv(k:Nat)(g:Gh):Gh:=
 match k with
 |9=> .mem g.A
 |10=> .ref g.A
 |11=> .lay (qm g.C)
 |_=>g
structure Wd(A:Rv):Prop where
 seen:∀k,cd (A.seen k)
 kept:∀k,cd (A.kept k)
 pass:∀k,cd (A.pass k)
 ak:0<=A.ck
 ck:A.ck<=2000000
 oM:0<=A.wm
 wm:A.wm<=2000000
structure od(R A:Rv):Prop where
 n:R.n=A.n
 nt:R.nt=A.nt
 np:R.np=A.np
 kept:R.kept=A.kept
 seen:R.seen=A.seen
 pass:R.pass=A.pass
 wr:R.wr=A.wr
 fl:R.fl=A.fl
 ck:R.ck=A.ck
 bd:R.bd=A.bd
 la:R.la=A.la
 wm:R.wm=A.wm
structure bg(M:Mv)(A:Rv):Prop where
 Lg:Alike M A
 wr:∀k,k<M.n->M.wr k=A.wr k
 wm:M.wm<=A.wm
def pM(g:Gh)(r:Nat)(O:Nat->Prop)(w:World):Prop:=
 match g with
 | .mem A=>∃M:Mv,Ba w M/\M.m=r/\O=M.own/\bg M A/\Wd A
 | .ref A=>∃R:Rv,ma w R/\R.m=r/\O=R.own/\od R A/\Wd A
 | .lay c=>Ac w r c.lv/\O=(fun k=>k=r)/\Bg c
theorem iJ(g:Gh)(r:Nat)(O:Nat->Prop)(w w':World)(h:pM g r O w)(hs:w.heap.size<=w'.heap.size)(hk:∀k,O k->w'.heap[k]?=w.heap[k]?):pM g r O w':=by
 cases g with
 |mem A=>obtain ⟨M,h1,h2,rfl,h4⟩:=h;exact ⟨M,h1.keep hk,h2,rfl,h4⟩
 |ref A=>obtain ⟨R,h1,h2,rfl,h4⟩:=h;exact ⟨R,h1.keep hk,h2,rfl,h4⟩
 |lay c=>obtain ⟨h1,rfl,h3⟩:=h;exact ⟨h1.keep (hk r rfl),rfl,h3⟩
def Th:si where
 G:=Gh
 U:=jaq
 V:=Yj
 W:=Wv
 W_W:=fun k g=>by
  by_cases h9:k=9
  . subst h9;rfl
  . by_cases h10:k=10
    . subst h10;rfl
    . by_cases h11:k=11
      . subst h11;show Gh.lay (qm (qm g.C))=Gh.lay (qm g.C);rw [nM (GG _)]
      . have:∀g,Wv k g=g:=fun g=>by unfold Wv;split<;>simp_all
        rw [this,this]
 gh:=pM
 gh_lt:=fun g r O w h k hk=>by
  cases g with
  |mem A=>obtain ⟨M,h1,h2,rfl,h4⟩:=h;exact h1.lt hk
  |ref A=>obtain ⟨R,h1,h2,rfl,h4⟩:=h;exact h1.lt hk
  |lay c=>obtain ⟨h1,rfl,h3⟩:=h;cases hk;exact h1.lt
 gh_own:=fun g r O w h=>by
  cases g with
  |mem A=>obtain ⟨M,h1,rfl,rfl,h4⟩:=h;exact .inl (by simp [Mv.blocks])
  |ref A=>obtain ⟨R,h1,rfl,rfl,h4⟩:=h;exact .inl (by simp [Rv.blocks])
  |lay c=>obtain ⟨h1,rfl,h3⟩:=h;rfl
 gh_keep:=iJ
end
end Sk
end Go.Proofs.YtfnkmolffhfpoaaGreat
