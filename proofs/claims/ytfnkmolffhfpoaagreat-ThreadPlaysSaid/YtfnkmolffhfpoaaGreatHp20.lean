/- -/
import Derived.Test.YtfnkmolffhfpoaaGreatHp18
import Derived.IntWalk
import Derived.Test.YtfnkmolffhfpoaaGreatHp19
import Derived.Test.YtfnkmolffhfpoaaGreatHp11
import Derived.Test.YtfnkmolffhfpoaaGreatHp16
import Derived.Test.YtfnkmolffhfpoaaGreatHp17
set_option linter.unusedVariables false
set_option linter.unusedSimpArgs false
set_option linter.unusedSectionVars false
namespace Go.Proofs.YtfnkmolffhfpoaaGreat
open Go.RowKit Go.BigFrame
def Lv.bucket(v:Lv)(n:Int):Int:=if hasB n v.bu then 40+n else v.ln*8
theorem Ik{n m:Int}(h:hasB n m=true):0<=n/\n<m:=by simpa [hasB]using h
theorem iB(l:Nat)(v:Lv)(n:Int)(w:World)(h:Nc w l v):Calls Tryz.prog 267 #[.pointer (some ⟨l,0,none⟩), .int .i64 n] w (Fc (.int .i64 (v.bucket n)) w):=by
 have HC:=Lib.hid fun w h=>Dn l v w h
 have HL:=Lib.hid fun w h=>Jo l v w h
 have HH:=Lib.hid fun w=>Ts n v.bu w
 have HW:=Lib.hid h;have HN:=Lib.hid fun w=>kr l 5 (by omega) (by omega) w
 have Vg:=h.ok;have b0:=Vg.UH;have b1:=Vg.Q4;have l0:=Vg.iP;have l1:=Vg.jP;have HE:Hid (v.bucket n=if hasB n v.bu then 40+n else v.ln*8):=Lib.hid rfl;have HY:Hid (hasB n v.bu=true->0<=n/\n<v.bu):=Lib.hid Ik;clear h Vg;generalize v.bucket n=r at*;generalize hasB n v.bu=y at*;cases y with
 |true=>
  obtain ⟨n0,n1⟩:=HY.out rfl;clear HY
  go_enter Tryz.func267,Tryz.ntmps267
  go_wp2_with fail
  refine (HC.out _ HW.out).mono ?_
  rintro e w1 ⟨rfl,hb⟩;have HB:=Lib.hid hb;clear hb
  go_wp2_with fail
  refine (HH.out _).mono ?_
  rintro e w2 ⟨rfl,rfl⟩
  go_wp2_with fail
  refine (HN.out _).mono ?_
  rintro e w2 ⟨rfl,rfl⟩
  go_wp2_with fail
  go_ret
  exact ⟨Ta (by rw [HE.out];simp),HB.out.alloc HB.out.size _⟩
 |false=>
  clear HY
  go_enter Tryz.func267,Tryz.ntmps267
  go_wp2_with fail
  refine (HC.out _ HW.out).mono ?_
  rintro e w1 ⟨rfl,hb⟩;have HB:=Lib.hid hb;clear hb
  go_wp2_with fail
  refine (HH.out _).mono ?_
  rintro e w2 ⟨rfl,rfl⟩
  go_wp2_with fail
  refine (HL.out _ (HW.out.keep ((HB.out.alloc HB.out.size _).block l HW.out.lt))).mono ?_
  rintro e w2 ⟨rfl,rfl⟩
  go_wp2_with fail
  go_ret
  exact ⟨Ta (by rw [HE.out];simp),HB.out.alloc HB.out.size _⟩
def Oj(a:Nat):Nat:=a*2654435769 %4294967296
def eT(a:Nat):Nat:=Oj a^^^(Oj a/65536)
theorem nD(a:Nat):Oj a<4294967296:=Nat.mod_lt _ (by decide)
theorem CL(a:Nat):eT a<4294967296:=by
 have h:=nD a;exact Nat.xor_lt_two_pow (n:=32) h (by have:=Nat.div_le_self (Oj a) 65536;omega)
theorem oD(x y:Nat)(hx:x<4294967296)(hy:y<4294967296):bits BinOp.xor IntKind.u32 (x:Int) (y:Int)=((x^^^y:Nat):Int):=by
 have h:x^^^y<4294967296:=Nat.xor_lt_two_pow (n:=32) hx hy;have e:(BitVec.ofNat 32 x^^^BitVec.ofNat 32 y).toNat=x^^^y:=by
  rw [BitVec.toNat_xor,BitVec.toNat_ofNat,BitVec.toNat_ofNat,Nat.mod_eq_of_lt hx,Nat.mod_eq_of_lt hy]
 simp only [bits,BitVec.ofInt_natCast]
 show IntKind.u32.wrap ((BitVec.ofNat 32 x^^^BitVec.ofNat 32 y).toNat:Int)=_
 rw [e,IntKind.wrap_u32];omega
def bg(a:Int):Int:=(eT a.toNat:Nat)
theorem pD(a:Int):0<=bg a:=by unfold bg;omega
theorem DL(a:Int):bg a<=4294967295:=by unfold bg;have:=CL a.toNat;omega
theorem pP(a:Int)(h0:0<=a):bits BinOp.xor IntKind.u32 (IntKind.u32.wrap (a*2654435769)) (IntKind.u32.wrap (a*2654435769)/65536)=bg a:=by
 obtain ⟨n,rfl⟩:=Int.eq_ofNat_of_zero_le h0;have e:IntKind.u32.wrap ((n:Int)*2654435769)=(Oj n:Nat):=by rw [IntKind.wrap_u32];unfold Oj;omega
 have e2:((Oj n:Nat):Int)/65536=(Oj n/65536:Nat):=by omega
 rw [e,e2,oD _ _ (nD n) (by have:=nD n;have:=Nat.div_le_self (Oj n) 65536;omega)];rfl
theorem vag(a:Int)(h0:0<=a)(w:World):Calls Tryz.prog 300 #[.int .u32 a] w (Gc (.int .u32 (bg a)) w):=by
 have HM:=Lib.hid (pP a h0)
 go_enter Tryz.func300,Tryz.ntmps300
 go_wp2_with fail
 go_ret
 exact ⟨Ta HM.out,rfl⟩
def Ef(a m:Int):Int:=bg a %m
theorem qP(a m:Int)(h0:0<=a)(m0:1<=m)(m1:m<=100000)(w:World):Calls Tryz.prog 268 #[.int .u32 a, .int .i64 m] w (Gc (.int .i64 (Ef a m)) w):=by
 have HM:=Lib.hid fun w=>vag a h0 w
 have i0:=pD a;have i1:=DL a;have HE:Hid (bg a %m=Ef a m):=Lib.hid rfl;have HE2:Hid ((bg a).tmod m=Ef a m):=Lib.hid (by rw [Int.tmod_eq_emod_of_nonneg i0];rfl);have HE3:Hid (wrap64 (bg a %m)=Ef a m):=Lib.hid (by
  have h1:=Int.emod_nonneg (bg a) (show m≠0 by omega);have h2:=Int.emod_lt_of_pos (bg a) (show 0<m by omega);exact (IntWalk.wrap64_in (bg a %m) (by omega)).trans rfl)
 have hd:decide (m<1)=false:=ua (by omega);generalize bg a=x at*;generalize Ef a m=r at*
 go_enter Tryz.func268,Tryz.ntmps268
 go_wp2_with fail
 refine (HM.out _).mono ?_
 rintro e w1 ⟨rfl,rfl⟩
 go_wp2_with fail
 go_ret
 exact ⟨Ta (by exact HE3.out),rfl⟩
theorem Cx(w:World)(a b:Nat):(w.drewN a).drewN b=w.drewN (a+b):=by unfold World.drewN;simp [Nat.add_assoc]
def Tb(x:Nm):List Nm->Nat->Option Nat
 |[],_=>none
 |y::t,i=>if y=x then some i else Tb x t (i+1)
theorem Vs(x:Nm):∀(l:List Nm) (k j:Nat),l[k]?=some x->(∀i,i<k->l[i]?≠some x)->Tb x l j=some (j+k)
 |[],k,j,h,_=>by simp at h
 |y::t,0,j,h,_=>by
  simp at h;unfold Tb;rw [if_pos h];rfl
 |y::t,k+1,j,h,hn=>by
  have h0:=hn 0 (by omega);simp at h0 h;unfold Tb;rw [if_neg h0,Vs x t k (j+1) h (fun i hi=>by have:=hn (i+1) (by omega);simpa using this)]
  congr 1;omega
theorem Lo(x:Nm):∀(l:List Nm) (j:Nat),(∀i,i<l.length->l[i]?≠some x)->Tb x l j=none
 |[],_,_=>rfl
 |y::t,j,hn=>by
  have h0:=hn 0 (by simp);simp at h0;unfold Tb;rw [if_neg h0];exact Lo x t (j+1) fun i hi=>by have:=hn (i+1) (by simp;omega);simpa using this
def EL(last pass:List Nm)(n:Nat)(x:Nm):Int:=
 match Tb x last 0 with
 |some i=>i
 |none=>match Tb x pass 0 with
  |some i=>-1 -(i:Int)
  |none=>n
def iY(th sl ib bu:Nat)(x:Nm):Int:=EL (Ud th sl ib bu) (Dg th sl) (Vd (40+bu)+8*th+Vd ib*th+8*sl) x
theorem FL:∀(l:List Nm) (k:Nat) (p:Nm),l[k]?=some p->(tE l)[k*3]?=some (.int .i64 p.1)/\(tE l)[k*3+1]?=some (.int .i64 p.2.1)/\(tE l)[k*3+2]?=some (.int .i64 p.2.2)
 |[],k,p,h=>by simp at h
 |y::t,0,p,h=>by
  simp at h;subst h;exact ⟨rfl,rfl,rfl⟩
 |y::t,k+1,p,h=>by
  have e:tE (y::t)=[.int .i64 y.1, .int .i64 y.2.1, .int .i64 y.2.2]++tE t:=rfl;have ih:=FL t k p (by simpa using h);rw [e];refine ⟨?_, ?_, ?_⟩
  . rw [List.getElem?_append_right (by simp;omega)];simp only [List.length_cons,List.length_nil];rw [show(k+1)*3 -(0+1+1+1)=k*3 by omega];exact ih.1
  . rw [List.getElem?_append_right (by simp;omega)];simp only [List.length_cons,List.length_nil];rw [show(k+1)*3+1 -(0+1+1+1)=k*3+1 by omega];exact ih.2.1
  . rw [List.getElem?_append_right (by simp;omega)];simp only [List.length_cons,List.length_nil];rw [show(k+1)*3+2 -(0+1+1+1)=k*3+2 by omega];exact ih.2.2
theorem eaq(p x:Nm)(w:World):(binOp .eql 154 (.agg #[.int .i64 p.1, .int .i64 p.2.1, .int .i64 p.2.2]) (.agg #[.int .i64 x.1, .int .i64 x.2.1, .int .i64 x.2.2])).run Tryz.prog w= .ok (.bool (decide (p=x))) w:=by
 obtain ⟨a,b,c⟩:=p;obtain ⟨a',b',c'⟩:=x
 go_simp
 by_cases h1:a=a'<;>by_cases h2:b=b'<;>by_cases h3:c=c'<;>simp [h1,h2,h3]
theorem qG{w:World}{B n:Nat}{v:Value}{l:List Nm}(h:w.ownsRow B 154 3 v n (tE l)):l.length=n/\∀k p,l[k]?=some p->∃g c,v= .slice (some ⟨g,0,none⟩) n c/\B<=g/\g<w.heap.size/\w.cell? ⟨g,k*3,none⟩=some (.int .i64 p.1)/\w.cell? ⟨g,k*3+1,none⟩=some (.int .i64 p.2.1)/\w.cell? ⟨g,k*3+2,none⟩=some (.int .i64 p.2.2):=by
 have e:l.length=n:=by have:=h.1;rw [BZ]at this;omega
 refine ⟨e,fun k p hk=> ?_⟩;have hkl:=(List.getElem?_eq_some_iff.1 hk).1
 obtain ⟨g,cap,c,rfl,hb,hg,h1,h2,h3⟩:=lh h (by omega);obtain ⟨n1,n2,n3⟩:=FL l k p hk;exact ⟨g,cap,rfl,hb,(Array.getElem?_eq_some_iff.1 hg).1,by rw [Wa hg,h3 _ (by omega)];exact n1,by rw [Wa hg,h3 _ (by omega)];exact n2,by rw [Wa hg,h3 _ (by omega)];exact n3⟩
set_option maxRecDepth 100000 in
set_option maxHeartbeats 4000000 in
theorem faq(th sl ib bu:Nat)(h1:th<=64)(h2:sl<=1000)(h3:ib<=64)(h4:bu<=64)(x:Nm)(W:World):
  Calls Tryz.prog 83 #[.agg #[.int .i64 (th:Int), .int .i64 (sl:Int), .int .i64 (ib:Int), .int .i64 (bu:Int)], .agg #[.int .i64 x.1, .int .i64 x.2.1, .int .i64 x.2.2]] W (Fc (.int .i64 (iY th sl ib bu x)) W):=by
 have HLA:=Lib.hid fun w=>Us th sl ib bu h1 (by omega) h3 h4 w
 have HPA:=Lib.hid fun w=>gB th sl (ib:Int) (bu:Int) h1 (by omega) w
 have HB:Hid (Vd (40+bu)+8*th+Vd ib*th+8*sl<=100000/\2+th+sl<=100000):=Lib.hid (by
  have:Vd ib*th<=72*64:=Nat.mul_le_mul (by unfold Vd;omega) h1;unfold Vd at*;omega)
 unfold iY;generalize Ud th sl ib bu=L1 at*;generalize Dg th sl=L2 at*;generalize Vd (40+bu)+8*th+Vd ib*th+8*sl=n1 at*;generalize 2+th+sl=n2 at*;have HEQ:=fun(p:Nm) (w:World)=>eaq p x w
 obtain ⟨W1,mg⟩:∃W1,W1=(W.alloc (.cells #[.int .i64 (th:Int), .int .i64 (sl:Int), .int .i64 (ib:Int), .int .i64 (bu:Int)] 23)).alloc (.cells #[.int .i64 x.1, .int .i64 x.2.1, .int .i64 x.2.2] 154):=⟨_,rfl⟩
 have XH:=Lib.hid mg;have Vh:Hid (Below W.heap.size W W1):=Lib.hid (by rw [mg];exact ((Below.refl _ _).alloc (Nat.le_refl _) _).alloc (by simp) _);have HC1:Hid (W1.heap[W.heap.size]?=some (.cells #[.int .i64 (th:Int), .int .i64 (sl:Int), .int .i64 (ib:Int), .int .i64 (bu:Int)] 23 (0,0))):=Lib.hid (by rw [mg,Below.heap_alloc _ _ _ (by simp)];exact heap_alloc_new _ _);have HN1:Hid (W1.heap[W.heap.size+1]?=some (.cells #[.int .i64 x.1, .int .i64 x.2.1, .int .i64 x.2.2] 154 (0,0))):=Lib.hid (by
  have:=heap_alloc_new (W.alloc (.cells #[.int .i64 (th:Int), .int .i64 (sl:Int), .int .i64 (ib:Int), .int .i64 (bu:Int)] 23)) (.cells #[.int .i64 x.1, .int .i64 x.2.1, .int .i64 x.2.2] 154);rw [World.size_alloc]at this;rw [mg];exact this)
 have HQ:Hid (∀w,Below W1.heap.size W1 w->(w.cell? ⟨W.heap.size,0,none⟩=some (.int .i64 (th:Int))/\w.cell? ⟨W.heap.size,1,none⟩=some (.int .i64 (sl:Int))/\w.cell? ⟨W.heap.size,2,none⟩=some (.int .i64 (ib:Int))/\w.cell? ⟨W.heap.size,3,none⟩=some (.int .i64 (bu:Int)))/\w.cell? ⟨W.heap.size+1,0,none⟩=some (.int .i64 x.1)/\w.cell? ⟨W.heap.size+1,1,none⟩=some (.int .i64 x.2.1)/\w.cell? ⟨W.heap.size+1,2,none⟩=some (.int .i64 x.2.2)):=Lib.hid fun w hb=>by
  have h:=(hb.block _ (zb HC1.out)).trans HC1.out
  have h':=(hb.block _ (zb HN1.out)).trans HN1.out
  exact ⟨⟨ma h 0 _ rfl,ma h 1 _ rfl,ma h 2 _ rfl,ma h 3 _ rfl⟩,ma h' 0 _ rfl,ma h' 1 _ rfl,ma h' 2 _ rfl⟩
 clear mg h1 h2 h3 h4
 go_enter Tryz.func83,Tryz.ntmps83
 go_wp2_with (go_at_call 41;refine (HLA.out _).mono ?_;rintro e w2 ⟨v2,rfl,hb,ho⟩;rw [<-XH.out]at hb ho;obtain ⟨va,vc,rfl⟩:=Xa ho;have B2:=Lib.hid hb;have O2:=Lib.hid ho;clear hb ho)
 obtain ⟨rG,iT⟩:=qG O2.out;have dY:=Lib.hid rG;have HE1:=Lib.hid iT;clear rG iT
 go_loopw [6] (fun i wr=>∃(k q:Nat),k<=n1/\i= .int .i64 k/\wr=w2.drewN q/\Hid (∀i,i<k->L1[i]?≠some x)) (fun i _=>n1 -(intOf i).toNat)
 case atStart=>exact ⟨0,0,Nat.zero_le _,rfl,rfl,Lib.hid (fun i hi=>absurd hi (Nat.not_lt_zero _))⟩
 case round=>
  obtain ⟨k,q,hk,rfl,rfl,GL⟩:=hrel;have HBQ:=Lib.hid (B2.out.trans ((xb (Below.refl _ w2) q).mono B2.out.size));by_cases Db:k<n1
  . have d1:decide ((k:Int)<(n1:Int))=true:=ga (by omega);have d2:decide (k<n1)=true:=ga Db;have ui:=Lib.hid Db;obtain ⟨p,hp⟩:∃p,L1[k]?=some p:=⟨_,List.getElem?_eq_getElem (by have:=dY.out;omega)⟩
    obtain ⟨g,gc,ev,-,hgl,c1,c2,c3⟩:=HE1.out k p hp;cases ev;have HP:=Lib.hid hp;obtain ⟨-,m0,m1,m2⟩:=HQ.out _ B2.out;have i0:(0:Int)<=(k:Int):=by omega
    have i1:(k:Int)<(n1:Int):=by omega
    clear hp hgl Db hk;by_cases rP:p=x
    . have de:decide (p=x)=true:=ga rP;have HPX:=Lib.hid rP;clear rP
      go_wp2_with fail
      go_quiet (fail)
      go_wp2_with fail
      go_ret
      have e:EL L1 L2 n1 x=(k:Int):=by
       unfold EL;rw [Vs x L1 k 0 (by rw [HP.out,HPX.out]) GL.out,Nat.zero_add]
      exact ⟨by rw [e];rfl,Vh.out.trans ((HBQ.out.trans ((xb (Below.refl _ _) nq).mono HBQ.out.size)).mono Vh.out.size)⟩
    . have de:decide (p=x)=false:=ua rP;have HPX:=Lib.hid rP;clear rP
      go_wp2_with fail
      go_quiet (fail)
      go_wp2_with fail
      go_roundw
      case rel=>
       have hw:wrap64 ((k:Int)+1)=(k:Int)+1:=by have:=ui.out;have:=HB.out;unfold wrap64;omega
       refine ⟨k+1,q+nq,by have:=ui.out;omega,by rw [hw];go_num,by first|rfl|exact Cx _ _ _,Lib.hid fun i hi=> ?_⟩;by_cases hik:i=k
       . subst hik;rw [HP.out];intro e;cases e;exact HPX.out rfl
       . exact GL.out i (by omega)
      case measure=>
       have hw:wrap64 ((k:Int)+1)=(k:Int)+1:=by have:=ui.out;have:=HB.out;unfold wrap64;omega
       rw [hw];have h:=ui.out;have e1:(intOf (.int .i64 ((k:Int)+1))).toNat=k+1:=by show((k:Int)+1).toNat=k+1;omega
       have e2:(intOf (.int .i64 (k:Int))).toNat=k:=by show((k:Int)).toNat=k;omega
       rw [e1,e2];exact Nat.sub_lt_sub_left h (Nat.lt_succ_self k)
  . obtain rfl:k=n1:=by omega
    have d1:decide ((k:Int)<(k:Int))=false:=by simp
    have d2:decide (k<k)=false:=by simp
    have lG:Hid (Tb x L1 0=none):=Lib.hid (Lo x L1 0 fun i hi=>GL.out i (by have:=dY.out;omega));obtain ⟨⟨q0,q1,q2,q3⟩,-⟩:=HQ.out _ B2.out;clear Db hk GL HE1 HLA
    go_wp2_with (go_at_call 42;refine (HPA.out _).mono ?_;rintro e w4 ⟨v4,rfl,hb,ho⟩;obtain ⟨vd,ve,rfl⟩:=Xa ho;have B4:=Lib.hid (HBQ.out.trans (hb.mono HBQ.out.size));have O4:=Lib.hid ho;clear hb ho q0 q1 q2 q3)
    obtain ⟨rG,iT⟩:=qG O4.out;have MO:=Lib.hid rG;have HE2:=Lib.hid iT;clear rG iT HPA d1 d2
    go_loopw [8] (fun i wr=>∃(j q:Nat),j<=n2/\i= .int .i64 j/\wr=w4.drewN q/\Hid (∀i,i<j->L2[i]?≠some x)) (fun i _=>n2 -(intOf i).toNat)
    case atStart=>exact ⟨0,0,Nat.zero_le _,rfl,rfl,Lib.hid (fun i hi=>absurd hi (Nat.not_lt_zero _))⟩
    case round=>
     obtain ⟨j,q',hj,rfl,rfl,GL⟩:=hrel;have WaI:=Lib.hid (B4.out.trans ((xb (Below.refl _ w4) q').mono B4.out.size));by_cases Db:j<n2
     . have d1:decide ((j:Int)<(n2:Int))=true:=ga (by omega);have d2:decide (j<n2)=true:=ga Db;have ui:=Lib.hid Db;obtain ⟨p,hp⟩:∃p,L2[j]?=some p:=⟨_,List.getElem?_eq_getElem (by have:=MO.out;omega)⟩
       obtain ⟨g,gc,ev,-,hgl,c1,c2,c3⟩:=HE2.out j p hp;cases ev;have HP:=Lib.hid hp;obtain ⟨-,m0,m1,m2⟩:=HQ.out _ B4.out;have i0:(0:Int)<=(j:Int):=by omega
       have i1:(j:Int)<(n2:Int):=by omega
       clear hp hgl Db hj;by_cases rP:p=x
       . have de:decide (p=x)=true:=ga rP;have HPX:=Lib.hid rP;clear rP
         go_wp2_with fail
         go_quiet (fail)
         go_wp2_with fail
         have hw:wrap64 (-1 -(j:Int))=-1 -(j:Int):=by have:=ui.out;have:=HB.out;unfold wrap64;omega
         go_ret
         have e:EL L1 L2 k x=-1 -(j:Int):=by
          unfold EL;rw [lG.out];simp only;rw [Vs x L2 j 0 (by rw [HP.out,HPX.out]) GL.out,Nat.zero_add]
         exact ⟨by rw [e];first|rfl|(simp [hw];done)|(congr 1),Vh.out.trans ((B4.out.trans ((xb (Below.refl _ w4) _).mono B4.out.size)).mono Vh.out.size)⟩
       . have de:decide (p=x)=false:=ua rP;have HPX:=Lib.hid rP;clear rP
         go_wp2_with fail
         go_quiet (fail)
         go_wp2_with fail
         go_roundw
         case rel=>
          have hw:wrap64 ((j:Int)+1)=(j:Int)+1:=by have:=ui.out;have:=HB.out;unfold wrap64;omega
          refine ⟨j+1,q'+nq,by have:=ui.out;omega,by rw [hw];go_num,by first|rfl|exact Cx _ _ _,Lib.hid fun i hi=> ?_⟩;by_cases hik:i=j
          . subst hik;rw [HP.out];intro e;cases e;exact HPX.out rfl
          . exact GL.out i (by omega)
         case measure=>
          have hw:wrap64 ((j:Int)+1)=(j:Int)+1:=by have:=ui.out;have:=HB.out;unfold wrap64;omega
          rw [hw];have h:=ui.out;have e1:(intOf (.int .i64 ((j:Int)+1))).toNat=j+1:=by show((j:Int)+1).toNat=j+1;omega
          have e2:(intOf (.int .i64 (j:Int))).toNat=j:=by show((j:Int)).toNat=j;omega
          rw [e1,e2];exact Nat.sub_lt_sub_left h (Nat.lt_succ_self j)
     . obtain rfl:j=n2:=by omega
       have d1:decide ((j:Int)<(j:Int))=false:=by simp
       have d2:decide (j<j)=false:=by simp
       have Y4:Hid (Tb x L2 0=none):=Lib.hid (Lo x L2 0 fun i hi=>GL.out i (by have:=MO.out;omega));clear Db hj GL HE2
       go_wp2_with fail
       go_ret
       have e:EL L1 L2 k x=(k:Int):=by
        unfold EL;rw [lG.out];simp only;rw [Y4.out]
       exact ⟨by rw [e];rfl,Vh.out.trans (WaI.out.mono Vh.out.size)⟩
theorem CZ(a b c d:Value)(w:World):(Instr.field 23 (.agg #[a,b,c,d]) 3).run Tryz.prog w= .ok d w:=by kernel_rfl
theorem zag(l:Nat)(w:World):Calls Tryz.prog 266 #[.pointer (some ⟨l,0,none⟩)] w (Gc (.int .i64 32) w):=by
 have HN:=Lib.hid fun w=>kr l 4 (by omega) (by omega) w
 go_enter Tryz.func266,Tryz.ntmps266
 go_wp2_with fail
 refine (HN.out _).mono ?_
 rintro e w2 ⟨rfl,rfl⟩
 go_wp2_with fail
 go_ret
 exact ⟨Ta (by simp),rfl⟩
def Lv.hd(v:Lv)(k x:Int):Int:=if k=3 then 32 else if k=4 then 32 else if k=5 then 32 else if k=6 then v.bucket (Ef x v.bu)else if k=7 then v.bucket (Ef x v.bu)else if k=8 then v.bucket (Ef x v.bu)else v.ln*8
theorem DZ(l:Nat)(v:Lv)(k x:Int)(y:Value)(h0:0<=x)(b0:1<=v.bu)(w:World)(h:Nc w l v):Calls Tryz.prog 185 #[.pointer (some ⟨l,0,none⟩), .agg #[.int .i64 k, .int .u32 x,y]] w (Fc (.int .i64 (v.hd k x)) w):=by
 have HC:=Lib.hid fun w h=>Dn l v w h
 have HL:=Lib.hid fun w h=>Jo l v w h
 have HS:=Lib.hid fun w=>zag l w
 have HB:=Lib.hid fun w h=>iB l v (Ef x v.bu) w h
 have HW:=Lib.hid h;have Vg:=h.ok;have b1:=Vg.Q4;have l0:=Vg.iP;have l1:=Vg.jP;have HK:=Lib.hid fun w=>qP x v.bu h0 b0 (by omega) w
 have HE:Hid (v.hd k x=if k=3 then 32 else if k=4 then 32 else if k=5 then 32 else if k=6 then v.bucket (Ef x v.bu)else if k=7 then v.bucket (Ef x v.bu)else if k=8 then v.bucket (Ef x v.bu)else v.ln*8):=Lib.hid rfl;have HP:Hid (∀W1,W1=w.alloc (.cells #[.int .i64 k, .int .u32 x,y] 29)->W1.cell? ⟨w.heap.size,1,none⟩=some (.int .u32 x)/\Nc W1 l v/\Below w.heap.size w W1/\∀w2,Below W1.heap.size W1 w2->w2.cell? ⟨w.heap.size,1,none⟩=some (.int .u32 x)/\Nc w2 l v/\Below w.heap.size w w2):=Lib.hid fun W1 e=>by
  have hb:Below w.heap.size w W1:=by rw [e];exact (Below.refl _ w).alloc (Nat.le_refl _) _
  have hs:w.heap.size<W1.heap.size:=by rw [e];simp
  have hc:W1.cell? ⟨w.heap.size,1,none⟩=some (.int .u32 x):=by
   rw [e,cell_of_row _ _ 1 _ _ _ (heap_alloc_new w _)];rfl
  have key:∀w2,Below w.heap.size w w2->Nc w2 l v:=fun w2 Uj=>h.keep (Uj.block l h.lt)
  refine ⟨hc,key _ hb,hb,fun w2 Uj=>⟨?_,key _ (hb.trans (Uj.mono (Nat.le_of_lt hs))),hb.trans (Uj.mono (Nat.le_of_lt hs))⟩⟩;have e2:=Uj.block w.heap.size hs;unfold World.cell? at hc⊢;simp only at hc⊢;rw [e2];exact hc
 have rL:=fun(a b c d:Value) (w:World)=>CZ a b c d w
 clear h Vg;generalize v.hd k x=r at*;generalize Ef x v.bu=n at*;generalize v.bucket n=q at*;by_cases k3:k=3
 . subst k3
   go_enter Tryz.func185,Tryz.ntmps185
   go_wp2_with fail
   refine (HS.out _).mono ?_
   rintro e w1 ⟨rfl,rfl⟩
   go_wp2_with fail
   go_ret
   exact ⟨Ta (by rw [HE.out];simp),(Below.refl _ _).alloc (Nat.le_refl _) _⟩
 by_cases k4:k=4
 . subst k4
   go_enter Tryz.func185,Tryz.ntmps185
   go_wp2_with fail
   refine (HS.out _).mono ?_
   rintro e w1 ⟨rfl,rfl⟩
   go_wp2_with fail
   go_ret
   exact ⟨Ta (by rw [HE.out];simp),(Below.refl _ _).alloc (Nat.le_refl _) _⟩
 by_cases k5:k=5
 . subst k5
   go_enter Tryz.func185,Tryz.ntmps185
   go_wp2_with fail
   refine (HS.out _).mono ?_
   rintro e w1 ⟨rfl,rfl⟩
   go_wp2_with fail
   go_ret
   exact ⟨Ta (by rw [HE.out];simp),(Below.refl _ _).alloc (Nat.le_refl _) _⟩
 by_cases k6:k=6
 . subst k6
   go_enter Tryz.func185,Tryz.ntmps185
   go_wp2_with fail
   obtain ⟨W1,mg⟩:∃W1,W1=w.alloc (.cells #[.int .i64 6, .int .u32 x,y] 29):=⟨_,rfl⟩;rw [<-mg];obtain ⟨c1,hl,tv,hk⟩:=HP.out W1 mg;have dY:=Lib.hid hl;have lA:=Lib.hid hk;clear hl tv hk mg HP
   go_region_held3 (fun w'=>w'.cell? ⟨w.heap.size,1,none⟩=some (.int .u32 x)) (go_keep) (first
    |(go_at_call 240;refine (HC.out _ (lA.out _ (Below.refl _ _).drew).2.1).mono ?_;rintro e w2 ⟨rfl,hb⟩;obtain ⟨c2,hl,tv⟩:=lA.out _ (((Below.refl _ W1).drew).trans hb);have MO:=Lib.hid hl;have Iz:=Lib.hid (((Below.refl _ W1).drew).trans hb);clear hl tv hb c1)
    |(go_at_call 268;refine (HK.out _).mono ?_;rintro e w3 ⟨rfl,rfl⟩)
    |(go_at_call 267;refine (HB.out _ MO.out).mono ?_;rintro e w4 ⟨rfl,hb⟩;obtain ⟨c4,-,tv⟩:=lA.out _ (Iz.out.trans (hb.mono Iz.out.size));have HBB:=Lib.hid tv;clear hb tv c2))
   all_goals
    go_wp2_with fail
    go_ret
    exact ⟨Ta (by rw [HE.out];simp),HBB.out⟩
 by_cases k7:k=7
 . subst k7
   go_enter Tryz.func185,Tryz.ntmps185
   go_wp2_with fail
   obtain ⟨W1,mg⟩:∃W1,W1=w.alloc (.cells #[.int .i64 7, .int .u32 x,y] 29):=⟨_,rfl⟩;rw [<-mg];obtain ⟨c1,hl,tv,hk⟩:=HP.out W1 mg;have dY:=Lib.hid hl;have lA:=Lib.hid hk;clear hl tv hk mg HP
   go_region_held3 (fun w'=>w'.cell? ⟨w.heap.size,1,none⟩=some (.int .u32 x)) (go_keep) (first
    |(go_at_call 240;refine (HC.out _ (lA.out _ (Below.refl _ _).drew).2.1).mono ?_;rintro e w2 ⟨rfl,hb⟩;obtain ⟨c2,hl,tv⟩:=lA.out _ (((Below.refl _ W1).drew).trans hb);have MO:=Lib.hid hl;have Iz:=Lib.hid (((Below.refl _ W1).drew).trans hb);clear hl tv hb c1)
    |(go_at_call 268;refine (HK.out _).mono ?_;rintro e w3 ⟨rfl,rfl⟩)
    |(go_at_call 267;refine (HB.out _ MO.out).mono ?_;rintro e w4 ⟨rfl,hb⟩;obtain ⟨c4,-,tv⟩:=lA.out _ (Iz.out.trans (hb.mono Iz.out.size));have HBB:=Lib.hid tv;clear hb tv c2))
   all_goals
    go_wp2_with fail
    go_ret
    exact ⟨Ta (by rw [HE.out];simp),HBB.out⟩
 by_cases k8:k=8
 . subst k8
   go_enter Tryz.func185,Tryz.ntmps185
   go_wp2_with fail
   obtain ⟨W1,mg⟩:∃W1,W1=w.alloc (.cells #[.int .i64 8, .int .u32 x,y] 29):=⟨_,rfl⟩;rw [<-mg];obtain ⟨c1,hl,tv,hk⟩:=HP.out W1 mg;have dY:=Lib.hid hl;have lA:=Lib.hid hk;clear hl tv hk mg HP
   go_region_held3 (fun w'=>w'.cell? ⟨w.heap.size,1,none⟩=some (.int .u32 x)) (go_keep) (first
    |(go_at_call 240;refine (HC.out _ (lA.out _ (Below.refl _ _).drew).2.1).mono ?_;rintro e w2 ⟨rfl,hb⟩;obtain ⟨c2,hl,tv⟩:=lA.out _ (((Below.refl _ W1).drew).trans hb);have MO:=Lib.hid hl;have Iz:=Lib.hid (((Below.refl _ W1).drew).trans hb);clear hl tv hb c1)
    |(go_at_call 268;refine (HK.out _).mono ?_;rintro e w3 ⟨rfl,rfl⟩)
    |(go_at_call 267;refine (HB.out _ MO.out).mono ?_;rintro e w4 ⟨rfl,hb⟩;obtain ⟨c4,-,tv⟩:=lA.out _ (Iz.out.trans (hb.mono Iz.out.size));have HBB:=Lib.hid tv;clear hb tv c2))
   all_goals
    go_wp2_with fail
    go_ret
    exact ⟨Ta (by rw [HE.out];simp),HBB.out⟩
 go_enter Tryz.func185,Tryz.ntmps185
 go_wp2_with fail
 obtain ⟨W1,mg⟩:∃W1,W1=w.alloc (.cells #[.int .i64 k, .int .u32 x,y] 29):=⟨_,rfl⟩;rw [<-mg];obtain ⟨c1,hl,tv,hk⟩:=HP.out W1 mg;refine (HL.out _ hl).mono ?_
 rintro e w2 ⟨rfl,rfl⟩
 go_wp2_with fail
 go_ret
 exact ⟨Ta (by rw [HE.out];simp [k3,k4,k5,k6,k7,k8]),by rw [<-mg];exact tv⟩
end Go.Proofs.YtfnkmolffhfpoaaGreat
namespace Go.Proofs.YtfnkmolffhfpoaaGreat
namespace Sk
open Go.RowKit
noncomputable section
inductive Gh where
 |mem(A:Rv)
 |ref(A:Rv)
 |lay(c:Xc)
def jT:Rv:=⟨0,0,0,0,0,0,0,0,0,0,0,0,0,0,0,fun _=>0,fun _=>0,fun _=>0,fun _=>0,fun _=>0,fun _=>0,fun _ _=>false,0,0,⟨0,0,0,0,0,false⟩,0⟩
def Gh.A:Gh->Rv
 | .mem A=>A
 | .ref A=>A
 | .lay _=>jT
def Gh.C:Gh->Xc
 | .lay c=>c
 |_=>⟨0,0,0,0⟩
def Wl:Tc Gh->Gh
 | .g g=>g
 | .v _=> .mem jT
def bN(b:Bool):Int:=if b then 1 else 0
def dj(c:Xc)(i:Int):Int:=if i=0 then c.th else if i=1 then c.sl else if i=2 then c.lo else c.bu
structure Xh(c:Xc):Prop where
 gJ:1<=c.th
 th:c.th<=64
 gP:1<=c.sl
 sl:c.sl<=1000
 TQ:1<=c.lo
 lo:c.lo<=64
 UH:1<=c.bu
 bu:c.bu<=64
def jB(v:Lv)(k a b:Int):Int:=
 if k=8 then(if hasB b v.lo then v.word a v.th v.pl v.ls b else v.ln*8)
 else if b≠0 then v.ln*8
 else if k=5 then(if hasB a v.bu then 40+a else v.ln*8)
 else if k=6 then v.word a v.th v.pt 1 0
 else if k=7 then v.word a v.th v.pt 1 1
 else if k=16 then(if hasB a v.th then-3 -a else v.ln*8)
 else if k=17 then(if hasB a v.sl then-3 -v.th -a else v.ln*8)
 else if 9<=k/\k<=13 then v.slot a (k -9)else 0
open Classical in
def Ex(c:Xc)(k a b:Int):Int:=if Xh c then jB c.lv k a b else 0
open Classical in
def IL(c:Xc)(k x:Int):Int:=if Xh c then c.lv.hd k x else 0
theorem Xh.ok{c:Xc}(h:Xh c):c.lv.Ok:=Xc.V4 c ⟨h.gJ,h.th,h.gP,by have:=h.sl;omega,h.TQ,h.lo,h.UH,h.bu⟩
theorem uv{v:Lv}(h:v.Ok){n many first size at_:Int}(hm:many<=65536)(f0:0<=first)(f1:first<=1000)(s0:0<=size)(s1:size<=8)(a0:0<=at_)(a1:at_<=100):0<=v.word n many first size at_/\v.word n many first size at_<=10000000:=by
 have l0:=h.iP;have l1:=h.jP;unfold Lv.word hasB
 split
 . rename_i hn;have hn:=of_decide_eq_true hn;have:=kJ size n 8 65536 s0 s1 hn.1 (by omega)
   omega
 . omega
theorem kT{v:Lv}(h:v.Ok){k a b:Int}(k1:k<=13):0<=jB v k a b/\jB v k a b<=10000000:=by
 obtain ⟨gJ,YS,gP,P4,TQ,lo1,UH,Q4,zZ,pt1,R4,pl1,S4,T4,U4,bS,iP,jP⟩:=h;have h:v.Ok:=⟨gJ,YS,gP,P4,TQ,lo1,UH,Q4,zZ,pt1,R4,pl1,S4,T4,U4,bS,iP,jP⟩;unfold jB
 split
 . split
   . rename_i hb;unfold hasB at hb;have hb:=of_decide_eq_true hb;exact uv h (by omega) R4 (by omega) S4 T4 (by omega) (by omega)
   . omega
 . split
   . omega
   . split
     . split
       . rename_i hb;unfold hasB at hb;have hb:=of_decide_eq_true hb;omega
       . omega
     . split
       . exact uv h (by omega) zZ (by omega) (by omega) (by omega) (by omega) (by omega)
       . split
         . exact uv h (by omega) zZ (by omega) (by omega) (by omega) (by omega) (by omega)
         . rw [if_neg (by omega),if_neg (by omega)]
           split
           . unfold Lv.slot;exact uv h (by omega) U4 (by omega) (by omega) (by omega) (by omega) (by omega)
           . omega
theorem lT(c:Xc){k a b:Int}(k1:k<=13):0<=Ex c k a b/\Ex c k a b<=10000000:=by
 unfold Ex
 split
 . rename_i h;exact kT h.ok k1
 . omega
open Classical in
def Cn(c:Xc):Xc:=if Xh c then c else⟨1,1,1,1⟩
theorem JL(c:Xc):Xh (Cn c):=by
 unfold Cn
 split
 . assumption
 . constructor<;>decide
theorem mT{c:Xc}(h:Xh c):Cn c=c:=by unfold Cn;rw [if_pos h]
def Jk(A:Rv)(a:Int):Int:=if 0<=a/\a/8<(A.n:Int)then A.wr (a/8).toNat else 0
def XaI(op:Nat)(l:List (Tc Gh)):Int:=
 match op,l with
 |64,[x]=>ZF (Oa x)
 |65,[x]=>aP (Oa x)
 |66,[x]=>Zi (Oa x)
 |67,[x]=>jA (Oa x)
 |68,[x]=>QS (Oa x)
 |69,[x]=>Ed 33 31 (Oa x)
 |70,[x]=>bN (Ed 32 1 (Oa x)==1)
 |71,[x]=>bN (vg (Oa x))
 |72,[x]=>ze (Oa x)
 |73,[x]=>yb (Oa x)
 |74,[x,y]=>aj (Oa x) (Oa y)
 |75,[x,y]=>bj (Oa x) (Oa y)
 |76,[x,y]=>Qu (Oa x) (Oa y)
 |77,[x,y,z]=>cellW (Oa x) (decide (Oa y≠0)) (Oa z)
 |80,[g,k,a,b]=>Ex (Wl g).C (Oa k) (Oa a) (Oa b)
 |81,[g,i]=>dj (Wl g).C (Oa i)
 |82,[g,k,x]=>IL (Wl g).C (Oa k) (Oa x)
 |90,[g,a]=>((Wl g).A.Ua (Oa a)).1
 |91,[g,a,o]=>bN (((Wl g).A.Ua (Oa a)).2&&((Wl g).A.Ua (Oa a)).1==Oa o)
 |92,[g]=>(Wl g).A.ck
 |93,[g,a]=>Jk (Wl g).A (Oa a)
 |95,[g,a]=>bN ((Wl g).A.Ua (Oa a)).2
 |96,[g]=>(Wl g).A.wm
 |97,[g,t,a]=>bN ((Wl g).A.Ka (Oa t) (Oa a)).la.dn
 |98,[g,t]=>bN ((Wl g).A.Ma (Oa t)).la.dn
 |_,_=>0
def Dm(op:Nat)(l:List (Tc Gh)):Gh:=
 match op,l with
 |1,[g,t,a]=> .mem ((Wl g).A.load (Oa t) (Oa a))
 |2,[g,t,a,x]=> .mem ((Wl g).A.store (Oa t) (Oa a) (Oa x))
 |3,[g,t,a,o,x]=> .mem ((Wl g).A.swap (Oa t) (Oa a) (Oa o) (Oa x))
 |4,[g,t,a]=> .mem ((Wl g).A.Ka (Oa t) (Oa a))
 |5,[g,t]=> .mem ((Wl g).A.Ma (Oa t))
 |20,[g]=> .ref (Wl g).A
 |_,_=> .mem jT
def Ru(k:Nat)(g:Gh):Gh:=
 match k with
 |9=> .mem g.A
 |10=> .ref g.A
 |11=> .lay (Cn g.C)
 |_=>g
structure Wd(A:Rv):Prop where
 seen:∀k,ud (A.seen k)
 kept:∀k,ud (A.kept k)
 pass:∀k,ud (A.pass k)
 Cm:0<=A.ck
 ck:A.ck<=2000000
 WQ:0<=A.wm
 wm:A.wm<=2000000
structure Rb(R A:Rv):Prop where
 n:R.n=A.n
 nt:R.nt=A.nt
 np:R.np=A.np
 kept:R.kept=A.kept
 seen:R.seen=A.seen
 pass:R.pass=A.pass
 wr:R.wr=A.wr
 fl:R.fl=A.fl
 ck:R.ck=A.ck
 bd:R.bd=A.bd
 la:R.la=A.la
 wm:R.wm=A.wm
structure jd(M:Mv)(A:Rv):Prop where
 Md:Alike M A
 wr:∀k,k<M.n->M.wr k=A.wr k
 wm:M.wm<=A.wm
def nT(g:Gh)(r:Nat)(O:Nat->Prop)(w:World):Prop:=
 match g with
 | .mem A=>∃M:Mv,Ga w M/\M.m=r/\O=M.own/\jd M A/\Wd A
 | .ref A=>∃R:Rv,za w R/\R.m=r/\O=R.own/\Rb R A/\Wd A
 | .lay c=>Nc w r c.lv/\O=(fun k=>k=r)/\Xh c
theorem sP(g:Gh)(r:Nat)(O:Nat->Prop)(w w':World)(h:nT g r O w)(hs:w.heap.size<=w'.heap.size)(hk:∀k,O k->w'.heap[k]?=w.heap[k]?):nT g r O w':=by
 cases g with
 |mem A=>obtain ⟨M,h1,h2,rfl,h4⟩:=h;exact ⟨M,h1.keep hk,h2,rfl,h4⟩
 |ref A=>obtain ⟨R,h1,h2,rfl,h4⟩:=h;exact ⟨R,h1.keep hk,h2,rfl,h4⟩
 |lay c=>obtain ⟨h1,rfl,h3⟩:=h;exact ⟨h1.keep (hk r rfl),rfl,h3⟩
def Th:Kj where
 G:=Gh
 U:=XaI
 V:=Dm
 W:=Ru
 W_W:=fun k g=>by
  by_cases h9:k=9
  . subst h9;rfl
  . by_cases h10:k=10
    . subst h10;rfl
    . by_cases h11:k=11
      . subst h11;show Gh.lay (Cn (Cn g.C))=Gh.lay (Cn g.C);rw [mT (JL _)]
      . have:∀g,Ru k g=g:=fun g=>by unfold Ru;split<;>simp_all
        rw [this,this]
 gh:=nT
 gh_lt:=fun g r O w h k hk=>by
  cases g with
  |mem A=>obtain ⟨M,h1,h2,rfl,h4⟩:=h;exact h1.lt hk
  |ref A=>obtain ⟨R,h1,h2,rfl,h4⟩:=h;exact h1.lt hk
  |lay c=>obtain ⟨h1,rfl,h3⟩:=h;cases hk;exact h1.lt
 gh_own:=fun g r O w h=>by
  cases g with
  |mem A=>obtain ⟨M,h1,rfl,rfl,h4⟩:=h;exact .inl (by simp [Mv.blocks])
  |ref A=>obtain ⟨R,h1,rfl,rfl,h4⟩:=h;exact .inl (by simp [Rv.blocks])
  |lay c=>obtain ⟨h1,rfl,h3⟩:=h;rfl
 gh_keep:=sP
end
class Wc [Interp]:Prop where
 wTo:∀x:Value,Interp.U 64 [.v x]=ZF (Oa (.v x:Tc Interp.G))
 wBy:∀x:Value,Interp.U 65 [.v x]=aP (Oa (.v x:Tc Interp.G))
 Aag:∀x:Value,Interp.U 66 [.v x]=Zi (Oa (.v x:Tc Interp.G))
 YaI:∀x:Value,Interp.U 67 [.v x]=jA (Oa (.v x:Tc Interp.G))
 ZaI:∀x:Value,Interp.U 68 [.v x]=QS (Oa (.v x:Tc Interp.G))
 aaJ:∀x:Value,Interp.U 69 [.v x]=Ed 33 31 (Oa (.v x:Tc Interp.G))
 iaq:∀x:Value,Interp.U 70 [.v x]=bN (Ed 32 1 (Oa (.v x:Tc Interp.G))==1)
 Bag:∀x:Value,Interp.U 71 [.v x]=bN (vg (Oa (.v x:Tc Interp.G)))
 Cag:∀x:Value,Interp.U 72 [.v x]=ze (Oa (.v x:Tc Interp.G))
 jaq:∀x:Value,Interp.U 73 [.v x]=yb (Oa (.v x:Tc Interp.G))
 kaq:∀x y:Value,Interp.U 74 [.v x, .v y]=aj (Oa (.v x:Tc Interp.G)) (Oa (.v y:Tc Interp.G))
 Dag:∀x y:Value,Interp.U 75 [.v x, .v y]=bj (Oa (.v x:Tc Interp.G)) (Oa (.v y:Tc Interp.G))
 baJ:∀x y:Value,Interp.U 76 [.v x, .v y]=Qu (Oa (.v x:Tc Interp.G)) (Oa (.v y:Tc Interp.G))
 laq:∀x y z:Value,Interp.U 77 [.v x, .v y, .v z]=cellW (Oa (.v x:Tc Interp.G)) (decide (Oa (.v y:Tc Interp.G)≠0)) (Oa (.v z:Tc Interp.G))
 at_:∀(g:Tc Interp.G) (k a b:Value),Oa (.v k:Tc Interp.G)<=13->0<=Oa (.v k:Tc Interp.G)->0<=Interp.U 80 [g, .v k, .v a, .v b]/\Interp.U 80 [g, .v k, .v a, .v b]<=9223372036854775807
section
variable[Interp]
theorem Oc{t:Nat}{v:Value}{l:List Value}(h:Sf t v=some l):den v=den (sy t l)/\Bm v=true:=by
 unfold Sf at h
 split at h
 . rename_i u s l' c
   split at h
   . rename_i hb;rw [Va]at hb;have:=of_decide_eq_true hb;subst this;cases h;exact ⟨rfl,rfl⟩
   . cases h
 . cases h
theorem oT{t:Nat}{v:Value}{l:List Value}(h:Sf t v=some l):∃s c,v= .func (.methodOf t s) ⟨l⟩ c:=by
 unfold Sf at h
 split at h
 . rename_i u s l' c
   split at h
   . rename_i hb;rw [Va]at hb;have:=of_decide_eq_true hb;subst this;cases h;exact ⟨_,_,rfl⟩
   . cases h
 . cases h
def In(k:Nat)(v:Value)(n:Int):Prop:=∃q,Hc q=k/\den v= .v (.int q n)/\q.wrap n=n
theorem Dj{k:Nat}{v:Value}(h:tc k v=true)(hk:k<=7):∃n,In k v n/\Wf v=some k:=by
 cases v with
 |int q n=>
  simp only [tc]at h
  split at h
  . rename_i hb;rw [Va]at hb;have:=of_decide_eq_true hb;rw [Sd,Qm]at h;exact ⟨n,⟨q,this,rfl,of_decide_eq_true h⟩,by simp [Wf,this]⟩
  . cases h
 |bool b=>
  simp only [tc,Va]at h;have:=of_decide_eq_true h;omega
 |func f a c=>cases f with
  |methodOf t s=>
   simp only [tc,Va]at h;have ht:t %16=k:=of_decide_eq_true h;obtain ⟨q,h1,h2⟩:=qC (c:=k) hk;refine ⟨_,⟨q,h2,by rw [Qf,Bl _ (by rw [ht];omega),ht,<-h2,pd],wrap_wrap _ _⟩, ?_⟩;simp only [Wf];rw [show Nat.mod t 16=k from ht,show Nat.ble k 8=true by rw [xd];exact decide_eq_true (by omega)]
  |_=>simp [tc]at h
 |_=>simp [tc]at h
theorem Eag{k:Nat}{v:Value}(h:Xz k v=true):tc k v=true:=by
 unfold Xz at h
 split at h
 . exact h
 . cases h
theorem Mf{k:Nat}{v:Value}(h:Xz k v=true)(hk:k<=7):∃n,In k v n/\Wf v=some k:=Dj (Eag h) hk
theorem In.k3{v:Value}{n:Int}(h:In 3 v n):den v= .v (.int .i64 n)/\-9223372036854775808<=n/\n<=9223372036854775807:=by
 obtain ⟨q,h1,h2,h3⟩:=h;have:q= .i64:=Zb (by rw [Va];exact decide_eq_true h1)
 subst this;rw [IntKind.wrap_i64]at h3;exact ⟨h2,by omega,by omega⟩
theorem In.k7{v:Value}{n:Int}(h:In 7 v n):den v= .v (.int .u64 n)/\ud n:=by
 obtain ⟨q,h1,h2,h3⟩:=h;have:q= .u64:=Zb (by rw [Va];exact decide_eq_true h1)
 subst this;rw [IntKind.wrap_u64]at h3;exact ⟨h2,by unfold ud;omega⟩
theorem In.k6{v:Value}{n:Int}(h:In 6 v n):den v= .v (.int .u32 n)/\0<=n/\n<4294967296:=by
 obtain ⟨q,h1,h2,h3⟩:=h;have:q= .u32:=Zb (by rw [Va];exact decide_eq_true h1)
 subst this;rw [IntKind.wrap_u32]at h3;exact ⟨h2,by omega,by omega⟩
theorem qT{v:Value}(h:tc 8 v=true):∃b,den v= .v (.bool b)/\Wf v=some 8:=by
 cases v with
 |int q n=>
  simp only [tc]at h
  split at h
  . rename_i hb;rw [Va]at hb;have:=of_decide_eq_true hb;have:=Ag q;omega
  . cases h
 |bool b=>exact ⟨b,rfl,rfl⟩
 |func f a c=>cases f with
  |methodOf t s=>
   simp only [tc,Va]at h;have ht:t %16=8:=of_decide_eq_true h;refine ⟨_,by rw [Qf,Bl _ (by rw [ht];omega),ht,Dd], ?_⟩;simp only [Wf];rw [show Nat.mod t 16=8 from ht]
  |_=>simp [tc]at h
 |_=>simp [tc]at h
theorem ej{k:Nat}{n:Int}{v:Value}(h:isLit k n v=true):∃q,Hc q=k/\v= .int q n:=by
 unfold isLit at h
 split at h
 . rename_i q m
   split at h
   . rename_i hb;rw [Va]at hb;rw [Sd]at h;rw [of_decide_eq_true h];exact ⟨q,of_decide_eq_true hb,rfl⟩
   . cases h
 . cases h
theorem Kf{F:List (Value×Value)}(hF:∀p,p∈F->den p.1=den p.2){c:Value}{b:Bool}(h:known F c=some b):den c= .v (.bool b):=by
 unfold known at h
 split at h
 . rename_i b' hb;cases h;rw [<-so hF c,hb];rfl
 . cases h
theorem yh{n k:Nat}(hk:k<=8)(hn:64<=n)(l:List Value):den (sy (16*n+k) l)= .v (fk k (Interp.U n (mc l))):=by
 have e1:(16*n+k) %16=k:=by omega
 have e2:(16*n+k)/16=n:=by omega
 unfold sy;rw [Qf,Bl _ (by omega),e1,e2];have:Nat.ble 64 n=true:=by rw [xd];exact decide_eq_true hn
 rw [this];rfl
theorem rJ(n:Int):fk 3 n= .int .i64 (IntKind.i64.wrap n):=pd .i64 n
theorem fk6(n:Int):fk 6 n= .int .u32 (IntKind.u32.wrap n):=pd .u32 n
theorem jY(n:Int):fk 7 n= .int .u64 (IntKind.u64.wrap n):=pd .u64 n
theorem Eb(n:Int):den (Cb n)= .v (.int .i64 n):=rfl
theorem lB(n:Nat):den (zj n)= .v (.int .u64 (n:Int)):=rfl
theorem qD{x y:Value}{a b:Int}(hx:den x= .v (.int .i64 a))(hy:den y= .v (.int .i64 b)):den (sy 19 [x,y])= .v (.int .i64 (IntKind.i64.wrap (a+b))):=by
 have:=Ch (n:=1) (k:=3) (by decide) (by decide) [x,y];simp only [mc,hx,hy,List.map,Oa,Sm,Aq,rJ]at this;exact this
theorem C5{x y:Value}{a b:Int}(hx:den x= .v (.int .u64 a))(hy:den y= .v (.int .u64 b)):den (sy 23 [x,y])= .v (.int .u64 (IntKind.u64.wrap (a+b))):=by
 have:=Ch (n:=1) (k:=7) (by decide) (by decide) [x,y];simp only [mc,hx,hy,List.map,Oa,Sm,Aq,jY]at this;exact this
theorem daJ{x y:Value}{a b:Int}(hx:den x= .v (.int .i64 a))(hy:den y= .v (.int .i64 b)):den (sy 35 [x,y])= .v (.int .i64 (IntKind.i64.wrap (a -b))):=by
 have:=Ch (n:=2) (k:=3) (by decide) (by decide) [x,y];simp only [mc,hx,hy,List.map,Oa,Sm,Aq,rJ]at this;exact this
theorem KL{x y:Value}{k:IntKind}{a b:Int}(hx:den x= .v (.int k a))(hy:den y= .v (.int k b)):den (sy 280 [x,y])= .v (.bool (decide (a<b))):=by
 have:=Ch (n:=17) (k:=8) (by decide) (by decide) [x,y];simp only [mc,hx,hy,List.map,Oa,Sm,Aq,Dd]at this;by_cases h:a<b<;>simp [h]at this⊢<;>exact this
theorem D5{x y:Value}{k:IntKind}{a b:Int}(hx:den x= .v (.int k a))(hy:den y= .v (.int k b)):den (sy 264 [x,y])= .v (.bool (decide (a=b))):=by
 have:=Ch (n:=16) (k:=8) (by decide) (by decide) [x,y];simp only [mc,hx,hy,List.map,Oa,Sm,Aq,Dd]at this;by_cases h:a=b<;>simp [h]at this⊢<;>exact this
theorem eaJ{x:Value}{b:Bool}(hx:den x= .v (.bool b)):den (sy 296 [x])= .v (.bool (!b)):=by
 have:=Ch (n:=18) (k:=8) (by decide) (by decide) [x];simp only [mc,hx,List.map,Oa,Sm,Aq,Dd]at this;cases b<;>simp at this⊢<;>exact this
theorem EZ{x:Value}{a:Int}(hx:den x= .v (.int .u64 a))(h:ud a):den (sy 199 [x,zj 4294967296])= .v (.int .u64 (a %4294967296)):=by
 have:=Ch (n:=12) (k:=7) (by decide) (by decide) [x,zj 4294967296];simp only [mc,hx,lB,List.map,Oa,Sm,Aq,jY]at this;refine this.trans ?_
 have e:a.tmod ((4294967296:Nat):Int)=a %4294967296:=Int.tmod_eq_emod_of_nonneg h.1
 rw [e,IntKind.wrap_u64]
 congr 2
 omega
theorem maq{x:Value}{k:IntKind}{a:Int}(hx:den x= .v (.int k a)):den (sy 166 [x])= .v (.int .u32 (a %4294967296)):=by
 have:=Ch (n:=10) (k:=6) (by decide) (by decide) [x];simp only [mc,hx,List.map,Oa,Sm,Aq,fk6]at this;rw [IntKind.wrap_u32]at this;exact this
theorem naq{x:Value}{k:IntKind}{a:Int}(hx:den x= .v (.int k a)):den (sy 167 [x])= .v (.int .u64 (a %18446744073709551616)):=by
 have:=Ch (n:=10) (k:=7) (by decide) (by decide) [x];simp only [mc,hx,List.map,Oa,Sm,Aq,jY]at this;rw [IntKind.wrap_u64]at this;exact this
variable[Wc]
theorem rT{a:Int}(h:ud a):-1<=ZF a/\ZF a<4294967295:=by have:=Nj 0 32 a;have:=Nh 0 32 a;unfold ZF;omega
theorem uT{a:Int}(h:ud a):-1<=aP a/\aP a<127:=by have:=Nj 32 7 a;have:=Nh 32 7 a;unfold aP;omega
theorem mB{a:Int}(h:ud a):-1<=Zi a/\Zi a<4294967295:=by have:=Nj 32 32 a;have:=Nh 32 32 a;unfold Zi;omega
theorem dTo{x:Value}{a:Int}(hx:den x= .v (.int .u64 a))(h:ud a):den (sy uS [x])= .v (.int .i64 (ZF a)):=by
 have:=yh (n:=64) (k:=3) (by decide) (by decide) [x];simp only [mc,hx,Wc.wTo,Oa,rJ]at this;refine this.trans ?_
 have:=rT h;rw [IntKind.wrap_i64];congr 2;omega
theorem dBy{x:Value}{a:Int}(hx:den x= .v (.int .u64 a))(h:ud a):den (sy aZ [x])= .v (.int .i64 (aP a)):=by
 have:=yh (n:=65) (k:=3) (by decide) (by decide) [x];simp only [mc,hx,Wc.wBy,Oa,rJ]at this;refine this.trans ?_
 have:=uT h;rw [IntKind.wrap_i64];congr 2;omega
theorem sJ{x:Value}{a:Int}(hx:den x= .v (.int .u64 a))(h:ud a):den (sy Tp [x])= .v (.int .i64 (Zi a)):=by
 have:=yh (n:=66) (k:=3) (by decide) (by decide) [x];simp only [mc,hx,Wc.Aag,Oa,rJ]at this;refine this.trans ?_
 have:=mB h;rw [IntKind.wrap_i64];congr 2;omega
theorem Fag{x:Value}{a:Int}(hx:den x= .v (.int .u64 a))(h:ud a):den (sy DO [x])= .v (.int .u32 (a %4294967296)):=by
 have:=yh (n:=68) (k:=6) (by decide) (by decide) [x];simp only [mc,hx,Wc.ZaI,Oa,fk6]at this;refine this.trans ?_
 rw [IntKind.wrap_u32];unfold QS;congr 2;omega
theorem Gag{x:Value}{a:Int}(hx:den x= .v (.int .u64 a))(h:ud a):den (sy JI [x])= .v (.int .i64 (Ed 33 31 a)):=by
 have:=yh (n:=69) (k:=3) (by decide) (by decide) [x];simp only [mc,hx,Wc.aaJ,Oa,rJ]at this;refine this.trans ?_
 have:=Nj 33 31 a;have:=Nh 33 31 a;rw [IntKind.wrap_i64];congr 2;omega
theorem Ws{x:Value}{a:Int}(hx:den x= .v (.int .u64 a)):den (sy si [x])= .v (.bool (vg a)):=by
 have:=yh (n:=71) (k:=8) (by decide) (by decide) [x];simp only [mc,hx,Wc.Bag,Oa,Dd]at this;refine this.trans ?_
 cases vg a<;>rfl
theorem tJ(a:Int):ud (ze a):=by unfold ze ud;omega
theorem nB(a:Int):ud (yb a):=by unfold yb ze ud;omega
theorem Nd{a:Int}(h:ud a):IntKind.u64.wrap a=a:=by rw [IntKind.wrap_u64];unfold ud at h;omega
theorem En{x:Value}{a:Int}(hx:den x= .v (.int .u64 a)):den (sy ti [x])= .v (.int .u64 (ze a)):=by
 have:=yh (n:=72) (k:=7) (by decide) (by decide) [x];simp only [mc,hx,Wc.Cag,Oa,jY]at this;rw [Nd (tJ a)]at this;exact this
theorem oB{x:Value}{a:Int}(hx:den x= .v (.int .u64 a)):den (sy Ah [x])= .v (.int .u64 (yb a)):=by
 have:=yh (n:=73) (k:=7) (by decide) (by decide) [x];simp only [mc,hx,Wc.jaq,Oa,jY]at this;rw [Nd (nB a)]at this;exact this
theorem pB(a b:Int):ud (aj a b):=by unfold aj uc Ld ud;omega
theorem sG{x y:Value}{a b:Int}(hx:den x= .v (.int .i64 a))(hy:den y= .v (.int .i64 b)):den (sy Tq [x,y])= .v (.int .u64 (aj a b)):=by
 have:=yh (n:=74) (k:=7) (by decide) (by decide) [x,y];simp only [mc,hx,hy,Wc.kaq,Oa,jY]at this;rw [Nd (pB a b)]at this;exact this
theorem Hag{x y:Value}{a b:Int}(hx:den x= .v (.int .i64 a))(hy:den y= .v (.int .u32 b)):den (sy DF [x,y])= .v (.int .u64 (IntKind.u64.wrap (Qu a b))):=by
 have:=yh (n:=76) (k:=7) (by decide) (by decide) [x,y];simp only [mc,hx,hy,Wc.baJ,Oa,jY]at this;exact this
theorem paq{x:Value}{a:Int}(hx:den x= .v (.int .u64 a))(h:ud a):den (sy CO [x])= .v (.int .u32 (jA a)):=by
 have:=yh (n:=67) (k:=6) (by decide) (by decide) [x];simp only [mc,hx,Wc.YaI,Oa,fk6]at this;refine this.trans ?_
 have:=h.1;have:=h.2
 rw [IntKind.wrap_u32];unfold jA;congr 2;omega
theorem E5{x:Value}{a:Int}(hx:den x= .v (.int .u64 a)):den (sy TA [x])= .v (.bool (Ed 32 1 a==1)):=by
 have:=yh (n:=70) (k:=8) (by decide) (by decide) [x];simp only [mc,hx,Wc.iaq,Oa,Dd]at this;refine this.trans ?_
 cases (Ed 32 1 a==1)<;>rfl
theorem uJ(a b:Int):ud (bj a b):=by unfold bj uc Ld ud;omega
theorem vT{x y:Value}{a b:Int}(hx:den x= .v (.int .i64 a))(hy:den y= .v (.int .i64 b)):den (sy Ls [x,y])= .v (.int .u64 (bj a b)):=by
 have:=yh (n:=75) (k:=7) (by decide) (by decide) [x,y];simp only [mc,hx,hy,Wc.Dag,Oa,jY]at this;rw [Nd (uJ a b)]at this;exact this
theorem tG{a b:Int}(h0:0<=b)(h1:b<4294967296):ud (Qu a b):=by unfold Qu uc Ld ud;omega
theorem uG{x y z:Value}{a c:Int}{b:Bool}(hx:den x= .v (.int .i64 a))(hy:den y= .v (.bool b))(hz:den z= .v (.int .u32 c)):den (sy ep [x,y,z])= .v (.int .u64 (IntKind.u64.wrap (cellW a b c))):=by
 have:=yh (n:=77) (k:=7) (by decide) (by decide) [x,y,z];simp only [mc,hx,hy,hz,Wc.laq,Oa,jY]at this;refine this.trans ?_
 cases b<;>rfl
end
end Sk
end Go.Proofs.YtfnkmolffhfpoaaGreat
