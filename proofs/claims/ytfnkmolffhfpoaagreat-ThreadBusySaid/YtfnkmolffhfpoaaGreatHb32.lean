/- -/
import Derived.Test.YtfnkmolffhfpoaaGreatHb31
import Derived.Test.YtfnkmolffhfpoaaGreatHb18
import Derived.WalkSpells
import Derived.Test.YtfnkmolffhfpoaaGreatHb22
import Derived.Deep.RegionHeld3
import Derived.IntWalk
set_option linter.unusedVariables false
set_option linter.unusedSimpArgs false
namespace Go.Proofs.YtfnkmolffhfpoaaGreat
open Go.RowKit Go.BigFrame
theorem VG:(Tryz.prog.info? 259).map (fun i=>(i.zero,i.size,i.bytes))=some (some (.agg #[.int .u64 0, .int .u64 0, .int .u64 0, .int .u64 0, .int .u64 0, .int .u64 0, .int .u64 0, .int .u64 0]),8,64):=by kernel_rfl
theorem Il{ops:Array Oper}{o:Oper}{a:Act}{w:World}{K:Act->World->Prop}{Q:Exit->Act->World->Prop}{E:Prop}(AW:o.guard=none)(t:Nat)(ho:o.op= .buildSlice 176 1 #[(0, .tmp t)])(v0 v1 v2 v3 v4 v5 v6 v7:Int)
  (hs:a.tmps[t]?.getD undef= .agg #[.int .u64 v0, .int .u64 v1, .int .u64 v2, .int .u64 v3, .int .u64 v4, .int .u64 v5, .int .u64 v6, .int .u64 v7])
  (h:K (a.put o.dst (.slice (some ⟨w.heap.size,0,none⟩) 1 1)) (w.alloc (.cells #[.int .u64 v0, .int .u64 v1, .int .u64 v2, .int .u64 v3, .int .u64 v4, .int .u64 v5, .int .u64 v6, .int .u64 v7] 259))):
  if Region.wanted o (yielded ops a.tmps)=true then Oper.wp Tryz.prog o a w K Q else E:=by
 have hw:Region.wanted o (yielded ops a.tmps)=true:=by simp [Region.wanted,AW]
 rw [if_pos hw];obtain ⟨o1,o2,o3,o4,o5,o6⟩:=o;subst ho;simp [Oper.wp,go_sem,hs];exact h
def dN(f:Nat->Int)(n:Nat)(w:World)(e:Ending)(w':World):Prop:=
 ∃v,e= .returned (.tuple #[v, .int .i64 0])/\Below w.heap.size w w'/\w'.ownsRow w.heap.size 259 8 v (n/8) (Fc f (8*(n/8)))
def ig(n:Nat):Int:=if(n:Int) %8≠0 then 3 else if 262144<(n:Int)/8 then 2 else 0
theorem xad(a:Option Addr)(n cap:Nat)(hn:n<=9223372036854775807)(he:ig n≠0)(w:World):Calls Tryz.prog 103 #[.slice a n cap] w (zh (.tuple #[.slice none 0 0, .int .i64 (ig n)]) w):=by
 have HW:=Lib.hid (xG n hn w);rw [show(if(n:Int) %8≠0 then(3:Int)else if 262144<(n:Int)/8 then 2 else 0)=ig n from rfl]at HW;generalize ig n=e at*;have e1:(e != 0)=true:=by simpa using he
 clear he
 go_enter Tryz.func103,Tryz.ntmps103
 go_wp2_with fail
 with_reducible refine HW.out.mono ?_
 rintro e w' ⟨rfl,hw⟩;cases hw
 go_wp2_with fail
 go_ret2
 exact ⟨rfl,Below.refl _ _,rfl⟩
set_option maxRecDepth 100000 in
set_option maxHeartbeats 4000000 in
theorem yad(a0:Option Addr)(b off n cap:Nat)(ha:8<=n->a0=some ⟨b,off,none⟩)(hn:n<=cap)(hc:cap<=9223372036854775807)(he:ig n=0)(f:Nat->Int)(w0:World)(hb:0<n->b<w0.heap.size)(hw:∀j,j<n->w0.cell? ⟨b,off+j,none⟩=some (.int .u64 (f j))):
  Calls Tryz.prog 103 #[.slice a0 n cap] w0 (dN f n w0):=by
 have HW:=Lib.hid (xG n (by omega) w0);rw [show(if(n:Int) %8≠0 then(3:Int)else if 262144<(n:Int)/8 then 2 else 0)=0 from he]at HW;have HN:Hid (n %8=0/\n/8<=262144):=Lib.hid (by unfold ig at he;split at he;omega;split at he;omega;omega);have HB:=Lib.hid hb;have HA:=Lib.hid ha;have HD:=Lib.hid hw;have HC:=Lib.hid (And.intro hn hc);clear hb hw hn hc he ha;refine (callsIn_wide (n:=9)).1 (callsIn_of_wp_marks Tryz.func103 rfl trivial ?_ rfl)
 refine wpIn_wide.2 ?_
 simp only [Tryz.ntmps103,List.size_toArray,List.length_cons,List.length_nil,Nat.reduceAdd,Nat.reduceSub,Array.replicate_succ,Array.replicate_zero,List.push_toArray,List.append_toArray,List.nil_append,List.cons_append]
 go_wp2_with fail
 with_reducible refine HW.out.mono ?_
 rintro e w' ⟨rfl,hw⟩;cases hw
 go_wp2_with (go_at_call 202;refine (RR _ ⟨_,_,_,rfl⟩ _ _).mono ?_;rintro e w3 ⟨rfl,hw3⟩;have HW3:=Lib.hid hw3;clear hw3)
 obtain ⟨i102,hi,ft,Kh,qg⟩:=info_parts VG;obtain ⟨po,hpo⟩:∃po,po=w0.heap.size:=⟨_,rfl⟩;have n1:po≠po+1:=by omega
 have n2:po+1≠po+1+1:=by omega
 have n3:po≠po+1+1:=by omega
 have OY:Hid (Je w0 w3 po (po+1) (po+1+1) b off n cap f 0 0):=Lib.hid (by
  have h3:=HW3.out;have k0:w3.heap[po]?=some (.cells #[.slice none 0 0] 176 (0,0)):=by
   rw [h3,Below.heap_alloc _ _ _ (by simp;omega),Below.heap_alloc _ _ _ (by simp;omega),hpo,heap_alloc_new]
  have k1:w3.heap[po+1]?=some (.cells #[.slice a0 n cap] 99 (0,0)):=by
   have:=heap_alloc_new (w0.alloc (.cells #[.slice none 0 0] 176)) (.cells #[.slice a0 n cap] 99);rw [World.size_alloc]at this;rw [h3,Below.heap_alloc _ _ _ (by simp;omega),hpo];exact this
  have k2:w3.heap[po+1+1]?=some (.cells #[.int .i64 8] 3 (0,0)):=by
   have:=heap_alloc_new ((w0.alloc (.cells #[.slice none 0 0] 176)).alloc (.cells #[.slice a0 n cap] 99)) (.cells #[.int .i64 8] 3);rw [World.size_alloc,World.size_alloc]at this;rw [h3,hpo];exact this
  have l2:=(Array.getElem?_eq_some_iff.1 k2).1
  refine ⟨?_,⟨a0,fun h=>HA.out (by omega),by rw [Ma k1];rfl,by rw [Ma k2];rfl,by unfold World.frozen?;rw [k1];simp⟩,⟨_,by rw [Ma k0];rfl,World.ownsRow_nil _ _ _ _,(by intro e;cases e),(by intro e;cases e),(by intro e;cases e)⟩,by unfold World.frozen?;rw [k0];simp,⟨by omega,by omega⟩,⟨by omega,by omega⟩,⟨by omega,by omega⟩⟩;rw [h3];exact ((((Below.refl _ _).alloc (Nat.le_refl _) _).alloc (by simp) _).alloc (by simp;omega) _))
 rw [<-hpo];clear hpo;refine (wpIn_wide (n:=9)).1 (PR (w0:=w0) (f:=f) HC.out.1 HC.out.2 n1 n2 rfl OY.out ?_ ?_ ?_)
 . intro l v W K hK;simp only [List.setIfInBounds_toArray,List.set_cons_succ,List.set_cons_zero]at hK⊢
   gi_wp2
   exact hK
 . intro l k W hk h;have HK:Hid (k+1<=262144):=Lib.hid (by have:=HN.out;omega);have Zv:Hid (Je w0 W.drew po (po+1) (po+1+1) b off n cap f k k):=Lib.hid (h.grow ((Below.refl _ W).drew));have HSD:Hid (pq W W.drew):=Lib.hid (fun _ _ h _=>h);have E2:=Lib.hid (qC f k);have h8:Xw W.drew b (off+8*k) (fun r=>f (k*8+r)):=fun r hr=>by
    have:=HD.out (8*k+r) (by omega)
    show W.drew.cell? ⟨b,off+8*k+r,none⟩=some (.int .u64 (f (k*8+r)))
    rw [show off+8*k+r=off+(8*k+r)by omega,show k*8+r=8*k+r by omega];exact (Zv.out.below.cell (p:=⟨b,off+(8*k+r),none⟩) (HB.out (by omega))).trans this
   obtain ⟨c0,c1,c2,c3,c4,c5,c6,c7⟩:=h8.cells;rw [Nat.add_zero]at c0;clear h h8 hk;refine wpIn_block (aJ (by kernel_rfl) ?_ ?_ ?_)
   . intro i o ho cc hc;have hi:i<7:=(Array.getElem?_eq_some_iff.1 ho).1
     rcases i with _|_|_|_|_|_|_|i<;>first|(cases ho;cases hc)|omega
   . rintro ⟨a,w,h⟩;exact h
   simp only [List.setIfInBounds_toArray,List.set_cons_succ,List.set_cons_zero];generalize W.drew=Wd at*;obtain ⟨vo,hvo,yd,u1,u2,u3⟩:=Zv.out.out;obtain ⟨oa,om,oc,rfl⟩:=Rd yd;have co:=hvo;have fo:=Zv.out.fpo;have HO:=Lib.hid yd;have HPO:Hid (some po≠(Value.slice oa om oc).ownBlock):=Lib.hid (Ne.symm u1);have p1:po≠Wd.heap.size:=by have:=Zv.out.h1.2;omega
   have p2:Wd.heap.size≠po:=Ne.symm p1;have p3:po<Wd.heap.size:=Zv.out.h1.2
   clear hvo yd u1 u2 u3;generalize off+8*k=o at*;generalize f (k*8)=v0 at*;generalize f (k*8+1)=v1 at*;generalize f (k*8+2)=v2 at*;generalize f (k*8+3)=v3 at*;generalize f (k*8+4)=v4 at*;generalize f (k*8+5)=v5 at*;generalize f (k*8+6)=v6 at*;generalize f (k*8+7)=v7 at*;refine wpAny_take (i:=1) (v:= .slice (some ⟨b,o,none⟩) 8 8) rfl (by kernel_rfl) (by kernel_rfl) (by kernel_rfl) (fun _ _ _ h=>h) (Or.inl ⟨by rfl,by intro w;go_simp;try with_reducible rfl⟩) ?_
   refine wpAny_ready (rs:=[0,2]) (by kernel_rfl) (by simp) (AllReady.cons rfl (fun K hK=> ?_) (AllReady.cons rfl (fun K hK=> ?_) AllReady.nil))
   . skip
     go_simp
     refine hK _ _ ?_
     clear hK;refine wpAny_ready (rs:=[2]) (by kernel_rfl) (by simp) (AllReady.cons rfl (fun K hK=> ?_) AllReady.nil)
     go_simp
     refine hK _ _ ?_
     clear hK;refine wpAny_ready (rs:=[3]) (by kernel_rfl) (by simp) (AllReady.cons rfl (fun K hK=> ?_) AllReady.nil)
     go_simp
     refine hK _ _ ?_
     clear hK;refine wpAny_ready (rs:=[4]) (by kernel_rfl) (by simp) (AllReady.cons rfl (fun K hK=> ?_) AllReady.nil);refine Il rfl 19 rfl v0 v1 v2 v3 v4 v5 v6 v7 rfl ?_
     refine hK _ _ ?_
     clear hK;refine wpAny_ready (rs:=[5]) (by kernel_rfl) (by simp) (AllReady.cons rfl (fun K hK=> ?_) AllReady.nil);have WG:Hid (Below Wd.heap.size Wd (Wd.alloc (.cells #[.int .u64 v0, .int .u64 v1, .int .u64 v2, .int .u64 v3, .int .u64 v4, .int .u64 v5, .int .u64 v6, .int .u64 v7] 259))):=Lib.hid ((Below.refl _ _).alloc (Nat.le_refl _) _);refine Gd rfl (.tmp 16) (.tmp 20) 176 rfl w0.heap.size 259 i102 _ 8 64 Tryz.underlying176 hi ft Kh qg rfl (by decide) (.slice oa om oc) k _ rfl (HO.out.alloc _) ⟨Wd.heap.size,0,none⟩ 1 1 [.int .u64 v0, .int .u64 v1, .int .u64 v2, .int .u64 v3, .int .u64 v4, .int .u64 v5, .int .u64 v6, .int .u64 v7] rfl rfl (fun j u hj=>ue Wd _ _ j u hj) (by simp [Value.oneCell']) (by have:=HK.out;unfold maxLen;omega) (by have:=HK.out;omega) (by have:=Zv.out.below.size;simp;omega) ?_
     intro v' w4 iF jF eN;obtain ⟨na,nm,nc,rfl⟩:=Rd iF;have PY:=Lib.hid iF;have QY:=Lib.hid jF;have IP:=Lib.hid eN;have wC:w4.heap[po]?=Wd.heap[po]?:=(jF.block po (by have:=Zv.out.h1.2;simp;omega) HPO.out).trans (Below.heap_alloc _ _ _ Zv.out.h1.2)
     have co4:w4.cell? ⟨po,0,none⟩=some (.slice oa om oc):=by rw [cell_of_heap wC];exact co
     have fo4:w4.frozen? ⟨po,0,none⟩=false:=by rw [frozen_of_heap wC];exact fo
     clear iF jF eN wC;refine hK _ _ ?_
     clear hK;refine wpAny_ready (rs:=[6]) (by kernel_rfl) (by simp) (AllReady.cons rfl (fun K hK=> ?_) AllReady.nil)
     go_simp
     refine hK _ _ ?_
     clear hK;refine wpAny_done (by kernel_rfl) ?_ _
     have Zn:=Zv.out.add n1 n2 n3 co WG.out (by rw [E2.out];exact PY.out) QY.out IP.out;exact ⟨Zn.1,HSD.out.trans Zn.2⟩
   . skip
     go_simp
     refine hK _ _ ?_
     clear hK;refine wpAny_ready (rs:=[0,3]) (by kernel_rfl) (by simp) (AllReady.cons rfl (fun K hK=> ?_) (AllReady.cons rfl (fun K hK=> ?_) AllReady.nil))
     . skip
       go_simp
       refine hK _ _ ?_
       clear hK;refine wpAny_ready (rs:=[3]) (by kernel_rfl) (by simp) (AllReady.cons rfl (fun K hK=> ?_) AllReady.nil)
       go_simp
       refine hK _ _ ?_
       clear hK;refine wpAny_ready (rs:=[4]) (by kernel_rfl) (by simp) (AllReady.cons rfl (fun K hK=> ?_) AllReady.nil);refine Il rfl 19 rfl v0 v1 v2 v3 v4 v5 v6 v7 rfl ?_
       refine hK _ _ ?_
       clear hK;refine wpAny_ready (rs:=[5]) (by kernel_rfl) (by simp) (AllReady.cons rfl (fun K hK=> ?_) AllReady.nil);have WG:Hid (Below Wd.heap.size Wd (Wd.alloc (.cells #[.int .u64 v0, .int .u64 v1, .int .u64 v2, .int .u64 v3, .int .u64 v4, .int .u64 v5, .int .u64 v6, .int .u64 v7] 259))):=Lib.hid ((Below.refl _ _).alloc (Nat.le_refl _) _);refine Gd rfl (.tmp 16) (.tmp 20) 176 rfl w0.heap.size 259 i102 _ 8 64 Tryz.underlying176 hi ft Kh qg rfl (by decide) (.slice oa om oc) k _ rfl (HO.out.alloc _) ⟨Wd.heap.size,0,none⟩ 1 1 [.int .u64 v0, .int .u64 v1, .int .u64 v2, .int .u64 v3, .int .u64 v4, .int .u64 v5, .int .u64 v6, .int .u64 v7] rfl rfl (fun j u hj=>ue Wd _ _ j u hj) (by simp [Value.oneCell']) (by have:=HK.out;unfold maxLen;omega) (by have:=HK.out;omega) (by have:=Zv.out.below.size;simp;omega) ?_
       intro v' w4 iF jF eN;obtain ⟨na,nm,nc,rfl⟩:=Rd iF;have PY:=Lib.hid iF;have QY:=Lib.hid jF;have IP:=Lib.hid eN;have wC:w4.heap[po]?=Wd.heap[po]?:=(jF.block po (by have:=Zv.out.h1.2;simp;omega) HPO.out).trans (Below.heap_alloc _ _ _ Zv.out.h1.2)
       have co4:w4.cell? ⟨po,0,none⟩=some (.slice oa om oc):=by rw [cell_of_heap wC];exact co
       have fo4:w4.frozen? ⟨po,0,none⟩=false:=by rw [frozen_of_heap wC];exact fo
       clear iF jF eN wC;refine hK _ _ ?_
       clear hK;refine wpAny_ready (rs:=[6]) (by kernel_rfl) (by simp) (AllReady.cons rfl (fun K hK=> ?_) AllReady.nil)
       go_simp
       refine hK _ _ ?_
       clear hK;refine wpAny_done (by kernel_rfl) ?_ _
       have Zn:=Zv.out.add n1 n2 n3 co WG.out (by rw [E2.out];exact PY.out) QY.out IP.out;exact ⟨Zn.1,HSD.out.trans Zn.2⟩
     . skip
       go_simp
       refine hK _ _ ?_
       clear hK;refine wpAny_ready (rs:=[0,4]) (by kernel_rfl) (by simp) (AllReady.cons rfl (fun K hK=> ?_) (AllReady.cons rfl (fun K hK=> ?_) AllReady.nil))
       . skip
         go_simp
         refine hK _ _ ?_
         clear hK;refine wpAny_ready (rs:=[4]) (by kernel_rfl) (by simp) (AllReady.cons rfl (fun K hK=> ?_) AllReady.nil);refine Il rfl 19 rfl v0 v1 v2 v3 v4 v5 v6 v7 rfl ?_
         refine hK _ _ ?_
         clear hK;refine wpAny_ready (rs:=[5]) (by kernel_rfl) (by simp) (AllReady.cons rfl (fun K hK=> ?_) AllReady.nil);have WG:Hid (Below Wd.heap.size Wd (Wd.alloc (.cells #[.int .u64 v0, .int .u64 v1, .int .u64 v2, .int .u64 v3, .int .u64 v4, .int .u64 v5, .int .u64 v6, .int .u64 v7] 259))):=Lib.hid ((Below.refl _ _).alloc (Nat.le_refl _) _);refine Gd rfl (.tmp 16) (.tmp 20) 176 rfl w0.heap.size 259 i102 _ 8 64 Tryz.underlying176 hi ft Kh qg rfl (by decide) (.slice oa om oc) k _ rfl (HO.out.alloc _) ⟨Wd.heap.size,0,none⟩ 1 1 [.int .u64 v0, .int .u64 v1, .int .u64 v2, .int .u64 v3, .int .u64 v4, .int .u64 v5, .int .u64 v6, .int .u64 v7] rfl rfl (fun j u hj=>ue Wd _ _ j u hj) (by simp [Value.oneCell']) (by have:=HK.out;unfold maxLen;omega) (by have:=HK.out;omega) (by have:=Zv.out.below.size;simp;omega) ?_
         intro v' w4 iF jF eN;obtain ⟨na,nm,nc,rfl⟩:=Rd iF;have PY:=Lib.hid iF;have QY:=Lib.hid jF;have IP:=Lib.hid eN;have wC:w4.heap[po]?=Wd.heap[po]?:=(jF.block po (by have:=Zv.out.h1.2;simp;omega) HPO.out).trans (Below.heap_alloc _ _ _ Zv.out.h1.2)
         have co4:w4.cell? ⟨po,0,none⟩=some (.slice oa om oc):=by rw [cell_of_heap wC];exact co
         have fo4:w4.frozen? ⟨po,0,none⟩=false:=by rw [frozen_of_heap wC];exact fo
         clear iF jF eN wC;refine hK _ _ ?_
         clear hK;refine wpAny_ready (rs:=[6]) (by kernel_rfl) (by simp) (AllReady.cons rfl (fun K hK=> ?_) AllReady.nil)
         go_simp
         refine hK _ _ ?_
         clear hK;refine wpAny_done (by kernel_rfl) ?_ _
         have Zn:=Zv.out.add n1 n2 n3 co WG.out (by rw [E2.out];exact PY.out) QY.out IP.out;exact ⟨Zn.1,HSD.out.trans Zn.2⟩
       . skip
         refine Il rfl 19 rfl v0 v1 v2 v3 v4 v5 v6 v7 rfl ?_
         refine hK _ _ ?_
         clear hK;refine wpAny_ready (rs:=[0]) (by kernel_rfl) (by simp) (AllReady.cons rfl (fun K hK=> ?_) AllReady.nil)
         go_simp
         refine hK _ _ ?_
         clear hK;refine wpAny_ready (rs:=[5]) (by kernel_rfl) (by simp) (AllReady.cons rfl (fun K hK=> ?_) AllReady.nil);have WG:Hid (Below Wd.heap.size Wd (Wd.alloc (.cells #[.int .u64 v0, .int .u64 v1, .int .u64 v2, .int .u64 v3, .int .u64 v4, .int .u64 v5, .int .u64 v6, .int .u64 v7] 259))):=Lib.hid ((Below.refl _ _).alloc (Nat.le_refl _) _);refine Gd rfl (.tmp 16) (.tmp 20) 176 rfl w0.heap.size 259 i102 _ 8 64 Tryz.underlying176 hi ft Kh qg rfl (by decide) (.slice oa om oc) k _ rfl (HO.out.alloc _) ⟨Wd.heap.size,0,none⟩ 1 1 [.int .u64 v0, .int .u64 v1, .int .u64 v2, .int .u64 v3, .int .u64 v4, .int .u64 v5, .int .u64 v6, .int .u64 v7] rfl rfl (fun j u hj=>ue Wd _ _ j u hj) (by simp [Value.oneCell']) (by have:=HK.out;unfold maxLen;omega) (by have:=HK.out;omega) (by have:=Zv.out.below.size;simp;omega) ?_
         intro v' w4 iF jF eN;obtain ⟨na,nm,nc,rfl⟩:=Rd iF;have PY:=Lib.hid iF;have QY:=Lib.hid jF;have IP:=Lib.hid eN;have wC:w4.heap[po]?=Wd.heap[po]?:=(jF.block po (by have:=Zv.out.h1.2;simp;omega) HPO.out).trans (Below.heap_alloc _ _ _ Zv.out.h1.2)
         have co4:w4.cell? ⟨po,0,none⟩=some (.slice oa om oc):=by rw [cell_of_heap wC];exact co
         have fo4:w4.frozen? ⟨po,0,none⟩=false:=by rw [frozen_of_heap wC];exact fo
         clear iF jF eN wC;refine hK _ _ ?_
         clear hK;refine wpAny_ready (rs:=[6]) (by kernel_rfl) (by simp) (AllReady.cons rfl (fun K hK=> ?_) AllReady.nil)
         go_simp
         refine hK _ _ ?_
         clear hK;refine wpAny_done (by kernel_rfl) ?_ _
         have Zn:=Zv.out.add n1 n2 n3 co WG.out (by rw [E2.out];exact PY.out) QY.out IP.out;exact ⟨Zn.1,HSD.out.trans Zn.2⟩
 . intro D W hD h hK;dsimp only;obtain ⟨vo,hvo,yd,u1,u2,u3⟩:=h.out;obtain ⟨oa,om,oc,rfl⟩:=Rd yd;have HH:=Lib.hid h;have HO:=Lib.hid yd;have HKK:=Lib.hid hK;clear h yd hK u1 u2 u3
   go_wp2_with fail
   show LeavesInM Fence.wide 9 Tryz.prog Tryz.f103 _ (dN f n w0) [{target:= .collected D,args:=#[]}] .returning W
   unfold LeavesInM;refine ⟨by simp, .inl ⟨_,_,rfl,run_takeDeferred HKK.out, ?_⟩⟩;exact ⟨_,results_tmp2 rfl _ _ _,_,rfl,(HH.out.put HKK.out rfl hD _).below,ownsRow_putObj HO.out _ HKK.out rfl⟩
def Sz(xs:List Value)(n:Nat)(W:World)(e:Ending)(W':World):Prop:=∃v,e= .returned v/\Below W.heap.size W W'/\W'.ownsRow W.heap.size 259 8 v n xs
set_option maxRecDepth 100000 in
theorem SR(g n cap:Nat)(c:Array Value)(hn:0<n)(h1:n<=262144)(xs:List Value)(W:World)(hg:W.heap[g]?=some (.cells c 259 (0,0)))(vv:xs.length=n*8)(hc:∀j,j<n*8->c[j]?=xs[j]?)(h1c:∀u∈xs,u.oneCell'=true):
  Calls Tryz.prog 203 #[.slice (some ⟨g,0,none⟩) n cap] W (Sz xs n W):=by
 obtain ⟨i102,hi,ft,Kh,qg⟩:=info_parts VG;have HG:=Lib.hid hg;have HC:=Lib.hid hc;have HX:=Lib.hid vv;have H1:=Lib.hid h1c;clear hg hc vv h1c;obtain ⟨B,hB⟩:∃B,B=W.heap.size:=⟨_,rfl⟩;unfold Sz;rw [<-hB];have HB:=Lib.hid hB;clear hB;have Av:=fun w:World=>Lib.run_eql_slice_nil (P:=Tryz.prog) w 176 259 (some ⟨g,0,none⟩) n cap 0 0 Tryz.underlying176
 go_enter Tryz.func203,Tryz.ntmps203
 have hgl:g<W.heap.size:=(Array.getElem?_eq_some_iff.1 HG.out).1
 go_wp2_with (at_builtin;refine wpList_append_own _ rfl (.tmp 5) (.tmp 6) 176 rfl B 259 i102 _ 8 64 Tryz.underlying176 hi ft Kh qg rfl (by decide) (.slice (some ⟨W.heap.size,0,none⟩) 0 0) 0 [] rfl (World.ownsRow_made W #[] 0 (by have:=HB.out;omega) (by unfold maxLen;omega) rfl) ⟨g,0,none⟩ n cap xs rfl HX.out (fun j u hj=>by rw [Addr.add_lit,Nat.zero_add,Ma ((Below.heap_alloc W _ g hgl).trans HG.out),HC.out j (by rw [<-HX.out];exact (List.getElem?_eq_some_iff.1 hj).1)];exact hj) H1.out (by unfold maxLen;omega) (by omega) (by have:=HB.out;simp;omega) ?_;intro v' w' yd Kk Jc;have HO':=Lib.hid yd;have HG':=Lib.hid Kk;clear yd Kk Jc)
 go_wp2_with fail
 go_ret
 refine ⟨_,rfl, ?_, ?_⟩
 . exact ((Below.refl _ _).alloc (by have:=HB.out;omega) _).grown HG'.out (by have:=HB.out;rw [World.size_alloc];omega) (fun q e=>by cases e;show B<=W.heap.size;have:=HB.out;omega)
 . have:=HO'.out;rw [Nat.zero_add,List.nil_append]at this;exact this
theorem en(t e:TypeId)(z v:Value)(by_:Nat)(ht:Tryz.prog.underlying t=some (.slice e))(hi:(Tryz.prog.info? e).map (fun i=>(i.zero,i.size,i.bytes))=some (some z,1,by_))(hz:z.cells=#[v])(n:Nat)(hb:by_*n<=281474976710656)(I1:n<=9223372036854775807)(w:World):
  (Instr.makeSlice t (.int .i64 n) (.int .i64 n)).run Tryz.prog w= .ok (.slice (some ⟨w.heap.size,0,none⟩) n n) (w.alloc (.cells (madeCells #[v] n) e)):=by
 obtain ⟨i,h1,h2,h3,h4⟩:=info_parts hi;have zP:(i.bytes:Int)*(n:Int)<=281474976710656:=by
  have h:((by_*n:Nat):Int)<=281474976710656:=by omega
  rw [Int.natCast_mul]at h;rw [h4];exact h
 have:=run_make (P:=Tryz.prog) w t e i z ht h1 h2 .i64 .i64 n n (by omega) (Int.le_refl _) zP (by omega)
 rw [this,h3,hz];rw [Int.toNat_natCast,Nat.mul_one]
theorem jg(v:Value)(n j:Nat)(hj:j<n):(madeCells #[v] n)[j]?=some v:=by
 rw [<-Array.getElem?_toList,toList_madeCells_one];simp [hj]
theorem bU:(Tryz.prog.info? 3).map (fun i=>(i.zero,i.size,i.bytes))=some (some (.int .i64 0),1,8):=by kernel_rfl
theorem UR:(Tryz.prog.info? 285).map (fun i=>(i.zero,i.size,i.bytes))=some (some (.agg #[.slice none 0 0]),1,24):=by kernel_rfl
structure QC(W:World)(B d kb sb wb fb n nt c0 c1:Nat)(f:Nat->Int):Prop where
 dev:W.heap[d]?=some (.cells #[.slice (some ⟨kb,0,none⟩) n c0, .slice (some ⟨sb,0,none⟩) n c1, .slice (some ⟨wb,0,none⟩) n n, .slice (some ⟨fb,0,none⟩) nt nt] 188 (0,0))
 rk:Eb W kb (8*n) fun k=> .int .u64 (f k)
 rs:Eb W sb (8*n) fun k=> .int .u64 (f k)
 rw:Eb W wb n fun _=> .int .i64 0
 rf:Eb W fb nt fun _=> .slice none 0 0
 apart:[d,kb,sb,wb,fb].Nodup
 base:B<=d/\B<=kb/\B<=sb/\B<=wb/\B<=fb
def kF(B kb n cap nt:Nat)(f:Nat->Int)(W:World)(e:Ending)(W':World):Prop:=∃d sb wb fb c1,e= .returned (.pointer (some ⟨d,0,none⟩))/\Below W.heap.size W W'/\QC W' B d kb sb wb fb n nt cap c1 f
theorem Lo{w:World}{X n g cap:Nat}{f:Nat->Int}(h:w.ownsRow X 259 8 (.slice (some ⟨g,0,none⟩) n cap) n (Fc f (8*n)))(hn:0<n):Eb w g (8*n) fun k=> .int .u64 (f k):=by
 obtain ⟨g',dR,c,e1,hb,hg,jL,mK,RY⟩:=Zf h hn;cases e1;exact ⟨c,_,hg,fun k hk=>by rw [RY k (by omega)];exact Kj f _ k hk⟩
theorem Xi{B kb n cap nt:Nat}{f:Nat->Int}{W wf:World}(hn:0<n)(hW:W.ownsRow B 259 8 (.slice (some ⟨kb,0,none⟩) n cap) n (Fc f (8*n))){d sb wb fb c1 X:Nat}(hb:Below W.heap.size W wf)
  (h0:wf.heap[d]?=some (.cells #[.slice (some ⟨kb,0,none⟩) n cap, .slice (some ⟨sb,0,none⟩) n c1, .slice (some ⟨wb,0,none⟩) n n, .slice (some ⟨fb,0,none⟩) nt nt] 188 (0,0)))
  (h1:wf.heap[wb]?=some (.cells (madeCells #[.int .i64 0] n) 3 (0,0)))(h2:wf.heap[fb]?=some (.cells (madeCells #[.slice none 0 0] nt) 285 (0,0)))
  (h3:wf.ownsRow X 259 8 (.slice (some ⟨sb,0,none⟩) n c1) n (Fc f (8*n)))(hx:W.heap.size<=X/\W.heap.size<=d/\W.heap.size<=wb/\W.heap.size<=fb)
  (ne:d≠wb/\d≠fb/\wb≠fb/\sb≠d/\sb≠wb/\sb≠fb):kF B kb n cap nt f W (.returned (.pointer (some ⟨d,0,none⟩))) wf:=by
 obtain ⟨k1,k2⟩:=xf hW (k:=kb) rfl;obtain ⟨s1,s2⟩:=xf h3 (k:=sb) rfl;refine ⟨d,sb,wb,fb,c1,rfl,hb,h0,(Lo hW hn).keep (hb.block _ k2),Lo h3 hn,⟨_,_,h1,fun k hk=>jg _ _ _ hk⟩,⟨_,_,h2,fun k hk=>jg _ _ _ hk⟩, ?_,by omega⟩;simp only [List.nodup_cons,List.mem_cons,List.not_mem_nil,or_false,not_or,List.nodup_nil,and_true,not_false_eq_true];omega
theorem Aad(w:World)(a b c:Obj):(((w.alloc a).alloc b).alloc c).heap[w.heap.size]?=some a/\(((w.alloc a).alloc b).alloc c).heap[w.heap.size+1]?=some b/\(((w.alloc a).alloc b).alloc c).heap[w.heap.size+1+1]?=some c:=by
 refine ⟨?_, ?_, ?_⟩
 . rw [Below.heap_alloc _ _ _ (by simp;omega)];exact (td w a b).1
 . rw [Below.heap_alloc _ _ _ (by simp)];exact (td w a b).2
 . have:=heap_alloc_new ((w.alloc a).alloc b) c;simpa using this
set_option maxRecDepth 100000 in
set_option maxHeartbeats 2000000 in
theorem SY(B kb n cap nt:Nat)(hn:0<n)(h1:n<=262144)(ht:nt<=64)(f:Nat->Int)(W:World)(h:W.ownsRow B 259 8 (.slice (some ⟨kb,0,none⟩) n cap) n (Fc f (8*n))):
  Calls Tryz.prog 104 #[.slice (some ⟨kb,0,none⟩) n cap, .int .i64 nt] W (kF B kb n cap nt f W):=by
 have i0:(0:Int)<=(n:Int):=by omega
 have i1:(0:Int)<=(nt:Int):=by omega
 have HCL:Hid (∀w,Below W.heap.size W w->Calls Tryz.prog 203 #[.slice (some ⟨kb,0,none⟩) n cap] w (Sz (Fc f (8*n)) n w)):=Lib.hid fun w hw=>by
  obtain ⟨g,dR,c,e1,hb,hg,jL,mK,RY⟩:=Zf h hn;cases e1;refine SR _ n _ c hn h1 _ w ((hw.block _ (Array.getElem?_eq_some_iff.1 hg).1).trans hg) (by rw [EE];omega) RY (fun u hu=> ?_);unfold Fc at hu;obtain ⟨q,_,rfl⟩:=List.mem_map.1 hu
  rfl
 have HH:=Lib.hid h;clear h;have yP:=en 145 3 _ _ 8 Tryz.underlying145 bU rfl n (by omega) (by omega);have sD:=en 186 285 _ _ 24 Tryz.underlying186 UR rfl nt (by omega) (by omega)
 go_enter Tryz.func104,Tryz.ntmps104
 go_wp2_with fail
 go_region_with (go_at_call 203;refine (HCL.out _ (by first|exact (Below.refl _ _).drew|exact ((Below.refl _ _).alloc (Nat.le_refl _) _).drew|exact (((Below.refl _ _).alloc (Nat.le_refl _) _).alloc (by simp) _).drew|exact (Below.refl _ _).drew.alloc (by simp) _|exact ((Below.refl _ _).drew.alloc (by simp) _).alloc (by simp) _)).mono ?_;rintro e w1 ⟨v,rfl,hb,ho⟩;obtain ⟨sb,c1,cc,rfl,hq⟩:=Zf ho hn;have jh:=Lib.hid hb;have cU:=Lib.hid ho;clear hb ho hq)
 all_goals
  go_wp2_with fail
  go_ret
 all_goals (have s1:=(xf cU.out rfl).1;have s2:=(xf cU.out rfl).2;have z1:=jh.out.size)
 . obtain ⟨a,b,c⟩:=Aad w1 (.cells (madeCells #[.int .i64 0] n) 3) (.cells (madeCells #[.slice none 0 0] nt) 285) (.cells #[.slice (some ⟨kb,0,none⟩) n cap, .slice (some ⟨sb,0,none⟩) n c1, .slice (some ⟨w1.heap.size,0,none⟩) n n, .slice (some ⟨w1.heap.size+1,0,none⟩) nt nt] 188);refine Xi hn HH.out ?_ c a b (((cU.out.alloc _).alloc _).alloc _) ?_ ?_
   . exact ((((Below.refl _ _).drew.trans jh.out).alloc z1 _).alloc (by simp at z1⊢;omega) _).alloc (by simp at z1⊢;omega) _
   all_goals (simp at z1 s1 s2⊢;omega)
 . obtain ⟨a,b,c⟩:=Aad w1 (.cells (madeCells #[.slice none 0 0] nt) 285) (.cells (madeCells #[.int .i64 0] n) 3) (.cells #[.slice (some ⟨kb,0,none⟩) n cap, .slice (some ⟨sb,0,none⟩) n c1, .slice (some ⟨w1.heap.size+1,0,none⟩) n n, .slice (some ⟨w1.heap.size,0,none⟩) nt nt] 188);refine Xi hn HH.out ?_ c b a (((cU.out.alloc _).alloc _).alloc _) ?_ ?_
   . exact ((((Below.refl _ _).drew.trans jh.out).alloc z1 _).alloc (by simp at z1⊢;omega) _).alloc (by simp at z1⊢;omega) _
   all_goals (simp at z1 s1 s2⊢;omega)
 . have e0:=(jh.out.block W.heap.size (by simp)).trans (heap_alloc_new W _)
   have zz:W.heap.size+1<=w1.heap.size:=by have:=z1;simp at this;omega
   refine Xi hn HH.out ?_ (td w1 _ _).2 ((Below.heap_alloc _ _ _ (by simp;omega)).trans ((Below.heap_alloc w1 _ W.heap.size (by omega)).trans e0)) (td w1 _ _).1 ((cU.out.alloc _).alloc _) ?_ ?_
   . exact (((((Below.refl _ _).alloc (Nat.le_refl _) _).drew.trans (jh.out.mono (by simp))).alloc (by omega) _).alloc (by simp;omega) _)
   all_goals (simp at z1 s1 s2⊢;omega)
 . have e0:=(jh.out.block W.heap.size (by simp;omega)).trans (td W _ _).1
   have e1:=(jh.out.block (W.heap.size+1) (by simp)).trans (td W _ _).2
   have zz:W.heap.size+1+1<=w1.heap.size:=by have:=z1;simp at this;omega
   refine Xi hn HH.out ?_ (heap_alloc_new w1 _) ((Below.heap_alloc w1 _ W.heap.size (by omega)).trans e0) ((Below.heap_alloc w1 _ (W.heap.size+1) (by omega)).trans e1) (cU.out.alloc _) ?_ ?_
   . exact ((((Below.refl _ _).alloc (Nat.le_refl _) _).alloc (by simp) _).drew.trans (jh.out.mono (by simp;omega))).alloc (by omega) _
   all_goals (simp at z1 s1 s2⊢;omega)
 . have e0:=(jh.out.block W.heap.size (by simp)).trans (heap_alloc_new W _)
   have zz:W.heap.size+1<=w1.heap.size:=by have:=z1;simp at this;omega
   refine Xi hn HH.out ?_ (td w1 _ _).2 (td w1 _ _).1 ((Below.heap_alloc _ _ _ (by simp;omega)).trans ((Below.heap_alloc w1 _ W.heap.size (by omega)).trans e0)) ((cU.out.alloc _).alloc _) ?_ ?_
   . exact (((((Below.refl _ _).alloc (Nat.le_refl _) _).drew.trans (jh.out.mono (by simp))).alloc (by omega) _).alloc (by simp;omega) _)
   all_goals (simp at z1 s1 s2⊢;omega)
 . have e0:=(jh.out.block W.heap.size (by simp;omega)).trans (td W _ _).1
   have e1:=(jh.out.block (W.heap.size+1) (by simp)).trans (td W _ _).2
   have zz:W.heap.size+1+1<=w1.heap.size:=by have:=z1;simp at this;omega
   refine Xi hn HH.out ?_ (heap_alloc_new w1 _) ((Below.heap_alloc w1 _ (W.heap.size+1) (by omega)).trans e1) ((Below.heap_alloc w1 _ W.heap.size (by omega)).trans e0) (cU.out.alloc _) ?_ ?_
   . exact ((((Below.refl _ _).alloc (Nat.le_refl _) _).alloc (by simp) _).drew.trans (jh.out.mono (by simp;omega))).alloc (by omega) _
   all_goals (simp at z1 s1 s2⊢;omega)
def Ng(n:Nat)(t:Int):Int:=if¬(1<=t/\t<=64)then 1 else if ig n≠0 then ig n else if n=0 then 3 else 0
theorem lF{n:Nat}{t:Int}(h:Ng n t=0):(1<=t/\t<=64)/\ig n=0/\0<n:=by
 unfold Ng at h;by_cases h1:1<=t/\t<=64
 . rw [if_neg (by simpa using h1)]at h;by_cases h2:ig n=0
   . rw [if_neg (by simpa using h2)]at h;by_cases h3:n=0
     . rw [if_pos h3]at h;omega
     . exact ⟨h1,h2,by omega⟩
   . rw [if_pos h2]at h;exact absurd h h2
 . rw [if_pos h1]at h;omega
theorem CJ{n:Nat}(h:ig n=0):8*(n/8)=n/\n/8<=262144:=by
 unfold ig at h
 split at h
 . omega
 . split at h<;>omega
def TY(f:Nat->Int)(n:Nat)(t:Int)(W:World)(e:Ending)(W':World):Prop:=
 Below W.heap.size W W'/\(Ng n t≠0/\e= .returned (.tuple #[.pointer none, .int .i64 (Ng n t)])\/
  Ng n t=0/\∃d kb sb wb fb c0 c1,e= .returned (.tuple #[.pointer (some ⟨d,0,none⟩), .int .i64 0])/\QC W' W.heap.size d kb sb wb fb (n/8) t.toNat c0 c1 f)
theorem mF(a:Option Addr)(b off n cap:Nat)(ha:0<n->a=some ⟨b,off,none⟩)(hn:n<=cap)(hc:cap<=9223372036854775807)(t:Int)(f:Nat->Int)(w:World)(h0:Ng n t=0)(hb:b<w.heap.size)(hw:∀j,j<n->w.cell? ⟨b,off+j,none⟩=some (.int .u64 (f j))):
  Calls Tryz.prog 43 #[.slice a n cap, .int .i64 t] w (TY f n t w):=by
 obtain ⟨h1,h2,h3⟩:=lF h0;obtain ⟨h4,h5⟩:=CJ h2;have HT:=Lib.hid (PH t w);rw [ca h1]at HT;have HC:=Lib.hid (yad a b off n cap (fun _=>ha h3) hn hc h2 f w (fun _=>hb) hw);unfold dN at HC;obtain ⟨m,hm⟩:∃m,m=n/8:=⟨_,rfl⟩;rw [<-hm]at HC;have HM:Hid (n/8=m):=Lib.hid hm.symm;obtain ⟨k,rfl⟩:=Int.eq_ofNat_of_zero_le (show 0<=t by omega);have HD:Hid (∀g c w1,w1.ownsRow w.heap.size 259 8 (.slice (some ⟨g,0,none⟩) m c) m (Fc f (8*m))->Calls Tryz.prog 104 #[.slice (some ⟨g,0,none⟩) m c, .int .i64 k] w1 (kF w.heap.size g m c k f w1)):=Lib.hid fun g c w1 h=>SY w.heap.size g m c k (by omega) (by omega) (by omega) f w1 h
 have HE:=Lib.hid h0;have TD:0<m:=by omega
 have m1:((m:Int)==0)=false:=by simp;omega
 have m2:(m==0)=false:=by simp;omega
 have HS:Hid (8*m=n):=Lib.hid (by omega);clear h0 h1 h2 h3 h4 h5 hw ha hn hc hm hb
 go_enter Tryz.func43,Tryz.ntmps43
 go_wp2_with fail
 refine HT.out.mono ?_
 rintro e w' ⟨rfl,hw⟩;cases hw
 go_wp2_with fail
 with_reducible refine HC.out.mono ?_
 rintro e w1 ⟨v,rfl,hb,ho⟩;obtain ⟨g,c,cc,rfl,-⟩:=Zf ho TD;have HB:=Lib.hid hb;have HDD:=Lib.hid (HD.out g c w1 ho);clear hb ho HD
 go_wp2_with fail
 with_reducible refine HDD.out.mono ?_
 rintro e w2 ⟨d,sb,wb,fb,c1,rfl,Ih,hd⟩;have vD:=Lib.hid Ih;have HDV:=Lib.hid hd;clear Ih hd
 go_wp2_with fail
 go_ret2
 exact ⟨HB.out.trans (vD.out.mono HB.out.size),Or.inr ⟨HE.out,d,g,sb,wb,fb,c,c1,rfl,by rw [HM.out];exact HDV.out⟩⟩
theorem XG:(Tryz.prog.info? 43).map (fun i=>(i.zero,i.size,i.bytes))=some (some (.int .u64 0),1,8):=by kernel_rfl
def Bad(d np:Nat)(W:World)(e:Ending)(W':World):Prop:=
 ∃m pb,e= .returned (.tuple #[.pointer (some ⟨m,0,none⟩), .int .i64 0])/\Below W.heap.size W W'/\W.heap.size<=m/\W.heap.size<=pb/\m≠pb/\
  ti W' m (.pointer (some ⟨d,0,none⟩)) (.slice (some ⟨pb,0,none⟩) np np) 0 0 ⟨0,0,0,0,0,false⟩/\Eb W' pb np fun _=> .int .u64 0
theorem DJ(d np:Nat)(hp:np<=262144)(w:World):Calls Tryz.prog 44 #[.pointer (some ⟨d,0,none⟩), .int .i64 np] w (Bad d np w):=by
 have yP:=en 99 43 _ _ 8 Tryz.underlying99 XG rfl np (by omega) (by omega);have d0:decide ((np:Int)<0)=false:=ea (by omega);have d1:decide (262144<(np:Int))=false:=ea (by omega);have i0:(0:Int)<=(np:Int):=by omega
 go_enter Tryz.func44,Tryz.ntmps44
 go_wp2_with fail
 go_ret2
 refine ⟨w.heap.size+1,w.heap.size,rfl,((Below.refl _ _).alloc (Nat.le_refl _) _).alloc (by simp) _,by omega,by omega,by omega,(td w _ _).2,⟨_,_,(td w _ _).1,fun k hk=>jg _ _ _ hk⟩⟩
def Mv.start(m d kb sb wb fb pb n nt np c0 c1:Nat)(f:Nat->Int):Mv:=
 {m,d,kb,sb,wb,fb,pb,n,nt,np,c0,c1,c2:=n,c3:=nt,c4:=np,kept:=f,seen:=f,pass:=fun _=>0,wr:=fun _=>0,fl:=fun _=>[],fv:=fun _=> .slice none 0 0,ck:=0,bd:=0,la:=⟨0,0,0,0,0,false⟩,wm:=0}
theorem EJ{W W':World}{B m d kb sb wb fb pb n nt np c0 c1:Nat}{f:Nat->Int}(h:QC W B d kb sb wb fb n nt c0 c1 f)(hb:Below W.heap.size W W')(hm:W.heap.size<=m)(hp:W.heap.size<=pb)(hmp:m≠pb)
  (hr:ti W' m (.pointer (some ⟨d,0,none⟩)) (.slice (some ⟨pb,0,none⟩) np np) 0 0 ⟨0,0,0,0,0,false⟩)(hpr:Eb W' pb np fun _=> .int .u64 0)(n0:0<n)(n1:n<=262144)(t1:nt<=64)(p1:np<=262144):
  Ba W' (Mv.start m d kb sb wb fb pb n nt np c0 c1 f)/\∀k,(Mv.start m d kb sb wb fb pb n nt np c0 c1 f).own k->B<=k\/W.heap.size<=k:=by
 have hd:=(Array.getElem?_eq_some_iff.1 h.dev).1
 have l1:=h.rk.lt;have l2:=h.rs.lt;have l3:=h.rw.lt;have l4:=h.rf.lt;have ap:=h.apart;refine ⟨⟨hr,(hb.block d hd).trans h.dev,h.rk.keep (hb.block _ l1),h.rs.keep (hb.block _ l2),h.rw.keep (hb.block _ l3),h.rf.keep (hb.block _ l4),hpr,fun t _=>Or.inl ⟨rfl,rfl⟩, ?_,(fun t _ g hg=>by cases hg),(fun t _ t' _ _ g hg=>by cases hg),n0,n1,t1,p1,fun t _=>List.Pairwise.nil,(fun t _ x hx=>by cases hx),Int.le_refl _,Int.le_refl _,Int.le_refl _,fun k _=>⟨Int.le_refl _,Int.le_refl _⟩⟩, ?_⟩
 . simp only [List.nodup_cons,List.mem_cons,List.not_mem_nil,or_false,not_or,List.nodup_nil,and_true,not_false_eq_true]at ap;simp only [Mv.blocks,Mv.start,List.nodup_cons,List.mem_cons,List.not_mem_nil,or_false,not_or,List.nodup_nil,and_true,not_false_eq_true];omega
 . rintro k (hk|⟨t,_,e⟩)
   . have b:=h.base;simp only [Mv.blocks,Mv.start,List.mem_cons,List.not_mem_nil,or_false]at hk;omega
   . cases e
structure Init(R:Rv)(f:Nat->Int)(n nt np:Nat):Prop where
 hn:R.n=n
 hnt:R.nt=nt
 PQ:R.np=np
 Dad:∀k,k<8*n->R.kept k=f k
 Ead:∀k,k<8*n->R.seen k=f k
 Fad:∀k,k<np->R.pass k=0
 UF:∀t,t<nt->∀j,j<n->R.fl t j=false
 ej:R.ck=0
 hbd:R.bd=0
 hla:R.la=⟨0,0,0,0,0,false⟩
def Gad(f:Nat->Int)(n nt np:Nat)(l:Nat->Acc)(k:Nat)(M:Mv)(r:Nat):Prop:=∀R,Init R f n nt np->Alike M (UI R l k).1/\r=(UI R l k).2
theorem FJ(m d kb sb wb fb pb n nt np c0 c1:Nat)(f:Nat->Int)(l:Nat->Acc):Gad f n nt np l 0 (Mv.start m d kb sb wb fb pb n nt np c0 c1 f) 0:=fun R h=>
 ⟨⟨h.hn.symm,h.hnt.symm,h.PQ.symm,fun k hk=>(h.Ead k hk).symm,fun k hk=>(h.Dad k hk).symm,fun k hk=>(h.Fad k hk).symm,fun t ht j hj=>by
   show R.fl t j=true<->(j:Int)∈([]:List Int)
   rw [h.UF t ht j hj];simp,h.ej.symm,h.hbd.symm,h.hla.symm⟩,rfl⟩
theorem Tz{w:World}{X n g cap:Nat}{f:Nat->Int}(h:w.ownsRow X 43 1 (.slice (some ⟨g,0,none⟩) n cap) n (Fc f n))(hn:0<n):Eb w g n fun k=> .int .u64 (f k):=by
 obtain ⟨g',dR,c,e1,hb,hg,jL,mK,RY⟩:=Zf h hn;cases e1;exact ⟨c,_,hg,fun k hk=>by rw [RY k (by omega)];exact Kj f _ k hk⟩
def Uz(f:Nat->Int)(n:Nat)(W:World)(e:Ending)(W':World):Prop:=∃g c,e= .returned (.slice (some ⟨g,0,none⟩) n c)/\Below W.heap.size W W'/\Eb W' g n (fun k=> .int .u64 (f k))/\W.heap.size<=g
theorem zo.to{f:Nat->Int}{n:Nat}{W W':World}{e:Ending}(h:zo f n W e W')(hn:0<n):Uz f n W e W':=by
 obtain ⟨v,rfl,hb,ho⟩:=h;obtain ⟨g,cap,c,rfl,hg,-⟩:=Zf ho hn;exact ⟨g,cap,rfl,hb,Tz ho hn,hg⟩
theorem WR(M:Mv)(W:World)(h:Ba W M):Calls Tryz.prog 49 #[.pointer (some ⟨M.d,0,none⟩)] W (Uz M.seen (8*M.n) W):=by
 have hd:=(Qd h.dev).2.1
 have HW:=Lib.hid ((iR M.sb M.n M.c1 h.n1 M.seen W h.seen).mono fun e w hw=>hw.to (by have:=h.n0;omega));clear h;generalize 8*M.n=N at*
 go_enter Tryz.func49,Tryz.ntmps49
 go_wp2_with fail
 with_reducible refine HW.out.mono ?_
 rintro e w ⟨g,c,rfl,hb,hr,hg⟩;have H:=Lib.hid (And.intro hb (And.intro hr hg));clear hb hr hg
 go_wp2_with fail
 go_ret
 exact ⟨g,c,rfl,H.out.1,H.out.2⟩
structure Nk(W0 wr:World)(D:Nat)(kv sv wv fv:Value)(k j:Nat)(f:Nat->Int):Prop where
 row:wr.heap[D]?=some (.cells #[kv,sv,wv,fv] 148 (0,0))
 kept:wr.ownsRow W0.heap.size 43 1 kv k (Fc f k)
 seen:wr.ownsRow W0.heap.size 43 1 sv j (Fc f j)
 base:W0.heap.size<=D
 n1:kv.ownBlock≠some D
 n2:sv.ownBlock≠some D
 n3:∀g,kv.ownBlock=some g->sv.ownBlock≠some g
 below:Below W0.heap.size W0 wr
theorem tq(f:Nat->Int)(k:Nat):Fc f (k+1)=Fc f k++[.int .u64 (f k)]:=by
 unfold Fc;rw [List.range_succ,List.map_append];rfl
theorem Nk.Had{W0 wr w1:World}{D:Nat}{kv sv wv fv v':Value}{k j:Nat}{f:Nat->Int}(h:Nk W0 wr D kv sv wv fv k j f){w:World}(hb:Below wr.heap.size wr w)(ho:w1.ownsRow W0.heap.size 43 1 v' (k+1) (Fc f k++[.int .u64 (f k)]))(hg:w.grownBy w1 kv.ownBlock)
  (hv:v'.ownBlock=kv.ownBlock\/v'.ownBlock=some w.heap.size):Nk W0 (w1.setCell ⟨D,0,none⟩ v') D v' sv wv fv (k+1) j f:=by
 have hD:=(Array.getElem?_eq_some_iff.1 h.row).1
 have s1:=hb.size;have s2:=hg.size;have kA:∀g,g<wr.heap.size->kv.ownBlock≠some g->w1.heap[g]?=wr.heap[g]?:=fun g hl e=>(hg.block g (by omega) (Ne.symm e)).trans (hb.block g hl)
 have ns:∀g,sv.ownBlock=some g->kv.ownBlock≠some g:=fun g a b=>h.n3 g b a
 refine ⟨?_,Pf (by rw [tq];exact ho) fun g e=>aa fun e2=> ?_,Pf h.seen fun g e=>(aa fun(e2:g=D)=>h.n2 (e2▸e)).trans (kA g (xf h.seen e).2 (ns g e)),h.base, ?_,h.n2,fun g e=> ?_, ?_⟩
 . have:=heap_set (j:=0) v' ((kA D hD h.n1).trans h.row)
   simpa using this
 . subst e2;rcases hv with q|q
   . exact h.n1 (by rw [<-q];exact e)
   . rw [q]at e;cases e;omega
 . intro e;rcases hv with q|q
   . exact h.n1 (by rw [<-q];exact e)
   . rw [q]at e;cases e;omega
 . rcases hv with q|q
   . exact h.n3 g (by rw [<-q];exact e)
   . rw [q]at e;cases e;intro e2;have:=(xf h.seen e2).2;omega
 . exact ((h.below.trans (hb.mono h.below.size)).grown hg (by have:=h.below.size;omega) (fun q e=>(xf h.kept e).1)).setCell h.base _
theorem Nk.Iad{W0 wr w1:World}{D:Nat}{kv sv wv fv v':Value}{k j:Nat}{f:Nat->Int}(h:Nk W0 wr D kv sv wv fv k j f){w:World}(hb:Below wr.heap.size wr w)(ho:w1.ownsRow W0.heap.size 43 1 v' (j+1) (Fc f j++[.int .u64 (f j)]))(hg:w.grownBy w1 sv.ownBlock)
  (hv:v'.ownBlock=sv.ownBlock\/v'.ownBlock=some w.heap.size):Nk W0 (w1.setCell ⟨D,1,none⟩ v') D kv v' wv fv k (j+1) f:=by
 have hD:=(Array.getElem?_eq_some_iff.1 h.row).1
 have s1:=hb.size;have s2:=hg.size;have kA:∀g,g<wr.heap.size->sv.ownBlock≠some g->w1.heap[g]?=wr.heap[g]?:=fun g hl e=>(hg.block g (by omega) (Ne.symm e)).trans (hb.block g hl)
 refine ⟨?_,Pf h.kept fun g e=>(aa fun(e2:g=D)=>h.n1 (e2▸e)).trans (kA g (xf h.kept e).2 (h.n3 g e)),Pf (by rw [tq];exact ho) fun g e=>aa fun e2=> ?_,h.base,h.n1, ?_,fun g e=> ?_, ?_⟩
 . have:=heap_set (j:=1) v' ((kA D hD h.n2).trans h.row)
   simpa using this
 . subst e2;rcases hv with q|q
   . exact h.n2 (by rw [<-q];exact e)
   . rw [q]at e;cases e;omega
 . intro e;rcases hv with q|q
   . exact h.n2 (by rw [<-q];exact e)
   . rw [q]at e;cases e;omega
 . rcases hv with q|q
   . rw [q];exact h.n3 g e
   . rw [q];intro e2;cases e2;have:=(xf h.kept e).2;omega
 . exact ((h.below.trans (hb.mono h.below.size)).grown hg (by have:=h.below.size;omega) (fun q e=>(xf h.seen e).1)).setCell h.base _
end Go.Proofs.YtfnkmolffhfpoaaGreat
