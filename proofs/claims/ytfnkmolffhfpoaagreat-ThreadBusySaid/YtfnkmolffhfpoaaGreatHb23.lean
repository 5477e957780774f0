/- -/
import Derived.Test.YtfnkmolffhfpoaaGreatHb1
import Derived.Test.YtfnkmolffhfpoaaGreatHb22
import Derived.Test.YtfnkmolffhfpoaaGreatHb18
import Derived.Test.YtfnkmolffhfpoaaGreatHb2
import Derived.Test.YtfnkmolffhfpoaaGreatHb20
import Derived.IntWalk
import Derived.RangeFuncNested
import Derived.RangeFuncBound
import Derived.RangeFuncCalls
import Derived.RangeFuncLeaves
import Derived.WalkKit
import Derived.OwnWalkIn
import Derived.TacticsInMore
import Derived.LoopNIn
import Derived.LoopIn
import Derived.Sort.LoopGhostIn
import Derived.OrdersIn
import Derived.Maps.AppendAt
import Derived.Test.YtfnkmolffhfpoaaGreatHb21
set_option linter.unusedVariables false
set_option linter.unusedSimpArgs false
namespace Go.Proofs.YtfnkmolffhfpoaaGreat
open Go.RowKit Go.BigFrame
structure Lv where
 th:Int
 sl:Int
 lo:Int
 bu:Int
 pt:Int
 pl:Int
 ls:Int
 ps:Int
 ln:Int
structure Lv.Ok(v:Lv):Prop where
 WI:0<=v.th
 dM:v.th<=64
 qK:0<=v.sl
 IT:v.sl<=65536
 GP:0<=v.lo
 UX:v.lo<=64
 XI:0<=v.bu
 JT:v.bu<=64
 fR:0<=v.pt
 VX:v.pt<=100
 KT:0<=v.pl
 WX:v.pl<=200
 MT:0<=v.ls
 NT:v.ls<=8
 OT:0<=v.ps
 wL:v.ps<=1000
 YI:0<=v.ln
 ZI:v.ln<=100000
structure Ac(W:World)(l:Nat)(v:Lv):Prop where
 row:W.heap[l]?=some (.cells #[.int .i64 v.th, .int .i64 v.sl, .int .i64 v.lo, .int .i64 v.bu, .int .i64 v.pt, .int .i64 v.pl, .int .i64 v.ls, .int .i64 v.ps, .int .i64 v.ln] 174 (0,0))
 ok:v.Ok
theorem Ac.lt{W:World}{l:Nat}{v:Lv}(h:Ac W l v):l<W.heap.size:=(Array.getElem?_eq_some_iff.1 h.row).1
theorem Ac.keep{W W':World}{l:Nat}{v:Lv}(h:Ac W l v)(e:W'.heap[l]?=W.heap[l]?):Ac W' l v:=⟨e.trans h.row,h.ok⟩
theorem Jk(l:Nat)(v:Lv)(w:World)(h:Ac w l v):Calls Tryz.prog 240 #[.pointer (some ⟨l,0,none⟩)] w (Rc (.agg #[.int .i64 v.th, .int .i64 v.sl, .int .i64 v.lo, .int .i64 v.bu]) w):=by
 have hl:=h.lt;have Jc:l≠w.heap.size:=by omega
 have Qy:w.heap.size≠l:=by omega
 obtain ⟨l0,l1,l2,l3,l4,l5,l6,l7,l8,lf⟩:=Aw h.row;obtain ⟨th,sl,lo,bu,pt,pl,ls,ps,ln⟩:=v;obtain ⟨WI,dM,qK,IT,GP,UX,XI,JT,fR,VX,KT,WX,MT,NT,OT,wL,YI,ZI⟩:=h.ok;simp only at*;clear h
 go_enter Tryz.func240,Tryz.ntmps240
 go_wp2_with fail
 have hh:=heap_alloc_new w (.cells #[.int .i64 th, .int .i64 sl, .int .i64 lo, .int .i64 bu] 23);have z0:=cell_of_row _ _ 0 _ _ _ hh;have z1:=cell_of_row _ _ 1 _ _ _ hh;have z2:=cell_of_row _ _ 2 _ _ _ hh;have z3:=cell_of_row _ _ 3 _ _ _ hh;refine bodyPost_ret (v:= .agg #[.int .i64 th, .int .i64 sl, .int .i64 lo, .int .i64 bu]) (by simp [results,Tryz.results240,go_sem,z0,z1,z2,z3]) rfl ⟨rfl,(Below.refl _ _).alloc (Nat.le_refl _) _⟩
theorem El(l:Nat)(v:Lv)(w:World)(h:Ac w l v):Calls Tryz.prog 264 #[.pointer (some ⟨l,0,none⟩)] w (Rb (.int .i64 v.ln) w):=by
 have hl:=h.lt;have Jc:l≠w.heap.size:=by omega
 have Qy:w.heap.size≠l:=by omega
 obtain ⟨l0,l1,l2,l3,l4,l5,l6,l7,l8,lf⟩:=Aw h.row;obtain ⟨th,sl,lo,bu,pt,pl,ls,ps,ln⟩:=v;obtain ⟨WI,dM,qK,IT,GP,UX,XI,JT,fR,VX,KT,WX,MT,NT,OT,wL,YI,ZI⟩:=h.ok;simp only at*;clear h
 go_enter Tryz.func264,Tryz.ntmps264
 go_wp2_with fail
 go_ret
 exact ⟨rfl,rfl⟩
theorem xo(l:Nat)(n:Int)(h0:0<=n)(h1:n<=1000000)(w:World):Calls Tryz.prog 213 #[.pointer (some ⟨l,0,none⟩), .int .i64 n] w (Rb (.int .i64 (n*8)) w):=by
 go_enter Tryz.func213,Tryz.ntmps213
 go_wp2_with fail
 go_ret
 exact ⟨rfl,rfl⟩
theorem Kap(l:Nat)(w:World):Calls Tryz.prog 129 #[.pointer (some ⟨l,0,none⟩)] w (Rb (.int .i64 16) w):=by
 have HL:=Lib.hid fun w=>xo l 2 (by omega) (by omega) w
 go_enter Tryz.func129,Tryz.ntmps129
 go_wp2_with fail
 refine (HL.out _).mono ?_
 rintro e w1 ⟨rfl,rfl⟩
 go_wp2_with fail
 go_ret
 exact ⟨rfl,rfl⟩
theorem Lap(l:Nat)(w:World):Calls Tryz.prog 266 #[.pointer (some ⟨l,0,none⟩)] w (Rb (.int .i64 32) w):=by
 have HL:=Lib.hid fun w=>xo l 4 (by omega) (by omega) w
 go_enter Tryz.func266,Tryz.ntmps266
 go_wp2_with fail
 refine (HL.out _).mono ?_
 rintro e w1 ⟨rfl,rfl⟩
 go_wp2_with fail
 go_ret
 exact ⟨rfl,rfl⟩
theorem Ral(l:Nat)(w:World):Calls Tryz.prog 115 #[.pointer (some ⟨l,0,none⟩)] w (Rb (.int .i64 24) w):=by
 have HL:=Lib.hid fun w=>xo l 3 (by omega) (by omega) w
 go_enter Tryz.func115,Tryz.ntmps115
 go_wp2_with fail
 refine (HL.out _).mono ?_
 rintro e w1 ⟨rfl,rfl⟩
 go_wp2_with fail
 go_ret
 exact ⟨rfl,rfl⟩
def hasB(n m:Int):Bool:=decide (0<=n/\n<m)
theorem Bp(n m:Int)(w:World):Calls Tryz.prog 263 #[.int .i64 n, .int .i64 m] w (Rb (.bool (hasB n m)) w):=by
 by_cases h:0<=n
 . have d1:decide (0<=n)=true:=ca h;have e:hasB n m=decide (n<m):=by simp [hasB,h]
   rw [e]
   go_enter Tryz.func263,Tryz.ntmps263
   go_wp2_with fail
   go_ret
   exact ⟨rfl,rfl⟩
 . have d1:decide (0<=n)=false:=ea h;have e:hasB n m=false:=by simp [hasB,h]
   rw [e]
   go_enter Tryz.func263,Tryz.ntmps263
   go_wp2_with fail
   go_ret
   exact ⟨rfl,rfl⟩
def Lv.word(v:Lv)(n many first size at_:Int):Int:=if hasB n many then(first+size*n)*8+at_ else v.ln*8
theorem oC(l:Nat)(v:Lv)(n many first size at_:Int)(hh:hasB n many=true)(hm:many<=100000)(f0:0<=first)(f1:first<=100000)(s0:0<=size)(s1:size<=8)(a0:0<=at_)(a1:at_<=100)(w:World)(h:Ac w l v):
  Calls Tryz.prog 282 #[.pointer (some ⟨l,0,none⟩), .int .i64 n, .int .i64 many, .int .i64 first, .int .i64 size, .int .i64 at_] w (Rb (.int .i64 ((first+size*n)*8+at_)) w):=by
 have HH:Hid (∀w,Calls Tryz.prog 263 #[.int .i64 n, .int .i64 many] w (Rb (.bool true) w)):=Lib.hid fun w=>by rw [<-hh];exact Bp n many w
 have hn:0<=n/\n<many:=by simpa [hasB]using hh
 obtain ⟨n0,n1⟩:=hn;have m0:0<=size*n:=Int.mul_nonneg s0 n0;have m1:size*n<=800000:=by
  have:=Int.mul_le_mul s1 (show n<=100000 by omega) n0 (by omega);omega
 clear hh h
 go_enter Tryz.func282,Tryz.ntmps282
 go_wp2_with fail
 refine (HH.out _).mono ?_
 rintro e w1 ⟨rfl,rfl⟩
 go_wp2_with fail
 go_ret
 exact ⟨rfl,rfl⟩
theorem AE(l:Nat)(v:Lv)(n many first size at_:Int)(hh:hasB n many=false)(w:World)(h:Ac w l v):
  Calls Tryz.prog 282 #[.pointer (some ⟨l,0,none⟩), .int .i64 n, .int .i64 many, .int .i64 first, .int .i64 size, .int .i64 at_] w (Rb (.int .i64 (v.ln*8)) w):=by
 have HH:Hid (∀w,Calls Tryz.prog 263 #[.int .i64 n, .int .i64 many] w (Rb (.bool false) w)):=Lib.hid fun w=>by rw [<-hh];exact Bp n many w
 have HL:=Lib.hid (El l v w h);obtain ⟨n0,n1⟩:=(show 0<=v.ln/\v.ln<=100000 from⟨h.ok.YI,h.ok.ZI⟩);clear hh h;generalize v.ln=ln at*
 go_enter Tryz.func282,Tryz.ntmps282
 go_wp2_with fail
 refine (HH.out _).mono ?_
 rintro e w1 ⟨rfl,rfl⟩
 go_wp2_with fail
 refine (HL.out).mono ?_
 rintro e w1 ⟨rfl,rfl⟩
 go_wp2_with fail
 go_ret
 exact ⟨rfl,rfl⟩
theorem Az(l:Nat)(v:Lv)(n many first size at_:Int)(hm:many<=100000)(f0:0<=first)(f1:first<=100000)(s0:0<=size)(s1:size<=8)(a0:0<=at_)(a1:at_<=100)(w:World)(h:Ac w l v):
  Calls Tryz.prog 282 #[.pointer (some ⟨l,0,none⟩), .int .i64 n, .int .i64 many, .int .i64 first, .int .i64 size, .int .i64 at_] w (Rb (.int .i64 (v.word n many first size at_)) w):=by
 unfold Lv.word;cases hh:hasB n many with
 |true=>exact oC l v n many first size at_ hh hm f0 f1 s0 s1 a0 a1 w h
 |false=>exact AE l v n many first size at_ hh w h
def Lv.slot(v:Lv)(s at_:Int):Int:=v.word s v.sl v.ps 1 at_
theorem yo(l:Nat)(v:Lv)(s at_:Int)(a0:0<=at_)(a1:at_<=100)(w:World)(h:Ac w l v):
  Calls Tryz.prog 220 #[.pointer (some ⟨l,0,none⟩), .int .i64 s, .int .i64 at_] w (fj (.int .i64 (v.slot s at_)) w):=by
 have HW:Hid (∀w,Ac w l v->Calls Tryz.prog 282 #[.pointer (some ⟨l,0,none⟩), .int .i64 s, .int .i64 v.sl, .int .i64 v.ps, .int .i64 1, .int .i64 at_] w (Rb (.int .i64 (v.slot s at_)) w)):=Lib.hid fun w h=>
  Az l v s v.sl v.ps 1 at_ (by have:=h.ok.IT;omega) h.ok.OT (by have:=h.ok.wL;omega) (by omega) (by omega) a0 a1 w h
 have HL:=Lib.hid h;obtain ⟨l0,l1,l2,l3,l4,l5,l6,l7,l8,lf⟩:=Aw h.row;clear h;generalize v.slot s at_=r at*;generalize v.sl=sl at*;generalize v.ps=ps at*
 go_enter Tryz.func220,Tryz.ntmps220
 go_wp2_with fail
 go_quiet ((go_at_call 282;exact Calls.quiet_of_same (HW.out _ (HL.out.keep rfl))))
 go_wp2_with fail
 go_ret
 exact ⟨rfl,_,rfl⟩
theorem iac(l:Nat)(v:Lv)(s:Int)(w:World)(h:Ac w l v):Calls Tryz.prog 341 #[.pointer (some ⟨l,0,none⟩), .int .i64 s] w (fj (.int .i64 (v.slot s 1)) w):=by
 have HS:=Lib.hid (yo l v s 1 (by omega) (by omega) w h);clear h
 go_enter Tryz.func341,Tryz.ntmps341
 go_wp2_with fail
 refine HS.out.mono ?_
 rintro e w1 ⟨rfl,n,rfl⟩
 go_wp2_with fail
 go_ret
 exact ⟨rfl,n,rfl⟩
theorem jac(l:Nat)(v:Lv)(s:Int)(w:World)(h:Ac w l v):Calls Tryz.prog 133 #[.pointer (some ⟨l,0,none⟩), .int .i64 s] w (fj (.int .i64 (v.slot s 2)) w):=by
 have HS:=Lib.hid (yo l v s 2 (by omega) (by omega) w h);clear h
 go_enter Tryz.func133,Tryz.ntmps133
 go_wp2_with fail
 refine HS.out.mono ?_
 rintro e w1 ⟨rfl,n,rfl⟩
 go_wp2_with fail
 go_ret
 exact ⟨rfl,n,rfl⟩
theorem XX(l:Nat)(v:Lv)(s:Int)(w:World)(h:Ac w l v):Calls Tryz.prog 211 #[.pointer (some ⟨l,0,none⟩), .int .i64 s] w (fj (.int .i64 (v.slot s 3)) w):=by
 have HS:=Lib.hid (yo l v s 3 (by omega) (by omega) w h);clear h
 go_enter Tryz.func211,Tryz.ntmps211
 go_wp2_with fail
 refine HS.out.mono ?_
 rintro e w1 ⟨rfl,n,rfl⟩
 go_wp2_with fail
 go_ret
 exact ⟨rfl,n,rfl⟩
theorem YX(l:Nat)(v:Lv)(s:Int)(w:World)(h:Ac w l v):Calls Tryz.prog 212 #[.pointer (some ⟨l,0,none⟩), .int .i64 s] w (fj (.int .i64 (v.slot s 4)) w):=by
 have HS:=Lib.hid (yo l v s 4 (by omega) (by omega) w h);clear h
 go_enter Tryz.func212,Tryz.ntmps212
 go_wp2_with fail
 refine HS.out.mono ?_
 rintro e w1 ⟨rfl,n,rfl⟩
 go_wp2_with fail
 go_ret
 exact ⟨rfl,n,rfl⟩
theorem ZX(l:Nat)(v:Lv)(s:Int)(w:World)(h:Ac w l v):Calls Tryz.prog 343 #[.pointer (some ⟨l,0,none⟩), .int .i64 s] w (fj (.int .i64 (v.slot s 0)) w):=by
 have HS:=Lib.hid (yo l v s 0 (by omega) (by omega) w h);clear h
 go_enter Tryz.func343,Tryz.ntmps343
 go_wp2_with fail
 refine HS.out.mono ?_
 rintro e w1 ⟨rfl,n,rfl⟩
 go_wp2_with fail
 go_ret
 exact ⟨rfl,n,rfl⟩
def jb(n:Int):Int:=(n+7)/8
theorem ct(n:Int)(h0:0<=n)(h1:n<=1000000)(w:World):Calls Tryz.prog 100 #[.int .i64 n] w (Rb (.int .i64 (jb n)) w):=by
 have HC:Hid ((n+8 -1)/8=jb n):=Lib.hid (by unfold jb;omega);have HD:Hid ((n+7)/8=jb n):=Lib.hid rfl
 go_enter Tryz.func100,Tryz.ntmps100
 go_wp2_with fail
 go_ret
 exact ⟨Fa (by first|exact HC.out|exact HD.out),rfl⟩
theorem BE(a n:Int)(b:Nat)(a0:0<=a)(a1:a<=10000000)(n0:0<=n)(n1:n<=10000000)(w:World)(h:w.cell? ⟨b,0,none⟩=some (.int .i64 a))(hf:w.frozen? ⟨b,0,none⟩=false):
  Calls Tryz.prog 99 #[.int .i64 n, .pointer (some ⟨b,0,none⟩)] w fun e w'=>e= .returned (.int .i64 a)/\w'=w.setCell ⟨b,0,none⟩ (.int .i64 (a+n)):=by
 have HE:Hid (a+n -n=a):=Lib.hid (by omega);have hc:=Hk (.int .i64 (a+n)) h
 go_enter Tryz.func99,Tryz.ntmps99
 go_wp2_with fail
 go_ret
 exact ⟨Fa (by first|rfl|exact HE.out|omega),rfl⟩
theorem Nq.eM{p B:Nat}{w w':World}(h:Nq p w w')(hp:B<=p)(hs:B<=w.heap.size):Below B w w':=⟨h.os,h.tape,h.output,h.size,fun k hk=>h.block k (by omega) (by omega)⟩
theorem CG(a n:Int)(b:Nat)(a0:0<=a)(a1:a<=10000000)(n0:0<=n)(n1:n<=10000000)(w:World)(h:w.heap[b]?=some (.cells #[.int .i64 a] 3 (0,0))):
  Calls Tryz.prog 99 #[.int .i64 n, .pointer (some ⟨b,0,none⟩)] w fun e w'=>e= .returned (.int .i64 a)/\w'.heap[b]?=some (.cells #[.int .i64 (a+n)] 3 (0,0))/\Nq b w w':=by
 refine (BE a n b a0 a1 n0 n1 w (ga h 0 _ rfl) (Ci h 0)).mono ?_
 rintro e w' ⟨rfl,rfl⟩;exact ⟨rfl,heap_set _ h,⟨rfl,rfl,rfl,by simp [World.setCell],fun k _ hk=>aa hk⟩⟩
def Dc.lv(c:Dc):Lv:=
 {th:=c.th,sl:=c.sl,lo:=c.lo,bu:=c.bu,pt:=5+jb c.bu,pl:=5+jb c.bu+c.th,ls:=jb c.lo,
  ps:=5+jb c.bu+c.th+c.th*jb c.lo,ln:=5+jb c.bu+c.th+c.th*jb c.lo+c.sl}
theorem CE(a b m n:Int)(a0:0<=a)(a1:a<=m)(b0:0<=b)(b1:b<=n):0<=a*b/\a*b<=m*n:=
 ⟨Int.mul_nonneg a0 b0,Int.le_trans (Int.mul_le_mul_of_nonneg_right a1 b0) (Int.mul_le_mul_of_nonneg_left b1 (by omega))⟩
theorem Dc.PT(c:Dc)(h:c.right):c.lv.Ok:=by
 obtain ⟨h1,h2,h3,h4,h5,h6,h7,h8⟩:=h;have b0:0<=jb c.bu/\jb c.bu<=8:=by unfold jb;omega
 have l0:0<=jb c.lo/\jb c.lo<=8:=by unfold jb;omega
 have m:=CE c.th (jb c.lo) 64 8 (by omega) h2 l0.1 l0.2
 unfold Dc.lv;constructor<;>simp only<;>omega
def Nap(v:Lv)(W:World)(e:Ending)(W':World):Prop:=∃l,e= .returned (.tuple #[.pointer (some ⟨l,0,none⟩), .int .i64 0])/\Below W.heap.size W W'/\W.heap.size<=l/\Ac W' l v
set_option maxRecDepth 100000 in
set_option maxHeartbeats 1000000 in
theorem Oap(c:Dc)(h:c.right)(w:World):Calls Tryz.prog 40 #[.agg c.cells] w (Nap c.lv w):=by
 have HR:Hid (∀w,Calls Tryz.prog 98 #[.agg c.cells] w (xz true w)):=Lib.hid fun w=>by have:=VI c w;rw [ca h]at this;exact this
 have HOK:=Lib.hid (c.PT h);obtain ⟨h1,h2,h3,h4,h5,h6,h7,h8⟩:=h;have b0:0<=jb c.bu/\jb c.bu<=8:=by unfold jb;omega
 have l0:0<=jb c.lo/\jb c.lo<=8:=by unfold jb;omega
 have m:=CE c.th (jb c.lo) 64 8 (by omega) h2 l0.1 l0.2
 have HB:=Lib.hid fun w=>ct c.bu (by omega) (by omega) w
 have HL:=Lib.hid fun w=>ct c.lo (by omega) (by omega) w
 unfold Dc.lv at*;obtain ⟨th,sl,lo,bu⟩:=c;simp only [Dc.cells]at*;generalize jb bu=nb at*;generalize jb lo=nl at*;obtain ⟨b0,b1⟩:=b0;obtain ⟨l0,l1⟩:=l0;obtain ⟨m0,m1⟩:=m
 go_enter Tryz.func40,Tryz.ntmps40
 go_wp2_with fail
 refine (HR.out _).mono ?_
 rintro e w1 ⟨rfl,hb⟩;have jh:Hid (Below w.heap.size w w1):=Lib.hid (((Below.refl _ _).alloc (Nat.le_refl _) _).trans (hb.mono (by simp)));have HS:Hid (w.heap.size<w1.heap.size):=Lib.hid (by have:=hb.size;simp at this;omega);have HC:Hid (w1.heap[w.heap.size]?=some (.cells #[.int .i64 th, .int .i64 sl, .int .i64 lo, .int .i64 bu] 23)):=Lib.hid ((hb.block _ (by simp)).trans (heap_alloc_new w _));obtain ⟨c0,c1,c2,c3,cf⟩:=A3 HC.out;have hs:=HS.out;clear hb
 go_wp2_with fail
 refine (HB.out _).mono ?_
 rintro e w2 ⟨rfl,rfl⟩
 go_wp2_with fail
 refine (BE 5 nb w1.heap.size (by omega) (by omega) b0 (by omega) _ (by simp) (by simp)).mono ?_
 rintro e w2 ⟨rfl,rfl⟩
 go_wp2_with fail
 refine QA 5 (by kernel_rfl) (by kernel_rfl) ?_
 simp only [List.take_succ_cons,List.take_zero,List.drop_succ_cons,List.drop_zero]
 still_step
 still_step
 still_step
 still_call (HL.out _)
 still_step
 refine wpStill_nil ?_
 go_wp2_with fail
 refine (BE (5+nb) th w1.heap.size (by omega) (by omega) (by omega) (by omega) _ (by simp) (by simp)).mono ?_
 rintro e w2 ⟨rfl,rfl⟩
 go_wp2_with fail
 obtain ⟨W3,h3⟩:∃W3,W3=World.drew ((w1.alloc (.cells #[.int .i64 (5+nb+th)] 3)).alloc (.cells #[.int .i64 th, .int .i64 sl, .int .i64 lo, .int .i64 bu, .int .i64 (5+nb), .int .i64 0, .int .i64 nl, .int .i64 0, .int .i64 0] 174)):=⟨_,rfl⟩;rw [<-h3];have e3:W3.heap=((w1.alloc (.cells #[.int .i64 (5+nb+th)] 3)).alloc (.cells #[.int .i64 th, .int .i64 sl, .int .i64 lo, .int .i64 bu, .int .i64 (5+nb), .int .i64 0, .int .i64 nl, .int .i64 0, .int .i64 0] 174)).heap:=by rw [h3];rfl
 have HA:Hid (W3.heap[w1.heap.size]?=some (.cells #[.int .i64 (5+nb+th)] 3)):=Lib.hid (by rw [e3];exact (td w1 _ _).1);have rK:Hid (W3.heap[w1.heap.size+1]?=some (.cells #[.int .i64 th, .int .i64 sl, .int .i64 lo, .int .i64 bu, .int .i64 (5+nb), .int .i64 0, .int .i64 nl, .int .i64 0, .int .i64 0] 174)):=Lib.hid (by rw [e3];exact (td w1 _ _).2);have HC3:Hid (W3.heap[w.heap.size]?=some (.cells #[.int .i64 th, .int .i64 sl, .int .i64 lo, .int .i64 bu] 23)):=Lib.hid (by rw [e3,Below.heap_alloc _ _ _ (by simp;omega),Below.heap_alloc _ _ _ hs];exact HC.out);have HB3:Hid (Below w.heap.size w W3):=Lib.hid (by rw [h3];exact ((jh.out.alloc jh.out.size _).alloc (by have:=jh.out.size;simp;omega) _).drew);obtain ⟨A,hA⟩:∃A,A=w1.heap.size:=⟨_,rfl⟩;rw [<-hA]at HA rK hs⊢;have hw:w.heap.size<=A:=by omega
 have C2:Hid (w.heap.size<=A):=Lib.hid hw;clear h3 e3 c0 c1 c2 c3 cf HC jh HS hA;obtain ⟨C,hC⟩:∃C,C=w.heap.size:=⟨_,rfl⟩;rw [<-hC]at HC3 hs⊢;clear hC hw;have q0:=ga HC3.out 0 _ rfl;have q1:=ga HC3.out 1 _ rfl;have q2:=ga rK.out 2 _ rfl;have q4:=ga rK.out 4 _ rfl;have q6:=ga rK.out 6 _ rfl;have q7:=ga rK.out 7 _ rfl;have q8:=ga rK.out 8 _ rfl;have qf:=Ci rK.out;have hw2:IntKind.i64.wrap (th*nl)=th*nl:=IntWalk.i64_in _ (by omega);have Jc:C≠A:=by omega
 have Qy:A≠C:=by omega
 have lac:=Lib.hid fun w h=>CG (5+nb+th) (th*nl) A (by omega) (by omega) m0 (by omega) w h
 have HAS:Hid (A+1<W3.heap.size):=Lib.hid (Mb rK.out);refine vg 1 8 (by kernel_rfl) (by kernel_rfl) (fun _ _ d _ _ h=>by cases d<;>exact h) ?_
 simp only [List.take_succ_cons,List.take_zero,List.drop_succ_cons,List.drop_zero,Nat.reduceAdd]
 repeat (first|go_big_quiet_skip|(go_big_quiet_want;go_big_quiet_op;go_big_quiet_on))
 refine wpQuiet_nil ?_
 repeat (first|go_big_quiet_skip|(go_big_quiet_want;go_big_quiet_op;go_big_quiet_on))
 refine wpQuiet_nil ?_
 rintro _ ⟨k,rfl⟩
 go_wp2_with fail
 refine (lac.out _ (by exact HA.out)).mono ?_
 rintro e w2 ⟨rfl,ha2,Ih⟩;have eC:=Lib.hid ha2;have aY:=Lib.hid ((Ih.block (A+1) HAS.out (by omega)).trans rK.out);have HC4:=Lib.hid ((Ih.block C (by have:=HAS.out;show C<W3.heap.size;omega) Jc).trans HC3.out);have IP:=Lib.hid ((zb HB3.out k).trans (Nq.eM Ih C2.out HB3.out.size));clear ha2 Ih q0 q1 q2 q4 q6 q7 q8 qf hw2 lac HB3 rK HC3 HA;have q1:=ga HC4.out 1 _ rfl;have q2:=ga aY.out 5 _ rfl;have qf:=Ci aY.out
 go_wp2_with fail
 obtain ⟨W5,h5⟩:∃W5,W5=w2.setCell ⟨A+1,5,none⟩ (.int .i64 (5+nb+th)):=⟨_,rfl⟩;rw [<-h5];have HA5:Hid (W5.heap[A]?=some (.cells #[.int .i64 (5+nb+th+th*nl)] 3)):=Lib.hid (by rw [h5];exact (aa (by omega)).trans eC.out);have D2:Hid (W5.heap[A+1]?=some (.cells #[.int .i64 th, .int .i64 sl, .int .i64 lo, .int .i64 bu, .int .i64 (5+nb), .int .i64 (5+nb+th), .int .i64 nl, .int .i64 0, .int .i64 0] 174)):=Lib.hid (by rw [h5];exact heap_set _ aY.out);have bY:Hid (Below w.heap.size w W5):=Lib.hid (by rw [h5];exact IP.out.setCell (by have:=C2.out;simp;omega) _);clear h5 q1 q2 qf IP aY eC;refine (CG (5+nb+th+th*nl) sl A (by omega) (by omega) (by omega) (by omega) W5 HA5.out).mono ?_
 rintro e w6 ⟨rfl,ha6,hb6⟩;have HA6:=Lib.hid ha6;have cY:=Lib.hid ((hb6.block (A+1) (Mb D2.out) (by omega)).trans D2.out);have HB6:=Lib.hid (bY.out.trans (Nq.eM hb6 C2.out bY.out.size));clear ha6 hb6 bY D2 HA5;have q0:=ga HA6.out 0 _ rfl;have q7:=ga cY.out 7 _ rfl;have q8:=ga cY.out 8 _ rfl;have qf:=Ci cY.out
 go_wp2_with fail
 go_ret2
 refine ⟨A+1,rfl, ?_,by have:=C2.out;omega,⟨?_,HOK.out⟩⟩
 . exact (HB6.out.setCell (by have:=C2.out;simp;omega) _).setCell (by have:=C2.out;simp;omega) _
 . exact heap_set _ (heap_set _ cY.out)
end Go.Proofs.YtfnkmolffhfpoaaGreat
namespace Go.Proofs.YtfnkmolffhfpoaaGreat
open Go.RowKit
theorem pC{n:Nat}{P:Program}{row:String}{args:Array Value}{w:World}{R:Value->World->Prop}(h:Rows P row args w R):RowsIn Fence.wide n P row args w R:=
 fun c cs _=>by
  obtain ⟨v,w',r,s⟩:=h c cs;exact ⟨v,w',r,stepsIn_wide.2 s⟩
theorem gR{P:Program}{o:Oper}{a:Act}{w:World}{K:Act->World->Prop}{Q:Exit->Act->World->Prop}{l n:Nat}(hd:∀c,o.op≠ .defer c)(h:o.wp P a w K Q):o.wpIn (Fence.wide.inRound l) n P a w K Q:=by
 refine ⟨fun _ _=>trivial, ?_⟩;unfold Oper.wp at h;rw [show(o.semAt (Fence.wide.inRound l).round a.eval)=execOp a.eval o from Oper.semAt_eq _ _ _ hd];generalize (execOp a.eval o).run P w=r at*
 cases r with
 |ok x w'=>
  cases x<;>first
   |exact h
   |exact ⟨(fun e=>by cases e),CallsIn.inRound l (callsIn_wide.2 h)⟩
   |exact ⟨(fun e=>by cases e),pC h⟩
   |exact h.elim
 |halt x w'=>cases x<;>exact h
theorem dY{P:Program}{md:Region.Mode}{ops:Array Oper}{Q:Exit->Act->World->Prop}{l n:Nat}(hd:∀(i:Nat) (o:Oper),ops[i]?=some o->∀c,o.op≠ .defer c)(hQ:¬LetsOut Q):
  ∀(fuel:Nat) (ba:Array Bool) (a:Act) (w:World),wpAny P md ops Q fuel ba a w->wpAnyIn (Fence.wide.inRound l) n P md ops Q fuel ba a w:=by
 intro fuel
 induction fuel with
 |zero=>intro ba a w h;exact h
 |succ fuel ih=>
  intro ba a w h;refine ⟨h.1,fun i hi=> ?_⟩;have hs:=h.2 i hi
  unfold wpOp at hs;unfold wpOpIn;cases ho:ops[i]?with
  |none=>rw [ho]at hs;exact ih _ _ _ hs
  |some o=>
   rw [ho]at hs;simp only at hs⊢
   split
   . rename_i hw;rw [if_pos hw]at hs;rcases hs with hs|⟨-,hs⟩
     . exact Oper.wpIn_mono (fun a w h=>ih _ _ _ h) (gR (hd i o ho) hs)
     . exact absurd hs hQ
   . rename_i hw;rw [if_neg hw]at hs;exact ⟨fun _ _=>trivial,ih _ _ _ hs⟩
theorem aJ{P:Program}{ops:Array Oper}{Q:Exit->Act->World->Prop}{l n id:Nat}{a:Act}{w:World}(hm:P.follows .mixedOrders=true)(hd:∀(i:Nat) (o:Oper),ops[i]?=some o->∀c,o.op≠ .defer c)(hQ:¬LetsOut Q)
  (h:wpAny P .any ops Q ops.size (Array.replicate ops.size false) a w.drew):(Code.region id ops true).wpIn (Fence.wide.inRound l) n P Q a w:=
 wpIn_region_any hm (dY hd hQ _ _ _ _ h)
theorem Gd{P:Program}{ops:Array Oper}{o:Oper}{a:Act}{w:World}{K:Act->World->Prop}{Q:Exit->Act->World->Prop}{E:Prop}(AW:o.guard=none)(s x:Operand)(t:TypeId)
  (ho:o.op= .call {callee:= .builtin .append,args:=#[s,x],argTypes:=#[t,t]})
  (base:Nat)(e:TypeId)(i:TypeInfo)(z:Value)(size bytes:Nat)(ht:P.underlying t=some (.slice e))(hi:P.info? e=some i)(hz:i.zero=some z)
  (JA:i.size=size)(RP:i.bytes=bytes)(SP:z.cells.size=size)(Xg:0<size)
  (v:Value)(n:Nat)(xs:List Value)(hs:a.eval s=v)(yd:w.ownsRow base e size v n xs)
  (ad:Addr)(m c:Nat)(news:List Value)(hx:a.eval x= .slice (some ad) m c)(hl:news.length=m*size)(dL:∀j u,news[j]?=some u->w.cell? (ad.add j)=some u)(h1:∀u∈news,u.oneCell'=true)
  (I1:n+m<=maxLen)(Zq:(n+m)*bytes<=140737488355328)(uK:base<=w.heap.size)
  (h:∀v' w',w'.ownsRow base e size v' (n+m) (xs++news)->w.grownBy w' v.ownBlock->(v'.ownBlock=v.ownBlock\/v'.ownBlock=some w.heap.size)->K (a.put o.dst v') w'):
  if Region.wanted o (yielded ops a.tmps)=true then Oper.wp P o a w K Q else E:=by
 have hw:Region.wanted o (yielded ops a.tmps)=true:=by simp [Region.wanted,AW]
 rw [if_pos hw];obtain ⟨v',w',hr,h2,h3,h4,h5⟩:=run_append_own_at (P:=P) w base t o.type e i z size bytes ht hi hz JA RP SP Xg v n xs yd ad m c news hl dL h1 I1 Zq uK;unfold Oper.wp execOp;simp only [ho,resolve,invoke,builtin,Sem.run_bind,Sem.run_pure,Result.andThen_ok,List.map_toArray,List.map_cons,List.map_nil,hs,hx,hr];exact h v' w' h2 h3 h5
end Go.Proofs.YtfnkmolffhfpoaaGreat
namespace Go.Proofs.YtfnkmolffhfpoaaGreat
open Go.RowKit Go.BigFrame
def Fl(W:World)(b2 b3 b off n cap k:Nat):Prop:=
 ∃A,(8*(k+1)<=n->A=some ⟨b,off+8*k,none⟩)/\W.cell? ⟨b2,0,none⟩=some (.slice A (n -8*k) (cap -8*k))/\W.cell? ⟨b3,0,none⟩=some (.int .i64 8)/\W.frozen? ⟨b2,0,none⟩=false
set_option maxRecDepth 100000 in
theorem eY(m l b2 b3 b off n cap:Nat)(Jc:b2≠b3)(hm:1<=m)(hn:n<=cap)(hc:cap<=9223372036854775807)(J J':Nat->World->Prop)
  (hJ:∀k W,J k W->Fl W b2 b3 b off n cap k)
  (hJ':∀k W,J' k W->Fl W b2 b3 b off n cap k)
  (hY:∀k W,8*(k+1)<=n->J k W->YieldAt Fence.wide (m -1) Tryz.prog l #[.slice (some ⟨b,off+8*k,none⟩) 8 8] W fun e W'=>e= .returned (.bool true)/\J' k W')
  (hN:∀k W A,8*(k+1)<=n->J' k W->(8*(k+1+1)<=n->A=some ⟨b,off+8*(k+1),none⟩)->J (k+1) (W.setCell ⟨b2,0,none⟩ (.slice A (n -8*(k+1)) (cap -8*(k+1)))))
  (W:World)(h0:J 0 W):
  CallsIn Fence.wide m Tryz.prog 274 #[.func (.yield l) #[] #[], .pointer (some ⟨b2,0,none⟩), .pointer (some ⟨b3,0,none⟩)] W fun e W'=>(∃v,e= .returned v)/\J (n/8) W':=by
 have HJ:=Lib.hid hJ;have HJ':=Lib.hid hJ';have HY:=Lib.hid hY;have HN:=Lib.hid hN;have H0:=Lib.hid h0;clear hJ hJ' hY hN h0;refine callsIn_of_wp Tryz.func274 rfl trivial ?_ rfl
 simp only [Tryz.ntmps274,List.size_toArray,List.length_cons,List.length_nil,Nat.reduceAdd,Nat.reduceSub,Array.replicate_succ,Array.replicate_zero,List.push_toArray,List.append_toArray,List.nil_append,List.cons_append]
 gi_wp2
 gi_loopg [] (n/8) (fun g wr=>∃k:Nat,k+g=n/8/\Hid (J k wr))
 case atStart=>exact ⟨0,by omega,H0⟩
 case round=>
  obtain ⟨k,hk,HK⟩:=hrel;obtain ⟨A,hA,c2,c3,f2⟩:=HJ.out k wr HK.out;by_cases Ab:8*(k+1)<=n
  . obtain rfl:=hA (by omega);obtain ⟨fn,tmps,assign,body,hy,hR⟩:=HY.out k wr Ab HK.out;have HR:=Lib.hid hR;have HL:=Lib.hid Ab;obtain ⟨r,hr⟩:∃r,r=n -8*k:=⟨_,rfl⟩;obtain ⟨q,hq⟩:∃q,q=cap -8*k:=⟨_,rfl⟩;rw [<-hr,<-hq]at c2;have d1:decide ((8:Int)<=(r:Int))=true:=ca (by omega);have i1:(8:Int)<=(q:Int):=by omega
    have i2:(8:Int)<=(r:Int):=by omega
    have i3:(r:Int)<=(q:Int):=by omega
    have fY:Hid (r=n -8*k/\q=cap -8*k):=Lib.hid ⟨hr,hq⟩;obtain ⟨o,ho⟩:∃o,o=off+8*k:=⟨_,rfl⟩;rw [<-ho]at c2 hy;have HO:=Lib.hid ho;clear hA hr hq ho hR Ab HY HJ
    gi_wp2
    refine HR.out.mono ?_
    rintro e W' ⟨rfl,hj⟩;have HK2:=Lib.hid hj;obtain ⟨A2,hA2,e2,e3,g2⟩:=HJ'.out k W' hj;obtain rfl:=hA2 (by have:=HL.out;omega);rw [<-HO.out,<-fY.out.1,<-fY.out.2]at e2;clear hj hA2 c2 c3 f2 hy HR;by_cases hq8:q=8
    . have hN1:=HN.out k W' (some ⟨b,o,none⟩) HL.out HK2.out (fun h=>by have:=fY.out.2;have:=HL.out;omega);have EP:J (k+1) (W'.setCell ⟨b2,0,none⟩ (.slice (some ⟨b,o,none⟩) (r -8) (q -8))):=by
       rw [show r -8=n -8*(k+1)by have:=fY.out;omega,show q -8=cap -8*(k+1)by have:=fY.out;omega];exact hN1
      have HN2:=Lib.hid EP;clear hN1 EP;subst hq8
      gi_wp2
      go_roundg (gk -1)
      case rel=>exact ⟨k+1,by have:=HL.out;omega,HN2⟩
      case measure=>have:=HL.out;omega
    . have hN1:=HN.out k W' (some ⟨b,o+8,none⟩) HL.out HK2.out (fun _=>by rw [HO.out];congr 2);have EP:J (k+1) (W'.setCell ⟨b2,0,none⟩ (.slice (some ⟨b,o+8,none⟩) (r -8) (q -8))):=by
       rw [show r -8=n -8*(k+1)by have:=fY.out;omega,show q -8=cap -8*(k+1)by have:=fY.out;omega];exact hN1
      have HN2:=Lib.hid EP;have q1:(8==q)=false:=by simp;omega
      have q2:(q==8)=false:=by simp;omega
      clear hN1 EP
      gi_wp2
      go_roundg (gk -1)
      case rel=>exact ⟨k+1,by have:=HL.out;omega,HN2⟩
      case measure=>have:=HL.out;omega
  . have HL:=Lib.hid Ab;have yn:k=n/8:=by omega
    have HR:Hid (n -8*k<8):=Lib.hid (by omega);generalize n -8*k=r at*;have d1:decide ((8:Int)<=(r:Int))=false:=ea (by have:=HR.out;omega);have HKN:=Lib.hid yn;clear yn Ab hA
    gi_wp2
    go_end0
    exact ⟨⟨_,rfl⟩,by rw [<-HKN.out];exact HK.out⟩
theorem Bz{P:Program}{ops:Array Oper}{rest:List Oper}{o:Oper}{a:Act}{Q:Exit->Act->World->Prop}(AW:o.guard=none)(s x:Operand)(t:TypeId)
  (ho:o.op= .call {callee:= .builtin .append,args:=#[s,x],argTypes:=#[t,t]})
  (base:Nat)(e e':TypeId)(i:TypeInfo)(z:Value)(size bytes:Nat)(ht:P.underlying t=some (.slice e))(hi:P.info? e=some i)(hz:i.zero=some z)
  (JA:i.size=size)(RP:i.bytes=bytes)(SP:z.cells.size=size)(Xg:0<size)
  (wr:World)(uK:base<=wr.heap.size)(v:Value)(n:Nat)(xs:List Value)(hs:a.eval s=v)(yd:wr.ownsRow base e size v n xs)
  (cs:Array Value)(m c:Nat)(hx:a.eval x= .slice (some ⟨wr.heap.size,0,none⟩) m c)(hl:cs.size=m*size)(h1:∀u∈cs.toList,u.oneCell'=true)
  (I1:n+m<=maxLen)(Zq:(n+m)*bytes<=140737488355328)
  (h:∀v' w',w'.ownsRow base e size v' (n+m) (xs++cs.toList)->wr.grownBy w' v.ownBlock->(∀B W,Below B W wr->B<=base->Below B W w')->(v'= .slice none 0 0<->v= .slice none 0 0/\m=0)->wpList P ops Q rest (a.put o.dst v') w'):
  wpList P ops Q (o::rest) a (wr.alloc (.cells cs e')):=by
 refine wpList_append_own _ AW s x t ho base e i z size bytes ht hi hz JA RP SP Xg v n xs hs (yd.alloc _) ⟨wr.heap.size,0,none⟩ m c cs.toList hx (by simpa using hl) (fun j u hj=>ue wr cs e' j u hj) h1 I1 Zq (by simp;omega) ?_
 intro v' w' OH Qp hn';refine h v' w' OH (Rl (World.grownBy_alloc wr _ _) Qp) (fun B W hb hB=> ?_) hn';refine (hb.alloc (by omega) _).grown Qp (by simp;omega) (fun k hk=> ?_)
 have:=yd.lt k hk;omega
theorem DE:(Tryz.prog.info? 43).map (fun i=>(i.zero,i.size,i.bytes))=some (some (.int .u64 0),1,8):=by kernel_rfl
def Fc(f:Nat->Int)(n:Nat):List Value:=(List.range n).map fun k=> .int .u64 (f k)
theorem EE(f:Nat->Int)(n:Nat):(Fc f n).length=n:=by simp [Fc]
theorem Kj(f:Nat->Int)(n k:Nat)(h:k<n):(Fc f n)[k]?=some (.int .u64 (f k)):=by
 unfold Fc;rw [List.getElem?_map,List.getElem?_range h];rfl
theorem qC(f:Nat->Int)(k:Nat):Fc f (8*(k+1))=Fc f (8*k)++[.int .u64 (f (k*8)), .int .u64 (f (k*8+1)), .int .u64 (f (k*8+2)), .int .u64 (f (k*8+3)), .int .u64 (f (k*8+4)), .int .u64 (f (k*8+5)), .int .u64 (f (k*8+6)), .int .u64 (f (k*8+7))]:=by
 unfold Fc;rw [show 8*(k+1)=8*k+8 by omega,List.range_add,List.map_append,List.map_map]
 congr 1
 simp only [List.range_succ_eq_map,List.range_zero,List.map_cons,List.map_nil,Function.comp,List.map_map];rw [show 8*k=k*8 by omega];rfl
def zo(f:Nat->Int)(n:Nat)(W:World)(e:Ending)(W':World):Prop:=∃v,e= .returned v/\Below W.heap.size W W'/\W'.ownsRow W.heap.size 43 1 v n (Fc f n)
set_option maxRecDepth 100000 in
set_option maxHeartbeats 1000000 in
theorem iR(b n cap:Nat)(hn:n<=262144)(f:Nat->Int)(W:World)(h:Eb W b (8*n) fun k=> .int .u64 (f k)):
  Calls Tryz.prog 109 #[.slice (some ⟨b,0,none⟩) n cap] W (zo f (8*n) W):=by
 obtain ⟨i42,hi,ft,Kh,qg⟩:=info_parts DE;have HR:=Lib.hid h;have hb:=h.lt;clear h;obtain ⟨B,hB⟩:∃B,B=W.heap.size:=⟨_,rfl⟩;unfold zo;rw [<-hB]at hb⊢;have gY:=Lib.hid hb;clear hb;have HB:=Lib.hid hB;clear hB
 go_enter Tryz.func109,Tryz.ntmps109
 go_wp2_with fail
 go_loopw [3,8] (fun v i wr=>∃k:Nat,k<=n/\i= .int .i64 k/\Hid (wr.ownsRow B 43 1 v (8*k) (Fc f (8*k)))/\Hid (Below B W wr)) (fun _ i _=>n -(intOf i).toNat)
 case atStart=>exact ⟨0,Nat.zero_le _,rfl,World.ownsRow_nil _ _ _ _,Below.refl _ _⟩
 case round=>
  obtain ⟨k,hk,rfl,HO,wD⟩:=hrel;have HBw:Hid (B<=wr.heap.size):=Lib.hid (by rw [HB.out];exact wD.out.size);by_cases Ab:k<n
  . have hr:Eb wr b (8*n) fun k=> .int .u64 (f k):=HR.out.keep (wD.out.block b gY.out)
    have h8:Xw wr b (k*8) (fun r=>f (k*8+r)):=fun r DK=>hr.cell (by omega)
    obtain ⟨c0,c1,c2,c3,c4,c5,c6,c7⟩:=h8.cells;have hw8:=qC f k;have i0:(0:Int)<=(k:Int):=by omega
    have i1:(k:Int)<(n:Int):=by omega
    have i2:decide ((k:Int)<(n:Int))=true:=ca i1;rw [Nat.add_zero]at c0;have E2:=Lib.hid hw8;clear hr h8 hw8;generalize f (k*8)=v0 at*;generalize f (k*8+1)=v1 at*;generalize f (k*8+2)=v2 at*;generalize f (k*8+3)=v3 at*;generalize f (k*8+4)=v4 at*;generalize f (k*8+5)=v5 at*;generalize f (k*8+6)=v6 at*;generalize f (k*8+7)=v7 at*
    go_wp2_with (at_builtin;refine Bz rfl _ _ 99 rfl B 43 259 i42 (.int .u64 0) 1 8 Tryz.underlying99 hi ft Kh qg rfl (by decide) wr HBw.out u3 (8*k) (Fc f (8*k)) rfl HO.out #[.int .u64 v0, .int .u64 v1, .int .u64 v2, .int .u64 v3, .int .u64 v4, .int .u64 v5, .int .u64 v6, .int .u64 v7] 8 8 rfl rfl (by simp [Value.oneCell']) (by unfold maxLen;omega) (by omega) ?_;intro v' w' yd Kk Yf Jc;have HO':=Lib.hid yd;have HB':=Lib.hid (Yf B W wD.out (Nat.le_refl _));clear yd Kk Yf Jc)
    go_wp2_with fail
    go_roundw
    case rel=>exact ⟨k+1,by omega,by go_num,Lib.hid (by rw [E2.out];exact HO'.out),HB'⟩
    case measure=>simp [intOf];omega
  . obtain rfl:k=n:=by omega
    have i2:decide ((k:Int)<(k:Int))=false:=by simp
    go_wp2_with fail
    go_ret
    exact ⟨_,rfl,wD.out,HO.out⟩
end Go.Proofs.YtfnkmolffhfpoaaGreat
