/- -/
import Derived.Test.YtfnkmolffhfpoaaGreatHq15
import Derived.WalkKit
import Derived.Lib.Hide
import Derived.BigQuiet
import Derived.Test.YtfnkmolffhfpoaaGreatProg
import Derived.ProofKit
import Derived.OpenShut
import Derived.Laws.Pointers
import Derived.RegionTactic
import Derived.BigRegion
import Derived.ChangeAlike
import Derived.Deep.RegionWith
import Derived.Deep.Cut
import Derived.Deep.CutRange
set_option maxRecDepth 100000
set_option maxHeartbeats 4000000
set_option linter.unusedVariables false
set_option linter.unusedSimpArgs false
namespace Go.Proofs.YtfnkmolffhfpoaaGreat
namespace Sk
open Go.RowKit
theorem BJ:(List.range 390).map fnT.get=(List.range 390).map (wP Tryz.prog fnT.get):=by kernel_rfl
theorem Jz:(List.range 390).map (LB fnT.get)=(List.range 390).map fun _=>false:=by kernel_rfl
theorem CJ:(List.range 343).map tyT.get=(List.range 343).map (xP Tryz.prog tyT.get):=by kernel_rfl
theorem SB(v:Value)(w:World):(method (Tryz.prog.types.size+Made.depth) 39 v "Step").run Tryz.prog w= .ok (10,v) w:=by kernel_rfl
theorem TB(v:Value)(w:World):(method (Tryz.prog.types.size+Made.depth) 39 v "Done").run Tryz.prog w= .ok (15,v) w:=by kernel_rfl
theorem xw(v:Value)(w:World):(method (Tryz.prog.types.size+Made.depth) 39 v "Result").run Tryz.prog w= .ok (16,v) w:=by kernel_rfl
theorem Iy(v:Value)(w:World):(method (Tryz.prog.types.size+Made.depth) 39 v "Holds").run Tryz.prog w= .ok (17,v) w:=by kernel_rfl
theorem UB(v:Value)(w:World):(method (Tryz.prog.types.size+Made.depth) 39 v "When").run Tryz.prog w= .ok (19,v) w:=by kernel_rfl
theorem Jy(v:Value)(w:World):(method (Tryz.prog.types.size+Made.depth) 39 v "Where").run Tryz.prog w= .ok (20,v) w:=by kernel_rfl
theorem yw(v:Value)(w:World):(method (Tryz.prog.types.size+Made.depth) 39 v "Writes").run Tryz.prog w= .ok (21,v) w:=by kernel_rfl
theorem Ky(v:Value)(w:World):(method (Tryz.prog.types.size+Made.depth) 243 v "Step").run Tryz.prog w= .ok (385,v) w:=by kernel_rfl
theorem Ly(v:Value)(w:World):(method (Tryz.prog.types.size+Made.depth) 243 v "Done").run Tryz.prog w= .ok (382,v) w:=by kernel_rfl
theorem mu(v:Value)(w:World):(method (Tryz.prog.types.size+Made.depth) 243 v "Result").run Tryz.prog w= .ok (384,v) w:=by kernel_rfl
theorem zw(v:Value)(w:World):(method (Tryz.prog.types.size+Made.depth) 243 v "Holds").run Tryz.prog w= .ok (383,v) w:=by kernel_rfl
theorem My(v:Value)(w:World):(method (Tryz.prog.types.size+Made.depth) 243 v "When").run Tryz.prog w= .ok (386,v) w:=by kernel_rfl
theorem Aw(v:Value)(w:World):(method (Tryz.prog.types.size+Made.depth) 243 v "Where").run Tryz.prog w= .ok (387,v) w:=by kernel_rfl
theorem qu(v:Value)(w:World):(method (Tryz.prog.types.size+Made.depth) 243 v "Writes").run Tryz.prog w= .ok (388,v) w:=by kernel_rfl
theorem Kz(t:TypeId)(n:String)(f:FuncId)(h:KP t n=some f)(v:Value)(w:World):(method (Tryz.prog.types.size+Made.depth) t v n).run Tryz.prog w= .ok (f,v) w:=by
 unfold KP at h
 split at h
 . rename_i hc;cases h;simp only [Aa,Bool.and_eq_true,Na,decide_eq_true_eq,beq_iff_eq]at hc;obtain ⟨rfl,rfl⟩:=hc;exact qu v w
 split at h
 . rename_i hc;cases h;simp only [Aa,Bool.and_eq_true,Na,decide_eq_true_eq,beq_iff_eq]at hc;obtain ⟨rfl,rfl⟩:=hc;exact Aw v w
 split at h
 . rename_i hc;cases h;simp only [Aa,Bool.and_eq_true,Na,decide_eq_true_eq,beq_iff_eq]at hc;obtain ⟨rfl,rfl⟩:=hc;exact My v w
 split at h
 . rename_i hc;cases h;simp only [Aa,Bool.and_eq_true,Na,decide_eq_true_eq,beq_iff_eq]at hc;obtain ⟨rfl,rfl⟩:=hc;exact zw v w
 split at h
 . rename_i hc;cases h;simp only [Aa,Bool.and_eq_true,Na,decide_eq_true_eq,beq_iff_eq]at hc;obtain ⟨rfl,rfl⟩:=hc;exact mu v w
 split at h
 . rename_i hc;cases h;simp only [Aa,Bool.and_eq_true,Na,decide_eq_true_eq,beq_iff_eq]at hc;obtain ⟨rfl,rfl⟩:=hc;exact Ly v w
 split at h
 . rename_i hc;cases h;simp only [Aa,Bool.and_eq_true,Na,decide_eq_true_eq,beq_iff_eq]at hc;obtain ⟨rfl,rfl⟩:=hc;exact Ky v w
 split at h
 . rename_i hc;cases h;simp only [Aa,Bool.and_eq_true,Na,decide_eq_true_eq,beq_iff_eq]at hc;obtain ⟨rfl,rfl⟩:=hc;exact yw v w
 split at h
 . rename_i hc;cases h;simp only [Aa,Bool.and_eq_true,Na,decide_eq_true_eq,beq_iff_eq]at hc;obtain ⟨rfl,rfl⟩:=hc;exact Jy v w
 split at h
 . rename_i hc;cases h;simp only [Aa,Bool.and_eq_true,Na,decide_eq_true_eq,beq_iff_eq]at hc;obtain ⟨rfl,rfl⟩:=hc;exact UB v w
 split at h
 . rename_i hc;cases h;simp only [Aa,Bool.and_eq_true,Na,decide_eq_true_eq,beq_iff_eq]at hc;obtain ⟨rfl,rfl⟩:=hc;exact Iy v w
 split at h
 . rename_i hc;cases h;simp only [Aa,Bool.and_eq_true,Na,decide_eq_true_eq,beq_iff_eq]at hc;obtain ⟨rfl,rfl⟩:=hc;exact xw v w
 split at h
 . rename_i hc;cases h;simp only [Aa,Bool.and_eq_true,Na,decide_eq_true_eq,beq_iff_eq]at hc;obtain ⟨rfl,rfl⟩:=hc;exact TB v w
 split at h
 . rename_i hc;cases h;simp only [Aa,Bool.and_eq_true,Na,decide_eq_true_eq,beq_iff_eq]at hc;obtain ⟨rfl,rfl⟩:=hc;exact SB v w
 cases h
end Sk
end Go.Proofs.YtfnkmolffhfpoaaGreat
namespace Go.Proofs.YtfnkmolffhfpoaaGreat
open Go.RowKit
theorem Se(w:World)(cs:Array Value)(e:TypeId)(j:Nat)(u:Value)(h:cs.toList[j]?=some u):(w.alloc (.cells cs e)).cell? ((⟨w.heap.size,0,none⟩:Addr).add j)=some u:=by
 have e1:(⟨w.heap.size,0,none⟩:Addr).add j=⟨w.heap.size,j,none⟩:=by rw [Addr.add_lit,Nat.zero_add]
 rw [e1,cell_of_row _ _ j cs e (0,0) (heap_alloc_new w _)]
 simpa using h
theorem Wo{a b c:World}{r:Option Nat}(h:a.grownBy b r)(k:b.grownBy c r):a.grownBy c r:=
 ⟨k.os.trans h.os,k.tape.trans h.tape,k.output.trans h.output,Nat.le_trans h.size k.size,
   fun i hi hr=>(k.block i (Nat.lt_of_lt_of_le hi h.size) hr).trans (h.block i hi hr)⟩
theorem se{P:Program}{ops:Array Oper}{rest:List Oper}{o:Oper}{a:Act}{Q:Exit->Act->World->Prop}(X7:o.guard=none)(s x:Operand)(t:TypeId)
  (ho:o.op= .call {callee:= .builtin .append,args:=#[s,x],argTypes:=#[t,t]})
  (base:Nat)(e:TypeId)(i:TypeInfo)(z:Value)(size bytes:Nat)(ht:P.underlying t=some (.slice e))(hi:P.info? e=some i)(hz:i.zero=some z)
  (sE:i.size=size)(RU:i.bytes=bytes)(SU:z.cells.size=size)(Vh:0<size)
  (wr:World)(LP:base<=wr.heap.size)(v:Value)(n:Nat)(xs:List Value)(hs:a.eval s=v)(Od:wr.ownsRow base e size v n xs)
  (cs:Array Value)(m c:Nat)(hx:a.eval x= .slice (some ⟨wr.heap.size,0,none⟩) m c)(hl:cs.size=m*size)(h1:∀u∈cs.toList,u.oneCell'=true)
  (h63:n+m<=maxLen)(Bw:(n+m)*bytes<=140737488355328)
  (h:∀v' w',w'.ownsRow base e size v' (n+m) (xs++cs.toList)->wr.grownBy w' v.ownBlock->(∀B W,Below B W wr->B<=base->Below B W w')->(v'= .slice none 0 0<->v= .slice none 0 0/\m=0)->wpList P ops Q rest (a.put o.dst v') w'):
  wpList P ops Q (o::rest) a (wr.alloc (.cells cs e)):=by
 refine wpList_append_own _ X7 s x t ho base e i z size bytes ht hi hz sE RU SU Vh v n xs hs (Od.alloc _) ⟨wr.heap.size,0,none⟩ m c cs.toList hx (by simpa using hl) (fun j u hj=>Se wr cs e j u hj) h1 h63 Bw (by simp;omega) ?_
 intro v' w' jM Ht hn';refine h v' w' jM (Wo (World.grownBy_alloc wr _ _) Ht) (fun B W hb hB=> ?_) hn';refine (hb.alloc (by omega) _).grown Ht (by simp;omega) (fun k hk=> ?_)
 have:=Od.lt k hk;omega
end Go.Proofs.YtfnkmolffhfpoaaGreat
namespace Go.Proofs.YtfnkmolffhfpoaaGreat
open Go.RowKit Go.BigFrame
theorem ta{p:Prop}[Decidable p](h:¬p):decide p=false:=by simp [h]
theorem ea{p:Prop}[Decidable p](h:p):decide p=true:=by simp [h]
def Cc(v:Value)(w:World)(e:Ending)(w':World):Prop:=e= .returned v/\w'=w
theorem ui{a b:Value}(h:a=b):Ending.returned a=Ending.returned b:=by rw [h]
theorem DJ(m:Nat)(c:Int)(w:World)(h:w.cell? ⟨m,2,none⟩=some (.int .i64 c)):Calls Tryz.prog 72 #[.pointer (some ⟨m,0,none⟩)] w (Cc (.int .i64 c) w):=by
 go_enter Tryz.func72,Tryz.ntmps72
 go_wp2_with fail
 go_ret
 exact ⟨rfl,rfl⟩
theorem qai(m:Nat)(c:Int)(w:World)(h:w.cell? ⟨m,3,none⟩=some (.int .i64 c)):Calls Tryz.prog 73 #[.pointer (some ⟨m,0,none⟩)] w (Cc (.int .i64 c) w):=by
 go_enter Tryz.func73,Tryz.ntmps73
 go_wp2_with fail
 go_ret
 exact ⟨rfl,rfl⟩
theorem MP(m d:Nat)(w:World)(h:w.cell? ⟨m,0,none⟩=some (.pointer (some ⟨d,0,none⟩))):Calls Tryz.prog 48 #[.pointer (some ⟨m,0,none⟩)] w (Cc (.pointer (some ⟨d,0,none⟩)) w):=by
 go_enter Tryz.func48,Tryz.ntmps48
 go_wp2_with fail
 go_ret
 exact ⟨rfl,rfl⟩
def Cd(v:Value)(w:World)(e:Ending)(w':World):Prop:=e= .returned v/\Below w.heap.size w w'
theorem Y7(m:Nat)(ki th pl ol ne:Int)(dn:Bool)(w:World)(hm:m<w.heap.size)(h0:w.cell? ⟨m,4,none⟩=some (.int .i64 ki))(h1:w.cell? ⟨m,5,none⟩=some (.int .i64 th))(h2:w.cell? ⟨m,6,none⟩=some (.int .i64 pl))(h3:w.cell? ⟨m,7,none⟩=some (.int .u64 ol))(h4:w.cell? ⟨m,8,none⟩=some (.int .u64 ne))(h5:w.cell? ⟨m,9,none⟩=some (.bool dn)):
  Calls Tryz.prog 74 #[.pointer (some ⟨m,0,none⟩)] w (Cd (.agg #[.int .i64 ki, .int .i64 th, .int .i64 pl, .int .u64 ol, .int .u64 ne, .bool dn]) w):=by
 have bc:m≠w.heap.size:=by omega
 have Fq:w.heap.size≠m:=by omega
 go_enter Tryz.func74,Tryz.ntmps74
 go_wp2_with fail
 have hh:=heap_alloc_new w (.cells #[.int .i64 ki, .int .i64 th, .int .i64 pl, .int .u64 ol, .int .u64 ne, .bool dn] 112);have z0:=cell_of_row _ _ 0 _ _ _ hh;have z1:=cell_of_row _ _ 1 _ _ _ hh;have z2:=cell_of_row _ _ 2 _ _ _ hh;have z3:=cell_of_row _ _ 3 _ _ _ hh;have z4:=cell_of_row _ _ 4 _ _ _ hh;have z5:=cell_of_row _ _ 5 _ _ _ hh;refine bodyPost_ret (v:= .agg #[.int .i64 ki, .int .i64 th, .int .i64 pl, .int .u64 ol, .int .u64 ne, .bool dn]) (by simp [results,Tryz.results74,go_sem,z0,z1,z2,z3,z4,z5]) rfl ⟨rfl,(Below.refl _ _).alloc (Nat.le_refl _) _⟩
theorem tM(n:Int)(w:World):Calls Tryz.prog 102 #[.int .i64 n] w (Cc (.bool (decide (1<=n/\n<=64))) w):=by
 by_cases h:1<=n
 . have d1:decide (1<=n)=true:=ea h;have e:decide (1<=n/\n<=64)=decide (n<=64):=by simp [h]
   rw [e]
   go_enter Tryz.func102,Tryz.ntmps102
   go_wp2_with fail
   go_ret
   exact ⟨rfl,rfl⟩
 . have d1:decide (1<=n)=false:=ta h;have e:decide (1<=n/\n<=64)=false:=by simp [h]
   rw [e]
   go_enter Tryz.func102,Tryz.ntmps102
   go_wp2_with fail
   go_ret
   exact ⟨rfl,rfl⟩
def Xo(n:Nat)(at_:Int):Int:=if at_<0\/(n:Int)<=at_/8 then 5 else 0
def rh(n:Nat)(l:Int):Int:=if l<0\/(n:Int)<=l then 5 else 0
def Bb(n:Nat)(t:Int):Int:=if t<0\/(n:Int)<=t then 1 else 0
theorem mH(d:Nat)(a:Option Addr)(n cap:Nat)(hn:n<=262144)(at_:Int)(q1:at_<=9223372036854775807)(w:World)(h:w.cell? ⟨d,1,none⟩=some (.slice a n cap)):
  Calls Tryz.prog 258 #[.pointer (some ⟨d,0,none⟩), .int .i64 at_] w (Cc (.int .i64 (Xo n at_)) w):=by
 by_cases h0:at_<0
 . have d1:decide (at_<0)=true:=ea h0
   go_enter Tryz.func258,Tryz.ntmps258
   go_wp2_with fail
   go_ret
   exact ⟨ui (by simp [Xo,h0]),rfl⟩
 . have d1:decide (at_<0)=false:=ta h0;have q0:0<=at_:=by omega
   have e8:at_.tdiv 8=at_/8:=Int.tdiv_eq_ediv_of_nonneg q0;by_cases h1:(n:Int)<=at_/8
   . have d2:decide ((n:Int)<=at_/8)=true:=ea h1
     go_enter Tryz.func258,Tryz.ntmps258
     go_wp2_with fail
     go_ret
     exact ⟨ui (by simp [Xo,h0,h1]),rfl⟩
   . have d2:decide ((n:Int)<=at_/8)=false:=ta h1
     go_enter Tryz.func258,Tryz.ntmps258
     go_wp2_with fail
     go_ret
     exact ⟨ui (by rw [Xo,if_neg (show¬(at_<0\/(n:Int)<=at_/8)by omega)];rfl),rfl⟩
theorem Fs(d:Nat)(a:Option Addr)(n cap:Nat)(l:Int)(w:World)(h:w.cell? ⟨d,1,none⟩=some (.slice a n cap)):
  Calls Tryz.prog 173 #[.pointer (some ⟨d,0,none⟩), .int .i64 l] w (Cc (.int .i64 (rh n l)) w):=by
 by_cases h0:l<0
 . have d1:decide (l<0)=true:=ea h0
   go_enter Tryz.func173,Tryz.ntmps173
   go_wp2_with fail
   go_ret
   exact ⟨ui (by simp [rh,h0]),rfl⟩
 . have d1:decide (l<0)=false:=ta h0;by_cases h1:(n:Int)<=l
   . have d2:decide ((n:Int)<=l)=true:=ea h1
     go_enter Tryz.func173,Tryz.ntmps173
     go_wp2_with fail
     go_ret
     exact ⟨ui (by simp [rh,h0,h1]),rfl⟩
   . have d2:decide ((n:Int)<=l)=false:=ta h1
     go_enter Tryz.func173,Tryz.ntmps173
     go_wp2_with fail
     go_ret
     exact ⟨ui (by rw [rh,if_neg (show¬(l<0\/(n:Int)<=l)by omega)];rfl),rfl⟩
theorem Nq(d:Nat)(a:Option Addr)(n cap:Nat)(t:Int)(w:World)(h:w.cell? ⟨d,3,none⟩=some (.slice a n cap)):
  Calls Tryz.prog 255 #[.pointer (some ⟨d,0,none⟩), .int .i64 t] w (Cc (.int .i64 (Bb n t)) w):=by
 by_cases h0:t<0
 . have d1:decide (t<0)=true:=ea h0
   go_enter Tryz.func255,Tryz.ntmps255
   go_wp2_with fail
   go_ret
   exact ⟨ui (by simp [Bb,h0]),rfl⟩
 . have d1:decide (t<0)=false:=ta h0;by_cases h1:(n:Int)<=t
   . have d2:decide ((n:Int)<=t)=true:=ea h1
     go_enter Tryz.func255,Tryz.ntmps255
     go_wp2_with fail
     go_ret
     exact ⟨ui (by simp [Bb,h0,h1]),rfl⟩
   . have d2:decide ((n:Int)<=t)=false:=ta h1
     go_enter Tryz.func255,Tryz.ntmps255
     go_wp2_with fail
     go_ret
     exact ⟨ui (by rw [Bb,if_neg (show¬(t<0\/(n:Int)<=t)by omega)];rfl),rfl⟩
theorem aa{W:World}{b j g:Nat}{v:Value}(h:g≠b):(W.setCell ⟨b,j,none⟩ v).heap[g]?=W.heap[g]?:=Below.heap_setCell W _ v g h
theorem heap_set{w:World}{g j:Nat}{c:Array Value}{t:TypeId}{f:Nat×Nat}(v:Value)(h:w.heap[g]?=some (.cells c t f)):(w.setCell ⟨g,j,none⟩ v).heap[g]?=some (.cells (c.setIfInBounds j v) t f):=by
 simp [World.setCell,Array.getElem?_modify,h]
theorem cell_of_heap{w w':World}{b:Nat}(h:w'.heap[b]?=w.heap[b]?)(o:Nat):w'.cell? ⟨b,o,none⟩=w.cell? ⟨b,o,none⟩:=World.cell?_of_block (w:=w) (a:=⟨b,o,none⟩) h
theorem frozen_of_heap{w w':World}{b:Nat}(h:w'.heap[b]?=w.heap[b]?)(o:Nat):w'.frozen? ⟨b,o,none⟩=w.frozen? ⟨b,o,none⟩:=World.frozen?_of_block (w:=w) (a:=⟨b,o,none⟩) h
structure Fu(p:Nat)(w w':World):Prop where
 os:w'.os=w.os
 tape:w'.tape=w.tape
 output:w'.output=w.output
 size:w.heap.size<=w'.heap.size
 block:∀k,k<w.heap.size->k≠p->w'.heap[k]?=w.heap[k]?
theorem Fu.refl(p:Nat)(w:World):Fu p w w:=⟨rfl,rfl,rfl,Nat.le_refl _,fun _ _ _=>rfl⟩
theorem Fu.trans{p:Nat}{x y z:World}(h:Fu p x y)(k:Fu p y z):Fu p x z:=
 ⟨k.os.trans h.os,k.tape.trans h.tape,k.output.trans h.output,Nat.le_trans h.size k.size,fun i hi h1=>(k.block i (Nat.lt_of_lt_of_le hi h.size) h1).trans (h.block i hi h1)⟩
theorem Fu.alloc{p:Nat}{a w:World}(h:Fu p a w)(o:Obj):Fu p a (w.alloc o):=
 ⟨h.os,h.tape,h.output,Nat.le_trans h.size (by simp),fun k hk hb=>by rw [Below.heap_alloc _ _ _ (Nat.lt_of_lt_of_le hk h.size)];exact h.block k hk hb⟩
theorem Fu.set{p:Nat}{a w:World}(h:Fu p a w)(j:Nat)(v:Value):Fu p a (w.setCell ⟨p,j,none⟩ v):=
 ⟨h.os,h.tape,h.output,by simpa [World.setCell]using h.size,fun k hk hb=>by rw [aa hb];exact h.block k hk hb⟩
structure Acc where
 ki:Int
 th:Int
 pl:Int
 ol:Int
 ne:Int
 dn:Bool
def Acc.cells(x:Acc):Array Value:=#[.int .i64 x.ki, .int .i64 x.th, .int .i64 x.pl, .int .u64 x.ol, .int .u64 x.ne, .bool x.dn]
def pk(W:World)(m:Nat)(dv pv:Value)(ck bd:Int)(x:Acc):Prop:=
 W.heap[m]?=some (.cells #[dv,pv, .int .i64 ck, .int .i64 bd, .int .i64 x.ki, .int .i64 x.th, .int .i64 x.pl, .int .u64 x.ol, .int .u64 x.ne, .bool x.dn] 181 (0,0))
theorem Uc{W:World}{b:Nat}{k0 k1 k2 k3 k4 k5 k6 k7 k8 k9:Value}{t:TypeId}(h:W.heap[b]?=some (.cells #[k0,k1,k2,k3,k4,k5,k6,k7,k8,k9] t (0,0))):
  W.cell? ⟨b,0,none⟩=some k0/\W.cell? ⟨b,1,none⟩=some k1/\W.cell? ⟨b,2,none⟩=some k2/\W.cell? ⟨b,3,none⟩=some k3/\W.cell? ⟨b,4,none⟩=some k4/\W.cell? ⟨b,5,none⟩=some k5/\W.cell? ⟨b,6,none⟩=some k6/\W.cell? ⟨b,7,none⟩=some k7/\W.cell? ⟨b,8,none⟩=some k8/\W.cell? ⟨b,9,none⟩=some k9/\∀j,W.frozen? ⟨b,j,none⟩=false:=by
 refine ⟨?_, ?_, ?_, ?_, ?_, ?_, ?_, ?_, ?_, ?_,fun j=> ?_⟩
 all_goals first|(rw [cell_of_row _ _ _ _ _ _ h];rfl)|(unfold World.frozen?;rw [h];simp)
theorem tE{W:World}{m:Nat}{k0 k1 k2 k3 k4 k5 k6 k7 k8 k9 a2 a4 a5 a6 a7 a8 a9:Value}{t:TypeId}{f:Nat×Nat}(h:W.heap[m]?=some (.cells #[k0,k1,k2,k3,k4,k5,k6,k7,k8,k9] t f)):
  (((((((W.setCell ⟨m,2,none⟩ a2).setCell ⟨m,4,none⟩ a4).setCell ⟨m,5,none⟩ a5).setCell ⟨m,6,none⟩ a6).setCell ⟨m,7,none⟩ a7).setCell ⟨m,8,none⟩ a8).setCell ⟨m,9,none⟩ a9).heap[m]?=some (.cells #[k0,k1,a2,k3,a4,a5,a6,a7,a8,a9] t f):=by
 have h2:=heap_set (j:=2) a2 h;have h4:=heap_set (j:=4) a4 h2;have h5:=heap_set (j:=5) a5 h4;have h6:=heap_set (j:=6) a6 h5;have h7:=heap_set (j:=7) a7 h6;have h8:=heap_set (j:=8) a8 h7;have h9:=heap_set (j:=9) a9 h8;rw [h9];rfl
def Mz(W:World)(m:Nat)(dv pv:Value)(ck bd:Int)(x:Acc)(e:Ending)(W':World):Prop:=
 (∃v,e= .returned v)/\pk W' m dv pv (ck+1) bd x/\Fu m W W'
set_option maxRecDepth 100000 in
theorem EJ(m:Nat)(dv pv:Value)(ck bd:Int)(c0:0<=ck)(c1:ck<=1000000)(b0:0<=bd)(b1:bd<=1000000)(x0 x:Acc)(is:Bool)(W:World)(h:pk W m dv pv ck bd x0):
  Calls Tryz.prog 205 #[.pointer (some ⟨m,0,none⟩), .agg x.cells, .bool is] W (Mz W m dv pv ck (if is then bd else bd+1) x):=by
 obtain ⟨y0,y1,y2,y3,y4,y5,y6,y7,y8,y9,yf⟩:=Uc h;have zb:m<W.heap.size:=(Array.getElem?_eq_some_iff.1 h).1
 have bc:m≠W.heap.size:=by omega
 have Fq:W.heap.size≠m:=by omega
 have HH:=Lib.hid h;clear h;simp only [Acc.cells];cases is with
 |true=>
  go_enter Tryz.func205,Tryz.ntmps205
  go_wp2_with fail
  go_end0
  refine ⟨⟨_,rfl⟩, ?_, ?_⟩
  . unfold pk;rw [Below.heap_alloc _ _ _ (by simpa using zb)];exact tE HH.out
  . exact ((((((((Fu.refl m W).set 2 _).set 4 _).set 5 _).set 6 _).set 7 _).set 8 _).set 9 _).alloc _
 |false=>
  go_enter Tryz.func205,Tryz.ntmps205
  go_wp2_with fail
  go_end0
  refine ⟨⟨_,rfl⟩, ?_, ?_⟩
  . unfold pk;rw [Below.heap_alloc _ _ _ (by simpa using zb)];have h3:=heap_set (j:=3) (.int .i64 (bd+1)) (tE (a2:= .int .i64 (ck+1)) (a4:= .int .i64 x.ki) (a5:= .int .i64 x.th) (a6:= .int .i64 x.pl) (a7:= .int .u64 x.ol) (a8:= .int .u64 x.ne) (a9:= .bool x.dn) HH.out);rw [h3];rfl
  . exact (((((((((Fu.refl m W).set 2 _).set 4 _).set 5 _).set 6 _).set 7 _).set 8 _).set 9 _).set 3 _).alloc _
theorem Mz.from{W W1 W':World}{m:Nat}{dv pv:Value}{ck bd:Int}{x:Acc}{e:Ending}(h:Mz W1 m dv pv ck bd x e W')(hb:Fu m W W1):Mz W m dv pv ck bd x e W':=
 ⟨h.1,h.2.1,hb.trans h.2.2⟩
set_option maxRecDepth 100000 in
theorem b8(m:Nat)(dv pv:Value)(ck bd:Int)(c0:0<=ck)(c1:ck<=1000000)(b0:0<=bd)(b1:bd<=1000000)(x0 x:Acc)(er:Int)(W:World)(h:pk W m dv pv ck bd x0):
  Calls Tryz.prog 170 #[.pointer (some ⟨m,0,none⟩), .agg x.cells, .int .i64 er] W (Mz W m dv pv ck (if er==0 then bd else bd+1) ⟨x.ki,x.th,x.pl,x.ol,x.ne,er==0⟩):=by
 have zb:m<W.heap.size:=(Array.getElem?_eq_some_iff.1 h).1
 have HH:=Lib.hid h;clear h;have H73:Hid (∀o,Calls Tryz.prog 205 #[.pointer (some ⟨m,0,none⟩), .agg #[.int .i64 x.ki, .int .i64 x.th, .int .i64 x.pl, .int .u64 x.ol, .int .u64 x.ne, .bool (er==0)], .bool (er==0)] (W.alloc o) (Mz W m dv pv ck (if er==0 then bd else bd+1) ⟨x.ki,x.th,x.pl,x.ol,x.ne,er==0⟩)):=Lib.hid fun o=>
  (EJ m dv pv ck bd c0 c1 b0 b1 x0 ⟨x.ki,x.th,x.pl,x.ol,x.ne,er==0⟩ (er==0) (W.alloc o) ((Below.heap_alloc _ _ _ zb).trans HH.out)).mono fun e w hn=>hn.from ((Fu.refl m W).alloc o)
 generalize (if er==0 then bd else bd+1)=bd' at*;obtain ⟨y,hy⟩:∃y,y=(⟨x.ki,x.th,x.pl,x.ol,x.ne,er==0⟩:Acc):=⟨_,rfl⟩;rw [<-hy]at H73⊢;clear hy;simp only [Acc.cells]
 go_enter Tryz.func170,Tryz.ntmps170
 go_wp2_with fail
 refine (H73.out _).mono ?_
 rintro e w' hn;obtain ⟨⟨v,rfl⟩,hr,hb⟩:=hn;have HR:=Lib.hid hr;have HB:=Lib.hid hb;clear hr hb
 go_wp2_with fail
 go_end0
 exact ⟨⟨_,rfl⟩,HR.out,HB.out⟩
theorem FJ(n:Nat)(hn:n<=9223372036854775807)(w:World):Calls Tryz.prog 201 #[.int .i64 n, .int .i64 8] w (Cc (.int .i64 (if(n:Int) %8≠0 then 3 else if 262144<(n:Int)/8 then 2 else 0)) w):=by
 have e1:(n:Int).tdiv 8=(n:Int)/8:=Int.tdiv_eq_ediv_of_nonneg (by omega)
 have e2:(n:Int).tmod 8=(n:Int) %8:=Int.tmod_eq_emod_of_nonneg (by omega)
 by_cases h3:(n:Int) %8=0
 . have d3:((n:Int) %8 != 0)=false:=by simp [h3]
   rw [if_neg (fun h=>h h3)];by_cases h4:262144<(n:Int)/8
   . have d4:decide (262144<(n:Int)/8)=true:=ea h4;rw [if_pos h4]
     go_enter Tryz.func201,Tryz.ntmps201
     go_wp2_with fail
     go_ret
     exact ⟨rfl,rfl⟩
   . have d4:decide (262144<(n:Int)/8)=false:=ta h4;rw [if_neg h4]
     go_enter Tryz.func201,Tryz.ntmps201
     go_wp2_with fail
     go_ret
     exact ⟨rfl,rfl⟩
 . have d3:((n:Int) %8 != 0)=true:=by simp [h3]
   rw [if_pos h3]
   go_enter Tryz.func201,Tryz.ntmps201
   go_wp2_with fail
   go_ret
   exact ⟨rfl,rfl⟩
def Tg(v:Value)(w:World)(e:Ending)(w':World):Prop:=e= .returned v/\Below w.heap.size w w'/\w'.heap=w.heap
theorem NP(m:Nat)(a:Option Addr)(np cap:Nat)(aq:np<=262144)(at_:Int)(q0:-9223372036854775808<=at_)(q1:at_<=9223372036854775807)(w:World)(h:w.cell? ⟨m,1,none⟩=some (.slice a np cap)):
  Calls Tryz.prog 177 #[.pointer (some ⟨m,0,none⟩), .int .i64 at_] w (Tg (.tuple #[.int .i64 (-1 -at_), .bool (decide (at_<0/\-1 -at_<(np:Int)))]) w):=by
 have w1:wrap64 (-1 -at_)=-1 -at_:=by unfold wrap64;omega
 by_cases h0:at_<0
 . have d0:decide (at_<0)=true:=ea h0;rw [show decide (at_<0/\-1 -at_<(np:Int))=decide (-1 -at_<(np:Int))by simp [h0]]
   go_enter Tryz.func177,Tryz.ntmps177
   go_wp2_with fail
   go_quiet (fail)
   go_wp2_with fail
   go_ret2
   exact ⟨rfl,⟨rfl,rfl,rfl,Nat.le_refl _,fun _ _=>rfl⟩,rfl⟩
 . have d0:decide (at_<0)=false:=ta h0;rw [show decide (at_<0/\-1 -at_<(np:Int))=false by simp [h0]]
   go_enter Tryz.func177,Tryz.ntmps177
   go_wp2_with fail
   go_quiet (fail)
   go_wp2_with fail
   go_ret2
   exact ⟨rfl,⟨rfl,rfl,rfl,Nat.le_refl _,fun _ _=>rfl⟩,rfl⟩
def uV(W:World)(a b:Option Addr)(n:Nat)(l:Nat->Int):Prop:=
 0<n->∃g h,a=some ⟨g,0,none⟩/\b=some ⟨h,0,none⟩/\g<W.heap.size/\h<W.heap.size/\∀j,j<n->W.cell? ⟨g,j,none⟩=some (.int .u64 (l j))/\W.cell? ⟨h,j,none⟩=some (.int .u64 (l j))
set_option maxRecDepth 100000 in
theorem c8(a b:Option Addr)(n ca cb:Nat)(hn:n<=2097152)(l:Nat->Int)(W:World)(h:uV W a b n l):
  Calls Tryz.prog 75 #[.slice a n ca, .slice b n cb] W (Cd (.bool true) W):=by
 have HA:=Lib.hid h;clear h
 go_enter Tryz.func75,Tryz.ntmps75
 go_wp2_with fail
 go_loopw [5] (fun i wr=>∃k:Nat,k<=n/\i= .int .i64 k/\Hid (Below W.heap.size W wr)) (fun i _=>n -(intOf i).toNat)
 case atStart=>exact ⟨0,Nat.zero_le _,rfl,Lib.hid (Below.refl _ _)⟩
 case round=>
  obtain ⟨k,hk,rfl,HB⟩:=hrel;by_cases zb:k<n
  . obtain ⟨g,h,rfl,rfl,hg,hh,hc⟩:=HA.out (by omega);obtain ⟨x,y⟩:=hc k zb;have x':wr.cell? ⟨g,k,none⟩=some (.int .u64 (l k)):=(HB.out.cell (p:=⟨g,k,none⟩) hg).trans x
    have y':wr.cell? ⟨h,k,none⟩=some (.int .u64 (l k)):=(HB.out.cell (p:=⟨h,k,none⟩) hh).trans y
    have e1:decide ((k:Int)<(n:Int))=true:=by simp;omega
    have e2:(0:Int)<=(k:Int):=by omega
    have e3:(k:Int)<(n:Int):=by omega
    clear hc x y;generalize l k=v at*
    go_wp2_with fail
    go_quiet (fail)
    go_wp2_with fail
    go_roundw
    case rel=>exact ⟨k+1,by omega,by go_num,Lib.hid (HB.out.trans ⟨rfl,rfl,rfl,Nat.le_refl _,fun _ _=>rfl⟩)⟩
    case measure=>simp [intOf];omega
  . obtain rfl:k=n:=by omega
    have e1:decide ((k:Int)<(k:Int))=false:=by simp
    go_wp2_with fail
    go_ret
    exact ⟨rfl,HB.out⟩
theorem uM(d:Nat)(a:Option Addr)(n cap:Nat)(hn:n<=262144)(at_:Int)(q1:at_<=9223372036854775807)(w:World)(h:w.cell? ⟨d,1,none⟩=some (.slice a n cap))(he:Xo n at_=5):
  Calls Tryz.prog 176 #[.pointer (some ⟨d,0,none⟩), .int .i64 at_] w (Cc (.tuple #[.int .u64 0, .int .i64 5]) w):=by
 have HW:=Lib.hid (mH d a n cap hn at_ q1 w h);rw [he]at HW;clear he
 go_enter Tryz.func176,Tryz.ntmps176
 go_wp2_with fail
 refine HW.out.mono ?_
 rintro e w' ⟨rfl,hw⟩;cases hw
 go_wp2_with fail
 go_ret2
 exact ⟨rfl,rfl⟩
theorem nH(d s:Nat)(n cap:Nat)(hn:n<=262144)(k:Nat)(hk:k/8<n)(v:Int)(w:World)(h:w.cell? ⟨d,1,none⟩=some (.slice (some ⟨s,0,none⟩) n cap))(hv:w.cell? ⟨s,k,none⟩=some (.int .u64 v)):
  Calls Tryz.prog 176 #[.pointer (some ⟨d,0,none⟩), .int .i64 k] w (Cc (.tuple #[.int .u64 v, .int .i64 0]) w):=by
 have HW:=Lib.hid (mH d (some ⟨s,0,none⟩) n cap hn k (by omega) w h);rw [show Xo n (k:Int)=0 by rw [Xo,if_neg (by omega)]]at HW;have e1:(k:Int).tdiv 8=((k/8:Nat):Int):=by rw [Int.tdiv_eq_ediv_of_nonneg (by omega)];omega
 have e2:(k:Int).tmod 8=((k %8:Nat):Int):=by rw [Int.tmod_eq_emod_of_nonneg (by omega)];omega
 have e3:(k:Int)/8=((k/8:Nat):Int):=by omega
 have e4:(k:Int) %8=((k %8:Nat):Int):=by omega
 obtain ⟨i,hi⟩:∃i,i=k/8:=⟨_,rfl⟩;obtain ⟨r,hr⟩:∃r,r=k %8:=⟨_,rfl⟩;have V6:w.cell? ⟨s,i*8+r,none⟩=some (.int .u64 v):=by rw [show i*8+r=k by omega];exact hv
 rw [<-hi]at e1 e3 hk;rw [<-hr]at e2 e4;have f1:(0:Int)<=(i:Int):=by omega
 have f2:(i:Int)<(n:Int):=by omega
 have f3:(0:Int)<=(r:Int):=by omega
 have f4:(r:Int)<8:=by omega
 have f5:r<8:=by omega
 clear hi hr hv
 go_enter Tryz.func176,Tryz.ntmps176
 go_wp2_with fail
 refine HW.out.mono ?_
 rintro e w' ⟨rfl,hw⟩;cases hw
 go_wp2_with fail
 go_ret2
 exact ⟨rfl,rfl⟩
theorem uE(d s:Nat)(n cap:Nat)(hn:n<=262144)(k:Nat)(hk:k/8<n)(v u:Int)(w:World)(h:w.cell? ⟨d,1,none⟩=some (.slice (some ⟨s,0,none⟩) n cap))(hv:w.cell? ⟨s,k,none⟩=some (.int .u64 u))(hf:∀j,w.frozen? ⟨s,j,none⟩=false):
  Calls Tryz.prog 275 #[.pointer (some ⟨d,0,none⟩), .int .i64 k, .int .u64 v] w fun e w'=>e= .returned (.int .i64 0)/\w'=w.setCell ⟨s,k,none⟩ (.int .u64 v):=by
 have HW:=Lib.hid (mH d (some ⟨s,0,none⟩) n cap hn k (by omega) w h);rw [show Xo n (k:Int)=0 by rw [Xo,if_neg (by omega)]]at HW;have e1:(k:Int).tdiv 8=((k/8:Nat):Int):=by rw [Int.tdiv_eq_ediv_of_nonneg (by omega)];omega
 have e2:(k:Int).tmod 8=((k %8:Nat):Int):=by rw [Int.tmod_eq_emod_of_nonneg (by omega)];omega
 have e3:(k:Int)/8=((k/8:Nat):Int):=by omega
 have e4:(k:Int) %8=((k %8:Nat):Int):=by omega
 obtain ⟨i,hi⟩:∃i,i=k/8:=⟨_,rfl⟩;obtain ⟨r,hr⟩:∃r,r=k %8:=⟨_,rfl⟩;have hir:i*8+r=k:=by omega
 have V6:w.cell? ⟨s,i*8+r,none⟩=some (.int .u64 u):=by rw [hir];exact hv
 have HIR:=Lib.hid hir;rw [<-hi]at e1 e3 hk;rw [<-hr]at e2 e4;have f1:(0:Int)<=(i:Int):=by omega
 have f2:(i:Int)<(n:Int):=by omega
 have f3:(0:Int)<=(r:Int):=by omega
 have f4:(r:Int)<8:=by omega
 have f5:r<8:=by omega
 clear hi hr hv hir;rw [<-HIR.out];rw [HIR.out]
 go_enter Tryz.func275,Tryz.ntmps275
 go_wp2_with fail
 refine HW.out.mono ?_
 rintro e w' ⟨rfl,hw⟩;cases hw
 go_wp2_with fail
 go_ret
 exact ⟨rfl,by rw [HIR.out]⟩
structure Gu(W:World)(m d s n cap:Nat)(pa:Option Addr)(np pc:Nat)(seen pass:Nat->Int):Prop where
 dv:W.cell? ⟨m,0,none⟩=some (.pointer (some ⟨d,0,none⟩))
 ps:W.cell? ⟨m,1,none⟩=some (.slice pa np pc)
 sn:W.cell? ⟨d,1,none⟩=some (.slice (some ⟨s,0,none⟩) n cap)
 sw:∀k,k/8<n->W.cell? ⟨s,k,none⟩=some (.int .u64 (seen k))
 pw:0<np->∃g,pa=some ⟨g,0,none⟩/\∀k,k<np->W.cell? ⟨g,k,none⟩=some (.int .u64 (pass k))
def te(n np:Nat)(seen pass:Nat->Int)(at_:Int):Int×Bool:=
 if 0<=at_ then(if at_/8<(n:Int)then(seen at_.toNat,true)else(0,false))
 else if-1 -at_<(np:Int)then(pass (-1 -at_).toNat,true)else(0,false)
theorem Jk{w w':World}(h:w'.heap=w.heap)(a:Addr):w'.cell? a=w.cell? a:=by unfold World.cell?;rw [h]
set_option maxRecDepth 100000 in
theorem g8(m d s n cap:Nat)(hn:n<=262144)(pa:Option Addr)(np pc:Nat)(aq:np<=262144)(seen pass:Nat->Int)(at_:Int)(q0:-9223372036854775808<=at_)(q1:at_<=9223372036854775807)(w:World)(h:Gu w m d s n cap pa np pc seen pass):
  Calls Tryz.prog 77 #[.pointer (some ⟨m,0,none⟩), .int .i64 at_] w (Tg (.tuple #[.int .u64 (te n np seen pass at_).1, .bool (te n np seen pass at_).2]) w):=by
 have x0:=h.dv;have x1:=h.ps;have HH:=Lib.hid h;clear h;by_cases h0:0<=at_
 . have d0:decide (0<=at_)=true:=ea h0;by_cases h1:at_/8<(n:Int)
   . have HL:=Lib.hid (nH d s n cap hn at_.toNat (by omega) (seen at_.toNat) w HH.out.sn (HH.out.sw _ (by omega)));rw [show((at_.toNat:Nat):Int)=at_ by omega]at HL;rw [show te n np seen pass at_=(seen at_.toNat,true)by rw [te,if_pos h0,if_pos h1]];generalize seen at_.toNat=v at*
     go_enter Tryz.func77,Tryz.ntmps77
     go_wp2_with fail
     refine HL.out.mono ?_
     rintro e w' ⟨rfl,hw⟩;cases hw
     go_wp2_with fail
     go_ret2
     exact ⟨rfl,Below.refl _ _,rfl⟩
   . have HL:=Lib.hid (uM d (some ⟨s,0,none⟩) n cap hn at_ q1 w HH.out.sn (by rw [Xo,if_pos (by omega)]));rw [show te n np seen pass at_=(0,false)by rw [te,if_pos h0,if_neg h1]]
     go_enter Tryz.func77,Tryz.ntmps77
     go_wp2_with fail
     refine HL.out.mono ?_
     rintro e w' ⟨rfl,hw⟩;cases hw
     go_wp2_with fail
     go_ret2
     exact ⟨rfl,Below.refl _ _,rfl⟩
 . have d0:decide (0<=at_)=false:=ta h0;have HP:=Lib.hid (NP m pa np pc aq at_ q0 q1 w x1);by_cases h1:-1 -at_<(np:Int)
   . rw [show decide (at_<0/\-1 -at_<(np:Int))=true from ea ⟨by omega,h1⟩]at HP;obtain ⟨g,hg,hc⟩:=HH.out.pw (by omega);have aP:=hc (-1 -at_).toNat (by omega)
     rw [show te n np seen pass at_=(pass (-1 -at_).toNat,true)by rw [te,if_neg h0,if_pos h1]];generalize pass (-1 -at_).toNat=v at*
     subst hg;obtain ⟨k,hk⟩:=Int.eq_ofNat_of_zero_le (show 0<=-1 -at_ by omega);rw [hk]at HP aP;have jO:w.cell? ⟨g,k,none⟩=some (.int .u64 v):=aP;have f1:(0:Int)<=(k:Int):=by omega
     have f2:(k:Int)<(np:Int):=by omega
     clear hc aP hk
     go_enter Tryz.func77,Tryz.ntmps77
     go_wp2_with fail
     refine HP.out.mono ?_
     rintro e w1 ⟨rfl,hb,hh⟩;have c1:w1.cell? ⟨m,1,none⟩=some (.slice (some ⟨g,0,none⟩) np pc):=(Jk hh _).trans x1
     have c2:w1.cell? ⟨g,k,none⟩=some (.int .u64 v):=(Jk hh _).trans jO
     have HB:=Lib.hid hb;have HHH:=Lib.hid hh;clear hb hh
     go_wp2_with fail
     go_ret2
     exact ⟨rfl,HB.out,HHH.out⟩
   . rw [show decide (at_<0/\-1 -at_<(np:Int))=false from ta (by omega)]at HP;rw [show te n np seen pass at_=(0,false)by rw [te,if_neg h0,if_neg h1]]
     go_enter Tryz.func77,Tryz.ntmps77
     go_wp2_with fail
     refine HP.out.mono ?_
     rintro e w1 ⟨rfl,hb,hh⟩;have HB:=Lib.hid hb;have HHH:=Lib.hid hh;clear hb hh
     go_wp2_with fail
     go_ret2
     exact ⟨rfl,HB.out,HHH.out⟩
def sai(b j:Nat)(v:Int)(w:World)(e:Ending)(w':World):Prop:=(∃x,e= .returned x)/\∃w1,w1.heap=w.heap/\Below w.heap.size w w1/\w'=w1.setCell ⟨b,j,none⟩ (.int .u64 v)
set_option maxRecDepth 100000 in
theorem oH(m d s n cap:Nat)(hn:n<=262144)(pa:Option Addr)(np pc:Nat)(seen pass:Nat->Int)(k:Nat)(hk:k/8<n)(v:Int)(w:World)(h:Gu w m d s n cap pa np pc seen pass)(hf:∀j,w.frozen? ⟨s,j,none⟩=false):
  Calls Tryz.prog 204 #[.pointer (some ⟨m,0,none⟩), .int .i64 k, .int .u64 v] w (sai s k v w):=by
 have x0:=h.dv;have HL:=Lib.hid (uE d s n cap hn k hk v (seen k) w h.sn (h.sw k hk) hf);have d0:decide ((0:Int)<=(k:Int))=true:=ea (by omega);clear h hf hk
 go_enter Tryz.func204,Tryz.ntmps204
 go_wp2_with fail
 refine HL.out.mono ?_
 rintro e w' ⟨rfl,hw⟩;have HW:=Lib.hid hw;clear hw
 go_wp2_with fail
 go_end0
 exact ⟨⟨_,rfl⟩,w,rfl,Below.refl _ _,HW.out⟩
set_option maxRecDepth 100000 in
theorem pH(m d s n cap:Nat)(g np pc:Nat)(aq:np<=262144)(seen pass:Nat->Int)(k:Nat)(hk:k<np)(v:Int)(w:World)(h:Gu w m d s n cap (some ⟨g,0,none⟩) np pc seen pass)(hf:∀j,w.frozen? ⟨g,j,none⟩=false):
  Calls Tryz.prog 204 #[.pointer (some ⟨m,0,none⟩), .int .i64 (-1 -(k:Int)), .int .u64 v] w (sai g k v w):=by
 have x1:=h.ps;have HP:=Lib.hid (NP m (some ⟨g,0,none⟩) np pc aq (-1 -(k:Int)) (by omega) (by omega) w x1);rw [show decide (-1 -(k:Int)<0/\-1 -(-1 -(k:Int))<(np:Int))=true from ea (by omega),show(-1 -(-1 -(k:Int)):Int)=k by omega]at HP;obtain ⟨g',hg,hc⟩:=h.pw (by omega);cases hg;have jO:=hc k hk;generalize pass k=u at*;have f1:(0:Int)<=(k:Int):=by omega
 have f2:(k:Int)<(np:Int):=by omega
 have d0:decide ((0:Int)<=-1 -(k:Int))=false:=ta (by omega);have HF:=Lib.hid hf;clear h hc hf;generalize (-1 -(k:Int))=at_ at*
 go_enter Tryz.func204,Tryz.ntmps204
 go_wp2_with fail
 refine HP.out.mono ?_
 rintro e w1 ⟨rfl,hb,hh⟩;have c1:w1.cell? ⟨m,1,none⟩=some (.slice (some ⟨g,0,none⟩) np pc):=(Jk hh _).trans x1
 have c2:w1.cell? ⟨g,k,none⟩=some (.int .u64 u):=(Jk hh _).trans jO
 have c3:w1.frozen? ⟨g,k,none⟩=false:=by have:=HF.out k;unfold World.frozen? at this⊢;rw [hh];exact this
 have HB:=Lib.hid hb;have HHH:=Lib.hid hh;clear hb hh
 go_wp2_with fail
 go_end0
 exact ⟨⟨_,rfl⟩,w1,HHH.out,HB.out,rfl⟩
theorem vV(x:Int)(w:World):Calls Tryz.prog 168 #[.int .u64 x] w (Tg (.tuple #[.int .u64 0, .bool false]) w):=by
 go_enter Tryz.func168,Tryz.ntmps168
 go_wp2_with fail
 go_ret2
 exact ⟨rfl,Below.refl _ _,rfl⟩
theorem vE(x v:Int)(b:Nat)(w:World)(h:w.cell? ⟨b,0,none⟩=some (.int .u64 v)):Calls Tryz.prog 107 #[.int .u64 x, .pointer (some ⟨b,0,none⟩)] w (Tg (.tuple #[.int .u64 v, .bool true]) w):=by
 go_enter Tryz.func107,Tryz.ntmps107
 go_wp2_with fail
 go_ret2
 exact ⟨rfl,Below.refl _ _,rfl⟩
theorem wV(x v o:Int)(b c:Nat)(w:World)(h:w.cell? ⟨b,0,none⟩=some (.int .u64 v))(k:w.cell? ⟨c,0,none⟩=some (.int .u64 o)):
  Calls Tryz.prog 169 #[.int .u64 x, .pointer (some ⟨b,0,none⟩), .pointer (some ⟨c,0,none⟩)] w (Tg (.tuple #[.int .u64 v, .bool (x==o)]) w):=by
 go_enter Tryz.func169,Tryz.ntmps169
 go_wp2_with fail
 go_quiet (fail)
 go_wp2_with fail
 go_ret2
 exact ⟨rfl,⟨rfl,rfl,rfl,Nat.le_refl _,fun _ _=>rfl⟩,rfl⟩
theorem o8(f t:Nat)(a:Option Addr)(n cap:Nat)(w:World)(h:w.cell? ⟨f,t,none⟩=some (.slice a n cap))(hf:w.frozen? ⟨f,t,none⟩=false):
  Calls Tryz.prog 257 #[.pointer (some ⟨f,t,none⟩)] w fun e w'=>e= .returned (.slice a n cap)/\w'=w.setCell ⟨f,t,none⟩ (.slice none 0 0):=by
 go_enter Tryz.func257,Tryz.ntmps257
 go_wp2_with fail
 go_ret
 exact ⟨rfl,rfl⟩
end Go.Proofs.YtfnkmolffhfpoaaGreat
