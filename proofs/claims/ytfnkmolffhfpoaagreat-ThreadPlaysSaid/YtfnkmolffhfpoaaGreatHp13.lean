/- -/
import Derived.Test.YtfnkmolffhfpoaaGreatHp12
import Derived.WalkKit
import Derived.Lib.Hide
import Derived.BigQuiet
import Derived.Test.YtfnkmolffhfpoaaGreatProg
import Derived.ProofKit
import Derived.OpenShut
import Derived.Laws.Pointers
import Derived.RegionTactic
import Derived.BigRegion
import Derived.ChangeAlike
import Derived.Deep.RegionWith
import Derived.Deep.Cut
import Derived.Deep.CutRange
set_option maxRecDepth 100000
set_option maxHeartbeats 4000000
set_option linter.unusedVariables false
set_option linter.unusedSimpArgs false
namespace Go.Proofs.YtfnkmolffhfpoaaGreat
namespace Sk
open Go.RowKit
theorem fL:(List.range 390).map fnT.get=(List.range 390).map (jS Tryz.prog fnT.get):=by kernel_rfl
theorem VA:(List.range 390).map (PC fnT.get)=(List.range 390).map fun _=>false:=by kernel_rfl
theorem gL:(List.range 343).map tyT.get=(List.range 343).map (kS Tryz.prog tyT.get):=by kernel_rfl
theorem WC(v:Value)(w:World):(method (Tryz.prog.types.size+Made.depth) 39 v "Step").run Tryz.prog w= .ok (10,v) w:=by kernel_rfl
theorem XC(v:Value)(w:World):(method (Tryz.prog.types.size+Made.depth) 39 v "Done").run Tryz.prog w= .ok (15,v) w:=by kernel_rfl
theorem Uw(v:Value)(w:World):(method (Tryz.prog.types.size+Made.depth) 39 v "Result").run Tryz.prog w= .ok (16,v) w:=by kernel_rfl
theorem Yz(v:Value)(w:World):(method (Tryz.prog.types.size+Made.depth) 39 v "Holds").run Tryz.prog w= .ok (17,v) w:=by kernel_rfl
theorem YC(v:Value)(w:World):(method (Tryz.prog.types.size+Made.depth) 39 v "When").run Tryz.prog w= .ok (19,v) w:=by kernel_rfl
theorem Zz(v:Value)(w:World):(method (Tryz.prog.types.size+Made.depth) 39 v "Where").run Tryz.prog w= .ok (20,v) w:=by kernel_rfl
theorem Vw(v:Value)(w:World):(method (Tryz.prog.types.size+Made.depth) 39 v "Writes").run Tryz.prog w= .ok (21,v) w:=by kernel_rfl
theorem aA(v:Value)(w:World):(method (Tryz.prog.types.size+Made.depth) 243 v "Step").run Tryz.prog w= .ok (385,v) w:=by kernel_rfl
theorem bA(v:Value)(w:World):(method (Tryz.prog.types.size+Made.depth) 243 v "Done").run Tryz.prog w= .ok (382,v) w:=by kernel_rfl
theorem Nu(v:Value)(w:World):(method (Tryz.prog.types.size+Made.depth) 243 v "Result").run Tryz.prog w= .ok (384,v) w:=by kernel_rfl
theorem Ww(v:Value)(w:World):(method (Tryz.prog.types.size+Made.depth) 243 v "Holds").run Tryz.prog w= .ok (383,v) w:=by kernel_rfl
theorem cA(v:Value)(w:World):(method (Tryz.prog.types.size+Made.depth) 243 v "When").run Tryz.prog w= .ok (386,v) w:=by kernel_rfl
theorem Xw(v:Value)(w:World):(method (Tryz.prog.types.size+Made.depth) 243 v "Where").run Tryz.prog w= .ok (387,v) w:=by kernel_rfl
theorem Ou(v:Value)(w:World):(method (Tryz.prog.types.size+Made.depth) 243 v "Writes").run Tryz.prog w= .ok (388,v) w:=by kernel_rfl
theorem WA(t:TypeId)(n:String)(f:FuncId)(h:AS t n=some f)(v:Value)(w:World):(method (Tryz.prog.types.size+Made.depth) t v n).run Tryz.prog w= .ok (f,v) w:=by
 unfold AS at h
 split at h
 . rename_i hc;cases h;simp only [Da,Bool.and_eq_true,Va,decide_eq_true_eq,beq_iff_eq]at hc;obtain ⟨rfl,rfl⟩:=hc;exact Ou v w
 split at h
 . rename_i hc;cases h;simp only [Da,Bool.and_eq_true,Va,decide_eq_true_eq,beq_iff_eq]at hc;obtain ⟨rfl,rfl⟩:=hc;exact Xw v w
 split at h
 . rename_i hc;cases h;simp only [Da,Bool.and_eq_true,Va,decide_eq_true_eq,beq_iff_eq]at hc;obtain ⟨rfl,rfl⟩:=hc;exact cA v w
 split at h
 . rename_i hc;cases h;simp only [Da,Bool.and_eq_true,Va,decide_eq_true_eq,beq_iff_eq]at hc;obtain ⟨rfl,rfl⟩:=hc;exact Ww v w
 split at h
 . rename_i hc;cases h;simp only [Da,Bool.and_eq_true,Va,decide_eq_true_eq,beq_iff_eq]at hc;obtain ⟨rfl,rfl⟩:=hc;exact Nu v w
 split at h
 . rename_i hc;cases h;simp only [Da,Bool.and_eq_true,Va,decide_eq_true_eq,beq_iff_eq]at hc;obtain ⟨rfl,rfl⟩:=hc;exact bA v w
 split at h
 . rename_i hc;cases h;simp only [Da,Bool.and_eq_true,Va,decide_eq_true_eq,beq_iff_eq]at hc;obtain ⟨rfl,rfl⟩:=hc;exact aA v w
 split at h
 . rename_i hc;cases h;simp only [Da,Bool.and_eq_true,Va,decide_eq_true_eq,beq_iff_eq]at hc;obtain ⟨rfl,rfl⟩:=hc;exact Vw v w
 split at h
 . rename_i hc;cases h;simp only [Da,Bool.and_eq_true,Va,decide_eq_true_eq,beq_iff_eq]at hc;obtain ⟨rfl,rfl⟩:=hc;exact Zz v w
 split at h
 . rename_i hc;cases h;simp only [Da,Bool.and_eq_true,Va,decide_eq_true_eq,beq_iff_eq]at hc;obtain ⟨rfl,rfl⟩:=hc;exact YC v w
 split at h
 . rename_i hc;cases h;simp only [Da,Bool.and_eq_true,Va,decide_eq_true_eq,beq_iff_eq]at hc;obtain ⟨rfl,rfl⟩:=hc;exact Yz v w
 split at h
 . rename_i hc;cases h;simp only [Da,Bool.and_eq_true,Va,decide_eq_true_eq,beq_iff_eq]at hc;obtain ⟨rfl,rfl⟩:=hc;exact Uw v w
 split at h
 . rename_i hc;cases h;simp only [Da,Bool.and_eq_true,Va,decide_eq_true_eq,beq_iff_eq]at hc;obtain ⟨rfl,rfl⟩:=hc;exact XC v w
 split at h
 . rename_i hc;cases h;simp only [Da,Bool.and_eq_true,Va,decide_eq_true_eq,beq_iff_eq]at hc;obtain ⟨rfl,rfl⟩:=hc;exact WC v w
 cases h
end Sk
end Go.Proofs.YtfnkmolffhfpoaaGreat
namespace Go.Proofs.YtfnkmolffhfpoaaGreat
open Go.RowKit
theorem Df(w:World)(cs:Array Value)(e:TypeId)(j:Nat)(u:Value)(h:cs.toList[j]?=some u):(w.alloc (.cells cs e)).cell? ((⟨w.heap.size,0,none⟩:Addr).add j)=some u:=by
 have e1:(⟨w.heap.size,0,none⟩:Addr).add j=⟨w.heap.size,j,none⟩:=by rw [Addr.add_lit,Nat.zero_add]
 rw [e1,cell_of_row _ _ j cs e (0,0) (heap_alloc_new w _)]
 simpa using h
theorem gp{a b c:World}{r:Option Nat}(h:a.grownBy b r)(k:b.grownBy c r):a.grownBy c r:=
 ⟨k.os.trans h.os,k.tape.trans h.tape,k.output.trans h.output,Nat.le_trans h.size k.size,
   fun i hi hr=>(k.block i (Nat.lt_of_lt_of_le hi h.size) hr).trans (h.block i hi hr)⟩
theorem Ie{P:Program}{ops:Array Oper}{rest:List Oper}{o:Oper}{a:Act}{Q:Exit->Act->World->Prop}(hgd:o.guard=none)(s x:Operand)(t:TypeId)
  (ho:o.op= .call {callee:= .builtin .append,args:=#[s,x],argTypes:=#[t,t]})
  (base:Nat)(e:TypeId)(i:TypeInfo)(z:Value)(size bytes:Nat)(ht:P.underlying t=some (.slice e))(hi:P.info? e=some i)(hz:i.zero=some z)
  (IF:i.size=size)(BY:i.bytes=bytes)(CY:z.cells.size=size)(mj:0<size)
  (wr:World)(BS:base<=wr.heap.size)(v:Value)(n:Nat)(xs:List Value)(hs:a.eval s=v)(ke:wr.ownsRow base e size v n xs)
  (cs:Array Value)(m c:Nat)(hx:a.eval x= .slice (some ⟨wr.heap.size,0,none⟩) m c)(hl:cs.size=m*size)(h1:∀u∈cs.toList,u.oneCell'=true)
  (h63:n+m<=maxLen)(Yw:(n+m)*bytes<=140737488355328)
  (h:∀v' w',w'.ownsRow base e size v' (n+m) (xs++cs.toList)->wr.grownBy w' v.ownBlock->(∀B W,Below B W wr->B<=base->Below B W w')->(v'= .slice none 0 0<->v= .slice none 0 0/\m=0)->wpList P ops Q rest (a.put o.dst v') w'):
  wpList P ops Q (o::rest) a (wr.alloc (.cells cs e)):=by
 refine wpList_append_own _ hgd s x t ho base e i z size bytes ht hi hz IF BY CY mj v n xs hs (ke.alloc _) ⟨wr.heap.size,0,none⟩ m c cs.toList hx (by simpa using hl) (fun j u hj=>Df wr cs e j u hj) h1 h63 Yw (by simp;omega) ?_
 intro v' w' wO du hn';refine h v' w' wO (gp (World.grownBy_alloc wr _ _) du) (fun B W hb hB=> ?_) hn';refine (hb.alloc (by omega) _).grown du (by simp;omega) (fun k hk=> ?_)
 have:=ke.lt k hk;omega
end Go.Proofs.YtfnkmolffhfpoaaGreat
namespace Go.Proofs.YtfnkmolffhfpoaaGreat
open Go.RowKit Go.BigFrame
theorem ua{p:Prop}[Decidable p](h:¬p):decide p=false:=by simp [h]
theorem ga{p:Prop}[Decidable p](h:p):decide p=true:=by simp [h]
def Gc(v:Value)(w:World)(e:Ending)(w':World):Prop:=e= .returned v/\w'=w
theorem Vi{a b:Value}(h:a=b):Ending.returned a=Ending.returned b:=by rw [h]
theorem iL(m:Nat)(c:Int)(w:World)(h:w.cell? ⟨m,2,none⟩=some (.int .i64 c)):Calls Tryz.prog 72 #[.pointer (some ⟨m,0,none⟩)] w (Gc (.int .i64 c) w):=by
 go_enter Tryz.func72,Tryz.ntmps72
 go_wp2_with fail
 go_ret
 exact ⟨rfl,rfl⟩
theorem wap(m:Nat)(c:Int)(w:World)(h:w.cell? ⟨m,3,none⟩=some (.int .i64 c)):Calls Tryz.prog 73 #[.pointer (some ⟨m,0,none⟩)] w (Gc (.int .i64 c) w):=by
 go_enter Tryz.func73,Tryz.ntmps73
 go_wp2_with fail
 go_ret
 exact ⟨rfl,rfl⟩
theorem CS(m d:Nat)(w:World)(h:w.cell? ⟨m,0,none⟩=some (.pointer (some ⟨d,0,none⟩))):Calls Tryz.prog 48 #[.pointer (some ⟨m,0,none⟩)] w (Gc (.pointer (some ⟨d,0,none⟩)) w):=by
 go_enter Tryz.func48,Tryz.ntmps48
 go_wp2_with fail
 go_ret
 exact ⟨rfl,rfl⟩
def Fc(v:Value)(w:World)(e:Ending)(w':World):Prop:=e= .returned v/\Below w.heap.size w w'
theorem Iaf(m:Nat)(ki th pl ol ne:Int)(dn:Bool)(w:World)(hm:m<w.heap.size)(h0:w.cell? ⟨m,4,none⟩=some (.int .i64 ki))(h1:w.cell? ⟨m,5,none⟩=some (.int .i64 th))(h2:w.cell? ⟨m,6,none⟩=some (.int .i64 pl))(h3:w.cell? ⟨m,7,none⟩=some (.int .u64 ol))(h4:w.cell? ⟨m,8,none⟩=some (.int .u64 ne))(h5:w.cell? ⟨m,9,none⟩=some (.bool dn)):
  Calls Tryz.prog 74 #[.pointer (some ⟨m,0,none⟩)] w (Fc (.agg #[.int .i64 ki, .int .i64 th, .int .i64 pl, .int .u64 ol, .int .u64 ne, .bool dn]) w):=by
 have Jc:m≠w.heap.size:=by omega
 have Rz:w.heap.size≠m:=by omega
 go_enter Tryz.func74,Tryz.ntmps74
 go_wp2_with fail
 have hh:=heap_alloc_new w (.cells #[.int .i64 ki, .int .i64 th, .int .i64 pl, .int .u64 ol, .int .u64 ne, .bool dn] 112);have z0:=cell_of_row _ _ 0 _ _ _ hh;have z1:=cell_of_row _ _ 1 _ _ _ hh;have z2:=cell_of_row _ _ 2 _ _ _ hh;have z3:=cell_of_row _ _ 3 _ _ _ hh;have z4:=cell_of_row _ _ 4 _ _ _ hh;have z5:=cell_of_row _ _ 5 _ _ _ hh;refine bodyPost_ret (v:= .agg #[.int .i64 ki, .int .i64 th, .int .i64 pl, .int .u64 ol, .int .u64 ne, .bool dn]) (by simp [results,Tryz.results74,go_sem,z0,z1,z2,z3,z4,z5]) rfl ⟨rfl,(Below.refl _ _).alloc (Nat.le_refl _) _⟩
theorem JO(n:Int)(w:World):Calls Tryz.prog 102 #[.int .i64 n] w (Gc (.bool (decide (1<=n/\n<=64))) w):=by
 by_cases h:1<=n
 . have d1:decide (1<=n)=true:=ga h;have e:decide (1<=n/\n<=64)=decide (n<=64):=by simp [h]
   rw [e]
   go_enter Tryz.func102,Tryz.ntmps102
   go_wp2_with fail
   go_ret
   exact ⟨rfl,rfl⟩
 . have d1:decide (1<=n)=false:=ua h;have e:decide (1<=n/\n<=64)=false:=by simp [h]
   rw [e]
   go_enter Tryz.func102,Tryz.ntmps102
   go_wp2_with fail
   go_ret
   exact ⟨rfl,rfl⟩
def lp(n:Nat)(at_:Int):Int:=if at_<0\/(n:Int)<=at_/8 then 5 else 0
def Rh(n:Nat)(l:Int):Int:=if l<0\/(n:Int)<=l then 5 else 0
def Hb(n:Nat)(t:Int):Int:=if t<0\/(n:Int)<=t then 1 else 0
theorem OI(d:Nat)(a:Option Addr)(n cap:Nat)(hn:n<=262144)(at_:Int)(q1:at_<=9223372036854775807)(w:World)(h:w.cell? ⟨d,1,none⟩=some (.slice a n cap)):
  Calls Tryz.prog 258 #[.pointer (some ⟨d,0,none⟩), .int .i64 at_] w (Gc (.int .i64 (lp n at_)) w):=by
 by_cases h0:at_<0
 . have d1:decide (at_<0)=true:=ga h0
   go_enter Tryz.func258,Tryz.ntmps258
   go_wp2_with fail
   go_ret
   exact ⟨Vi (by simp [lp,h0]),rfl⟩
 . have d1:decide (at_<0)=false:=ua h0;have q0:0<=at_:=by omega
   have e8:at_.tdiv 8=at_/8:=Int.tdiv_eq_ediv_of_nonneg q0;by_cases h1:(n:Int)<=at_/8
   . have d2:decide ((n:Int)<=at_/8)=true:=ga h1
     go_enter Tryz.func258,Tryz.ntmps258
     go_wp2_with fail
     go_ret
     exact ⟨Vi (by simp [lp,h0,h1]),rfl⟩
   . have d2:decide ((n:Int)<=at_/8)=false:=ua h1
     go_enter Tryz.func258,Tryz.ntmps258
     go_wp2_with fail
     go_ret
     exact ⟨Vi (by rw [lp,if_neg (show¬(at_<0\/(n:Int)<=at_/8)by omega)];rfl),rfl⟩
theorem Ns(d:Nat)(a:Option Addr)(n cap:Nat)(l:Int)(w:World)(h:w.cell? ⟨d,1,none⟩=some (.slice a n cap)):
  Calls Tryz.prog 173 #[.pointer (some ⟨d,0,none⟩), .int .i64 l] w (Gc (.int .i64 (Rh n l)) w):=by
 by_cases h0:l<0
 . have d1:decide (l<0)=true:=ga h0
   go_enter Tryz.func173,Tryz.ntmps173
   go_wp2_with fail
   go_ret
   exact ⟨Vi (by simp [Rh,h0]),rfl⟩
 . have d1:decide (l<0)=false:=ua h0;by_cases h1:(n:Int)<=l
   . have d2:decide ((n:Int)<=l)=true:=ga h1
     go_enter Tryz.func173,Tryz.ntmps173
     go_wp2_with fail
     go_ret
     exact ⟨Vi (by simp [Rh,h0,h1]),rfl⟩
   . have d2:decide ((n:Int)<=l)=false:=ua h1
     go_enter Tryz.func173,Tryz.ntmps173
     go_wp2_with fail
     go_ret
     exact ⟨Vi (by rw [Rh,if_neg (show¬(l<0\/(n:Int)<=l)by omega)];rfl),rfl⟩
theorem Wq(d:Nat)(a:Option Addr)(n cap:Nat)(t:Int)(w:World)(h:w.cell? ⟨d,3,none⟩=some (.slice a n cap)):
  Calls Tryz.prog 255 #[.pointer (some ⟨d,0,none⟩), .int .i64 t] w (Gc (.int .i64 (Hb n t)) w):=by
 by_cases h0:t<0
 . have d1:decide (t<0)=true:=ga h0
   go_enter Tryz.func255,Tryz.ntmps255
   go_wp2_with fail
   go_ret
   exact ⟨Vi (by simp [Hb,h0]),rfl⟩
 . have d1:decide (t<0)=false:=ua h0;by_cases h1:(n:Int)<=t
   . have d2:decide ((n:Int)<=t)=true:=ga h1
     go_enter Tryz.func255,Tryz.ntmps255
     go_wp2_with fail
     go_ret
     exact ⟨Vi (by simp [Hb,h0,h1]),rfl⟩
   . have d2:decide ((n:Int)<=t)=false:=ua h1
     go_enter Tryz.func255,Tryz.ntmps255
     go_wp2_with fail
     go_ret
     exact ⟨Vi (by rw [Hb,if_neg (show¬(t<0\/(n:Int)<=t)by omega)];rfl),rfl⟩
theorem aa{W:World}{b j g:Nat}{v:Value}(h:g≠b):(W.setCell ⟨b,j,none⟩ v).heap[g]?=W.heap[g]?:=Below.heap_setCell W _ v g h
theorem heap_set{w:World}{g j:Nat}{c:Array Value}{t:TypeId}{f:Nat×Nat}(v:Value)(h:w.heap[g]?=some (.cells c t f)):(w.setCell ⟨g,j,none⟩ v).heap[g]?=some (.cells (c.setIfInBounds j v) t f):=by
 simp [World.setCell,Array.getElem?_modify,h]
theorem cell_of_heap{w w':World}{b:Nat}(h:w'.heap[b]?=w.heap[b]?)(o:Nat):w'.cell? ⟨b,o,none⟩=w.cell? ⟨b,o,none⟩:=World.cell?_of_block (w:=w) (a:=⟨b,o,none⟩) h
theorem frozen_of_heap{w w':World}{b:Nat}(h:w'.heap[b]?=w.heap[b]?)(o:Nat):w'.frozen? ⟨b,o,none⟩=w.frozen? ⟨b,o,none⟩:=World.frozen?_of_block (w:=w) (a:=⟨b,o,none⟩) h
structure jv(p:Nat)(w w':World):Prop where
 os:w'.os=w.os
 tape:w'.tape=w.tape
 output:w'.output=w.output
 size:w.heap.size<=w'.heap.size
 block:∀k,k<w.heap.size->k≠p->w'.heap[k]?=w.heap[k]?
theorem jv.refl(p:Nat)(w:World):jv p w w:=⟨rfl,rfl,rfl,Nat.le_refl _,fun _ _ _=>rfl⟩
theorem jv.trans{p:Nat}{x y z:World}(h:jv p x y)(k:jv p y z):jv p x z:=
 ⟨k.os.trans h.os,k.tape.trans h.tape,k.output.trans h.output,Nat.le_trans h.size k.size,fun i hi h1=>(k.block i (Nat.lt_of_lt_of_le hi h.size) h1).trans (h.block i hi h1)⟩
theorem jv.alloc{p:Nat}{a w:World}(h:jv p a w)(o:Obj):jv p a (w.alloc o):=
 ⟨h.os,h.tape,h.output,Nat.le_trans h.size (by simp),fun k hk hb=>by rw [Below.heap_alloc _ _ _ (Nat.lt_of_lt_of_le hk h.size)];exact h.block k hk hb⟩
theorem jv.set{p:Nat}{a w:World}(h:jv p a w)(j:Nat)(v:Value):jv p a (w.setCell ⟨p,j,none⟩ v):=
 ⟨h.os,h.tape,h.output,by simpa [World.setCell]using h.size,fun k hk hb=>by rw [aa hb];exact h.block k hk hb⟩
structure Acc where
 ki:Int
 th:Int
 pl:Int
 ol:Int
 ne:Int
 dn:Bool
def Acc.cells(x:Acc):Array Value:=#[.int .i64 x.ki, .int .i64 x.th, .int .i64 x.pl, .int .u64 x.ol, .int .u64 x.ne, .bool x.dn]
def Mj(W:World)(m:Nat)(dv pv:Value)(ck bd:Int)(x:Acc):Prop:=
 W.heap[m]?=some (.cells #[dv,pv, .int .i64 ck, .int .i64 bd, .int .i64 x.ki, .int .i64 x.th, .int .i64 x.pl, .int .u64 x.ol, .int .u64 x.ne, .bool x.dn] 181 (0,0))
theorem qd{W:World}{b:Nat}{k0 k1 k2 k3 k4 k5 k6 k7 k8 k9:Value}{t:TypeId}(h:W.heap[b]?=some (.cells #[k0,k1,k2,k3,k4,k5,k6,k7,k8,k9] t (0,0))):
  W.cell? ⟨b,0,none⟩=some k0/\W.cell? ⟨b,1,none⟩=some k1/\W.cell? ⟨b,2,none⟩=some k2/\W.cell? ⟨b,3,none⟩=some k3/\W.cell? ⟨b,4,none⟩=some k4/\W.cell? ⟨b,5,none⟩=some k5/\W.cell? ⟨b,6,none⟩=some k6/\W.cell? ⟨b,7,none⟩=some k7/\W.cell? ⟨b,8,none⟩=some k8/\W.cell? ⟨b,9,none⟩=some k9/\∀j,W.frozen? ⟨b,j,none⟩=false:=by
 refine ⟨?_, ?_, ?_, ?_, ?_, ?_, ?_, ?_, ?_, ?_,fun j=> ?_⟩
 all_goals first|(rw [cell_of_row _ _ _ _ _ _ h];rfl)|(unfold World.frozen?;rw [h];simp)
theorem JF{W:World}{m:Nat}{k0 k1 k2 k3 k4 k5 k6 k7 k8 k9 a2 a4 a5 a6 a7 a8 a9:Value}{t:TypeId}{f:Nat×Nat}(h:W.heap[m]?=some (.cells #[k0,k1,k2,k3,k4,k5,k6,k7,k8,k9] t f)):
  (((((((W.setCell ⟨m,2,none⟩ a2).setCell ⟨m,4,none⟩ a4).setCell ⟨m,5,none⟩ a5).setCell ⟨m,6,none⟩ a6).setCell ⟨m,7,none⟩ a7).setCell ⟨m,8,none⟩ a8).setCell ⟨m,9,none⟩ a9).heap[m]?=some (.cells #[k0,k1,a2,k3,a4,a5,a6,a7,a8,a9] t f):=by
 have h2:=heap_set (j:=2) a2 h;have h4:=heap_set (j:=4) a4 h2;have h5:=heap_set (j:=5) a5 h4;have h6:=heap_set (j:=6) a6 h5;have h7:=heap_set (j:=7) a7 h6;have h8:=heap_set (j:=8) a8 h7;have h9:=heap_set (j:=9) a9 h8;rw [h9];rfl
def XA(W:World)(m:Nat)(dv pv:Value)(ck bd:Int)(x:Acc)(e:Ending)(W':World):Prop:=
 (∃v,e= .returned v)/\Mj W' m dv pv (ck+1) bd x/\jv m W W'
set_option maxRecDepth 100000 in
theorem jL(m:Nat)(dv pv:Value)(ck bd:Int)(c0:0<=ck)(c1:ck<=1000000)(b0:0<=bd)(b1:bd<=1000000)(x0 x:Acc)(is:Bool)(W:World)(h:Mj W m dv pv ck bd x0):
  Calls Tryz.prog 205 #[.pointer (some ⟨m,0,none⟩), .agg x.cells, .bool is] W (XA W m dv pv ck (if is then bd else bd+1) x):=by
 obtain ⟨y0,y1,y2,y3,y4,y5,y6,y7,y8,y9,yf⟩:=qd h;have Db:m<W.heap.size:=(Array.getElem?_eq_some_iff.1 h).1
 have Jc:m≠W.heap.size:=by omega
 have Rz:W.heap.size≠m:=by omega
 have HH:=Lib.hid h;clear h;simp only [Acc.cells];cases is with
 |true=>
  go_enter Tryz.func205,Tryz.ntmps205
  go_wp2_with fail
  go_end0
  refine ⟨⟨_,rfl⟩, ?_, ?_⟩
  . unfold Mj;rw [Below.heap_alloc _ _ _ (by simpa using Db)];exact JF HH.out
  . exact ((((((((jv.refl m W).set 2 _).set 4 _).set 5 _).set 6 _).set 7 _).set 8 _).set 9 _).alloc _
 |false=>
  go_enter Tryz.func205,Tryz.ntmps205
  go_wp2_with fail
  go_end0
  refine ⟨⟨_,rfl⟩, ?_, ?_⟩
  . unfold Mj;rw [Below.heap_alloc _ _ _ (by simpa using Db)];have h3:=heap_set (j:=3) (.int .i64 (bd+1)) (JF (a2:= .int .i64 (ck+1)) (a4:= .int .i64 x.ki) (a5:= .int .i64 x.th) (a6:= .int .i64 x.pl) (a7:= .int .u64 x.ol) (a8:= .int .u64 x.ne) (a9:= .bool x.dn) HH.out);rw [h3];rfl
  . exact (((((((((jv.refl m W).set 2 _).set 4 _).set 5 _).set 6 _).set 7 _).set 8 _).set 9 _).set 3 _).alloc _
theorem XA.from{W W1 W':World}{m:Nat}{dv pv:Value}{ck bd:Int}{x:Acc}{e:Ending}(h:XA W1 m dv pv ck bd x e W')(hb:jv m W W1):XA W m dv pv ck bd x e W':=
 ⟨h.1,h.2.1,hb.trans h.2.2⟩
set_option maxRecDepth 100000 in
theorem Jaf(m:Nat)(dv pv:Value)(ck bd:Int)(c0:0<=ck)(c1:ck<=1000000)(b0:0<=bd)(b1:bd<=1000000)(x0 x:Acc)(er:Int)(W:World)(h:Mj W m dv pv ck bd x0):
  Calls Tryz.prog 170 #[.pointer (some ⟨m,0,none⟩), .agg x.cells, .int .i64 er] W (XA W m dv pv ck (if er==0 then bd else bd+1) ⟨x.ki,x.th,x.pl,x.ol,x.ne,er==0⟩):=by
 have Db:m<W.heap.size:=(Array.getElem?_eq_some_iff.1 h).1
 have HH:=Lib.hid h;clear h;have H73:Hid (∀o,Calls Tryz.prog 205 #[.pointer (some ⟨m,0,none⟩), .agg #[.int .i64 x.ki, .int .i64 x.th, .int .i64 x.pl, .int .u64 x.ol, .int .u64 x.ne, .bool (er==0)], .bool (er==0)] (W.alloc o) (XA W m dv pv ck (if er==0 then bd else bd+1) ⟨x.ki,x.th,x.pl,x.ol,x.ne,er==0⟩)):=Lib.hid fun o=>
  (jL m dv pv ck bd c0 c1 b0 b1 x0 ⟨x.ki,x.th,x.pl,x.ol,x.ne,er==0⟩ (er==0) (W.alloc o) ((Below.heap_alloc _ _ _ Db).trans HH.out)).mono fun e w hn=>hn.from ((jv.refl m W).alloc o)
 generalize (if er==0 then bd else bd+1)=bd' at*;obtain ⟨y,hy⟩:∃y,y=(⟨x.ki,x.th,x.pl,x.ol,x.ne,er==0⟩:Acc):=⟨_,rfl⟩;rw [<-hy]at H73⊢;clear hy;simp only [Acc.cells]
 go_enter Tryz.func170,Tryz.ntmps170
 go_wp2_with fail
 refine (H73.out _).mono ?_
 rintro e w' hn;obtain ⟨⟨v,rfl⟩,hr,hb⟩:=hn;have HR:=Lib.hid hr;have HB:=Lib.hid hb;clear hr hb
 go_wp2_with fail
 go_end0
 exact ⟨⟨_,rfl⟩,HR.out,HB.out⟩
theorem kL(n:Nat)(hn:n<=9223372036854775807)(w:World):Calls Tryz.prog 201 #[.int .i64 n, .int .i64 8] w (Gc (.int .i64 (if(n:Int) %8≠0 then 3 else if 262144<(n:Int)/8 then 2 else 0)) w):=by
 have e1:(n:Int).tdiv 8=(n:Int)/8:=Int.tdiv_eq_ediv_of_nonneg (by omega)
 have e2:(n:Int).tmod 8=(n:Int) %8:=Int.tmod_eq_emod_of_nonneg (by omega)
 by_cases h3:(n:Int) %8=0
 . have d3:((n:Int) %8 != 0)=false:=by simp [h3]
   rw [if_neg (fun h=>h h3)];by_cases h4:262144<(n:Int)/8
   . have d4:decide (262144<(n:Int)/8)=true:=ga h4;rw [if_pos h4]
     go_enter Tryz.func201,Tryz.ntmps201
     go_wp2_with fail
     go_ret
     exact ⟨rfl,rfl⟩
   . have d4:decide (262144<(n:Int)/8)=false:=ua h4;rw [if_neg h4]
     go_enter Tryz.func201,Tryz.ntmps201
     go_wp2_with fail
     go_ret
     exact ⟨rfl,rfl⟩
 . have d3:((n:Int) %8 != 0)=true:=by simp [h3]
   rw [if_pos h3]
   go_enter Tryz.func201,Tryz.ntmps201
   go_wp2_with fail
   go_ret
   exact ⟨rfl,rfl⟩
def Wi(v:Value)(w:World)(e:Ending)(w':World):Prop:=e= .returned v/\Below w.heap.size w w'/\w'.heap=w.heap
theorem DS(m:Nat)(a:Option Addr)(np cap:Nat)(Zj:np<=262144)(at_:Int)(q0:-9223372036854775808<=at_)(q1:at_<=9223372036854775807)(w:World)(h:w.cell? ⟨m,1,none⟩=some (.slice a np cap)):
  Calls Tryz.prog 177 #[.pointer (some ⟨m,0,none⟩), .int .i64 at_] w (Wi (.tuple #[.int .i64 (-1 -at_), .bool (decide (at_<0/\-1 -at_<(np:Int)))]) w):=by
 have w1:wrap64 (-1 -at_)=-1 -at_:=by unfold wrap64;omega
 by_cases h0:at_<0
 . have d0:decide (at_<0)=true:=ga h0;rw [show decide (at_<0/\-1 -at_<(np:Int))=decide (-1 -at_<(np:Int))by simp [h0]]
   go_enter Tryz.func177,Tryz.ntmps177
   go_wp2_with fail
   go_quiet (fail)
   go_wp2_with fail
   go_ret2
   exact ⟨rfl,⟨rfl,rfl,rfl,Nat.le_refl _,fun _ _=>rfl⟩,rfl⟩
 . have d0:decide (at_<0)=false:=ua h0;rw [show decide (at_<0/\-1 -at_<(np:Int))=false by simp [h0]]
   go_enter Tryz.func177,Tryz.ntmps177
   go_wp2_with fail
   go_quiet (fail)
   go_wp2_with fail
   go_ret2
   exact ⟨rfl,⟨rfl,rfl,rfl,Nat.le_refl _,fun _ _=>rfl⟩,rfl⟩
def kZ(W:World)(a b:Option Addr)(n:Nat)(l:Nat->Int):Prop:=
 0<n->∃g h,a=some ⟨g,0,none⟩/\b=some ⟨h,0,none⟩/\g<W.heap.size/\h<W.heap.size/\∀j,j<n->W.cell? ⟨g,j,none⟩=some (.int .u64 (l j))/\W.cell? ⟨h,j,none⟩=some (.int .u64 (l j))
set_option maxRecDepth 100000 in
theorem Kaf(a b:Option Addr)(n ca cb:Nat)(hn:n<=2097152)(l:Nat->Int)(W:World)(h:kZ W a b n l):
  Calls Tryz.prog 75 #[.slice a n ca, .slice b n cb] W (Fc (.bool true) W):=by
 have HA:=Lib.hid h;clear h
 go_enter Tryz.func75,Tryz.ntmps75
 go_wp2_with fail
 go_loopw [5] (fun i wr=>∃k:Nat,k<=n/\i= .int .i64 k/\Hid (Below W.heap.size W wr)) (fun i _=>n -(intOf i).toNat)
 case atStart=>exact ⟨0,Nat.zero_le _,rfl,Lib.hid (Below.refl _ _)⟩
 case round=>
  obtain ⟨k,hk,rfl,HB⟩:=hrel;by_cases Db:k<n
  . obtain ⟨g,h,rfl,rfl,hg,hh,hc⟩:=HA.out (by omega);obtain ⟨x,y⟩:=hc k Db;have x':wr.cell? ⟨g,k,none⟩=some (.int .u64 (l k)):=(HB.out.cell (p:=⟨g,k,none⟩) hg).trans x
    have y':wr.cell? ⟨h,k,none⟩=some (.int .u64 (l k)):=(HB.out.cell (p:=⟨h,k,none⟩) hh).trans y
    have e1:decide ((k:Int)<(n:Int))=true:=by simp;omega
    have e2:(0:Int)<=(k:Int):=by omega
    have e3:(k:Int)<(n:Int):=by omega
    clear hc x y;generalize l k=v at*
    go_wp2_with fail
    go_quiet (fail)
    go_wp2_with fail
    go_roundw
    case rel=>exact ⟨k+1,by omega,by go_num,Lib.hid (HB.out.trans ⟨rfl,rfl,rfl,Nat.le_refl _,fun _ _=>rfl⟩)⟩
    case measure=>simp [intOf];omega
  . obtain rfl:k=n:=by omega
    have e1:decide ((k:Int)<(k:Int))=false:=by simp
    go_wp2_with fail
    go_ret
    exact ⟨rfl,HB.out⟩
theorem KO(d:Nat)(a:Option Addr)(n cap:Nat)(hn:n<=262144)(at_:Int)(q1:at_<=9223372036854775807)(w:World)(h:w.cell? ⟨d,1,none⟩=some (.slice a n cap))(he:lp n at_=5):
  Calls Tryz.prog 176 #[.pointer (some ⟨d,0,none⟩), .int .i64 at_] w (Gc (.tuple #[.int .u64 0, .int .i64 5]) w):=by
 have HW:=Lib.hid (OI d a n cap hn at_ q1 w h);rw [he]at HW;clear he
 go_enter Tryz.func176,Tryz.ntmps176
 go_wp2_with fail
 refine HW.out.mono ?_
 rintro e w' ⟨rfl,hw⟩;cases hw
 go_wp2_with fail
 go_ret2
 exact ⟨rfl,rfl⟩
theorem PI(d s:Nat)(n cap:Nat)(hn:n<=262144)(k:Nat)(hk:k/8<n)(v:Int)(w:World)(h:w.cell? ⟨d,1,none⟩=some (.slice (some ⟨s,0,none⟩) n cap))(hv:w.cell? ⟨s,k,none⟩=some (.int .u64 v)):
  Calls Tryz.prog 176 #[.pointer (some ⟨d,0,none⟩), .int .i64 k] w (Gc (.tuple #[.int .u64 v, .int .i64 0]) w):=by
 have HW:=Lib.hid (OI d (some ⟨s,0,none⟩) n cap hn k (by omega) w h);rw [show lp n (k:Int)=0 by rw [lp,if_neg (by omega)]]at HW;have e1:(k:Int).tdiv 8=((k/8:Nat):Int):=by rw [Int.tdiv_eq_ediv_of_nonneg (by omega)];omega
 have e2:(k:Int).tmod 8=((k %8:Nat):Int):=by rw [Int.tmod_eq_emod_of_nonneg (by omega)];omega
 have e3:(k:Int)/8=((k/8:Nat):Int):=by omega
 have e4:(k:Int) %8=((k %8:Nat):Int):=by omega
 obtain ⟨i,hi⟩:∃i,i=k/8:=⟨_,rfl⟩;obtain ⟨r,hr⟩:∃r,r=k %8:=⟨_,rfl⟩;have hv':w.cell? ⟨s,i*8+r,none⟩=some (.int .u64 v):=by rw [show i*8+r=k by omega];exact hv
 rw [<-hi]at e1 e3 hk;rw [<-hr]at e2 e4;have f1:(0:Int)<=(i:Int):=by omega
 have f2:(i:Int)<(n:Int):=by omega
 have f3:(0:Int)<=(r:Int):=by omega
 have f4:(r:Int)<8:=by omega
 have f5:r<8:=by omega
 clear hi hr hv
 go_enter Tryz.func176,Tryz.ntmps176
 go_wp2_with fail
 refine HW.out.mono ?_
 rintro e w' ⟨rfl,hw⟩;cases hw
 go_wp2_with fail
 go_ret2
 exact ⟨rfl,rfl⟩
theorem KF(d s:Nat)(n cap:Nat)(hn:n<=262144)(k:Nat)(hk:k/8<n)(v u:Int)(w:World)(h:w.cell? ⟨d,1,none⟩=some (.slice (some ⟨s,0,none⟩) n cap))(hv:w.cell? ⟨s,k,none⟩=some (.int .u64 u))(hf:∀j,w.frozen? ⟨s,j,none⟩=false):
  Calls Tryz.prog 275 #[.pointer (some ⟨d,0,none⟩), .int .i64 k, .int .u64 v] w fun e w'=>e= .returned (.int .i64 0)/\w'=w.setCell ⟨s,k,none⟩ (.int .u64 v):=by
 have HW:=Lib.hid (OI d (some ⟨s,0,none⟩) n cap hn k (by omega) w h);rw [show lp n (k:Int)=0 by rw [lp,if_neg (by omega)]]at HW;have e1:(k:Int).tdiv 8=((k/8:Nat):Int):=by rw [Int.tdiv_eq_ediv_of_nonneg (by omega)];omega
 have e2:(k:Int).tmod 8=((k %8:Nat):Int):=by rw [Int.tmod_eq_emod_of_nonneg (by omega)];omega
 have e3:(k:Int)/8=((k/8:Nat):Int):=by omega
 have e4:(k:Int) %8=((k %8:Nat):Int):=by omega
 obtain ⟨i,hi⟩:∃i,i=k/8:=⟨_,rfl⟩;obtain ⟨r,hr⟩:∃r,r=k %8:=⟨_,rfl⟩;have hir:i*8+r=k:=by omega
 have hv':w.cell? ⟨s,i*8+r,none⟩=some (.int .u64 u):=by rw [hir];exact hv
 have HIR:=Lib.hid hir;rw [<-hi]at e1 e3 hk;rw [<-hr]at e2 e4;have f1:(0:Int)<=(i:Int):=by omega
 have f2:(i:Int)<(n:Int):=by omega
 have f3:(0:Int)<=(r:Int):=by omega
 have f4:(r:Int)<8:=by omega
 have f5:r<8:=by omega
 clear hi hr hv hir;rw [<-HIR.out];rw [HIR.out]
 go_enter Tryz.func275,Tryz.ntmps275
 go_wp2_with fail
 refine HW.out.mono ?_
 rintro e w' ⟨rfl,hw⟩;cases hw
 go_wp2_with fail
 go_ret
 exact ⟨rfl,by rw [HIR.out]⟩
structure mv(W:World)(m d s n cap:Nat)(pa:Option Addr)(np pc:Nat)(seen pass:Nat->Int):Prop where
 dv:W.cell? ⟨m,0,none⟩=some (.pointer (some ⟨d,0,none⟩))
 ps:W.cell? ⟨m,1,none⟩=some (.slice pa np pc)
 sn:W.cell? ⟨d,1,none⟩=some (.slice (some ⟨s,0,none⟩) n cap)
 sw:∀k,k/8<n->W.cell? ⟨s,k,none⟩=some (.int .u64 (seen k))
 pw:0<np->∃g,pa=some ⟨g,0,none⟩/\∀k,k<np->W.cell? ⟨g,k,none⟩=some (.int .u64 (pass k))
def Je(n np:Nat)(seen pass:Nat->Int)(at_:Int):Int×Bool:=
 if 0<=at_ then(if at_/8<(n:Int)then(seen at_.toNat,true)else(0,false))
 else if-1 -at_<(np:Int)then(pass (-1 -at_).toNat,true)else(0,false)
theorem Bk{w w':World}(h:w'.heap=w.heap)(a:Addr):w'.cell? a=w.cell? a:=by unfold World.cell?;rw [h]
set_option maxRecDepth 100000 in
theorem Laf(m d s n cap:Nat)(hn:n<=262144)(pa:Option Addr)(np pc:Nat)(Zj:np<=262144)(seen pass:Nat->Int)(at_:Int)(q0:-9223372036854775808<=at_)(q1:at_<=9223372036854775807)(w:World)(h:mv w m d s n cap pa np pc seen pass):
  Calls Tryz.prog 77 #[.pointer (some ⟨m,0,none⟩), .int .i64 at_] w (Wi (.tuple #[.int .u64 (Je n np seen pass at_).1, .bool (Je n np seen pass at_).2]) w):=by
 have x0:=h.dv;have x1:=h.ps;have HH:=Lib.hid h;clear h;by_cases h0:0<=at_
 . have d0:decide (0<=at_)=true:=ga h0;by_cases h1:at_/8<(n:Int)
   . have HL:=Lib.hid (PI d s n cap hn at_.toNat (by omega) (seen at_.toNat) w HH.out.sn (HH.out.sw _ (by omega)));rw [show((at_.toNat:Nat):Int)=at_ by omega]at HL;rw [show Je n np seen pass at_=(seen at_.toNat,true)by rw [Je,if_pos h0,if_pos h1]];generalize seen at_.toNat=v at*
     go_enter Tryz.func77,Tryz.ntmps77
     go_wp2_with fail
     refine HL.out.mono ?_
     rintro e w' ⟨rfl,hw⟩;cases hw
     go_wp2_with fail
     go_ret2
     exact ⟨rfl,Below.refl _ _,rfl⟩
   . have HL:=Lib.hid (KO d (some ⟨s,0,none⟩) n cap hn at_ q1 w HH.out.sn (by rw [lp,if_pos (by omega)]));rw [show Je n np seen pass at_=(0,false)by rw [Je,if_pos h0,if_neg h1]]
     go_enter Tryz.func77,Tryz.ntmps77
     go_wp2_with fail
     refine HL.out.mono ?_
     rintro e w' ⟨rfl,hw⟩;cases hw
     go_wp2_with fail
     go_ret2
     exact ⟨rfl,Below.refl _ _,rfl⟩
 . have d0:decide (0<=at_)=false:=ua h0;have HP:=Lib.hid (DS m pa np pc Zj at_ q0 q1 w x1);by_cases h1:-1 -at_<(np:Int)
   . rw [show decide (at_<0/\-1 -at_<(np:Int))=true from ga ⟨by omega,h1⟩]at HP;obtain ⟨g,hg,hc⟩:=HH.out.pw (by omega);have JR:=hc (-1 -at_).toNat (by omega)
     rw [show Je n np seen pass at_=(pass (-1 -at_).toNat,true)by rw [Je,if_neg h0,if_pos h1]];generalize pass (-1 -at_).toNat=v at*
     subst hg;obtain ⟨k,hk⟩:=Int.eq_ofNat_of_zero_le (show 0<=-1 -at_ by omega);rw [hk]at HP JR;have NQ:w.cell? ⟨g,k,none⟩=some (.int .u64 v):=JR;have f1:(0:Int)<=(k:Int):=by omega
     have f2:(k:Int)<(np:Int):=by omega
     clear hc JR hk
     go_enter Tryz.func77,Tryz.ntmps77
     go_wp2_with fail
     refine HP.out.mono ?_
     rintro e w1 ⟨rfl,hb,hh⟩;have c1:w1.cell? ⟨m,1,none⟩=some (.slice (some ⟨g,0,none⟩) np pc):=(Bk hh _).trans x1
     have c2:w1.cell? ⟨g,k,none⟩=some (.int .u64 v):=(Bk hh _).trans NQ
     have HB:=Lib.hid hb;have HHH:=Lib.hid hh;clear hb hh
     go_wp2_with fail
     go_ret2
     exact ⟨rfl,HB.out,HHH.out⟩
   . rw [show decide (at_<0/\-1 -at_<(np:Int))=false from ua (by omega)]at HP;rw [show Je n np seen pass at_=(0,false)by rw [Je,if_neg h0,if_neg h1]]
     go_enter Tryz.func77,Tryz.ntmps77
     go_wp2_with fail
     refine HP.out.mono ?_
     rintro e w1 ⟨rfl,hb,hh⟩;have HB:=Lib.hid hb;have HHH:=Lib.hid hh;clear hb hh
     go_wp2_with fail
     go_ret2
     exact ⟨rfl,HB.out,HHH.out⟩
def yap(b j:Nat)(v:Int)(w:World)(e:Ending)(w':World):Prop:=(∃x,e= .returned x)/\∃w1,w1.heap=w.heap/\Below w.heap.size w w1/\w'=w1.setCell ⟨b,j,none⟩ (.int .u64 v)
set_option maxRecDepth 100000 in
theorem QI(m d s n cap:Nat)(hn:n<=262144)(pa:Option Addr)(np pc:Nat)(seen pass:Nat->Int)(k:Nat)(hk:k/8<n)(v:Int)(w:World)(h:mv w m d s n cap pa np pc seen pass)(hf:∀j,w.frozen? ⟨s,j,none⟩=false):
  Calls Tryz.prog 204 #[.pointer (some ⟨m,0,none⟩), .int .i64 k, .int .u64 v] w (yap s k v w):=by
 have x0:=h.dv;have HL:=Lib.hid (KF d s n cap hn k hk v (seen k) w h.sn (h.sw k hk) hf);have d0:decide ((0:Int)<=(k:Int))=true:=ga (by omega);clear h hf hk
 go_enter Tryz.func204,Tryz.ntmps204
 go_wp2_with fail
 refine HL.out.mono ?_
 rintro e w' ⟨rfl,hw⟩;have HW:=Lib.hid hw;clear hw
 go_wp2_with fail
 go_end0
 exact ⟨⟨_,rfl⟩,w,rfl,Below.refl _ _,HW.out⟩
set_option maxRecDepth 100000 in
theorem RI(m d s n cap:Nat)(g np pc:Nat)(Zj:np<=262144)(seen pass:Nat->Int)(k:Nat)(hk:k<np)(v:Int)(w:World)(h:mv w m d s n cap (some ⟨g,0,none⟩) np pc seen pass)(hf:∀j,w.frozen? ⟨g,j,none⟩=false):
  Calls Tryz.prog 204 #[.pointer (some ⟨m,0,none⟩), .int .i64 (-1 -(k:Int)), .int .u64 v] w (yap g k v w):=by
 have x1:=h.ps;have HP:=Lib.hid (DS m (some ⟨g,0,none⟩) np pc Zj (-1 -(k:Int)) (by omega) (by omega) w x1);rw [show decide (-1 -(k:Int)<0/\-1 -(-1 -(k:Int))<(np:Int))=true from ga (by omega),show(-1 -(-1 -(k:Int)):Int)=k by omega]at HP;obtain ⟨g',hg,hc⟩:=h.pw (by omega);cases hg;have NQ:=hc k hk;generalize pass k=u at*;have f1:(0:Int)<=(k:Int):=by omega
 have f2:(k:Int)<(np:Int):=by omega
 have d0:decide ((0:Int)<=-1 -(k:Int))=false:=ua (by omega);have HF:=Lib.hid hf;clear h hc hf;generalize (-1 -(k:Int))=at_ at*
 go_enter Tryz.func204,Tryz.ntmps204
 go_wp2_with fail
 refine HP.out.mono ?_
 rintro e w1 ⟨rfl,hb,hh⟩;have c1:w1.cell? ⟨m,1,none⟩=some (.slice (some ⟨g,0,none⟩) np pc):=(Bk hh _).trans x1
 have c2:w1.cell? ⟨g,k,none⟩=some (.int .u64 u):=(Bk hh _).trans NQ
 have c3:w1.frozen? ⟨g,k,none⟩=false:=by have:=HF.out k;unfold World.frozen? at this⊢;rw [hh];exact this
 have HB:=Lib.hid hb;have HHH:=Lib.hid hh;clear hb hh
 go_wp2_with fail
 go_end0
 exact ⟨⟨_,rfl⟩,w1,HHH.out,HB.out,rfl⟩
theorem lZ(x:Int)(w:World):Calls Tryz.prog 168 #[.int .u64 x] w (Wi (.tuple #[.int .u64 0, .bool false]) w):=by
 go_enter Tryz.func168,Tryz.ntmps168
 go_wp2_with fail
 go_ret2
 exact ⟨rfl,Below.refl _ _,rfl⟩
theorem LF(x v:Int)(b:Nat)(w:World)(h:w.cell? ⟨b,0,none⟩=some (.int .u64 v)):Calls Tryz.prog 107 #[.int .u64 x, .pointer (some ⟨b,0,none⟩)] w (Wi (.tuple #[.int .u64 v, .bool true]) w):=by
 go_enter Tryz.func107,Tryz.ntmps107
 go_wp2_with fail
 go_ret2
 exact ⟨rfl,Below.refl _ _,rfl⟩
theorem mZ(x v o:Int)(b c:Nat)(w:World)(h:w.cell? ⟨b,0,none⟩=some (.int .u64 v))(k:w.cell? ⟨c,0,none⟩=some (.int .u64 o)):
  Calls Tryz.prog 169 #[.int .u64 x, .pointer (some ⟨b,0,none⟩), .pointer (some ⟨c,0,none⟩)] w (Wi (.tuple #[.int .u64 v, .bool (x==o)]) w):=by
 go_enter Tryz.func169,Tryz.ntmps169
 go_wp2_with fail
 go_quiet (fail)
 go_wp2_with fail
 go_ret2
 exact ⟨rfl,⟨rfl,rfl,rfl,Nat.le_refl _,fun _ _=>rfl⟩,rfl⟩
theorem Maf(f t:Nat)(a:Option Addr)(n cap:Nat)(w:World)(h:w.cell? ⟨f,t,none⟩=some (.slice a n cap))(hf:w.frozen? ⟨f,t,none⟩=false):
  Calls Tryz.prog 257 #[.pointer (some ⟨f,t,none⟩)] w fun e w'=>e= .returned (.slice a n cap)/\w'=w.setCell ⟨f,t,none⟩ (.slice none 0 0):=by
 go_enter Tryz.func257,Tryz.ntmps257
 go_wp2_with fail
 go_ret
 exact ⟨rfl,rfl⟩
def YA(W:World)(b o:Nat)(l:Nat->Int):Prop:=∀r,r<8->W.cell? ⟨b,o+r,none⟩=some (.int .u64 (l r))
theorem YA.cells{W:World}{b o:Nat}{l:Nat->Int}(h:YA W b o l):W.cell? ⟨b,o,none⟩=some (.int .u64 (l 0))/\W.cell? ⟨b,o+1,none⟩=some (.int .u64 (l 1))/\W.cell? ⟨b,o+2,none⟩=some (.int .u64 (l 2))/\W.cell? ⟨b,o+3,none⟩=some (.int .u64 (l 3))/\
  W.cell? ⟨b,o+4,none⟩=some (.int .u64 (l 4))/\W.cell? ⟨b,o+5,none⟩=some (.int .u64 (l 5))/\W.cell? ⟨b,o+6,none⟩=some (.int .u64 (l 6))/\W.cell? ⟨b,o+7,none⟩=some (.int .u64 (l 7)):=
 ⟨h 0 (by omega),h 1 (by omega),h 2 (by omega),h 3 (by omega),h 4 (by omega),h 5 (by omega),h 6 (by omega),h 7 (by omega)⟩
def dA(w:World)(b o:Nat)(l:Nat->Int):World:=
 (((((((w.setCell ⟨b,o,none⟩ (.int .u64 (l 0))).setCell ⟨b,o+1,none⟩ (.int .u64 (l 1))).setCell ⟨b,o+2,none⟩ (.int .u64 (l 2))).setCell ⟨b,o+3,none⟩ (.int .u64 (l 3))).setCell ⟨b,o+4,none⟩ (.int .u64 (l 4))).setCell ⟨b,o+5,none⟩ (.int .u64 (l 5))).setCell ⟨b,o+6,none⟩ (.int .u64 (l 6))).setCell ⟨b,o+7,none⟩ (.int .u64 (l 7))
theorem Eo{w:World}{b o g:Nat}{l:Nat->Int}(h:g≠b):(dA w b o l).heap[g]?=w.heap[g]?:=by
 unfold dA;rw [aa h,aa h,aa h,aa h,aa h,aa h,aa h,aa h]
def zap(w w1:World):Prop:=w1.heap=w.heap/\Below w.heap.size w w1
set_option maxRecDepth 100000 in
set_option maxHeartbeats 1000000 in
theorem Naf(d kb sb wb:Nat)(n ck cs cw:Nat)(hn:n<=262144)(i:Nat)(hi:i<n)(lk ls:Nat->Int)(c:Int)(c0:0<=c)(c1:c<=1000000)(w:World)
  (h0:w.cell? ⟨d,0,none⟩=some (.slice (some ⟨kb,0,none⟩) n ck))(h1:w.cell? ⟨d,1,none⟩=some (.slice (some ⟨sb,0,none⟩) n cs))(h2:w.cell? ⟨d,2,none⟩=some (.slice (some ⟨wb,0,none⟩) n cw))
  (hk:YA w kb (i*8) lk)(hs:YA w sb (i*8) ls)(hw:w.cell? ⟨wb,i,none⟩=some (.int .i64 c))(fk:∀j,w.frozen? ⟨kb,j,none⟩=false)(fw:∀j,w.frozen? ⟨wb,j,none⟩=false)(e1:kb≠d)(e2:wb≠kb)(e3:wb≠d)(e4:sb≠kb):
  Calls Tryz.prog 174 #[.pointer (some ⟨d,0,none⟩), .int .i64 i] w fun e w'=>(∃x,e= .returned x)/\∃w1,zap (dA w kb (i*8) ls) w1/\w'=w1.setCell ⟨wb,i,none⟩ (.int .i64 (c+1)):=by
 obtain ⟨k0,k1,k2,k3,k4,k5,k6,k7⟩:=hk.cells;obtain ⟨s0,s1,s2,s3,s4,s5,s6,s7⟩:=hs.cells;have f1:(0:Int)<=(i:Int):=by omega
 have f2:(i:Int)<(n:Int):=by omega
 clear hk hs
 go_enter Tryz.func174,Tryz.ntmps174
 go_wp2_with fail
 go_region
 obtain ⟨W,hW⟩:∃W,W=dA w kb (i*8) ls:=⟨_,rfl⟩;have g2:W.cell? ⟨d,2,none⟩=some (.slice (some ⟨wb,0,none⟩) n cw):=by rw [hW];exact (cell_of_heap (Eo (Ne.symm e1)) 2).trans h2
 have gw:W.cell? ⟨wb,i,none⟩=some (.int .i64 c):=by rw [hW];exact (cell_of_heap (Eo e2) i).trans hw
 have gf:W.frozen? ⟨wb,i,none⟩=false:=by rw [hW];exact (frozen_of_heap (Eo e2) i).trans (fw i)
 have HW:=Lib.hid hW;simp only [dA]at hW;rw [<-hW];clear hW k0 k1 k2 k3 k4 k5 k6 k7 s0 s1 s2 s3 s4 s5 s6 s7 h0 h1 h2 hw fk fw
 go_wp2_with fail
 go_end0
 exact ⟨⟨_,rfl⟩,W.drew,⟨show W.heap=_ from congrArg World.heap HW.out,by rw [<-HW.out];exact ⟨rfl,rfl,rfl,Nat.le_refl _,fun _ _=>rfl⟩⟩,rfl⟩
theorem Ca{P:Program}{f:FuncId}{fn:Func}{c:Code}(hf:P.funcs[f]?=some fn)(Aap:(fn.name== "runtime.NumGoroutine")=false)(hb:fn.body=some c)(args:Array Value)(w:World):
  (callFunc f args).run P w= .ok (.enter f args) w:=by
 have h1:fn.name≠ "runtime.NumGoroutine" :=by simpa using Aap
 simp [callFunc,hf,h1,hb]
def nd{α:Type}(f:Nat->α)(j:Nat)(v:α):Nat->α:=fun k=>if k=j then v else f k
theorem Wb{α:Type}(f:Nat->α)(j:Nat)(v:α):nd f j v j=v:=by simp [nd]
theorem Kb{α:Type}(f:Nat->α){j k:Nat}(v:α)(h:k≠j):nd f j v k=f k:=by simp [nd,h]
theorem Aj{α β:Type}(g:α->β)(f:Nat->α)(j:Nat)(v:α):(fun k=>g (nd f j v k))=nd (fun k=>g (f k)) j (g v):=by
 funext k;unfold nd;split<;>rfl
def tb(W:World)(b n:Nat)(f:Nat->Value):Prop:=∃c t,W.heap[b]?=some (.cells c t (0,0))/\∀k,k<n->c[k]?=some (f k)
theorem tb.lt{W:World}{b n:Nat}{f:Nat->Value}(h:tb W b n f):b<W.heap.size:=by
 obtain ⟨c,t,h1,_⟩:=h;exact (Array.getElem?_eq_some_iff.1 h1).1
theorem tb.cell{W:World}{b n:Nat}{f:Nat->Value}(h:tb W b n f){k:Nat}(hk:k<n):W.cell? ⟨b,k,none⟩=some (f k):=by
 obtain ⟨c,t,h1,h2⟩:=h;rw [cell_of_row _ _ k _ _ _ h1];exact h2 k hk
theorem tb.free{W:World}{b n:Nat}{f:Nat->Value}(h:tb W b n f)(j:Nat):W.frozen? ⟨b,j,none⟩=false:=by
 obtain ⟨c,t,h1,h2⟩:=h;unfold World.frozen?;rw [h1];simp
theorem tb.keep{W W':World}{b n:Nat}{f:Nat->Value}(h:tb W b n f)(e:W'.heap[b]?=W.heap[b]?):tb W' b n f:=by
 obtain ⟨c,t,h1,h2⟩:=h;exact ⟨c,t,e.trans h1,h2⟩
theorem tb.set{W:World}{b n:Nat}{f:Nat->Value}(h:tb W b n f)(j:Nat)(v:Value):tb (W.setCell ⟨b,j,none⟩ v) b n (nd f j v):=by
 obtain ⟨c,t,h1,h2⟩:=h;refine ⟨_,t,heap_set v h1,fun k hk=> ?_⟩;rw [Array.getElem?_setIfInBounds];have yI:k<c.size:=(Array.getElem?_eq_some_iff.1 (h2 k hk)).1
 by_cases e:k=j
 . subst e;simp [nd,yI]
 . rw [if_neg (Ne.symm e),Kb _ _ e];exact h2 k hk
theorem tb.congr{W:World}{b n:Nat}{f g:Nat->Value}(h:tb W b n f)(e:∀k,k<n->f k=g k):tb W b n g:=by
 obtain ⟨c,t,h1,h2⟩:=h;exact ⟨c,t,h1,fun k hk=>by rw [<-e k hk];exact h2 k hk⟩
structure Ja(F:Nat->Prop)(w w':World):Prop where
 os:w'.os=w.os
 tape:w'.tape=w.tape
 output:w'.output=w.output
 size:w.heap.size<=w'.heap.size
 block:∀k,k<w.heap.size->¬F k->w'.heap[k]?=w.heap[k]?
theorem Ja.refl(F:Nat->Prop)(w:World):Ja F w w:=⟨rfl,rfl,rfl,Nat.le_refl _,fun _ _ _=>rfl⟩
theorem Ja.trans{F G:Nat->Prop}{x y z:World}(h:Ja F x y)(k:Ja G y z)(hs:∀i,i<x.heap.size->G i->F i):Ja F x z:=
 ⟨k.os.trans h.os,k.tape.trans h.tape,k.output.trans h.output,Nat.le_trans h.size k.size,fun i hi h1=>(k.block i (Nat.lt_of_lt_of_le hi h.size) (fun g=>h1 (hs i hi g))).trans (h.block i hi h1)⟩
theorem Ja.mono{F G:Nat->Prop}{x y:World}(h:Ja F x y)(hs:∀i,i<x.heap.size->F i->G i):Ja G x y:=
 ⟨h.os,h.tape,h.output,h.size,fun i hi h1=>h.block i hi fun f=>h1 (hs i hi f)⟩
theorem Ja.jc{F:Nat->Prop}{w w':World}(h:Below w.heap.size w w'):Ja F w w':=⟨h.os,h.tape,h.output,h.size,fun k hk _=>h.block k hk⟩
theorem Ja.ES{F:Nat->Prop}{p:Nat}{w w':World}(h:jv p w w')(hp:p<w.heap.size->F p):Ja F w w':=
 ⟨h.os,h.tape,h.output,h.size,fun k hk hf=>h.block k hk fun e=>hf (by rw [e];rw [e]at hk;exact hp hk)⟩
theorem Ja.alloc{F:Nat->Prop}{a w:World}(h:Ja F a w)(o:Obj):Ja F a (w.alloc o):=
 ⟨h.os,h.tape,h.output,Nat.le_trans h.size (by simp),fun k hk hb=>by rw [Below.heap_alloc _ _ _ (Nat.lt_of_lt_of_le hk h.size)];exact h.block k hk hb⟩
theorem Ja.set{F:Nat->Prop}{a w:World}(h:Ja F a w){b:Nat}(hb:b<a.heap.size->F b)(j:Nat)(v:Value):Ja F a (w.setCell ⟨b,j,none⟩ v):=
 ⟨h.os,h.tape,h.output,by simpa [World.setCell]using h.size,fun k hk hf=>by rw [aa (fun e=>hf (by rw [e];rw [e]at hk;exact hb hk))];exact h.block k hk hf⟩
theorem Ja.below{F:Nat->Prop}{B:Nat}{w w':World}(h:Ja F w w')(hB:B<=w.heap.size)(hf:∀k,k<B->¬F k):Below B w w':=
 ⟨h.os,h.tape,h.output,h.size,fun k hk=>h.block k (by omega) (hf k hk)⟩
def lg(W:World)(v:Value)(l:List Int):Prop:=
 v= .slice none 0 0/\l=[]\/
 ∃g cap c,v= .slice (some ⟨g,0,none⟩) l.length cap/\W.heap[g]?=some (.cells c 3 (0,0))/\l.length<=cap/\cap<=9223372036854775807/\cap<=c.size/\0<c.size/\∀k,k<l.length->c[k]?=some (.int .i64 (l.getD k 0))
theorem lg.keep{W W':World}{v:Value}{l:List Int}(h:lg W v l)(e:∀g,v.ownBlock=some g->W'.heap[g]?=W.heap[g]?):lg W' v l:=by
 rcases h with h|⟨g,cap,c,rfl,h1,h2⟩
 . exact Or.inl h
 . exact Or.inr ⟨g,cap,c,rfl,(e g rfl).trans h1,h2⟩
theorem lg.lt{W:World}{v:Value}{l:List Int}(h:lg W v l){g:Nat}(e:v.ownBlock=some g):g<W.heap.size:=by
 rcases h with⟨rfl,_⟩|⟨g',cap,c,rfl,h1,h2⟩
 . cases e
 . cases e;exact (Array.getElem?_eq_some_iff.1 h1).1
structure Mv where
 m:Nat
 d:Nat
 kb:Nat
 sb:Nat
 wb:Nat
 fb:Nat
 pb:Nat
 n:Nat
 nt:Nat
 np:Nat
 c0:Nat
 c1:Nat
 c2:Nat
 c3:Nat
 c4:Nat
 kept:Nat->Int
 seen:Nat->Int
 pass:Nat->Int
 wr:Nat->Int
 fl:Nat->List Int
 fv:Nat->Value
 ck:Int
 bd:Int
 la:Acc
 wm:Int
def Mv.blocks(M:Mv):List Nat:=[M.m,M.d,M.kb,M.sb,M.wb,M.fb,M.pb]
def Mv.own(M:Mv)(k:Nat):Prop:=k∈M.blocks\/∃t,t<M.nt/\(M.fv t).ownBlock=some k
structure Ga(W:World)(M:Mv):Prop where
 row:Mj W M.m (.pointer (some ⟨M.d,0,none⟩)) (.slice (some ⟨M.pb,0,none⟩) M.np M.c4) M.ck M.bd M.la
 dev:W.heap[M.d]?=some (.cells #[.slice (some ⟨M.kb,0,none⟩) M.n M.c0, .slice (some ⟨M.sb,0,none⟩) M.n M.c1, .slice (some ⟨M.wb,0,none⟩) M.n M.c2, .slice (some ⟨M.fb,0,none⟩) M.nt M.c3] 188 (0,0))
 kept:tb W M.kb (8*M.n) fun k=> .int .u64 (M.kept k)
 seen:tb W M.sb (8*M.n) fun k=> .int .u64 (M.seen k)
 wr:tb W M.wb M.n fun k=> .int .i64 (M.wr k)
 fb:tb W M.fb M.nt M.fv
 pass:tb W M.pb M.np fun k=> .int .u64 (M.pass k)
 fl:∀t,t<M.nt->lg W (M.fv t) (M.fl t)
 apart:M.blocks.Nodup
 alone:∀t,t<M.nt->∀g,(M.fv t).ownBlock=some g->g∉M.blocks
 lone:∀t,t<M.nt->∀t',t'<M.nt->t≠t'->∀g,(M.fv t).ownBlock=some g->(M.fv t').ownBlock≠some g
 n0:0<M.n
 n1:M.n<=262144
 t1:M.nt<=64
 p1:M.np<=262144
 SI:∀t,t<M.nt->(M.fl t).Pairwise (·<·)
 inn:∀t,t<M.nt->∀x∈M.fl t,0<=x/\x<M.n
 Cm:0<=M.ck
 fA:0<=M.bd
 Mu:M.bd<=M.ck
 ZA:∀k,k<M.n->0<=M.wr k/\M.wr k<=M.wm
theorem Ga.lt{W:World}{M:Mv}(h:Ga W M){k:Nat}(hk:M.own k):k<W.heap.size:=by
 rcases hk with hk|⟨t,ht,e⟩
 . simp only [Mv.blocks,List.mem_cons,List.not_mem_nil,or_false]at hk;rcases hk with rfl|rfl|rfl|rfl|rfl|rfl|rfl
   . exact (Array.getElem?_eq_some_iff.1 h.row).1
   . exact (Array.getElem?_eq_some_iff.1 h.dev).1
   . exact h.kept.lt
   . exact h.seen.lt
   . exact h.wr.lt
   . exact h.fb.lt
   . exact h.pass.lt
 . exact (h.fl t ht).lt e
theorem Ga.keep{W W':World}{M:Mv}(h:Ga W M)(e:∀k,M.own k->W'.heap[k]?=W.heap[k]?):Ga W' M:=by
 have o:∀k,k∈M.blocks->W'.heap[k]?=W.heap[k]?:=fun k hk=>e k (Or.inl hk)
 exact {h with
  row:=(o _ (by simp [Mv.blocks])).trans h.row
  dev:=(o _ (by simp [Mv.blocks])).trans h.dev
  kept:=h.kept.keep (o _ (by simp [Mv.blocks]))
  seen:=h.seen.keep (o _ (by simp [Mv.blocks]))
  wr:=h.wr.keep (o _ (by simp [Mv.blocks]))
  fb:=h.fb.keep (o _ (by simp [Mv.blocks]))
  pass:=h.pass.keep (o _ (by simp [Mv.blocks]))
  fl:=fun t ht=>(h.fl t ht).keep fun g hg=>e g (Or.inr ⟨t,ht,hg⟩)}
theorem Ga.Oaf{W W':World}{M:Mv}{F:Nat->Prop}(h:Ga W M)(t:Ja F W W')(hd:∀k,M.own k->¬F k):Ga W' M:=
 h.keep fun k hk=>t.block k (h.lt hk) (hd k hk)
theorem Ga.below{W W':World}{M:Mv}(h:Ga W M)(t:Below W.heap.size W W'):Ga W' M:=
 h.keep fun k hk=>t.block k (h.lt hk)
end Go.Proofs.YtfnkmolffhfpoaaGreat
