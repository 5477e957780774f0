/- Small laws for walks that append to slices of their own. No program here.
   Layers 4, 7 (the device, the memory): the small functions.
   Layers 4, 7: a memory's block; an access is noted.
   Layers 3, 7: an access to a line is noted; passing words; whole parts.
   Layers 3, 7: passing words; rows of words that are alike.
   Layer 4: a word of the device.
   Layer 4, 7: a word put; a word peeked at.
   Layer 7: a word peeked at.
   Layer 7: a word put, lasting or passing.
   Layer 7: the functions that tell what an access puts.
   Layer 4: all is taken out of a set.
   Layer 4: a line is written back. -/
import Derived.WalkKit
import Derived.Lib.Hide
import Derived.BigQuiet
import Derived.Test.YtkdcfijebgeajaaGreatProg
import Derived.ProofKit
import Derived.OpenShut
import Derived.Laws.Pointers
import Derived.RegionTactic
import Derived.BigRegion
import Derived.ChangeAlike
import Derived.Deep.RegionWith
import Derived.Deep.Cut
import Derived.Deep.CutRange
namespace Go.Proofs.YtkdcfijebgeajaaGreat
open Go.RowKit
/-- A block just made reads cell by cell. -/
theorem cell_alloc (w : World) (cs : Array Value) (e : TypeId) (j : Nat) (u : Value) (h : cs.toList[j]? = some u) : (w.alloc (.cells cs e)).cell? ((⟨w.heap.size, 0, none⟩ : Addr).add j) = some u := by
  have e1 : (⟨w.heap.size, 0, none⟩ : Addr).add j = ⟨w.heap.size, j, none⟩ := by rw [Addr.add_lit, Nat.zero_add]
  rw [e1, cell_of_row _ _ j cs e (0, 0) (heap_alloc_new w _)]
  simpa using h
theorem grownBy_trans {a b c : World} {r : Option Nat} (h : a.grownBy b r) (k : b.grownBy c r) : a.grownBy c r :=
  ⟨k.os.trans h.os, k.tape.trans h.tape, k.output.trans h.output, Nat.le_trans h.size k.size,
    fun i hi hr => (k.block i (Nat.lt_of_lt_of_le hi h.size) hr).trans (h.block i hi hr)⟩
/-- 'append(s, x)' of new elements that lie in the block just made. -/
theorem wpList_push {P : Program} {ops : Array Oper} {rest : List Oper} {o : Oper} {a : Act} {Q : Exit → Act → World → Prop} (hgd : o.guard = none) (s x : Operand) (t : TypeId)
    (ho : o.op = .call { callee := .builtin .append, args := #[s, x], argTypes := #[t, t] })
    (base : Nat) (e : TypeId) (i : TypeInfo) (z : Value) (size bytes : Nat) (ht : P.underlying t = some (.slice e)) (hi : P.info? e = some i) (hz : i.zero = some z)
    (hsize : i.size = size) (hby : i.bytes = bytes) (hzs : z.cells.size = size) (hsz : 0 < size)
    (wr : World) (hbase : base ≤ wr.heap.size) (v : Value) (n : Nat) (xs : List Value) (hs : a.eval s = v) (hown : wr.ownsRow base e size v n xs)
    (cs : Array Value) (m c : Nat) (hx : a.eval x = .slice (some ⟨wr.heap.size, 0, none⟩) m c) (hl : cs.size = m * size) (h1 : ∀ u ∈ cs.toList, u.oneCell' = true)
    (h63 : n + m ≤ maxLen) (hbytes : (n + m) * bytes ≤ 140737488355328)
    (h : ∀ v' w', w'.ownsRow base e size v' (n + m) (xs ++ cs.toList) → wr.grownBy w' v.ownBlock → (∀ B W, Below B W wr → B ≤ base → Below B W w') → (v' = .slice none 0 0 ↔ v = .slice none 0 0 ∧ m = 0) → wpList P ops Q rest (a.put o.dst v') w') :
    wpList P ops Q (o :: rest) a (wr.alloc (.cells cs e)) := by
  refine wpList_append_own _ hgd s x t ho base e i z size bytes ht hi hz hsize hby hzs hsz v n xs hs (hown.alloc _) ⟨wr.heap.size, 0, none⟩ m c cs.toList hx (by simpa using hl) (fun j u hj => cell_alloc wr cs e j u hj) h1 h63 hbytes (by simp; omega) ?_
  intro v' w' ho' hg' hn'
  refine h v' w' ho' (grownBy_trans (World.grownBy_alloc wr _ _) hg') (fun B W hb hB => ?_) hn'
  refine (hb.alloc (by omega) _).grown hg' (by simp; omega) (fun k hk => ?_)
  have := hown.lt k hk
  omega
/-- A region that draws its order, all of whose operations are quiet in the class of the worlds f x. -/
theorem region_quiet_of {P : Program} {id : Nat} {l : List Oper} {Q : Exit → Act → World → Prop} {a : Act} {w : World} {T : Type} (f : T → World) (hm : P.follows .mixedOrders = true) (hB : Region.lexB .any l.toArray = true)
    (x0 : T) (h0 : f x0 = { w with drawn := w.drawn + 1 })
    (h : wpQuiet P l.toArray (fun w' => ∃ x, w' = f x) (fun a' => ∀ w', (∃ x, w' = f x) → Q .normal a' w') l a) : (Code.region id l.toArray true).wp P Q a w :=
  wp_region_quiet (C := fun w' => ∃ x, w' = f x) hm hB ⟨x0, h0.symm⟩ (by simpa using h)
/-- The worlds that are, below B, as W was. -/
def Over (B : Nat) (W : World) : Type := { w' : World // Below B W w' }
def Over.w {B : Nat} {W : World} (x : Over B W) : World := x.val
theorem Over.below {B : Nat} {W : World} (x : Over B W) : Below B W x.w := x.2
instance {B : Nat} {W : World} : Nonempty (Over B W) := ⟨⟨W, Below.refl _ _⟩⟩
def Over.first (B : Nat) (W : World) : Over B W := ⟨{ W with drawn := W.drawn + 1 }, (Below.refl B W).trans ⟨rfl, rfl, rfl, Nat.le_refl _, fun _ _ => rfl⟩⟩
theorem Over.first_w (B : Nat) (W : World) : (Over.first B W).w = { W with drawn := W.drawn + 1 } := rfl
def Over.on {B : Nat} {W : World} (x : Over B W) (w' : World) (h : Below B x.w w') : Over B W := ⟨w', x.2.trans h⟩
theorem Over.on_w {B : Nat} {W : World} (x : Over B W) (w' : World) (h : Below B x.w w') : w' = (x.on w' h).w := rfl
end Go.Proofs.YtkdcfijebgeajaaGreat

namespace Go.Proofs.YtkdcfijebgeajaaGreat
open Go.RowKit Go.BigFrame
set_option linter.unusedVariables false
set_option linter.unusedSimpArgs false
theorem bool_no {p : Prop} [Decidable p] (h : ¬ p) : decide p = false := by simp [h]
theorem bool_yes {p : Prop} [Decidable p] (h : p) : decide p = true := by simp [h]
/-- An answer, the world as it was. -/
def Says (v : Value) (w : World) (e : Ending) (w' : World) : Prop := e = .returned v ∧ w' = w
theorem ret_eq {a b : Value} (h : a = b) : Ending.returned a = Ending.returned b := by rw [h]
theorem clock20 (m : Nat) (c : Int) (w : World) (h : w.cell? ⟨m, 2, none⟩ = some (.int .i64 c)) : Calls Tryz.prog 130 #[.pointer (some ⟨m, 0, none⟩)] w (Says (.int .i64 c) w) := by
  go_enter Tryz.func130, Tryz.ntmps130
  go_wp2_with fail
  go_ret
  exact ⟨rfl, rfl⟩
theorem device23 (m d : Nat) (w : World) (h : w.cell? ⟨m, 0, none⟩ = some (.pointer (some ⟨d, 0, none⟩))) : Calls Tryz.prog 30 #[.pointer (some ⟨m, 0, none⟩)] w (Says (.pointer (some ⟨d, 0, none⟩)) w) := by
  go_enter Tryz.func30, Tryz.ntmps30
  go_wp2_with fail
  go_ret
  exact ⟨rfl, rfl⟩
theorem device23_nil (w : World) : Calls Tryz.prog 30 #[.pointer none] w (Says (.pointer none) w) := by
  go_enter Tryz.func30, Tryz.ntmps30
  go_wp2_with fail
  go_ret
  exact ⟨rfl, rfl⟩
theorem seen24_nil (w : World) : Calls Tryz.prog 48 #[.pointer none] w (Says (.slice none 0 0) w) := by
  go_enter Tryz.func48, Tryz.ntmps48
  go_wp2_with fail
  go_ret
  exact ⟨rfl, rfl⟩
/-- An answer; what lay below lies as it lay. -/
def Gives (v : Value) (w : World) (e : Ending) (w' : World) : Prop := e = .returned v ∧ Below w.heap.size w w'
theorem threads34 (n : Int) (w : World) : Calls Tryz.prog 106 #[.int .i64 n] w (Says (.bool (decide (1 ≤ n ∧ n ≤ 64))) w) := by
  by_cases h : 1 ≤ n
  · have d1 : decide (1 ≤ n) = true := bool_yes h
    have e : decide (1 ≤ n ∧ n ≤ 64) = decide (n ≤ 64) := by simp [h]
    rw [e]
    go_enter Tryz.func106, Tryz.ntmps106
    go_wp2_with fail
    go_ret
    exact ⟨rfl, rfl⟩
  · have d1 : decide (1 ≤ n) = false := bool_no h
    have e : decide (1 ≤ n ∧ n ≤ 64) = false := by simp [h]
    rw [e]
    go_enter Tryz.func106, Tryz.ntmps106
    go_wp2_with fail
    go_ret
    exact ⟨rfl, rfl⟩
/-- What the device says of a word, a line, a thread. -/
def wordE (n : Nat) (at_ : Int) : Int := if at_ < 0 ∨ (n : Int) ≤ at_ / 8 then 5 else 0
def lineE (n : Nat) (l : Int) : Int := if l < 0 ∨ (n : Int) ≤ l then 5 else 0
def threadE (n : Nat) (t : Int) : Int := if t < 0 ∨ (n : Int) ≤ t then 1 else 0
theorem word59 (d : Nat) (a : Option Addr) (n cap : Nat) (hn : n ≤ 262144) (at_ : Int) (q1 : at_ ≤ 9223372036854775807) (w : World) (h : w.cell? ⟨d, 1, none⟩ = some (.slice a n cap)) :
    Calls Tryz.prog 245 #[.pointer (some ⟨d, 0, none⟩), .int .i64 at_] w (Says (.int .i64 (wordE n at_)) w) := by
  by_cases h0 : at_ < 0
  · have d1 : decide (at_ < 0) = true := bool_yes h0
    go_enter Tryz.func245, Tryz.ntmps245
    go_wp2_with fail
    go_ret
    exact ⟨ret_eq (by simp [wordE, h0]), rfl⟩
  · have d1 : decide (at_ < 0) = false := bool_no h0
    have q0 : 0 ≤ at_ := by omega
    have e8 : at_.tdiv 8 = at_ / 8 := Int.tdiv_eq_ediv_of_nonneg q0
    by_cases h1 : (n : Int) ≤ at_ / 8
    · have d2 : decide ((n : Int) ≤ at_ / 8) = true := bool_yes h1
      go_enter Tryz.func245, Tryz.ntmps245
      go_wp2_with fail
      go_ret
      exact ⟨ret_eq (by simp [wordE, h0, h1]), rfl⟩
    · have d2 : decide ((n : Int) ≤ at_ / 8) = false := bool_no h1
      go_enter Tryz.func245, Tryz.ntmps245
      go_wp2_with fail
      go_ret
      exact ⟨ret_eq (by rw [wordE, if_neg (show ¬ (at_ < 0 ∨ (n : Int) ≤ at_ / 8) by omega)]; rfl), rfl⟩
theorem line75 (d : Nat) (a : Option Addr) (n cap : Nat) (l : Int) (w : World) (h : w.cell? ⟨d, 1, none⟩ = some (.slice a n cap)) :
    Calls Tryz.prog 131 #[.pointer (some ⟨d, 0, none⟩), .int .i64 l] w (Says (.int .i64 (lineE n l)) w) := by
  by_cases h0 : l < 0
  · have d1 : decide (l < 0) = true := bool_yes h0
    go_enter Tryz.func131, Tryz.ntmps131
    go_wp2_with fail
    go_ret
    exact ⟨ret_eq (by simp [lineE, h0]), rfl⟩
  · have d1 : decide (l < 0) = false := bool_no h0
    by_cases h1 : (n : Int) ≤ l
    · have d2 : decide ((n : Int) ≤ l) = true := bool_yes h1
      go_enter Tryz.func131, Tryz.ntmps131
      go_wp2_with fail
      go_ret
      exact ⟨ret_eq (by simp [lineE, h0, h1]), rfl⟩
    · have d2 : decide ((n : Int) ≤ l) = false := bool_no h1
      go_enter Tryz.func131, Tryz.ntmps131
      go_wp2_with fail
      go_ret
      exact ⟨ret_eq (by rw [lineE, if_neg (show ¬ (l < 0 ∨ (n : Int) ≤ l) by omega)]; rfl), rfl⟩
theorem thread74 (d : Nat) (a : Option Addr) (n cap : Nat) (t : Int) (w : World) (h : w.cell? ⟨d, 3, none⟩ = some (.slice a n cap)) :
    Calls Tryz.prog 376 #[.pointer (some ⟨d, 0, none⟩), .int .i64 t] w (Says (.int .i64 (threadE n t)) w) := by
  by_cases h0 : t < 0
  · have d1 : decide (t < 0) = true := bool_yes h0
    go_enter Tryz.func376, Tryz.ntmps376
    go_wp2_with fail
    go_ret
    exact ⟨ret_eq (by simp [threadE, h0]), rfl⟩
  · have d1 : decide (t < 0) = false := bool_no h0
    by_cases h1 : (n : Int) ≤ t
    · have d2 : decide ((n : Int) ≤ t) = true := bool_yes h1
      go_enter Tryz.func376, Tryz.ntmps376
      go_wp2_with fail
      go_ret
      exact ⟨ret_eq (by simp [threadE, h0, h1]), rfl⟩
    · have d2 : decide ((n : Int) ≤ t) = false := bool_no h1
      go_enter Tryz.func376, Tryz.ntmps376
      go_wp2_with fail
      go_ret
      exact ⟨ret_eq (by rw [threadE, if_neg (show ¬ (t < 0 ∨ (n : Int) ≤ t) by omega)]; rfl), rfl⟩
/-- The document's error of so many words and threads. -/
def mayE (n : Nat) (t : Int) : Int := if t < 1 ∨ 64 < t then 1 else if (n : Int) % 8 ≠ 0 then 3 else if 262144 < (n : Int) / 8 then 2 else if n = 0 then 3 else 0
end Go.Proofs.YtkdcfijebgeajaaGreat

namespace Go.Proofs.YtkdcfijebgeajaaGreat
open Go.RowKit Go.BigFrame
set_option linter.unusedVariables false
set_option linter.unusedSimpArgs false
theorem heap_set_other {W : World} {b j g : Nat} {v : Value} (h : g ≠ b) : (W.setCell ⟨b, j, none⟩ v).heap[g]? = W.heap[g]? := Below.heap_setCell W _ v g h
theorem heap_set {w : World} {g j : Nat} {c : Array Value} {t : TypeId} {f : Nat × Nat} (v : Value) (h : w.heap[g]? = some (.cells c t f)) : (w.setCell ⟨g, j, none⟩ v).heap[g]? = some (.cells (c.setIfInBounds j v) t f) := by
  simp [World.setCell, Array.getElem?_modify, h]
theorem cell_of_heap {w w' : World} {b : Nat} (h : w'.heap[b]? = w.heap[b]?) (o : Nat) : w'.cell? ⟨b, o, none⟩ = w.cell? ⟨b, o, none⟩ := World.cell?_of_block (w := w) (a := ⟨b, o, none⟩) h
theorem frozen_of_heap {w w' : World} {b : Nat} (h : w'.heap[b]? = w.heap[b]?) (o : Nat) : w'.frozen? ⟨b, o, none⟩ = w.frozen? ⟨b, o, none⟩ := World.frozen?_of_block (w := w) (a := ⟨b, o, none⟩) h
/-- Nothing but block p has turned. -/
structure But (p : Nat) (w w' : World) : Prop where
  os : w'.os = w.os
  tape : w'.tape = w.tape
  output : w'.output = w.output
  size : w.heap.size ≤ w'.heap.size
  block : ∀ k, k < w.heap.size → k ≠ p → w'.heap[k]? = w.heap[k]?
theorem But.refl (p : Nat) (w : World) : But p w w := ⟨rfl, rfl, rfl, Nat.le_refl _, fun _ _ _ => rfl⟩
theorem But.trans {p : Nat} {x y z : World} (h : But p x y) (k : But p y z) : But p x z :=
  ⟨k.os.trans h.os, k.tape.trans h.tape, k.output.trans h.output, Nat.le_trans h.size k.size, fun i hi h1 => (k.block i (Nat.lt_of_lt_of_le hi h.size) h1).trans (h.block i hi h1)⟩
theorem But.of_below {p : Nat} {w w' : World} (h : Below w.heap.size w w') : But p w w' := ⟨h.os, h.tape, h.output, h.size, fun k hk _ => h.block k hk⟩
theorem But.alloc {p : Nat} {a w : World} (h : But p a w) (o : Obj) : But p a (w.alloc o) :=
  ⟨h.os, h.tape, h.output, Nat.le_trans h.size (by simp), fun k hk hb => by rw [Below.heap_alloc _ _ _ (Nat.lt_of_lt_of_le hk h.size)]; exact h.block k hk hb⟩
theorem But.set {p : Nat} {a w : World} (h : But p a w) (j : Nat) (v : Value) : But p a (w.setCell ⟨p, j, none⟩ v) :=
  ⟨h.os, h.tape, h.output, by simpa [World.setCell] using h.size, fun k hk hb => by rw [heap_set_other hb]; exact h.block k hk hb⟩
theorem But.setNew {p : Nat} {a w : World} (h : But p a w) {g : Nat} (hg : a.heap.size ≤ g) (j : Nat) (v : Value) : But p a (w.setCell ⟨g, j, none⟩ v) :=
  ⟨h.os, h.tape, h.output, by simpa [World.setCell] using h.size, fun k hk hb => by rw [heap_set_other (by omega)]; exact h.block k hk hb⟩
theorem But.below {p B : Nat} {a w w' : World} (h : Below B a w) (k : But p w w') (hb : B ≤ p) (hB : B ≤ w.heap.size) : Below B a w' :=
  ⟨k.os.trans h.os, k.tape.trans h.tape, k.output.trans h.output, Nat.le_trans h.size k.size, fun i hi => (k.block i (by omega) (by omega)).trans (h.block i hi)⟩
/-- An access. -/
structure Acc where
  ki : Int
  th : Int
  pl : Int
  ol : Int
  ne : Int
  dn : Bool
def Acc.cells (x : Acc) : Array Value := #[.int .i64 x.ki, .int .i64 x.th, .int .i64 x.pl, .int .u64 x.ol, .int .u64 x.ne, .bool x.dn]
/-- A memory's block: the device, the passing words, the clock, how many were bad, the last access. -/
def MemRow (W : World) (m : Nat) (dv pv : Value) (ck bd : Int) (x : Acc) : Prop :=
  W.heap[m]? = some (.cells #[dv, pv, .int .i64 ck, .int .i64 bd, .int .i64 x.ki, .int .i64 x.th, .int .i64 x.pl, .int .u64 x.ol, .int .u64 x.ne, .bool x.dn] 156 (0, 0))
theorem row10 {W : World} {b : Nat} {k0 k1 k2 k3 k4 k5 k6 k7 k8 k9 : Value} {t : TypeId} (h : W.heap[b]? = some (.cells #[k0, k1, k2, k3, k4, k5, k6, k7, k8, k9] t (0, 0))) :
    W.cell? ⟨b, 0, none⟩ = some k0 ∧ W.cell? ⟨b, 1, none⟩ = some k1 ∧ W.cell? ⟨b, 2, none⟩ = some k2 ∧ W.cell? ⟨b, 3, none⟩ = some k3 ∧ W.cell? ⟨b, 4, none⟩ = some k4 ∧ W.cell? ⟨b, 5, none⟩ = some k5 ∧ W.cell? ⟨b, 6, none⟩ = some k6 ∧ W.cell? ⟨b, 7, none⟩ = some k7 ∧ W.cell? ⟨b, 8, none⟩ = some k8 ∧ W.cell? ⟨b, 9, none⟩ = some k9 ∧ ∀ j, W.frozen? ⟨b, j, none⟩ = false := by
  refine ⟨?_, ?_, ?_, ?_, ?_, ?_, ?_, ?_, ?_, ?_, fun j => ?_⟩
  all_goals first | (rw [cell_of_row _ _ _ _ _ _ h]; rfl) | (unfold World.frozen?; rw [h]; simp)
theorem row_note {W : World} {m : Nat} {k0 k1 k2 k3 k4 k5 k6 k7 k8 k9 a2 a4 a5 a6 a7 a8 a9 : Value} {t : TypeId} {f : Nat × Nat} (h : W.heap[m]? = some (.cells #[k0, k1, k2, k3, k4, k5, k6, k7, k8, k9] t f)) :
    (((((((W.setCell ⟨m, 2, none⟩ a2).setCell ⟨m, 4, none⟩ a4).setCell ⟨m, 5, none⟩ a5).setCell ⟨m, 6, none⟩ a6).setCell ⟨m, 7, none⟩ a7).setCell ⟨m, 8, none⟩ a8).setCell ⟨m, 9, none⟩ a9).heap[m]? = some (.cells #[k0, k1, a2, k3, a4, a5, a6, a7, a8, a9] t f) := by
  have h2 := heap_set (j := 2) a2 h
  have h4 := heap_set (j := 4) a4 h2
  have h5 := heap_set (j := 5) a5 h4
  have h6 := heap_set (j := 6) a6 h5
  have h7 := heap_set (j := 7) a7 h6
  have h8 := heap_set (j := 8) a8 h7
  have h9 := heap_set (j := 9) a9 h8
  rw [h9]
  rfl
/-- An access is noted. -/
def Noted (W : World) (m : Nat) (dv pv : Value) (ck bd : Int) (x : Acc) (e : Ending) (W' : World) : Prop :=
  (∃ v, e = .returned v) ∧ MemRow W' m dv pv (ck + 1) bd x ∧ But m W W'
set_option maxRecDepth 100000 in
theorem count73 (m : Nat) (dv pv : Value) (ck bd : Int) (c0 : 0 ≤ ck) (c1 : ck ≤ 1000000) (b0 : 0 ≤ bd) (b1 : bd ≤ 1000000) (x0 x : Acc) (is : Bool) (W : World) (h : MemRow W m dv pv ck bd x0) :
    Calls Tryz.prog 171 #[.pointer (some ⟨m, 0, none⟩), .agg x.cells, .bool is] W (Noted W m dv pv ck (if is then bd else bd + 1) x) := by
  obtain ⟨y0, y1, y2, y3, y4, y5, y6, y7, y8, y9, yf⟩ := row10 h
  have hlt : m < W.heap.size := (Array.getElem?_eq_some_iff.1 h).1
  have hne : m ≠ W.heap.size := by omega
  have hne2 : W.heap.size ≠ m := by omega
  have HH := Lib.hid h
  clear h
  simp only [Acc.cells]
  cases is with
  | true =>
    go_enter Tryz.func171, Tryz.ntmps171
    go_wp2_with fail
    go_end0
    refine ⟨⟨_, rfl⟩, ?_, ?_⟩
    · unfold MemRow
      rw [Below.heap_alloc _ _ _ (by simpa using hlt)]
      exact row_note HH.out
    · exact ((((((((But.refl m W).set 2 _).set 4 _).set 5 _).set 6 _).set 7 _).set 8 _).set 9 _).alloc _
  | false =>
    go_enter Tryz.func171, Tryz.ntmps171
    go_wp2_with fail
    go_end0
    refine ⟨⟨_, rfl⟩, ?_, ?_⟩
    · unfold MemRow
      rw [Below.heap_alloc _ _ _ (by simpa using hlt)]
      have h3 := heap_set (j := 3) (.int .i64 (bd + 1)) (row_note (a2 := .int .i64 (ck + 1)) (a4 := .int .i64 x.ki) (a5 := .int .i64 x.th) (a6 := .int .i64 x.pl) (a7 := .int .u64 x.ol) (a8 := .int .u64 x.ne) (a9 := .bool x.dn) HH.out)
      rw [h3]
      rfl
    · exact (((((((((But.refl m W).set 2 _).set 4 _).set 5 _).set 6 _).set 7 _).set 8 _).set 9 _).set 3 _).alloc _
end Go.Proofs.YtkdcfijebgeajaaGreat

namespace Go.Proofs.YtkdcfijebgeajaaGreat
open Go.RowKit Go.BigFrame
set_option linter.unusedVariables false
set_option linter.unusedSimpArgs false
theorem Noted.from {W W1 W' : World} {m : Nat} {dv pv : Value} {ck bd : Int} {x : Acc} {e : Ending} (h : Noted W1 m dv pv ck bd x e W') (hb : But m W W1) : Noted W m dv pv ck bd x e W' :=
  ⟨h.1, h.2.1, hb.trans h.2.2⟩
set_option maxRecDepth 100000 in
theorem line56 (m : Nat) (dv pv : Value) (ck bd : Int) (c0 : 0 ≤ ck) (c1 : ck ≤ 1000000) (b0 : 0 ≤ bd) (b1 : bd ≤ 1000000) (x0 x : Acc) (er : Int) (W : World) (h : MemRow W m dv pv ck bd x0) :
    Calls Tryz.prog 349 #[.pointer (some ⟨m, 0, none⟩), .agg x.cells, .int .i64 er] W (Noted W m dv pv ck (if er == 0 then bd else bd + 1) ⟨x.ki, x.th, x.pl, x.ol, x.ne, er == 0⟩) := by
  have hlt : m < W.heap.size := (Array.getElem?_eq_some_iff.1 h).1
  have HH := Lib.hid h
  clear h
  have H73 : Hid (∀ o, Calls Tryz.prog 171 #[.pointer (some ⟨m, 0, none⟩), .agg #[.int .i64 x.ki, .int .i64 x.th, .int .i64 x.pl, .int .u64 x.ol, .int .u64 x.ne, .bool (er == 0)], .bool (er == 0)] (W.alloc o) (Noted W m dv pv ck (if er == 0 then bd else bd + 1) ⟨x.ki, x.th, x.pl, x.ol, x.ne, er == 0⟩)) := Lib.hid fun o =>
    (count73 m dv pv ck bd c0 c1 b0 b1 x0 ⟨x.ki, x.th, x.pl, x.ol, x.ne, er == 0⟩ (er == 0) (W.alloc o) ((Below.heap_alloc _ _ _ hlt).trans HH.out)).mono fun e w hn => hn.from ((But.refl m W).alloc o)
  generalize (if er == 0 then bd else bd + 1) = bd' at *
  obtain ⟨y, hy⟩ : ∃ y, y = (⟨x.ki, x.th, x.pl, x.ol, x.ne, er == 0⟩ : Acc) := ⟨_, rfl⟩
  rw [← hy] at H73 ⊢
  clear hy
  simp only [Acc.cells]
  go_enter Tryz.func349, Tryz.ntmps349
  go_wp2_with fail
  refine (H73.out _).mono ?_
  rintro e w' hn
  obtain ⟨⟨v, rfl⟩, hr, hb⟩ := hn
  have HR := Lib.hid hr
  have HB := Lib.hid hb
  clear hr hb
  go_wp2_with fail
  go_end0
  exact ⟨⟨_, rfl⟩, HR.out, HB.out⟩
theorem whole49 (n : Nat) (hn : n ≤ 9223372036854775807) (w : World) : Calls Tryz.prog 146 #[.int .i64 n, .int .i64 8] w (Says (.int .i64 (if (n : Int) % 8 ≠ 0 then 3 else if 262144 < (n : Int) / 8 then 2 else 0)) w) := by
  have e1 : (n : Int).tdiv 8 = (n : Int) / 8 := Int.tdiv_eq_ediv_of_nonneg (by omega)
  have e2 : (n : Int).tmod 8 = (n : Int) % 8 := Int.tmod_eq_emod_of_nonneg (by omega)
  by_cases h3 : (n : Int) % 8 = 0
  · have d3 : ((n : Int) % 8 != 0) = false := by simp [h3]
    rw [if_neg (fun h => h h3)]
    by_cases h4 : 262144 < (n : Int) / 8
    · have d4 : decide (262144 < (n : Int) / 8) = true := bool_yes h4
      rw [if_pos h4]
      go_enter Tryz.func146, Tryz.ntmps146
      go_wp2_with fail
      go_ret
      exact ⟨rfl, rfl⟩
    · have d4 : decide (262144 < (n : Int) / 8) = false := bool_no h4
      rw [if_neg h4]
      go_enter Tryz.func146, Tryz.ntmps146
      go_wp2_with fail
      go_ret
      exact ⟨rfl, rfl⟩
  · have d3 : ((n : Int) % 8 != 0) = true := by simp [h3]
    rw [if_pos h3]
    go_enter Tryz.func146, Tryz.ntmps146
    go_wp2_with fail
    go_ret
    exact ⟨rfl, rfl⟩
end Go.Proofs.YtkdcfijebgeajaaGreat

namespace Go.Proofs.YtkdcfijebgeajaaGreat
open Go.RowKit Go.BigFrame
set_option linter.unusedVariables false
set_option linter.unusedSimpArgs false
/-- An answer; the world as it was but for draws. -/
def Tells (v : Value) (w : World) (e : Ending) (w' : World) : Prop := e = .returned v ∧ Below w.heap.size w w' ∧ w'.heap = w.heap
theorem pass46 (m : Nat) (a : Option Addr) (np cap : Nat) (hnp : np ≤ 262144) (at_ : Int) (q0 : -9223372036854775808 ≤ at_) (q1 : at_ ≤ 9223372036854775807) (w : World) (h : w.cell? ⟨m, 1, none⟩ = some (.slice a np cap)) :
    Calls Tryz.prog 218 #[.pointer (some ⟨m, 0, none⟩), .int .i64 at_] w (Tells (.tuple #[.int .i64 (-1 - at_), .bool (decide (at_ < 0 ∧ -1 - at_ < (np : Int)))]) w) := by
  have w1 : wrap64 (-1 - at_) = -1 - at_ := by unfold wrap64; omega
  by_cases h0 : at_ < 0
  · have d0 : decide (at_ < 0) = true := bool_yes h0
    rw [show decide (at_ < 0 ∧ -1 - at_ < (np : Int)) = decide (-1 - at_ < (np : Int)) by simp [h0]]
    go_enter Tryz.func218, Tryz.ntmps218
    go_wp2_with fail
    go_quiet (fail)
    go_wp2_with fail
    go_ret2
    exact ⟨rfl, ⟨rfl, rfl, rfl, Nat.le_refl _, fun _ _ => rfl⟩, rfl⟩
  · have d0 : decide (at_ < 0) = false := bool_no h0
    rw [show decide (at_ < 0 ∧ -1 - at_ < (np : Int)) = false by simp [h0]]
    go_enter Tryz.func218, Tryz.ntmps218
    go_wp2_with fail
    go_quiet (fail)
    go_wp2_with fail
    go_ret2
    exact ⟨rfl, ⟨rfl, rfl, rfl, Nat.le_refl _, fun _ _ => rfl⟩, rfl⟩
/-- Two rows of n words, alike. -/
def AlikeAt (W : World) (a b : Option Addr) (n : Nat) (l : Nat → Int) : Prop :=
  0 < n → ∃ g h, a = some ⟨g, 0, none⟩ ∧ b = some ⟨h, 0, none⟩ ∧ g < W.heap.size ∧ h < W.heap.size ∧ ∀ j, j < n → W.cell? ⟨g, j, none⟩ = some (.int .u64 (l j)) ∧ W.cell? ⟨h, j, none⟩ = some (.int .u64 (l j))
set_option maxRecDepth 100000 in
theorem same12 (a b : Option Addr) (n ca cb : Nat) (hn : n ≤ 2097152) (l : Nat → Int) (W : World) (h : AlikeAt W a b n l) :
    Calls Tryz.prog 29 #[.slice a n ca, .slice b n cb] W (Gives (.bool true) W) := by
  have HA := Lib.hid h
  clear h
  go_enter Tryz.func29, Tryz.ntmps29
  go_wp2_with fail
  go_loopw [5] (fun i wr => ∃ k : Nat, k ≤ n ∧ i = .int .i64 k ∧ Hid (Below W.heap.size W wr)) (fun i _ => n - (intOf i).toNat)
  case atStart => exact ⟨0, Nat.zero_le _, rfl, Lib.hid (Below.refl _ _)⟩
  case round =>
    obtain ⟨k, hk, rfl, HB⟩ := hrel
    by_cases hlt : k < n
    · obtain ⟨g, h, rfl, rfl, hg, hh, hc⟩ := HA.out (by omega)
      obtain ⟨x, y⟩ := hc k hlt
      have x' : wr.cell? ⟨g, k, none⟩ = some (.int .u64 (l k)) := (HB.out.cell (p := ⟨g, k, none⟩) hg).trans x
      have y' : wr.cell? ⟨h, k, none⟩ = some (.int .u64 (l k)) := (HB.out.cell (p := ⟨h, k, none⟩) hh).trans y
      have e1 : decide ((k : Int) < (n : Int)) = true := by simp; omega
      have e2 : (0 : Int) ≤ (k : Int) := by omega
      have e3 : (k : Int) < (n : Int) := by omega
      clear hc x y
      generalize l k = v at *
      go_wp2_with fail
      go_quiet (fail)
      go_wp2_with fail
      go_roundw
      case rel => exact ⟨k + 1, by omega, by go_num, Lib.hid (HB.out.trans ⟨rfl, rfl, rfl, Nat.le_refl _, fun _ _ => rfl⟩)⟩
      case measure => simp [intOf]; omega
    · obtain rfl : k = n := by omega
      have e1 : decide ((k : Int) < (k : Int)) = false := by simp
      go_wp2_with fail
      go_ret
      exact ⟨rfl, HB.out⟩
end Go.Proofs.YtkdcfijebgeajaaGreat

namespace Go.Proofs.YtkdcfijebgeajaaGreat
open Go.RowKit Go.BigFrame
set_option linter.unusedVariables false
set_option linter.unusedSimpArgs false
theorem load45_no (d : Nat) (a : Option Addr) (n cap : Nat) (hn : n ≤ 262144) (at_ : Int) (q1 : at_ ≤ 9223372036854775807) (w : World) (h : w.cell? ⟨d, 1, none⟩ = some (.slice a n cap)) (he : wordE n at_ = 5) :
    Calls Tryz.prog 217 #[.pointer (some ⟨d, 0, none⟩), .int .i64 at_] w (Says (.tuple #[.int .u64 0, .int .i64 5]) w) := by
  have HW := Lib.hid (word59 d a n cap hn at_ q1 w h)
  rw [he] at HW
  clear he
  go_enter Tryz.func217, Tryz.ntmps217
  go_wp2_with fail
  refine HW.out.mono ?_
  rintro e w' ⟨rfl, hw⟩
  cases hw
  go_wp2_with fail
  go_ret2
  exact ⟨rfl, rfl⟩
theorem load45_yes (d s : Nat) (n cap : Nat) (hn : n ≤ 262144) (k : Nat) (hk : k / 8 < n) (v : Int) (w : World) (h : w.cell? ⟨d, 1, none⟩ = some (.slice (some ⟨s, 0, none⟩) n cap)) (hv : w.cell? ⟨s, k, none⟩ = some (.int .u64 v)) :
    Calls Tryz.prog 217 #[.pointer (some ⟨d, 0, none⟩), .int .i64 k] w (Says (.tuple #[.int .u64 v, .int .i64 0]) w) := by
  have HW := Lib.hid (word59 d (some ⟨s, 0, none⟩) n cap hn k (by omega) w h)
  rw [show wordE n (k : Int) = 0 by rw [wordE, if_neg (by omega)]] at HW
  have e1 : (k : Int).tdiv 8 = ((k / 8 : Nat) : Int) := by rw [Int.tdiv_eq_ediv_of_nonneg (by omega)]; omega
  have e2 : (k : Int).tmod 8 = ((k % 8 : Nat) : Int) := by rw [Int.tmod_eq_emod_of_nonneg (by omega)]; omega
  have e3 : (k : Int) / 8 = ((k / 8 : Nat) : Int) := by omega
  have e4 : (k : Int) % 8 = ((k % 8 : Nat) : Int) := by omega
  obtain ⟨i, hi⟩ : ∃ i, i = k / 8 := ⟨_, rfl⟩
  obtain ⟨r, hr⟩ : ∃ r, r = k % 8 := ⟨_, rfl⟩
  have hv' : w.cell? ⟨s, i * 8 + r, none⟩ = some (.int .u64 v) := by rw [show i * 8 + r = k by omega]; exact hv
  rw [← hi] at e1 e3 hk
  rw [← hr] at e2 e4
  have f1 : (0 : Int) ≤ (i : Int) := by omega
  have f2 : (i : Int) < (n : Int) := by omega
  have f3 : (0 : Int) ≤ (r : Int) := by omega
  have f4 : (r : Int) < 8 := by omega
  have f5 : r < 8 := by omega
  clear hi hr hv
  go_enter Tryz.func217, Tryz.ntmps217
  go_wp2_with fail
  refine HW.out.mono ?_
  rintro e w' ⟨rfl, hw⟩
  cases hw
  go_wp2_with fail
  go_ret2
  exact ⟨rfl, rfl⟩
end Go.Proofs.YtkdcfijebgeajaaGreat

namespace Go.Proofs.YtkdcfijebgeajaaGreat
open Go.RowKit Go.BigFrame
set_option linter.unusedVariables false
set_option linter.unusedSimpArgs false
theorem store85_yes (d s : Nat) (n cap : Nat) (hn : n ≤ 262144) (k : Nat) (hk : k / 8 < n) (v u : Int) (w : World) (h : w.cell? ⟨d, 1, none⟩ = some (.slice (some ⟨s, 0, none⟩) n cap)) (hv : w.cell? ⟨s, k, none⟩ = some (.int .u64 u)) (hf : ∀ j, w.frozen? ⟨s, j, none⟩ = false) :
    Calls Tryz.prog 219 #[.pointer (some ⟨d, 0, none⟩), .int .i64 k, .int .u64 v] w fun e w' => e = .returned (.int .i64 0) ∧ w' = w.setCell ⟨s, k, none⟩ (.int .u64 v) := by
  have HW := Lib.hid (word59 d (some ⟨s, 0, none⟩) n cap hn k (by omega) w h)
  rw [show wordE n (k : Int) = 0 by rw [wordE, if_neg (by omega)]] at HW
  have e1 : (k : Int).tdiv 8 = ((k / 8 : Nat) : Int) := by rw [Int.tdiv_eq_ediv_of_nonneg (by omega)]; omega
  have e2 : (k : Int).tmod 8 = ((k % 8 : Nat) : Int) := by rw [Int.tmod_eq_emod_of_nonneg (by omega)]; omega
  have e3 : (k : Int) / 8 = ((k / 8 : Nat) : Int) := by omega
  have e4 : (k : Int) % 8 = ((k % 8 : Nat) : Int) := by omega
  obtain ⟨i, hi⟩ : ∃ i, i = k / 8 := ⟨_, rfl⟩
  obtain ⟨r, hr⟩ : ∃ r, r = k % 8 := ⟨_, rfl⟩
  have hir : i * 8 + r = k := by omega
  have hv' : w.cell? ⟨s, i * 8 + r, none⟩ = some (.int .u64 u) := by rw [hir]; exact hv
  have HIR := Lib.hid hir
  rw [← hi] at e1 e3 hk
  rw [← hr] at e2 e4
  have f1 : (0 : Int) ≤ (i : Int) := by omega
  have f2 : (i : Int) < (n : Int) := by omega
  have f3 : (0 : Int) ≤ (r : Int) := by omega
  have f4 : (r : Int) < 8 := by omega
  have f5 : r < 8 := by omega
  clear hi hr hv hir
  rw [← HIR.out]
  rw [HIR.out]
  go_enter Tryz.func219, Tryz.ntmps219
  go_wp2_with fail
  refine HW.out.mono ?_
  rintro e w' ⟨rfl, hw⟩
  cases hw
  go_wp2_with fail
  go_ret
  exact ⟨rfl, by rw [HIR.out]⟩
end Go.Proofs.YtkdcfijebgeajaaGreat

namespace Go.Proofs.YtkdcfijebgeajaaGreat
open Go.RowKit Go.BigFrame
set_option linter.unusedVariables false
set_option linter.unusedSimpArgs false
/-- What a memory's words are: n lines that are seen, np passing words. -/
structure WordsAt (W : World) (m d s n cap : Nat) (pa : Option Addr) (np pc : Nat) (seen pass : Nat → Int) : Prop where
  dv : W.cell? ⟨m, 0, none⟩ = some (.pointer (some ⟨d, 0, none⟩))
  ps : W.cell? ⟨m, 1, none⟩ = some (.slice pa np pc)
  sn : W.cell? ⟨d, 1, none⟩ = some (.slice (some ⟨s, 0, none⟩) n cap)
  sw : ∀ k, k / 8 < n → W.cell? ⟨s, k, none⟩ = some (.int .u64 (seen k))
  pw : 0 < np → ∃ g, pa = some ⟨g, 0, none⟩ ∧ ∀ k, k < np → W.cell? ⟨g, k, none⟩ = some (.int .u64 (pass k))
/-- What is at a word, and whether there is one. -/
def peekV (n np : Nat) (seen pass : Nat → Int) (at_ : Int) : Int × Bool :=
  if 0 ≤ at_ then (if at_ / 8 < (n : Int) then (seen at_.toNat, true) else (0, false))
  else if -1 - at_ < (np : Int) then (pass (-1 - at_).toNat, true) else (0, false)
theorem cell_same {w w' : World} (h : w'.heap = w.heap) (a : Addr) : w'.cell? a = w.cell? a := by unfold World.cell?; rw [h]
set_option maxRecDepth 100000 in
theorem peek29 (m d s n cap : Nat) (hn : n ≤ 262144) (pa : Option Addr) (np pc : Nat) (hnp : np ≤ 262144) (seen pass : Nat → Int) (at_ : Int) (q0 : -9223372036854775808 ≤ at_) (q1 : at_ ≤ 9223372036854775807) (w : World) (h : WordsAt w m d s n cap pa np pc seen pass) :
    Calls Tryz.prog 169 #[.pointer (some ⟨m, 0, none⟩), .int .i64 at_] w (Tells (.tuple #[.int .u64 (peekV n np seen pass at_).1, .bool (peekV n np seen pass at_).2]) w) := by
  have x0 := h.dv
  have x1 := h.ps
  have HH := Lib.hid h
  clear h
  by_cases h0 : 0 ≤ at_
  · have d0 : decide (0 ≤ at_) = true := bool_yes h0
    by_cases h1 : at_ / 8 < (n : Int)
    · have HL := Lib.hid (load45_yes d s n cap hn at_.toNat (by omega) (seen at_.toNat) w HH.out.sn (HH.out.sw _ (by omega)))
      rw [show ((at_.toNat : Nat) : Int) = at_ by omega] at HL
      rw [show peekV n np seen pass at_ = (seen at_.toNat, true) by rw [peekV, if_pos h0, if_pos h1]]
      generalize seen at_.toNat = v at *
      go_enter Tryz.func169, Tryz.ntmps169
      go_wp2_with fail
      refine HL.out.mono ?_
      rintro e w' ⟨rfl, hw⟩
      cases hw
      go_wp2_with fail
      go_ret2
      exact ⟨rfl, Below.refl _ _, rfl⟩
    · have HL := Lib.hid (load45_no d (some ⟨s, 0, none⟩) n cap hn at_ q1 w HH.out.sn (by rw [wordE, if_pos (by omega)]))
      rw [show peekV n np seen pass at_ = (0, false) by rw [peekV, if_pos h0, if_neg h1]]
      go_enter Tryz.func169, Tryz.ntmps169
      go_wp2_with fail
      refine HL.out.mono ?_
      rintro e w' ⟨rfl, hw⟩
      cases hw
      go_wp2_with fail
      go_ret2
      exact ⟨rfl, Below.refl _ _, rfl⟩
  · have d0 : decide (0 ≤ at_) = false := bool_no h0
    have HP := Lib.hid (pass46 m pa np pc hnp at_ q0 q1 w x1)
    by_cases h1 : -1 - at_ < (np : Int)
    · rw [show decide (at_ < 0 ∧ -1 - at_ < (np : Int)) = true from bool_yes ⟨by omega, h1⟩] at HP
      obtain ⟨g, hg, hc⟩ := HH.out.pw (by omega)
      have hc1 := hc (-1 - at_).toNat (by omega)
      rw [show peekV n np seen pass at_ = (pass (-1 - at_).toNat, true) by rw [peekV, if_neg h0, if_pos h1]]
      generalize pass (-1 - at_).toNat = v at *
      subst hg
      obtain ⟨k, hk⟩ := Int.eq_ofNat_of_zero_le (show 0 ≤ -1 - at_ by omega)
      rw [hk] at HP hc1
      have hc2 : w.cell? ⟨g, k, none⟩ = some (.int .u64 v) := hc1
      have f1 : (0 : Int) ≤ (k : Int) := by omega
      have f2 : (k : Int) < (np : Int) := by omega
      clear hc hc1 hk
      go_enter Tryz.func169, Tryz.ntmps169
      go_wp2_with fail
      refine HP.out.mono ?_
      rintro e w1 ⟨rfl, hb, hh⟩
      have c1 : w1.cell? ⟨m, 1, none⟩ = some (.slice (some ⟨g, 0, none⟩) np pc) := (cell_same hh _).trans x1
      have c2 : w1.cell? ⟨g, k, none⟩ = some (.int .u64 v) := (cell_same hh _).trans hc2
      have HB := Lib.hid hb
      have HHH := Lib.hid hh
      clear hb hh
      go_wp2_with fail
      go_ret2
      exact ⟨rfl, HB.out, HHH.out⟩
    · rw [show decide (at_ < 0 ∧ -1 - at_ < (np : Int)) = false from bool_no (by omega)] at HP
      rw [show peekV n np seen pass at_ = (0, false) by rw [peekV, if_neg h0, if_neg h1]]
      go_enter Tryz.func169, Tryz.ntmps169
      go_wp2_with fail
      refine HP.out.mono ?_
      rintro e w1 ⟨rfl, hb, hh⟩
      have HB := Lib.hid hb
      have HHH := Lib.hid hh
      clear hb hh
      go_wp2_with fail
      go_ret2
      exact ⟨rfl, HB.out, HHH.out⟩
end Go.Proofs.YtkdcfijebgeajaaGreat

namespace Go.Proofs.YtkdcfijebgeajaaGreat
open Go.RowKit Go.BigFrame
set_option linter.unusedVariables false
set_option linter.unusedSimpArgs false
/-- A cell is put, but for draws. -/
def Puts (b j : Nat) (v : Int) (w : World) (e : Ending) (w' : World) : Prop := (∃ x, e = .returned x) ∧ ∃ w1, w1.heap = w.heap ∧ Below w.heap.size w w1 ∧ w' = w1.setCell ⟨b, j, none⟩ (.int .u64 v)
set_option maxRecDepth 100000 in
theorem put72_seen (m d s n cap : Nat) (hn : n ≤ 262144) (pa : Option Addr) (np pc : Nat) (seen pass : Nat → Int) (k : Nat) (hk : k / 8 < n) (v : Int) (w : World) (h : WordsAt w m d s n cap pa np pc seen pass) (hf : ∀ j, w.frozen? ⟨s, j, none⟩ = false) :
    Calls Tryz.prog 170 #[.pointer (some ⟨m, 0, none⟩), .int .i64 k, .int .u64 v] w (Puts s k v w) := by
  have x0 := h.dv
  have HL := Lib.hid (store85_yes d s n cap hn k hk v (seen k) w h.sn (h.sw k hk) hf)
  have d0 : decide ((0 : Int) ≤ (k : Int)) = true := bool_yes (by omega)
  clear h hf hk
  go_enter Tryz.func170, Tryz.ntmps170
  go_wp2_with fail
  refine HL.out.mono ?_
  rintro e w' ⟨rfl, hw⟩
  have HW := Lib.hid hw
  clear hw
  go_wp2_with fail
  go_end0
  exact ⟨⟨_, rfl⟩, w, rfl, Below.refl _ _, HW.out⟩
set_option maxRecDepth 100000 in
theorem put72_pass (m d s n cap : Nat) (g np pc : Nat) (hnp : np ≤ 262144) (seen pass : Nat → Int) (k : Nat) (hk : k < np) (v : Int) (w : World) (h : WordsAt w m d s n cap (some ⟨g, 0, none⟩) np pc seen pass) (hf : ∀ j, w.frozen? ⟨g, j, none⟩ = false) :
    Calls Tryz.prog 170 #[.pointer (some ⟨m, 0, none⟩), .int .i64 (-1 - (k : Int)), .int .u64 v] w (Puts g k v w) := by
  have x1 := h.ps
  have HP := Lib.hid (pass46 m (some ⟨g, 0, none⟩) np pc hnp (-1 - (k : Int)) (by omega) (by omega) w x1)
  rw [show decide (-1 - (k : Int) < 0 ∧ -1 - (-1 - (k : Int)) < (np : Int)) = true from bool_yes (by omega), show (-1 - (-1 - (k : Int)) : Int) = k by omega] at HP
  obtain ⟨g', hg, hc⟩ := h.pw (by omega)
  cases hg
  have hc2 := hc k hk
  generalize pass k = u at *
  have f1 : (0 : Int) ≤ (k : Int) := by omega
  have f2 : (k : Int) < (np : Int) := by omega
  have d0 : decide ((0 : Int) ≤ -1 - (k : Int)) = false := bool_no (by omega)
  have HF := Lib.hid hf
  clear h hc hf
  generalize (-1 - (k : Int)) = at_ at *
  go_enter Tryz.func170, Tryz.ntmps170
  go_wp2_with fail
  refine HP.out.mono ?_
  rintro e w1 ⟨rfl, hb, hh⟩
  have c1 : w1.cell? ⟨m, 1, none⟩ = some (.slice (some ⟨g, 0, none⟩) np pc) := (cell_same hh _).trans x1
  have c2 : w1.cell? ⟨g, k, none⟩ = some (.int .u64 u) := (cell_same hh _).trans hc2
  have c3 : w1.frozen? ⟨g, k, none⟩ = false := by have := HF.out k; unfold World.frozen? at this ⊢; rw [hh]; exact this
  have HB := Lib.hid hb
  have HHH := Lib.hid hh
  clear hb hh
  go_wp2_with fail
  go_end0
  exact ⟨⟨_, rfl⟩, w1, HHH.out, HB.out, rfl⟩
end Go.Proofs.YtkdcfijebgeajaaGreat

namespace Go.Proofs.YtkdcfijebgeajaaGreat
open Go.RowKit Go.BigFrame
set_option linter.unusedVariables false
set_option linter.unusedSimpArgs false
theorem loads53 (x : Int) (w : World) : Calls Tryz.prog 215 #[.int .u64 x] w (Tells (.tuple #[.int .u64 0, .bool false]) w) := by
  go_enter Tryz.func215, Tryz.ntmps215
  go_wp2_with fail
  go_ret2
  exact ⟨rfl, Below.refl _ _, rfl⟩
theorem stores54 (x v : Int) (b : Nat) (w : World) (h : w.cell? ⟨b, 0, none⟩ = some (.int .u64 v)) : Calls Tryz.prog 110 #[.int .u64 x, .pointer (some ⟨b, 0, none⟩)] w (Tells (.tuple #[.int .u64 v, .bool true]) w) := by
  go_enter Tryz.func110, Tryz.ntmps110
  go_wp2_with fail
  go_ret2
  exact ⟨rfl, Below.refl _ _, rfl⟩
theorem swaps55 (x v o : Int) (b c : Nat) (w : World) (h : w.cell? ⟨b, 0, none⟩ = some (.int .u64 v)) (k : w.cell? ⟨c, 0, none⟩ = some (.int .u64 o)) :
    Calls Tryz.prog 354 #[.int .u64 x, .pointer (some ⟨b, 0, none⟩), .pointer (some ⟨c, 0, none⟩)] w (Tells (.tuple #[.int .u64 v, .bool (x == o)]) w) := by
  go_enter Tryz.func354, Tryz.ntmps354
  go_wp2_with fail
  go_quiet (fail)
  go_wp2_with fail
  go_ret2
  exact ⟨rfl, ⟨rfl, rfl, rfl, Nat.le_refl _, fun _ _ => rfl⟩, rfl⟩
end Go.Proofs.YtkdcfijebgeajaaGreat

namespace Go.Proofs.YtkdcfijebgeajaaGreat
open Go.RowKit Go.BigFrame
set_option linter.unusedVariables false
set_option linter.unusedSimpArgs false
theorem take77 (f t : Nat) (a : Option Addr) (n cap : Nat) (w : World) (h : w.cell? ⟨f, t, none⟩ = some (.slice a n cap)) (hf : w.frozen? ⟨f, t, none⟩ = false) :
    Calls Tryz.prog 227 #[.pointer (some ⟨f, t, none⟩)] w fun e w' => e = .returned (.slice a n cap) ∧ w' = w.setCell ⟨f, t, none⟩ (.slice none 0 0) := by
  go_enter Tryz.func227, Tryz.ntmps227
  go_wp2_with fail
  go_ret
  exact ⟨rfl, rfl⟩
end Go.Proofs.YtkdcfijebgeajaaGreat

namespace Go.Proofs.YtkdcfijebgeajaaGreat
open Go.RowKit Go.BigFrame
set_option linter.unusedVariables false
set_option linter.unusedSimpArgs false
/-- Eight words from one place on. -/
def Eight (W : World) (b o : Nat) (l : Nat → Int) : Prop := ∀ r, r < 8 → W.cell? ⟨b, o + r, none⟩ = some (.int .u64 (l r))
theorem Eight.cells {W : World} {b o : Nat} {l : Nat → Int} (h : Eight W b o l) : W.cell? ⟨b, o, none⟩ = some (.int .u64 (l 0)) ∧ W.cell? ⟨b, o + 1, none⟩ = some (.int .u64 (l 1)) ∧ W.cell? ⟨b, o + 2, none⟩ = some (.int .u64 (l 2)) ∧ W.cell? ⟨b, o + 3, none⟩ = some (.int .u64 (l 3)) ∧
    W.cell? ⟨b, o + 4, none⟩ = some (.int .u64 (l 4)) ∧ W.cell? ⟨b, o + 5, none⟩ = some (.int .u64 (l 5)) ∧ W.cell? ⟨b, o + 6, none⟩ = some (.int .u64 (l 6)) ∧ W.cell? ⟨b, o + 7, none⟩ = some (.int .u64 (l 7)) :=
  ⟨h 0 (by omega), h 1 (by omega), h 2 (by omega), h 3 (by omega), h 4 (by omega), h 5 (by omega), h 6 (by omega), h 7 (by omega)⟩
/-- Eight words put, from one place on. -/
def put8 (w : World) (b o : Nat) (l : Nat → Int) : World :=
  (((((((w.setCell ⟨b, o, none⟩ (.int .u64 (l 0))).setCell ⟨b, o + 1, none⟩ (.int .u64 (l 1))).setCell ⟨b, o + 2, none⟩ (.int .u64 (l 2))).setCell ⟨b, o + 3, none⟩ (.int .u64 (l 3))).setCell ⟨b, o + 4, none⟩ (.int .u64 (l 4))).setCell ⟨b, o + 5, none⟩ (.int .u64 (l 5))).setCell ⟨b, o + 6, none⟩ (.int .u64 (l 6))).setCell ⟨b, o + 7, none⟩ (.int .u64 (l 7))
theorem put8_heap {w : World} {b o g : Nat} {l : Nat → Int} (h : g ≠ b) : (put8 w b o l).heap[g]? = w.heap[g]? := by
  unfold put8
  rw [heap_set_other h, heap_set_other h, heap_set_other h, heap_set_other h, heap_set_other h, heap_set_other h, heap_set_other h, heap_set_other h]
/-- But for draws. -/
def Draws (w w1 : World) : Prop := w1.heap = w.heap ∧ Below w.heap.size w w1
set_option maxRecDepth 100000 in
set_option maxHeartbeats 1000000 in
theorem back78 (d kb sb wb : Nat) (n ck cs cw : Nat) (hn : n ≤ 262144) (i : Nat) (hi : i < n) (lk ls : Nat → Int) (c : Int) (c0 : 0 ≤ c) (c1 : c ≤ 1000000) (w : World)
    (h0 : w.cell? ⟨d, 0, none⟩ = some (.slice (some ⟨kb, 0, none⟩) n ck)) (h1 : w.cell? ⟨d, 1, none⟩ = some (.slice (some ⟨sb, 0, none⟩) n cs)) (h2 : w.cell? ⟨d, 2, none⟩ = some (.slice (some ⟨wb, 0, none⟩) n cw))
    (hk : Eight w kb (i * 8) lk) (hs : Eight w sb (i * 8) ls) (hw : w.cell? ⟨wb, i, none⟩ = some (.int .i64 c)) (fk : ∀ j, w.frozen? ⟨kb, j, none⟩ = false) (fw : ∀ j, w.frozen? ⟨wb, j, none⟩ = false) (e1 : kb ≠ d) (e2 : wb ≠ kb) (e3 : wb ≠ d) (e4 : sb ≠ kb) :
    Calls Tryz.prog 132 #[.pointer (some ⟨d, 0, none⟩), .int .i64 i] w fun e w' => (∃ x, e = .returned x) ∧ ∃ w1, Draws (put8 w kb (i * 8) ls) w1 ∧ w' = w1.setCell ⟨wb, i, none⟩ (.int .i64 (c + 1)) := by
  obtain ⟨k0, k1, k2, k3, k4, k5, k6, k7⟩ := hk.cells
  obtain ⟨s0, s1, s2, s3, s4, s5, s6, s7⟩ := hs.cells
  have f1 : (0 : Int) ≤ (i : Int) := by omega
  have f2 : (i : Int) < (n : Int) := by omega
  clear hk hs
  go_enter Tryz.func132, Tryz.ntmps132
  go_wp2_with fail
  go_region
  obtain ⟨W, hW⟩ : ∃ W, W = put8 w kb (i * 8) ls := ⟨_, rfl⟩
  have g2 : W.cell? ⟨d, 2, none⟩ = some (.slice (some ⟨wb, 0, none⟩) n cw) := by rw [hW]; exact (cell_of_heap (put8_heap (Ne.symm e1)) 2).trans h2
  have gw : W.cell? ⟨wb, i, none⟩ = some (.int .i64 c) := by rw [hW]; exact (cell_of_heap (put8_heap e2) i).trans hw
  have gf : W.frozen? ⟨wb, i, none⟩ = false := by rw [hW]; exact (frozen_of_heap (put8_heap e2) i).trans (fw i)
  have HW := Lib.hid hW
  simp only [put8] at hW
  rw [← hW]
  clear hW k0 k1 k2 k3 k4 k5 k6 k7 s0 s1 s2 s3 s4 s5 s6 s7 h0 h1 h2 hw fk fw
  go_wp2_with fail
  go_end0
  exact ⟨⟨_, rfl⟩, W.drew, ⟨show W.heap = _ from congrArg World.heap HW.out, by rw [← HW.out]; exact ⟨rfl, rfl, rfl, Nat.le_refl _, fun _ _ => rfl⟩⟩, rfl⟩
end Go.Proofs.YtkdcfijebgeajaaGreat
