/- Small laws for walks that append to slices of their own. No program here.
   Layers 4, 7 (the device, the memory): the small functions. -/
import Derived.WalkKit
import Derived.Lib.Hide
import Derived.BigQuiet
import Derived.Test.YtibelcmdfkgonaaGreatProg
import Derived.ProofKit
import Derived.OpenShut
import Derived.Laws.Pointers
import Derived.RegionTactic
import Derived.BigRegion
import Derived.ChangeAlike
import Derived.Deep.RegionWith
import Derived.Deep.Cut
import Derived.Deep.CutRange
namespace Go.Proofs.YtibelcmdfkgonaaGreat
open Go.RowKit
/-- A block just made reads cell by cell. -/
theorem cell_alloc (w : World) (cs : Array Value) (e : TypeId) (j : Nat) (u : Value) (h : cs.toList[j]? = some u) : (w.alloc (.cells cs e)).cell? ((⟨w.heap.size, 0, none⟩ : Addr).add j) = some u := by
  have e1 : (⟨w.heap.size, 0, none⟩ : Addr).add j = ⟨w.heap.size, j, none⟩ := by rw [Addr.add_lit, Nat.zero_add]
  rw [e1, cell_of_row _ _ j cs e (0, 0) (heap_alloc_new w _)]
  simpa using h
theorem grownBy_trans {a b c : World} {r : Option Nat} (h : a.grownBy b r) (k : b.grownBy c r) : a.grownBy c r :=
  ⟨k.os.trans h.os, k.tape.trans h.tape, k.output.trans h.output, Nat.le_trans h.size k.size,
    fun i hi hr => (k.block i (Nat.lt_of_lt_of_le hi h.size) hr).trans (h.block i hi hr)⟩
/-- 'append(s, x)' of new elements that lie in the block just made. -/
theorem wpList_push {P : Program} {ops : Array Oper} {rest : List Oper} {o : Oper} {a : Act} {Q : Exit → Act → World → Prop} (hgd : o.guard = none) (s x : Operand) (t : TypeId)
    (ho : o.op = .call { callee := .builtin .append, args := #[s, x], argTypes := #[t, t] })
    (base : Nat) (e : TypeId) (i : TypeInfo) (z : Value) (size bytes : Nat) (ht : P.underlying t = some (.slice e)) (hi : P.info? e = some i) (hz : i.zero = some z)
    (hsize : i.size = size) (hby : i.bytes = bytes) (hzs : z.cells.size = size) (hsz : 0 < size)
    (wr : World) (hbase : base ≤ wr.heap.size) (v : Value) (n : Nat) (xs : List Value) (hs : a.eval s = v) (hown : wr.ownsRow base e size v n xs)
    (cs : Array Value) (m c : Nat) (hx : a.eval x = .slice (some ⟨wr.heap.size, 0, none⟩) m c) (hl : cs.size = m * size) (h1 : ∀ u ∈ cs.toList, u.oneCell' = true)
    (h63 : n + m ≤ maxLen) (hbytes : (n + m) * bytes ≤ 140737488355328)
    (h : ∀ v' w', w'.ownsRow base e size v' (n + m) (xs ++ cs.toList) → wr.grownBy w' v.ownBlock → (∀ B W, Below B W wr → B ≤ base → Below B W w') → (v' = .slice none 0 0 ↔ v = .slice none 0 0 ∧ m = 0) → wpList P ops Q rest (a.put o.dst v') w') :
    wpList P ops Q (o :: rest) a (wr.alloc (.cells cs e)) := by
  refine wpList_append_own _ hgd s x t ho base e i z size bytes ht hi hz hsize hby hzs hsz v n xs hs (hown.alloc _) ⟨wr.heap.size, 0, none⟩ m c cs.toList hx (by simpa using hl) (fun j u hj => cell_alloc wr cs e j u hj) h1 h63 hbytes (by simp; omega) ?_
  intro v' w' ho' hg' hn'
  refine h v' w' ho' (grownBy_trans (World.grownBy_alloc wr _ _) hg') (fun B W hb hB => ?_) hn'
  refine (hb.alloc (by omega) _).grown hg' (by simp; omega) (fun k hk => ?_)
  have := hown.lt k hk
  omega
/-- A region that draws its order, all of whose operations are quiet in the class of the worlds f x. -/
theorem region_quiet_of {P : Program} {id : Nat} {l : List Oper} {Q : Exit → Act → World → Prop} {a : Act} {w : World} {T : Type} (f : T → World) (hm : P.follows .mixedOrders = true) (hB : Region.lexB .any l.toArray = true)
    (x0 : T) (h0 : f x0 = { w with drawn := w.drawn + 1 })
    (h : wpQuiet P l.toArray (fun w' => ∃ x, w' = f x) (fun a' => ∀ w', (∃ x, w' = f x) → Q .normal a' w') l a) : (Code.region id l.toArray true).wp P Q a w :=
  wp_region_quiet (C := fun w' => ∃ x, w' = f x) hm hB ⟨x0, h0.symm⟩ (by simpa using h)
/-- The worlds that are, below B, as W was. -/
def Over (B : Nat) (W : World) : Type := { w' : World // Below B W w' }
def Over.w {B : Nat} {W : World} (x : Over B W) : World := x.val
theorem Over.below {B : Nat} {W : World} (x : Over B W) : Below B W x.w := x.2
instance {B : Nat} {W : World} : Nonempty (Over B W) := ⟨⟨W, Below.refl _ _⟩⟩
def Over.first (B : Nat) (W : World) : Over B W := ⟨{ W with drawn := W.drawn + 1 }, (Below.refl B W).trans ⟨rfl, rfl, rfl, Nat.le_refl _, fun _ _ => rfl⟩⟩
theorem Over.first_w (B : Nat) (W : World) : (Over.first B W).w = { W with drawn := W.drawn + 1 } := rfl
def Over.on {B : Nat} {W : World} (x : Over B W) (w' : World) (h : Below B x.w w') : Over B W := ⟨w', x.2.trans h⟩
theorem Over.on_w {B : Nat} {W : World} (x : Over B W) (w' : World) (h : Below B x.w w') : w' = (x.on w' h).w := rfl
end Go.Proofs.YtibelcmdfkgonaaGreat

namespace Go.Proofs.YtibelcmdfkgonaaGreat
open Go.RowKit Go.BigFrame
set_option linter.unusedVariables false
set_option linter.unusedSimpArgs false
theorem bool_no {p : Prop} [Decidable p] (h : ¬ p) : decide p = false := by simp [h]
theorem bool_yes {p : Prop} [Decidable p] (h : p) : decide p = true := by simp [h]
/-- An answer, the world as it was. -/
def Says (v : Value) (w : World) (e : Ending) (w' : World) : Prop := e = .returned v ∧ w' = w
theorem ret_eq {a b : Value} (h : a = b) : Ending.returned a = Ending.returned b := by rw [h]
theorem clock20 (m : Nat) (c : Int) (w : World) (h : w.cell? ⟨m, 2, none⟩ = some (.int .i64 c)) : Calls Tryz.prog 14 #[.pointer (some ⟨m, 0, none⟩)] w (Says (.int .i64 c) w) := by
  go_enter Tryz.func14, Tryz.ntmps14
  go_wp2_with fail
  go_ret
  exact ⟨rfl, rfl⟩
theorem bad27 (m : Nat) (c : Int) (w : World) (h : w.cell? ⟨m, 3, none⟩ = some (.int .i64 c)) : Calls Tryz.prog 43 #[.pointer (some ⟨m, 0, none⟩)] w (Says (.int .i64 c) w) := by
  go_enter Tryz.func43, Tryz.ntmps43
  go_wp2_with fail
  go_ret
  exact ⟨rfl, rfl⟩
theorem device23 (m d : Nat) (w : World) (h : w.cell? ⟨m, 0, none⟩ = some (.pointer (some ⟨d, 0, none⟩))) : Calls Tryz.prog 11 #[.pointer (some ⟨m, 0, none⟩)] w (Says (.pointer (some ⟨d, 0, none⟩)) w) := by
  go_enter Tryz.func11, Tryz.ntmps11
  go_wp2_with fail
  go_ret
  exact ⟨rfl, rfl⟩
theorem device23_nil (w : World) : Calls Tryz.prog 11 #[.pointer none] w (Says (.pointer none) w) := by
  go_enter Tryz.func11, Tryz.ntmps11
  go_wp2_with fail
  go_ret
  exact ⟨rfl, rfl⟩
theorem seen24_nil (w : World) : Calls Tryz.prog 12 #[.pointer none] w (Says (.slice none 0 0) w) := by
  go_enter Tryz.func12, Tryz.ntmps12
  go_wp2_with fail
  go_ret
  exact ⟨rfl, rfl⟩
/-- An answer; what lay below lies as it lay. -/
def Gives (v : Value) (w : World) (e : Ending) (w' : World) : Prop := e = .returned v ∧ Below w.heap.size w w'
theorem last22 (m : Nat) (ki th pl ol ne : Int) (dn : Bool) (w : World) (hm : m < w.heap.size) (h0 : w.cell? ⟨m, 4, none⟩ = some (.int .i64 ki)) (h1 : w.cell? ⟨m, 5, none⟩ = some (.int .i64 th)) (h2 : w.cell? ⟨m, 6, none⟩ = some (.int .i64 pl)) (h3 : w.cell? ⟨m, 7, none⟩ = some (.int .u64 ol)) (h4 : w.cell? ⟨m, 8, none⟩ = some (.int .u64 ne)) (h5 : w.cell? ⟨m, 9, none⟩ = some (.bool dn)) :
    Calls Tryz.prog 118 #[.pointer (some ⟨m, 0, none⟩)] w (Gives (.agg #[.int .i64 ki, .int .i64 th, .int .i64 pl, .int .u64 ol, .int .u64 ne, .bool dn]) w) := by
  have hne : m ≠ w.heap.size := by omega
  have hne2 : w.heap.size ≠ m := by omega
  go_enter Tryz.func118, Tryz.ntmps118
  go_wp2_with fail
  have hh := heap_alloc_new w (.cells #[.int .i64 ki, .int .i64 th, .int .i64 pl, .int .u64 ol, .int .u64 ne, .bool dn] 134)
  have z0 := cell_of_row _ _ 0 _ _ _ hh
  have z1 := cell_of_row _ _ 1 _ _ _ hh
  have z2 := cell_of_row _ _ 2 _ _ _ hh
  have z3 := cell_of_row _ _ 3 _ _ _ hh
  have z4 := cell_of_row _ _ 4 _ _ _ hh
  have z5 := cell_of_row _ _ 5 _ _ _ hh
  refine bodyPost_ret (v := .agg #[.int .i64 ki, .int .i64 th, .int .i64 pl, .int .u64 ol, .int .u64 ne, .bool dn]) (by simp [results, Tryz.results118, go_sem, z0, z1, z2, z3, z4, z5]) rfl ⟨rfl, (Below.refl _ _).alloc (Nat.le_refl _) _⟩
theorem threads34 (n : Int) (w : World) : Calls Tryz.prog 123 #[.int .i64 n] w (Says (.bool (decide (1 ≤ n ∧ n ≤ 64))) w) := by
  by_cases h : 1 ≤ n
  · have d1 : decide (1 ≤ n) = true := bool_yes h
    have e : decide (1 ≤ n ∧ n ≤ 64) = decide (n ≤ 64) := by simp [h]
    rw [e]
    go_enter Tryz.func123, Tryz.ntmps123
    go_wp2_with fail
    go_ret
    exact ⟨rfl, rfl⟩
  · have d1 : decide (1 ≤ n) = false := bool_no h
    have e : decide (1 ≤ n ∧ n ≤ 64) = false := by simp [h]
    rw [e]
    go_enter Tryz.func123, Tryz.ntmps123
    go_wp2_with fail
    go_ret
    exact ⟨rfl, rfl⟩
/-- What the device says of a word, a line, a thread. -/
def wordE (n : Nat) (at_ : Int) : Int := if at_ < 0 ∨ (n : Int) ≤ at_ / 8 then 5 else 0
def lineE (n : Nat) (l : Int) : Int := if l < 0 ∨ (n : Int) ≤ l then 5 else 0
def threadE (n : Nat) (t : Int) : Int := if t < 0 ∨ (n : Int) ≤ t then 1 else 0
theorem word59 (d : Nat) (a : Option Addr) (n cap : Nat) (hn : n ≤ 262144) (at_ : Int) (q1 : at_ ≤ 9223372036854775807) (w : World) (h : w.cell? ⟨d, 1, none⟩ = some (.slice a n cap)) :
    Calls Tryz.prog 241 #[.pointer (some ⟨d, 0, none⟩), .int .i64 at_] w (Says (.int .i64 (wordE n at_)) w) := by
  by_cases h0 : at_ < 0
  · have d1 : decide (at_ < 0) = true := bool_yes h0
    go_enter Tryz.func241, Tryz.ntmps241
    go_wp2_with fail
    go_ret
    exact ⟨ret_eq (by simp [wordE, h0]), rfl⟩
  · have d1 : decide (at_ < 0) = false := bool_no h0
    have q0 : 0 ≤ at_ := by omega
    have e8 : at_.tdiv 8 = at_ / 8 := Int.tdiv_eq_ediv_of_nonneg q0
    by_cases h1 : (n : Int) ≤ at_ / 8
    · have d2 : decide ((n : Int) ≤ at_ / 8) = true := bool_yes h1
      go_enter Tryz.func241, Tryz.ntmps241
      go_wp2_with fail
      go_ret
      exact ⟨ret_eq (by simp [wordE, h0, h1]), rfl⟩
    · have d2 : decide ((n : Int) ≤ at_ / 8) = false := bool_no h1
      go_enter Tryz.func241, Tryz.ntmps241
      go_wp2_with fail
      go_ret
      exact ⟨ret_eq (by rw [wordE, if_neg (show ¬ (at_ < 0 ∨ (n : Int) ≤ at_ / 8) by omega)]; rfl), rfl⟩
theorem line75 (d : Nat) (a : Option Addr) (n cap : Nat) (l : Int) (w : World) (h : w.cell? ⟨d, 1, none⟩ = some (.slice a n cap)) :
    Calls Tryz.prog 216 #[.pointer (some ⟨d, 0, none⟩), .int .i64 l] w (Says (.int .i64 (lineE n l)) w) := by
  by_cases h0 : l < 0
  · have d1 : decide (l < 0) = true := bool_yes h0
    go_enter Tryz.func216, Tryz.ntmps216
    go_wp2_with fail
    go_ret
    exact ⟨ret_eq (by simp [lineE, h0]), rfl⟩
  · have d1 : decide (l < 0) = false := bool_no h0
    by_cases h1 : (n : Int) ≤ l
    · have d2 : decide ((n : Int) ≤ l) = true := bool_yes h1
      go_enter Tryz.func216, Tryz.ntmps216
      go_wp2_with fail
      go_ret
      exact ⟨ret_eq (by simp [lineE, h0, h1]), rfl⟩
    · have d2 : decide ((n : Int) ≤ l) = false := bool_no h1
      go_enter Tryz.func216, Tryz.ntmps216
      go_wp2_with fail
      go_ret
      exact ⟨ret_eq (by rw [lineE, if_neg (show ¬ (l < 0 ∨ (n : Int) ≤ l) by omega)]; rfl), rfl⟩
theorem thread74 (d : Nat) (a : Option Addr) (n cap : Nat) (t : Int) (w : World) (h : w.cell? ⟨d, 3, none⟩ = some (.slice a n cap)) :
    Calls Tryz.prog 286 #[.pointer (some ⟨d, 0, none⟩), .int .i64 t] w (Says (.int .i64 (threadE n t)) w) := by
  by_cases h0 : t < 0
  · have d1 : decide (t < 0) = true := bool_yes h0
    go_enter Tryz.func286, Tryz.ntmps286
    go_wp2_with fail
    go_ret
    exact ⟨ret_eq (by simp [threadE, h0]), rfl⟩
  · have d1 : decide (t < 0) = false := bool_no h0
    by_cases h1 : (n : Int) ≤ t
    · have d2 : decide ((n : Int) ≤ t) = true := bool_yes h1
      go_enter Tryz.func286, Tryz.ntmps286
      go_wp2_with fail
      go_ret
      exact ⟨ret_eq (by simp [threadE, h0, h1]), rfl⟩
    · have d2 : decide ((n : Int) ≤ t) = false := bool_no h1
      go_enter Tryz.func286, Tryz.ntmps286
      go_wp2_with fail
      go_ret
      exact ⟨ret_eq (by rw [threadE, if_neg (show ¬ (t < 0 ∨ (n : Int) ≤ t) by omega)]; rfl), rfl⟩
/-- The document's error of so many words and threads. -/
def mayE (n : Nat) (t : Int) : Int := if t < 1 ∨ 64 < t then 1 else if (n : Int) % 8 ≠ 0 then 3 else if 262144 < (n : Int) / 8 then 2 else if n = 0 then 3 else 0
end Go.Proofs.YtibelcmdfkgonaaGreat
