/- Small laws for walks that append to slices of their own. No program here.
   Layers 4, 7 (the device, the memory): the small functions.
   Layers 5, 9: configs: which ones may be (the ways printed by g2.py).
   Layer 22: of no recovery nothing is told; the most steps.
   Layer 23: of no world nothing is told. -/
import Derived.WalkKit
import Derived.Lib.Hide
import Derived.BigQuiet
import Derived.Test.YtkdcfijebgeajaaGreatProg
import Derived.ProofKit
import Derived.OpenShut
import Derived.Laws.Pointers
import Derived.RegionTactic
import Derived.BigRegion
import Derived.ChangeAlike
import Derived.Deep.RegionWith
import Derived.Deep.Cut
import Derived.Deep.CutRange
import Derived.IntWalk
import Derived.Below
namespace Go.Proofs.YtkdcfijebgeajaaGreat
open Go.RowKit
/-- A block just made reads cell by cell. -/
theorem cell_alloc (w : World) (cs : Array Value) (e : TypeId) (j : Nat) (u : Value) (h : cs.toList[j]? = some u) : (w.alloc (.cells cs e)).cell? ((⟨w.heap.size, 0, none⟩ : Addr).add j) = some u := by
  have e1 : (⟨w.heap.size, 0, none⟩ : Addr).add j = ⟨w.heap.size, j, none⟩ := by rw [Addr.add_lit, Nat.zero_add]
  rw [e1, cell_of_row _ _ j cs e (0, 0) (heap_alloc_new w _)]
  simpa using h
theorem grownBy_trans {a b c : World} {r : Option Nat} (h : a.grownBy b r) (k : b.grownBy c r) : a.grownBy c r :=
  ⟨k.os.trans h.os, k.tape.trans h.tape, k.output.trans h.output, Nat.le_trans h.size k.size,
    fun i hi hr => (k.block i (Nat.lt_of_lt_of_le hi h.size) hr).trans (h.block i hi hr)⟩
/-- 'append(s, x)' of new elements that lie in the block just made. -/
theorem wpList_push {P : Program} {ops : Array Oper} {rest : List Oper} {o : Oper} {a : Act} {Q : Exit → Act → World → Prop} (hgd : o.guard = none) (s x : Operand) (t : TypeId)
    (ho : o.op = .call { callee := .builtin .append, args := #[s, x], argTypes := #[t, t] })
    (base : Nat) (e : TypeId) (i : TypeInfo) (z : Value) (size bytes : Nat) (ht : P.underlying t = some (.slice e)) (hi : P.info? e = some i) (hz : i.zero = some z)
    (hsize : i.size = size) (hby : i.bytes = bytes) (hzs : z.cells.size = size) (hsz : 0 < size)
    (wr : World) (hbase : base ≤ wr.heap.size) (v : Value) (n : Nat) (xs : List Value) (hs : a.eval s = v) (hown : wr.ownsRow base e size v n xs)
    (cs : Array Value) (m c : Nat) (hx : a.eval x = .slice (some ⟨wr.heap.size, 0, none⟩) m c) (hl : cs.size = m * size) (h1 : ∀ u ∈ cs.toList, u.oneCell' = true)
    (h63 : n + m ≤ maxLen) (hbytes : (n + m) * bytes ≤ 140737488355328)
    (h : ∀ v' w', w'.ownsRow base e size v' (n + m) (xs ++ cs.toList) → wr.grownBy w' v.ownBlock → (∀ B W, Below B W wr → B ≤ base → Below B W w') → (v' = .slice none 0 0 ↔ v = .slice none 0 0 ∧ m = 0) → wpList P ops Q rest (a.put o.dst v') w') :
    wpList P ops Q (o :: rest) a (wr.alloc (.cells cs e)) := by
  refine wpList_append_own _ hgd s x t ho base e i z size bytes ht hi hz hsize hby hzs hsz v n xs hs (hown.alloc _) ⟨wr.heap.size, 0, none⟩ m c cs.toList hx (by simpa using hl) (fun j u hj => cell_alloc wr cs e j u hj) h1 h63 hbytes (by simp; omega) ?_
  intro v' w' ho' hg' hn'
  refine h v' w' ho' (grownBy_trans (World.grownBy_alloc wr _ _) hg') (fun B W hb hB => ?_) hn'
  refine (hb.alloc (by omega) _).grown hg' (by simp; omega) (fun k hk => ?_)
  have := hown.lt k hk
  omega
/-- A region that draws its order, all of whose operations are quiet in the class of the worlds f x. -/
theorem region_quiet_of {P : Program} {id : Nat} {l : List Oper} {Q : Exit → Act → World → Prop} {a : Act} {w : World} {T : Type} (f : T → World) (hm : P.follows .mixedOrders = true) (hB : Region.lexB .any l.toArray = true)
    (x0 : T) (h0 : f x0 = { w with drawn := w.drawn + 1 })
    (h : wpQuiet P l.toArray (fun w' => ∃ x, w' = f x) (fun a' => ∀ w', (∃ x, w' = f x) → Q .normal a' w') l a) : (Code.region id l.toArray true).wp P Q a w :=
  wp_region_quiet (C := fun w' => ∃ x, w' = f x) hm hB ⟨x0, h0.symm⟩ (by simpa using h)
/-- The worlds that are, below B, as W was. -/
def Over (B : Nat) (W : World) : Type := { w' : World // Below B W w' }
def Over.w {B : Nat} {W : World} (x : Over B W) : World := x.val
theorem Over.below {B : Nat} {W : World} (x : Over B W) : Below B W x.w := x.2
instance {B : Nat} {W : World} : Nonempty (Over B W) := ⟨⟨W, Below.refl _ _⟩⟩
def Over.first (B : Nat) (W : World) : Over B W := ⟨{ W with drawn := W.drawn + 1 }, (Below.refl B W).trans ⟨rfl, rfl, rfl, Nat.le_refl _, fun _ _ => rfl⟩⟩
theorem Over.first_w (B : Nat) (W : World) : (Over.first B W).w = { W with drawn := W.drawn + 1 } := rfl
def Over.on {B : Nat} {W : World} (x : Over B W) (w' : World) (h : Below B x.w w') : Over B W := ⟨w', x.2.trans h⟩
theorem Over.on_w {B : Nat} {W : World} (x : Over B W) (w' : World) (h : Below B x.w w') : w' = (x.on w' h).w := rfl
end Go.Proofs.YtkdcfijebgeajaaGreat

namespace Go.Proofs.YtkdcfijebgeajaaGreat
open Go.RowKit Go.BigFrame
set_option linter.unusedVariables false
set_option linter.unusedSimpArgs false
theorem bool_no {p : Prop} [Decidable p] (h : ¬ p) : decide p = false := by simp [h]
theorem bool_yes {p : Prop} [Decidable p] (h : p) : decide p = true := by simp [h]
/-- An answer, the world as it was. -/
def Says (v : Value) (w : World) (e : Ending) (w' : World) : Prop := e = .returned v ∧ w' = w
theorem ret_eq {a b : Value} (h : a = b) : Ending.returned a = Ending.returned b := by rw [h]
theorem clock20 (m : Nat) (c : Int) (w : World) (h : w.cell? ⟨m, 2, none⟩ = some (.int .i64 c)) : Calls Tryz.prog 130 #[.pointer (some ⟨m, 0, none⟩)] w (Says (.int .i64 c) w) := by
  go_enter Tryz.func130, Tryz.ntmps130
  go_wp2_with fail
  go_ret
  exact ⟨rfl, rfl⟩
theorem device23 (m d : Nat) (w : World) (h : w.cell? ⟨m, 0, none⟩ = some (.pointer (some ⟨d, 0, none⟩))) : Calls Tryz.prog 30 #[.pointer (some ⟨m, 0, none⟩)] w (Says (.pointer (some ⟨d, 0, none⟩)) w) := by
  go_enter Tryz.func30, Tryz.ntmps30
  go_wp2_with fail
  go_ret
  exact ⟨rfl, rfl⟩
theorem device23_nil (w : World) : Calls Tryz.prog 30 #[.pointer none] w (Says (.pointer none) w) := by
  go_enter Tryz.func30, Tryz.ntmps30
  go_wp2_with fail
  go_ret
  exact ⟨rfl, rfl⟩
theorem seen24_nil (w : World) : Calls Tryz.prog 48 #[.pointer none] w (Says (.slice none 0 0) w) := by
  go_enter Tryz.func48, Tryz.ntmps48
  go_wp2_with fail
  go_ret
  exact ⟨rfl, rfl⟩
/-- An answer; what lay below lies as it lay. -/
def Gives (v : Value) (w : World) (e : Ending) (w' : World) : Prop := e = .returned v ∧ Below w.heap.size w w'
theorem threads34 (n : Int) (w : World) : Calls Tryz.prog 106 #[.int .i64 n] w (Says (.bool (decide (1 ≤ n ∧ n ≤ 64))) w) := by
  by_cases h : 1 ≤ n
  · have d1 : decide (1 ≤ n) = true := bool_yes h
    have e : decide (1 ≤ n ∧ n ≤ 64) = decide (n ≤ 64) := by simp [h]
    rw [e]
    go_enter Tryz.func106, Tryz.ntmps106
    go_wp2_with fail
    go_ret
    exact ⟨rfl, rfl⟩
  · have d1 : decide (1 ≤ n) = false := bool_no h
    have e : decide (1 ≤ n ∧ n ≤ 64) = false := by simp [h]
    rw [e]
    go_enter Tryz.func106, Tryz.ntmps106
    go_wp2_with fail
    go_ret
    exact ⟨rfl, rfl⟩
/-- What the device says of a word, a line, a thread. -/
def wordE (n : Nat) (at_ : Int) : Int := if at_ < 0 ∨ (n : Int) ≤ at_ / 8 then 5 else 0
def lineE (n : Nat) (l : Int) : Int := if l < 0 ∨ (n : Int) ≤ l then 5 else 0
def threadE (n : Nat) (t : Int) : Int := if t < 0 ∨ (n : Int) ≤ t then 1 else 0
theorem word59 (d : Nat) (a : Option Addr) (n cap : Nat) (hn : n ≤ 262144) (at_ : Int) (q1 : at_ ≤ 9223372036854775807) (w : World) (h : w.cell? ⟨d, 1, none⟩ = some (.slice a n cap)) :
    Calls Tryz.prog 245 #[.pointer (some ⟨d, 0, none⟩), .int .i64 at_] w (Says (.int .i64 (wordE n at_)) w) := by
  by_cases h0 : at_ < 0
  · have d1 : decide (at_ < 0) = true := bool_yes h0
    go_enter Tryz.func245, Tryz.ntmps245
    go_wp2_with fail
    go_ret
    exact ⟨ret_eq (by simp [wordE, h0]), rfl⟩
  · have d1 : decide (at_ < 0) = false := bool_no h0
    have q0 : 0 ≤ at_ := by omega
    have e8 : at_.tdiv 8 = at_ / 8 := Int.tdiv_eq_ediv_of_nonneg q0
    by_cases h1 : (n : Int) ≤ at_ / 8
    · have d2 : decide ((n : Int) ≤ at_ / 8) = true := bool_yes h1
      go_enter Tryz.func245, Tryz.ntmps245
      go_wp2_with fail
      go_ret
      exact ⟨ret_eq (by simp [wordE, h0, h1]), rfl⟩
    · have d2 : decide ((n : Int) ≤ at_ / 8) = false := bool_no h1
      go_enter Tryz.func245, Tryz.ntmps245
      go_wp2_with fail
      go_ret
      exact ⟨ret_eq (by rw [wordE, if_neg (show ¬ (at_ < 0 ∨ (n : Int) ≤ at_ / 8) by omega)]; rfl), rfl⟩
theorem line75 (d : Nat) (a : Option Addr) (n cap : Nat) (l : Int) (w : World) (h : w.cell? ⟨d, 1, none⟩ = some (.slice a n cap)) :
    Calls Tryz.prog 131 #[.pointer (some ⟨d, 0, none⟩), .int .i64 l] w (Says (.int .i64 (lineE n l)) w) := by
  by_cases h0 : l < 0
  · have d1 : decide (l < 0) = true := bool_yes h0
    go_enter Tryz.func131, Tryz.ntmps131
    go_wp2_with fail
    go_ret
    exact ⟨ret_eq (by simp [lineE, h0]), rfl⟩
  · have d1 : decide (l < 0) = false := bool_no h0
    by_cases h1 : (n : Int) ≤ l
    · have d2 : decide ((n : Int) ≤ l) = true := bool_yes h1
      go_enter Tryz.func131, Tryz.ntmps131
      go_wp2_with fail
      go_ret
      exact ⟨ret_eq (by simp [lineE, h0, h1]), rfl⟩
    · have d2 : decide ((n : Int) ≤ l) = false := bool_no h1
      go_enter Tryz.func131, Tryz.ntmps131
      go_wp2_with fail
      go_ret
      exact ⟨ret_eq (by rw [lineE, if_neg (show ¬ (l < 0 ∨ (n : Int) ≤ l) by omega)]; rfl), rfl⟩
theorem thread74 (d : Nat) (a : Option Addr) (n cap : Nat) (t : Int) (w : World) (h : w.cell? ⟨d, 3, none⟩ = some (.slice a n cap)) :
    Calls Tryz.prog 376 #[.pointer (some ⟨d, 0, none⟩), .int .i64 t] w (Says (.int .i64 (threadE n t)) w) := by
  by_cases h0 : t < 0
  · have d1 : decide (t < 0) = true := bool_yes h0
    go_enter Tryz.func376, Tryz.ntmps376
    go_wp2_with fail
    go_ret
    exact ⟨ret_eq (by simp [threadE, h0]), rfl⟩
  · have d1 : decide (t < 0) = false := bool_no h0
    by_cases h1 : (n : Int) ≤ t
    · have d2 : decide ((n : Int) ≤ t) = true := bool_yes h1
      go_enter Tryz.func376, Tryz.ntmps376
      go_wp2_with fail
      go_ret
      exact ⟨ret_eq (by simp [threadE, h0, h1]), rfl⟩
    · have d2 : decide ((n : Int) ≤ t) = false := bool_no h1
      go_enter Tryz.func376, Tryz.ntmps376
      go_wp2_with fail
      go_ret
      exact ⟨ret_eq (by rw [threadE, if_neg (show ¬ (t < 0 ∨ (n : Int) ≤ t) by omega)]; rfl), rfl⟩
/-- The document's error of so many words and threads. -/
def mayE (n : Nat) (t : Int) : Int := if t < 1 ∨ 64 < t then 1 else if (n : Int) % 8 ≠ 0 then 3 else if 262144 < (n : Int) / 8 then 2 else if n = 0 then 3 else 0
end Go.Proofs.YtkdcfijebgeajaaGreat

namespace Go.Proofs.YtkdcfijebgeajaaGreat
open Go.RowKit Go.BigFrame
set_option linter.unusedVariables false
set_option linter.unusedSimpArgs false

/-- A config. -/
structure Cfg where
  th : Int
  sl : Int
  lo : Int
  bu : Int
def Cfg.cells (c : Cfg) : Array Value := #[.int .i64 c.th, .int .i64 c.sl, .int .i64 c.lo, .int .i64 c.bu]
def Cfg.right (c : Cfg) : Prop := 1 ≤ c.th ∧ c.th ≤ 64 ∧ 1 ≤ c.sl ∧ c.sl ≤ 65536 ∧ 1 ≤ c.lo ∧ c.lo ≤ 64 ∧ 1 ≤ c.bu ∧ c.bu ≤ 64
instance (c : Cfg) : Decidable c.right := by unfold Cfg.right; infer_instance
def Cfg.few (c : Cfg) : Prop := c.right ∧ c.th ≤ 6 ∧ c.sl ≤ 30 ∧ c.lo ≤ 8 ∧ c.bu ≤ 8
instance (c : Cfg) : Decidable c.few := by unfold Cfg.few; infer_instance
def BoolOn (r : Bool) (w : World) (e : Ending) (w' : World) : Prop := e = .returned (.bool r) ∧ Below w.heap.size w w'

theorem from153 (n m : Int) (w : World) : Calls Tryz.prog 150 #[.int .i64 n, .int .i64 m] w fun e w' => e = .returned (.bool (decide (1 ≤ n ∧ n ≤ m))) ∧ w' = w := by
  by_cases h : 1 ≤ n
  · have d1 : decide (1 ≤ n) = true := bool_yes h
    have e : decide (1 ≤ n ∧ n ≤ m) = decide (n ≤ m) := by simp [h]
    rw [e]
    go_enter Tryz.func150, Tryz.ntmps150
    go_wp2
    all_goals
      go_ret
      exact ⟨by simp_all, rfl⟩
  · have d1 : decide (1 ≤ n) = false := bool_no h
    have e : decide (1 ≤ n ∧ n ≤ m) = false := bool_no (fun k => h k.1)
    rw [e]
    go_enter Tryz.func150, Tryz.ntmps150
    go_wp2
    go_ret
    exact ⟨rfl, rfl⟩

theorem refRight_any (c : Cfg) (w : World) : Calls Tryz.prog 24 #[.agg c.cells] w (BoolOn (decide c.right) w) := by
  obtain ⟨th, sl, lo, bu⟩ := c
  obtain ⟨r, hr⟩ : ∃ r, r = decide (Cfg.right ⟨th, sl, lo, bu⟩) := ⟨_, rfl⟩
  rw [← hr]
  have HR : Hid (r = decide (1 ≤ th ∧ th ≤ 64 ∧ 1 ≤ sl ∧ sl ≤ 65536 ∧ 1 ≤ lo ∧ lo ≤ 64 ∧ 1 ≤ bu ∧ bu ≤ 64)) := Lib.hid hr
  clear hr
  simp only [Cfg.cells]
  by_cases h0 : 1 ≤ th
  rotate_left
  · have d0 : decide (1 ≤ th) = false := bool_no h0
    have HV : Hid (r = false) := Lib.hid (by rw [HR.out]; exact bool_no (by omega))
    clear HR
    go_enter Tryz.func24, Tryz.ntmps24
    go_wp2_with fail
    go_ret
    exact ⟨by rw [HV.out]; rfl, (Below.refl _ _).alloc (Nat.le_refl _) _⟩
  have d0 : decide (1 ≤ th) = true := bool_yes h0
  by_cases h1 : th ≤ 64
  rotate_left
  · have d1 : decide (th ≤ 64) = false := bool_no h1
    have HV : Hid (r = false) := Lib.hid (by rw [HR.out]; exact bool_no (by omega))
    clear HR
    go_enter Tryz.func24, Tryz.ntmps24
    go_wp2_with fail
    go_ret
    exact ⟨by rw [HV.out]; rfl, (Below.refl _ _).alloc (Nat.le_refl _) _⟩
  have d1 : decide (th ≤ 64) = true := bool_yes h1
  by_cases h2 : 1 ≤ sl
  rotate_left
  · have d2 : decide (1 ≤ sl) = false := bool_no h2
    have HV : Hid (r = false) := Lib.hid (by rw [HR.out]; exact bool_no (by omega))
    clear HR
    go_enter Tryz.func24, Tryz.ntmps24
    go_wp2_with fail
    go_ret
    exact ⟨by rw [HV.out]; rfl, (Below.refl _ _).alloc (Nat.le_refl _) _⟩
  have d2 : decide (1 ≤ sl) = true := bool_yes h2
  by_cases h3 : sl ≤ 65536
  rotate_left
  · have d3 : decide (sl ≤ 65536) = false := bool_no h3
    have HV : Hid (r = false) := Lib.hid (by rw [HR.out]; exact bool_no (by omega))
    clear HR
    go_enter Tryz.func24, Tryz.ntmps24
    go_wp2_with fail
    go_ret
    exact ⟨by rw [HV.out]; rfl, (Below.refl _ _).alloc (Nat.le_refl _) _⟩
  have d3 : decide (sl ≤ 65536) = true := bool_yes h3
  by_cases h4 : 1 ≤ lo
  rotate_left
  · have d4 : decide (1 ≤ lo) = false := bool_no h4
    have HV : Hid (r = false) := Lib.hid (by rw [HR.out]; exact bool_no (by omega))
    clear HR
    go_enter Tryz.func24, Tryz.ntmps24
    go_wp2_with fail
    go_ret
    exact ⟨by rw [HV.out]; rfl, (Below.refl _ _).alloc (Nat.le_refl _) _⟩
  have d4 : decide (1 ≤ lo) = true := bool_yes h4
  by_cases h5 : lo ≤ 64
  rotate_left
  · have d5 : decide (lo ≤ 64) = false := bool_no h5
    have HV : Hid (r = false) := Lib.hid (by rw [HR.out]; exact bool_no (by omega))
    clear HR
    go_enter Tryz.func24, Tryz.ntmps24
    go_wp2_with fail
    go_ret
    exact ⟨by rw [HV.out]; rfl, (Below.refl _ _).alloc (Nat.le_refl _) _⟩
  have d5 : decide (lo ≤ 64) = true := bool_yes h5
  by_cases h6 : 1 ≤ bu
  rotate_left
  · have d6 : decide (1 ≤ bu) = false := bool_no h6
    have HV : Hid (r = false) := Lib.hid (by rw [HR.out]; exact bool_no (by omega))
    clear HR
    go_enter Tryz.func24, Tryz.ntmps24
    go_wp2_with fail
    go_ret
    exact ⟨by rw [HV.out]; rfl, (Below.refl _ _).alloc (Nat.le_refl _) _⟩
  have d6 : decide (1 ≤ bu) = true := bool_yes h6
  by_cases h7 : bu ≤ 64
  rotate_left
  · have d7 : decide (bu ≤ 64) = false := bool_no h7
    have HV : Hid (r = false) := Lib.hid (by rw [HR.out]; exact bool_no (by omega))
    clear HR
    go_enter Tryz.func24, Tryz.ntmps24
    go_wp2_with fail
    go_ret
    exact ⟨by rw [HV.out]; rfl, (Below.refl _ _).alloc (Nat.le_refl _) _⟩
  have d7 : decide (bu ≤ 64) = true := bool_yes h7
  have HV : Hid (r = true) := Lib.hid (by rw [HR.out]; exact bool_yes (by omega))
  clear HR
  go_enter Tryz.func24, Tryz.ntmps24
  go_wp2_with fail
  go_ret
  exact ⟨by rw [HV.out]; rfl, (Below.refl _ _).alloc (Nat.le_refl _) _⟩

theorem right_any (c : Cfg) (w : World) : Calls Tryz.prog 85 #[.agg c.cells] w (BoolOn (decide c.right) w) := by
  obtain ⟨th, sl, lo, bu⟩ := c
  obtain ⟨r, hr⟩ : ∃ r, r = decide (Cfg.right ⟨th, sl, lo, bu⟩) := ⟨_, rfl⟩
  rw [← hr]
  have HR : Hid (r = decide (1 ≤ th ∧ th ≤ 64 ∧ 1 ≤ sl ∧ sl ≤ 65536 ∧ 1 ≤ lo ∧ lo ≤ 64 ∧ 1 ≤ bu ∧ bu ≤ 64)) := Lib.hid hr
  clear hr
  simp only [Cfg.cells]
  by_cases h0 : 1 ≤ th ∧ th ≤ 64
  rotate_left
  · have HF0 : Hid (∀ w, Calls Tryz.prog 150 #[.int .i64 th, .int .i64 64] w fun e w' => e = .returned (.bool false) ∧ w' = w) := Lib.hid fun w => by rw [← bool_no h0]; exact from153 _ _ w
    have HV : Hid (r = false) := Lib.hid (by rw [HR.out]; exact bool_no (by omega))
    clear HR
    go_enter Tryz.func85, Tryz.ntmps85
    go_wp2_with (go_at_call 150; (with_reducible first | refine (HF0.out _).mono ?_); rintro e w' ⟨rfl, rfl⟩)
    go_ret
    exact ⟨by rw [HV.out]; rfl, (Below.refl _ _).alloc (Nat.le_refl _) _⟩
  have HF0 : Hid (∀ w, Calls Tryz.prog 150 #[.int .i64 th, .int .i64 64] w fun e w' => e = .returned (.bool true) ∧ w' = w) := Lib.hid fun w => by rw [← bool_yes h0]; exact from153 _ _ w
  by_cases h1 : 1 ≤ sl ∧ sl ≤ 65536
  rotate_left
  · have HF1 : Hid (∀ w, Calls Tryz.prog 150 #[.int .i64 sl, .int .i64 65536] w fun e w' => e = .returned (.bool false) ∧ w' = w) := Lib.hid fun w => by rw [← bool_no h1]; exact from153 _ _ w
    have HV : Hid (r = false) := Lib.hid (by rw [HR.out]; exact bool_no (by omega))
    clear HR
    go_enter Tryz.func85, Tryz.ntmps85
    go_wp2_with (go_at_call 150; (with_reducible first | refine (HF0.out _).mono ?_ | refine (HF1.out _).mono ?_); rintro e w' ⟨rfl, rfl⟩)
    go_ret
    exact ⟨by rw [HV.out]; rfl, (Below.refl _ _).alloc (Nat.le_refl _) _⟩
  have HF1 : Hid (∀ w, Calls Tryz.prog 150 #[.int .i64 sl, .int .i64 65536] w fun e w' => e = .returned (.bool true) ∧ w' = w) := Lib.hid fun w => by rw [← bool_yes h1]; exact from153 _ _ w
  by_cases h2 : 1 ≤ lo ∧ lo ≤ 64
  rotate_left
  · have HF2 : Hid (∀ w, Calls Tryz.prog 150 #[.int .i64 lo, .int .i64 64] w fun e w' => e = .returned (.bool false) ∧ w' = w) := Lib.hid fun w => by rw [← bool_no h2]; exact from153 _ _ w
    have HV : Hid (r = false) := Lib.hid (by rw [HR.out]; exact bool_no (by omega))
    clear HR
    go_enter Tryz.func85, Tryz.ntmps85
    go_wp2_with (go_at_call 150; (with_reducible first | refine (HF0.out _).mono ?_ | refine (HF1.out _).mono ?_ | refine (HF2.out _).mono ?_); rintro e w' ⟨rfl, rfl⟩)
    go_ret
    exact ⟨by rw [HV.out]; rfl, (Below.refl _ _).alloc (Nat.le_refl _) _⟩
  have HF2 : Hid (∀ w, Calls Tryz.prog 150 #[.int .i64 lo, .int .i64 64] w fun e w' => e = .returned (.bool true) ∧ w' = w) := Lib.hid fun w => by rw [← bool_yes h2]; exact from153 _ _ w
  by_cases h3 : 1 ≤ bu ∧ bu ≤ 64
  rotate_left
  · have HF3 : Hid (∀ w, Calls Tryz.prog 150 #[.int .i64 bu, .int .i64 64] w fun e w' => e = .returned (.bool false) ∧ w' = w) := Lib.hid fun w => by rw [← bool_no h3]; exact from153 _ _ w
    have HV : Hid (r = false) := Lib.hid (by rw [HR.out]; exact bool_no (by omega))
    clear HR
    go_enter Tryz.func85, Tryz.ntmps85
    go_wp2_with (go_at_call 150; (with_reducible first | refine (HF0.out _).mono ?_ | refine (HF1.out _).mono ?_ | refine (HF2.out _).mono ?_ | refine (HF3.out _).mono ?_); rintro e w' ⟨rfl, rfl⟩)
    go_ret
    exact ⟨by rw [HV.out]; rfl, (Below.refl _ _).alloc (Nat.le_refl _) _⟩
  have HF3 : Hid (∀ w, Calls Tryz.prog 150 #[.int .i64 bu, .int .i64 64] w fun e w' => e = .returned (.bool true) ∧ w' = w) := Lib.hid fun w => by rw [← bool_yes h3]; exact from153 _ _ w
  have HV : Hid (r = true) := Lib.hid (by rw [HR.out]; exact bool_yes (by omega))
  clear HR
  go_enter Tryz.func85, Tryz.ntmps85
  go_wp2_with (go_at_call 150; (with_reducible first | refine (HF0.out _).mono ?_ | refine (HF1.out _).mono ?_ | refine (HF2.out _).mono ?_ | refine (HF3.out _).mono ?_); rintro e w' ⟨rfl, rfl⟩)
  go_ret
  exact ⟨by rw [HV.out]; rfl, (Below.refl _ _).alloc (Nat.le_refl _) _⟩

theorem few57 (c : Cfg) (w : World) : Calls Tryz.prog 8 #[.agg c.cells] w (BoolOn (decide c.few) w) := by
  have HRT := Lib.hid fun w => refRight_any c w
  have HFF : Hid (c.few ↔ c.right ∧ c.th ≤ 6 ∧ c.sl ≤ 30 ∧ c.lo ≤ 8 ∧ c.bu ≤ 8) := Lib.hid Iff.rfl
  obtain ⟨R, hR⟩ : ∃ R, R = decide c.right := ⟨_, rfl⟩
  rw [← hR] at HRT
  obtain ⟨r, hr⟩ : ∃ r, r = decide c.few := ⟨_, rfl⟩
  rw [← hr]
  have HR : Hid (r = decide (R = true ∧ c.th ≤ 6 ∧ c.sl ≤ 30 ∧ c.lo ≤ 8 ∧ c.bu ≤ 8)) := Lib.hid (by rw [hr, hR]; apply decide_eq_decide.2; rw [HFF.out]; simp)
  clear hr hR HFF
  obtain ⟨th, sl, lo, bu⟩ := c
  simp only [Cfg.cells] at *
  cases R
  · have HV0 := HR
    have HV : Hid (r = false) := Lib.hid (by rw [HR.out]; exact bool_no (fun h => by cases h.1))
    clear HR
    go_enter Tryz.func8, Tryz.ntmps8
    go_wp2_with (go_at_call 24; (with_reducible refine (HRT.out _).mono ?_); rintro e w' ⟨rfl, hb⟩; have l0 := hb.cell (p := ⟨w.heap.size, 0, none⟩) (by simp); have l1 := hb.cell (p := ⟨w.heap.size, 1, none⟩) (by simp); have l2 := hb.cell (p := ⟨w.heap.size, 2, none⟩) (by simp); have l3 := hb.cell (p := ⟨w.heap.size, 3, none⟩) (by simp); have HB : Hid (Below w.heap.size w w') := Lib.hid (((Below.refl _ _).alloc (Nat.le_refl _) _).trans (hb.mono (by simp))); clear hb)
    go_ret
    exact ⟨by rw [HV.out]; rfl, HB.out⟩
  by_cases h0 : th ≤ 6
  rotate_left
  · have d0 : decide (th ≤ 6) = false := bool_no h0
    have HV : Hid (r = false) := Lib.hid (by rw [HR.out]; exact bool_no (by omega))
    clear HR
    go_enter Tryz.func8, Tryz.ntmps8
    go_wp2_with (go_at_call 24; (with_reducible refine (HRT.out _).mono ?_); rintro e w' ⟨rfl, hb⟩; have l0 := hb.cell (p := ⟨w.heap.size, 0, none⟩) (by simp); have l1 := hb.cell (p := ⟨w.heap.size, 1, none⟩) (by simp); have l2 := hb.cell (p := ⟨w.heap.size, 2, none⟩) (by simp); have l3 := hb.cell (p := ⟨w.heap.size, 3, none⟩) (by simp); have HB : Hid (Below w.heap.size w w') := Lib.hid (((Below.refl _ _).alloc (Nat.le_refl _) _).trans (hb.mono (by simp))); clear hb)
    go_ret
    exact ⟨by rw [HV.out]; rfl, HB.out⟩
  have d0 : decide (th ≤ 6) = true := bool_yes h0
  by_cases h1 : sl ≤ 30
  rotate_left
  · have d1 : decide (sl ≤ 30) = false := bool_no h1
    have HV : Hid (r = false) := Lib.hid (by rw [HR.out]; exact bool_no (by omega))
    clear HR
    go_enter Tryz.func8, Tryz.ntmps8
    go_wp2_with (go_at_call 24; (with_reducible refine (HRT.out _).mono ?_); rintro e w' ⟨rfl, hb⟩; have l0 := hb.cell (p := ⟨w.heap.size, 0, none⟩) (by simp); have l1 := hb.cell (p := ⟨w.heap.size, 1, none⟩) (by simp); have l2 := hb.cell (p := ⟨w.heap.size, 2, none⟩) (by simp); have l3 := hb.cell (p := ⟨w.heap.size, 3, none⟩) (by simp); have HB : Hid (Below w.heap.size w w') := Lib.hid (((Below.refl _ _).alloc (Nat.le_refl _) _).trans (hb.mono (by simp))); clear hb)
    go_ret
    exact ⟨by rw [HV.out]; rfl, HB.out⟩
  have d1 : decide (sl ≤ 30) = true := bool_yes h1
  by_cases h2 : lo ≤ 8
  rotate_left
  · have d2 : decide (lo ≤ 8) = false := bool_no h2
    have HV : Hid (r = false) := Lib.hid (by rw [HR.out]; exact bool_no (by omega))
    clear HR
    go_enter Tryz.func8, Tryz.ntmps8
    go_wp2_with (go_at_call 24; (with_reducible refine (HRT.out _).mono ?_); rintro e w' ⟨rfl, hb⟩; have l0 := hb.cell (p := ⟨w.heap.size, 0, none⟩) (by simp); have l1 := hb.cell (p := ⟨w.heap.size, 1, none⟩) (by simp); have l2 := hb.cell (p := ⟨w.heap.size, 2, none⟩) (by simp); have l3 := hb.cell (p := ⟨w.heap.size, 3, none⟩) (by simp); have HB : Hid (Below w.heap.size w w') := Lib.hid (((Below.refl _ _).alloc (Nat.le_refl _) _).trans (hb.mono (by simp))); clear hb)
    go_ret
    exact ⟨by rw [HV.out]; rfl, HB.out⟩
  have d2 : decide (lo ≤ 8) = true := bool_yes h2
  by_cases h3 : bu ≤ 8
  rotate_left
  · have d3 : decide (bu ≤ 8) = false := bool_no h3
    have HV : Hid (r = false) := Lib.hid (by rw [HR.out]; exact bool_no (by omega))
    clear HR
    go_enter Tryz.func8, Tryz.ntmps8
    go_wp2_with (go_at_call 24; (with_reducible refine (HRT.out _).mono ?_); rintro e w' ⟨rfl, hb⟩; have l0 := hb.cell (p := ⟨w.heap.size, 0, none⟩) (by simp); have l1 := hb.cell (p := ⟨w.heap.size, 1, none⟩) (by simp); have l2 := hb.cell (p := ⟨w.heap.size, 2, none⟩) (by simp); have l3 := hb.cell (p := ⟨w.heap.size, 3, none⟩) (by simp); have HB : Hid (Below w.heap.size w w') := Lib.hid (((Below.refl _ _).alloc (Nat.le_refl _) _).trans (hb.mono (by simp))); clear hb)
    go_ret
    exact ⟨by rw [HV.out]; rfl, HB.out⟩
  have d3 : decide (bu ≤ 8) = true := bool_yes h3
  have HV : Hid (r = true) := Lib.hid (by rw [HR.out]; exact bool_yes ⟨rfl, by omega, by omega, by omega, by omega⟩)
  clear HR
  go_enter Tryz.func8, Tryz.ntmps8
  go_wp2_with (go_at_call 24; (with_reducible refine (HRT.out _).mono ?_); rintro e w' ⟨rfl, hb⟩; have l0 := hb.cell (p := ⟨w.heap.size, 0, none⟩) (by simp); have l1 := hb.cell (p := ⟨w.heap.size, 1, none⟩) (by simp); have l2 := hb.cell (p := ⟨w.heap.size, 2, none⟩) (by simp); have l3 := hb.cell (p := ⟨w.heap.size, 3, none⟩) (by simp); have HB : Hid (Below w.heap.size w w') := Lib.hid (((Below.refl _ _).alloc (Nat.le_refl _) _).trans (hb.mono (by simp))); clear hb)
  go_ret
  exact ⟨by rw [HV.out]; rfl, HB.out⟩
end Go.Proofs.YtkdcfijebgeajaaGreat

namespace Go.Proofs.YtkdcfijebgeajaaGreat
open Go.RowKit Go.BigFrame
set_option linter.unusedVariables false
set_option linter.unusedSimpArgs false
theorem ret_intA {k : IntKind} {a b : Int} (h : a = b) : Ending.returned (.int k a) = .returned (.int k b) := by rw [h]
theorem cell_of_heapA {W W' : World} {b : Nat} (h : W'.heap[b]? = W.heap[b]?) (j : Nat) : W'.cell? ⟨b, j, none⟩ = W.cell? ⟨b, j, none⟩ := by simp [World.cell?, h]
theorem done24_nil (w : World) : Calls Tryz.prog 192 #[.pointer none] w (Says (.bool true) w) := by
  go_enter Tryz.func192, Tryz.ntmps192
  go_wp2_with fail
  go_ret
  exact ⟨rfl, rfl⟩
theorem up25_nil (w : World) : Calls Tryz.prog 140 #[.pointer none] w (Says (.bool false) w) := by
  go_enter Tryz.func140, Tryz.ntmps140
  go_wp2_with fail
  go_ret
  exact ⟨rfl, rfl⟩
theorem corrupt26_nil (w : World) : Calls Tryz.prog 141 #[.pointer none] w (Says (.bool false) w) := by
  go_enter Tryz.func141, Tryz.ntmps141
  go_wp2_with fail
  go_ret
  exact ⟨rfl, rfl⟩
theorem step27_nil (m : Value) (w : World) : Calls Tryz.prog 139 #[.pointer none, m] w (Says (.bool true) w) := by
  have HD := Lib.hid (done24_nil w)
  go_enter Tryz.func139, Tryz.ntmps139
  go_wp2_with fail
  refine HD.out.mono ?_
  rintro e w1 ⟨rfl, hw⟩
  cases hw
  go_wp2_with fail
  refine HD.out.mono ?_
  rintro e w1 ⟨rfl, hw⟩
  cases hw
  go_wp2_with fail
  go_ret
  exact ⟨rfl, rfl⟩
theorem most23_no (c : Cfg) (w : World) (h : ¬ c.right) : Calls Tryz.prog 37 #[.agg c.cells] w fun e w' => e = .returned (.int .i64 0) ∧ Below w.heap.size w w' := by
  have HR := Lib.hid fun w => right_any c w
  have d : decide c.right = false := decide_eq_false h
  rw [d] at HR
  clear h d
  obtain ⟨th, sl, lo, bu⟩ := c
  simp only [Cfg.cells] at HR ⊢
  have HB := Lib.hid (Below.refl w.heap.size w)
  go_enter Tryz.func37, Tryz.ntmps37
  go_wp2_with fail
  refine (HR.out _).mono ?_
  rintro e w1 ⟨rfl, hb⟩
  have HB1 := Lib.hid hb
  clear hb
  go_wp2_with fail
  go_ret
  exact ⟨rfl, (Below.refl _ _ |>.alloc (Nat.le_refl _) _).trans (HB1.out.mono (by simp))⟩
theorem wrap_small (x : Int) (h0 : -1000000000 ≤ x) (h1 : x ≤ 1000000000) : wrap64 x = x := by unfold wrap64; omega
theorem most23_yes (th sl lo bu : Int) (w : World) (h : Cfg.right ⟨th, sl, lo, bu⟩) : Calls Tryz.prog 37 #[.agg (Cfg.cells ⟨th, sl, lo, bu⟩)] w fun e w' => e = .returned (.int .i64 (12 * sl + 4 * th * lo + 8 * th + 4 * bu + 40)) ∧ Below w.heap.size w w' := by
  have HR := Lib.hid fun w => right_any ⟨th, sl, lo, bu⟩ w
  have d : decide (Cfg.right ⟨th, sl, lo, bu⟩) = true := decide_eq_true h
  rw [d] at HR
  have h' : 1 ≤ th ∧ th ≤ 64 ∧ 1 ≤ sl ∧ sl ≤ 65536 ∧ 1 ≤ lo ∧ lo ≤ 64 ∧ 1 ≤ bu ∧ bu ≤ 64 := h
  obtain ⟨a1, a2, a3, a4, a5, a6, a7, a8⟩ := h'
  obtain ⟨z, hz⟩ : ∃ z, z = 4 * th * lo := ⟨_, rfl⟩
  have z0 : 0 ≤ z := by rw [hz]; exact Int.mul_nonneg (by omega) (by omega)
  have z1 : z ≤ 4 * 64 * 64 := by rw [hz]; exact Int.mul_le_mul (by omega) (by omega) (by omega) (by omega)
  have e1 : wrap64 (12 * sl) = 12 * sl := wrap_small _ (by omega) (by omega)
  have e2 : wrap64 (4 * th) = 4 * th := wrap_small _ (by omega) (by omega)
  have e3 : wrap64 (4 * th * lo) = 4 * th * lo := wrap_small _ (by omega) (by omega)
  have e4 : wrap64 (12 * sl + 4 * th * lo) = 12 * sl + 4 * th * lo := wrap_small _ (by omega) (by omega)
  have e5 : wrap64 (8 * th) = 8 * th := wrap_small _ (by omega) (by omega)
  have e6 : wrap64 (12 * sl + 4 * th * lo + 8 * th) = 12 * sl + 4 * th * lo + 8 * th := wrap_small _ (by omega) (by omega)
  have e7 : wrap64 (4 * bu) = 4 * bu := wrap_small _ (by omega) (by omega)
  have e8 : wrap64 (12 * sl + 4 * th * lo + 8 * th + 4 * bu) = 12 * sl + 4 * th * lo + 8 * th + 4 * bu := wrap_small _ (by omega) (by omega)
  have e9 : wrap64 (12 * sl + 4 * th * lo + 8 * th + 4 * bu + 40) = 12 * sl + 4 * th * lo + 8 * th + 4 * bu + 40 := wrap_small _ (by omega) (by omega)
  have HE : Hid ((wrap64 (wrap64 (wrap64 (wrap64 (wrap64 (12 * sl) + wrap64 (wrap64 (4 * th) * lo)) + wrap64 (8 * th)) + wrap64 (4 * bu)) + 40)) = 12 * sl + 4 * th * lo + 8 * th + 4 * bu + 40) := Lib.hid (by rw [e2, e1, e3, e4, e5, e6, e7, e8, e9])
  clear h d hz z0 z1 a1 a2 a3 a4 a5 a6 a7 a8 e1 e2 e3 e4 e5 e6 e7 e8 e9
  simp only [Cfg.cells] at HR ⊢
  have HB := Lib.hid (Below.refl w.heap.size w)
  go_enter Tryz.func37, Tryz.ntmps37
  go_wp2_with fail
  refine (HR.out _).mono ?_
  rintro e w1 ⟨rfl, hb⟩
  have q : ∀ j, w1.cell? ⟨w.heap.size, j, none⟩ = (w.alloc (.cells #[.int .i64 th, .int .i64 sl, .int .i64 lo, .int .i64 bu] 23)).cell? ⟨w.heap.size, j, none⟩ := fun j => cell_of_heapA (hb.block w.heap.size (by simp)) j
  have q0 := (q 0).trans (cell_alloc w _ 23 0 _ rfl)
  have q1 := (q 1).trans (cell_alloc w _ 23 1 _ rfl)
  have q2 := (q 2).trans (cell_alloc w _ 23 2 _ rfl)
  have q3 := (q 3).trans (cell_alloc w _ 23 3 _ rfl)
  have HB1 := Lib.hid hb
  clear hb q
  go_wp2_with fail
  go_ret
  refine ⟨?_, (Below.refl _ _ |>.alloc (Nat.le_refl _) _).trans (HB1.out.mono (by simp))⟩
  exact ret_intA HE.out
end Go.Proofs.YtkdcfijebgeajaaGreat

namespace Go.Proofs.YtkdcfijebgeajaaGreat
open Go.RowKit Go.BigFrame
set_option linter.unusedVariables false
set_option linter.unusedSimpArgs false
/-- What a call of an example leaves. -/
def Awake (P : Program) (f : FuncId) : Prop := ∀ w, Calls P f #[] w fun e w' => e = .returned (.bool true) ∧ Below w.heap.size w w'
def ActC (k t l o : Int) (x y : Int) : Array Value := #[.int .i64 k, .int .i64 t, .int .i64 l, .int .i64 o, .int .u32 x, .int .u32 y]
theorem do17_nil (k t l o x y : Int) (w : World) : Calls Tryz.prog 17 #[.pointer none, .agg #[.int .i64 k, .int .i64 t, .int .i64 l, .int .i64 o, .int .u32 x, .int .u32 y]] w fun e w' => e = .returned (.int .i64 1) ∧ Below w.heap.size w w' := by
  have HB := Lib.hid (Below.refl w.heap.size w)
  go_enter Tryz.func17, Tryz.ntmps17
  go_wp2_with fail
  go_ret
  exact ⟨rfl, by first | exact Below.refl _ _ | exact (Below.refl _ _).alloc (Nat.le_refl _) _⟩
theorem up18_nil (w : World) : Calls Tryz.prog 18 #[.pointer none] w (Says (.bool false) w) := by
  go_enter Tryz.func18, Tryz.ntmps18
  go_wp2_with fail
  go_ret
  exact ⟨rfl, rfl⟩
theorem corrupt19_nil (w : World) : Calls Tryz.prog 19 #[.pointer none] w (Says (.bool false) w) := by
  go_enter Tryz.func19, Tryz.ntmps19
  go_wp2_with fail
  go_ret
  exact ⟨rfl, rfl⟩
theorem calls20_nil (w : World) : Calls Tryz.prog 20 #[.pointer none] w (Says (.slice none 0 0) w) := by
  go_enter Tryz.func20, Tryz.ntmps20
  go_wp2_with fail
  go_ret
  exact ⟨rfl, rfl⟩
theorem thread21_nil (t : Int) (w : World) : Calls Tryz.prog 21 #[.pointer none, .int .i64 t] w (Says (.pointer none) w) := by
  go_enter Tryz.func21, Tryz.ntmps21
  go_wp2_with fail
  go_ret
  exact ⟨rfl, rfl⟩
theorem layout22_nil (w : World) : Calls Tryz.prog 22 #[.pointer none] w (Says (.pointer none) w) := by
  go_enter Tryz.func22, Tryz.ntmps22
  go_wp2_with fail
  go_ret
  exact ⟨rfl, rfl⟩
theorem memory23_nil (w : World) : Calls Tryz.prog 23 #[.pointer none] w (Says (.pointer none) w) := by
  go_enter Tryz.func23, Tryz.ntmps23
  go_wp2_with fail
  go_ret
  exact ⟨rfl, rfl⟩
set_option maxHeartbeats 4000000 in
theorem law4_with (HA : Hid (Awake Tryz.prog 16)) (k t l o x y : Int) (w : World) : Calls Tryz.prog 4 #[.agg #[.int .i64 k, .int .i64 t, .int .i64 l, .int .i64 o, .int .u32 x, .int .u32 y]] w fun e w' => e = .returned (.bool true) ∧ Below w.heap.size w w' := by
  go_enter Tryz.func4, Tryz.ntmps4
  go_wp2_with fail
  refine (HA.out _).mono ?_
  rintro e w1 ⟨rfl, hb⟩
  have q : ∀ j, w1.cell? ⟨w.heap.size, j, none⟩ = (w.alloc (.cells #[.int .i64 k, .int .i64 t, .int .i64 l, .int .i64 o, .int .u32 x, .int .u32 y] 54)).cell? ⟨w.heap.size, j, none⟩ := fun j => cell_of_heapA (hb.block w.heap.size (by simp)) j
  have q0 := (q 0).trans (cell_alloc w _ 54 0 _ rfl)
  have q1 := (q 1).trans (cell_alloc w _ 54 1 _ rfl)
  have q2 := (q 2).trans (cell_alloc w _ 54 2 _ rfl)
  have q3 := (q 3).trans (cell_alloc w _ 54 3 _ rfl)
  have q4 := (q 4).trans (cell_alloc w _ 54 4 _ rfl)
  have q5 := (q 5).trans (cell_alloc w _ 54 5 _ rfl)
  have hb1 : Below w.heap.size w w1 := ((Below.refl _ _).alloc (Nat.le_refl _) _).trans (hb.mono (by simp))
  have hz1 : w.heap.size < w1.heap.size := by have := hb.size; simp at this; omega
  clear hb q
  have HB1 := Lib.hid hb1
  clear hb1
  go_wp2_with fail
  refine (do17_nil _ _ _ _ _ _ _).mono ?_
  rintro e w2 ⟨rfl, hb2⟩
  have p1 := (cell_of_heapA (hb2.block w.heap.size hz1) 1).trans q1
  have HB2 : Hid (Below w.heap.size w w2) := Lib.hid (HB1.out.trans (hb2.mono (by omega)))
  clear hb2 q0 q1 q2 q3 q4 q5 HB1
  go_wp2_with fail
  refine (up18_nil _).mono ?_
  rintro e w4 ⟨rfl, hw⟩
  cases hw
  go_wp2_with fail
  refine (corrupt19_nil _).mono ?_
  rintro e w4 ⟨rfl, hw⟩
  cases hw
  go_wp2_with fail
  refine (calls20_nil _).mono ?_
  rintro e w4 ⟨rfl, hw⟩
  cases hw
  go_wp2_with fail
  refine (thread21_nil _ _).mono ?_
  rintro e w4 ⟨rfl, hw⟩
  cases hw
  go_wp2_with fail
  refine (layout22_nil _).mono ?_
  rintro e w4 ⟨rfl, hw⟩
  cases hw
  go_wp2_with fail
  refine (memory23_nil _).mono ?_
  rintro e w4 ⟨rfl, hw⟩
  cases hw
  go_wp2_with fail
  go_ret
  exact ⟨rfl, HB2.out⟩
end Go.Proofs.YtkdcfijebgeajaaGreat
