/- Layer 35 (dice): configs: which ones may be, how many lines and steps they have; a layout (the ways printed by s2.py). -/
import Derived.Test.YtoeeeapjfkjkbaaA1
import Derived.Test.YtoeeeapjfkjkbaaVoc
import Derived.Laws.Pointers
import Derived.BigQuiet
import Derived.RegionTactic
import Derived.BigRegion
import Derived.ChangeAlike
import Derived.Deep.RegionWith
import Derived.Deep.Cut
import Derived.Deep.CutRange
namespace Go.Proofs.Ytoeeeapjfkjkbaa
open Go.RowKit Go.BigFrame
set_option linter.unusedVariables false
set_option linter.unusedSimpArgs false

/-- A config. -/
structure Cfg where
  th : Int
  sl : Int
  lo : Int
  bu : Int
def Cfg.cells (c : Cfg) : Array Value := #[.int .i64 c.th, .int .i64 c.sl, .int .i64 c.lo, .int .i64 c.bu]
def Cfg.right (c : Cfg) : Prop := 1 ≤ c.th ∧ c.th ≤ 64 ∧ 1 ≤ c.sl ∧ c.sl ≤ 65536 ∧ 1 ≤ c.lo ∧ c.lo ≤ 64 ∧ 1 ≤ c.bu ∧ c.bu ≤ 64
instance (c : Cfg) : Decidable c.right := by unfold Cfg.right; infer_instance
def Cfg.few (c : Cfg) : Prop := c.right ∧ c.th ≤ 6 ∧ c.sl ≤ 30 ∧ c.lo ≤ 8 ∧ c.bu ≤ 8
instance (c : Cfg) : Decidable c.few := by unfold Cfg.few; infer_instance
def BoolOn (r : Bool) (w : World) (e : Ending) (w' : World) : Prop := e = .returned (.bool r) ∧ Below w.heap.size w w'
theorem bool_no {p : Prop} [Decidable p] (h : ¬ p) : decide p = false := by simp [h]
theorem bool_yes {p : Prop} [Decidable p] (h : p) : decide p = true := by simp [h]

theorem from28 (n m : Int) (w : World) : Calls Try.prog 28 #[.int .i64 n, .int .i64 m] w fun e w' => e = .returned (.bool (decide (1 ≤ n ∧ n ≤ m))) ∧ w' = w := by
  by_cases h : 1 ≤ n
  · have d1 : decide (1 ≤ n) = true := bool_yes h
    have e : decide (1 ≤ n ∧ n ≤ m) = decide (n ≤ m) := by simp [h]
    rw [e]
    go_enter Try.func28, Try.ntmps28
    go_wp2
    all_goals
      go_ret
      exact ⟨by simp_all, rfl⟩
  · have d1 : decide (1 ≤ n) = false := bool_no h
    have e : decide (1 ≤ n ∧ n ≤ m) = false := bool_no (fun k => h k.1)
    rw [e]
    go_enter Try.func28, Try.ntmps28
    go_wp2
    go_ret
    exact ⟨rfl, rfl⟩

theorem refRight_any (c : Cfg) (w : World) : Calls Try.prog 7 #[.agg c.cells] w (BoolOn (decide c.right) w) := by
  obtain ⟨th, sl, lo, bu⟩ := c
  obtain ⟨r, hr⟩ : ∃ r, r = decide (Cfg.right ⟨th, sl, lo, bu⟩) := ⟨_, rfl⟩
  rw [← hr]
  have HR : Hid (r = decide (1 ≤ th ∧ th ≤ 64 ∧ 1 ≤ sl ∧ sl ≤ 65536 ∧ 1 ≤ lo ∧ lo ≤ 64 ∧ 1 ≤ bu ∧ bu ≤ 64)) := Lib.hid hr
  clear hr
  simp only [Cfg.cells]
  by_cases h0 : 1 ≤ th
  rotate_left
  · have d0 : decide (1 ≤ th) = false := bool_no h0
    have HV : Hid (r = false) := Lib.hid (by rw [HR.out]; exact bool_no (by omega))
    clear HR
    go_enter Try.func7, Try.ntmps7
    go_wp2_with fail
    go_ret
    exact ⟨by rw [HV.out]; rfl, (Below.refl _ _).alloc (Nat.le_refl _) _⟩
  have d0 : decide (1 ≤ th) = true := bool_yes h0
  by_cases h1 : th ≤ 64
  rotate_left
  · have d1 : decide (th ≤ 64) = false := bool_no h1
    have HV : Hid (r = false) := Lib.hid (by rw [HR.out]; exact bool_no (by omega))
    clear HR
    go_enter Try.func7, Try.ntmps7
    go_wp2_with fail
    go_ret
    exact ⟨by rw [HV.out]; rfl, (Below.refl _ _).alloc (Nat.le_refl _) _⟩
  have d1 : decide (th ≤ 64) = true := bool_yes h1
  by_cases h2 : 1 ≤ sl
  rotate_left
  · have d2 : decide (1 ≤ sl) = false := bool_no h2
    have HV : Hid (r = false) := Lib.hid (by rw [HR.out]; exact bool_no (by omega))
    clear HR
    go_enter Try.func7, Try.ntmps7
    go_wp2_with fail
    go_ret
    exact ⟨by rw [HV.out]; rfl, (Below.refl _ _).alloc (Nat.le_refl _) _⟩
  have d2 : decide (1 ≤ sl) = true := bool_yes h2
  by_cases h3 : sl ≤ 65536
  rotate_left
  · have d3 : decide (sl ≤ 65536) = false := bool_no h3
    have HV : Hid (r = false) := Lib.hid (by rw [HR.out]; exact bool_no (by omega))
    clear HR
    go_enter Try.func7, Try.ntmps7
    go_wp2_with fail
    go_ret
    exact ⟨by rw [HV.out]; rfl, (Below.refl _ _).alloc (Nat.le_refl _) _⟩
  have d3 : decide (sl ≤ 65536) = true := bool_yes h3
  by_cases h4 : 1 ≤ lo
  rotate_left
  · have d4 : decide (1 ≤ lo) = false := bool_no h4
    have HV : Hid (r = false) := Lib.hid (by rw [HR.out]; exact bool_no (by omega))
    clear HR
    go_enter Try.func7, Try.ntmps7
    go_wp2_with fail
    go_ret
    exact ⟨by rw [HV.out]; rfl, (Below.refl _ _).alloc (Nat.le_refl _) _⟩
  have d4 : decide (1 ≤ lo) = true := bool_yes h4
  by_cases h5 : lo ≤ 64
  rotate_left
  · have d5 : decide (lo ≤ 64) = false := bool_no h5
    have HV : Hid (r = false) := Lib.hid (by rw [HR.out]; exact bool_no (by omega))
    clear HR
    go_enter Try.func7, Try.ntmps7
    go_wp2_with fail
    go_ret
    exact ⟨by rw [HV.out]; rfl, (Below.refl _ _).alloc (Nat.le_refl _) _⟩
  have d5 : decide (lo ≤ 64) = true := bool_yes h5
  by_cases h6 : 1 ≤ bu
  rotate_left
  · have d6 : decide (1 ≤ bu) = false := bool_no h6
    have HV : Hid (r = false) := Lib.hid (by rw [HR.out]; exact bool_no (by omega))
    clear HR
    go_enter Try.func7, Try.ntmps7
    go_wp2_with fail
    go_ret
    exact ⟨by rw [HV.out]; rfl, (Below.refl _ _).alloc (Nat.le_refl _) _⟩
  have d6 : decide (1 ≤ bu) = true := bool_yes h6
  by_cases h7 : bu ≤ 64
  rotate_left
  · have d7 : decide (bu ≤ 64) = false := bool_no h7
    have HV : Hid (r = false) := Lib.hid (by rw [HR.out]; exact bool_no (by omega))
    clear HR
    go_enter Try.func7, Try.ntmps7
    go_wp2_with fail
    go_ret
    exact ⟨by rw [HV.out]; rfl, (Below.refl _ _).alloc (Nat.le_refl _) _⟩
  have d7 : decide (bu ≤ 64) = true := bool_yes h7
  have HV : Hid (r = true) := Lib.hid (by rw [HR.out]; exact bool_yes (by omega))
  clear HR
  go_enter Try.func7, Try.ntmps7
  go_wp2_with fail
  go_ret
  exact ⟨by rw [HV.out]; rfl, (Below.refl _ _).alloc (Nat.le_refl _) _⟩

theorem right_any (c : Cfg) (w : World) : Calls Try.prog 20 #[.agg c.cells] w (BoolOn (decide c.right) w) := by
  obtain ⟨th, sl, lo, bu⟩ := c
  obtain ⟨r, hr⟩ : ∃ r, r = decide (Cfg.right ⟨th, sl, lo, bu⟩) := ⟨_, rfl⟩
  rw [← hr]
  have HR : Hid (r = decide (1 ≤ th ∧ th ≤ 64 ∧ 1 ≤ sl ∧ sl ≤ 65536 ∧ 1 ≤ lo ∧ lo ≤ 64 ∧ 1 ≤ bu ∧ bu ≤ 64)) := Lib.hid hr
  clear hr
  simp only [Cfg.cells]
  by_cases h0 : 1 ≤ th ∧ th ≤ 64
  rotate_left
  · have HF0 : Hid (∀ w, Calls Try.prog 28 #[.int .i64 th, .int .i64 64] w fun e w' => e = .returned (.bool false) ∧ w' = w) := Lib.hid fun w => by rw [← bool_no h0]; exact from28 _ _ w
    have HV : Hid (r = false) := Lib.hid (by rw [HR.out]; exact bool_no (by omega))
    clear HR
    go_enter Try.func20, Try.ntmps20
    go_wp2_with (go_at_call 28; (with_reducible first | refine (HF0.out _).mono ?_); rintro e w' ⟨rfl, rfl⟩)
    go_ret
    exact ⟨by rw [HV.out]; rfl, (Below.refl _ _).alloc (Nat.le_refl _) _⟩
  have HF0 : Hid (∀ w, Calls Try.prog 28 #[.int .i64 th, .int .i64 64] w fun e w' => e = .returned (.bool true) ∧ w' = w) := Lib.hid fun w => by rw [← bool_yes h0]; exact from28 _ _ w
  by_cases h1 : 1 ≤ sl ∧ sl ≤ 65536
  rotate_left
  · have HF1 : Hid (∀ w, Calls Try.prog 28 #[.int .i64 sl, .int .i64 65536] w fun e w' => e = .returned (.bool false) ∧ w' = w) := Lib.hid fun w => by rw [← bool_no h1]; exact from28 _ _ w
    have HV : Hid (r = false) := Lib.hid (by rw [HR.out]; exact bool_no (by omega))
    clear HR
    go_enter Try.func20, Try.ntmps20
    go_wp2_with (go_at_call 28; (with_reducible first | refine (HF0.out _).mono ?_ | refine (HF1.out _).mono ?_); rintro e w' ⟨rfl, rfl⟩)
    go_ret
    exact ⟨by rw [HV.out]; rfl, (Below.refl _ _).alloc (Nat.le_refl _) _⟩
  have HF1 : Hid (∀ w, Calls Try.prog 28 #[.int .i64 sl, .int .i64 65536] w fun e w' => e = .returned (.bool true) ∧ w' = w) := Lib.hid fun w => by rw [← bool_yes h1]; exact from28 _ _ w
  by_cases h2 : 1 ≤ lo ∧ lo ≤ 64
  rotate_left
  · have HF2 : Hid (∀ w, Calls Try.prog 28 #[.int .i64 lo, .int .i64 64] w fun e w' => e = .returned (.bool false) ∧ w' = w) := Lib.hid fun w => by rw [← bool_no h2]; exact from28 _ _ w
    have HV : Hid (r = false) := Lib.hid (by rw [HR.out]; exact bool_no (by omega))
    clear HR
    go_enter Try.func20, Try.ntmps20
    go_wp2_with (go_at_call 28; (with_reducible first | refine (HF0.out _).mono ?_ | refine (HF1.out _).mono ?_ | refine (HF2.out _).mono ?_); rintro e w' ⟨rfl, rfl⟩)
    go_ret
    exact ⟨by rw [HV.out]; rfl, (Below.refl _ _).alloc (Nat.le_refl _) _⟩
  have HF2 : Hid (∀ w, Calls Try.prog 28 #[.int .i64 lo, .int .i64 64] w fun e w' => e = .returned (.bool true) ∧ w' = w) := Lib.hid fun w => by rw [← bool_yes h2]; exact from28 _ _ w
  by_cases h3 : 1 ≤ bu ∧ bu ≤ 64
  rotate_left
  · have HF3 : Hid (∀ w, Calls Try.prog 28 #[.int .i64 bu, .int .i64 64] w fun e w' => e = .returned (.bool false) ∧ w' = w) := Lib.hid fun w => by rw [← bool_no h3]; exact from28 _ _ w
    have HV : Hid (r = false) := Lib.hid (by rw [HR.out]; exact bool_no (by omega))
    clear HR
    go_enter Try.func20, Try.ntmps20
    go_wp2_with (go_at_call 28; (with_reducible first | refine (HF0.out _).mono ?_ | refine (HF1.out _).mono ?_ | refine (HF2.out _).mono ?_ | refine (HF3.out _).mono ?_); rintro e w' ⟨rfl, rfl⟩)
    go_ret
    exact ⟨by rw [HV.out]; rfl, (Below.refl _ _).alloc (Nat.le_refl _) _⟩
  have HF3 : Hid (∀ w, Calls Try.prog 28 #[.int .i64 bu, .int .i64 64] w fun e w' => e = .returned (.bool true) ∧ w' = w) := Lib.hid fun w => by rw [← bool_yes h3]; exact from28 _ _ w
  have HV : Hid (r = true) := Lib.hid (by rw [HR.out]; exact bool_yes (by omega))
  clear HR
  go_enter Try.func20, Try.ntmps20
  go_wp2_with (go_at_call 28; (with_reducible first | refine (HF0.out _).mono ?_ | refine (HF1.out _).mono ?_ | refine (HF2.out _).mono ?_ | refine (HF3.out _).mono ?_); rintro e w' ⟨rfl, rfl⟩)
  go_ret
  exact ⟨by rw [HV.out]; rfl, (Below.refl _ _).alloc (Nat.le_refl _) _⟩

theorem few9 (c : Cfg) (w : World) : Calls Try.prog 9 #[.agg c.cells] w (BoolOn (decide c.few) w) := by
  have HRT := Lib.hid fun w => refRight_any c w
  have HFF : Hid (c.few ↔ c.right ∧ c.th ≤ 6 ∧ c.sl ≤ 30 ∧ c.lo ≤ 8 ∧ c.bu ≤ 8) := Lib.hid Iff.rfl
  obtain ⟨R, hR⟩ : ∃ R, R = decide c.right := ⟨_, rfl⟩
  rw [← hR] at HRT
  obtain ⟨r, hr⟩ : ∃ r, r = decide c.few := ⟨_, rfl⟩
  rw [← hr]
  have HR : Hid (r = decide (R = true ∧ c.th ≤ 6 ∧ c.sl ≤ 30 ∧ c.lo ≤ 8 ∧ c.bu ≤ 8)) := Lib.hid (by rw [hr, hR]; apply decide_eq_decide.2; rw [HFF.out]; simp)
  clear hr hR HFF
  obtain ⟨th, sl, lo, bu⟩ := c
  simp only [Cfg.cells] at *
  cases R
  · have HV0 := HR
    have HV : Hid (r = false) := Lib.hid (by rw [HR.out]; exact bool_no (fun h => by cases h.1))
    clear HR
    go_enter Try.func9, Try.ntmps9
    go_wp2_with (go_at_call 7; (with_reducible refine (HRT.out _).mono ?_); rintro e w' ⟨rfl, hb⟩; have l0 := hb.cell (p := ⟨w.heap.size, 0, none⟩) (by simp); have l1 := hb.cell (p := ⟨w.heap.size, 1, none⟩) (by simp); have l2 := hb.cell (p := ⟨w.heap.size, 2, none⟩) (by simp); have l3 := hb.cell (p := ⟨w.heap.size, 3, none⟩) (by simp); have HB : Hid (Below w.heap.size w w') := Lib.hid (((Below.refl _ _).alloc (Nat.le_refl _) _).trans (hb.mono (by simp))); clear hb)
    go_ret
    exact ⟨by rw [HV.out]; rfl, HB.out⟩
  by_cases h0 : th ≤ 6
  rotate_left
  · have d0 : decide (th ≤ 6) = false := bool_no h0
    have HV : Hid (r = false) := Lib.hid (by rw [HR.out]; exact bool_no (by omega))
    clear HR
    go_enter Try.func9, Try.ntmps9
    go_wp2_with (go_at_call 7; (with_reducible refine (HRT.out _).mono ?_); rintro e w' ⟨rfl, hb⟩; have l0 := hb.cell (p := ⟨w.heap.size, 0, none⟩) (by simp); have l1 := hb.cell (p := ⟨w.heap.size, 1, none⟩) (by simp); have l2 := hb.cell (p := ⟨w.heap.size, 2, none⟩) (by simp); have l3 := hb.cell (p := ⟨w.heap.size, 3, none⟩) (by simp); have HB : Hid (Below w.heap.size w w') := Lib.hid (((Below.refl _ _).alloc (Nat.le_refl _) _).trans (hb.mono (by simp))); clear hb)
    go_ret
    exact ⟨by rw [HV.out]; rfl, HB.out⟩
  have d0 : decide (th ≤ 6) = true := bool_yes h0
  by_cases h1 : sl ≤ 30
  rotate_left
  · have d1 : decide (sl ≤ 30) = false := bool_no h1
    have HV : Hid (r = false) := Lib.hid (by rw [HR.out]; exact bool_no (by omega))
    clear HR
    go_enter Try.func9, Try.ntmps9
    go_wp2_with (go_at_call 7; (with_reducible refine (HRT.out _).mono ?_); rintro e w' ⟨rfl, hb⟩; have l0 := hb.cell (p := ⟨w.heap.size, 0, none⟩) (by simp); have l1 := hb.cell (p := ⟨w.heap.size, 1, none⟩) (by simp); have l2 := hb.cell (p := ⟨w.heap.size, 2, none⟩) (by simp); have l3 := hb.cell (p := ⟨w.heap.size, 3, none⟩) (by simp); have HB : Hid (Below w.heap.size w w') := Lib.hid (((Below.refl _ _).alloc (Nat.le_refl _) _).trans (hb.mono (by simp))); clear hb)
    go_ret
    exact ⟨by rw [HV.out]; rfl, HB.out⟩
  have d1 : decide (sl ≤ 30) = true := bool_yes h1
  by_cases h2 : lo ≤ 8
  rotate_left
  · have d2 : decide (lo ≤ 8) = false := bool_no h2
    have HV : Hid (r = false) := Lib.hid (by rw [HR.out]; exact bool_no (by omega))
    clear HR
    go_enter Try.func9, Try.ntmps9
    go_wp2_with (go_at_call 7; (with_reducible refine (HRT.out _).mono ?_); rintro e w' ⟨rfl, hb⟩; have l0 := hb.cell (p := ⟨w.heap.size, 0, none⟩) (by simp); have l1 := hb.cell (p := ⟨w.heap.size, 1, none⟩) (by simp); have l2 := hb.cell (p := ⟨w.heap.size, 2, none⟩) (by simp); have l3 := hb.cell (p := ⟨w.heap.size, 3, none⟩) (by simp); have HB : Hid (Below w.heap.size w w') := Lib.hid (((Below.refl _ _).alloc (Nat.le_refl _) _).trans (hb.mono (by simp))); clear hb)
    go_ret
    exact ⟨by rw [HV.out]; rfl, HB.out⟩
  have d2 : decide (lo ≤ 8) = true := bool_yes h2
  by_cases h3 : bu ≤ 8
  rotate_left
  · have d3 : decide (bu ≤ 8) = false := bool_no h3
    have HV : Hid (r = false) := Lib.hid (by rw [HR.out]; exact bool_no (by omega))
    clear HR
    go_enter Try.func9, Try.ntmps9
    go_wp2_with (go_at_call 7; (with_reducible refine (HRT.out _).mono ?_); rintro e w' ⟨rfl, hb⟩; have l0 := hb.cell (p := ⟨w.heap.size, 0, none⟩) (by simp); have l1 := hb.cell (p := ⟨w.heap.size, 1, none⟩) (by simp); have l2 := hb.cell (p := ⟨w.heap.size, 2, none⟩) (by simp); have l3 := hb.cell (p := ⟨w.heap.size, 3, none⟩) (by simp); have HB : Hid (Below w.heap.size w w') := Lib.hid (((Below.refl _ _).alloc (Nat.le_refl _) _).trans (hb.mono (by simp))); clear hb)
    go_ret
    exact ⟨by rw [HV.out]; rfl, HB.out⟩
  have d3 : decide (bu ≤ 8) = true := bool_yes h3
  have HV : Hid (r = true) := Lib.hid (by rw [HR.out]; exact bool_yes ⟨rfl, by omega, by omega, by omega, by omega⟩)
  clear HR
  go_enter Try.func9, Try.ntmps9
  go_wp2_with (go_at_call 7; (with_reducible refine (HRT.out _).mono ?_); rintro e w' ⟨rfl, hb⟩; have l0 := hb.cell (p := ⟨w.heap.size, 0, none⟩) (by simp); have l1 := hb.cell (p := ⟨w.heap.size, 1, none⟩) (by simp); have l2 := hb.cell (p := ⟨w.heap.size, 2, none⟩) (by simp); have l3 := hb.cell (p := ⟨w.heap.size, 3, none⟩) (by simp); have HB : Hid (Below w.heap.size w w') := Lib.hid (((Below.refl _ _).alloc (Nat.le_refl _) _).trans (hb.mono (by simp))); clear hb)
  go_ret
  exact ⟨by rw [HV.out]; rfl, HB.out⟩
end Go.Proofs.Ytoeeeapjfkjkbaa
