/- Layers 5, 9: configs: which ones may be (the ways printed by g2.py).
   Layers 4, 7: a memory's block; an access is noted.
   Layers 3, 7: an access to a line is noted; passing words; whole parts.
   Layers 3, 7: passing words; rows of words that are alike.
   Layer 4: a word of the device.
   Layer 4, 7: a word put; a word peeked at.
   Layer 7: a word peeked at.
   Layer 7: a word put, lasting or passing.
   Layer 7: the functions that tell what an access puts.
   Layer 4: all is taken out of a set. -/
import Derived.Test.YtibelcmdfkgonaaGreatK1
import Derived.Laws.Pointers
import Derived.BigQuiet
import Derived.RegionTactic
import Derived.BigRegion
import Derived.ChangeAlike
import Derived.Deep.RegionWith
import Derived.Deep.Cut
import Derived.Deep.CutRange
namespace Go.Proofs.YtibelcmdfkgonaaGreat
open Go.RowKit Go.BigFrame
set_option linter.unusedVariables false
set_option linter.unusedSimpArgs false

/-- A config. -/
structure Cfg where
  th : Int
  sl : Int
  lo : Int
  bu : Int
def Cfg.cells (c : Cfg) : Array Value := #[.int .i64 c.th, .int .i64 c.sl, .int .i64 c.lo, .int .i64 c.bu]
def Cfg.right (c : Cfg) : Prop := 1 ≤ c.th ∧ c.th ≤ 64 ∧ 1 ≤ c.sl ∧ c.sl ≤ 65536 ∧ 1 ≤ c.lo ∧ c.lo ≤ 64 ∧ 1 ≤ c.bu ∧ c.bu ≤ 64
instance (c : Cfg) : Decidable c.right := by unfold Cfg.right; infer_instance
def Cfg.few (c : Cfg) : Prop := c.right ∧ c.th ≤ 6 ∧ c.sl ≤ 30 ∧ c.lo ≤ 8 ∧ c.bu ≤ 8
instance (c : Cfg) : Decidable c.few := by unfold Cfg.few; infer_instance
def BoolOn (r : Bool) (w : World) (e : Ending) (w' : World) : Prop := e = .returned (.bool r) ∧ Below w.heap.size w w'

theorem from153 (n m : Int) (w : World) : Calls Tryz.prog 153 #[.int .i64 n, .int .i64 m] w fun e w' => e = .returned (.bool (decide (1 ≤ n ∧ n ≤ m))) ∧ w' = w := by
  by_cases h : 1 ≤ n
  · have d1 : decide (1 ≤ n) = true := bool_yes h
    have e : decide (1 ≤ n ∧ n ≤ m) = decide (n ≤ m) := by simp [h]
    rw [e]
    go_enter Tryz.func153, Tryz.ntmps153
    go_wp2
    all_goals
      go_ret
      exact ⟨by simp_all, rfl⟩
  · have d1 : decide (1 ≤ n) = false := bool_no h
    have e : decide (1 ≤ n ∧ n ≤ m) = false := bool_no (fun k => h k.1)
    rw [e]
    go_enter Tryz.func153, Tryz.ntmps153
    go_wp2
    go_ret
    exact ⟨rfl, rfl⟩

theorem refRight_any (c : Cfg) (w : World) : Calls Tryz.prog 21 #[.agg c.cells] w (BoolOn (decide c.right) w) := by
  obtain ⟨th, sl, lo, bu⟩ := c
  obtain ⟨r, hr⟩ : ∃ r, r = decide (Cfg.right ⟨th, sl, lo, bu⟩) := ⟨_, rfl⟩
  rw [← hr]
  have HR : Hid (r = decide (1 ≤ th ∧ th ≤ 64 ∧ 1 ≤ sl ∧ sl ≤ 65536 ∧ 1 ≤ lo ∧ lo ≤ 64 ∧ 1 ≤ bu ∧ bu ≤ 64)) := Lib.hid hr
  clear hr
  simp only [Cfg.cells]
  by_cases h0 : 1 ≤ th
  rotate_left
  · have d0 : decide (1 ≤ th) = false := bool_no h0
    have HV : Hid (r = false) := Lib.hid (by rw [HR.out]; exact bool_no (by omega))
    clear HR
    go_enter Tryz.func21, Tryz.ntmps21
    go_wp2_with fail
    go_ret
    exact ⟨by rw [HV.out]; rfl, (Below.refl _ _).alloc (Nat.le_refl _) _⟩
  have d0 : decide (1 ≤ th) = true := bool_yes h0
  by_cases h1 : th ≤ 64
  rotate_left
  · have d1 : decide (th ≤ 64) = false := bool_no h1
    have HV : Hid (r = false) := Lib.hid (by rw [HR.out]; exact bool_no (by omega))
    clear HR
    go_enter Tryz.func21, Tryz.ntmps21
    go_wp2_with fail
    go_ret
    exact ⟨by rw [HV.out]; rfl, (Below.refl _ _).alloc (Nat.le_refl _) _⟩
  have d1 : decide (th ≤ 64) = true := bool_yes h1
  by_cases h2 : 1 ≤ sl
  rotate_left
  · have d2 : decide (1 ≤ sl) = false := bool_no h2
    have HV : Hid (r = false) := Lib.hid (by rw [HR.out]; exact bool_no (by omega))
    clear HR
    go_enter Tryz.func21, Tryz.ntmps21
    go_wp2_with fail
    go_ret
    exact ⟨by rw [HV.out]; rfl, (Below.refl _ _).alloc (Nat.le_refl _) _⟩
  have d2 : decide (1 ≤ sl) = true := bool_yes h2
  by_cases h3 : sl ≤ 65536
  rotate_left
  · have d3 : decide (sl ≤ 65536) = false := bool_no h3
    have HV : Hid (r = false) := Lib.hid (by rw [HR.out]; exact bool_no (by omega))
    clear HR
    go_enter Tryz.func21, Tryz.ntmps21
    go_wp2_with fail
    go_ret
    exact ⟨by rw [HV.out]; rfl, (Below.refl _ _).alloc (Nat.le_refl _) _⟩
  have d3 : decide (sl ≤ 65536) = true := bool_yes h3
  by_cases h4 : 1 ≤ lo
  rotate_left
  · have d4 : decide (1 ≤ lo) = false := bool_no h4
    have HV : Hid (r = false) := Lib.hid (by rw [HR.out]; exact bool_no (by omega))
    clear HR
    go_enter Tryz.func21, Tryz.ntmps21
    go_wp2_with fail
    go_ret
    exact ⟨by rw [HV.out]; rfl, (Below.refl _ _).alloc (Nat.le_refl _) _⟩
  have d4 : decide (1 ≤ lo) = true := bool_yes h4
  by_cases h5 : lo ≤ 64
  rotate_left
  · have d5 : decide (lo ≤ 64) = false := bool_no h5
    have HV : Hid (r = false) := Lib.hid (by rw [HR.out]; exact bool_no (by omega))
    clear HR
    go_enter Tryz.func21, Tryz.ntmps21
    go_wp2_with fail
    go_ret
    exact ⟨by rw [HV.out]; rfl, (Below.refl _ _).alloc (Nat.le_refl _) _⟩
  have d5 : decide (lo ≤ 64) = true := bool_yes h5
  by_cases h6 : 1 ≤ bu
  rotate_left
  · have d6 : decide (1 ≤ bu) = false := bool_no h6
    have HV : Hid (r = false) := Lib.hid (by rw [HR.out]; exact bool_no (by omega))
    clear HR
    go_enter Tryz.func21, Tryz.ntmps21
    go_wp2_with fail
    go_ret
    exact ⟨by rw [HV.out]; rfl, (Below.refl _ _).alloc (Nat.le_refl _) _⟩
  have d6 : decide (1 ≤ bu) = true := bool_yes h6
  by_cases h7 : bu ≤ 64
  rotate_left
  · have d7 : decide (bu ≤ 64) = false := bool_no h7
    have HV : Hid (r = false) := Lib.hid (by rw [HR.out]; exact bool_no (by omega))
    clear HR
    go_enter Tryz.func21, Tryz.ntmps21
    go_wp2_with fail
    go_ret
    exact ⟨by rw [HV.out]; rfl, (Below.refl _ _).alloc (Nat.le_refl _) _⟩
  have d7 : decide (bu ≤ 64) = true := bool_yes h7
  have HV : Hid (r = true) := Lib.hid (by rw [HR.out]; exact bool_yes (by omega))
  clear HR
  go_enter Tryz.func21, Tryz.ntmps21
  go_wp2_with fail
  go_ret
  exact ⟨by rw [HV.out]; rfl, (Below.refl _ _).alloc (Nat.le_refl _) _⟩

theorem right_any (c : Cfg) (w : World) : Calls Tryz.prog 89 #[.agg c.cells] w (BoolOn (decide c.right) w) := by
  obtain ⟨th, sl, lo, bu⟩ := c
  obtain ⟨r, hr⟩ : ∃ r, r = decide (Cfg.right ⟨th, sl, lo, bu⟩) := ⟨_, rfl⟩
  rw [← hr]
  have HR : Hid (r = decide (1 ≤ th ∧ th ≤ 64 ∧ 1 ≤ sl ∧ sl ≤ 65536 ∧ 1 ≤ lo ∧ lo ≤ 64 ∧ 1 ≤ bu ∧ bu ≤ 64)) := Lib.hid hr
  clear hr
  simp only [Cfg.cells]
  by_cases h0 : 1 ≤ th ∧ th ≤ 64
  rotate_left
  · have HF0 : Hid (∀ w, Calls Tryz.prog 153 #[.int .i64 th, .int .i64 64] w fun e w' => e = .returned (.bool false) ∧ w' = w) := Lib.hid fun w => by rw [← bool_no h0]; exact from153 _ _ w
    have HV : Hid (r = false) := Lib.hid (by rw [HR.out]; exact bool_no (by omega))
    clear HR
    go_enter Tryz.func89, Tryz.ntmps89
    go_wp2_with (go_at_call 153; (with_reducible first | refine (HF0.out _).mono ?_); rintro e w' ⟨rfl, rfl⟩)
    go_ret
    exact ⟨by rw [HV.out]; rfl, (Below.refl _ _).alloc (Nat.le_refl _) _⟩
  have HF0 : Hid (∀ w, Calls Tryz.prog 153 #[.int .i64 th, .int .i64 64] w fun e w' => e = .returned (.bool true) ∧ w' = w) := Lib.hid fun w => by rw [← bool_yes h0]; exact from153 _ _ w
  by_cases h1 : 1 ≤ sl ∧ sl ≤ 65536
  rotate_left
  · have HF1 : Hid (∀ w, Calls Tryz.prog 153 #[.int .i64 sl, .int .i64 65536] w fun e w' => e = .returned (.bool false) ∧ w' = w) := Lib.hid fun w => by rw [← bool_no h1]; exact from153 _ _ w
    have HV : Hid (r = false) := Lib.hid (by rw [HR.out]; exact bool_no (by omega))
    clear HR
    go_enter Tryz.func89, Tryz.ntmps89
    go_wp2_with (go_at_call 153; (with_reducible first | refine (HF0.out _).mono ?_ | refine (HF1.out _).mono ?_); rintro e w' ⟨rfl, rfl⟩)
    go_ret
    exact ⟨by rw [HV.out]; rfl, (Below.refl _ _).alloc (Nat.le_refl _) _⟩
  have HF1 : Hid (∀ w, Calls Tryz.prog 153 #[.int .i64 sl, .int .i64 65536] w fun e w' => e = .returned (.bool true) ∧ w' = w) := Lib.hid fun w => by rw [← bool_yes h1]; exact from153 _ _ w
  by_cases h2 : 1 ≤ lo ∧ lo ≤ 64
  rotate_left
  · have HF2 : Hid (∀ w, Calls Tryz.prog 153 #[.int .i64 lo, .int .i64 64] w fun e w' => e = .returned (.bool false) ∧ w' = w) := Lib.hid fun w => by rw [← bool_no h2]; exact from153 _ _ w
    have HV : Hid (r = false) := Lib.hid (by rw [HR.out]; exact bool_no (by omega))
    clear HR
    go_enter Tryz.func89, Tryz.ntmps89
    go_wp2_with (go_at_call 153; (with_reducible first | refine (HF0.out _).mono ?_ | refine (HF1.out _).mono ?_ | refine (HF2.out _).mono ?_); rintro e w' ⟨rfl, rfl⟩)
    go_ret
    exact ⟨by rw [HV.out]; rfl, (Below.refl _ _).alloc (Nat.le_refl _) _⟩
  have HF2 : Hid (∀ w, Calls Tryz.prog 153 #[.int .i64 lo, .int .i64 64] w fun e w' => e = .returned (.bool true) ∧ w' = w) := Lib.hid fun w => by rw [← bool_yes h2]; exact from153 _ _ w
  by_cases h3 : 1 ≤ bu ∧ bu ≤ 64
  rotate_left
  · have HF3 : Hid (∀ w, Calls Tryz.prog 153 #[.int .i64 bu, .int .i64 64] w fun e w' => e = .returned (.bool false) ∧ w' = w) := Lib.hid fun w => by rw [← bool_no h3]; exact from153 _ _ w
    have HV : Hid (r = false) := Lib.hid (by rw [HR.out]; exact bool_no (by omega))
    clear HR
    go_enter Tryz.func89, Tryz.ntmps89
    go_wp2_with (go_at_call 153; (with_reducible first | refine (HF0.out _).mono ?_ | refine (HF1.out _).mono ?_ | refine (HF2.out _).mono ?_ | refine (HF3.out _).mono ?_); rintro e w' ⟨rfl, rfl⟩)
    go_ret
    exact ⟨by rw [HV.out]; rfl, (Below.refl _ _).alloc (Nat.le_refl _) _⟩
  have HF3 : Hid (∀ w, Calls Tryz.prog 153 #[.int .i64 bu, .int .i64 64] w fun e w' => e = .returned (.bool true) ∧ w' = w) := Lib.hid fun w => by rw [← bool_yes h3]; exact from153 _ _ w
  have HV : Hid (r = true) := Lib.hid (by rw [HR.out]; exact bool_yes (by omega))
  clear HR
  go_enter Tryz.func89, Tryz.ntmps89
  go_wp2_with (go_at_call 153; (with_reducible first | refine (HF0.out _).mono ?_ | refine (HF1.out _).mono ?_ | refine (HF2.out _).mono ?_ | refine (HF3.out _).mono ?_); rintro e w' ⟨rfl, rfl⟩)
  go_ret
  exact ⟨by rw [HV.out]; rfl, (Below.refl _ _).alloc (Nat.le_refl _) _⟩

theorem few57 (c : Cfg) (w : World) : Calls Tryz.prog 57 #[.agg c.cells] w (BoolOn (decide c.few) w) := by
  have HRT := Lib.hid fun w => refRight_any c w
  have HFF : Hid (c.few ↔ c.right ∧ c.th ≤ 6 ∧ c.sl ≤ 30 ∧ c.lo ≤ 8 ∧ c.bu ≤ 8) := Lib.hid Iff.rfl
  obtain ⟨R, hR⟩ : ∃ R, R = decide c.right := ⟨_, rfl⟩
  rw [← hR] at HRT
  obtain ⟨r, hr⟩ : ∃ r, r = decide c.few := ⟨_, rfl⟩
  rw [← hr]
  have HR : Hid (r = decide (R = true ∧ c.th ≤ 6 ∧ c.sl ≤ 30 ∧ c.lo ≤ 8 ∧ c.bu ≤ 8)) := Lib.hid (by rw [hr, hR]; apply decide_eq_decide.2; rw [HFF.out]; simp)
  clear hr hR HFF
  obtain ⟨th, sl, lo, bu⟩ := c
  simp only [Cfg.cells] at *
  cases R
  · have HV0 := HR
    have HV : Hid (r = false) := Lib.hid (by rw [HR.out]; exact bool_no (fun h => by cases h.1))
    clear HR
    go_enter Tryz.func57, Tryz.ntmps57
    go_wp2_with (go_at_call 21; (with_reducible refine (HRT.out _).mono ?_); rintro e w' ⟨rfl, hb⟩; have l0 := hb.cell (p := ⟨w.heap.size, 0, none⟩) (by simp); have l1 := hb.cell (p := ⟨w.heap.size, 1, none⟩) (by simp); have l2 := hb.cell (p := ⟨w.heap.size, 2, none⟩) (by simp); have l3 := hb.cell (p := ⟨w.heap.size, 3, none⟩) (by simp); have HB : Hid (Below w.heap.size w w') := Lib.hid (((Below.refl _ _).alloc (Nat.le_refl _) _).trans (hb.mono (by simp))); clear hb)
    go_ret
    exact ⟨by rw [HV.out]; rfl, HB.out⟩
  by_cases h0 : th ≤ 6
  rotate_left
  · have d0 : decide (th ≤ 6) = false := bool_no h0
    have HV : Hid (r = false) := Lib.hid (by rw [HR.out]; exact bool_no (by omega))
    clear HR
    go_enter Tryz.func57, Tryz.ntmps57
    go_wp2_with (go_at_call 21; (with_reducible refine (HRT.out _).mono ?_); rintro e w' ⟨rfl, hb⟩; have l0 := hb.cell (p := ⟨w.heap.size, 0, none⟩) (by simp); have l1 := hb.cell (p := ⟨w.heap.size, 1, none⟩) (by simp); have l2 := hb.cell (p := ⟨w.heap.size, 2, none⟩) (by simp); have l3 := hb.cell (p := ⟨w.heap.size, 3, none⟩) (by simp); have HB : Hid (Below w.heap.size w w') := Lib.hid (((Below.refl _ _).alloc (Nat.le_refl _) _).trans (hb.mono (by simp))); clear hb)
    go_ret
    exact ⟨by rw [HV.out]; rfl, HB.out⟩
  have d0 : decide (th ≤ 6) = true := bool_yes h0
  by_cases h1 : sl ≤ 30
  rotate_left
  · have d1 : decide (sl ≤ 30) = false := bool_no h1
    have HV : Hid (r = false) := Lib.hid (by rw [HR.out]; exact bool_no (by omega))
    clear HR
    go_enter Tryz.func57, Tryz.ntmps57
    go_wp2_with (go_at_call 21; (with_reducible refine (HRT.out _).mono ?_); rintro e w' ⟨rfl, hb⟩; have l0 := hb.cell (p := ⟨w.heap.size, 0, none⟩) (by simp); have l1 := hb.cell (p := ⟨w.heap.size, 1, none⟩) (by simp); have l2 := hb.cell (p := ⟨w.heap.size, 2, none⟩) (by simp); have l3 := hb.cell (p := ⟨w.heap.size, 3, none⟩) (by simp); have HB : Hid (Below w.heap.size w w') := Lib.hid (((Below.refl _ _).alloc (Nat.le_refl _) _).trans (hb.mono (by simp))); clear hb)
    go_ret
    exact ⟨by rw [HV.out]; rfl, HB.out⟩
  have d1 : decide (sl ≤ 30) = true := bool_yes h1
  by_cases h2 : lo ≤ 8
  rotate_left
  · have d2 : decide (lo ≤ 8) = false := bool_no h2
    have HV : Hid (r = false) := Lib.hid (by rw [HR.out]; exact bool_no (by omega))
    clear HR
    go_enter Tryz.func57, Tryz.ntmps57
    go_wp2_with (go_at_call 21; (with_reducible refine (HRT.out _).mono ?_); rintro e w' ⟨rfl, hb⟩; have l0 := hb.cell (p := ⟨w.heap.size, 0, none⟩) (by simp); have l1 := hb.cell (p := ⟨w.heap.size, 1, none⟩) (by simp); have l2 := hb.cell (p := ⟨w.heap.size, 2, none⟩) (by simp); have l3 := hb.cell (p := ⟨w.heap.size, 3, none⟩) (by simp); have HB : Hid (Below w.heap.size w w') := Lib.hid (((Below.refl _ _).alloc (Nat.le_refl _) _).trans (hb.mono (by simp))); clear hb)
    go_ret
    exact ⟨by rw [HV.out]; rfl, HB.out⟩
  have d2 : decide (lo ≤ 8) = true := bool_yes h2
  by_cases h3 : bu ≤ 8
  rotate_left
  · have d3 : decide (bu ≤ 8) = false := bool_no h3
    have HV : Hid (r = false) := Lib.hid (by rw [HR.out]; exact bool_no (by omega))
    clear HR
    go_enter Tryz.func57, Tryz.ntmps57
    go_wp2_with (go_at_call 21; (with_reducible refine (HRT.out _).mono ?_); rintro e w' ⟨rfl, hb⟩; have l0 := hb.cell (p := ⟨w.heap.size, 0, none⟩) (by simp); have l1 := hb.cell (p := ⟨w.heap.size, 1, none⟩) (by simp); have l2 := hb.cell (p := ⟨w.heap.size, 2, none⟩) (by simp); have l3 := hb.cell (p := ⟨w.heap.size, 3, none⟩) (by simp); have HB : Hid (Below w.heap.size w w') := Lib.hid (((Below.refl _ _).alloc (Nat.le_refl _) _).trans (hb.mono (by simp))); clear hb)
    go_ret
    exact ⟨by rw [HV.out]; rfl, HB.out⟩
  have d3 : decide (bu ≤ 8) = true := bool_yes h3
  have HV : Hid (r = true) := Lib.hid (by rw [HR.out]; exact bool_yes ⟨rfl, by omega, by omega, by omega, by omega⟩)
  clear HR
  go_enter Tryz.func57, Tryz.ntmps57
  go_wp2_with (go_at_call 21; (with_reducible refine (HRT.out _).mono ?_); rintro e w' ⟨rfl, hb⟩; have l0 := hb.cell (p := ⟨w.heap.size, 0, none⟩) (by simp); have l1 := hb.cell (p := ⟨w.heap.size, 1, none⟩) (by simp); have l2 := hb.cell (p := ⟨w.heap.size, 2, none⟩) (by simp); have l3 := hb.cell (p := ⟨w.heap.size, 3, none⟩) (by simp); have HB : Hid (Below w.heap.size w w') := Lib.hid (((Below.refl _ _).alloc (Nat.le_refl _) _).trans (hb.mono (by simp))); clear hb)
  go_ret
  exact ⟨by rw [HV.out]; rfl, HB.out⟩
end Go.Proofs.YtibelcmdfkgonaaGreat

namespace Go.Proofs.YtibelcmdfkgonaaGreat
open Go.RowKit Go.BigFrame
set_option linter.unusedVariables false
set_option linter.unusedSimpArgs false
theorem heap_set_other {W : World} {b j g : Nat} {v : Value} (h : g ≠ b) : (W.setCell ⟨b, j, none⟩ v).heap[g]? = W.heap[g]? := Below.heap_setCell W _ v g h
theorem heap_set {w : World} {g j : Nat} {c : Array Value} {t : TypeId} {f : Nat × Nat} (v : Value) (h : w.heap[g]? = some (.cells c t f)) : (w.setCell ⟨g, j, none⟩ v).heap[g]? = some (.cells (c.setIfInBounds j v) t f) := by
  simp [World.setCell, Array.getElem?_modify, h]
theorem cell_of_heap {w w' : World} {b : Nat} (h : w'.heap[b]? = w.heap[b]?) (o : Nat) : w'.cell? ⟨b, o, none⟩ = w.cell? ⟨b, o, none⟩ := World.cell?_of_block (w := w) (a := ⟨b, o, none⟩) h
theorem frozen_of_heap {w w' : World} {b : Nat} (h : w'.heap[b]? = w.heap[b]?) (o : Nat) : w'.frozen? ⟨b, o, none⟩ = w.frozen? ⟨b, o, none⟩ := World.frozen?_of_block (w := w) (a := ⟨b, o, none⟩) h
/-- Nothing but block p has turned. -/
structure But (p : Nat) (w w' : World) : Prop where
  os : w'.os = w.os
  tape : w'.tape = w.tape
  output : w'.output = w.output
  size : w.heap.size ≤ w'.heap.size
  block : ∀ k, k < w.heap.size → k ≠ p → w'.heap[k]? = w.heap[k]?
theorem But.refl (p : Nat) (w : World) : But p w w := ⟨rfl, rfl, rfl, Nat.le_refl _, fun _ _ _ => rfl⟩
theorem But.trans {p : Nat} {x y z : World} (h : But p x y) (k : But p y z) : But p x z :=
  ⟨k.os.trans h.os, k.tape.trans h.tape, k.output.trans h.output, Nat.le_trans h.size k.size, fun i hi h1 => (k.block i (Nat.lt_of_lt_of_le hi h.size) h1).trans (h.block i hi h1)⟩
theorem But.of_below {p : Nat} {w w' : World} (h : Below w.heap.size w w') : But p w w' := ⟨h.os, h.tape, h.output, h.size, fun k hk _ => h.block k hk⟩
theorem But.alloc {p : Nat} {a w : World} (h : But p a w) (o : Obj) : But p a (w.alloc o) :=
  ⟨h.os, h.tape, h.output, Nat.le_trans h.size (by simp), fun k hk hb => by rw [Below.heap_alloc _ _ _ (Nat.lt_of_lt_of_le hk h.size)]; exact h.block k hk hb⟩
theorem But.set {p : Nat} {a w : World} (h : But p a w) (j : Nat) (v : Value) : But p a (w.setCell ⟨p, j, none⟩ v) :=
  ⟨h.os, h.tape, h.output, by simpa [World.setCell] using h.size, fun k hk hb => by rw [heap_set_other hb]; exact h.block k hk hb⟩
theorem But.setNew {p : Nat} {a w : World} (h : But p a w) {g : Nat} (hg : a.heap.size ≤ g) (j : Nat) (v : Value) : But p a (w.setCell ⟨g, j, none⟩ v) :=
  ⟨h.os, h.tape, h.output, by simpa [World.setCell] using h.size, fun k hk hb => by rw [heap_set_other (by omega)]; exact h.block k hk hb⟩
theorem But.below {p B : Nat} {a w w' : World} (h : Below B a w) (k : But p w w') (hb : B ≤ p) (hB : B ≤ w.heap.size) : Below B a w' :=
  ⟨k.os.trans h.os, k.tape.trans h.tape, k.output.trans h.output, Nat.le_trans h.size k.size, fun i hi => (k.block i (by omega) (by omega)).trans (h.block i hi)⟩
/-- An access. -/
structure Acc where
  ki : Int
  th : Int
  pl : Int
  ol : Int
  ne : Int
  dn : Bool
def Acc.cells (x : Acc) : Array Value := #[.int .i64 x.ki, .int .i64 x.th, .int .i64 x.pl, .int .u64 x.ol, .int .u64 x.ne, .bool x.dn]
/-- A memory's block: the device, the passing words, the clock, how many were bad, the last access. -/
def MemRow (W : World) (m : Nat) (dv pv : Value) (ck bd : Int) (x : Acc) : Prop :=
  W.heap[m]? = some (.cells #[dv, pv, .int .i64 ck, .int .i64 bd, .int .i64 x.ki, .int .i64 x.th, .int .i64 x.pl, .int .u64 x.ol, .int .u64 x.ne, .bool x.dn] 138 (0, 0))
theorem row10 {W : World} {b : Nat} {k0 k1 k2 k3 k4 k5 k6 k7 k8 k9 : Value} {t : TypeId} (h : W.heap[b]? = some (.cells #[k0, k1, k2, k3, k4, k5, k6, k7, k8, k9] t (0, 0))) :
    W.cell? ⟨b, 0, none⟩ = some k0 ∧ W.cell? ⟨b, 1, none⟩ = some k1 ∧ W.cell? ⟨b, 2, none⟩ = some k2 ∧ W.cell? ⟨b, 3, none⟩ = some k3 ∧ W.cell? ⟨b, 4, none⟩ = some k4 ∧ W.cell? ⟨b, 5, none⟩ = some k5 ∧ W.cell? ⟨b, 6, none⟩ = some k6 ∧ W.cell? ⟨b, 7, none⟩ = some k7 ∧ W.cell? ⟨b, 8, none⟩ = some k8 ∧ W.cell? ⟨b, 9, none⟩ = some k9 ∧ ∀ j, W.frozen? ⟨b, j, none⟩ = false := by
  refine ⟨?_, ?_, ?_, ?_, ?_, ?_, ?_, ?_, ?_, ?_, fun j => ?_⟩
  all_goals first | (rw [cell_of_row _ _ _ _ _ _ h]; rfl) | (unfold World.frozen?; rw [h]; simp)
theorem row_note {W : World} {m : Nat} {k0 k1 k2 k3 k4 k5 k6 k7 k8 k9 a2 a4 a5 a6 a7 a8 a9 : Value} {t : TypeId} {f : Nat × Nat} (h : W.heap[m]? = some (.cells #[k0, k1, k2, k3, k4, k5, k6, k7, k8, k9] t f)) :
    (((((((W.setCell ⟨m, 2, none⟩ a2).setCell ⟨m, 4, none⟩ a4).setCell ⟨m, 5, none⟩ a5).setCell ⟨m, 6, none⟩ a6).setCell ⟨m, 7, none⟩ a7).setCell ⟨m, 8, none⟩ a8).setCell ⟨m, 9, none⟩ a9).heap[m]? = some (.cells #[k0, k1, a2, k3, a4, a5, a6, a7, a8, a9] t f) := by
  have h2 := heap_set (j := 2) a2 h
  have h4 := heap_set (j := 4) a4 h2
  have h5 := heap_set (j := 5) a5 h4
  have h6 := heap_set (j := 6) a6 h5
  have h7 := heap_set (j := 7) a7 h6
  have h8 := heap_set (j := 8) a8 h7
  have h9 := heap_set (j := 9) a9 h8
  rw [h9]
  rfl
/-- An access is noted. -/
def Noted (W : World) (m : Nat) (dv pv : Value) (ck bd : Int) (x : Acc) (e : Ending) (W' : World) : Prop :=
  (∃ v, e = .returned v) ∧ MemRow W' m dv pv (ck + 1) bd x ∧ But m W W'
set_option maxRecDepth 100000 in
theorem count73 (m : Nat) (dv pv : Value) (ck bd : Int) (c0 : 0 ≤ ck) (c1 : ck ≤ 1000000) (b0 : 0 ≤ bd) (b1 : bd ≤ 1000000) (x0 x : Acc) (is : Bool) (W : World) (h : MemRow W m dv pv ck bd x0) :
    Calls Tryz.prog 222 #[.pointer (some ⟨m, 0, none⟩), .agg x.cells, .bool is] W (Noted W m dv pv ck (if is then bd else bd + 1) x) := by
  obtain ⟨y0, y1, y2, y3, y4, y5, y6, y7, y8, y9, yf⟩ := row10 h
  have hlt : m < W.heap.size := (Array.getElem?_eq_some_iff.1 h).1
  have hne : m ≠ W.heap.size := by omega
  have hne2 : W.heap.size ≠ m := by omega
  have HH := Lib.hid h
  clear h
  simp only [Acc.cells]
  cases is with
  | true =>
    go_enter Tryz.func222, Tryz.ntmps222
    go_wp2_with fail
    go_end0
    refine ⟨⟨_, rfl⟩, ?_, ?_⟩
    · unfold MemRow
      rw [Below.heap_alloc _ _ _ (by simpa using hlt)]
      exact row_note HH.out
    · exact ((((((((But.refl m W).set 2 _).set 4 _).set 5 _).set 6 _).set 7 _).set 8 _).set 9 _).alloc _
  | false =>
    go_enter Tryz.func222, Tryz.ntmps222
    go_wp2_with fail
    go_end0
    refine ⟨⟨_, rfl⟩, ?_, ?_⟩
    · unfold MemRow
      rw [Below.heap_alloc _ _ _ (by simpa using hlt)]
      have h3 := heap_set (j := 3) (.int .i64 (bd + 1)) (row_note (a2 := .int .i64 (ck + 1)) (a4 := .int .i64 x.ki) (a5 := .int .i64 x.th) (a6 := .int .i64 x.pl) (a7 := .int .u64 x.ol) (a8 := .int .u64 x.ne) (a9 := .bool x.dn) HH.out)
      rw [h3]
      rfl
    · exact (((((((((But.refl m W).set 2 _).set 4 _).set 5 _).set 6 _).set 7 _).set 8 _).set 9 _).set 3 _).alloc _
end Go.Proofs.YtibelcmdfkgonaaGreat

namespace Go.Proofs.YtibelcmdfkgonaaGreat
open Go.RowKit Go.BigFrame
set_option linter.unusedVariables false
set_option linter.unusedSimpArgs false
theorem Noted.from {W W1 W' : World} {m : Nat} {dv pv : Value} {ck bd : Int} {x : Acc} {e : Ending} (h : Noted W1 m dv pv ck bd x e W') (hb : But m W W1) : Noted W m dv pv ck bd x e W' :=
  ⟨h.1, h.2.1, hb.trans h.2.2⟩
set_option maxRecDepth 100000 in
theorem line56 (m : Nat) (dv pv : Value) (ck bd : Int) (c0 : 0 ≤ ck) (c1 : ck ≤ 1000000) (b0 : 0 ≤ bd) (b1 : bd ≤ 1000000) (x0 x : Acc) (er : Int) (W : World) (h : MemRow W m dv pv ck bd x0) :
    Calls Tryz.prog 213 #[.pointer (some ⟨m, 0, none⟩), .agg x.cells, .int .i64 er] W (Noted W m dv pv ck (if er == 0 then bd else bd + 1) ⟨x.ki, x.th, x.pl, x.ol, x.ne, er == 0⟩) := by
  have hlt : m < W.heap.size := (Array.getElem?_eq_some_iff.1 h).1
  have HH := Lib.hid h
  clear h
  have H73 : Hid (∀ o, Calls Tryz.prog 222 #[.pointer (some ⟨m, 0, none⟩), .agg #[.int .i64 x.ki, .int .i64 x.th, .int .i64 x.pl, .int .u64 x.ol, .int .u64 x.ne, .bool (er == 0)], .bool (er == 0)] (W.alloc o) (Noted W m dv pv ck (if er == 0 then bd else bd + 1) ⟨x.ki, x.th, x.pl, x.ol, x.ne, er == 0⟩)) := Lib.hid fun o =>
    (count73 m dv pv ck bd c0 c1 b0 b1 x0 ⟨x.ki, x.th, x.pl, x.ol, x.ne, er == 0⟩ (er == 0) (W.alloc o) ((Below.heap_alloc _ _ _ hlt).trans HH.out)).mono fun e w hn => hn.from ((But.refl m W).alloc o)
  generalize (if er == 0 then bd else bd + 1) = bd' at *
  obtain ⟨y, hy⟩ : ∃ y, y = (⟨x.ki, x.th, x.pl, x.ol, x.ne, er == 0⟩ : Acc) := ⟨_, rfl⟩
  rw [← hy] at H73 ⊢
  clear hy
  simp only [Acc.cells]
  go_enter Tryz.func213, Tryz.ntmps213
  go_wp2_with fail
  refine (H73.out _).mono ?_
  rintro e w' hn
  obtain ⟨⟨v, rfl⟩, hr, hb⟩ := hn
  have HR := Lib.hid hr
  have HB := Lib.hid hb
  clear hr hb
  go_wp2_with fail
  go_end0
  exact ⟨⟨_, rfl⟩, HR.out, HB.out⟩
theorem whole49 (n : Nat) (hn : n ≤ 9223372036854775807) (w : World) : Calls Tryz.prog 218 #[.int .i64 n, .int .i64 8] w (Says (.int .i64 (if (n : Int) % 8 ≠ 0 then 3 else if 262144 < (n : Int) / 8 then 2 else 0)) w) := by
  have e1 : (n : Int).tdiv 8 = (n : Int) / 8 := Int.tdiv_eq_ediv_of_nonneg (by omega)
  have e2 : (n : Int).tmod 8 = (n : Int) % 8 := Int.tmod_eq_emod_of_nonneg (by omega)
  by_cases h3 : (n : Int) % 8 = 0
  · have d3 : ((n : Int) % 8 != 0) = false := by simp [h3]
    rw [if_neg (fun h => h h3)]
    by_cases h4 : 262144 < (n : Int) / 8
    · have d4 : decide (262144 < (n : Int) / 8) = true := bool_yes h4
      rw [if_pos h4]
      go_enter Tryz.func218, Tryz.ntmps218
      go_wp2_with fail
      go_ret
      exact ⟨rfl, rfl⟩
    · have d4 : decide (262144 < (n : Int) / 8) = false := bool_no h4
      rw [if_neg h4]
      go_enter Tryz.func218, Tryz.ntmps218
      go_wp2_with fail
      go_ret
      exact ⟨rfl, rfl⟩
  · have d3 : ((n : Int) % 8 != 0) = true := by simp [h3]
    rw [if_pos h3]
    go_enter Tryz.func218, Tryz.ntmps218
    go_wp2_with fail
    go_ret
    exact ⟨rfl, rfl⟩
end Go.Proofs.YtibelcmdfkgonaaGreat

namespace Go.Proofs.YtibelcmdfkgonaaGreat
open Go.RowKit Go.BigFrame
set_option linter.unusedVariables false
set_option linter.unusedSimpArgs false
/-- An answer; the world as it was but for draws. -/
def Tells (v : Value) (w : World) (e : Ending) (w' : World) : Prop := e = .returned v ∧ Below w.heap.size w w' ∧ w'.heap = w.heap
theorem pass46 (m : Nat) (a : Option Addr) (np cap : Nat) (hnp : np ≤ 262144) (at_ : Int) (q0 : -9223372036854775808 ≤ at_) (q1 : at_ ≤ 9223372036854775807) (w : World) (h : w.cell? ⟨m, 1, none⟩ = some (.slice a np cap)) :
    Calls Tryz.prog 157 #[.pointer (some ⟨m, 0, none⟩), .int .i64 at_] w (Tells (.tuple #[.int .i64 (-1 - at_), .bool (decide (at_ < 0 ∧ -1 - at_ < (np : Int)))]) w) := by
  have w1 : wrap64 (-1 - at_) = -1 - at_ := by unfold wrap64; omega
  by_cases h0 : at_ < 0
  · have d0 : decide (at_ < 0) = true := bool_yes h0
    rw [show decide (at_ < 0 ∧ -1 - at_ < (np : Int)) = decide (-1 - at_ < (np : Int)) by simp [h0]]
    go_enter Tryz.func157, Tryz.ntmps157
    go_wp2_with fail
    go_quiet (fail)
    go_wp2_with fail
    go_ret2
    exact ⟨rfl, ⟨rfl, rfl, rfl, Nat.le_refl _, fun _ _ => rfl⟩, rfl⟩
  · have d0 : decide (at_ < 0) = false := bool_no h0
    rw [show decide (at_ < 0 ∧ -1 - at_ < (np : Int)) = false by simp [h0]]
    go_enter Tryz.func157, Tryz.ntmps157
    go_wp2_with fail
    go_quiet (fail)
    go_wp2_with fail
    go_ret2
    exact ⟨rfl, ⟨rfl, rfl, rfl, Nat.le_refl _, fun _ _ => rfl⟩, rfl⟩
/-- Two rows of n words, alike. -/
def AlikeAt (W : World) (a b : Option Addr) (n : Nat) (l : Nat → Int) : Prop :=
  0 < n → ∃ g h, a = some ⟨g, 0, none⟩ ∧ b = some ⟨h, 0, none⟩ ∧ g < W.heap.size ∧ h < W.heap.size ∧ ∀ j, j < n → W.cell? ⟨g, j, none⟩ = some (.int .u64 (l j)) ∧ W.cell? ⟨h, j, none⟩ = some (.int .u64 (l j))
set_option maxRecDepth 100000 in
theorem same12 (a b : Option Addr) (n ca cb : Nat) (hn : n ≤ 2097152) (l : Nat → Int) (W : World) (h : AlikeAt W a b n l) :
    Calls Tryz.prog 20 #[.slice a n ca, .slice b n cb] W (Gives (.bool true) W) := by
  have HA := Lib.hid h
  clear h
  go_enter Tryz.func20, Tryz.ntmps20
  go_wp2_with fail
  go_loopw [5] (fun i wr => ∃ k : Nat, k ≤ n ∧ i = .int .i64 k ∧ Hid (Below W.heap.size W wr)) (fun i _ => n - (intOf i).toNat)
  case atStart => exact ⟨0, Nat.zero_le _, rfl, Lib.hid (Below.refl _ _)⟩
  case round =>
    obtain ⟨k, hk, rfl, HB⟩ := hrel
    by_cases hlt : k < n
    · obtain ⟨g, h, rfl, rfl, hg, hh, hc⟩ := HA.out (by omega)
      obtain ⟨x, y⟩ := hc k hlt
      have x' : wr.cell? ⟨g, k, none⟩ = some (.int .u64 (l k)) := (HB.out.cell (p := ⟨g, k, none⟩) hg).trans x
      have y' : wr.cell? ⟨h, k, none⟩ = some (.int .u64 (l k)) := (HB.out.cell (p := ⟨h, k, none⟩) hh).trans y
      have e1 : decide ((k : Int) < (n : Int)) = true := by simp; omega
      have e2 : (0 : Int) ≤ (k : Int) := by omega
      have e3 : (k : Int) < (n : Int) := by omega
      clear hc x y
      generalize l k = v at *
      go_wp2_with fail
      go_quiet (fail)
      go_wp2_with fail
      go_roundw
      case rel => exact ⟨k + 1, by omega, by go_num, Lib.hid (HB.out.trans ⟨rfl, rfl, rfl, Nat.le_refl _, fun _ _ => rfl⟩)⟩
      case measure => simp [intOf]; omega
    · obtain rfl : k = n := by omega
      have e1 : decide ((k : Int) < (k : Int)) = false := by simp
      go_wp2_with fail
      go_ret
      exact ⟨rfl, HB.out⟩
end Go.Proofs.YtibelcmdfkgonaaGreat

namespace Go.Proofs.YtibelcmdfkgonaaGreat
open Go.RowKit Go.BigFrame
set_option linter.unusedVariables false
set_option linter.unusedSimpArgs false
theorem load45_no (d : Nat) (a : Option Addr) (n cap : Nat) (hn : n ≤ 262144) (at_ : Int) (q1 : at_ ≤ 9223372036854775807) (w : World) (h : w.cell? ⟨d, 1, none⟩ = some (.slice a n cap)) (he : wordE n at_ = 5) :
    Calls Tryz.prog 156 #[.pointer (some ⟨d, 0, none⟩), .int .i64 at_] w (Says (.tuple #[.int .u64 0, .int .i64 5]) w) := by
  have HW := Lib.hid (word59 d a n cap hn at_ q1 w h)
  rw [he] at HW
  clear he
  go_enter Tryz.func156, Tryz.ntmps156
  go_wp2_with fail
  refine HW.out.mono ?_
  rintro e w' ⟨rfl, hw⟩
  cases hw
  go_wp2_with fail
  go_ret2
  exact ⟨rfl, rfl⟩
theorem load45_yes (d s : Nat) (n cap : Nat) (hn : n ≤ 262144) (k : Nat) (hk : k / 8 < n) (v : Int) (w : World) (h : w.cell? ⟨d, 1, none⟩ = some (.slice (some ⟨s, 0, none⟩) n cap)) (hv : w.cell? ⟨s, k, none⟩ = some (.int .u64 v)) :
    Calls Tryz.prog 156 #[.pointer (some ⟨d, 0, none⟩), .int .i64 k] w (Says (.tuple #[.int .u64 v, .int .i64 0]) w) := by
  have HW := Lib.hid (word59 d (some ⟨s, 0, none⟩) n cap hn k (by omega) w h)
  rw [show wordE n (k : Int) = 0 by rw [wordE, if_neg (by omega)]] at HW
  have e1 : (k : Int).tdiv 8 = ((k / 8 : Nat) : Int) := by rw [Int.tdiv_eq_ediv_of_nonneg (by omega)]; omega
  have e2 : (k : Int).tmod 8 = ((k % 8 : Nat) : Int) := by rw [Int.tmod_eq_emod_of_nonneg (by omega)]; omega
  have e3 : (k : Int) / 8 = ((k / 8 : Nat) : Int) := by omega
  have e4 : (k : Int) % 8 = ((k % 8 : Nat) : Int) := by omega
  obtain ⟨i, hi⟩ : ∃ i, i = k / 8 := ⟨_, rfl⟩
  obtain ⟨r, hr⟩ : ∃ r, r = k % 8 := ⟨_, rfl⟩
  have hv' : w.cell? ⟨s, i * 8 + r, none⟩ = some (.int .u64 v) := by rw [show i * 8 + r = k by omega]; exact hv
  rw [← hi] at e1 e3 hk
  rw [← hr] at e2 e4
  have f1 : (0 : Int) ≤ (i : Int) := by omega
  have f2 : (i : Int) < (n : Int) := by omega
  have f3 : (0 : Int) ≤ (r : Int) := by omega
  have f4 : (r : Int) < 8 := by omega
  have f5 : r < 8 := by omega
  clear hi hr hv
  go_enter Tryz.func156, Tryz.ntmps156
  go_wp2_with fail
  refine HW.out.mono ?_
  rintro e w' ⟨rfl, hw⟩
  cases hw
  go_wp2_with fail
  go_ret2
  exact ⟨rfl, rfl⟩
end Go.Proofs.YtibelcmdfkgonaaGreat

namespace Go.Proofs.YtibelcmdfkgonaaGreat
open Go.RowKit Go.BigFrame
set_option linter.unusedVariables false
set_option linter.unusedSimpArgs false
theorem store85_yes (d s : Nat) (n cap : Nat) (hn : n ≤ 262144) (k : Nat) (hk : k / 8 < n) (v u : Int) (w : World) (h : w.cell? ⟨d, 1, none⟩ = some (.slice (some ⟨s, 0, none⟩) n cap)) (hv : w.cell? ⟨s, k, none⟩ = some (.int .u64 u)) (hf : ∀ j, w.frozen? ⟨s, j, none⟩ = false) :
    Calls Tryz.prog 289 #[.pointer (some ⟨d, 0, none⟩), .int .i64 k, .int .u64 v] w fun e w' => e = .returned (.int .i64 0) ∧ w' = w.setCell ⟨s, k, none⟩ (.int .u64 v) := by
  have HW := Lib.hid (word59 d (some ⟨s, 0, none⟩) n cap hn k (by omega) w h)
  rw [show wordE n (k : Int) = 0 by rw [wordE, if_neg (by omega)]] at HW
  have e1 : (k : Int).tdiv 8 = ((k / 8 : Nat) : Int) := by rw [Int.tdiv_eq_ediv_of_nonneg (by omega)]; omega
  have e2 : (k : Int).tmod 8 = ((k % 8 : Nat) : Int) := by rw [Int.tmod_eq_emod_of_nonneg (by omega)]; omega
  have e3 : (k : Int) / 8 = ((k / 8 : Nat) : Int) := by omega
  have e4 : (k : Int) % 8 = ((k % 8 : Nat) : Int) := by omega
  obtain ⟨i, hi⟩ : ∃ i, i = k / 8 := ⟨_, rfl⟩
  obtain ⟨r, hr⟩ : ∃ r, r = k % 8 := ⟨_, rfl⟩
  have hir : i * 8 + r = k := by omega
  have hv' : w.cell? ⟨s, i * 8 + r, none⟩ = some (.int .u64 u) := by rw [hir]; exact hv
  have HIR := Lib.hid hir
  rw [← hi] at e1 e3 hk
  rw [← hr] at e2 e4
  have f1 : (0 : Int) ≤ (i : Int) := by omega
  have f2 : (i : Int) < (n : Int) := by omega
  have f3 : (0 : Int) ≤ (r : Int) := by omega
  have f4 : (r : Int) < 8 := by omega
  have f5 : r < 8 := by omega
  clear hi hr hv hir
  rw [← HIR.out]
  rw [HIR.out]
  go_enter Tryz.func289, Tryz.ntmps289
  go_wp2_with fail
  refine HW.out.mono ?_
  rintro e w' ⟨rfl, hw⟩
  cases hw
  go_wp2_with fail
  go_ret
  exact ⟨rfl, by rw [HIR.out]⟩
end Go.Proofs.YtibelcmdfkgonaaGreat

namespace Go.Proofs.YtibelcmdfkgonaaGreat
open Go.RowKit Go.BigFrame
set_option linter.unusedVariables false
set_option linter.unusedSimpArgs false
/-- What a memory's words are: n lines that are seen, np passing words. -/
structure WordsAt (W : World) (m d s n cap : Nat) (pa : Option Addr) (np pc : Nat) (seen pass : Nat → Int) : Prop where
  dv : W.cell? ⟨m, 0, none⟩ = some (.pointer (some ⟨d, 0, none⟩))
  ps : W.cell? ⟨m, 1, none⟩ = some (.slice pa np pc)
  sn : W.cell? ⟨d, 1, none⟩ = some (.slice (some ⟨s, 0, none⟩) n cap)
  sw : ∀ k, k / 8 < n → W.cell? ⟨s, k, none⟩ = some (.int .u64 (seen k))
  pw : 0 < np → ∃ g, pa = some ⟨g, 0, none⟩ ∧ ∀ k, k < np → W.cell? ⟨g, k, none⟩ = some (.int .u64 (pass k))
/-- What is at a word, and whether there is one. -/
def peekV (n np : Nat) (seen pass : Nat → Int) (at_ : Int) : Int × Bool :=
  if 0 ≤ at_ then (if at_ / 8 < (n : Int) then (seen at_.toNat, true) else (0, false))
  else if -1 - at_ < (np : Int) then (pass (-1 - at_).toNat, true) else (0, false)
theorem cell_same {w w' : World} (h : w'.heap = w.heap) (a : Addr) : w'.cell? a = w.cell? a := by unfold World.cell?; rw [h]
set_option maxRecDepth 100000 in
theorem peek29 (m d s n cap : Nat) (hn : n ≤ 262144) (pa : Option Addr) (np pc : Nat) (hnp : np ≤ 262144) (seen pass : Nat → Int) (at_ : Int) (q0 : -9223372036854775808 ≤ at_) (q1 : at_ ≤ 9223372036854775807) (w : World) (h : WordsAt w m d s n cap pa np pc seen pass) :
    Calls Tryz.prog 94 #[.pointer (some ⟨m, 0, none⟩), .int .i64 at_] w (Tells (.tuple #[.int .u64 (peekV n np seen pass at_).1, .bool (peekV n np seen pass at_).2]) w) := by
  have x0 := h.dv
  have x1 := h.ps
  have HH := Lib.hid h
  clear h
  by_cases h0 : 0 ≤ at_
  · have d0 : decide (0 ≤ at_) = true := bool_yes h0
    by_cases h1 : at_ / 8 < (n : Int)
    · have HL := Lib.hid (load45_yes d s n cap hn at_.toNat (by omega) (seen at_.toNat) w HH.out.sn (HH.out.sw _ (by omega)))
      rw [show ((at_.toNat : Nat) : Int) = at_ by omega] at HL
      rw [show peekV n np seen pass at_ = (seen at_.toNat, true) by rw [peekV, if_pos h0, if_pos h1]]
      generalize seen at_.toNat = v at *
      go_enter Tryz.func94, Tryz.ntmps94
      go_wp2_with fail
      refine HL.out.mono ?_
      rintro e w' ⟨rfl, hw⟩
      cases hw
      go_wp2_with fail
      go_ret2
      exact ⟨rfl, Below.refl _ _, rfl⟩
    · have HL := Lib.hid (load45_no d (some ⟨s, 0, none⟩) n cap hn at_ q1 w HH.out.sn (by rw [wordE, if_pos (by omega)]))
      rw [show peekV n np seen pass at_ = (0, false) by rw [peekV, if_pos h0, if_neg h1]]
      go_enter Tryz.func94, Tryz.ntmps94
      go_wp2_with fail
      refine HL.out.mono ?_
      rintro e w' ⟨rfl, hw⟩
      cases hw
      go_wp2_with fail
      go_ret2
      exact ⟨rfl, Below.refl _ _, rfl⟩
  · have d0 : decide (0 ≤ at_) = false := bool_no h0
    have HP := Lib.hid (pass46 m pa np pc hnp at_ q0 q1 w x1)
    by_cases h1 : -1 - at_ < (np : Int)
    · rw [show decide (at_ < 0 ∧ -1 - at_ < (np : Int)) = true from bool_yes ⟨by omega, h1⟩] at HP
      obtain ⟨g, hg, hc⟩ := HH.out.pw (by omega)
      have hc1 := hc (-1 - at_).toNat (by omega)
      rw [show peekV n np seen pass at_ = (pass (-1 - at_).toNat, true) by rw [peekV, if_neg h0, if_pos h1]]
      generalize pass (-1 - at_).toNat = v at *
      subst hg
      obtain ⟨k, hk⟩ := Int.eq_ofNat_of_zero_le (show 0 ≤ -1 - at_ by omega)
      rw [hk] at HP hc1
      have hc2 : w.cell? ⟨g, k, none⟩ = some (.int .u64 v) := hc1
      have f1 : (0 : Int) ≤ (k : Int) := by omega
      have f2 : (k : Int) < (np : Int) := by omega
      clear hc hc1 hk
      go_enter Tryz.func94, Tryz.ntmps94
      go_wp2_with fail
      refine HP.out.mono ?_
      rintro e w1 ⟨rfl, hb, hh⟩
      have c1 : w1.cell? ⟨m, 1, none⟩ = some (.slice (some ⟨g, 0, none⟩) np pc) := (cell_same hh _).trans x1
      have c2 : w1.cell? ⟨g, k, none⟩ = some (.int .u64 v) := (cell_same hh _).trans hc2
      have HB := Lib.hid hb
      have HHH := Lib.hid hh
      clear hb hh
      go_wp2_with fail
      go_ret2
      exact ⟨rfl, HB.out, HHH.out⟩
    · rw [show decide (at_ < 0 ∧ -1 - at_ < (np : Int)) = false from bool_no (by omega)] at HP
      rw [show peekV n np seen pass at_ = (0, false) by rw [peekV, if_neg h0, if_neg h1]]
      go_enter Tryz.func94, Tryz.ntmps94
      go_wp2_with fail
      refine HP.out.mono ?_
      rintro e w1 ⟨rfl, hb, hh⟩
      have HB := Lib.hid hb
      have HHH := Lib.hid hh
      clear hb hh
      go_wp2_with fail
      go_ret2
      exact ⟨rfl, HB.out, HHH.out⟩
end Go.Proofs.YtibelcmdfkgonaaGreat

namespace Go.Proofs.YtibelcmdfkgonaaGreat
open Go.RowKit Go.BigFrame
set_option linter.unusedVariables false
set_option linter.unusedSimpArgs false
/-- A cell is put, but for draws. -/
def Puts (b j : Nat) (v : Int) (w : World) (e : Ending) (w' : World) : Prop := (∃ x, e = .returned x) ∧ ∃ w1, w1.heap = w.heap ∧ Below w.heap.size w w1 ∧ w' = w1.setCell ⟨b, j, none⟩ (.int .u64 v)
set_option maxRecDepth 100000 in
theorem put72_seen (m d s n cap : Nat) (hn : n ≤ 262144) (pa : Option Addr) (np pc : Nat) (seen pass : Nat → Int) (k : Nat) (hk : k / 8 < n) (v : Int) (w : World) (h : WordsAt w m d s n cap pa np pc seen pass) (hf : ∀ j, w.frozen? ⟨s, j, none⟩ = false) :
    Calls Tryz.prog 221 #[.pointer (some ⟨m, 0, none⟩), .int .i64 k, .int .u64 v] w (Puts s k v w) := by
  have x0 := h.dv
  have HL := Lib.hid (store85_yes d s n cap hn k hk v (seen k) w h.sn (h.sw k hk) hf)
  have d0 : decide ((0 : Int) ≤ (k : Int)) = true := bool_yes (by omega)
  clear h hf hk
  go_enter Tryz.func221, Tryz.ntmps221
  go_wp2_with fail
  refine HL.out.mono ?_
  rintro e w' ⟨rfl, hw⟩
  have HW := Lib.hid hw
  clear hw
  go_wp2_with fail
  go_end0
  exact ⟨⟨_, rfl⟩, w, rfl, Below.refl _ _, HW.out⟩
set_option maxRecDepth 100000 in
theorem put72_pass (m d s n cap : Nat) (g np pc : Nat) (hnp : np ≤ 262144) (seen pass : Nat → Int) (k : Nat) (hk : k < np) (v : Int) (w : World) (h : WordsAt w m d s n cap (some ⟨g, 0, none⟩) np pc seen pass) (hf : ∀ j, w.frozen? ⟨g, j, none⟩ = false) :
    Calls Tryz.prog 221 #[.pointer (some ⟨m, 0, none⟩), .int .i64 (-1 - (k : Int)), .int .u64 v] w (Puts g k v w) := by
  have x1 := h.ps
  have HP := Lib.hid (pass46 m (some ⟨g, 0, none⟩) np pc hnp (-1 - (k : Int)) (by omega) (by omega) w x1)
  rw [show decide (-1 - (k : Int) < 0 ∧ -1 - (-1 - (k : Int)) < (np : Int)) = true from bool_yes (by omega), show (-1 - (-1 - (k : Int)) : Int) = k by omega] at HP
  obtain ⟨g', hg, hc⟩ := h.pw (by omega)
  cases hg
  have hc2 := hc k hk
  generalize pass k = u at *
  have f1 : (0 : Int) ≤ (k : Int) := by omega
  have f2 : (k : Int) < (np : Int) := by omega
  have d0 : decide ((0 : Int) ≤ -1 - (k : Int)) = false := bool_no (by omega)
  have HF := Lib.hid hf
  clear h hc hf
  generalize (-1 - (k : Int)) = at_ at *
  go_enter Tryz.func221, Tryz.ntmps221
  go_wp2_with fail
  refine HP.out.mono ?_
  rintro e w1 ⟨rfl, hb, hh⟩
  have c1 : w1.cell? ⟨m, 1, none⟩ = some (.slice (some ⟨g, 0, none⟩) np pc) := (cell_same hh _).trans x1
  have c2 : w1.cell? ⟨g, k, none⟩ = some (.int .u64 u) := (cell_same hh _).trans hc2
  have c3 : w1.frozen? ⟨g, k, none⟩ = false := by have := HF.out k; unfold World.frozen? at this ⊢; rw [hh]; exact this
  have HB := Lib.hid hb
  have HHH := Lib.hid hh
  clear hb hh
  go_wp2_with fail
  go_end0
  exact ⟨⟨_, rfl⟩, w1, HHH.out, HB.out, rfl⟩
end Go.Proofs.YtibelcmdfkgonaaGreat

namespace Go.Proofs.YtibelcmdfkgonaaGreat
open Go.RowKit Go.BigFrame
set_option linter.unusedVariables false
set_option linter.unusedSimpArgs false
theorem loads53 (x : Int) (w : World) : Calls Tryz.prog 139 #[.int .u64 x] w (Tells (.tuple #[.int .u64 0, .bool false]) w) := by
  go_enter Tryz.func139, Tryz.ntmps139
  go_wp2_with fail
  go_ret2
  exact ⟨rfl, Below.refl _ _, rfl⟩
theorem stores54 (x v : Int) (b : Nat) (w : World) (h : w.cell? ⟨b, 0, none⟩ = some (.int .u64 v)) : Calls Tryz.prog 128 #[.int .u64 x, .pointer (some ⟨b, 0, none⟩)] w (Tells (.tuple #[.int .u64 v, .bool true]) w) := by
  go_enter Tryz.func128, Tryz.ntmps128
  go_wp2_with fail
  go_ret2
  exact ⟨rfl, Below.refl _ _, rfl⟩
theorem swaps55 (x v o : Int) (b c : Nat) (w : World) (h : w.cell? ⟨b, 0, none⟩ = some (.int .u64 v)) (k : w.cell? ⟨c, 0, none⟩ = some (.int .u64 o)) :
    Calls Tryz.prog 212 #[.int .u64 x, .pointer (some ⟨b, 0, none⟩), .pointer (some ⟨c, 0, none⟩)] w (Tells (.tuple #[.int .u64 v, .bool (x == o)]) w) := by
  go_enter Tryz.func212, Tryz.ntmps212
  go_wp2_with fail
  go_quiet (fail)
  go_wp2_with fail
  go_ret2
  exact ⟨rfl, ⟨rfl, rfl, rfl, Nat.le_refl _, fun _ _ => rfl⟩, rfl⟩
end Go.Proofs.YtibelcmdfkgonaaGreat

namespace Go.Proofs.YtibelcmdfkgonaaGreat
open Go.RowKit Go.BigFrame
set_option linter.unusedVariables false
set_option linter.unusedSimpArgs false
theorem take77 (f t : Nat) (a : Option Addr) (n cap : Nat) (w : World) (h : w.cell? ⟨f, t, none⟩ = some (.slice a n cap)) (hf : w.frozen? ⟨f, t, none⟩ = false) :
    Calls Tryz.prog 233 #[.pointer (some ⟨f, t, none⟩)] w fun e w' => e = .returned (.slice a n cap) ∧ w' = w.setCell ⟨f, t, none⟩ (.slice none 0 0) := by
  go_enter Tryz.func233, Tryz.ntmps233
  go_wp2_with fail
  go_ret
  exact ⟨rfl, rfl⟩
end Go.Proofs.YtibelcmdfkgonaaGreat
