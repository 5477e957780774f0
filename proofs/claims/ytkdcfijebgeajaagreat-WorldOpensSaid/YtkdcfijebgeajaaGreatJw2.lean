/- Layers 5, 9: configs: which ones may be (the ways printed by g2.py).
   Layers 4, 7: a memory's block; an access is noted.
   Layers 3, 7: an access to a line is noted; passing words; whole parts.
   Layers 3, 7: passing words; rows of words that are alike.
   Layer 4: a line is written back.
   A memory as a whole: what lies in it, and what of the heap it owns.
   Small words for the walks: a region that reads and then does one thing; rows of cells. No program here.
   Layer 6 (layout): where everything lies.
   Layer 7: an access to a word. -/
import Derived.Test.YtkdcfijebgeajaaGreatJw1
import Derived.Laws.Pointers
import Derived.BigQuiet
import Derived.RegionTactic
import Derived.BigRegion
import Derived.ChangeAlike
import Derived.Deep.RegionWith
import Derived.Deep.Cut
import Derived.Deep.CutRange
import Derived.Deep.RegionHeld3
import Derived.Deep.QuietTactic
namespace Go.Proofs.YtkdcfijebgeajaaGreat
open Go.RowKit Go.BigFrame
set_option linter.unusedVariables false
set_option linter.unusedSimpArgs false
structure Cfg where
  th : Int
  sl : Int
  lo : Int
  bu : Int
def Cfg.cells (c : Cfg) : Array Value := #[.int .i64 c.th, .int .i64 c.sl, .int .i64 c.lo, .int .i64 c.bu]
def Cfg.right (c : Cfg) : Prop := 1 ≤ c.th ∧ c.th ≤ 64 ∧ 1 ≤ c.sl ∧ c.sl ≤ 65536 ∧ 1 ≤ c.lo ∧ c.lo ≤ 64 ∧ 1 ≤ c.bu ∧ c.bu ≤ 64
instance (c : Cfg) : Decidable c.right := by unfold Cfg.right; infer_instance
def Cfg.few (c : Cfg) : Prop := c.right ∧ c.th ≤ 6 ∧ c.sl ≤ 30 ∧ c.lo ≤ 8 ∧ c.bu ≤ 8
instance (c : Cfg) : Decidable c.few := by unfold Cfg.few; infer_instance
def BoolOn (r : Bool) (w : World) (e : Ending) (w' : World) : Prop := e = .returned (.bool r) ∧ Below w.heap.size w w'
theorem from153 (n m : Int) (w : World) : Calls Tryz.prog 150 #[.int .i64 n, .int .i64 m] w fun e w' => e = .returned (.bool (decide (1 ≤ n ∧ n ≤ m))) ∧ w' = w := by
  by_cases h : 1 ≤ n
  · have d1 : decide (1 ≤ n) = true := bool_yes h
    have e : decide (1 ≤ n ∧ n ≤ m) = decide (n ≤ m) := by simp [h]
    rw [e]
    go_enter Tryz.func150, Tryz.ntmps150
    go_wp2
    all_goals
      go_ret
      exact ⟨by simp_all, rfl⟩
  · have d1 : decide (1 ≤ n) = false := bool_no h
    have e : decide (1 ≤ n ∧ n ≤ m) = false := bool_no (fun k => h k.1)
    rw [e]
    go_enter Tryz.func150, Tryz.ntmps150
    go_wp2
    go_ret
    exact ⟨rfl, rfl⟩
theorem refRight_any (c : Cfg) (w : World) : Calls Tryz.prog 24 #[.agg c.cells] w (BoolOn (decide c.right) w) := by
  obtain ⟨th, sl, lo, bu⟩ := c
  obtain ⟨r, hr⟩ : ∃ r, r = decide (Cfg.right ⟨th, sl, lo, bu⟩) := ⟨_, rfl⟩
  rw [← hr]
  have HR : Hid (r = decide (1 ≤ th ∧ th ≤ 64 ∧ 1 ≤ sl ∧ sl ≤ 65536 ∧ 1 ≤ lo ∧ lo ≤ 64 ∧ 1 ≤ bu ∧ bu ≤ 64)) := Lib.hid hr
  clear hr
  simp only [Cfg.cells]
  by_cases h0 : 1 ≤ th
  rotate_left
  · have d0 : decide (1 ≤ th) = false := bool_no h0
    have HV : Hid (r = false) := Lib.hid (by rw [HR.out]; exact bool_no (by omega))
    clear HR
    go_enter Tryz.func24, Tryz.ntmps24
    go_wp2_with fail
    go_ret
    exact ⟨by rw [HV.out]; rfl, (Below.refl _ _).alloc (Nat.le_refl _) _⟩
  have d0 : decide (1 ≤ th) = true := bool_yes h0
  by_cases h1 : th ≤ 64
  rotate_left
  · have d1 : decide (th ≤ 64) = false := bool_no h1
    have HV : Hid (r = false) := Lib.hid (by rw [HR.out]; exact bool_no (by omega))
    clear HR
    go_enter Tryz.func24, Tryz.ntmps24
    go_wp2_with fail
    go_ret
    exact ⟨by rw [HV.out]; rfl, (Below.refl _ _).alloc (Nat.le_refl _) _⟩
  have d1 : decide (th ≤ 64) = true := bool_yes h1
  by_cases h2 : 1 ≤ sl
  rotate_left
  · have d2 : decide (1 ≤ sl) = false := bool_no h2
    have HV : Hid (r = false) := Lib.hid (by rw [HR.out]; exact bool_no (by omega))
    clear HR
    go_enter Tryz.func24, Tryz.ntmps24
    go_wp2_with fail
    go_ret
    exact ⟨by rw [HV.out]; rfl, (Below.refl _ _).alloc (Nat.le_refl _) _⟩
  have d2 : decide (1 ≤ sl) = true := bool_yes h2
  by_cases h3 : sl ≤ 65536
  rotate_left
  · have d3 : decide (sl ≤ 65536) = false := bool_no h3
    have HV : Hid (r = false) := Lib.hid (by rw [HR.out]; exact bool_no (by omega))
    clear HR
    go_enter Tryz.func24, Tryz.ntmps24
    go_wp2_with fail
    go_ret
    exact ⟨by rw [HV.out]; rfl, (Below.refl _ _).alloc (Nat.le_refl _) _⟩
  have d3 : decide (sl ≤ 65536) = true := bool_yes h3
  by_cases h4 : 1 ≤ lo
  rotate_left
  · have d4 : decide (1 ≤ lo) = false := bool_no h4
    have HV : Hid (r = false) := Lib.hid (by rw [HR.out]; exact bool_no (by omega))
    clear HR
    go_enter Tryz.func24, Tryz.ntmps24
    go_wp2_with fail
    go_ret
    exact ⟨by rw [HV.out]; rfl, (Below.refl _ _).alloc (Nat.le_refl _) _⟩
  have d4 : decide (1 ≤ lo) = true := bool_yes h4
  by_cases h5 : lo ≤ 64
  rotate_left
  · have d5 : decide (lo ≤ 64) = false := bool_no h5
    have HV : Hid (r = false) := Lib.hid (by rw [HR.out]; exact bool_no (by omega))
    clear HR
    go_enter Tryz.func24, Tryz.ntmps24
    go_wp2_with fail
    go_ret
    exact ⟨by rw [HV.out]; rfl, (Below.refl _ _).alloc (Nat.le_refl _) _⟩
  have d5 : decide (lo ≤ 64) = true := bool_yes h5
  by_cases h6 : 1 ≤ bu
  rotate_left
  · have d6 : decide (1 ≤ bu) = false := bool_no h6
    have HV : Hid (r = false) := Lib.hid (by rw [HR.out]; exact bool_no (by omega))
    clear HR
    go_enter Tryz.func24, Tryz.ntmps24
    go_wp2_with fail
    go_ret
    exact ⟨by rw [HV.out]; rfl, (Below.refl _ _).alloc (Nat.le_refl _) _⟩
  have d6 : decide (1 ≤ bu) = true := bool_yes h6
  by_cases h7 : bu ≤ 64
  rotate_left
  · have d7 : decide (bu ≤ 64) = false := bool_no h7
    have HV : Hid (r = false) := Lib.hid (by rw [HR.out]; exact bool_no (by omega))
    clear HR
    go_enter Tryz.func24, Tryz.ntmps24
    go_wp2_with fail
    go_ret
    exact ⟨by rw [HV.out]; rfl, (Below.refl _ _).alloc (Nat.le_refl _) _⟩
  have d7 : decide (bu ≤ 64) = true := bool_yes h7
  have HV : Hid (r = true) := Lib.hid (by rw [HR.out]; exact bool_yes (by omega))
  clear HR
  go_enter Tryz.func24, Tryz.ntmps24
  go_wp2_with fail
  go_ret
  exact ⟨by rw [HV.out]; rfl, (Below.refl _ _).alloc (Nat.le_refl _) _⟩
theorem right_any (c : Cfg) (w : World) : Calls Tryz.prog 85 #[.agg c.cells] w (BoolOn (decide c.right) w) := by
  obtain ⟨th, sl, lo, bu⟩ := c
  obtain ⟨r, hr⟩ : ∃ r, r = decide (Cfg.right ⟨th, sl, lo, bu⟩) := ⟨_, rfl⟩
  rw [← hr]
  have HR : Hid (r = decide (1 ≤ th ∧ th ≤ 64 ∧ 1 ≤ sl ∧ sl ≤ 65536 ∧ 1 ≤ lo ∧ lo ≤ 64 ∧ 1 ≤ bu ∧ bu ≤ 64)) := Lib.hid hr
  clear hr
  simp only [Cfg.cells]
  by_cases h0 : 1 ≤ th ∧ th ≤ 64
  rotate_left
  · have HF0 : Hid (∀ w, Calls Tryz.prog 150 #[.int .i64 th, .int .i64 64] w fun e w' => e = .returned (.bool false) ∧ w' = w) := Lib.hid fun w => by rw [← bool_no h0]; exact from153 _ _ w
    have HV : Hid (r = false) := Lib.hid (by rw [HR.out]; exact bool_no (by omega))
    clear HR
    go_enter Tryz.func85, Tryz.ntmps85
    go_wp2_with (go_at_call 150; (with_reducible first | refine (HF0.out _).mono ?_); rintro e w' ⟨rfl, rfl⟩)
    go_ret
    exact ⟨by rw [HV.out]; rfl, (Below.refl _ _).alloc (Nat.le_refl _) _⟩
  have HF0 : Hid (∀ w, Calls Tryz.prog 150 #[.int .i64 th, .int .i64 64] w fun e w' => e = .returned (.bool true) ∧ w' = w) := Lib.hid fun w => by rw [← bool_yes h0]; exact from153 _ _ w
  by_cases h1 : 1 ≤ sl ∧ sl ≤ 65536
  rotate_left
  · have HF1 : Hid (∀ w, Calls Tryz.prog 150 #[.int .i64 sl, .int .i64 65536] w fun e w' => e = .returned (.bool false) ∧ w' = w) := Lib.hid fun w => by rw [← bool_no h1]; exact from153 _ _ w
    have HV : Hid (r = false) := Lib.hid (by rw [HR.out]; exact bool_no (by omega))
    clear HR
    go_enter Tryz.func85, Tryz.ntmps85
    go_wp2_with (go_at_call 150; (with_reducible first | refine (HF0.out _).mono ?_ | refine (HF1.out _).mono ?_); rintro e w' ⟨rfl, rfl⟩)
    go_ret
    exact ⟨by rw [HV.out]; rfl, (Below.refl _ _).alloc (Nat.le_refl _) _⟩
  have HF1 : Hid (∀ w, Calls Tryz.prog 150 #[.int .i64 sl, .int .i64 65536] w fun e w' => e = .returned (.bool true) ∧ w' = w) := Lib.hid fun w => by rw [← bool_yes h1]; exact from153 _ _ w
  by_cases h2 : 1 ≤ lo ∧ lo ≤ 64
  rotate_left
  · have HF2 : Hid (∀ w, Calls Tryz.prog 150 #[.int .i64 lo, .int .i64 64] w fun e w' => e = .returned (.bool false) ∧ w' = w) := Lib.hid fun w => by rw [← bool_no h2]; exact from153 _ _ w
    have HV : Hid (r = false) := Lib.hid (by rw [HR.out]; exact bool_no (by omega))
    clear HR
    go_enter Tryz.func85, Tryz.ntmps85
    go_wp2_with (go_at_call 150; (with_reducible first | refine (HF0.out _).mono ?_ | refine (HF1.out _).mono ?_ | refine (HF2.out _).mono ?_); rintro e w' ⟨rfl, rfl⟩)
    go_ret
    exact ⟨by rw [HV.out]; rfl, (Below.refl _ _).alloc (Nat.le_refl _) _⟩
  have HF2 : Hid (∀ w, Calls Tryz.prog 150 #[.int .i64 lo, .int .i64 64] w fun e w' => e = .returned (.bool true) ∧ w' = w) := Lib.hid fun w => by rw [← bool_yes h2]; exact from153 _ _ w
  by_cases h3 : 1 ≤ bu ∧ bu ≤ 64
  rotate_left
  · have HF3 : Hid (∀ w, Calls Tryz.prog 150 #[.int .i64 bu, .int .i64 64] w fun e w' => e = .returned (.bool false) ∧ w' = w) := Lib.hid fun w => by rw [← bool_no h3]; exact from153 _ _ w
    have HV : Hid (r = false) := Lib.hid (by rw [HR.out]; exact bool_no (by omega))
    clear HR
    go_enter Tryz.func85, Tryz.ntmps85
    go_wp2_with (go_at_call 150; (with_reducible first | refine (HF0.out _).mono ?_ | refine (HF1.out _).mono ?_ | refine (HF2.out _).mono ?_ | refine (HF3.out _).mono ?_); rintro e w' ⟨rfl, rfl⟩)
    go_ret
    exact ⟨by rw [HV.out]; rfl, (Below.refl _ _).alloc (Nat.le_refl _) _⟩
  have HF3 : Hid (∀ w, Calls Tryz.prog 150 #[.int .i64 bu, .int .i64 64] w fun e w' => e = .returned (.bool true) ∧ w' = w) := Lib.hid fun w => by rw [← bool_yes h3]; exact from153 _ _ w
  have HV : Hid (r = true) := Lib.hid (by rw [HR.out]; exact bool_yes (by omega))
  clear HR
  go_enter Tryz.func85, Tryz.ntmps85
  go_wp2_with (go_at_call 150; (with_reducible first | refine (HF0.out _).mono ?_ | refine (HF1.out _).mono ?_ | refine (HF2.out _).mono ?_ | refine (HF3.out _).mono ?_); rintro e w' ⟨rfl, rfl⟩)
  go_ret
  exact ⟨by rw [HV.out]; rfl, (Below.refl _ _).alloc (Nat.le_refl _) _⟩
theorem few57 (c : Cfg) (w : World) : Calls Tryz.prog 8 #[.agg c.cells] w (BoolOn (decide c.few) w) := by
  have HRT := Lib.hid fun w => refRight_any c w
  have HFF : Hid (c.few ↔ c.right ∧ c.th ≤ 6 ∧ c.sl ≤ 30 ∧ c.lo ≤ 8 ∧ c.bu ≤ 8) := Lib.hid Iff.rfl
  obtain ⟨R, hR⟩ : ∃ R, R = decide c.right := ⟨_, rfl⟩
  rw [← hR] at HRT
  obtain ⟨r, hr⟩ : ∃ r, r = decide c.few := ⟨_, rfl⟩
  rw [← hr]
  have HR : Hid (r = decide (R = true ∧ c.th ≤ 6 ∧ c.sl ≤ 30 ∧ c.lo ≤ 8 ∧ c.bu ≤ 8)) := Lib.hid (by rw [hr, hR]; apply decide_eq_decide.2; rw [HFF.out]; simp)
  clear hr hR HFF
  obtain ⟨th, sl, lo, bu⟩ := c
  simp only [Cfg.cells] at *
  cases R
  · have HV0 := HR
    have HV : Hid (r = false) := Lib.hid (by rw [HR.out]; exact bool_no (fun h => by cases h.1))
    clear HR
    go_enter Tryz.func8, Tryz.ntmps8
    go_wp2_with (go_at_call 24; (with_reducible refine (HRT.out _).mono ?_); rintro e w' ⟨rfl, hb⟩; have l0 := hb.cell (p := ⟨w.heap.size, 0, none⟩) (by simp); have l1 := hb.cell (p := ⟨w.heap.size, 1, none⟩) (by simp); have l2 := hb.cell (p := ⟨w.heap.size, 2, none⟩) (by simp); have l3 := hb.cell (p := ⟨w.heap.size, 3, none⟩) (by simp); have HB : Hid (Below w.heap.size w w') := Lib.hid (((Below.refl _ _).alloc (Nat.le_refl _) _).trans (hb.mono (by simp))); clear hb)
    go_ret
    exact ⟨by rw [HV.out]; rfl, HB.out⟩
  by_cases h0 : th ≤ 6
  rotate_left
  · have d0 : decide (th ≤ 6) = false := bool_no h0
    have HV : Hid (r = false) := Lib.hid (by rw [HR.out]; exact bool_no (by omega))
    clear HR
    go_enter Tryz.func8, Tryz.ntmps8
    go_wp2_with (go_at_call 24; (with_reducible refine (HRT.out _).mono ?_); rintro e w' ⟨rfl, hb⟩; have l0 := hb.cell (p := ⟨w.heap.size, 0, none⟩) (by simp); have l1 := hb.cell (p := ⟨w.heap.size, 1, none⟩) (by simp); have l2 := hb.cell (p := ⟨w.heap.size, 2, none⟩) (by simp); have l3 := hb.cell (p := ⟨w.heap.size, 3, none⟩) (by simp); have HB : Hid (Below w.heap.size w w') := Lib.hid (((Below.refl _ _).alloc (Nat.le_refl _) _).trans (hb.mono (by simp))); clear hb)
    go_ret
    exact ⟨by rw [HV.out]; rfl, HB.out⟩
  have d0 : decide (th ≤ 6) = true := bool_yes h0
  by_cases h1 : sl ≤ 30
  rotate_left
  · have d1 : decide (sl ≤ 30) = false := bool_no h1
    have HV : Hid (r = false) := Lib.hid (by rw [HR.out]; exact bool_no (by omega))
    clear HR
    go_enter Tryz.func8, Tryz.ntmps8
    go_wp2_with (go_at_call 24; (with_reducible refine (HRT.out _).mono ?_); rintro e w' ⟨rfl, hb⟩; have l0 := hb.cell (p := ⟨w.heap.size, 0, none⟩) (by simp); have l1 := hb.cell (p := ⟨w.heap.size, 1, none⟩) (by simp); have l2 := hb.cell (p := ⟨w.heap.size, 2, none⟩) (by simp); have l3 := hb.cell (p := ⟨w.heap.size, 3, none⟩) (by simp); have HB : Hid (Below w.heap.size w w') := Lib.hid (((Below.refl _ _).alloc (Nat.le_refl _) _).trans (hb.mono (by simp))); clear hb)
    go_ret
    exact ⟨by rw [HV.out]; rfl, HB.out⟩
  have d1 : decide (sl ≤ 30) = true := bool_yes h1
  by_cases h2 : lo ≤ 8
  rotate_left
  · have d2 : decide (lo ≤ 8) = false := bool_no h2
    have HV : Hid (r = false) := Lib.hid (by rw [HR.out]; exact bool_no (by omega))
    clear HR
    go_enter Tryz.func8, Tryz.ntmps8
    go_wp2_with (go_at_call 24; (with_reducible refine (HRT.out _).mono ?_); rintro e w' ⟨rfl, hb⟩; have l0 := hb.cell (p := ⟨w.heap.size, 0, none⟩) (by simp); have l1 := hb.cell (p := ⟨w.heap.size, 1, none⟩) (by simp); have l2 := hb.cell (p := ⟨w.heap.size, 2, none⟩) (by simp); have l3 := hb.cell (p := ⟨w.heap.size, 3, none⟩) (by simp); have HB : Hid (Below w.heap.size w w') := Lib.hid (((Below.refl _ _).alloc (Nat.le_refl _) _).trans (hb.mono (by simp))); clear hb)
    go_ret
    exact ⟨by rw [HV.out]; rfl, HB.out⟩
  have d2 : decide (lo ≤ 8) = true := bool_yes h2
  by_cases h3 : bu ≤ 8
  rotate_left
  · have d3 : decide (bu ≤ 8) = false := bool_no h3
    have HV : Hid (r = false) := Lib.hid (by rw [HR.out]; exact bool_no (by omega))
    clear HR
    go_enter Tryz.func8, Tryz.ntmps8
    go_wp2_with (go_at_call 24; (with_reducible refine (HRT.out _).mono ?_); rintro e w' ⟨rfl, hb⟩; have l0 := hb.cell (p := ⟨w.heap.size, 0, none⟩) (by simp); have l1 := hb.cell (p := ⟨w.heap.size, 1, none⟩) (by simp); have l2 := hb.cell (p := ⟨w.heap.size, 2, none⟩) (by simp); have l3 := hb.cell (p := ⟨w.heap.size, 3, none⟩) (by simp); have HB : Hid (Below w.heap.size w w') := Lib.hid (((Below.refl _ _).alloc (Nat.le_refl _) _).trans (hb.mono (by simp))); clear hb)
    go_ret
    exact ⟨by rw [HV.out]; rfl, HB.out⟩
  have d3 : decide (bu ≤ 8) = true := bool_yes h3
  have HV : Hid (r = true) := Lib.hid (by rw [HR.out]; exact bool_yes ⟨rfl, by omega, by omega, by omega, by omega⟩)
  clear HR
  go_enter Tryz.func8, Tryz.ntmps8
  go_wp2_with (go_at_call 24; (with_reducible refine (HRT.out _).mono ?_); rintro e w' ⟨rfl, hb⟩; have l0 := hb.cell (p := ⟨w.heap.size, 0, none⟩) (by simp); have l1 := hb.cell (p := ⟨w.heap.size, 1, none⟩) (by simp); have l2 := hb.cell (p := ⟨w.heap.size, 2, none⟩) (by simp); have l3 := hb.cell (p := ⟨w.heap.size, 3, none⟩) (by simp); have HB : Hid (Below w.heap.size w w') := Lib.hid (((Below.refl _ _).alloc (Nat.le_refl _) _).trans (hb.mono (by simp))); clear hb)
  go_ret
  exact ⟨by rw [HV.out]; rfl, HB.out⟩
end Go.Proofs.YtkdcfijebgeajaaGreat

namespace Go.Proofs.YtkdcfijebgeajaaGreat
open Go.RowKit Go.BigFrame
set_option linter.unusedVariables false
set_option linter.unusedSimpArgs false
theorem heap_set_other {W : World} {b j g : Nat} {v : Value} (h : g ≠ b) : (W.setCell ⟨b, j, none⟩ v).heap[g]? = W.heap[g]? := Below.heap_setCell W _ v g h
theorem heap_set {w : World} {g j : Nat} {c : Array Value} {t : TypeId} {f : Nat × Nat} (v : Value) (h : w.heap[g]? = some (.cells c t f)) : (w.setCell ⟨g, j, none⟩ v).heap[g]? = some (.cells (c.setIfInBounds j v) t f) := by
  simp [World.setCell, Array.getElem?_modify, h]
theorem cell_of_heap {w w' : World} {b : Nat} (h : w'.heap[b]? = w.heap[b]?) (o : Nat) : w'.cell? ⟨b, o, none⟩ = w.cell? ⟨b, o, none⟩ := World.cell?_of_block (w := w) (a := ⟨b, o, none⟩) h
theorem frozen_of_heap {w w' : World} {b : Nat} (h : w'.heap[b]? = w.heap[b]?) (o : Nat) : w'.frozen? ⟨b, o, none⟩ = w.frozen? ⟨b, o, none⟩ := World.frozen?_of_block (w := w) (a := ⟨b, o, none⟩) h
structure But (p : Nat) (w w' : World) : Prop where
  os : w'.os = w.os
  tape : w'.tape = w.tape
  output : w'.output = w.output
  size : w.heap.size ≤ w'.heap.size
  block : ∀ k, k < w.heap.size → k ≠ p → w'.heap[k]? = w.heap[k]?
theorem But.refl (p : Nat) (w : World) : But p w w := ⟨rfl, rfl, rfl, Nat.le_refl _, fun _ _ _ => rfl⟩
theorem But.trans {p : Nat} {x y z : World} (h : But p x y) (k : But p y z) : But p x z :=
  ⟨k.os.trans h.os, k.tape.trans h.tape, k.output.trans h.output, Nat.le_trans h.size k.size, fun i hi h1 => (k.block i (Nat.lt_of_lt_of_le hi h.size) h1).trans (h.block i hi h1)⟩
theorem But.of_below {p : Nat} {w w' : World} (h : Below w.heap.size w w') : But p w w' := ⟨h.os, h.tape, h.output, h.size, fun k hk _ => h.block k hk⟩
theorem But.alloc {p : Nat} {a w : World} (h : But p a w) (o : Obj) : But p a (w.alloc o) :=
  ⟨h.os, h.tape, h.output, Nat.le_trans h.size (by simp), fun k hk hb => by rw [Below.heap_alloc _ _ _ (Nat.lt_of_lt_of_le hk h.size)]; exact h.block k hk hb⟩
theorem But.set {p : Nat} {a w : World} (h : But p a w) (j : Nat) (v : Value) : But p a (w.setCell ⟨p, j, none⟩ v) :=
  ⟨h.os, h.tape, h.output, by simpa [World.setCell] using h.size, fun k hk hb => by rw [heap_set_other hb]; exact h.block k hk hb⟩
theorem But.below {p B : Nat} {a w w' : World} (h : Below B a w) (k : But p w w') (hb : B ≤ p) (hB : B ≤ w.heap.size) : Below B a w' :=
  ⟨k.os.trans h.os, k.tape.trans h.tape, k.output.trans h.output, Nat.le_trans h.size k.size, fun i hi => (k.block i (by omega) (by omega)).trans (h.block i hi)⟩
structure Acc where
  ki : Int
  th : Int
  pl : Int
  ol : Int
  ne : Int
  dn : Bool
def MemRow (W : World) (m : Nat) (dv pv : Value) (ck bd : Int) (x : Acc) : Prop :=
  W.heap[m]? = some (.cells #[dv, pv, .int .i64 ck, .int .i64 bd, .int .i64 x.ki, .int .i64 x.th, .int .i64 x.pl, .int .u64 x.ol, .int .u64 x.ne, .bool x.dn] 156 (0, 0))
end Go.Proofs.YtkdcfijebgeajaaGreat

namespace Go.Proofs.YtkdcfijebgeajaaGreat
open Go.RowKit Go.BigFrame
set_option linter.unusedVariables false
set_option linter.unusedSimpArgs false
theorem whole49 (n : Nat) (hn : n ≤ 9223372036854775807) (w : World) : Calls Tryz.prog 146 #[.int .i64 n, .int .i64 8] w (Says (.int .i64 (if (n : Int) % 8 ≠ 0 then 3 else if 262144 < (n : Int) / 8 then 2 else 0)) w) := by
  have e1 : (n : Int).tdiv 8 = (n : Int) / 8 := Int.tdiv_eq_ediv_of_nonneg (by omega)
  have e2 : (n : Int).tmod 8 = (n : Int) % 8 := Int.tmod_eq_emod_of_nonneg (by omega)
  by_cases h3 : (n : Int) % 8 = 0
  · have d3 : ((n : Int) % 8 != 0) = false := by simp [h3]
    rw [if_neg (fun h => h h3)]
    by_cases h4 : 262144 < (n : Int) / 8
    · have d4 : decide (262144 < (n : Int) / 8) = true := bool_yes h4
      rw [if_pos h4]
      go_enter Tryz.func146, Tryz.ntmps146
      go_wp2_with fail
      go_ret
      exact ⟨rfl, rfl⟩
    · have d4 : decide (262144 < (n : Int) / 8) = false := bool_no h4
      rw [if_neg h4]
      go_enter Tryz.func146, Tryz.ntmps146
      go_wp2_with fail
      go_ret
      exact ⟨rfl, rfl⟩
  · have d3 : ((n : Int) % 8 != 0) = true := by simp [h3]
    rw [if_pos h3]
    go_enter Tryz.func146, Tryz.ntmps146
    go_wp2_with fail
    go_ret
    exact ⟨rfl, rfl⟩
end Go.Proofs.YtkdcfijebgeajaaGreat

namespace Go.Proofs.YtkdcfijebgeajaaGreat
open Go.RowKit Go.BigFrame
set_option linter.unusedVariables false
set_option linter.unusedSimpArgs false
def Tells (v : Value) (w : World) (e : Ending) (w' : World) : Prop := e = .returned v ∧ Below w.heap.size w w' ∧ w'.heap = w.heap
def AlikeAt (W : World) (a b : Option Addr) (n : Nat) (l : Nat → Int) : Prop :=
  0 < n → ∃ g h, a = some ⟨g, 0, none⟩ ∧ b = some ⟨h, 0, none⟩ ∧ g < W.heap.size ∧ h < W.heap.size ∧ ∀ j, j < n → W.cell? ⟨g, j, none⟩ = some (.int .u64 (l j)) ∧ W.cell? ⟨h, j, none⟩ = some (.int .u64 (l j))
set_option maxRecDepth 100000 in
theorem same12 (a b : Option Addr) (n ca cb : Nat) (hn : n ≤ 2097152) (l : Nat → Int) (W : World) (h : AlikeAt W a b n l) :
    Calls Tryz.prog 29 #[.slice a n ca, .slice b n cb] W (Gives (.bool true) W) := by
  have HA := Lib.hid h
  clear h
  go_enter Tryz.func29, Tryz.ntmps29
  go_wp2_with fail
  go_loopw [5] (fun i wr => ∃ k : Nat, k ≤ n ∧ i = .int .i64 k ∧ Hid (Below W.heap.size W wr)) (fun i _ => n - (intOf i).toNat)
  case atStart => exact ⟨0, Nat.zero_le _, rfl, Lib.hid (Below.refl _ _)⟩
  case round =>
    obtain ⟨k, hk, rfl, HB⟩ := hrel
    by_cases hlt : k < n
    · obtain ⟨g, h, rfl, rfl, hg, hh, hc⟩ := HA.out (by omega)
      obtain ⟨x, y⟩ := hc k hlt
      have x' : wr.cell? ⟨g, k, none⟩ = some (.int .u64 (l k)) := (HB.out.cell (p := ⟨g, k, none⟩) hg).trans x
      have y' : wr.cell? ⟨h, k, none⟩ = some (.int .u64 (l k)) := (HB.out.cell (p := ⟨h, k, none⟩) hh).trans y
      have e1 : decide ((k : Int) < (n : Int)) = true := by simp; omega
      have e2 : (0 : Int) ≤ (k : Int) := by omega
      have e3 : (k : Int) < (n : Int) := by omega
      clear hc x y
      generalize l k = v at *
      go_wp2_with fail
      go_quiet (fail)
      go_wp2_with fail
      go_roundw
      case rel => exact ⟨k + 1, by omega, by go_num, Lib.hid (HB.out.trans ⟨rfl, rfl, rfl, Nat.le_refl _, fun _ _ => rfl⟩)⟩
      case measure => simp [intOf]; omega
    · obtain rfl : k = n := by omega
      have e1 : decide ((k : Int) < (k : Int)) = false := by simp
      go_wp2_with fail
      go_ret
      exact ⟨rfl, HB.out⟩
end Go.Proofs.YtkdcfijebgeajaaGreat

namespace Go.Proofs.YtkdcfijebgeajaaGreat
open Go.RowKit Go.BigFrame
set_option linter.unusedVariables false
set_option linter.unusedSimpArgs false
def Eight (W : World) (b o : Nat) (l : Nat → Int) : Prop := ∀ r, r < 8 → W.cell? ⟨b, o + r, none⟩ = some (.int .u64 (l r))
theorem Eight.cells {W : World} {b o : Nat} {l : Nat → Int} (h : Eight W b o l) : W.cell? ⟨b, o, none⟩ = some (.int .u64 (l 0)) ∧ W.cell? ⟨b, o + 1, none⟩ = some (.int .u64 (l 1)) ∧ W.cell? ⟨b, o + 2, none⟩ = some (.int .u64 (l 2)) ∧ W.cell? ⟨b, o + 3, none⟩ = some (.int .u64 (l 3)) ∧
    W.cell? ⟨b, o + 4, none⟩ = some (.int .u64 (l 4)) ∧ W.cell? ⟨b, o + 5, none⟩ = some (.int .u64 (l 5)) ∧ W.cell? ⟨b, o + 6, none⟩ = some (.int .u64 (l 6)) ∧ W.cell? ⟨b, o + 7, none⟩ = some (.int .u64 (l 7)) :=
  ⟨h 0 (by omega), h 1 (by omega), h 2 (by omega), h 3 (by omega), h 4 (by omega), h 5 (by omega), h 6 (by omega), h 7 (by omega)⟩
end Go.Proofs.YtkdcfijebgeajaaGreat

namespace Go.Proofs.YtkdcfijebgeajaaGreat
open Go.RowKit Go.BigFrame
set_option linter.unusedVariables false
set_option linter.unusedSimpArgs false
theorem enters_at {P : Program} {f : FuncId} {fn : Func} {c : Code} (hf : P.funcs[f]? = some fn) (hname : (fn.name == "runtime.NumGoroutine") = false) (hb : fn.body = some c) (args : Array Value) (w : World) :
    (callFunc f args).run P w = .ok (.enter f args) w := by
  have h1 : fn.name ≠ "runtime.NumGoroutine" := by simpa using hname
  simp [callFunc, hf, h1, hb]
def upd {α : Type} (f : Nat → α) (j : Nat) (v : α) : Nat → α := fun k => if k = j then v else f k
theorem upd_ne {α : Type} (f : Nat → α) {j k : Nat} (v : α) (h : k ≠ j) : upd f j v k = f k := by simp [upd, h]
def RowAt (W : World) (b n : Nat) (f : Nat → Value) : Prop := ∃ c t, W.heap[b]? = some (.cells c t (0, 0)) ∧ ∀ k, k < n → c[k]? = some (f k)
theorem RowAt.lt {W : World} {b n : Nat} {f : Nat → Value} (h : RowAt W b n f) : b < W.heap.size := by
  obtain ⟨c, t, h1, _⟩ := h; exact (Array.getElem?_eq_some_iff.1 h1).1
theorem RowAt.cell {W : World} {b n : Nat} {f : Nat → Value} (h : RowAt W b n f) {k : Nat} (hk : k < n) : W.cell? ⟨b, k, none⟩ = some (f k) := by
  obtain ⟨c, t, h1, h2⟩ := h
  rw [cell_of_row _ _ k _ _ _ h1]; exact h2 k hk
theorem RowAt.free {W : World} {b n : Nat} {f : Nat → Value} (h : RowAt W b n f) (j : Nat) : W.frozen? ⟨b, j, none⟩ = false := by
  obtain ⟨c, t, h1, h2⟩ := h
  unfold World.frozen?; rw [h1]; simp
theorem RowAt.keep {W W' : World} {b n : Nat} {f : Nat → Value} (h : RowAt W b n f) (e : W'.heap[b]? = W.heap[b]?) : RowAt W' b n f := by
  obtain ⟨c, t, h1, h2⟩ := h; exact ⟨c, t, e.trans h1, h2⟩
theorem RowAt.set {W : World} {b n : Nat} {f : Nat → Value} (h : RowAt W b n f) (j : Nat) (v : Value) : RowAt (W.setCell ⟨b, j, none⟩ v) b n (upd f j v) := by
  obtain ⟨c, t, h1, h2⟩ := h
  refine ⟨_, t, heap_set v h1, fun k hk => ?_⟩
  rw [Array.getElem?_setIfInBounds]
  have hk' : k < c.size := (Array.getElem?_eq_some_iff.1 (h2 k hk)).1
  by_cases e : k = j
  · subst e; simp [upd, hk']
  · rw [if_neg (Ne.symm e), upd_ne _ _ e]; exact h2 k hk
theorem RowAt.congr {W : World} {b n : Nat} {f g : Nat → Value} (h : RowAt W b n f) (e : ∀ k, k < n → f k = g k) : RowAt W b n g := by
  obtain ⟨c, t, h1, h2⟩ := h; exact ⟨c, t, h1, fun k hk => by rw [← e k hk]; exact h2 k hk⟩
def LstAt (W : World) (v : Value) (l : List Int) : Prop :=
  v = .slice none 0 0 ∧ l = [] ∨
  ∃ g cap c, v = .slice (some ⟨g, 0, none⟩) l.length cap ∧ W.heap[g]? = some (.cells c 3 (0, 0)) ∧ l.length ≤ cap ∧ cap ≤ 9223372036854775807 ∧ cap ≤ c.size ∧ 0 < c.size ∧ ∀ k, k < l.length → c[k]? = some (.int .i64 (l.getD k 0))
theorem LstAt.keep {W W' : World} {v : Value} {l : List Int} (h : LstAt W v l) (e : ∀ g, v.ownBlock = some g → W'.heap[g]? = W.heap[g]?) : LstAt W' v l := by
  rcases h with h | ⟨g, cap, c, rfl, h1, h2⟩
  · exact Or.inl h
  · exact Or.inr ⟨g, cap, c, rfl, (e g rfl).trans h1, h2⟩
theorem LstAt.lt {W : World} {v : Value} {l : List Int} (h : LstAt W v l) {g : Nat} (e : v.ownBlock = some g) : g < W.heap.size := by
  rcases h with ⟨rfl, _⟩ | ⟨g', cap, c, rfl, h1, h2⟩
  · cases e
  · cases e; exact (Array.getElem?_eq_some_iff.1 h1).1
structure Mv where
  m : Nat
  d : Nat
  kb : Nat
  sb : Nat
  wb : Nat
  fb : Nat
  pb : Nat
  n : Nat
  nt : Nat
  np : Nat
  c0 : Nat
  c1 : Nat
  c2 : Nat
  c3 : Nat
  c4 : Nat
  kept : Nat → Int
  seen : Nat → Int
  pass : Nat → Int
  wr : Nat → Int
  fl : Nat → List Int
  fv : Nat → Value
  ck : Int
  bd : Int
  la : Acc
  wm : Int
def Mv.blocks (M : Mv) : List Nat := [M.m, M.d, M.kb, M.sb, M.wb, M.fb, M.pb]
def Mv.own (M : Mv) (k : Nat) : Prop := k ∈ M.blocks ∨ ∃ t, t < M.nt ∧ (M.fv t).ownBlock = some k
structure MemAt (W : World) (M : Mv) : Prop where
  row : MemRow W M.m (.pointer (some ⟨M.d, 0, none⟩)) (.slice (some ⟨M.pb, 0, none⟩) M.np M.c4) M.ck M.bd M.la
  dev : W.heap[M.d]? = some (.cells #[.slice (some ⟨M.kb, 0, none⟩) M.n M.c0, .slice (some ⟨M.sb, 0, none⟩) M.n M.c1, .slice (some ⟨M.wb, 0, none⟩) M.n M.c2, .slice (some ⟨M.fb, 0, none⟩) M.nt M.c3] 160 (0, 0))
  kept : RowAt W M.kb (8 * M.n) fun k => .int .u64 (M.kept k)
  seen : RowAt W M.sb (8 * M.n) fun k => .int .u64 (M.seen k)
  wr : RowAt W M.wb M.n fun k => .int .i64 (M.wr k)
  fb : RowAt W M.fb M.nt M.fv
  pass : RowAt W M.pb M.np fun k => .int .u64 (M.pass k)
  fl : ∀ t, t < M.nt → LstAt W (M.fv t) (M.fl t)
  apart : M.blocks.Nodup
  alone : ∀ t, t < M.nt → ∀ g, (M.fv t).ownBlock = some g → g ∉ M.blocks
  lone : ∀ t, t < M.nt → ∀ t', t' < M.nt → t ≠ t' → ∀ g, (M.fv t).ownBlock = some g → (M.fv t').ownBlock ≠ some g
  n0 : 0 < M.n
  n1 : M.n ≤ 262144
  t1 : M.nt ≤ 64
  p1 : M.np ≤ 262144
  rise : ∀ t, t < M.nt → (M.fl t).Pairwise (· < ·)
  inn : ∀ t, t < M.nt → ∀ x ∈ M.fl t, 0 ≤ x ∧ x < M.n
  ck0 : 0 ≤ M.ck
  bd0 : 0 ≤ M.bd
  bd1 : M.bd ≤ M.ck
  wr0 : ∀ k, k < M.n → 0 ≤ M.wr k ∧ M.wr k ≤ M.wm
theorem MemAt.lt {W : World} {M : Mv} (h : MemAt W M) {k : Nat} (hk : M.own k) : k < W.heap.size := by
  rcases hk with hk | ⟨t, ht, e⟩
  · simp only [Mv.blocks, List.mem_cons, List.not_mem_nil, or_false] at hk
    rcases hk with rfl | rfl | rfl | rfl | rfl | rfl | rfl
    · exact (Array.getElem?_eq_some_iff.1 h.row).1
    · exact (Array.getElem?_eq_some_iff.1 h.dev).1
    · exact h.kept.lt
    · exact h.seen.lt
    · exact h.wr.lt
    · exact h.fb.lt
    · exact h.pass.lt
  · exact (h.fl t ht).lt e
theorem MemAt.keep {W W' : World} {M : Mv} (h : MemAt W M) (e : ∀ k, M.own k → W'.heap[k]? = W.heap[k]?) : MemAt W' M := by
  have o : ∀ k, k ∈ M.blocks → W'.heap[k]? = W.heap[k]? := fun k hk => e k (Or.inl hk)
  exact { h with
    row := (o _ (by simp [Mv.blocks])).trans h.row
    dev := (o _ (by simp [Mv.blocks])).trans h.dev
    kept := h.kept.keep (o _ (by simp [Mv.blocks]))
    seen := h.seen.keep (o _ (by simp [Mv.blocks]))
    wr := h.wr.keep (o _ (by simp [Mv.blocks]))
    fb := h.fb.keep (o _ (by simp [Mv.blocks]))
    pass := h.pass.keep (o _ (by simp [Mv.blocks]))
    fl := fun t ht => (h.fl t ht).keep fun g hg => e g (Or.inr ⟨t, ht, hg⟩) }
theorem MemAt.below {W W' : World} {M : Mv} (h : MemAt W M) (t : Below W.heap.size W W') : MemAt W' M :=
  h.keep fun k hk => t.block k (h.lt hk)
end Go.Proofs.YtkdcfijebgeajaaGreat

namespace Go.Proofs.YtkdcfijebgeajaaGreat
open Go.RowKit Go.BigFrame
theorem region_tail {P : Program} {id : Nat} {Q : Exit → Act → World → Prop} {a : Act} {w : World} {l : List Oper} (n : Nat) (hm : P.follows .mixedOrders = true) (hB : Region.lexTailB .any l.toArray n = true)
    (h : wpStill P l.toArray w.drew (fun a' => wpList P l.toArray Q (l.drop n) a' w.drew) (l.take n) a) : (Code.region id l.toArray true).wp P Q a w :=
  wp_region_still_tail n hm hB h
theorem cell_row {W : World} {b : Nat} {c : Array Value} {t : TypeId} {f : Nat × Nat} (h : W.heap[b]? = some (.cells c t f)) (k : Nat) (v : Value) (hv : c.toList[k]? = some v) : W.cell? ⟨b, k, none⟩ = some v := by
  rw [cell_of_row _ _ k _ _ _ h]; simpa using hv
theorem free_row {W : World} {b : Nat} {c : Array Value} {t : TypeId} (h : W.heap[b]? = some (.cells c t (0, 0))) (j : Nat) : W.frozen? ⟨b, j, none⟩ = false := by
  unfold World.frozen?; rw [h]; simp
theorem lt_row {W : World} {b : Nat} {o : Obj} (h : W.heap[b]? = some o) : b < W.heap.size := (Array.getElem?_eq_some_iff.1 h).1
theorem row_4 {W : World} {b : Nat} {k0 k1 k2 k3 : Value} {t : TypeId} (h : W.heap[b]? = some (.cells #[k0, k1, k2, k3] t (0, 0))) :
    W.cell? ⟨b, 0, none⟩ = some k0 ∧ W.cell? ⟨b, 1, none⟩ = some k1 ∧ W.cell? ⟨b, 2, none⟩ = some k2 ∧ W.cell? ⟨b, 3, none⟩ = some k3 ∧ ∀ j, W.frozen? ⟨b, j, none⟩ = false :=
  ⟨cell_row h 0 _ rfl, cell_row h 1 _ rfl, cell_row h 2 _ rfl, cell_row h 3 _ rfl, free_row h⟩
theorem row_9 {W : World} {b : Nat} {k0 k1 k2 k3 k4 k5 k6 k7 k8 : Value} {t : TypeId} (h : W.heap[b]? = some (.cells #[k0, k1, k2, k3, k4, k5, k6, k7, k8] t (0, 0))) :
    W.cell? ⟨b, 0, none⟩ = some k0 ∧ W.cell? ⟨b, 1, none⟩ = some k1 ∧ W.cell? ⟨b, 2, none⟩ = some k2 ∧ W.cell? ⟨b, 3, none⟩ = some k3 ∧ W.cell? ⟨b, 4, none⟩ = some k4 ∧ W.cell? ⟨b, 5, none⟩ = some k5 ∧ W.cell? ⟨b, 6, none⟩ = some k6 ∧ W.cell? ⟨b, 7, none⟩ = some k7 ∧ W.cell? ⟨b, 8, none⟩ = some k8 ∧ ∀ j, W.frozen? ⟨b, j, none⟩ = false :=
  ⟨cell_row h 0 _ rfl, cell_row h 1 _ rfl, cell_row h 2 _ rfl, cell_row h 3 _ rfl, cell_row h 4 _ rfl, cell_row h 5 _ rfl, cell_row h 6 _ rfl, cell_row h 7 _ rfl, cell_row h 8 _ rfl, free_row h⟩
end Go.Proofs.YtkdcfijebgeajaaGreat

namespace Go.Proofs.YtkdcfijebgeajaaGreat
open Go.RowKit Go.BigFrame
set_option linter.unusedVariables false
set_option linter.unusedSimpArgs false
structure Lv where
  th : Int
  sl : Int
  lo : Int
  bu : Int
  pt : Int
  pl : Int
  ls : Int
  ps : Int
  ln : Int
structure Lv.Ok (v : Lv) : Prop where
  th0 : 0 ≤ v.th
  th1 : v.th ≤ 64
  sl0 : 0 ≤ v.sl
  sl1 : v.sl ≤ 65536
  lo0 : 0 ≤ v.lo
  lo1 : v.lo ≤ 64
  bu0 : 0 ≤ v.bu
  bu1 : v.bu ≤ 64
  pt0 : 0 ≤ v.pt
  pt1 : v.pt ≤ 100
  pl0 : 0 ≤ v.pl
  pl1 : v.pl ≤ 200
  ls0 : 0 ≤ v.ls
  ls1 : v.ls ≤ 8
  ps0 : 0 ≤ v.ps
  ps1 : v.ps ≤ 1000
  ln0 : 0 ≤ v.ln
  ln1 : v.ln ≤ 100000
structure LayAt (W : World) (l : Nat) (v : Lv) : Prop where
  row : W.heap[l]? = some (.cells #[.int .i64 v.th, .int .i64 v.sl, .int .i64 v.lo, .int .i64 v.bu, .int .i64 v.pt, .int .i64 v.pl, .int .i64 v.ls, .int .i64 v.ps, .int .i64 v.ln] 154 (0, 0))
  ok : v.Ok
theorem LayAt.lt {W : World} {l : Nat} {v : Lv} (h : LayAt W l v) : l < W.heap.size := (Array.getElem?_eq_some_iff.1 h.row).1
theorem LayAt.keep {W W' : World} {l : Nat} {v : Lv} (h : LayAt W l v) (e : W'.heap[l]? = W.heap[l]?) : LayAt W' l v := ⟨e.trans h.row, h.ok⟩
theorem LayAt.below {W W' : World} {l B : Nat} {v : Lv} (h : LayAt W l v) (hb : Below B W W') (hB : l < B) : LayAt W' l v := h.keep (hb.block l hB)
theorem config70 (l : Nat) (v : Lv) (w : World) (h : LayAt w l v) : Calls Tryz.prog 28 #[.pointer (some ⟨l, 0, none⟩)] w (Gives (.agg #[.int .i64 v.th, .int .i64 v.sl, .int .i64 v.lo, .int .i64 v.bu]) w) := by
  have hl := h.lt
  have hne : l ≠ w.heap.size := by omega
  have hne2 : w.heap.size ≠ l := by omega
  obtain ⟨l0, l1, l2, l3, l4, l5, l6, l7, l8, lf⟩ := row_9 h.row
  obtain ⟨th, sl, lo, bu, pt, pl, ls, ps, ln⟩ := v
  obtain ⟨th0, th1, sl0, sl1, lo0, lo1, bu0, bu1, pt0, pt1, pl0, pl1, ls0, ls1, ps0, ps1, ln0, ln1⟩ := h.ok
  simp only at *
  clear h
  go_enter Tryz.func28, Tryz.ntmps28
  go_wp2_with fail
  have hh := heap_alloc_new w (.cells #[.int .i64 th, .int .i64 sl, .int .i64 lo, .int .i64 bu] 23)
  have z0 := cell_of_row _ _ 0 _ _ _ hh
  have z1 := cell_of_row _ _ 1 _ _ _ hh
  have z2 := cell_of_row _ _ 2 _ _ _ hh
  have z3 := cell_of_row _ _ 3 _ _ _ hh
  refine bodyPost_ret (v := .agg #[.int .i64 th, .int .i64 sl, .int .i64 lo, .int .i64 bu]) (by simp [results, Tryz.results28, go_sem, z0, z1, z2, z3]) rfl ⟨rfl, (Below.refl _ _).alloc (Nat.le_refl _) _⟩
theorem lines80 (l : Nat) (v : Lv) (w : World) (h : LayAt w l v) : Calls Tryz.prog 56 #[.pointer (some ⟨l, 0, none⟩)] w (Says (.int .i64 v.ln) w) := by
  have hl := h.lt
  have hne : l ≠ w.heap.size := by omega
  have hne2 : w.heap.size ≠ l := by omega
  obtain ⟨l0, l1, l2, l3, l4, l5, l6, l7, l8, lf⟩ := row_9 h.row
  obtain ⟨th, sl, lo, bu, pt, pl, ls, ps, ln⟩ := v
  obtain ⟨th0, th1, sl0, sl1, lo0, lo1, bu0, bu1, pt0, pt1, pl0, pl1, ls0, ls1, ps0, ps1, ln0, ln1⟩ := h.ok
  simp only at *
  clear h
  go_enter Tryz.func56, Tryz.ntmps56
  go_wp2_with fail
  go_ret
  exact ⟨rfl, rfl⟩
theorem line131 (l : Nat) (n : Int) (h0 : 0 ≤ n) (h1 : n ≤ 1000000) (w : World) : Calls Tryz.prog 145 #[.pointer (some ⟨l, 0, none⟩), .int .i64 n] w (Says (.int .i64 (n * 8)) w) := by
  go_enter Tryz.func145, Tryz.ntmps145
  go_wp2_with fail
  go_ret
  exact ⟨rfl, rfl⟩
theorem head69 (l : Nat) (w : World) : Calls Tryz.prog 75 #[.pointer (some ⟨l, 0, none⟩)] w (Says (.int .i64 16) w) := by
  have HL := Lib.hid fun w => line131 l 2 (by omega) (by omega) w
  go_enter Tryz.func75, Tryz.ntmps75
  go_wp2_with fail
  refine (HL.out _).mono ?_
  rintro e w1 ⟨rfl, rfl⟩
  go_wp2_with fail
  go_ret
  exact ⟨rfl, rfl⟩
theorem tail160 (l : Nat) (w : World) : Calls Tryz.prog 76 #[.pointer (some ⟨l, 0, none⟩)] w (Says (.int .i64 24) w) := by
  have HL := Lib.hid fun w => line131 l 3 (by omega) (by omega) w
  go_enter Tryz.func76, Tryz.ntmps76
  go_wp2_with fail
  refine (HL.out _).mono ?_
  rintro e w1 ⟨rfl, rfl⟩
  go_wp2_with fail
  go_ret
  exact ⟨rfl, rfl⟩
end Go.Proofs.YtkdcfijebgeajaaGreat

namespace Go.Proofs.YtkdcfijebgeajaaGreat
open Go.RowKit Go.BigFrame
set_option linter.unusedVariables false
set_option linter.unusedSimpArgs false
theorem two_new (W : World) (a b : Obj) : ((W.alloc a).alloc b).heap[W.heap.size]? = some a ∧ ((W.alloc a).alloc b).heap[W.heap.size + 1]? = some b := by
  constructor
  · rw [Below.heap_alloc _ _ _ (by simp)]; exact heap_alloc_new W a
  · have := heap_alloc_new (W.alloc a) b; simpa using this
theorem cell_set_at {w : World} {b j : Nat} {u : Value} (v : Value) (h : w.cell? ⟨b, j, none⟩ = some u) : (w.setCell ⟨b, j, none⟩ v).cell? ⟨b, j, none⟩ = some v := by
  unfold World.cell? at h
  split at h
  · rename_i c t f e
    simp at h
    have hl : j < c.size := (Array.getElem?_eq_some_iff.1 h).1
    rw [cell_of_row _ _ j _ _ _ (heap_set v e)]
    simp [hl]
  · cases h
end Go.Proofs.YtkdcfijebgeajaaGreat
