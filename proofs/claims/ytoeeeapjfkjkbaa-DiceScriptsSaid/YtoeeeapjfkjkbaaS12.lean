/- Layer 35 (dice): Script's error ways. -/
import Derived.Test.YtoeeeapjfkjkbaaS6
namespace Go.Proofs.Ytoeeeapjfkjkbaa
open Go.RowKit Go.BigFrame
set_option linter.unusedVariables false
set_option linter.unusedSimpArgs false

/-- An error alone. -/
def ErrTo (k : Int) (w : World) (e : Ending) (w' : World) : Prop := e = .returned (.tuple #[.slice none 0 0, .int .i64 k]) ∧ Below w.heap.size w w'
set_option maxRecDepth 100000 in
theorem script6_no (c : Cfg) (seed n : Int) (h : ¬ c.right ∨ n < 0) (w : World) :
    Calls Try.prog 6 #[.agg c.cells, .int .u64 seed, .int .i64 n] w (ErrTo 1 w) := by
  by_cases hr : c.right
  · have hn : n < 0 := h.resolve_left (fun h => h hr)
    have HLY : Hid (∀ w, Calls Try.prog 11 #[.agg c.cells] w (LayTo c.lines w)) := Lib.hid fun w => layout_yes c hr w
    have d1 : decide (n < 0) = true := bool_yes hn
    generalize c.lines = ln at *
    simp only [Cfg.cells] at *
    clear h hr hn
    go_enter Try.func6, Try.ntmps6
    go_wp2_with fail
    refine (HLY.out _).mono ?_
    rintro e w1 ⟨g, rfl, hb, hc, hg⟩
    have HBB : Hid (Below w.heap.size w w1) := Lib.hid (((Below.refl _ w).alloc (Nat.le_refl _) _).trans (hb.mono (by simp)))
    clear hb hc hg
    go_wp2_with fail
    go_ret2
    exact ⟨rfl, HBB.out⟩
  · have HLY : Hid (∀ w, Calls Try.prog 11 #[.agg c.cells] w fun e w' => e = .returned (.tuple #[.pointer none, .int .i64 1]) ∧ Below w.heap.size w w') := Lib.hid fun w => layout_no c hr w
    simp only [Cfg.cells] at *
    clear h hr
    go_enter Try.func6, Try.ntmps6
    go_wp2_with fail
    refine (HLY.out _).mono ?_
    rintro e w1 ⟨rfl, hb⟩
    have HBB : Hid (Below w.heap.size w w1) := Lib.hid (((Below.refl _ w).alloc (Nat.le_refl _) _).trans (hb.mono (by simp)))
    clear hb
    go_wp2_with fail
    go_ret2
    exact ⟨rfl, HBB.out⟩
set_option maxRecDepth 100000 in
theorem script6_long (c : Cfg) (hr : c.right) (seed n : Int) (h : 5000 < n) (w : World) :
    Calls Try.prog 6 #[.agg c.cells, .int .u64 seed, .int .i64 n] w (ErrTo 2 w) := by
  have HLY : Hid (∀ w, Calls Try.prog 11 #[.agg c.cells] w (LayTo c.lines w)) := Lib.hid fun w => layout_yes c hr w
  have d1 : decide (n < 0) = false := bool_no (by omega)
  have d2 : decide (5000 < n) = true := bool_yes h
  generalize c.lines = ln at *
  simp only [Cfg.cells] at *
  clear h hr
  go_enter Try.func6, Try.ntmps6
  go_wp2_with fail
  refine (HLY.out _).mono ?_
  rintro e w1 ⟨g, rfl, hb, hc, hg⟩
  have HBB : Hid (Below w.heap.size w w1) := Lib.hid (((Below.refl _ w).alloc (Nat.le_refl _) _).trans (hb.mono (by simp)))
  clear hb hc hg
  go_wp2_with fail
  go_ret2
  exact ⟨rfl, HBB.out⟩
theorem neq38 (x : ActD) (w : World) : (binOp .neq 38 (.agg x.cells) (.agg x.cells)).run Try.prog w = .ok (.bool false) w := by
  simp only [ActD.cells]
  go_simp
end Go.Proofs.Ytoeeeapjfkjkbaa
