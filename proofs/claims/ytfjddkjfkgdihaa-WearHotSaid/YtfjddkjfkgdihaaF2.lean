/- Walks of the library's stable sort: the comparison, ranges swapped, rotation, insertion. -/
import Derived.Test.YtfjddkjfkgdihaaF1
import Derived.Test.YtfjddkjfkgdihaaW1
import Derived.CellFam
import Derived.RegionTactic
import Derived.BigRegion
import Derived.ChangeAlike
import Derived.BigGuard
import Derived.BigCall
import Derived.Deep.Draws
import Derived.Deep.QuietTactic
import Derived.BigQuiet
namespace Go.Proofs.Ytfjddkjfkgdihaa
open Go.RowKit Go.BigFrame
set_option linter.unusedVariables false
set_option linter.unusedSimpArgs false

/-- The lines' numbers lie in block g; nothing else has turned since W. -/
structure DataAt (W w : World) (g off n : Nat) (D : Nat → Nat) : Prop where
  lt : g < W.heap.size
  cell : ∀ t, t < n → w.cell? ⟨g, off + t, none⟩ = some (.int .i64 (D t))
  free : ∀ t, t < n → w.frozen? ⟨g, off + t, none⟩ = false
  but : But g g W w
theorem DataAt.drewN {W w : World} {g off n : Nat} {D : Nat → Nat} (h : DataAt W w g off n D) (k : Nat) : DataAt W (w.drewN k) g off n D := ⟨h.lt, h.cell, h.free, h.but.drewN k⟩
theorem DataAt.put {W w : World} {g off n : Nat} {D : Nat → Nat} (h : DataAt W w g off n D) (i x : Nat) (hi : i < n) : DataAt W (w.setCell ⟨g, off + i, none⟩ (.int .i64 x)) g off n (fun k => if k = i then x else D k) := by
  refine ⟨h.lt, fun t ht => ?_, fun t ht => by rw [World.frozen?_setCell]; exact h.free t ht, h.but.set1 _ _⟩
  by_cases e : t = i
  · subst e; simp only [if_pos rfl]; exact World.cell?_setCell_same _ _ _ (h.cell t ht)
  · simp only [if_neg e]; rw [cell_set_ne (by omega)]; exact h.cell t ht
theorem DataAt.congr {W w : World} {g off n : Nat} {D D' : Nat → Nat} (h : DataAt W w g off n D) (he : ∀ t, t < n → D t = D' t) : DataAt W w g off n D' :=
  ⟨h.lt, fun t ht => by rw [← he t ht]; exact h.cell t ht, h.free, h.but⟩
theorem DataAt.swap {W w : World} {g off n : Nat} {D : Nat → Nat} (h : DataAt W w g off n D) (i j k : Nat) (hi : i < n) (hj : j < n) (hne : i ≠ j) :
    DataAt W (((w.setCell ⟨g, off + i, none⟩ (.int .i64 (D j))).setCell ⟨g, off + j, none⟩ (.int .i64 (D i))).drewN k) g off n (swapD D i j) := by
  refine (((h.put i (D j) hi).put j (D i) hj).drewN k).congr fun t ht => ?_
  unfold swapD
  by_cases e : t = j
  · subst e; rw [if_pos rfl, if_neg (Ne.symm hne), if_pos rfl]
  · rw [if_neg e]
    by_cases e2 : t = i
    · rw [if_pos e2, if_pos e2]
    · rw [if_neg e2, if_neg e2, if_neg e]
/-- What the comparison reads: how often each line was written back. -/
structure EnvAt (w : World) (q bw ow lw cw : Nat) (z : Nat → Int) : Prop where
  cq : w.cell? ⟨q, 0, none⟩ = some (.slice (some ⟨bw, ow, none⟩) lw cw)
  cz : ∀ i, i < lw → w.cell? ⟨bw, ow + i, none⟩ = some (.int .i64 (z i))
structure EnvOut (W : World) (g q bw ow lw cw : Nat) (z : Nat → Int) : Prop where
  env : EnvAt W q bw ow lw cw z
  lq : q < W.heap.size
  nq : q ≠ g
  lb : bw < W.heap.size
  nb : bw ≠ g
theorem EnvOut.at_ {W w : World} {g q bw ow lw cw : Nat} {z : Nat → Int} (h : EnvOut W g q bw ow lw cw z) (hb : But g g W w) : EnvAt w q bw ow lw cw z :=
  ⟨by rw [cell_of_heap (hb.block q h.lq h.nq h.nq)]; exact h.env.cq, fun i hi => by rw [cell_of_heap (hb.block bw h.lb h.nb h.nb)]; exact h.env.cz i hi⟩
theorem EnvOut.but {W w : World} {g q bw ow lw cw : Nat} {z : Nat → Int} (h : EnvOut W g q bw ow lw cw z) (hb : But g g W w) : EnvOut w g q bw ow lw cw z :=
  ⟨h.at_ hb, Nat.lt_of_lt_of_le h.lq hb.size, h.nq, Nat.lt_of_lt_of_le h.lb hb.size, h.nb⟩

def cmpv (a b : Int) : Int := if a < b then -1 else if b < a then 1 else 0
theorem cmpv_neg (a b : Int) : decide (cmpv a b < 0) = decide (a < b) := by
  unfold cmpv
  by_cases h : a < b
  · simp [h]
  · by_cases k : b < a <;> simp [h, k]

theorem nan90 (x : Int) (w : World) : Calls Try.prog 90 #[.int .i64 x] w fun e w' => e = .returned (.bool false) ∧ w' = w := by
  go_enter Try.func90, Try.ntmps90
  go_wp2
  go_ret
  exact ⟨by simp, rfl⟩
theorem cmp77 (x y : Int) (w : World) : Calls Try.prog 77 #[.int .i64 x, .int .i64 y] w fun e w' => e = .returned (.int .i64 (cmpv x y)) ∧ w' = w := by
  by_cases h : x < y
  · have e : cmpv x y = -1 := by unfold cmpv; rw [if_pos h]
    rw [e]
    go_enter Try.func77, Try.ntmps77
    go_wp2_with (go_at_call 90; refine (nan90 _ _).mono ?_; rintro e w' ⟨rfl, rfl⟩)
    go_ret
    exact ⟨rfl, rfl⟩
  · by_cases k : y < x
    · have e : cmpv x y = 1 := by unfold cmpv; rw [if_neg h, if_pos k]
      rw [e]
      go_enter Try.func77, Try.ntmps77
      go_wp2_with (go_at_call 90; refine (nan90 _ _).mono ?_; rintro e w' ⟨rfl, rfl⟩)
      go_ret
      exact ⟨rfl, rfl⟩
    · have e : cmpv x y = 0 := by unfold cmpv; rw [if_neg h, if_neg k]
      rw [e]
      go_enter Try.func77, Try.ntmps77
      go_wp2_with (go_at_call 90; refine (nan90 _ _).mono ?_; rintro e w' ⟨rfl, rfl⟩)
      go_ret
      exact ⟨rfl, rfl⟩
theorem cmp76 (x y q bw ow lw cw : Nat) (z : Nat → Int) (w : World) (he : EnvAt w q bw ow lw cw z) (hx : x < lw) (hy : y < lw) :
    Calls Try.prog 76 #[.int .i64 x, .int .i64 y, .pointer (some ⟨q, 0, none⟩)] w fun e w' => e = .returned (.int .i64 (cmpv (z y) (z x))) ∧ ∃ m, w' = w.drewN m := by
  have hq := he.cq
  have hz := he.cz
  have x0 : (0 : Int) ≤ (x : Int) := by omega
  have x1 : (x : Int) < (lw : Int) := by omega
  have y0 : (0 : Int) ≤ (y : Int) := by omega
  have y1 : (y : Int) < (lw : Int) := by omega
  go_enter Try.func76, Try.ntmps76
  go_wp2_with fail
  go_quiet (first | (go_at_call 77; refine Calls.quiet_of_same (cmp77 _ _ _)))
  go_wp2
  go_ret
  exact ⟨rfl, _, rfl⟩
end Go.Proofs.Ytfjddkjfkgdihaa
