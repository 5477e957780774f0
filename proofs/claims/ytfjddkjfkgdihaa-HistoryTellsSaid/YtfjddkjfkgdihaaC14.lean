/- Layer 24: Right and Overlaps on whatever slice of calls; what three calls that came in are. -/
import Derived.Test.YtfjddkjfkgdihaaC10
import Derived.Test.YtfjddkjfkgdihaaC11
import Derived.Test.YtfjddkjfkgdihaaC12
namespace Go.Proofs.Ytfjddkjfkgdihaa
open Go.RowKit Go.BigFrame Go.ChangeShapes Go.WideShapes
set_option linter.unusedVariables false

/-- A list of calls that is not empty lies in one block. -/
theorem CallsAt.block {w : World} {a : Option Addr} {len cap : Nat} {c : Nat → CallD} (h : CallsAt w a len cap c) (hl : 0 < len) :
    ∃ b off, a = some ⟨b, off, none⟩ ∧ b < w.heap.size ∧ ∀ i, i < len → CallAt w b (off + i * 11) (c i) := by
  obtain ⟨b, off, ha, hb, -⟩ := h.2.2 0 hl
  refine ⟨b, off, ha, hb, fun i hi => ?_⟩
  obtain ⟨b', off', ha', -, hc⟩ := h.2.2 i hi
  rw [ha] at ha'
  simp only [Option.some.injEq, Addr.mk.injEq] at ha'
  obtain ⟨rfl, rfl, -⟩ := ha'
  exact hc
theorem CallsAt.below {w w' : World} {a : Option Addr} {len cap : Nat} {c : Nat → CallD} (h : CallsAt w a len cap c) (hb : Below w.heap.size w w') : CallsAt w' a len cap c := by
  refine ⟨h.1, h.2.1, fun i hi => ?_⟩
  obtain ⟨b, off, ha, hl, hc⟩ := h.2.2 i hi
  exact ⟨b, off, ha, Nat.lt_of_lt_of_le hl hb.size, hc.of fun o => hb.cell (p := ⟨b, o, none⟩) hl⟩
theorem right_all (a : Option Addr) (len cap : Nat) (c : Nat → CallD) (w : World) (h : CallsAt w a len cap c) (hl : len ≤ 100) :
    Calls Try.prog 40 #[.slice a len cap] w (BoolOn (rightTo c len) w) := by
  by_cases h0 : 0 < len
  · obtain ⟨b, off, rfl, hb, hc⟩ := h.block h0
    exact right_any b off len cap c w hl hb hc
  · obtain rfl : len = 0 := by omega
    exact right_nil a cap w
theorem overlaps_nil (a : Option Addr) (cap : Nat) (c : Nat → CallD) (w : World) : Calls Try.prog 43 #[.slice a 0 cap] w (OverTo c 0 w) := by
  go_enter Try.func43, Try.ntmps43
  go_wp2_with fail
  go_loop [3, 9] (fun v i => v = .slice none 0 0 ∧ i = .int .i64 0) (fun _ _ => 0)
  case atStart => exact ⟨rfl, rfl⟩
  case round =>
    obtain ⟨rfl, rfl⟩ := hrel
    go_wp2_with fail
    go_ret
    exact ⟨_, rfl, Below.refl _ _, World.ownsRow_nil _ _ _ _⟩
theorem overlaps_all (a : Option Addr) (len cap : Nat) (c : Nat → CallD) (w : World) (h : CallsAt w a len cap c) (hl : len ≤ 100) :
    Calls Try.prog 43 #[.slice a len cap] w (OverTo c len w) := by
  by_cases h0 : 0 < len
  · obtain ⟨b, off, rfl, hb, hc⟩ := h.block h0
    exact overlaps_any b off len cap c w hl hb hc
  · obtain rfl : len = 0 := by omega
    exact overlaps_nil a cap c w
/-- What is owned: the empty slice, or one on a block of its own. -/
theorem own_slice {w : World} {base : Nat} {e : TypeId} {size : Nat} {v : Value} {n : Nat} {xs : List Value} (h : w.ownsRow base e size v n xs) :
    (n = 0 ∧ ∃ a cap, v = .slice a 0 cap) ∨ ∃ g cap, v = .slice (some ⟨g, 0, none⟩) n cap ∧ n ≤ cap ∧ cap ≤ maxLen ∧ base ≤ g ∧ g < w.heap.size ∧ ∀ j, j < n * size → w.cell? ⟨g, j, none⟩ = xs[j]? := by
  by_cases hn : 0 < n
  · exact .inr (own_form h hn)
  · refine .inl ⟨by omega, ?_⟩
    rcases h.2 with ⟨rfl, h0⟩ | ⟨g, cap, cur, rfl, -⟩
    · exact ⟨_, _, rfl⟩
    · obtain rfl : n = 0 := by omega
      exact ⟨_, _, rfl⟩
theorem pairs_at (l : List (Nat × Nat)) (k : Nat) (p : Nat × Nat) (h : l[k]? = some p) : (pairs l)[k * 2]? = some (.int .i64 p.1) ∧ (pairs l)[k * 2 + 1]? = some (.int .i64 p.2) := by
  induction l generalizing k with
  | nil => simp at h
  | cons q l ih =>
    cases k with
    | zero => simp at h; subst h; exact ⟨rfl, rfl⟩
    | succ k =>
      simp at h
      have := ih k h
      rw [Nat.succ_mul]
      simpa [pairs, Nat.add_right_comm] using this
end Go.Proofs.Ytfjddkjfkgdihaa
