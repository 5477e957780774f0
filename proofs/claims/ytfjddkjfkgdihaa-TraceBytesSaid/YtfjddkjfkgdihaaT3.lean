/- The page's example of layer 37. -/
import Derived.Test.YtfjddkjfkgdihaaT2
import Derived.Test.YtfjddkjfkgdihaaRd2
import Derived.WalkSmall
namespace Go.Proofs.Ytfjddkjfkgdihaa
open Go.RowKit
set_option linter.unusedVariables false

theorem numB_300 : numB 300 = [172, 2] := by rw [numB_big (by decide), numB_small (by decide)]; rfl

def z300 : Nat → Int := fun i => [172, 2, 9].getD i 0
theorem hit_300 : Hit z300 3 2 := by
  refine ⟨⟨by decide, fun i hi => ?_, by decide, fun _ => by decide⟩, by decide, by decide, fun h => by cases h⟩
  obtain rfl : i = 0 := by omega
  decide
theorem vs_300 : vs z300 2 = 300 := by decide
theorem z300_bytes (i : Nat) : 0 ≤ z300 i ∧ z300 i ≤ 255 := by
  unfold z300
  match i with
  | 0 => decide
  | 1 => decide
  | 2 => decide
  | i + 3 => simp

def AwakeTo (w : World) (e : Ending) (w' : World) : Prop := e = .returned (.bool true) ∧ Below w.heap.size w w'

set_option maxRecDepth 100000 in
theorem awake37_any (w : World) : Calls Try.prog 25 #[] w (AwakeTo w) := by
  obtain ⟨B, hB⟩ : ∃ B, B = w.heap.size := ⟨_, rfl⟩
  have HB := Lib.hid hB; clear hB
  go_enter Try.func25, Try.ntmps25
  go_wp2_with fail
  refine (number_any 300 (by decide) _).mono ?_
  rintro e w1 ⟨v, rfl, hbel, hown⟩
  rw [numB_300] at hown
  obtain ⟨a, cap, rfl, hr⟩ := rdB_of_own (M := [172, 2]) (k := .u8) hown
  obtain ⟨-, hcap, hmax, -, hcs⟩ := hr
  rcases hcs with hcs | ⟨b, off, rfl, hbl, hcs⟩
  · simp at hcs
  have hc0 := hcs 0 (by simp)
  have hc1 := hcs 1 (by simp)
  simp only [List.getD_cons_zero, List.getD_cons_succ, Nat.add_zero] at hc0 hc1
  have HBEL := Lib.hid hbel
  simp only [List.length_cons, List.length_nil, Nat.zero_add, Nat.reduceAdd] at hcap ⊢
  clear hbel hown hcs hmax hcap
  go_wp2_with fail
  refine (read_yes w1.heap.size 0 3 3 z300 2 _ (by decide) (by decide) (fun i hi => ?_) z300_bytes hit_300).mono ?_
  · have := cell_alloc w1 #[.int .u8 172, .int .u8 2, .int .u8 9] 5 i (.int .u8 (z300 i)) (by
      match i, hi with
      | 0, _ => rfl
      | 1, _ => rfl
      | 2, _ => rfl)
    rw [Addr.add_lit] at this
    exact this
  rintro e w2 ⟨rfl, n, rfl⟩
  rw [vs_300]
  simp only [cutV, Nat.reduceEqDiff, if_false, Nat.reduceSub]
  go_wp2_with (go_at_call 29; refine (signed_any _ (by decide) (by decide) _).mono ?_; rintro e w' ⟨rfl, rfl⟩)
  go_ret
  exact ⟨rfl, below_drewN (HBEL.out.alloc HBEL.out.size _) n⟩
end Go.Proofs.Ytfjddkjfkgdihaa
