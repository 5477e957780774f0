/- Layer 32's first law. -/
import Derived.Test.YtjbngddmmdcagaaDoorL2
import Derived.Test.YtjbngddmmdcagaaDoorX2
import Derived.Test.YtjbngddmmdcagaaDoorZ2
namespace Go.Proofs.YtjbngddmmdcagaaDoor
open Go.RowKit Go.BigFrame
set_option linter.unusedVariables false
set_option linter.unusedSimpArgs false

theorem WordsAt.to {B : Nat} {W : World} {a : Option Addr} {n : Nat} {f u : Nat → Nat} (h : WordsAt B W a n f) (e : ∀ j, j < n → f j = u j) : WordsAt B W a n u := by
  obtain ⟨b, off, ha, hc⟩ := h
  exact ⟨b, off, ha, fun j hj => by rw [hc j hj, e j hj]⟩
theorem write6_zero (a : Option Addr) (cap : Nat) (hc : cap ≤ 9223372036854775807) (w : World) :
    Calls Tryd.prog 6 #[.slice a 0 cap] w fun e w' => e = .returned (.tuple #[.string ⟨#[]⟩, .int .i64 3]) ∧ Below w.heap.size w w' := by
  have HCUT : Hid (Calls Tryd.prog 16 #[.slice a 0 cap] w (CutTo (fun _ => 0) 0 w)) :=
    Lib.hid (cut35 a 0 0 0 cap (by omega) (by omega) hc rfl (fun _ => 0) w (by omega) (by omega))
  unfold CutTo at HCUT
  rw [show 0 / 8 = 0 from rfl] at HCUT
  go_enter Tryd.func6, Tryd.ntmps6
  go_wp2_with (go_at_call 16; (with_reducible refine HCUT.out.mono ?_); rintro e wa ⟨vl, rfl, hb1, ho1⟩; obtain ⟨la, lc, rfl, -⟩ := lines_own (f := fun _ => 0) ho1; have HB := Lib.hid hb1; clear hb1 ho1)
  go_ret2
  exact ⟨rfl, HB.out⟩
set_option maxRecDepth 100000 in
set_option maxHeartbeats 8000000 in
theorem law3_no (a : Option Addr) (n cap : Nat) (hcap : n ≤ cap) (hc : cap ≤ 9223372036854775807) (hn : n ≤ 300) (h8 : n % 8 ≠ 0 ∨ n = 0) (x : Nat) (hx : x < 18446744073709551616) (w : World) :
    Calls Tryd.prog 3 #[.slice a n cap, .int .u64 x] w fun e w' => e = .returned (.bool true) ∧ Below w.heap.size w w' := by
  have HW : Hid (∀ W, Calls Tryd.prog 6 #[.slice a n cap] W fun e w' => e = .returned (.tuple #[.string ⟨#[]⟩, .int .i64 3]) ∧ Below W.heap.size W w') := Lib.hid fun W => by
    by_cases h : n = 0
    · subst h; exact write6_zero a cap hc W
    · have he : wholeE n = 3 := by unfold wholeE; rw [if_pos (by omega)]
      have h1 := write6_no a n cap (by omega) (by omega) W
      rw [he] at h1
      exact h1.mono fun e w' hh => ⟨hh.1, hh.2.1⟩
  have HP : Hid (∀ W, Calls Tryd.prog 10 #[.slice a n cap] W fun e w' => ∃ b c, e = .returned (.slice b (0 : Nat) c) ∧ Below W.heap.size W w') := Lib.hid fun W => by
    by_cases h : n = 0
    · subst h
      have h1 := parts10 a 0 cap hcap hc rfl (fun _ => 0) W ⟨0, 0, by omega, by omega⟩
      refine h1.mono fun e w' hh => ?_
      obtain ⟨v, rfl, hb, ho⟩ := hh
      obtain ⟨b, c, g, rfl, -⟩ := own_ints ho
      exact ⟨b, c, rfl, hb⟩
    · have he : wholeE n = 3 := by unfold wholeE; rw [if_pos (by omega)]
      have h1 := parts10_no a n cap (by omega) (by omega) W
      exact h1.mono fun e w' hh => ⟨none, 0, hh.1, hh.2.1⟩
  have HM := Lib.hid (may9 n (by omega))
  have d0 : decide ((n : Int) > 300) = false := by simp; omega
  have d1 : decide ((300 : Int) < (n : Int)) = false := by simp; omega
  have hm : (wholeE n != 0) = true ∨ (wholeE n != 0) = false ∧ ((n : Int) == 0) = true := by
    by_cases h : n = 0
    · subst h; exact .inr ⟨rfl, rfl⟩
    · exact .inl (by unfold wholeE; rw [if_pos (by omega)]; rfl)
  generalize wholeE n = k at *
  clear h8
  obtain ⟨t, ht⟩ : ∃ t, t = txt (dig 16 x) := ⟨_, rfl⟩
  have HX7 : Hid (∀ W, Calls Tryd.prog 7 #[.int .u64 x] W fun e w' => e = .returned (.string t) ∧ Below W.heap.size W w') := Lib.hid fun W => by rw [ht]; exact hex7 x hx W
  have HX8 : Hid (∀ W, Calls Tryd.prog 8 #[.int .u64 x] W fun e w' => e = .returned (.string t) ∧ Below W.heap.size W w') := Lib.hid fun W => by rw [ht]; exact hex8 x hx W
  clear ht
  rcases hm with hm | ⟨hm, hm2⟩
  · go_enter Tryd.func3, Tryd.ntmps3
    go_wp2_with (first
      | (go_at_call 6; (with_reducible refine (HW.out _).mono ?_); rintro e w1 ⟨rfl, hb1⟩; have HB1 := Lib.hid hb1; clear hb1)
      | (go_at_call 7; (with_reducible refine (HX7.out _).mono ?_); rintro e w2 ⟨rfl, hb2⟩; have HB2 := Lib.hid hb2; clear hb2)
      | (go_at_call 8; (with_reducible refine (HX8.out _).mono ?_); rintro e w3 ⟨rfl, hb3⟩; have HB3 := Lib.hid hb3; clear hb3)
      | (go_at_call 9; (with_reducible refine (HM.out _).mono ?_); rintro e w4 ⟨rfl, hw⟩; cases hw)
      | (go_at_call 5; (with_reducible refine (awake5 _).mono ?_); rintro e w4 ⟨rfl, hb4⟩; have HB4 := Lib.hid hb4; clear hb4)
      | (go_at_call 10; (with_reducible refine (HP.out _).mono ?_); rintro e w5 ⟨b5, c5, rfl, hb5⟩; have HB5 := Lib.hid hb5; clear hb5))
    have h1 := HB1.out
    have h2 := h1.trans (HB2.out.mono h1.size)
    have h3 := h2.trans (HB3.out.mono h2.size)
    have h4 := h3.trans (HB4.out.mono h3.size)
    have h5 := h4.trans (HB5.out.mono h4.size)
    go_ret
    exact ⟨rfl, h5⟩
  · go_enter Tryd.func3, Tryd.ntmps3
    go_wp2_with (first
      | (go_at_call 6; (with_reducible refine (HW.out _).mono ?_); rintro e w1 ⟨rfl, hb1⟩; have HB1 := Lib.hid hb1; clear hb1)
      | (go_at_call 7; (with_reducible refine (HX7.out _).mono ?_); rintro e w2 ⟨rfl, hb2⟩; have HB2 := Lib.hid hb2; clear hb2)
      | (go_at_call 8; (with_reducible refine (HX8.out _).mono ?_); rintro e w3 ⟨rfl, hb3⟩; have HB3 := Lib.hid hb3; clear hb3)
      | (go_at_call 9; (with_reducible refine (HM.out _).mono ?_); rintro e w4 ⟨rfl, hw⟩; cases hw)
      | (go_at_call 5; (with_reducible refine (awake5 _).mono ?_); rintro e w4 ⟨rfl, hb4⟩; have HB4 := Lib.hid hb4; clear hb4)
      | (go_at_call 10; (with_reducible refine (HP.out _).mono ?_); rintro e w5 ⟨b5, c5, rfl, hb5⟩; have HB5 := Lib.hid hb5; clear hb5))
    have h1 := HB1.out
    have h2 := h1.trans (HB2.out.mono h1.size)
    have h3 := h2.trans (HB3.out.mono h2.size)
    have h4 := h3.trans (HB4.out.mono h3.size)
    have h5 := h4.trans (HB5.out.mono h4.size)
    go_ret
    exact ⟨rfl, h5⟩
end Go.Proofs.YtjbngddmmdcagaaDoor
