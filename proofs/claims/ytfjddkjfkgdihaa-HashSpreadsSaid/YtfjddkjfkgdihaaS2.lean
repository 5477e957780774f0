/- Walk of the law HashSpreads. -/
import Derived.Test.YtfjddkjfkgdihaaS1
import Derived.Test.YtfjddkjfkgdihaaRd
namespace Go.Proofs.Ytfjddkjfkgdihaa
open Go.RowKit
set_option linter.unusedVariables false

theorem spreads_long (a : Option Addr) (len cap : Nat) (m : Int) (hl : 300 < len) (hc : len ≤ 9223372036854775807) (w : World) :
    Calls Try.prog 5 #[.slice a len cap, .int .i64 m] w fun e w' => e = .returned (.bool true) ∧ Below w.heap.size w w' := by
  go_enter Try.func5, Try.ntmps5
  go_wp2_with (go_at_call 22; refine (awake16_any _).mono ?_; rintro e w' ⟨rfl, rfl⟩)
  go_ret
  exact ⟨rfl, Below.refl _ _⟩

theorem spreads_none (a : Option Addr) (len cap : Nat) (m : Int) (hl : len ≤ 300) (h : m < 1 ∨ 64 < m) (w : World) :
    Calls Try.prog 5 #[.slice a len cap, .int .i64 m] w fun e w' => e = .returned (.bool true) ∧ Below w.heap.size w w' := by
  have H24 : Hid (∀ w, Calls Try.prog 24 #[.slice a len cap, .int .i64 m] w fun e w' => e = .returned (.slice none 0 0) ∧ w = w') := Lib.hid fun w => spread_none a len cap m h w
  by_cases h1 : m < 1
  · clear h
    go_enter Try.func5, Try.ntmps5
    go_wp2_with (first | (go_at_call 22; refine (awake16_any _).mono ?_; rintro e w' ⟨rfl, rfl⟩) | (go_at_call 24; refine (H24.out _).mono ?_; rintro e w' ⟨rfl, rfl⟩))
    go_ret
    exact ⟨rfl, Below.refl _ _⟩
  · have h2 : 64 < m := by omega
    have h3 : 1 ≤ m := by omega
    clear h h1
    go_enter Try.func5, Try.ntmps5
    go_wp2_with (first | (go_at_call 22; refine (awake16_any _).mono ?_; rintro e w' ⟨rfl, rfl⟩) | (go_at_call 24; refine (H24.out _).mono ?_; rintro e w' ⟨rfl, rfl⟩))
    go_ret
    exact ⟨rfl, Below.refl _ _⟩

set_option maxRecDepth 100000 in
theorem spreads_any (a : Option Addr) (len cap : Nat) (z : Nat → Int) (m : Nat) (h1 : 1 ≤ m) (h2 : m ≤ 64) (w : World) (hz : KeysAt w a len cap z) (hl : len ≤ 300) :
    Calls Try.prog 5 #[.slice a len cap, .int .i64 m] w fun e w' => e = .returned (.bool true) ∧ Below w.heap.size w w' := by
  have H24 := Lib.hid (spread_any a len cap z m h1 h2 w hz hl)
  obtain ⟨hlc, hcm, hcell⟩ := hz
  unfold maxLen at hcm
  have HC := Lib.hid hcell; clear hcell
  obtain ⟨B, hB⟩ : ∃ B, B = w.heap.size := ⟨_, rfl⟩
  have HB := Lib.hid hB; clear hB
  go_enter Try.func5, Try.ntmps5
  go_wp2_with (go_at_call 24; refine H24.out.mono ?_; rintro e w1 ⟨rfl, hbel, hown⟩; rw [← HB.out] at hbel hown ⊢; have HBEL := Lib.hid hbel; clear hbel; have HOWN := Lib.hid hown; clear hown)
  go_loop [6] (fun n => ∃ j : Nat, j ≤ m ∧ n = .int .i64 j) (fun n => m - (intOf n).toNat)
  case atStart => exact ⟨0, Nat.zero_le _, rfl⟩
  case round =>
    obtain ⟨j, hj, rfl⟩ := hrel
    by_cases hlt : j < m
    · have hcj : w1.cell? ⟨B, j, none⟩ = some (.int .i64 (cntK z m len j)) := by rw [HOWN.out.cellAt j (by omega), rowK_get _ _ _ _ hlt]
      obtain ⟨C, hC⟩ : ∃ C, C = cntK z m len j := ⟨_, rfl⟩
      rw [← hC] at hcj
      have HCC := Lib.hid hC; clear hC
      go_wp2_with fail
      go_loop [7, 8] (fun c i => ∃ (k : Nat) (q : Int), k ≤ len ∧ i = .int .i64 k ∧ c = .int .i64 q ∧ 0 ≤ q ∧ q ≤ k ∧ Hid (q = cntK z m k j)) (fun _ i => len - (intOf i).toNat)
      case atStart => exact ⟨0, 0, Nat.zero_le _, rfl, rfl, by omega, by omega, rfl⟩
      case round =>
        obtain ⟨k, q, hk, rfl, rfl, q0, q1, HQ⟩ := hrel
        by_cases hltk : k < len
        · obtain ⟨b, off, rfl, hb, hc, z0, z1⟩ := HC.out k hltk
          have hcw : w1.cell? ⟨b, off + k, none⟩ = some (.int .u32 (z k)) := (HBEL.out.cell (by rw [HB.out]; exact hb)).trans hc
          have H21 : Hid (∀ w, Calls Try.prog 21 #[.int .u32 (z k)] w (RefTo (hMix (z k)) w)) := Lib.hid (refMix_any _ z0 z1)
          have x0 := hMix_lo (z k)
          have x1 := hMix_hi (z k)
          have HS : Hid (cntK z m (k + 1) j = cntK z m k j + if hMix (z k) % m = (j : Int) then 1 else 0) := rfl
          clear hc
          generalize hMix (z k) = x at *
          by_cases hx : x % (m : Int) = j
          · have hx' : (x % (m : Int) == (j : Int)) = true := by simp [hx]
            rw [if_pos hx] at HS
            clear hx
            go_wp2_with (go_at_call 21; refine (H21.out _).mono ?_; rintro e w' ⟨rfl, rfl⟩)
            go_round
            case rel => exact ⟨k + 1, q + 1, by omega, by go_num, rfl, by omega, by omega, Lib.hid (by rw [HS.out, HQ.out])⟩
            case measure => simp [intOf]; omega
          · have hx' : (x % (m : Int) == (j : Int)) = false := by simp [hx]
            rw [if_neg hx] at HS
            clear hx
            go_wp2_with (go_at_call 21; refine (H21.out _).mono ?_; rintro e w' ⟨rfl, rfl⟩)
            go_round
            case rel => exact ⟨k + 1, q, by omega, by go_num, rfl, by omega, by omega, Lib.hid (by rw [HS.out, HQ.out, Int.add_zero])⟩
            case measure => simp [intOf]; omega
        · obtain rfl : k = len := by omega
          obtain rfl : q = C := by rw [HQ.out, HCC.out]
          go_wp2
          go_round
          case rel => exact ⟨j + 1, by omega, by go_num⟩
          case measure => simp [intOf]; omega
    · obtain rfl : j = m := by omega
      go_wp2_with (go_at_call 22; refine (awake16_any _).mono ?_; rintro e w' ⟨rfl, rfl⟩)
      go_ret
      exact ⟨rfl, by rw [← HB.out]; exact HBEL.out⟩

theorem spreads_law (a : Option Addr) (len cap : Nat) (z : Nat → Int) (m : Int) (w : World) (hz : IntsAt .u32 w a len cap z) (wm : (Lit.int .i64 m).wf = true) :
    Calls Try.prog 5 #[.slice a len cap, .int .i64 m] w fun e w' => e = .returned (.bool true) ∧ Below w.heap.size w w' := by
  by_cases hl : 300 < len
  · exact spreads_long a len cap m hl (by have := hz.1; have := hz.2.1; unfold maxLen at this; omega) w
  · by_cases hm : m < 1 ∨ 64 < m
    · exact spreads_none a len cap m (by omega) hm w
    · obtain ⟨n, rfl⟩ := Int.eq_ofNat_of_zero_le (show 0 ≤ m by omega)
      refine spreads_any a len cap z n (by omega) (by omega) w ⟨hz.1, hz.2.1, fun i hi => ?_⟩ (by omega)
      obtain ⟨b, off, h1, h2, h3, h4⟩ := hz.2.2 i hi
      have := bounds_u32 h4
      exact ⟨b, off, h1, h2, h3, by omega, by omega⟩
end Go.Proofs.Ytfjddkjfkgdihaa
