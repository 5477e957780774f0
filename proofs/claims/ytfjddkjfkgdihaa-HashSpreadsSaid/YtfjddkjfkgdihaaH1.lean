/- Walks of layer 16 (hash). -/
import Derived.Test.YtfjddkjfkgdihaaRows
import Derived.Test.YtfjddkjfkgdihaaHm
import Derived.ProofKit
import Derived.OpenShut
namespace Go.Proofs.Ytfjddkjfkgdihaa
open Go.RowKit
set_option linter.unusedVariables false

theorem hret {a c : Int} {k : IntKind} (h : a = c) : Ending.returned (.int k a) = .returned (.int k c) := by rw [h]

theorem mix_any (a : Int) (h0 : 0 ≤ a) (w : World) :
    Calls Try.prog 20 #[.int .u32 a] w fun e w' => e = .returned (.int .u32 (hMix a)) ∧ w = w' := by
  go_enter Try.func20, Try.ntmps20
  go_wp2
  go_ret
  exact ⟨hret (hMix_walk a h0), rfl⟩

theorem refMix_any (a : Int) (h0 : 0 ≤ a) (h1 : a ≤ 4294967295) (w : World) :
    Calls Try.prog 21 #[.int .u32 a] w fun e w' => e = .returned (.int .i64 (hMix a)) ∧ w = w' := by
  obtain ⟨n, rfl⟩ := Int.eq_ofNat_of_zero_le h0
  go_enter Try.func21, Try.ntmps21
  go_wp2
  obtain ⟨x, hx⟩ : ∃ x : Int, x = (n : Int) * 2654435769 % 4294967296 := ⟨_, rfl⟩
  rw [← hx]
  have hx0 : 0 ≤ x := by omega
  have hx1 : x ≤ 4294967295 := by omega
  have HS := MixAt.start n x hx
  clear hx
  go_loop [4, 5, 6] (fun o b i => ∃ (k : Nat) (p q : Int), k ≤ 32 ∧ i = .int .i64 k ∧ b = .int .i64 p ∧ o = .int .i64 q ∧ 1 ≤ p ∧ p ≤ 4294967296 ∧ 0 ≤ q ∧ q < p ∧ MixAt n x k p q) (fun _ _ i => 32 - (intOf i).toNat)
  case atStart => exact ⟨0, 1, 0, by omega, rfl, rfl, rfl, by omega, by omega, by omega, by omega, HS⟩
  case round =>
    obtain ⟨k, p, q, hk, rfl, rfl, rfl, p1, p2, q1, q2, HM⟩ := hrel
    have hd0 : 0 ≤ x / p := Int.ediv_nonneg hx0 (by omega)
    have hd1 : x / p ≤ x := Int.ediv_le_self p hx0
    have he0 : 0 ≤ x / 65536 / p := Int.ediv_nonneg (by omega) (by omega)
    have he1 : x / 65536 / p ≤ x / 65536 := Int.ediv_le_self p (by omega)
    by_cases hlt : k < 32
    · have hp31 : p ≤ 2147483648 := HM.le hlt
      by_cases hb : x / p % 2 = x / 65536 / p % 2
      · have hb' : (x / p % 2 != x / 65536 / p % 2) = false := by simp [hb]
        have HB := HM.same hb; clear hb
        go_wp2
        go_round
        case rel => exact ⟨k + 1, 2 * p, q, by omega, by go_num, rfl, rfl, by omega, by omega, by omega, by omega, HB⟩
        case measure => simp [intOf]; omega
      · have hb' : (x / p % 2 != x / 65536 / p % 2) = true := by simp [hb]
        have HB := HM.other hb; clear hb
        go_wp2
        go_round
        case rel => exact ⟨k + 1, 2 * p, q + p, by omega, by go_num, rfl, rfl, by omega, by omega, by omega, by omega, HB⟩
        case measure => simp [intOf]; omega
    · obtain rfl : k = 32 := by omega
      go_wp2
      go_ret
      exact ⟨hret HM.done, rfl⟩

theorem bucket_none (a m : Int) (h : m < 1) (w : World) :
    Calls Try.prog 23 #[.int .u32 a, .int .i64 m] w fun e w' => e = .returned (.int .i64 (-1)) ∧ w = w' := by
  go_enter Try.func23, Try.ntmps23
  go_wp2
  go_ret
  exact ⟨rfl, rfl⟩

theorem bucket_any (a m : Int) (h0 : 0 ≤ a) (h : 1 ≤ m) (h2 : m ≤ 9223372036854775807) (w : World) :
    Calls Try.prog 23 #[.int .u32 a, .int .i64 m] w fun e w' => e = .returned (.int .i64 (hMix a % m)) ∧ w = w' := by
  have a0 := hMix_lo a
  have a1 := hMix_hi a
  go_enter Try.func23, Try.ntmps23
  go_wp2_with (go_at_call 20; refine (mix_any _ h0 _).mono ?_; rintro e w' ⟨rfl, rfl⟩)
  go_ret
  exact ⟨hret (IntWalk.wrap64_in _ (by have := Int.emod_nonneg (hMix a) (show m ≠ 0 by omega); have := Int.emod_lt_of_pos (hMix a) (show 0 < m by omega); omega)), rfl⟩

theorem awake16_any (w : World) : Calls Try.prog 22 #[] w fun e w' => e = .returned (.bool true) ∧ w = w' := by
  have e0 : hMix 1 = 2654463886 := by decide +kernel
  have e1 : hMix 0 = 0 := by decide +kernel
  go_enter Try.func22, Try.ntmps22
  go_wp2_with (first | (go_at_call 20; refine (mix_any _ (by decide) _).mono ?_; rintro e w' ⟨rfl, rfl⟩) | (go_at_call 23; refine (bucket_none _ _ (by decide) _).mono ?_; rintro e w' ⟨rfl, rfl⟩) | (go_at_call 23; refine (bucket_any _ _ (by decide) (by decide) (by decide) _).mono ?_; rintro e w' ⟨rfl, rfl⟩))
  go_ret
  exact ⟨rfl, rfl⟩
end Go.Proofs.Ytfjddkjfkgdihaa
