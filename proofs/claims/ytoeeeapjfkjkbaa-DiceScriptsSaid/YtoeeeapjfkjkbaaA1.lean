/- Walks of layer 35 (dice): contracts of the throw, of the operation, and of the reference's. -/
import Derived.Test.YtoeeeapjfkjkbaaRows
import Derived.WalkKit
import Derived.ProofKit
import Derived.OpenShut
import Derived.Lib.Hide
namespace Go.Proofs.Ytoeeeapjfkjkbaa
open Go.RowKit
set_option linter.unusedVariables false

/-- One throw's mix, on words. -/
def rX (a b : Int) : Int := bits BinOp.xor IntKind.u64 a b
def rW (a : Int) : Int := IntKind.u64.wrap a
def rNext (s : Int) : Int := IntKind.u64.wrap (s + 11400714819323198485)
def rM (x : Int) (d : Int) : Int := bits BinOp.xor IntKind.u64 x (x / d)
def rV1 (n : Int) : Int := IntKind.u64.wrap (rM n 1073741824 * 13787848793156543929)
def rV2 (v : Int) : Int := IntKind.u64.wrap (rM v 134217728 * 10723151780598845931)
def rThrow (s : Int) : Int := rM (rV2 (rV1 (rNext s))) 2147483648

theorem ret2 {a b c d : Int} {k l : IntKind} (h : a = c) (h' : b = d) : Ending.returned (.tuple #[.int k a, .int l b]) = .returned (.tuple #[.int k c, .int l d]) := by rw [h, h']

theorem ret1 {a c : Int} {k : IntKind} (h : a = c) : Ending.returned (.int k a) = .returned (.int k c) := by rw [h]
theorem wrap_wrap (x : Int) : Hid (IntKind.u64.wrap (IntKind.u64.wrap x) = IntKind.u64.wrap x) := by
  refine Lib.hid ?_; simp only [IntKind.wrap_u64]; omega
theorem throw_any (s : Int) (w : World) :
    Calls Try.prog 10 #[.int .u64 s] w fun e w' => e = .returned (.tuple #[.int .u64 (rNext s), .int .u64 (rThrow s)]) ∧ w = w' := by
  go_enter Try.func10, Try.ntmps10
  go_wp2
  go_ret2
  exact ⟨ret2 rfl rfl, rfl⟩

/-- The product by doubling. -/
theorem mul_step (x y o : Int) (h : 0 ≤ y) : o + x * y = (o + x * (y % 2)) + (x + x) * (y / 2) := by
  have h2 : y = y % 2 + 2 * (y / 2) := by omega
  have e : x * y = x * (y % 2) + (x + x) * (y / 2) := by
    conv => lhs; rw [h2]
    rw [Int.mul_add, ← Int.mul_assoc, show x * 2 = x + x by omega]
  omega

theorem wrap_add_mul (o x y : Int) : IntKind.u64.wrap (IntKind.u64.wrap o + IntKind.u64.wrap x * y) = IntKind.u64.wrap (o + x * y) := by
  simp only [IntKind.wrap_u64]
  simp [Int.add_emod, Int.mul_emod]

theorem times_any (a b : Int) (ha : 0 ≤ b) (hb : b < 18446744073709551616) (w : World) :
    Calls Try.prog 26 #[.int .u64 a, .int .u64 b] w fun e w' => e = .returned (.int .u64 (IntKind.u64.wrap (a * b))) ∧ w = w' := by
  go_enter Try.func26, Try.ntmps26
  go_wp2
  go_loop [0, 1, 5] (fun s t u => ∃ x y o : Int, s = .int .u64 x ∧ t = .int .u64 y ∧ u = .int .u64 o ∧ 0 ≤ y ∧ y ≤ b ∧ Hid (IntKind.u64.wrap o = o) ∧ Hid (IntKind.u64.wrap (o + x * y) = IntKind.u64.wrap (a * b))) (fun _ t _ => (intOf t).toNat)
  case atStart => exact ⟨_, _, _, rfl, rfl, rfl, ha, Int.le_refl _, Lib.hid (by decide), Lib.hid (by rw [Int.zero_add])⟩
  case round =>
    obtain ⟨x, y, o, rfl, rfl, rfl, h1, h2, H2, H3⟩ := hrel
    by_cases hlt : 0 < y
    · by_cases h : y % 2 = 1
      · go_wp2
        go_round
        case rel =>
          refine ⟨_, _, _, rfl, rfl, rfl, by omega, by omega, wrap_wrap _, ?_⟩
          have := H3.out
          refine Lib.hid ?_
          rw [wrap_add_mul, ← this, mul_step x y o h1, h, Int.mul_one]
        case measure => simp [intOf]; omega
      · go_wp2
        go_round
        case rel =>
          refine ⟨_, _, _, rfl, rfl, rfl, by omega, by omega, H2, ?_⟩
          have := H3.out
          refine Lib.hid ?_
          rw [← this, mul_step x y o h1, show y % 2 = 0 by omega, Int.mul_zero, Int.add_zero]
          have := wrap_add_mul o (x + x) (y / 2)
          simp only [IntKind.wrap_u64] at this ⊢
          simp [Int.add_emod, Int.mul_emod]
        case measure => simp [intOf]; omega
    · obtain rfl : y = 0 := by omega
      go_wp2
      go_ret
      refine ⟨ret1 ?_, rfl⟩
      have h := H3.out
      rw [Int.mul_zero, Int.add_zero, H2.out] at h
      exact h

theorem mixed_any (a : Int) (b : Nat) (ha : 0 ≤ a) (ha' : a < 18446744073709551616) (hb : b ≤ 64) (w : World) :
    Calls Try.prog 27 #[.int .u64 a, .int .i64 b] w fun e w' => e = .returned (.int .u64 (rM a (2 ^ b))) ∧ w = w' := by
  go_enter Try.func27, Try.ntmps27
  go_wp2
  go_loop [5, 6] (fun s t => ∃ k : Nat, k ≤ b ∧ t = .int .i64 k ∧ s = .int .u64 (a / (2 ^ k))) (fun _ t => b - (intOf t).toNat)
  case atStart => exact ⟨0, by omega, rfl, by simp⟩
  case round =>
    obtain ⟨k, h1, rfl, rfl⟩ := hrel
    have q0 : 0 ≤ a / 2 ^ k := Int.ediv_nonneg ha (Int.le_of_lt (Int.pow_pos (by decide)))
    have q1 : a / 2 ^ k ≤ 18446744073709551615 := by have := Int.ediv_le_self (2 ^ k) ha; omega
    have q2 : a / 2 ^ (k + 1) = a / 2 ^ k / 2 := by rw [Int.pow_succ, Int.ediv_ediv_of_nonneg (Int.le_of_lt (Int.pow_pos (by decide)))]
    obtain ⟨q, hq⟩ : ∃ q, q = a / 2 ^ k := ⟨_, rfl⟩
    rw [← hq] at q0 q1 q2 ⊢
    have HQ := Lib.hid hq; clear hq
    have Q2 := Lib.hid q2; clear q2
    by_cases hlt : k < b
    · go_wp2
      go_round
      case rel => exact ⟨k + 1, by omega, by go_num, by rw [Q2.out]⟩
      case measure => simp [intOf]; omega
    · obtain rfl : k = b := by omega
      go_wp2
      go_ret
      exact ⟨ret1 (by unfold rM; rw [← HQ.out]), rfl⟩

theorem mixed_at (a b d : Int) (ha : 0 ≤ a) (ha' : a < 18446744073709551616) (hb0 : 0 ≤ b) (hb : b ≤ 64) (hd : d = 2 ^ b.toNat) (w : World) :
    Calls Try.prog 27 #[.int .u64 a, .int .i64 b] w fun e w' => e = .returned (.int .u64 (rM a d)) ∧ w = w' := by
  obtain ⟨n, rfl⟩ := Int.eq_ofNat_of_zero_le hb0
  rw [hd, Int.toNat_natCast]
  exact mixed_any a n ha ha' (by omega) w

theorem u64_lo (x : Int) : 0 ≤ IntKind.u64.wrap x := by simp only [IntKind.wrap_u64]; omega
theorem u64_hi (x : Int) : IntKind.u64.wrap x < 18446744073709551616 := by simp only [IntKind.wrap_u64]; omega

theorem refThrow_any (s : Int) (w : World) :
    Calls Try.prog 17 #[.int .u64 s] w fun e w' => e = .returned (.tuple #[.int .u64 (rNext s), .int .u64 (rThrow s)]) ∧ w = w' := by
  go_enter Try.func17, Try.ntmps17
  go_wp2_with fail
  refine (mixed_at _ _ 1073741824 (u64_lo _) (u64_hi _) (by decide) (by decide) (by decide) _).mono ?_
  rintro e w' ⟨rfl, rfl⟩
  go_wp2_with fail
  refine (times_any _ _ (by decide) (by decide) _).mono ?_
  rintro e w' ⟨rfl, rfl⟩
  go_wp2_with fail
  refine (mixed_at _ _ 134217728 (u64_lo _) (u64_hi _) (by decide) (by decide) (by decide) _).mono ?_
  rintro e w' ⟨rfl, rfl⟩
  go_wp2_with fail
  refine (times_any _ _ (by decide) (by decide) _).mono ?_
  rintro e w' ⟨rfl, rfl⟩
  go_wp2_with fail
  refine (mixed_at _ _ 2147483648 (u64_lo _) (u64_hi _) (by decide) (by decide) (by decide) _).mono ?_
  rintro e w' ⟨rfl, rfl⟩
  go_wp2_with fail
  go_ret2
  exact ⟨ret2 rfl rfl, rfl⟩

/-- The operation made of a throw. -/
def rKind (v : Int) : Int := 1 + v % 8
def rKey (v : Int) : Int := v / 256 % 5
def rVal (v : Int) : Int := v / 65536 % 1000

theorem rThrow_lo (s : Int) : 0 ≤ rThrow s := (bits_within .xor .u64 _ _).1
theorem rThrow_hi (s : Int) : rThrow s ≤ 18446744073709551615 := (bits_within .xor .u64 _ _).2

def OpsTo (s : Int) (w : World) (e : Ending) (w' : World) : Prop :=
  e = .returned (.tuple #[.int .u64 (rNext s), .agg #[.int .i64 (rKind (rThrow s)), .int .u32 (rKey (rThrow s)), .int .u32 (rVal (rThrow s))]]) ∧ ∃ c, w' = w.alloc (.cells c 36)

theorem op_any (s : Int) (w : World) : Calls Try.prog 29 #[.int .u64 s] w (OpsTo s w) := by
  have h0 := rThrow_lo s
  have h1 := rThrow_hi s
  go_enter Try.func29, Try.ntmps29
  go_wp2_with (go_at_call 10; refine (throw_any _ _).mono ?_; rintro e w' ⟨rfl, rfl⟩)
  refine bodyPost_ret (v := .tuple #[.int .u64 (rNext s), .agg #[.int .i64 (rKind (rThrow s)), .int .u32 (rKey (rThrow s)), .int .u32 (rVal (rThrow s))]]) (by simp [results, Try.results29, go_sem, rKind, rKey, rVal]) rfl ⟨rfl, _, rfl⟩
theorem refOp_any (s : Int) (w : World) : Calls Try.prog 18 #[.int .u64 s] w (OpsTo s w) := by
  have h0 := rThrow_lo s
  have h1 := rThrow_hi s
  go_enter Try.func18, Try.ntmps18
  go_wp2_with (go_at_call 17; refine (refThrow_any _ _).mono ?_; rintro e w' ⟨rfl, rfl⟩)
  refine bodyPost_ret (v := .tuple #[.int .u64 (rNext s), .agg #[.int .i64 (rKind (rThrow s)), .int .u32 (rKey (rThrow s)), .int .u32 (rVal (rThrow s))]]) (by simp [results, Try.results18, go_sem, rKind, rKey, rVal]) rfl ⟨rfl, _, rfl⟩

theorem awake_any (w : World) : Calls Try.prog 5 #[] w fun e w' => e = .returned (.bool true) ∧ w = w' := by
  have e0 : (rThrow 0 == 16294208416658607535) = true := by decide +kernel
  have e1 : (rNext 0 == 11400714819323198485) = true := by decide +kernel
  go_enter Try.func5, Try.ntmps5
  go_wp2_with (go_at_call 10; refine (throw_any _ _).mono ?_; rintro e w' ⟨rfl, rfl⟩)
  go_ret
  exact ⟨rfl, rfl⟩

end Go.Proofs.Ytoeeeapjfkjkbaa
