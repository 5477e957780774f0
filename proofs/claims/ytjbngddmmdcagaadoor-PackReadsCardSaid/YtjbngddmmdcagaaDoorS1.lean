/- Layer 2: sums. -/
import Derived.Test.YtjbngddmmdcagaaDoorH1
namespace Go.Proofs.YtjbngddmmdcagaaDoor
open Go.RowKit Go.BigFrame
set_option linter.unusedVariables false
set_option linter.unusedSimpArgs false

theorem xor_u32 (x y : Nat) (hx : x < 4294967296) (hy : y < 4294967296) : bits BinOp.xor IntKind.u32 (x : Int) (y : Int) = ((x ^^^ y : Nat) : Int) := by
  have h : x ^^^ y < 4294967296 := Nat.xor_lt_two_pow (n := 32) hx hy
  have e : (BitVec.ofNat 32 x ^^^ BitVec.ofNat 32 y).toNat = x ^^^ y := by
    rw [BitVec.toNat_xor, BitVec.toNat_ofNat, BitVec.toNat_ofNat, Nat.mod_eq_of_lt hx, Nat.mod_eq_of_lt hy]
  simp only [bits, BitVec.ofInt_natCast]
  show IntKind.u32.wrap ((BitVec.ofNat 32 x ^^^ BitVec.ofNat 32 y).toNat : Int) = _
  rw [e, IntKind.wrap_u32]; omega
theorem and1_u32 (x : Nat) (hx : x < 4294967296) : bits BinOp.and IntKind.u32 (x : Int) 1 = ((x % 2 : Nat) : Int) := by
  have e : (BitVec.ofNat 32 x &&& BitVec.ofNat 32 1).toNat = x % 2 := by
    rw [BitVec.toNat_and, BitVec.toNat_ofNat, BitVec.toNat_ofNat, Nat.mod_eq_of_lt hx]
    exact Nat.and_one_is_mod x
  simp only [bits, BitVec.ofInt_natCast]
  show IntKind.u32.wrap ((BitVec.ofNat 32 x &&& BitVec.ofInt 32 1).toNat : Int) = _
  rw [show BitVec.ofInt 32 1 = BitVec.ofNat 32 1 from rfl, e, IntKind.wrap_u32]; omega
theorem crcBit_mod (s b : Nat) : crcBit s (b % 2) = crcBit s b := by
  unfold crcBit
  have h : ∀ x y : Nat, (x ^^^ y) % 2 = (x + y) % 2 := fun x y => by
    have := bitAt_xor x y 0
    unfold bitAt at this
    simp at this
    omega
  rw [h, h]
  have : (s + b % 2) % 2 = (s + b) % 2 := by omega
  rw [this]
theorem bit65 (s b : Nat) (hs : s < 4294967296) (hb : b < 4294967296) (w : World) : Calls Tryd.prog 65 #[.int .u32 s, .int .u32 b] w (Says (.int .u32 (crcBit s b)) w) := by
  unfold Says
  have e1 := xor_u32 s b hs hb
  have hx : s ^^^ b < 4294967296 := Nat.xor_lt_two_pow (n := 32) hs hb
  have e2 := and1_u32 (s ^^^ b) hx
  have e3 := xor_u32 (s / 2) poly (by omega) (by unfold poly; omega)
  have hc : crcBit s b = if (s ^^^ b) % 2 = 1 then (s / 2) ^^^ poly else s / 2 := rfl
  have e4 : (((s / 2 : Nat) : Int)) = (s : Int) / 2 := by omega
  have e5 : ((poly : Nat) : Int) = 2197175160 := rfl
  rw [e4, e5] at e3
  generalize s ^^^ b = x at *
  generalize (s / 2) ^^^ poly = y at *
  by_cases h : x % 2 = 1
  · rw [if_pos h] at hc
    have d1 : (((x % 2 : Nat) : Int) == 1) = true := by rw [h]; rfl
    go_enter Tryd.func65, Tryd.ntmps65
    go_wp2_with fail
    go_ret
    exact ⟨by rw [hc]; rfl, rfl⟩
  · rw [if_neg h] at hc
    have d1 : (((x % 2 : Nat) : Int) == 1) = false := by rw [show x % 2 = 0 by omega]; rfl
    go_enter Tryd.func65, Tryd.ntmps65
    go_wp2_with fail
    go_ret
    exact ⟨by rw [hc, e4]; rfl, rfl⟩
theorem bit65' (z : Int) (s b : Nat) (hz : z = (b : Int)) (hs : s < 4294967296) (hb : b < 4294967296) (w : World) : Calls Tryd.prog 65 #[.int .u32 s, .int .u32 z] w (Says (.int .u32 (crcBit s b)) w) := by
  subst hz; exact bit65 s b hs hb w
theorem shr_nat (b k : Nat) : ((b : Int) / 2 ^ k) = ((b / 2 ^ k : Nat) : Int) := by simp
theorem bitsOf_next (b k n : Nat) : bitsOf (n + 1) (b / 2 ^ k) = (b / 2 ^ k) % 2 :: bitsOf n (b / 2 ^ (k + 1)) := by
  rw [bitsOf, Nat.div_div_eq_div_mul, Nat.pow_succ]
theorem byte53 (s b : Nat) (hs : s < 4294967296) (hb : b < 256) (w : World) : Calls Tryd.prog 53 #[.int .u32 s, .int .u8 b] w (Says (.int .u32 (crcBits s (bitsOf 8 b))) w) := by
  unfold Says
  go_enter Tryd.func53, Tryd.ntmps53
  go_wp2_with fail
  go_loop [0, 6] (fun v0 i => ∃ (k t : Nat), k ≤ 8 ∧ t < 4294967296 ∧ v0 = .int .u32 t ∧ i = .int .i64 k ∧ Hid (crcBits s (bitsOf 8 b) = crcBits t (bitsOf (8 - k) (b / 2 ^ k)))) (fun _ i => 8 - (intOf i).toNat)
  case atStart => exact ⟨0, s, by omega, hs, rfl, rfl, by simp [Hid]⟩
  case round =>
    obtain ⟨k, t, hk, ht, rfl, rfl, HE⟩ := hrel
    by_cases hlt : k < 8
    · have hd : b / 2 ^ k < 256 := Nat.lt_of_le_of_lt (Nat.div_le_self _ _) hb
      have HZ : Hid (((b : Int) / 2 ^ k % 4294967296) = ((b / 2 ^ k : Nat) : Int)) := Lib.hid (by rw [shr_nat]; generalize b / 2 ^ k = q at hd ⊢; omega)
      have hn : Hid (crcBits s (bitsOf 8 b) = crcBits (crcBit t (b / 2 ^ k)) (bitsOf (8 - (k + 1)) (b / 2 ^ (k + 1)))) := by
        unfold Hid
        rw [HE.out, show 8 - k = (8 - (k + 1)) + 1 by omega, bitsOf_next, crcBits, crcBit_mod]
      have hl := crcBit_lt t (b / 2 ^ k) (by omega)
      go_wp2_with (go_at_call 65; (with_reducible refine (bit65' _ t (b / 2 ^ k) HZ.out ht (by omega) _).mono ?_); rintro e w1 ⟨rfl, hw⟩; cases hw)
      go_round
      case rel => exact ⟨k + 1, _, by omega, by omega, rfl, by go_num, hn⟩
      case measure => simp [intOf]; omega
    · obtain rfl : k = 8 := by omega
      go_wp2_with fail
      go_ret
      exact ⟨by rw [HE.out]; rfl, rfl⟩
theorem byte53' (z : Int) (s b : Nat) (hz : z = (b : Int)) (hs : s < 4294967296) (hb : b < 256) (w : World) : Calls Tryd.prog 53 #[.int .u32 s, .int .u8 z] w (Says (.int .u32 (crcBits s (bitsOf 8 b))) w) := by
  subst hz; exact byte53 s b hs hb w
theorem word40 (s x : Nat) (hs : s < 4294967296) (hx : x < 18446744073709551616) (w : World) : Calls Tryd.prog 40 #[.int .u32 s, .int .u64 x] w (Says (.int .u32 (crcBits s (bitsOf 64 x))) w) := by
  unfold Says
  go_enter Tryd.func40, Tryd.ntmps40
  go_wp2_with fail
  go_loop [0, 6] (fun v0 i => ∃ (k t : Nat), k ≤ 8 ∧ t < 4294967296 ∧ v0 = .int .u32 t ∧ i = .int .i64 k ∧ Hid (crcBits s (bitsOf 64 x) = crcBits t (bitsOf (8 * (8 - k)) (x / 2 ^ (8 * k))))) (fun _ i => 8 - (intOf i).toNat)
  case atStart => exact ⟨0, s, by omega, hs, rfl, rfl, by simp [Hid]⟩
  case round =>
    obtain ⟨k, t, hk, ht, rfl, rfl, HE⟩ := hrel
    by_cases hlt : k < 8
    · have e0 : IntKind.i64.wrap (8 * (k : Int)) = ((8 * k : Nat) : Int) := by rw [IntKind.wrap_i64]; omega
      have HZ : Hid (((x : Int) / 2 ^ (8 * k) % 256) = ((x / 2 ^ (8 * k) % 256 : Nat) : Int)) := Lib.hid (by rw [shr_nat]; omega)
      have hn : Hid (crcBits s (bitsOf 64 x) = crcBits (crcBits t (bitsOf 8 (x / 2 ^ (8 * k) % 256))) (bitsOf (8 * (8 - (k + 1))) (x / 2 ^ (8 * (k + 1))))) := by
        unfold Hid
        rw [HE.out, show 8 * (8 - k) = 8 + 8 * (8 - (k + 1)) by omega, bitsOf_append, crcBits_append, Nat.div_div_eq_div_mul, ← Nat.pow_add, show 8 * k + 8 = 8 * (k + 1) by omega]
        rw [show bitsOf 8 (x / 2 ^ (8 * k) % 256) = bitsOf 8 (x / 2 ^ (8 * k)) from bitsOf_mod 8 _]
      have hl := crcBits_lt (bitsOf 8 (x / 2 ^ (8 * k) % 256)) t (by omega)
      go_wp2_with (go_at_call 53; (with_reducible refine (byte53' _ t (x / 2 ^ (8 * k) % 256) HZ.out ht (Nat.mod_lt _ (by decide)) _).mono ?_); rintro e w1 ⟨rfl, hw⟩; cases hw)
      go_round
      case rel => exact ⟨k + 1, _, by omega, by omega, rfl, by go_num, hn⟩
      case measure => simp [intOf]; omega
    · obtain rfl : k = 8 := by omega
      go_wp2_with fail
      go_ret
      exact ⟨by rw [HE.out]; rfl, rfl⟩
end Go.Proofs.YtjbngddmmdcagaaDoor
