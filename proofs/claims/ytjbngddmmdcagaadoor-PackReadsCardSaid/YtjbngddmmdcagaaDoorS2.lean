/- Layer 2: the sum of words. -/
import Derived.Test.YtjbngddmmdcagaaDoorS1
namespace Go.Proofs.YtjbngddmmdcagaaDoor
open Go.RowKit Go.BigFrame
set_option linter.unusedVariables false
set_option linter.unusedSimpArgs false

/-- Words that lie below B. -/
def WordsAt (B : Nat) (W : World) (a : Option Addr) (n : Nat) (f : Nat → Nat) : Prop :=
  ∃ b off, (0 < n → a = some ⟨b, off, none⟩ ∧ b < B) ∧ ∀ j, j < n → W.cell? ⟨b, off + j, none⟩ = some (.int .u64 (f j))
theorem WordsAt.below {B B' : Nat} {W W' : World} {a : Option Addr} {n : Nat} {f : Nat → Nat} (h : WordsAt B W a n f) (hb : Below B' W W') (hB : B ≤ B') : WordsAt B W' a n f := by
  obtain ⟨b, off, ha, hc⟩ := h
  exact ⟨b, off, ha, fun j hj => (hb.cell (p := ⟨b, off + j, none⟩) (by have := (ha (by omega)).2; show b < B'; omega)).trans (hc j hj)⟩
theorem WordsAt.mono {B B' : Nat} {W : World} {a : Option Addr} {n : Nat} {f : Nat → Nat} (h : WordsAt B W a n f) (hB : B ≤ B') : WordsAt B' W a n f := by
  obtain ⟨b, off, ha, hc⟩ := h
  exact ⟨b, off, fun h => ⟨(ha h).1, by have := (ha h).2; omega⟩, hc⟩
theorem begin39 (w : World) : Calls Tryd.prog 39 #[] w (Says (.int .u32 ones) w) := by
  go_enter Tryd.func39, Tryd.ntmps39
  go_wp2_with fail
  go_ret
  exact ⟨rfl, rfl⟩
theorem xor_ones (s : Nat) (hs : s < 4294967296) : 4294967295 ^^^ s = ones - s := by
  have e : ones - s = 2 ^ 32 - (s + 1) := by unfold ones; omega
  have e1 : (4294967295 : Nat) = 2 ^ 32 - (0 + 1) := rfl
  apply Nat.eq_of_testBit_eq
  intro i
  rw [e, Nat.testBit_xor, Nat.testBit_two_pow_sub_succ hs, e1, Nat.testBit_two_pow_sub_succ (by decide)]
  rw [Nat.zero_testBit]
  by_cases h : i < 32
  · simp [h]
  · have : s.testBit i = false := Nat.testBit_lt_two_pow (Nat.lt_of_lt_of_le hs (Nat.pow_le_pow_right (n := 2) (by decide) (by omega : 32 ≤ i)))
    simp [h, this]
theorem end41 (s : Nat) (hs : s < 4294967296) (w : World) : Calls Tryd.prog 41 #[.int .u32 s] w (Says (.int .u32 ((ones - s : Nat) : Int)) w) := by
  unfold Says
  go_enter Tryd.func41, Tryd.ntmps41
  go_wp2_with fail
  have e := xor_u32 4294967295 s (by decide) hs
  rw [xor_ones s hs] at e
  go_ret
  exact ⟨by rw [← e]; rfl, rfl⟩
theorem bitsAll_next (f : Nat → Nat) (k : Nat) : ((List.range (k + 1)).flatMap fun j => bitsOf 64 (f j)) = ((List.range k).flatMap fun j => bitsOf 64 (f j)) ++ bitsOf 64 (f k) := by
  rw [List.range_succ, List.flatMap_append]; simp
theorem sum20 (a : Option Addr) (n cap : Nat) (hn : n ≤ 9223372036854775807) (f : Nat → Nat) (hf : ∀ j, f j < 18446744073709551616) (w : World) (h : WordsAt w.heap.size w a n f) :
    Calls Tryd.prog 20 #[.slice a n cap] w (Says (.int .u32 (sumW f n)) w) := by
  unfold Says
  obtain ⟨b, off, ha, hc⟩ := h
  have HA := Lib.hid ha
  have HC := Lib.hid hc
  have HF := Lib.hid hf
  clear ha hc hf
  go_enter Tryd.func20, Tryd.ntmps20
  go_wp2_with (go_at_call 39; (with_reducible refine (begin39 _).mono ?_); rintro e w1 ⟨rfl, hw⟩; cases hw)
  go_loop [3, 9] (fun v0 i => ∃ (k t : Nat), k ≤ n ∧ t < 4294967296 ∧ v0 = .int .u32 t ∧ i = .int .i64 k ∧ Hid (crcBits ones ((List.range k).flatMap fun j => bitsOf 64 (f j)) = t)) (fun _ i => n - (intOf i).toNat)
  case atStart => exact ⟨0, ones, by omega, by decide, rfl, rfl, rfl⟩
  case round =>
    obtain ⟨k, t, hk, ht, rfl, rfl, HE⟩ := hrel
    by_cases hlt : k < n
    · obtain ⟨rfl, hb⟩ := HA.out (by omega)
      have c1 := HC.out k hlt
      have d1 : decide ((k : Int) < (n : Int)) = true := bool_yes (by omega)
      have hn : Hid (crcBits ones ((List.range (k + 1)).flatMap fun j => bitsOf 64 (f j)) = crcBits t (bitsOf 64 (f k))) := by
        unfold Hid
        rw [bitsAll_next, crcBits_append, HE.out]
      have hl := crcBits_lt (bitsOf 64 (f k)) t (by omega)
      go_wp2_with (go_at_call 40; (with_reducible refine (word40 t (f k) ht (HF.out k) _).mono ?_); rintro e w1 ⟨rfl, hw⟩; cases hw)
      go_round
      case rel => exact ⟨k + 1, _, by omega, by omega, rfl, by go_num, hn⟩
      case measure => simp [intOf]; omega
    · obtain rfl : k = n := by omega
      have d1 : decide ((k : Int) < (k : Int)) = false := by simp
      go_wp2_with (go_at_call 41; (with_reducible refine (end41 t ht _).mono ?_); rintro e w1 ⟨rfl, hw⟩; cases hw)
      go_ret
      exact ⟨by unfold sumW; rw [HE.out]; rfl, rfl⟩
end Go.Proofs.YtjbngddmmdcagaaDoor
