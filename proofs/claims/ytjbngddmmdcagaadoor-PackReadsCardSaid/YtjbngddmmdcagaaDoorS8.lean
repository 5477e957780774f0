/- Layer 2, the document's: the sum of words. -/
import Derived.Test.YtjbngddmmdcagaaDoorS7
import Derived.Test.YtjbngddmmdcagaaDoorH2
namespace Go.Proofs.YtjbngddmmdcagaaDoor
open Go.RowKit Go.BigFrame
set_option linter.unusedVariables false
set_option linter.unusedSimpArgs false

/-- A row of values. -/
def valsL (g : Nat → Value) (n : Nat) : List Value := (List.range n).map g
theorem valsL_next (g : Nat → Value) (n : Nat) : valsL g (n + 1) = valsL g n ++ [g n] := by simp [valsL, List.range_succ]
theorem valsL_get (g : Nat → Value) (n j : Nat) (h : j < n) : (valsL g n)[j]?.getD undef = g j := by
  unfold valsL; rw [List.getElem?_map, List.getElem?_range h]; rfl
def byteAt (f : Nat → Nat) (j : Nat) : Nat := f (j / 8) / 256 ^ (j % 8) % 256
theorem byteAt_at (f : Nat → Nat) (k q : Nat) (h : q < 8) : byteAt f (8 * k + q) = f k / 256 ^ q % 256 := by
  unfold byteAt; rw [show (8 * k + q) / 8 = k by omega, show (8 * k + q) % 8 = q by omega]
theorem word_bits (x : Nat) : bitsOf 64 x = bitsOf 8 (x / 256 ^ 0 % 256) ++ bitsOf 8 (x / 256 ^ 1 % 256) ++ bitsOf 8 (x / 256 ^ 2 % 256) ++ bitsOf 8 (x / 256 ^ 3 % 256) ++ bitsOf 8 (x / 256 ^ 4 % 256) ++ bitsOf 8 (x / 256 ^ 5 % 256) ++ bitsOf 8 (x / 256 ^ 6 % 256) ++ bitsOf 8 (x / 256 ^ 7 % 256) := by
  have e : ∀ q, bitsOf 8 (x / 256 ^ q % 256) = bitsOf 8 (x / 2 ^ (8 * q)) := fun q => by
    rw [show bitsOf 8 (x / 256 ^ q % 256) = bitsOf 8 (x / 256 ^ q) from bitsOf_mod 8 _, show (256 : Nat) = 2 ^ 8 from rfl, ← Nat.pow_mul]
  rw [e, e, e, e, e, e, e, e]
  have s : ∀ a, bitsOf (8 + a) x = bitsOf 8 x ++ bitsOf a (x / 2 ^ 8) := fun a => bitsOf_append 8 a x
  have g : ∀ a b, bitsOf (a + b) x = bitsOf a x ++ bitsOf b (x / 2 ^ a) := fun a b => bitsOf_append a b x
  rw [show 64 = 56 + 8 from rfl, g, show 56 = 48 + 8 from rfl, g, show 48 = 40 + 8 from rfl, g, show 40 = 32 + 8 from rfl, g, show 32 = 24 + 8 from rfl, g, show 24 = 16 + 8 from rfl, g, show 16 = 8 + 8 from rfl, g]
  simp
theorem byteBits_words (f : Nat → Nat) : ∀ n, byteBits (byteAt f) (8 * n) = (List.range n).flatMap fun j => bitsOf 64 (f j)
  | 0 => rfl
  | n + 1 => by
    rw [bitsAll_next, ← byteBits_words f n, show 8 * (n + 1) = 8 * n + 7 + 1 by omega]
    rw [byteBits_next, byteBits_next, byteBits_next, byteBits_next, byteBits_next, byteBits_next, byteBits_next, byteBits_next, word_bits]
    rw [byteAt_at f n 7 (by omega), byteAt_at f n 6 (by omega), byteAt_at f n 5 (by omega), byteAt_at f n 4 (by omega), byteAt_at f n 3 (by omega), byteAt_at f n 2 (by omega), byteAt_at f n 1 (by omega)]
    rw [show byteAt f (8 * n) = f n / 256 ^ 0 % 256 from byteAt_at f n 0 (by omega)]
    simp only [List.append_assoc]
theorem byteAt_lt (f : Nat → Nat) (j : Nat) : byteAt f j < 256 := Nat.mod_lt _ (by decide)
set_option maxRecDepth 100000 in
set_option maxHeartbeats 8000000 in
theorem words31 (f : Nat → Nat) (hf : ∀ j, f j < 18446744073709551616) (n : Nat) (hn : n ≤ 10000) (a : Option Addr) (cap : Nat) (w : World) (h : WordsAt w.heap.size w a n f) :
    Calls Tryd.prog 31 #[.slice a n cap] w fun e w' => e = .returned (.int .u32 (sumW f n)) ∧ Below w.heap.size w w' := by
  obtain ⟨i5, hi, hz0, hz1, hz2⟩ := info_parts info5
  obtain ⟨B, hB⟩ : ∃ B, B = w.heap.size := ⟨_, rfl⟩
  obtain ⟨b, off, ha, hc⟩ := h
  rw [← hB] at ha ⊢
  have HB := Lib.hid hB
  have HA := Lib.hid ha
  have HC := Lib.hid hc
  have HF := Lib.hid hf
  obtain ⟨fb, hfb⟩ : ∃ fb, fb = byteAt f := ⟨_, rfl⟩
  have HFB : Hid (∀ k q, q < 8 → fb (8 * k + q) = f k / 256 ^ q % 256) := Lib.hid (by rw [hfb]; exact byteAt_at f)
  obtain ⟨g, hg⟩ : ∃ g : Nat → Value, g = fun j => .int .u8 (Int.ofNat (fb j)) := ⟨_, rfl⟩
  have HG : Hid (∀ j, g j = .int .u8 (Int.ofNat (fb j))) := Lib.hid fun j => by rw [hg]
  have HE := Lib.hid (And.intro hfb hg)
  clear ha hc hB hf hfb hg
  go_enter Tryd.func31, Tryd.ntmps31
  go_wp2_with fail
  go_loopw [3, 4] (fun v i wr => ∃ k : Nat, k ≤ n ∧ i = .int .i64 k ∧ Hid (wr.ownsRow B 5 1 v (8 * k) (valsL g (8 * k))) ∧ Hid (Below B w wr)) (fun _ i _ => n - (intOf i).toNat)
  case atStart => exact ⟨0, by omega, rfl, World.ownsRow_nil _ _ _ _, by rw [HB.out]; exact Below.refl _ _⟩
  case round =>
    obtain ⟨k, hk, rfl, HO, HBE⟩ := hrel
    by_cases hlt : k < n
    · have d1 : decide ((k : Int) < (n : Int)) = true := bool_yes (by omega)
      obtain ⟨rfl, hb⟩ := HA.out (by omega)
      have e1 : wr.cell? ⟨b, off + k, none⟩ = some (.int .u64 (f k)) := by rw [HBE.out.cell (p := ⟨b, off + k, none⟩) hb, HC.out k hlt]
      have hfk := HF.out k
      have HFk : Hid (∀ q, q < 8 → fb (8 * k + q) = f k / 256 ^ q % 256) := Lib.hid (HFB.out k)
      generalize f k = x at *
      go_wp2_with fail
      clear e1
      go_loopw [3, 5, 6] (fun v y i wr => ∃ (m z : Nat), m ≤ 8 ∧ z < 18446744073709551616 ∧ i = .int .i64 m ∧ y = .int .u64 z ∧ Hid (z = x / 256 ^ m) ∧ Hid (wr.ownsRow B 5 1 v (8 * k + m) (valsL g (8 * k + m))) ∧ Hid (Below B w wr)) (fun _ _ i _ => 8 - (intOf i).toNat)
      case atStart => exact ⟨0, x, by omega, hfk, rfl, rfl, by simp [Hid], HO, HBE⟩
      case round =>
        clear HO HBE
        obtain ⟨m, z, hm, hz, rfl, rfl, HZ, HO, HBE⟩ := hrel
        have hBw : B ≤ wr.heap.size := by have := HBE.out.size; have := HB.out; omega
        have q1 : 8 * k + m + 1 ≤ maxLen := by unfold maxLen; omega
        have q2 : (8 * k + m + 1) * 1 ≤ 140737488355328 := by omega
        obtain ⟨va, vc, rfl⟩ := own_slice_n HO.out
        by_cases hlt8 : m < 8
        · have d2 : decide ((m : Int) < 8) = true := bool_yes (by omega)
          have HY : Hid (g (8 * k + m) = .int .u8 ((z : Int) % 256)) := Lib.hid (by rw [HG.out, HFk.out m hlt8, ← HZ.out]; rfl)
          have HZ' : Hid (z / 256 = x / 256 ^ (m + 1)) := Lib.hid (by rw [HZ.out, Nat.div_div_eq_div_mul, Nat.pow_succ])
          go_wp2_with (at_builtin; refine wpList_push rfl (.tmp 21) (.tmp 25) 44 rfl B 5 i5 (.int .u8 0) 1 1 Tryd.underlying44 hi hz0 hz1 hz2 rfl (by decide) wr hBw (.slice va (8 * k + m) vc) (8 * k + m) (valsL g (8 * k + m)) rfl HO.out #[.int .u8 ((z : Int) % 256)] 1 1 rfl rfl (by simp [Value.oneCell']) q1 q2 ?_; intro v' w' ho' hg' hb' hn'; have HO' := Lib.hid ho'; have HB' := Lib.hid (hb' _ _ HBE.out (Nat.le_refl _)); clear ho' hg' hb' hn')
          go_wp2_with fail
          go_roundw
          case rel => exact ⟨m + 1, z / 256, by omega, by omega, by go_num, by go_num, HZ', Lib.hid (by rw [← Nat.add_assoc, valsL_next, HY.out]; exact HO'.out), HB'⟩
          case measure => simp [intOf]; omega
        · obtain rfl : m = 8 := by omega
          go_wp2_with fail
          go_roundw
          case rel => exact ⟨k + 1, by omega, by go_num, HO, HBE⟩
          case measure => simp [intOf]; omega
    · obtain rfl : k = n := by omega
      have d1 : decide ((k : Int) < (k : Int)) = false := by simp
      obtain ⟨va, vc, rfl⟩ := own_slice_n HO.out
      obtain ⟨a', c', hv, hat⟩ := own_at HO.out
      obtain ⟨rfl, rfl⟩ : va = a' ∧ vc = c' := by cases hv; exact ⟨rfl, rfl⟩
      have HM : Hid (Calls Tryd.prog 47 #[.slice va (8 * k) vc] wr fun e w' => e = .returned (.int .u32 (sumW f k)) ∧ Below wr.heap.size wr w') := Lib.hid (by
        have h1 : CellsAt wr.heap.size wr va (8 * k) fun j => .int .u8 (fb j) := by
          obtain ⟨b', o', h1, h2⟩ := hat
          exact ⟨b', o', h1, fun j hj => by rw [h2 j hj]; show some ((valsL g (8 * k))[j]?.getD undef) = _; rw [valsL_get g _ j hj, HG.out]; rfl⟩
        have h2 := bytes47 fb (by rw [HE.out.1]; exact byteAt_lt f) (8 * k) (by omega) va vc wr h1
        have h3 : ones - crcBits ones (byteBits fb (8 * k)) = sumW f k := by rw [HE.out.1, byteBits_words]; rfl
        rw [h3] at h2; exact h2)
      clear hv hat
      go_wp2_with (go_at_call 47; (with_reducible refine HM.out.mono ?_); rintro e w2 ⟨rfl, hb2⟩; have HB2 := Lib.hid hb2; clear hb2)
      go_ret
      exact ⟨rfl, HBE.out.trans (HB2.out.mono (by have := HBE.out.size; have := HB.out; omega))⟩
end Go.Proofs.YtjbngddmmdcagaaDoor
