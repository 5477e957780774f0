/- Layer 2: sums.
   Layer 2: the sum of words.
   Layer 2, the document's: bits, the divisor.
   Layer 2, the document's: the divisor; a row that is divided.
   Layer 2, the document's: the rest of a division; no program here but its rows.
   A region that draws, its last operation forced to be the last: walked without it. No program here. -/
import Derived.Test.YtkdcfijebgeajaaGreatJw4
import Derived.Test.YtkdcfijebgeajaaGreatJw3
import Derived.Test.YtkdcfijebgeajaaGreatJw1
import Derived.Deep.RegionHeld3
import Derived.StillTail
import Derived.BigQuiet
namespace Go.Proofs.YtkdcfijebgeajaaGreat
open Go.RowKit Go.BigFrame
set_option linter.unusedVariables false
set_option linter.unusedSimpArgs false
theorem xor_u32 (x y : Nat) (hx : x < 4294967296) (hy : y < 4294967296) : bits BinOp.xor IntKind.u32 (x : Int) (y : Int) = ((x ^^^ y : Nat) : Int) := by
  have h : x ^^^ y < 4294967296 := Nat.xor_lt_two_pow (n := 32) hx hy
  have e : (BitVec.ofNat 32 x ^^^ BitVec.ofNat 32 y).toNat = x ^^^ y := by
    rw [BitVec.toNat_xor, BitVec.toNat_ofNat, BitVec.toNat_ofNat, Nat.mod_eq_of_lt hx, Nat.mod_eq_of_lt hy]
  simp only [bits, BitVec.ofInt_natCast]
  show IntKind.u32.wrap ((BitVec.ofNat 32 x ^^^ BitVec.ofNat 32 y).toNat : Int) = _
  rw [e, IntKind.wrap_u32]; omega
theorem and1_u32 (x : Nat) (hx : x < 4294967296) : bits BinOp.and IntKind.u32 (x : Int) 1 = ((x % 2 : Nat) : Int) := by
  have e : (BitVec.ofNat 32 x &&& BitVec.ofNat 32 1).toNat = x % 2 := by
    rw [BitVec.toNat_and, BitVec.toNat_ofNat, BitVec.toNat_ofNat, Nat.mod_eq_of_lt hx]
    exact Nat.and_one_is_mod x
  simp only [bits, BitVec.ofInt_natCast]
  show IntKind.u32.wrap ((BitVec.ofNat 32 x &&& BitVec.ofInt 32 1).toNat : Int) = _
  rw [show BitVec.ofInt 32 1 = BitVec.ofNat 32 1 from rfl, e, IntKind.wrap_u32]; omega
theorem crcBit_mod (s b : Nat) : crcBit s (b % 2) = crcBit s b := by
  unfold crcBit
  have h : ∀ x y : Nat, (x ^^^ y) % 2 = (x + y) % 2 := fun x y => by
    have := bitAt_xor x y 0
    unfold bitAt at this
    simp at this
    omega
  rw [h, h]
  have : (s + b % 2) % 2 = (s + b) % 2 := by omega
  rw [this]
theorem bit65 (s b : Nat) (hs : s < 4294967296) (hb : b < 4294967296) (w : World) : Calls Tryz.prog 279 #[.int .u32 s, .int .u32 b] w (Says (.int .u32 (crcBit s b)) w) := by
  unfold Says
  have e1 := xor_u32 s b hs hb
  have hx : s ^^^ b < 4294967296 := Nat.xor_lt_two_pow (n := 32) hs hb
  have e2 := and1_u32 (s ^^^ b) hx
  have e3 := xor_u32 (s / 2) poly (by omega) (by unfold poly; omega)
  have hc : crcBit s b = if (s ^^^ b) % 2 = 1 then (s / 2) ^^^ poly else s / 2 := rfl
  have e4 : (((s / 2 : Nat) : Int)) = (s : Int) / 2 := by omega
  have e5 : ((poly : Nat) : Int) = 2197175160 := rfl
  rw [e4, e5] at e3
  generalize s ^^^ b = x at *
  generalize (s / 2) ^^^ poly = y at *
  by_cases h : x % 2 = 1
  · rw [if_pos h] at hc
    have d1 : (((x % 2 : Nat) : Int) == 1) = true := by rw [h]; rfl
    go_enter Tryz.func279, Tryz.ntmps279
    go_wp2_with fail
    go_ret
    exact ⟨by rw [hc]; rfl, rfl⟩
  · rw [if_neg h] at hc
    have d1 : (((x % 2 : Nat) : Int) == 1) = false := by rw [show x % 2 = 0 by omega]; rfl
    go_enter Tryz.func279, Tryz.ntmps279
    go_wp2_with fail
    go_ret
    exact ⟨by rw [hc, e4]; rfl, rfl⟩
theorem bit65' (z : Int) (s b : Nat) (hz : z = (b : Int)) (hs : s < 4294967296) (hb : b < 4294967296) (w : World) : Calls Tryz.prog 279 #[.int .u32 s, .int .u32 z] w (Says (.int .u32 (crcBit s b)) w) := by
  subst hz; exact bit65 s b hs hb w
theorem shr_nat (b k : Nat) : ((b : Int) / 2 ^ k) = ((b / 2 ^ k : Nat) : Int) := by simp
theorem bitsOf_next (b k n : Nat) : bitsOf (n + 1) (b / 2 ^ k) = (b / 2 ^ k) % 2 :: bitsOf n (b / 2 ^ (k + 1)) := by
  rw [bitsOf, Nat.div_div_eq_div_mul, Nat.pow_succ]
theorem byte53 (s b : Nat) (hs : s < 4294967296) (hb : b < 256) (w : World) : Calls Tryz.prog 251 #[.int .u32 s, .int .u8 b] w (Says (.int .u32 (crcBits s (bitsOf 8 b))) w) := by
  unfold Says
  go_enter Tryz.func251, Tryz.ntmps251
  go_wp2_with fail
  go_loop [0, 6] (fun v0 i => ∃ (k t : Nat), k ≤ 8 ∧ t < 4294967296 ∧ v0 = .int .u32 t ∧ i = .int .i64 k ∧ Hid (crcBits s (bitsOf 8 b) = crcBits t (bitsOf (8 - k) (b / 2 ^ k)))) (fun _ i => 8 - (intOf i).toNat)
  case atStart => exact ⟨0, s, by omega, hs, rfl, rfl, by simp [Hid]⟩
  case round =>
    obtain ⟨k, t, hk, ht, rfl, rfl, HE⟩ := hrel
    by_cases hlt : k < 8
    · have hd : b / 2 ^ k < 256 := Nat.lt_of_le_of_lt (Nat.div_le_self _ _) hb
      have HZ : Hid (((b : Int) / 2 ^ k % 4294967296) = ((b / 2 ^ k : Nat) : Int)) := Lib.hid (by rw [shr_nat]; generalize b / 2 ^ k = q at hd ⊢; omega)
      have hn : Hid (crcBits s (bitsOf 8 b) = crcBits (crcBit t (b / 2 ^ k)) (bitsOf (8 - (k + 1)) (b / 2 ^ (k + 1)))) := by
        unfold Hid
        rw [HE.out, show 8 - k = (8 - (k + 1)) + 1 by omega, bitsOf_next, crcBits, crcBit_mod]
      have hl := crcBit_lt t (b / 2 ^ k) (by omega)
      go_wp2_with (go_at_call 279; (with_reducible refine (bit65' _ t (b / 2 ^ k) HZ.out ht (by omega) _).mono ?_); rintro e w1 ⟨rfl, hw⟩; cases hw)
      go_round
      case rel => exact ⟨k + 1, _, by omega, by omega, rfl, by go_num, hn⟩
      case measure => simp [intOf]; omega
    · obtain rfl : k = 8 := by omega
      go_wp2_with fail
      go_ret
      exact ⟨by rw [HE.out]; rfl, rfl⟩
theorem byte53' (z : Int) (s b : Nat) (hz : z = (b : Int)) (hs : s < 4294967296) (hb : b < 256) (w : World) : Calls Tryz.prog 251 #[.int .u32 s, .int .u8 z] w (Says (.int .u32 (crcBits s (bitsOf 8 b))) w) := by
  subst hz; exact byte53 s b hs hb w
theorem word40 (s x : Nat) (hs : s < 4294967296) (hx : x < 18446744073709551616) (w : World) : Calls Tryz.prog 232 #[.int .u32 s, .int .u64 x] w (Says (.int .u32 (crcBits s (bitsOf 64 x))) w) := by
  unfold Says
  go_enter Tryz.func232, Tryz.ntmps232
  go_wp2_with fail
  go_loop [0, 6] (fun v0 i => ∃ (k t : Nat), k ≤ 8 ∧ t < 4294967296 ∧ v0 = .int .u32 t ∧ i = .int .i64 k ∧ Hid (crcBits s (bitsOf 64 x) = crcBits t (bitsOf (8 * (8 - k)) (x / 2 ^ (8 * k))))) (fun _ i => 8 - (intOf i).toNat)
  case atStart => exact ⟨0, s, by omega, hs, rfl, rfl, by simp [Hid]⟩
  case round =>
    obtain ⟨k, t, hk, ht, rfl, rfl, HE⟩ := hrel
    by_cases hlt : k < 8
    · have e0 : IntKind.i64.wrap (8 * (k : Int)) = ((8 * k : Nat) : Int) := by rw [IntKind.wrap_i64]; omega
      have HZ : Hid (((x : Int) / 2 ^ (8 * k) % 256) = ((x / 2 ^ (8 * k) % 256 : Nat) : Int)) := Lib.hid (by rw [shr_nat]; omega)
      have hn : Hid (crcBits s (bitsOf 64 x) = crcBits (crcBits t (bitsOf 8 (x / 2 ^ (8 * k) % 256))) (bitsOf (8 * (8 - (k + 1))) (x / 2 ^ (8 * (k + 1))))) := by
        unfold Hid
        rw [HE.out, show 8 * (8 - k) = 8 + 8 * (8 - (k + 1)) by omega, bitsOf_append, crcBits_append, Nat.div_div_eq_div_mul, ← Nat.pow_add, show 8 * k + 8 = 8 * (k + 1) by omega]
        rw [show bitsOf 8 (x / 2 ^ (8 * k) % 256) = bitsOf 8 (x / 2 ^ (8 * k)) from bitsOf_mod 8 _]
      have hl := crcBits_lt (bitsOf 8 (x / 2 ^ (8 * k) % 256)) t (by omega)
      go_wp2_with (go_at_call 251; (with_reducible refine (byte53' _ t (x / 2 ^ (8 * k) % 256) HZ.out ht (Nat.mod_lt _ (by decide)) _).mono ?_); rintro e w1 ⟨rfl, hw⟩; cases hw)
      go_round
      case rel => exact ⟨k + 1, _, by omega, by omega, rfl, by go_num, hn⟩
      case measure => simp [intOf]; omega
    · obtain rfl : k = 8 := by omega
      go_wp2_with fail
      go_ret
      exact ⟨by rw [HE.out]; rfl, rfl⟩
end Go.Proofs.YtkdcfijebgeajaaGreat

namespace Go.Proofs.YtkdcfijebgeajaaGreat
open Go.RowKit Go.BigFrame
set_option linter.unusedVariables false
set_option linter.unusedSimpArgs false
def WordsN (B : Nat) (W : World) (a : Option Addr) (n : Nat) (f : Nat → Nat) : Prop :=
  ∃ b off, (0 < n → a = some ⟨b, off, none⟩ ∧ b < B) ∧ ∀ j, j < n → W.cell? ⟨b, off + j, none⟩ = some (.int .u64 (f j))
theorem begin39 (w : World) : Calls Tryz.prog 231 #[] w (Says (.int .u32 ones) w) := by
  go_enter Tryz.func231, Tryz.ntmps231
  go_wp2_with fail
  go_ret
  exact ⟨rfl, rfl⟩
theorem xor_onesN (s : Nat) (hs : s < 4294967296) : 4294967295 ^^^ s = ones - s := by
  have e : ones - s = 2 ^ 32 - (s + 1) := by unfold ones; omega
  have e1 : (4294967295 : Nat) = 2 ^ 32 - (0 + 1) := rfl
  apply Nat.eq_of_testBit_eq
  intro i
  rw [e, Nat.testBit_xor, Nat.testBit_two_pow_sub_succ hs, e1, Nat.testBit_two_pow_sub_succ (by decide)]
  rw [Nat.zero_testBit]
  by_cases h : i < 32
  · simp [h]
  · have : s.testBit i = false := Nat.testBit_lt_two_pow (Nat.lt_of_lt_of_le hs (Nat.pow_le_pow_right (n := 2) (by decide) (by omega : 32 ≤ i)))
    simp [h, this]
theorem end41 (s : Nat) (hs : s < 4294967296) (w : World) : Calls Tryz.prog 233 #[.int .u32 s] w (Says (.int .u32 ((ones - s : Nat) : Int)) w) := by
  unfold Says
  go_enter Tryz.func233, Tryz.ntmps233
  go_wp2_with fail
  have e := xor_u32 4294967295 s (by decide) hs
  rw [xor_onesN s hs] at e
  go_ret
  exact ⟨by rw [← e]; rfl, rfl⟩
theorem bitsAll_next (f : Nat → Nat) (k : Nat) : ((List.range (k + 1)).flatMap fun j => bitsOf 64 (f j)) = ((List.range k).flatMap fun j => bitsOf 64 (f j)) ++ bitsOf 64 (f k) := by
  rw [List.range_succ, List.flatMap_append]; simp
theorem sum20 (a : Option Addr) (n cap : Nat) (hn : n ≤ 9223372036854775807) (f : Nat → Nat) (hf : ∀ j, f j < 18446744073709551616) (w : World) (h : WordsN w.heap.size w a n f) :
    Calls Tryz.prog 193 #[.slice a n cap] w (Says (.int .u32 (sumW f n)) w) := by
  unfold Says
  obtain ⟨b, off, ha, hc⟩ := h
  have HA := Lib.hid ha
  have HC := Lib.hid hc
  have HF := Lib.hid hf
  clear ha hc hf
  go_enter Tryz.func193, Tryz.ntmps193
  go_wp2_with (go_at_call 231; (with_reducible refine (begin39 _).mono ?_); rintro e w1 ⟨rfl, hw⟩; cases hw)
  go_loop [3, 9] (fun v0 i => ∃ (k t : Nat), k ≤ n ∧ t < 4294967296 ∧ v0 = .int .u32 t ∧ i = .int .i64 k ∧ Hid (crcBits ones ((List.range k).flatMap fun j => bitsOf 64 (f j)) = t)) (fun _ i => n - (intOf i).toNat)
  case atStart => exact ⟨0, ones, by omega, by decide, rfl, rfl, rfl⟩
  case round =>
    obtain ⟨k, t, hk, ht, rfl, rfl, HE⟩ := hrel
    by_cases hlt : k < n
    · obtain ⟨rfl, hb⟩ := HA.out (by omega)
      have c1 := HC.out k hlt
      have d1 : decide ((k : Int) < (n : Int)) = true := bool_yes (by omega)
      have hn : Hid (crcBits ones ((List.range (k + 1)).flatMap fun j => bitsOf 64 (f j)) = crcBits t (bitsOf 64 (f k))) := by
        unfold Hid
        rw [bitsAll_next, crcBits_append, HE.out]
      have hl := crcBits_lt (bitsOf 64 (f k)) t (by omega)
      go_wp2_with (go_at_call 232; (with_reducible refine (word40 t (f k) ht (HF.out k) _).mono ?_); rintro e w1 ⟨rfl, hw⟩; cases hw)
      go_round
      case rel => exact ⟨k + 1, _, by omega, by omega, rfl, by go_num, hn⟩
      case measure => simp [intOf]; omega
    · obtain rfl : k = n := by omega
      have d1 : decide ((k : Int) < (k : Int)) = false := by simp
      go_wp2_with (go_at_call 233; (with_reducible refine (end41 t ht _).mono ?_); rintro e w1 ⟨rfl, hw⟩; cases hw)
      go_ret
      exact ⟨by unfold sumW; rw [HE.out]; rfl, rfl⟩
end Go.Proofs.YtkdcfijebgeajaaGreat

namespace Go.Proofs.YtkdcfijebgeajaaGreat
open Go.RowKit Go.BigFrame
set_option linter.unusedVariables false
set_option linter.unusedSimpArgs false
def intsL (l : List Nat) : List Value := l.map fun (b : Nat) => .int .i64 (Int.ofNat b)
theorem intsL_append (l m : List Nat) : intsL (l ++ m) = intsL l ++ intsL m := by simp [intsL]
theorem intsL_get (l : List Nat) (j : Nat) (h : j < l.length) : (intsL l)[j]? = some (.int .i64 (l[j]?.getD 0 : Nat)) := by
  simp [intsL, List.getElem?_eq_getElem h]
def NewInts (l : List Nat) (w : World) (e : Ending) (w' : World) : Prop := ∃ v, e = .returned v ∧ Below w.heap.size w w' ∧ w'.ownsRow w.heap.size 3 1 v l.length (intsL l)
def CellsAt (B : Nat) (W : World) (a : Option Addr) (n : Nat) (f : Nat → Value) : Prop :=
  ∃ b off, (0 < n → a = some ⟨b, off, none⟩ ∧ b < B) ∧ ∀ j, j < n → W.cell? ⟨b, off + j, none⟩ = some (f j)
theorem own_at {w : World} {base : Nat} {e : TypeId} {v : Value} {n : Nat} {xs : List Value} (h : w.ownsRow base e 1 v n xs) : ∃ a c, v = .slice a n c ∧ CellsAt w.heap.size w a n (fun j => xs[j]?.getD undef) := by
  have hl : xs.length = n := by have := h.1; omega
  rcases h.2 with ⟨rfl, rfl⟩ | ⟨g, cap, cur, rfl, hb, hg, h1, h2, h3, h4⟩
  · exact ⟨_, _, rfl, 0, 0, by omega, by omega⟩
  · refine ⟨_, _, rfl, g, 0, fun _ => ⟨rfl, (Array.getElem?_eq_some_iff.1 hg).1⟩, fun j hj => ?_⟩
    rw [Nat.zero_add, cell_in hg, ← Array.getElem?_toList]
    have h5 : xs[j]? = cur.toList[j]? := by rw [← h4, Nat.mul_one, List.getElem?_take, if_pos hj]
    rw [← h5, List.getElem?_eq_getElem (by omega)]; simp [List.getElem?_eq_getElem (show j < xs.length by omega)]
set_option maxRecDepth 100000 in
set_option maxHeartbeats 4000000 in
theorem bits59 (x n : Nat) (hx : x < 18446744073709551616) (hn : n ≤ 64) (w : World) : Calls Tryz.prog 234 #[.int .u64 x, .int .i64 n] w (NewInts (bitsOf n x) w) := by
  obtain ⟨i3, hi, hz0, hz1, hz2⟩ := info_parts info3
  obtain ⟨B, hB⟩ : ∃ B, B = w.heap.size := ⟨_, rfl⟩
  unfold NewInts
  rw [← hB, bitsOf_length]
  have HB := Lib.hid hB; clear hB
  go_enter Tryz.func234, Tryz.ntmps234
  go_wp2_with fail
  go_loopw [0, 5, 6] (fun v0 v i wr => ∃ (k y : Nat) (l : List Nat), k ≤ n ∧ y < 18446744073709551616 ∧ v0 = .int .u64 y ∧ i = .int .i64 k ∧ Hid (bitsOf n x = l ++ bitsOf (n - k) y ∧ l.length = k) ∧ Hid (wr.ownsRow B 3 1 v k (intsL l)) ∧ Hid (Below B w wr)) (fun _ _ i _ => n - (intOf i).toNat)
  case atStart => exact ⟨0, x, [], by omega, hx, rfl, rfl, ⟨rfl, rfl⟩, World.ownsRow_nil _ _ _ _, by rw [HB.out]; exact Below.refl _ _⟩
  case round =>
    obtain ⟨k, y, l, hk, hy, rfl, rfl, HE, HO, HBE⟩ := hrel
    have hBw : B ≤ wr.heap.size := by rw [HB.out]; rw [HB.out] at HBE; exact HBE.out.size
    have q1 : k + 1 ≤ maxLen := by unfold maxLen; omega
    have q2 : (k + 1) * 8 ≤ 140737488355328 := by omega
    obtain ⟨va, vc, rfl⟩ := own_slice_n HO.out
    by_cases hlt : k < n
    · have d1 : decide ((k : Int) < (n : Int)) = true := bool_yes (by omega)
      go_wp2_with (at_builtin; refine wpList_push rfl (.tmp 12) (.tmp 16) 135 rfl B 3 i3 (.int .i64 0) 1 8 Tryz.underlying135 hi hz0 hz1 hz2 rfl (by decide) wr hBw (.slice va k vc) k (intsL l) rfl HO.out #[.int .i64 ((y : Int) % 2)] 1 1 rfl rfl (by simp [Value.oneCell']) q1 q2 ?_; intro v' w' ho' hg' hb' hn'; have HO' := Lib.hid ho'; have HB' := Lib.hid (hb' _ _ HBE.out (Nat.le_refl _)); clear ho' hg' hb' hn')
      go_wp2_with fail
      go_roundw
      case rel => exact ⟨k + 1, y / 2, l ++ [y % 2], by omega, by omega, by go_num, by go_num, ⟨by rw [HE.out.1, show n - k = (n - (k + 1)) + 1 by omega, bitsOf, List.append_assoc]; rfl, by rw [List.length_append, HE.out.2]; rfl⟩, Lib.hid (by rw [intsL_append]; exact HO'.out), HB'⟩
      case measure => simp [intOf]; omega
    · obtain rfl : k = n := by omega
      have d1 : decide ((k : Int) < (k : Int)) = false := by simp
      go_wp2_with fail
      go_ret
      exact ⟨_, rfl, HBE.out, by have := HE.out.1; rw [Nat.sub_self] at this; rw [this, bitsOf, List.append_nil]; exact HO.out⟩
end Go.Proofs.YtkdcfijebgeajaaGreat

namespace Go.Proofs.YtkdcfijebgeajaaGreat
open Go.RowKit Go.BigFrame
set_option linter.unusedVariables false
set_option linter.unusedSimpArgs false
theorem bits59' (z m : Int) (x n : Nat) (hz : z = (x : Int)) (hm : m = (n : Int)) (hx : x < 18446744073709551616) (hn : n ≤ 64) (w : World) : Calls Tryz.prog 234 #[.int .u64 z, .int .i64 m] w (NewInts (bitsOf n x) w) := by
  subst hz; subst hm; exact bits59 x n hx hn w
theorem own_down {w : World} {B C : Nat} {e : TypeId} {size : Nat} {v : Value} {n : Nat} {xs : List Value} (h : w.ownsRow C e size v n xs) (hB : B ≤ C) : w.ownsRow B e size v n xs :=
  ⟨h.1, h.2.elim .inl fun ⟨g, cap, cur, e1, hb, rest⟩ => .inr ⟨g, cap, cur, e1, Nat.le_trans hB hb, rest⟩⟩
def divL : List Nat := 1 :: bitsOf 32 poly
theorem divL_get (j : Nat) (h : j < 33) : divL[j]?.getD 0 = dv j := by
  cases j with
  | zero => rfl
  | succ j =>
    unfold divL dv
    rw [List.getElem?_cons_succ, bitsOf_get 32 poly j (by omega)]
    simp [bitAt]
set_option maxRecDepth 100000 in
set_option maxHeartbeats 4000000 in
theorem divisor72 (w : World) : Calls Tryz.prog 252 #[] w (NewInts divL w) := by
  obtain ⟨i3, hi, hz0, hz1, hz2⟩ := info_parts info3
  obtain ⟨B, hB⟩ : ∃ B, B = w.heap.size := ⟨_, rfl⟩
  have HB := Lib.hid hB
  unfold NewInts
  rw [← hB]
  clear hB
  have HP : Hid ((2197175160 : Int) = ((poly : Nat) : Int)) := Lib.hid rfl
  have HQ : Hid ((32 : Int) = ((32 : Nat) : Int)) := Lib.hid rfl
  have HR : Hid (poly < 18446744073709551616) := Lib.hid (by decide)
  go_enter Tryz.func252, Tryz.ntmps252
  go_wp2_with (go_at_call 234; (with_reducible refine (bits59' _ _ poly 32 HP.out HQ.out HR.out (by decide) _).mono ?_); rintro e w1 ⟨v1, rfl, hb1, ho1⟩; obtain ⟨a1, c1, rfl, hc1⟩ := own_at ho1; have HB1 := Lib.hid hb1; have HC1 := Lib.hid hc1; clear hb1 hc1 ho1)
  have hB1 : B ≤ w1.heap.size := by rw [HB.out]; exact HB1.out.size
  have HL : Hid ((bitsOf 32 poly).length = 32) := Lib.hid (bitsOf_length _ _)
  have HG : Hid (∀ j, j < 32 → (intsL (bitsOf 32 poly))[j]?.getD undef = .int .i64 (Int.ofNat ((bitsOf 32 poly)[j]?.getD 0))) := Lib.hid fun j hj => by rw [intsL_get _ _ (by rw [HL.out]; exact hj)]; rfl
  have HT : Hid (∀ j, j < 32 → divL.take (j + 2) = divL.take (j + 1) ++ [(bitsOf 32 poly)[j]?.getD 0]) := Lib.hid fun j hj => by
    unfold divL
    rw [List.take_succ_cons, List.take_succ_cons, List.take_add_one, List.getElem?_eq_getElem (by rw [HL.out]; exact hj)]; rfl
  have HD : Hid (divL.take 33 = divL) := Lib.hid (List.take_of_length_le (by unfold divL; rw [List.length_cons, HL.out]; exact Nat.le_refl _))
  generalize bitsOf 32 poly = bl at *
  obtain ⟨b1, o1, ha1, hc1⟩ := HC1.out
  obtain ⟨rfl, hb1⟩ := ha1 (by rw [HL.out]; decide)
  have HC := Lib.hid hc1
  clear HC1 hc1 ha1
  go_wp2_with fail
  go_loopw [2, 3] (fun v i wr => ∃ k : Nat, k ≤ 32 ∧ i = .int .i64 k ∧ Hid (wr.ownsRow w1.heap.size 3 1 v (k + 1) (intsL (divL.take (k + 1)))) ∧ Hid (Below w1.heap.size w1 wr)) (fun _ i _ => 32 - (intOf i).toNat)
  case atStart => exact ⟨0, by omega, rfl, own_made1 w1 w1.heap.size 3 _ (Nat.le_refl _), (Below.refl _ _).alloc (Nat.le_refl _) _⟩
  case round =>
    obtain ⟨k, hk, rfl, HO, HBE⟩ := hrel
    have hBw : w1.heap.size ≤ wr.heap.size := HBE.out.size
    have q1 : k + 1 + 1 ≤ maxLen := by unfold maxLen; omega
    have q2 : (k + 1 + 1) * 8 ≤ 140737488355328 := by omega
    obtain ⟨va, vc, rfl⟩ := own_slice_n HO.out
    by_cases hlt : k < 32
    · have d1 : decide ((k : Int) < 32) = true := bool_yes (by omega)
      have e1 : wr.cell? ⟨b1, o1 + k, none⟩ = some (.int .i64 (Int.ofNat (bl[k]?.getD 0))) := by rw [HBE.out.cell (p := ⟨b1, o1 + k, none⟩) hb1, HC.out k (by rw [HL.out]; exact hlt), HG.out k hlt]
      have HTk := Lib.hid (HT.out k hlt)
      have e2 : (k : Int) < ((bl.length : Nat) : Int) := by rw [HL.out]; omega
      generalize bl[k]?.getD 0 = x at *
      go_wp2_with (at_builtin; refine wpList_push rfl (.tmp 10) (.tmp 15) 135 rfl w1.heap.size 3 i3 (.int .i64 0) 1 8 Tryz.underlying135 hi hz0 hz1 hz2 rfl (by decide) wr hBw (.slice va (k + 1) vc) (k + 1) (intsL (divL.take (k + 1))) rfl HO.out #[.int .i64 (Int.ofNat x)] 1 1 rfl rfl (by simp [Value.oneCell']) q1 q2 ?_; intro v' w' ho' hg' hb' hn'; have HO' := Lib.hid ho'; have HB' := Lib.hid (hb' _ _ HBE.out (Nat.le_refl _)); clear ho' hg' hb' hn')
      go_wp2_with fail
      go_roundw
      case rel => exact ⟨k + 1, by omega, by go_num, Lib.hid (by rw [HTk.out, intsL_append]; exact HO'.out), HB'⟩
      case measure => simp [intOf]; omega
    · obtain rfl : k = 32 := by omega
      go_wp2_with fail
      go_ret
      refine ⟨_, rfl, ?_, ?_⟩
      · rw [HB.out]; exact HB1.out.trans (HBE.out.mono HB1.out.size)
      · rw [← HD.out]; exact own_down HO.out hB1
end Go.Proofs.YtkdcfijebgeajaaGreat

namespace Go.Proofs.YtkdcfijebgeajaaGreat
open Go.RowKit Go.BigFrame
set_option linter.unusedVariables false
set_option linter.unusedSimpArgs false
def part (i k : Nat) (F : Nat → Nat) : Nat → Nat := fun p => if F i = 1 ∧ i + 33 ≤ p + k ∧ p ≤ i + 32 then (F p + dv (p - i)) % 2 else F p
theorem part_zero (i : Nat) (F : Nat → Nat) : part i 0 F = F := by
  funext p; unfold part; rw [if_neg (by omega)]
theorem part_head (i k : Nat) (F : Nat → Nat) (hk : k ≤ 32) : part i k F i = F i := by
  unfold part; rw [if_neg (by omega)]
theorem part_at (i k : Nat) (F : Nat → Nat) (hk : k ≤ 32) : part i k F (i + 32 - k) = F (i + 32 - k) := by
  unfold part; rw [if_neg (by omega)]
theorem part_next (i k : Nat) (F : Nat → Nat) (hk : k ≤ 32) (h : F i = 1) : part i (k + 1) F = upd (part i k F) (i + 32 - k) ((F (i + 32 - k) + dv (32 - k)) % 2) := by
  funext p
  unfold upd part
  by_cases hp : p = i + 32 - k
  · subst hp
    rw [if_pos rfl, if_pos ⟨h, by omega, by omega⟩, show i + 32 - k - i = 32 - k by omega]
  · rw [if_neg hp]
    by_cases h2 : F i = 1 ∧ i + 33 ≤ p + k ∧ p ≤ i + 32
    · rw [if_pos h2, if_pos ⟨h, by omega, by omega⟩]
    · rw [if_neg h2, if_neg (by omega)]
theorem part_last (i : Nat) (F : Nat → Nat) : part i 33 F = strike i F := by
  funext p
  unfold part strike
  by_cases h2 : F i = 1 ∧ i ≤ p ∧ p ≤ i + 32
  · rw [if_pos h2, if_pos ⟨h2.1, by omega, h2.2.2⟩]
  · rw [if_neg h2, if_neg (by omega)]
theorem strike_no (i : Nat) (F : Nat → Nat) (h : F i ≠ 1) : strike i F = F := by
  funext p; unfold strike; rw [if_neg (by omega)]
theorem strike_lt (i : Nat) (F : Nat → Nat) (h : ∀ p, F p < 2) : ∀ p, strike i F p < 2 := fun p => by
  unfold strike; split
  · omega
  · exact h p
theorem strikes_lt (f : Nat → Nat) (h : ∀ p, f p < 2) : ∀ i p, strikes i f p < 2
  | 0, p => h p
  | i + 1, p => strike_lt i _ (strikes_lt f h i) p
theorem ofBits_lt : ∀ (k : Nat) (f : Nat → Nat), (∀ p, f p < 2) → ofBits k f < 2 ^ k
  | 0, _, _ => by simp [ofBits]
  | k + 1, f, h => by
    rw [ofBits, Nat.pow_succ]
    have := ofBits_lt k (fun j => f (j + 1)) fun p => h (p + 1)
    have := h 0
    omega
theorem ofBits_down (T : Nat → Nat) (n m : Nat) (h : m < 32) : ofBits (m + 1) (fun j => T (n + 32 - (m + 1) + j)) = 2 * ofBits m (fun j => T (n + 32 - m + j)) + T (n + (31 - m)) := by
  rw [ofBits]
  have e : (fun j => T (n + 32 - (m + 1) + (j + 1))) = fun j => T (n + 32 - m + j) := funext fun j => by rw [show n + 32 - (m + 1) + (j + 1) = n + 32 - m + j by omega]
  rw [e, show n + 32 - (m + 1) + 0 = n + (31 - m) by omega]
  omega
def Nums (W : World) (g n : Nat) (T : Nat → Nat) : Prop := RowAt W g n fun p => .int .i64 (Int.ofNat (T p))
theorem Nums.cell {W : World} {g n : Nat} {T : Nat → Nat} (h : Nums W g n T) {k : Nat} (hk : k < n) : W.cell? ⟨g, k, none⟩ = some (.int .i64 (Int.ofNat (T k))) := RowAt.cell h hk
theorem Nums.set {W : World} {g n : Nat} {T : Nat → Nat} (h : Nums W g n T) (j x : Nat) : Nums (W.setCell ⟨g, j, none⟩ (.int .i64 (Int.ofNat x))) g n (upd T j x) :=
  RowAt.congr (RowAt.set h j (.int .i64 (Int.ofNat x))) fun k _ => by unfold upd; split <;> rfl
theorem Nums.to {W : World} {g n : Nat} {T U : Nat → Nat} (h : Nums W g n T) (e : ∀ p, p < n → T p = U p) : Nums W g n U := RowAt.congr h fun k hk => by rw [e k hk]
theorem Nums.free {W : World} {g n : Nat} {T : Nat → Nat} (h : Nums W g n T) (j : Nat) : W.frozen? ⟨g, j, none⟩ = false := RowAt.free h j
theorem Nums.keep {W W' : World} {g n : Nat} {T : Nat → Nat} (h : Nums W g n T) (e : W'.heap[g]? = W.heap[g]?) : Nums W' g n T := RowAt.keep h e
theorem Nums.drew {W : World} {g n : Nat} {T : Nat → Nat} (h : Nums W g n T) : Nums W.drew g n T := RowAt.keep h rfl
theorem own_nums {w : World} {B : Nat} {v : Value} {l : List Nat} (h : w.ownsRow B 3 1 v l.length (intsL l)) (h1 : 1 ≤ l.length) : ∃ g c, v = .slice (some ⟨g, 0, none⟩) l.length c ∧ B ≤ g ∧ Nums w g l.length (fun p => l[p]?.getD 0) := by
  rcases h.2 with ⟨-, h0⟩ | ⟨g, cap, cur, rfl, hb, hg, h2, h3, h4, h5⟩
  · omega
  · refine ⟨g, cap, rfl, hb, cur, 3, hg, fun k hk => ?_⟩
    rw [← Array.getElem?_toList]
    have h6 : (intsL l)[k]? = cur.toList[k]? := by rw [← h5, Nat.mul_one, List.getElem?_take, if_pos hk]
    rw [← h6, intsL_get l k hk]; rfl
end Go.Proofs.YtkdcfijebgeajaaGreat

namespace Go.Proofs.YtkdcfijebgeajaaGreat.Lo
open Go.RowKit
set_option linter.unusedVariables false
set_option linter.unusedSimpArgs false
def ThenOp (P : Program) (o : Oper) (Q : Exit → Act → World → Prop) : Exit → Act → World → Prop
  | .normal, a, w => o.wp P a w (fun a w => Q .normal a w) Q
  | e, a, w => Q e a w
section
variable {P : Program} {ops : Array Oper} {o : Oper} {Q : Exit → Act → World → Prop} {md : Region.Mode}
theorem wp_then {x : Oper} {a : Act} {w : World} {K K' : Act → World → Prop} (hout : LetsOut (ThenOp P o Q) → LetsOut Q) (h : ∀ a w, K a w → K' a w) (hh : x.wp P a w K (ThenOp P o Q)) : x.wp P a w K' Q := by
  unfold Oper.wp at *
  generalize (execOp a.eval x).run P w = r at *
  cases r with
  | ok n w' =>
    cases n <;> simp only [Oper.upon] at hh ⊢ <;>
      first
        | exact h _ _ hh
        | exact Calls.mono hh (fun e w'' he => by cases e <;> first | exact h _ _ he | exact he | exact hout he)
        | exact Rows.mono hh (fun _ _ he => h _ _ he)
  | halt x w' => cases x <;> simp only [Oper.upon] at hh ⊢ <;> exact hh
theorem getD_push (l : Array Bool) (j : Nat) (d : Bool) (h : j < l.size) : (l.push false).getD j d = l.getD j d := by
  simp [Array.getD, h, Array.getElem_push_lt, Nat.lt_succ_of_lt h]
theorem all_of_none {listed : Array Bool} (hs : listed.size = ops.size) (hback : ∀ i oi, ops[i]? = some oi → ∀ e ∈ oi.after, Region.binds md e = true → e.on < i)
    (hr : Region.ready md ops listed = []) : ∀ n i, i < n → i < ops.size → listed.getD i false = true := by
  intro n
  induction n with
  | zero => intro i h; omega
  | succ n ih =>
    intro i hi hlt
    by_cases hin : i < n
    · exact ih i hin hlt
    · cases hl : listed.getD i false with
      | true => rfl
      | false =>
        exfalso
        have hm : i ∈ Region.ready md ops listed := mem_ready.2 ⟨getD_in (by omega) hl, ops[i], by simp [hlt], fun e he hb => ih e.on (by have := hback i _ (by simp [hlt]) e he hb; omega) (by have := hback i _ (by simp [hlt]) e he hb; omega)⟩
        rw [hr] at hm; cases hm
theorem wpAny_last (hg : o.guard = none) (hin : ∀ e ∈ o.after, e.on < ops.size) {listed : Array Bool} (hs : listed.size = ops.size) (hall : ∀ i, i < ops.size → listed.getD i false = true) {a : Act} {w : World} (h : ThenOp P o Q .normal a w) :
    ∀ g, wpAny P md (ops.push o) Q (g + 1) (listed.push false) a w := by
  intro g
  have hn : ∀ j, j ∈ Region.ready md (ops.push o) (listed.push false) ↔ j = ops.size := by
    intro j
    rw [mem_ready]
    constructor
    · rintro ⟨h1, oj, h2, h3⟩
      have hj : j < ops.size + 1 := by have := (Array.getElem?_eq_some_iff.1 h2).1; simpa using this
      refine Classical.byContradiction fun hne => ?_
      have hj' : j < ops.size := by omega
      rw [getD_push _ _ _ (by omega)] at h1
      have := hall j hj'
      rw [getD_both h1] at this; cases this
    · rintro rfl
      refine ⟨by rw [← hs]; simp [Array.getD], o, by simp, fun e he hb => ?_⟩
      rw [getD_push _ _ _ (by have := hin e he; omega)]
      exact hall _ (hin e he)
  have hdone : Region.ready md (ops.push o) ((listed.push false).setIfInBounds ops.size true) = [] := by
    refine List.eq_nil_iff_forall_not_mem.2 fun j hj => ?_
    obtain ⟨h1, oj, h2, h3⟩ := mem_ready.1 hj
    have hj' : j < ops.size + 1 := by have := (Array.getElem?_eq_some_iff.1 h2).1; simpa using this
    by_cases e : j = ops.size
    · subst e
      simp [Array.getD, hs] at h1
    · rw [getD_set_ne true (Ne.symm e), getD_push _ _ _ (by omega)] at h1
      have := hall j (by omega)
      rw [getD_both h1] at this; cases this
  refine ⟨fun h0 => ?_, fun i hi => ?_⟩
  · have := (hn ops.size).2 rfl
    rw [h0] at this; cases this
  · obtain rfl := (hn i).1 hi
    unfold wpOp
    simp only [Array.getElem?_push_size]
    rw [if_pos (by simp [Region.wanted, hg])]
    exact Or.inl (Oper.wp_mono (fun a w hq => wpAny_done hdone hq g) h)
theorem wpAny_push (hg : o.guard = none) (hout : LetsOut (ThenOp P o Q) → LetsOut Q) (hin : ∀ e ∈ o.after, e.on < ops.size)
    (hla : ∀ i, i < ops.size → ∃ e ∈ o.after, Region.binds md e = true ∧ e.on = i) (hno : ∀ (i : Nat) (oi : Oper), ops[i]? = some oi → oi.guard = none) (hback : ∀ i oi, ops[i]? = some oi → ∀ e ∈ oi.after, Region.binds md e = true → e.on < i) :
    ∀ (g : Nat) (listed : Array Bool) (a : Act) (w : World), listed.size = ops.size → wpAny P md ops (ThenOp P o Q) g listed a w → wpAny P md (ops.push o) Q (g + 1) (listed.push false) a w
  | 0, listed, a, w, hs, h => wpAny_last hg hin hs (fun i hi => all_of_none hs hback h.1 ops.size i hi hi) h.2 0
  | g + 1, listed, a, w, hs, h => by
    by_cases hr : Region.ready md ops listed = []
    · exact wpAny_last hg hin hs (fun i hi => all_of_none hs hback hr ops.size i hi hi) (h.1 hr) (g + 1)
    · have hmem : ∀ j, j ∈ Region.ready md (ops.push o) (listed.push false) ↔ j ∈ Region.ready md ops listed := by
        intro j
        constructor
        · intro hj
          obtain ⟨h1, oj, h2, h3⟩ := mem_ready.1 hj
          have hj' : j < ops.size + 1 := by have := (Array.getElem?_eq_some_iff.1 h2).1; simpa using this
          by_cases e : j = ops.size
          · exfalso
            subst e
            rw [Array.getElem?_push_size] at h2
            cases h2
            refine hr (List.eq_nil_iff_forall_not_mem.2 fun i hi => ?_)
            obtain ⟨g1, oi, g2, g3⟩ := mem_ready.1 hi
            have hi' : i < ops.size := (Array.getElem?_eq_some_iff.1 g2).1
            obtain ⟨e, he, hb, rfl⟩ := hla i hi'
            have := h3 e he hb
            rw [getD_push _ _ _ (by omega), getD_both g1] at this
            cases this
          · have hjn : j < ops.size := by omega
            have h2' : ops[j]? = some oj := by rw [← h2, Array.getElem?_push_lt hjn]; simp [hjn]
            refine mem_ready.2 ⟨(getD_push _ _ _ (by omega)).symm.trans h1, oj, h2', fun e he hb => ?_⟩
            have := h3 e he hb
            have hlt := hback j oj h2' e he hb
            rw [getD_push _ _ _ (by omega)] at this
            exact this
        · intro hj
          obtain ⟨h1, oj, h2, h3⟩ := mem_ready.1 hj
          have hjn : j < ops.size := (Array.getElem?_eq_some_iff.1 h2).1
          refine mem_ready.2 ⟨(getD_push _ _ _ (by omega)).trans h1, oj, by rw [← h2, Array.getElem?_push_lt hjn]; simp [hjn], fun e he hb => ?_⟩
          have hlt := hback j oj h2 e he hb
          rw [getD_push _ _ _ (by omega)]
          exact h3 e he hb
      refine ⟨fun h0 => absurd (List.eq_nil_iff_forall_not_mem.2 fun j hj => by rw [← hmem, h0] at hj; cases hj) hr, fun i hi => ?_⟩
      have hi2 := (hmem i).1 hi
      obtain ⟨h1, oi, h2, h3⟩ := mem_ready.1 hi2
      have hin' : i < ops.size := (Array.getElem?_eq_some_iff.1 h2).1
      have hw := h.2 i hi2
      have e1 : (ops.push o)[i]? = some oi := by rw [← h2, Array.getElem?_push_lt hin']; simp [hin']
      have e2 : (listed.push false).setIfInBounds i true = (listed.setIfInBounds i true).push false := by
        apply Array.ext'
        simp only [Array.toList_setIfInBounds, Array.toList_push]
        rw [List.set_append_left _ _ (by simp; omega)]
      unfold wpOp at hw ⊢
      simp only [h2] at hw
      simp only [e1]
      rw [if_pos (by simp [Region.wanted, hno i oi h2])] at hw ⊢
      rw [e2]
      rcases hw with hw | hw
      · exact Or.inl (wp_then hout (fun a w hk => wpAny_push hg hout hin hla hno hback g _ a w (by simp [hs]) hk) hw)
      · exact Or.inr ⟨hw.1, hout hw.2⟩
def lastB (md : Region.Mode) (ops : Array Oper) (o : Oper) : Bool :=
  o.guard.isNone && ops.toList.all (·.guard.isNone) && o.after.toList.all (fun e => decide (e.on < ops.size)) && (List.range ops.size).all (fun i => o.after.toList.any fun e => Region.binds md e && e.on == i) &&
  (List.range ops.size).all fun i => match ops[i]? with | some oi => oi.after.toList.all (fun e => !Region.binds md e || decide (e.on < i)) | none => true
theorem region_last {id : Nat} {a : Act} {w : World} (S : World → Prop) (hm : P.follows .mixedOrders = true) (ho : ops.back? = some o) (hB : lastB .any ops.pop o = true)
    (h : wpAnyH P .any ops.pop (ThenOp P o Q) S ops.pop.size (Array.replicate ops.pop.size false) a w.drew) : (Code.region id ops true).wp P Q a w := by
  have hops : ops = ops.pop.push o := by
    have hne : 0 < ops.size := by
      refine Nat.pos_of_ne_zero fun h0 => ?_
      rw [Array.back?, Array.getElem?_eq_none (by omega)] at ho; cases ho
    apply Array.ext (by simp; omega)
    intro i h1 h2
    by_cases hi : i < ops.size - 1
    · rw [Array.getElem_push_lt (by simpa using hi)]; simp
    · have hi' : i = ops.size - 1 := by omega
      subst hi'
      rw [Array.back?, Array.getElem?_eq_getElem (by omega)] at ho
      have ho' := Option.some.inj ho
      have : (ops.pop.push o)[ops.size - 1] = o := by simp [Array.getElem_push]
      rw [this, ← ho']
  unfold lastB at hB
  simp only [Bool.and_eq_true, List.all_eq_true, List.any_eq_true, decide_eq_true_eq, beq_iff_eq, List.mem_range] at hB
  obtain ⟨⟨⟨⟨b1, b2⟩, b3⟩, b4⟩, b5⟩ := hB
  have key := wpAny_push (P := P) (Q := Q) (md := .any) (ops := ops.pop) (o := o) (Option.isNone_iff_eq_none.1 b1) (fun ⟨a, w, h⟩ => ⟨a, w, h⟩) (fun e he => b3 e (Array.mem_toList_iff.2 he))
    (fun i hi => by obtain ⟨e, he, h1, h2⟩ := b4 i hi; exact ⟨e, Array.mem_toList_iff.1 he, h1, h2⟩)
    (fun i oi hoi => Option.isNone_iff_eq_none.1 (b2 oi (Array.mem_toList_iff.2 (Array.mem_of_getElem? hoi))))
    (fun i oi hoi e he hb => by
      have h5 := b5 i (Array.getElem?_eq_some_iff.1 hoi).1
      rw [hoi] at h5
      simp only [List.all_eq_true, Bool.or_eq_true, Bool.not_eq_true', decide_eq_true_eq] at h5
      rcases h5 e (Array.mem_toList_iff.2 he) with h6 | h6
      · rw [hb] at h6; cases h6
      · exact h6)
    ops.pop.size (Array.replicate ops.pop.size false) a w.drew (by simp) (wpAny_of_held _ _ _ _ h)
  refine wp_region_any hm ?_
  have e1 : (Array.replicate ops.pop.size false).push false = Array.replicate (ops.pop.size + 1) false := by simp [Array.replicate_succ]
  rw [e1] at key
  rw [hops]
  simpa using key
theorem region_last_any {id : Nat} {a : Act} {w : World} (hm : P.follows .mixedOrders = true) (ho : ops.back? = some o) (hB : lastB .any ops.pop o = true)
    (h : wpAny P .any ops.pop (ThenOp P o Q) ops.pop.size (Array.replicate ops.pop.size false) a w.drew) : (Code.region id ops true).wp P Q a w := by
  have hops : ops = ops.pop.push o := by
    have hne : 0 < ops.size := by
      refine Nat.pos_of_ne_zero fun h0 => ?_
      rw [Array.back?, Array.getElem?_eq_none (by omega)] at ho; cases ho
    apply Array.ext (by simp; omega)
    intro i h1 h2
    by_cases hi : i < ops.size - 1
    · rw [Array.getElem_push_lt (by simpa using hi)]; simp
    · have hi' : i = ops.size - 1 := by omega
      subst hi'
      rw [Array.back?, Array.getElem?_eq_getElem (by omega)] at ho
      have ho' := Option.some.inj ho
      have : (ops.pop.push o)[ops.size - 1] = o := by simp [Array.getElem_push]
      rw [this, ← ho']
  unfold lastB at hB
  simp only [Bool.and_eq_true, List.all_eq_true, List.any_eq_true, decide_eq_true_eq, beq_iff_eq, List.mem_range] at hB
  obtain ⟨⟨⟨⟨b1, b2⟩, b3⟩, b4⟩, b5⟩ := hB
  have key := wpAny_push (P := P) (Q := Q) (md := .any) (ops := ops.pop) (o := o) (Option.isNone_iff_eq_none.1 b1) (fun ⟨a, w, h⟩ => ⟨a, w, h⟩) (fun e he => b3 e (Array.mem_toList_iff.2 he))
    (fun i hi => by obtain ⟨e, he, h1, h2⟩ := b4 i hi; exact ⟨e, Array.mem_toList_iff.1 he, h1, h2⟩)
    (fun i oi hoi => Option.isNone_iff_eq_none.1 (b2 oi (Array.mem_toList_iff.2 (Array.mem_of_getElem? hoi))))
    (fun i oi hoi e he hb => by
      have h5 := b5 i (Array.getElem?_eq_some_iff.1 hoi).1
      rw [hoi] at h5
      simp only [List.all_eq_true, Bool.or_eq_true, Bool.not_eq_true', decide_eq_true_eq] at h5
      rcases h5 e (Array.mem_toList_iff.2 he) with h6 | h6
      · rw [hb] at h6; cases h6
      · exact h6)
    ops.pop.size (Array.replicate ops.pop.size false) a w.drew (by simp) h
  refine wp_region_any hm ?_
  have e1 : (Array.replicate ops.pop.size false).push false = Array.replicate (ops.pop.size + 1) false := by simp [Array.replicate_succ]
  rw [e1] at key
  rw [hops]
  simpa using key
theorem region_quiet_last {id : Nat} {a : Act} {w : World} (hm : P.follows .mixedOrders = true) (ho : ops.back? = some o) (hB : lastB .any ops.pop o = true) (hL : Region.lexB .any ops.pop = true)
    (h : wpQuiet P ops.pop (fun w' => ∃ n, w' = w.drewN n) (fun a' => ∀ w', (∃ n, w' = w.drewN n) → ThenOp P o Q .normal a' w') ops.pop.toList a) : (Code.region id ops true).wp P Q a w := by
  refine region_last_any hm ho hB ?_
  simp only [Region.lexB, Bool.and_eq_true] at hL
  refine wpAny_of_quiet (C := fun w' => ∃ n, w' = w.drewN n) (Q := fun a' => ∀ w', (∃ n, w' = w.drewN n) → ThenOp P o Q .normal a' w') (fun _ w' hw' h => h w' hw') _ _ _ _ ⟨1, rfl⟩ ?_
  have := wpAnyQ_lex (C := fun w' => ∃ n, w' = w.drewN n) (md := .any) hL.1 ops.pop.toList 0 (Array.replicate ops.pop.size false) a (fun j => by rw [Nat.zero_add, Array.getElem?_toList]) (by simpa using hL.2) h
  simpa using this
theorem take_at {S : World → Prop} (i : Nat) (d : Option Tmp) (v : Value) {oi : Oper} {fuel : Nat} {listed : Array Bool} {a : Act} {w : World} (hi : ops[i]? = some oi) (hd : oi.dst = d)
    (hs : Region.noSelect ops = true) (hf : Region.free md ops listed i = true) (hr : (Region.ready md ops listed).contains i = true)
    (hQ : ∀ c a w, Q (.panic c) (a.put oi.dst v) w → Q (.panic c) a w) (hy : YieldsIf P ops S oi v a) (hS : S w)
    (h : wpAnyH P md ops Q S fuel (listed.setIfInBounds i true) (a.put d v) w) : wpAnyH P md ops Q S (fuel + 1) listed a w :=
  wpAnyH_take hi hs hf hr hQ hy hS (by rw [hd]; exact h)
end
theorem wpList_push_at {P : Program} {ops : Array Oper} {rest : List Oper} {o : Oper} {a : Act} {Q : Exit → Act → World → Prop} (hgd : o.guard = none) (s x : Operand) (t : TypeId)
    (ho : o.op = .call { callee := .builtin .append, args := #[s, x], argTypes := #[t, t] })
    (base : Nat) (e e' : TypeId) (i : TypeInfo) (z : Value) (size bytes : Nat) (ht : P.underlying t = some (.slice e)) (hi : P.info? e = some i) (hz : i.zero = some z)
    (hsize : i.size = size) (hby : i.bytes = bytes) (hzs : z.cells.size = size) (hsz : 0 < size)
    (wr : World) (hbase : base ≤ wr.heap.size) (v : Value) (n : Nat) (xs : List Value) (hs : a.eval s = v) (hown : wr.ownsRow base e size v n xs)
    (cs : Array Value) (m c : Nat) (hx : a.eval x = .slice (some ⟨wr.heap.size, 0, none⟩) m c) (hl : cs.size = m * size) (h1 : ∀ u ∈ cs.toList, u.oneCell' = true)
    (h63 : n + m ≤ maxLen) (hbytes : (n + m) * bytes ≤ 140737488355328)
    (h : ∀ v' w', w'.ownsRow base e size v' (n + m) (xs ++ cs.toList) → wr.grownBy w' v.ownBlock → (∀ B W, Below B W wr → B ≤ base → Below B W w') → (v'.ownBlock = v.ownBlock ∨ v'.ownBlock = some (wr.heap.size + 1)) → wpList P ops Q rest (a.put o.dst v') w') :
    wpList P ops Q (o :: rest) a (wr.alloc (.cells cs e')) := by
  refine wpList_plain hgd fun K hK => ?_
  obtain ⟨v', w', hr, ho', hg', h4, h5⟩ := run_append_own_at (P := P) (wr.alloc (.cells cs e')) base t o.type e i z size bytes ht hi hz hsize hby hzs hsz v n xs (hown.alloc _) ⟨wr.heap.size, 0, none⟩ m c cs.toList (by simpa using hl) (fun j u hj => cell_alloc wr cs e' j u hj) h1 h63 hbytes (by simp; omega)
  unfold Oper.wp execOp
  simp only [ho, resolve, invoke, builtin, Sem.run_bind, Sem.run_pure, Result.andThen_ok, List.map_toArray, List.map_cons, List.map_nil, hs, hx, hr]
  refine hK _ _ (h v' w' ho' (grownBy_trans (World.grownBy_alloc wr _ _) hg') (fun B W hb hB => ?_) (by rw [World.size_alloc] at h5; exact h5))
  refine (hb.alloc (by omega) _).grown hg' (by simp; omega) (fun k hk => ?_)
  have := hown.lt k hk
  omega
end Go.Proofs.YtkdcfijebgeajaaGreat.Lo
