/- Sums of words, plainly.
   A run reckoned: the sum of words is the one of layer 2.
   Layer 2: sums.
   Layer 2: the sum of words.
   Layer 2, the document's: bits, the divisor.
   Layer 2, the document's: the divisor; a row that is divided.
   Layer 2, the document's: the rest of a division; no program here but its rows. -/
import Derived.Test.YtkdcfijebgeajaaGreatJ4
import Derived.Test.YtkdcfijebgeajaaGreatJ5
import Derived.Test.YtkdcfijebgeajaaGreatJ2
import Derived.Test.YtkdcfijebgeajaaGreatJ10
import Derived.Laws.MakeOwn
import Derived.Test.YtkdcfijebgeajaaGreatJ24
namespace Go.Proofs.YtkdcfijebgeajaaGreat
open Go.RowKit Go.BigFrame
set_option linter.unusedVariables false
set_option linter.unusedSimpArgs false
def poly : Nat := 0x82f63b78
/-- The state behind a bit. -/
def crcBit (s b : Nat) : Nat := if (s ^^^ b) % 2 = 1 then (s / 2) ^^^ poly else s / 2
/-- The state behind bits. -/
def crcBits : Nat → List Nat → Nat
  | s, [] => s
  | s, b :: t => crcBits (crcBit s b) t
theorem crcBits_append : ∀ (l t : List Nat) (s : Nat), crcBits s (l ++ t) = crcBits (crcBits s l) t
  | [], _, _ => rfl
  | b :: l, t, s => by rw [List.cons_append, crcBits, crcBits, crcBits_append l t]
/-- A number's lowest bits, the lowest first. -/
def bitsOf : Nat → Nat → List Nat
  | 0, _ => []
  | k + 1, w => w % 2 :: bitsOf k (w / 2)
theorem bitsOf_length : ∀ k w, (bitsOf k w).length = k
  | 0, _ => rfl
  | k + 1, w => by rw [bitsOf, List.length_cons, bitsOf_length k]
theorem bitsOf_get : ∀ (k w i : Nat), i < k → (bitsOf k w)[i]? = some (w / 2 ^ i % 2)
  | 0, _, _, h => by omega
  | k + 1, w, 0, _ => by simp [bitsOf]
  | k + 1, w, i + 1, h => by
    rw [bitsOf, List.getElem?_cons_succ, bitsOf_get k (w / 2) i (by omega), Nat.div_div_eq_div_mul, Nat.pow_succ, Nat.mul_comm 2]
/-- A byte's eight bits: a word's 64 bits are its bytes' bits. -/
theorem bitsOf_append : ∀ (a b w : Nat), bitsOf (a + b) w = bitsOf a w ++ bitsOf b (w / 2 ^ a)
  | 0, b, w => by simp [bitsOf]
  | a + 1, b, w => by
    rw [show a + 1 + b = (a + b) + 1 by omega, bitsOf, bitsOf_append a b, bitsOf, List.cons_append, Nat.div_div_eq_div_mul, Nat.pow_succ, Nat.mul_comm 2]
theorem bitsOf_mod : ∀ (k w : Nat), bitsOf k (w % 2 ^ k) = bitsOf k w
  | 0, _ => rfl
  | k + 1, w => by
    rw [bitsOf, bitsOf]
    have h1 : w % 2 ^ (k + 1) % 2 = w % 2 := Nat.mod_mod_of_dvd _ ⟨2 ^ k, by rw [Nat.pow_succ]; omega⟩
    have h2 : w % 2 ^ (k + 1) / 2 = w / 2 % 2 ^ k := by
      rw [Nat.pow_succ, Nat.mul_comm, Nat.mod_mul_right_div_self]
    rw [h1, h2, bitsOf_mod k]
theorem poly_lt : poly < 2 ^ 32 := by decide
theorem crcBit_lt (s b : Nat) (h : s < 2 ^ 32) : crcBit s b < 2 ^ 32 := by
  unfold crcBit; split
  · exact Nat.xor_lt_two_pow (by omega) poly_lt
  · omega
theorem crcBits_lt : ∀ (l : List Nat) (s : Nat), s < 2 ^ 32 → crcBits s l < 2 ^ 32
  | [], _, h => h
  | b :: l, s, h => crcBits_lt l _ (crcBit_lt s b h)

/-! The division: a row of bits; the first n of them are struck one by one. -/
/-- The bit of a state at j, as a number. -/
def bitAt (s j : Nat) : Nat := s / 2 ^ j % 2
/-- The divisor's coefficient at j from the struck bit on (0 .. 32). -/
def dv (j : Nat) : Nat := if j = 0 then 1 else bitAt poly (j - 1)
/-- A step of the division at i: struck where the bit is 1. -/
def strike (i : Nat) (f : Nat → Nat) : Nat → Nat := fun p => if f i = 1 ∧ i ≤ p ∧ p ≤ i + 32 then (f p + dv (p - i)) % 2 else f p
def strikes : Nat → (Nat → Nat) → Nat → Nat
  | 0, f => f
  | i + 1, f => strike i (strikes i f)
theorem bitAt_lt (s j : Nat) : bitAt s j < 2 := Nat.mod_lt _ (by decide)
theorem bitAt_testBit (s j : Nat) : bitAt s j = if s.testBit j then 1 else 0 := by
  unfold bitAt Nat.testBit
  rw [Nat.shiftRight_eq_div_pow, Nat.one_and_eq_mod_two]
  have : s / 2 ^ j % 2 = 0 ∨ s / 2 ^ j % 2 = 1 := by omega
  rcases this with h | h <;> simp [h]
theorem bitAt_xor (a b j : Nat) : bitAt (a ^^^ b) j = (bitAt a j + bitAt b j) % 2 := by
  rw [bitAt_testBit, bitAt_testBit, bitAt_testBit, Nat.testBit_xor]
  cases a.testBit j <;> cases b.testBit j <;> rfl
theorem bitAt_half (s j : Nat) : bitAt (s / 2) j = bitAt s (j + 1) := by
  unfold bitAt; rw [Nat.div_div_eq_div_mul, Nat.pow_succ, Nat.mul_comm 2]
theorem bitAt_high {s j : Nat} (h : s < 2 ^ 32) (hj : 32 ≤ j) : bitAt s j = 0 := by
  unfold bitAt
  have : 2 ^ 32 ≤ 2 ^ j := Nat.pow_le_pow_right (by decide) hj
  rw [Nat.div_eq_of_lt (by omega)]
theorem bitAt_crcBit (s b j : Nat) (hb : b < 2) : bitAt (crcBit s b) j = (bitAt s (j + 1) + (if (bitAt s 0 + b) % 2 = 1 then bitAt poly j else 0)) % 2 := by
  have hk : (s ^^^ b) % 2 = (bitAt s 0 + b) % 2 := by
    have := bitAt_xor s b 0
    have e : bitAt b 0 = b := by unfold bitAt; simp; omega
    rw [e] at this
    unfold bitAt at this ⊢
    simpa using this
  unfold crcBit
  rw [hk]
  split
  · rw [bitAt_xor, bitAt_half]
  · rw [bitAt_half, Nat.add_zero]
    have := bitAt_lt s (j + 1); omega
/-- Behind i strikes the next 32 bits are the bits to come, and the state's. -/
theorem strikes_state (l : List Nat) (hl : ∀ b ∈ l, b < 2) (s : Nat) (hs : s < 2 ^ 32) (f : Nat → Nat) (hf : ∀ p : Nat, f p = ((l[p]?.getD 0) + bitAt s p) % 2) :
    ∀ i : Nat, i ≤ l.length → ∀ p : Nat, i ≤ p → strikes i f p = ((l[p]?.getD 0) + bitAt (crcBits s (l.take i)) (p - i)) % 2 := by
  intro i
  induction i with
  | zero => intro _ p _; simpa [strikes, crcBits] using hf p
  | succ i ih =>
    intro hi p hp
    have hlt : ∀ p : Nat, (l[p]?.getD 0) < 2 := fun p => by
      cases h : l[p]? with
      | none => simp
      | some b => exact hl b (List.mem_of_getElem? h)
    have ht : l.take (i + 1) = l.take i ++ [l[i]?.getD 0] := by
      rw [List.take_add_one]
      rw [List.getElem?_eq_getElem (by omega)]; rfl
    have hn : crcBits s (l.take i) < 2 ^ 32 := crcBits_lt _ _ hs
    have h0 := ih (by omega) i (Nat.le_refl _)
    have h1 := ih (by omega) p (by omega)
    rw [strikes, ht, crcBits_append]
    rw [show crcBits (crcBits s (l.take i)) [l[i]?.getD 0] = crcBit (crcBits s (l.take i)) (l[i]?.getD 0) from rfl, bitAt_crcBit _ _ _ (hlt i)]
    generalize crcBits s (l.take i) = S at *
    rw [Nat.sub_self] at h0
    have hb := hlt i
    have hbp := hlt p
    generalize l[i]?.getD 0 = b at *
    generalize l[p]?.getD 0 = c at *
    obtain ⟨q, rfl⟩ : ∃ q, p = i + 1 + q := ⟨p - (i + 1), by omega⟩
    rw [show i + 1 + q - (i + 1) = q by omega]
    rw [show i + 1 + q - i = q + 1 by omega] at h1
    unfold strike
    rw [h0, h1, show i + 1 + q - i = q + 1 by omega]
    have e0 := bitAt_lt S 0
    have e1 := bitAt_lt S (q + 1)
    have e2 := bitAt_lt poly q
    have e3 : dv (q + 1) = bitAt poly q := by simp [dv]
    by_cases hk : (b + bitAt S 0) % 2 = 1
    · rw [if_pos (show (bitAt S 0 + b) % 2 = 1 by omega)]
      by_cases hq : i + 1 + q ≤ i + 32
      · rw [if_pos ⟨hk, by omega, hq⟩, e3]; omega
      · rw [if_neg (by omega), bitAt_high (s := poly) poly_lt (by omega), bitAt_high hn (by omega)]
    · rw [if_neg (by omega), if_neg (by omega)]; omega
/-- A number of its bits. -/
def ofBits : Nat → (Nat → Nat) → Nat
  | 0, _ => 0
  | k + 1, f => f 0 + 2 * ofBits k (fun j => f (j + 1))
theorem ofBits_bitAt : ∀ (k s : Nat), s < 2 ^ k → ofBits k (bitAt s) = s
  | 0, s, h => by simp at h; simp [ofBits, h]
  | k + 1, s, h => by
    have e : (fun j => bitAt s (j + 1)) = bitAt (s / 2) := funext fun j => (bitAt_half s j).symm
    rw [ofBits, e, ofBits_bitAt k (s / 2) (by rw [Nat.pow_succ] at h; omega)]
    unfold bitAt; simp; omega
theorem ofBits_congr : ∀ (k : Nat) (f g : Nat → Nat), (∀ j, j < k → f j = g j) → ofBits k f = ofBits k g
  | 0, _, _, _ => rfl
  | k + 1, f, g, h => by
    rw [ofBits, ofBits, h 0 (by omega), ofBits_congr k _ (fun j => g (j + 1)) fun j hj => h (j + 1) (by omega)]
/-- THE REST OF THE DIVISION IS THE STATE BEHIND ALL BITS. -/
theorem rest_crc (l : List Nat) (hl : ∀ b ∈ l, b < 2) (s : Nat) (hs : s < 2 ^ 32) (f : Nat → Nat) (hf : ∀ p : Nat, f p = ((l[p]?.getD 0) + bitAt s p) % 2) :
    ofBits 32 (fun k => strikes l.length f (l.length + k)) = crcBits s l := by
  rw [ofBits_congr 32 _ (bitAt (crcBits s l)) fun j hj => by
    show strikes l.length f (l.length + j) = _
    rw [strikes_state l hl s hs f hf l.length (Nat.le_refl _) _ (by omega), List.take_length, show l.length + j - l.length = j by omega, List.getElem?_eq_none (by omega)]
    have := bitAt_lt (crcBits s l) j
    simp; omega]
  exact ofBits_bitAt 32 _ (crcBits_lt l s hs)

/-! Images as text. -/
def ones : Nat := 4294967295
/-- The sum of m words. -/
def sumW (w : Nat → Nat) (n : Nat) : Nat := ones - crcBits ones ((List.range n).flatMap fun j => bitsOf 64 (w j))
theorem sumW_lt (w : Nat → Nat) (n : Nat) : sumW w n < 2 ^ 32 := by unfold sumW ones; omega
theorem own_made1 (w : World) (B : Nat) (e : TypeId) (c : Value) (hB : B ≤ w.heap.size) : (w.alloc (.cells #[c] e)).ownsRow B e 1 (.slice (some ⟨w.heap.size, 0, none⟩) 1 1) 1 [c] :=
  ⟨rfl, .inr ⟨w.heap.size, 1, #[c], rfl, hB, heap_alloc_new w _, Nat.le_refl _, by unfold maxLen; omega, rfl, rfl⟩⟩
theorem info5 : (Tryz.prog.info? 5).map (fun i => (i.zero, i.size, i.bytes)) = some (some (.int .u8 0), 1, 1) := by kernel_rfl
end Go.Proofs.YtkdcfijebgeajaaGreat

namespace Go.Proofs.YtkdcfijebgeajaaGreat
namespace Rk
open Go.RowKit
set_option linter.unusedVariables false
set_option linter.unusedSimpArgs false
set_option linter.unusedSectionVars false
theorem crcK_eq : ∀ (k w s : Nat), crcK k w s = crcBits s (bitsOf k w)
  | 0, w, s => rfl
  | k + 1, w, s => by
    have e : (match Nat.mod (Nat.xor s w) 2 with | 0 => Nat.div s 2 | _ => Nat.xor (Nat.div s 2) 0x82f63b78) = crcBit s (w % 2) := by
      unfold crcBit
      have h1 : (s ^^^ (w % 2)) % 2 = (s ^^^ w) % 2 := by
        have a := Nat.xor_mod_two_pow (a := s) (b := w % 2) (n := 1)
        have b := Nat.xor_mod_two_pow (a := s) (b := w) (n := 1)
        simp only [Nat.pow_one, Nat.mod_mod] at a b
        rw [a, b]
      rw [h1]
      show (match (s ^^^ w) % 2 with | 0 => s / 2 | _ => (s / 2) ^^^ 0x82f63b78) = _
      have h2 : (s ^^^ w) % 2 < 2 := Nat.mod_lt _ (by decide)
      generalize (s ^^^ w) % 2 = q at h2
      match q, h2 with
      | 0, _ => rfl
      | 1, _ => rfl
    have e2 : crcK (k + 1) w s = crcK k (w / 2) (crcBit s (w % 2)) := by
      simp only [crcK, natF_eq]
      exact congrArg (crcK k (w / 2)) e
    rw [e2, crcK_eq k]
    rfl
theorem crcWs_eq : ∀ (l : List Nat) (s : Nat), crcWs l s = crcBits s (l.flatMap fun w => bitsOf 64 w)
  | [], s => rfl
  | w :: ws, s => by
    simp only [crcWs, natF_eq, List.flatMap_cons]
    rw [crcBits_append, crcWs_eq ws, crcK_eq]
theorem sumW_list (l : List Nat) : sumW (fun j => l.getD j 0) l.length = 4294967295 - crcWs l 4294967295 := by
  unfold sumW ones
  rw [crcWs_eq]
  congr 2
  have : l = (List.range l.length).map fun j => l.getD j 0 := by
    apply List.ext_getElem?
    intro j
    by_cases hj : j < l.length
    · simp [hj, List.getElem?_eq_getElem hj]
    · simp [hj]
  conv => rhs; rw [this]
  rw [List.flatMap_map]
end Rk
end Go.Proofs.YtkdcfijebgeajaaGreat

namespace Go.Proofs.YtkdcfijebgeajaaGreat
open Go.RowKit Go.BigFrame
set_option linter.unusedVariables false
set_option linter.unusedSimpArgs false
theorem xor_u32 (x y : Nat) (hx : x < 4294967296) (hy : y < 4294967296) : bits BinOp.xor IntKind.u32 (x : Int) (y : Int) = ((x ^^^ y : Nat) : Int) := by
  have h : x ^^^ y < 4294967296 := Nat.xor_lt_two_pow (n := 32) hx hy
  have e : (BitVec.ofNat 32 x ^^^ BitVec.ofNat 32 y).toNat = x ^^^ y := by
    rw [BitVec.toNat_xor, BitVec.toNat_ofNat, BitVec.toNat_ofNat, Nat.mod_eq_of_lt hx, Nat.mod_eq_of_lt hy]
  simp only [bits, BitVec.ofInt_natCast]
  show IntKind.u32.wrap ((BitVec.ofNat 32 x ^^^ BitVec.ofNat 32 y).toNat : Int) = _
  rw [e, IntKind.wrap_u32]; omega
theorem and1_u32 (x : Nat) (hx : x < 4294967296) : bits BinOp.and IntKind.u32 (x : Int) 1 = ((x % 2 : Nat) : Int) := by
  have e : (BitVec.ofNat 32 x &&& BitVec.ofNat 32 1).toNat = x % 2 := by
    rw [BitVec.toNat_and, BitVec.toNat_ofNat, BitVec.toNat_ofNat, Nat.mod_eq_of_lt hx]
    exact Nat.and_one_is_mod x
  simp only [bits, BitVec.ofInt_natCast]
  show IntKind.u32.wrap ((BitVec.ofNat 32 x &&& BitVec.ofInt 32 1).toNat : Int) = _
  rw [show BitVec.ofInt 32 1 = BitVec.ofNat 32 1 from rfl, e, IntKind.wrap_u32]; omega
theorem crcBit_mod (s b : Nat) : crcBit s (b % 2) = crcBit s b := by
  unfold crcBit
  have h : ∀ x y : Nat, (x ^^^ y) % 2 = (x + y) % 2 := fun x y => by
    have := bitAt_xor x y 0
    unfold bitAt at this
    simp at this
    omega
  rw [h, h]
  have : (s + b % 2) % 2 = (s + b) % 2 := by omega
  rw [this]
theorem bit65 (s b : Nat) (hs : s < 4294967296) (hb : b < 4294967296) (w : World) : Calls Tryz.prog 279 #[.int .u32 s, .int .u32 b] w (Says (.int .u32 (crcBit s b)) w) := by
  unfold Says
  have e1 := xor_u32 s b hs hb
  have hx : s ^^^ b < 4294967296 := Nat.xor_lt_two_pow (n := 32) hs hb
  have e2 := and1_u32 (s ^^^ b) hx
  have e3 := xor_u32 (s / 2) poly (by omega) (by unfold poly; omega)
  have hc : crcBit s b = if (s ^^^ b) % 2 = 1 then (s / 2) ^^^ poly else s / 2 := rfl
  have e4 : (((s / 2 : Nat) : Int)) = (s : Int) / 2 := by omega
  have e5 : ((poly : Nat) : Int) = 2197175160 := rfl
  rw [e4, e5] at e3
  generalize s ^^^ b = x at *
  generalize (s / 2) ^^^ poly = y at *
  by_cases h : x % 2 = 1
  · rw [if_pos h] at hc
    have d1 : (((x % 2 : Nat) : Int) == 1) = true := by rw [h]; rfl
    go_enter Tryz.func279, Tryz.ntmps279
    go_wp2_with fail
    go_ret
    exact ⟨by rw [hc]; rfl, rfl⟩
  · rw [if_neg h] at hc
    have d1 : (((x % 2 : Nat) : Int) == 1) = false := by rw [show x % 2 = 0 by omega]; rfl
    go_enter Tryz.func279, Tryz.ntmps279
    go_wp2_with fail
    go_ret
    exact ⟨by rw [hc, e4]; rfl, rfl⟩
theorem bit65' (z : Int) (s b : Nat) (hz : z = (b : Int)) (hs : s < 4294967296) (hb : b < 4294967296) (w : World) : Calls Tryz.prog 279 #[.int .u32 s, .int .u32 z] w (Says (.int .u32 (crcBit s b)) w) := by
  subst hz; exact bit65 s b hs hb w
theorem shr_nat (b k : Nat) : ((b : Int) / 2 ^ k) = ((b / 2 ^ k : Nat) : Int) := by simp
theorem bitsOf_next (b k n : Nat) : bitsOf (n + 1) (b / 2 ^ k) = (b / 2 ^ k) % 2 :: bitsOf n (b / 2 ^ (k + 1)) := by
  rw [bitsOf, Nat.div_div_eq_div_mul, Nat.pow_succ]
theorem byte53 (s b : Nat) (hs : s < 4294967296) (hb : b < 256) (w : World) : Calls Tryz.prog 251 #[.int .u32 s, .int .u8 b] w (Says (.int .u32 (crcBits s (bitsOf 8 b))) w) := by
  unfold Says
  go_enter Tryz.func251, Tryz.ntmps251
  go_wp2_with fail
  go_loop [0, 6] (fun v0 i => ∃ (k t : Nat), k ≤ 8 ∧ t < 4294967296 ∧ v0 = .int .u32 t ∧ i = .int .i64 k ∧ Hid (crcBits s (bitsOf 8 b) = crcBits t (bitsOf (8 - k) (b / 2 ^ k)))) (fun _ i => 8 - (intOf i).toNat)
  case atStart => exact ⟨0, s, by omega, hs, rfl, rfl, by simp [Hid]⟩
  case round =>
    obtain ⟨k, t, hk, ht, rfl, rfl, HE⟩ := hrel
    by_cases hlt : k < 8
    · have hd : b / 2 ^ k < 256 := Nat.lt_of_le_of_lt (Nat.div_le_self _ _) hb
      have HZ : Hid (((b : Int) / 2 ^ k % 4294967296) = ((b / 2 ^ k : Nat) : Int)) := Lib.hid (by rw [shr_nat]; generalize b / 2 ^ k = q at hd ⊢; omega)
      have hn : Hid (crcBits s (bitsOf 8 b) = crcBits (crcBit t (b / 2 ^ k)) (bitsOf (8 - (k + 1)) (b / 2 ^ (k + 1)))) := by
        unfold Hid
        rw [HE.out, show 8 - k = (8 - (k + 1)) + 1 by omega, bitsOf_next, crcBits, crcBit_mod]
      have hl := crcBit_lt t (b / 2 ^ k) (by omega)
      go_wp2_with (go_at_call 279; (with_reducible refine (bit65' _ t (b / 2 ^ k) HZ.out ht (by omega) _).mono ?_); rintro e w1 ⟨rfl, hw⟩; cases hw)
      go_round
      case rel => exact ⟨k + 1, _, by omega, by omega, rfl, by go_num, hn⟩
      case measure => simp [intOf]; omega
    · obtain rfl : k = 8 := by omega
      go_wp2_with fail
      go_ret
      exact ⟨by rw [HE.out]; rfl, rfl⟩
theorem byte53' (z : Int) (s b : Nat) (hz : z = (b : Int)) (hs : s < 4294967296) (hb : b < 256) (w : World) : Calls Tryz.prog 251 #[.int .u32 s, .int .u8 z] w (Says (.int .u32 (crcBits s (bitsOf 8 b))) w) := by
  subst hz; exact byte53 s b hs hb w
theorem word40 (s x : Nat) (hs : s < 4294967296) (hx : x < 18446744073709551616) (w : World) : Calls Tryz.prog 232 #[.int .u32 s, .int .u64 x] w (Says (.int .u32 (crcBits s (bitsOf 64 x))) w) := by
  unfold Says
  go_enter Tryz.func232, Tryz.ntmps232
  go_wp2_with fail
  go_loop [0, 6] (fun v0 i => ∃ (k t : Nat), k ≤ 8 ∧ t < 4294967296 ∧ v0 = .int .u32 t ∧ i = .int .i64 k ∧ Hid (crcBits s (bitsOf 64 x) = crcBits t (bitsOf (8 * (8 - k)) (x / 2 ^ (8 * k))))) (fun _ i => 8 - (intOf i).toNat)
  case atStart => exact ⟨0, s, by omega, hs, rfl, rfl, by simp [Hid]⟩
  case round =>
    obtain ⟨k, t, hk, ht, rfl, rfl, HE⟩ := hrel
    by_cases hlt : k < 8
    · have e0 : IntKind.i64.wrap (8 * (k : Int)) = ((8 * k : Nat) : Int) := by rw [IntKind.wrap_i64]; omega
      have HZ : Hid (((x : Int) / 2 ^ (8 * k) % 256) = ((x / 2 ^ (8 * k) % 256 : Nat) : Int)) := Lib.hid (by rw [shr_nat]; omega)
      have hn : Hid (crcBits s (bitsOf 64 x) = crcBits (crcBits t (bitsOf 8 (x / 2 ^ (8 * k) % 256))) (bitsOf (8 * (8 - (k + 1))) (x / 2 ^ (8 * (k + 1))))) := by
        unfold Hid
        rw [HE.out, show 8 * (8 - k) = 8 + 8 * (8 - (k + 1)) by omega, bitsOf_append, crcBits_append, Nat.div_div_eq_div_mul, ← Nat.pow_add, show 8 * k + 8 = 8 * (k + 1) by omega]
        rw [show bitsOf 8 (x / 2 ^ (8 * k) % 256) = bitsOf 8 (x / 2 ^ (8 * k)) from bitsOf_mod 8 _]
      have hl := crcBits_lt (bitsOf 8 (x / 2 ^ (8 * k) % 256)) t (by omega)
      go_wp2_with (go_at_call 251; (with_reducible refine (byte53' _ t (x / 2 ^ (8 * k) % 256) HZ.out ht (Nat.mod_lt _ (by decide)) _).mono ?_); rintro e w1 ⟨rfl, hw⟩; cases hw)
      go_round
      case rel => exact ⟨k + 1, _, by omega, by omega, rfl, by go_num, hn⟩
      case measure => simp [intOf]; omega
    · obtain rfl : k = 8 := by omega
      go_wp2_with fail
      go_ret
      exact ⟨by rw [HE.out]; rfl, rfl⟩
end Go.Proofs.YtkdcfijebgeajaaGreat

namespace Go.Proofs.YtkdcfijebgeajaaGreat
open Go.RowKit Go.BigFrame
set_option linter.unusedVariables false
set_option linter.unusedSimpArgs false
/-- Words that lie below B. -/
def WordsN (B : Nat) (W : World) (a : Option Addr) (n : Nat) (f : Nat → Nat) : Prop :=
  ∃ b off, (0 < n → a = some ⟨b, off, none⟩ ∧ b < B) ∧ ∀ j, j < n → W.cell? ⟨b, off + j, none⟩ = some (.int .u64 (f j))
theorem WordsN.below {B B' : Nat} {W W' : World} {a : Option Addr} {n : Nat} {f : Nat → Nat} (h : WordsN B W a n f) (hb : Below B' W W') (hB : B ≤ B') : WordsN B W' a n f := by
  obtain ⟨b, off, ha, hc⟩ := h
  exact ⟨b, off, ha, fun j hj => (hb.cell (p := ⟨b, off + j, none⟩) (by have := (ha (by omega)).2; show b < B'; omega)).trans (hc j hj)⟩
theorem WordsN.mono {B B' : Nat} {W : World} {a : Option Addr} {n : Nat} {f : Nat → Nat} (h : WordsN B W a n f) (hB : B ≤ B') : WordsN B' W a n f := by
  obtain ⟨b, off, ha, hc⟩ := h
  exact ⟨b, off, fun h => ⟨(ha h).1, by have := (ha h).2; omega⟩, hc⟩
theorem begin39 (w : World) : Calls Tryz.prog 231 #[] w (Says (.int .u32 ones) w) := by
  go_enter Tryz.func231, Tryz.ntmps231
  go_wp2_with fail
  go_ret
  exact ⟨rfl, rfl⟩
theorem xor_onesN (s : Nat) (hs : s < 4294967296) : 4294967295 ^^^ s = ones - s := by
  have e : ones - s = 2 ^ 32 - (s + 1) := by unfold ones; omega
  have e1 : (4294967295 : Nat) = 2 ^ 32 - (0 + 1) := rfl
  apply Nat.eq_of_testBit_eq
  intro i
  rw [e, Nat.testBit_xor, Nat.testBit_two_pow_sub_succ hs, e1, Nat.testBit_two_pow_sub_succ (by decide)]
  rw [Nat.zero_testBit]
  by_cases h : i < 32
  · simp [h]
  · have : s.testBit i = false := Nat.testBit_lt_two_pow (Nat.lt_of_lt_of_le hs (Nat.pow_le_pow_right (n := 2) (by decide) (by omega : 32 ≤ i)))
    simp [h, this]
theorem end41 (s : Nat) (hs : s < 4294967296) (w : World) : Calls Tryz.prog 233 #[.int .u32 s] w (Says (.int .u32 ((ones - s : Nat) : Int)) w) := by
  unfold Says
  go_enter Tryz.func233, Tryz.ntmps233
  go_wp2_with fail
  have e := xor_u32 4294967295 s (by decide) hs
  rw [xor_onesN s hs] at e
  go_ret
  exact ⟨by rw [← e]; rfl, rfl⟩
theorem bitsAll_next (f : Nat → Nat) (k : Nat) : ((List.range (k + 1)).flatMap fun j => bitsOf 64 (f j)) = ((List.range k).flatMap fun j => bitsOf 64 (f j)) ++ bitsOf 64 (f k) := by
  rw [List.range_succ, List.flatMap_append]; simp
theorem sum20 (a : Option Addr) (n cap : Nat) (hn : n ≤ 9223372036854775807) (f : Nat → Nat) (hf : ∀ j, f j < 18446744073709551616) (w : World) (h : WordsN w.heap.size w a n f) :
    Calls Tryz.prog 193 #[.slice a n cap] w (Says (.int .u32 (sumW f n)) w) := by
  unfold Says
  obtain ⟨b, off, ha, hc⟩ := h
  have HA := Lib.hid ha
  have HC := Lib.hid hc
  have HF := Lib.hid hf
  clear ha hc hf
  go_enter Tryz.func193, Tryz.ntmps193
  go_wp2_with (go_at_call 231; (with_reducible refine (begin39 _).mono ?_); rintro e w1 ⟨rfl, hw⟩; cases hw)
  go_loop [3, 9] (fun v0 i => ∃ (k t : Nat), k ≤ n ∧ t < 4294967296 ∧ v0 = .int .u32 t ∧ i = .int .i64 k ∧ Hid (crcBits ones ((List.range k).flatMap fun j => bitsOf 64 (f j)) = t)) (fun _ i => n - (intOf i).toNat)
  case atStart => exact ⟨0, ones, by omega, by decide, rfl, rfl, rfl⟩
  case round =>
    obtain ⟨k, t, hk, ht, rfl, rfl, HE⟩ := hrel
    by_cases hlt : k < n
    · obtain ⟨rfl, hb⟩ := HA.out (by omega)
      have c1 := HC.out k hlt
      have d1 : decide ((k : Int) < (n : Int)) = true := bool_yes (by omega)
      have hn : Hid (crcBits ones ((List.range (k + 1)).flatMap fun j => bitsOf 64 (f j)) = crcBits t (bitsOf 64 (f k))) := by
        unfold Hid
        rw [bitsAll_next, crcBits_append, HE.out]
      have hl := crcBits_lt (bitsOf 64 (f k)) t (by omega)
      go_wp2_with (go_at_call 232; (with_reducible refine (word40 t (f k) ht (HF.out k) _).mono ?_); rintro e w1 ⟨rfl, hw⟩; cases hw)
      go_round
      case rel => exact ⟨k + 1, _, by omega, by omega, rfl, by go_num, hn⟩
      case measure => simp [intOf]; omega
    · obtain rfl : k = n := by omega
      have d1 : decide ((k : Int) < (k : Int)) = false := by simp
      go_wp2_with (go_at_call 233; (with_reducible refine (end41 t ht _).mono ?_); rintro e w1 ⟨rfl, hw⟩; cases hw)
      go_ret
      exact ⟨by unfold sumW; rw [HE.out]; rfl, rfl⟩
end Go.Proofs.YtkdcfijebgeajaaGreat

namespace Go.Proofs.YtkdcfijebgeajaaGreat
open Go.RowKit Go.BigFrame
set_option linter.unusedVariables false
set_option linter.unusedSimpArgs false
/-- Numbers as values. -/
def intsL (l : List Nat) : List Value := l.map fun (b : Nat) => .int .i64 (Int.ofNat b)
theorem intsL_len (l : List Nat) : (intsL l).length = l.length := by simp [intsL]
theorem intsL_append (l m : List Nat) : intsL (l ++ m) = intsL l ++ intsL m := by simp [intsL]
theorem intsL_one (l : List Nat) : ∀ u ∈ intsL l, u.oneCell' = true := fun u hu => by
  obtain ⟨_, _, rfl⟩ := List.mem_map.1 hu
  rfl
theorem intsL_get (l : List Nat) (j : Nat) (h : j < l.length) : (intsL l)[j]? = some (.int .i64 (l[j]?.getD 0 : Nat)) := by
  simp [intsL, List.getElem?_eq_getElem h]
/-- A new list of numbers. -/
def NewInts (l : List Nat) (w : World) (e : Ending) (w' : World) : Prop := ∃ v, e = .returned v ∧ Below w.heap.size w w' ∧ w'.ownsRow w.heap.size 3 1 v l.length (intsL l)
/-- Cells that lie below B. -/
def CellsAt (B : Nat) (W : World) (a : Option Addr) (n : Nat) (f : Nat → Value) : Prop :=
  ∃ b off, (0 < n → a = some ⟨b, off, none⟩ ∧ b < B) ∧ ∀ j, j < n → W.cell? ⟨b, off + j, none⟩ = some (f j)
theorem CellsAt.below {B B' : Nat} {W W' : World} {a : Option Addr} {n : Nat} {f : Nat → Value} (h : CellsAt B W a n f) (hb : Below B' W W') (hB : B ≤ B') : CellsAt B W' a n f := by
  obtain ⟨b, off, ha, hc⟩ := h
  exact ⟨b, off, ha, fun j hj => (hb.cell (p := ⟨b, off + j, none⟩) (by have := (ha (by omega)).2; show b < B'; omega)).trans (hc j hj)⟩
/-- A row of one's own, cell by cell. -/
theorem own_at {w : World} {base : Nat} {e : TypeId} {v : Value} {n : Nat} {xs : List Value} (h : w.ownsRow base e 1 v n xs) : ∃ a c, v = .slice a n c ∧ CellsAt w.heap.size w a n (fun j => xs[j]?.getD undef) := by
  have hl : xs.length = n := by have := h.1; omega
  rcases h.2 with ⟨rfl, rfl⟩ | ⟨g, cap, cur, rfl, hb, hg, h1, h2, h3, h4⟩
  · exact ⟨_, _, rfl, 0, 0, by omega, by omega⟩
  · refine ⟨_, _, rfl, g, 0, fun _ => ⟨rfl, (Array.getElem?_eq_some_iff.1 hg).1⟩, fun j hj => ?_⟩
    rw [Nat.zero_add, cell_in hg, ← Array.getElem?_toList]
    have h5 : xs[j]? = cur.toList[j]? := by rw [← h4, Nat.mul_one, List.getElem?_take, if_pos hj]
    rw [← h5, List.getElem?_eq_getElem (by omega)]; simp [List.getElem?_eq_getElem (show j < xs.length by omega)]
set_option maxRecDepth 100000 in
set_option maxHeartbeats 4000000 in
theorem bits59 (x n : Nat) (hx : x < 18446744073709551616) (hn : n ≤ 64) (w : World) : Calls Tryz.prog 234 #[.int .u64 x, .int .i64 n] w (NewInts (bitsOf n x) w) := by
  obtain ⟨i3, hi, hz0, hz1, hz2⟩ := info_parts info3
  obtain ⟨B, hB⟩ : ∃ B, B = w.heap.size := ⟨_, rfl⟩
  unfold NewInts
  rw [← hB, bitsOf_length]
  have HB := Lib.hid hB; clear hB
  go_enter Tryz.func234, Tryz.ntmps234
  go_wp2_with fail
  go_loopw [0, 5, 6] (fun v0 v i wr => ∃ (k y : Nat) (l : List Nat), k ≤ n ∧ y < 18446744073709551616 ∧ v0 = .int .u64 y ∧ i = .int .i64 k ∧ Hid (bitsOf n x = l ++ bitsOf (n - k) y ∧ l.length = k) ∧ Hid (wr.ownsRow B 3 1 v k (intsL l)) ∧ Hid (Below B w wr)) (fun _ _ i _ => n - (intOf i).toNat)
  case atStart => exact ⟨0, x, [], by omega, hx, rfl, rfl, ⟨rfl, rfl⟩, World.ownsRow_nil _ _ _ _, by rw [HB.out]; exact Below.refl _ _⟩
  case round =>
    obtain ⟨k, y, l, hk, hy, rfl, rfl, HE, HO, HBE⟩ := hrel
    have hBw : B ≤ wr.heap.size := by rw [HB.out]; rw [HB.out] at HBE; exact HBE.out.size
    have q1 : k + 1 ≤ maxLen := by unfold maxLen; omega
    have q2 : (k + 1) * 8 ≤ 140737488355328 := by omega
    obtain ⟨va, vc, rfl⟩ := own_slice_n HO.out
    by_cases hlt : k < n
    · have d1 : decide ((k : Int) < (n : Int)) = true := bool_yes (by omega)
      go_wp2_with (at_builtin; refine wpList_push rfl (.tmp 12) (.tmp 16) 135 rfl B 3 i3 (.int .i64 0) 1 8 Tryz.underlying135 hi hz0 hz1 hz2 rfl (by decide) wr hBw (.slice va k vc) k (intsL l) rfl HO.out #[.int .i64 ((y : Int) % 2)] 1 1 rfl rfl (by simp [Value.oneCell']) q1 q2 ?_; intro v' w' ho' hg' hb' hn'; have HO' := Lib.hid ho'; have HB' := Lib.hid (hb' _ _ HBE.out (Nat.le_refl _)); clear ho' hg' hb' hn')
      go_wp2_with fail
      go_roundw
      case rel => exact ⟨k + 1, y / 2, l ++ [y % 2], by omega, by omega, by go_num, by go_num, ⟨by rw [HE.out.1, show n - k = (n - (k + 1)) + 1 by omega, bitsOf, List.append_assoc]; rfl, by rw [List.length_append, HE.out.2]; rfl⟩, Lib.hid (by rw [intsL_append]; exact HO'.out), HB'⟩
      case measure => simp [intOf]; omega
    · obtain rfl : k = n := by omega
      have d1 : decide ((k : Int) < (k : Int)) = false := by simp
      go_wp2_with fail
      go_ret
      exact ⟨_, rfl, HBE.out, by have := HE.out.1; rw [Nat.sub_self] at this; rw [this, bitsOf, List.append_nil]; exact HO.out⟩
end Go.Proofs.YtkdcfijebgeajaaGreat

namespace Go.Proofs.YtkdcfijebgeajaaGreat
open Go.RowKit Go.BigFrame
set_option linter.unusedVariables false
set_option linter.unusedSimpArgs false
theorem bits59' (z m : Int) (x n : Nat) (hz : z = (x : Int)) (hm : m = (n : Int)) (hx : x < 18446744073709551616) (hn : n ≤ 64) (w : World) : Calls Tryz.prog 234 #[.int .u64 z, .int .i64 m] w (NewInts (bitsOf n x) w) := by
  subst hz; subst hm; exact bits59 x n hx hn w
theorem own_down {w : World} {B C : Nat} {e : TypeId} {size : Nat} {v : Value} {n : Nat} {xs : List Value} (h : w.ownsRow C e size v n xs) (hB : B ≤ C) : w.ownsRow B e size v n xs :=
  ⟨h.1, h.2.elim .inl fun ⟨g, cap, cur, e1, hb, rest⟩ => .inr ⟨g, cap, cur, e1, Nat.le_trans hB hb, rest⟩⟩
def divL : List Nat := 1 :: bitsOf 32 poly
theorem divL_get (j : Nat) (h : j < 33) : divL[j]?.getD 0 = dv j := by
  cases j with
  | zero => rfl
  | succ j =>
    unfold divL dv
    rw [List.getElem?_cons_succ, bitsOf_get 32 poly j (by omega)]
    simp [bitAt]
set_option maxRecDepth 100000 in
set_option maxHeartbeats 4000000 in
theorem divisor72 (w : World) : Calls Tryz.prog 252 #[] w (NewInts divL w) := by
  obtain ⟨i3, hi, hz0, hz1, hz2⟩ := info_parts info3
  obtain ⟨B, hB⟩ : ∃ B, B = w.heap.size := ⟨_, rfl⟩
  have HB := Lib.hid hB
  unfold NewInts
  rw [← hB]
  clear hB
  have HP : Hid ((2197175160 : Int) = ((poly : Nat) : Int)) := Lib.hid rfl
  have HQ : Hid ((32 : Int) = ((32 : Nat) : Int)) := Lib.hid rfl
  have HR : Hid (poly < 18446744073709551616) := Lib.hid (by decide)
  go_enter Tryz.func252, Tryz.ntmps252
  go_wp2_with (go_at_call 234; (with_reducible refine (bits59' _ _ poly 32 HP.out HQ.out HR.out (by decide) _).mono ?_); rintro e w1 ⟨v1, rfl, hb1, ho1⟩; obtain ⟨a1, c1, rfl, hc1⟩ := own_at ho1; have HB1 := Lib.hid hb1; have HC1 := Lib.hid hc1; clear hb1 hc1 ho1)
  have hB1 : B ≤ w1.heap.size := by rw [HB.out]; exact HB1.out.size
  have HL : Hid ((bitsOf 32 poly).length = 32) := Lib.hid (bitsOf_length _ _)
  have HG : Hid (∀ j, j < 32 → (intsL (bitsOf 32 poly))[j]?.getD undef = .int .i64 (Int.ofNat ((bitsOf 32 poly)[j]?.getD 0))) := Lib.hid fun j hj => by rw [intsL_get _ _ (by rw [HL.out]; exact hj)]; rfl
  have HT : Hid (∀ j, j < 32 → divL.take (j + 2) = divL.take (j + 1) ++ [(bitsOf 32 poly)[j]?.getD 0]) := Lib.hid fun j hj => by
    unfold divL
    rw [List.take_succ_cons, List.take_succ_cons, List.take_add_one, List.getElem?_eq_getElem (by rw [HL.out]; exact hj)]; rfl
  have HD : Hid (divL.take 33 = divL) := Lib.hid (List.take_of_length_le (by unfold divL; rw [List.length_cons, HL.out]; exact Nat.le_refl _))
  generalize bitsOf 32 poly = bl at *
  obtain ⟨b1, o1, ha1, hc1⟩ := HC1.out
  obtain ⟨rfl, hb1⟩ := ha1 (by rw [HL.out]; decide)
  have HC := Lib.hid hc1
  clear HC1 hc1 ha1
  go_wp2_with fail
  go_loopw [2, 3] (fun v i wr => ∃ k : Nat, k ≤ 32 ∧ i = .int .i64 k ∧ Hid (wr.ownsRow w1.heap.size 3 1 v (k + 1) (intsL (divL.take (k + 1)))) ∧ Hid (Below w1.heap.size w1 wr)) (fun _ i _ => 32 - (intOf i).toNat)
  case atStart => exact ⟨0, by omega, rfl, own_made1 w1 w1.heap.size 3 _ (Nat.le_refl _), (Below.refl _ _).alloc (Nat.le_refl _) _⟩
  case round =>
    obtain ⟨k, hk, rfl, HO, HBE⟩ := hrel
    have hBw : w1.heap.size ≤ wr.heap.size := HBE.out.size
    have q1 : k + 1 + 1 ≤ maxLen := by unfold maxLen; omega
    have q2 : (k + 1 + 1) * 8 ≤ 140737488355328 := by omega
    obtain ⟨va, vc, rfl⟩ := own_slice_n HO.out
    by_cases hlt : k < 32
    · have d1 : decide ((k : Int) < 32) = true := bool_yes (by omega)
      have e1 : wr.cell? ⟨b1, o1 + k, none⟩ = some (.int .i64 (Int.ofNat (bl[k]?.getD 0))) := by rw [HBE.out.cell (p := ⟨b1, o1 + k, none⟩) hb1, HC.out k (by rw [HL.out]; exact hlt), HG.out k hlt]
      have HTk := Lib.hid (HT.out k hlt)
      have e2 : (k : Int) < ((bl.length : Nat) : Int) := by rw [HL.out]; omega
      generalize bl[k]?.getD 0 = x at *
      go_wp2_with (at_builtin; refine wpList_push rfl (.tmp 10) (.tmp 15) 135 rfl w1.heap.size 3 i3 (.int .i64 0) 1 8 Tryz.underlying135 hi hz0 hz1 hz2 rfl (by decide) wr hBw (.slice va (k + 1) vc) (k + 1) (intsL (divL.take (k + 1))) rfl HO.out #[.int .i64 (Int.ofNat x)] 1 1 rfl rfl (by simp [Value.oneCell']) q1 q2 ?_; intro v' w' ho' hg' hb' hn'; have HO' := Lib.hid ho'; have HB' := Lib.hid (hb' _ _ HBE.out (Nat.le_refl _)); clear ho' hg' hb' hn')
      go_wp2_with fail
      go_roundw
      case rel => exact ⟨k + 1, by omega, by go_num, Lib.hid (by rw [HTk.out, intsL_append]; exact HO'.out), HB'⟩
      case measure => simp [intOf]; omega
    · obtain rfl : k = 32 := by omega
      go_wp2_with fail
      go_ret
      refine ⟨_, rfl, ?_, ?_⟩
      · rw [HB.out]; exact HB1.out.trans (HBE.out.mono HB1.out.size)
      · rw [← HD.out]; exact own_down HO.out hB1
end Go.Proofs.YtkdcfijebgeajaaGreat

namespace Go.Proofs.YtkdcfijebgeajaaGreat
open Go.RowKit Go.BigFrame
set_option linter.unusedVariables false
set_option linter.unusedSimpArgs false
/-- A step of the division, k of its 33 places done. -/
def part (i k : Nat) (F : Nat → Nat) : Nat → Nat := fun p => if F i = 1 ∧ i + 33 ≤ p + k ∧ p ≤ i + 32 then (F p + dv (p - i)) % 2 else F p
theorem part_zero (i : Nat) (F : Nat → Nat) : part i 0 F = F := by
  funext p; unfold part; rw [if_neg (by omega)]
theorem part_head (i k : Nat) (F : Nat → Nat) (hk : k ≤ 32) : part i k F i = F i := by
  unfold part; rw [if_neg (by omega)]
theorem part_at (i k : Nat) (F : Nat → Nat) (hk : k ≤ 32) : part i k F (i + 32 - k) = F (i + 32 - k) := by
  unfold part; rw [if_neg (by omega)]
theorem part_next (i k : Nat) (F : Nat → Nat) (hk : k ≤ 32) (h : F i = 1) : part i (k + 1) F = upd (part i k F) (i + 32 - k) ((F (i + 32 - k) + dv (32 - k)) % 2) := by
  funext p
  unfold upd part
  by_cases hp : p = i + 32 - k
  · subst hp
    rw [if_pos rfl, if_pos ⟨h, by omega, by omega⟩, show i + 32 - k - i = 32 - k by omega]
  · rw [if_neg hp]
    by_cases h2 : F i = 1 ∧ i + 33 ≤ p + k ∧ p ≤ i + 32
    · rw [if_pos h2, if_pos ⟨h, by omega, by omega⟩]
    · rw [if_neg h2, if_neg (by omega)]
theorem part_last (i : Nat) (F : Nat → Nat) : part i 33 F = strike i F := by
  funext p
  unfold part strike
  by_cases h2 : F i = 1 ∧ i ≤ p ∧ p ≤ i + 32
  · rw [if_pos h2, if_pos ⟨h2.1, by omega, h2.2.2⟩]
  · rw [if_neg h2, if_neg (by omega)]
theorem strike_no (i : Nat) (F : Nat → Nat) (h : F i ≠ 1) : strike i F = F := by
  funext p; unfold strike; rw [if_neg (by omega)]
theorem strike_lt (i : Nat) (F : Nat → Nat) (h : ∀ p, F p < 2) : ∀ p, strike i F p < 2 := fun p => by
  unfold strike; split
  · omega
  · exact h p
theorem part_lt (i k : Nat) (F : Nat → Nat) (h : ∀ p, F p < 2) : ∀ p, part i k F p < 2 := fun p => by
  unfold part; split
  · omega
  · exact h p
theorem strikes_lt (f : Nat → Nat) (h : ∀ p, f p < 2) : ∀ i p, strikes i f p < 2
  | 0, p => h p
  | i + 1, p => strike_lt i _ (strikes_lt f h i) p
theorem ofBits_lt : ∀ (k : Nat) (f : Nat → Nat), (∀ p, f p < 2) → ofBits k f < 2 ^ k
  | 0, _, _ => by simp [ofBits]
  | k + 1, f, h => by
    rw [ofBits, Nat.pow_succ]
    have := ofBits_lt k (fun j => f (j + 1)) fun p => h (p + 1)
    have := h 0
    omega
theorem ofBits_down (T : Nat → Nat) (n m : Nat) (h : m < 32) : ofBits (m + 1) (fun j => T (n + 32 - (m + 1) + j)) = 2 * ofBits m (fun j => T (n + 32 - m + j)) + T (n + (31 - m)) := by
  rw [ofBits]
  have e : (fun j => T (n + 32 - (m + 1) + (j + 1))) = fun j => T (n + 32 - m + j) := funext fun j => by rw [show n + 32 - (m + 1) + (j + 1) = n + 32 - m + j by omega]
  rw [e, show n + 32 - (m + 1) + 0 = n + (31 - m) by omega]
  omega
/-- A row of numbers. -/
def Nums (W : World) (g n : Nat) (T : Nat → Nat) : Prop := RowAt W g n fun p => .int .i64 (Int.ofNat (T p))
theorem Nums.cell {W : World} {g n : Nat} {T : Nat → Nat} (h : Nums W g n T) {k : Nat} (hk : k < n) : W.cell? ⟨g, k, none⟩ = some (.int .i64 (Int.ofNat (T k))) := RowAt.cell h hk
theorem Nums.set {W : World} {g n : Nat} {T : Nat → Nat} (h : Nums W g n T) (j x : Nat) : Nums (W.setCell ⟨g, j, none⟩ (.int .i64 (Int.ofNat x))) g n (upd T j x) :=
  RowAt.congr (RowAt.set h j (.int .i64 (Int.ofNat x))) fun k _ => by unfold upd; split <;> rfl
theorem Nums.to {W : World} {g n : Nat} {T U : Nat → Nat} (h : Nums W g n T) (e : ∀ p, p < n → T p = U p) : Nums W g n U := RowAt.congr h fun k hk => by rw [e k hk]
theorem Nums.free {W : World} {g n : Nat} {T : Nat → Nat} (h : Nums W g n T) (j : Nat) : W.frozen? ⟨g, j, none⟩ = false := RowAt.free h j
theorem Nums.keep {W W' : World} {g n : Nat} {T : Nat → Nat} (h : Nums W g n T) (e : W'.heap[g]? = W.heap[g]?) : Nums W' g n T := RowAt.keep h e
theorem Nums.drew {W : World} {g n : Nat} {T : Nat → Nat} (h : Nums W g n T) : Nums W.drew g n T := RowAt.keep h rfl
/-- A row of one's own numbers. -/
theorem own_nums {w : World} {B : Nat} {v : Value} {l : List Nat} (h : w.ownsRow B 3 1 v l.length (intsL l)) (h1 : 1 ≤ l.length) : ∃ g c, v = .slice (some ⟨g, 0, none⟩) l.length c ∧ B ≤ g ∧ Nums w g l.length (fun p => l[p]?.getD 0) := by
  rcases h.2 with ⟨-, h0⟩ | ⟨g, cap, cur, rfl, hb, hg, h2, h3, h4, h5⟩
  · omega
  · refine ⟨g, cap, rfl, hb, cur, 3, hg, fun k hk => ?_⟩
    rw [← Array.getElem?_toList]
    have h6 : (intsL l)[k]? = cur.toList[k]? := by rw [← h5, Nat.mul_one, List.getElem?_take, if_pos hk]
    rw [← h6, intsL_get l k hk]; rfl
end Go.Proofs.YtkdcfijebgeajaaGreat
