/- Layer 32: images as text, what is read of a text. No program here. -/
import Derived.Lib.Hide
namespace Go.Proofs.YtjbngddmmdcagaaDoor
open Go
set_option linter.unusedVariables false

/-- A digit. -/
def dgt (d : Nat) : UInt8 := UInt8.ofNat (if d < 10 then 48 + d else 87 + d)
/-- A number's digits by a base. -/
def dig (b n : Nat) : List UInt8 := if h : n < b ∨ b < 2 then [dgt n] else dig b (n / b) ++ [dgt (n % b)]
termination_by n
decreasing_by
  have : ¬ n < b ∧ ¬ b < 2 := not_or.1 h
  exact Nat.div_lt_self (by omega) (by omega)
/-- What a digit counts; 16: it is none. -/
def val (c : UInt8) : Nat := if 48 ≤ c.toNat ∧ c.toNat ≤ 57 then c.toNat - 48 else if 97 ≤ c.toNat ∧ c.toNat ≤ 102 then c.toNat - 87 else 16
theorem val_dgt : ∀ d, d < 16 → val (dgt d) = d := by decide
theorem dgt_ne : ∀ d, d < 16 → dgt d ≠ 32 ∧ dgt d ≠ 10 ∧ dgt d ≠ 58 := by decide
theorem dig_small {b n : Nat} (h : n < b) : dig b n = [dgt n] := by rw [dig, dif_pos (Or.inl h)]
theorem dig_big {b n : Nat} (h : b ≤ n) (hb : 2 ≤ b) : dig b n = dig b (n / b) ++ [dgt (n % b)] := by
  rw [dig, dif_neg (by omega)]
theorem dig_mem {b : Nat} (hb : 2 ≤ b) (h16 : b ≤ 16) : ∀ n c, c ∈ dig b n → ∃ d, d < b ∧ c = dgt d := by
  intro n
  induction n using Nat.strongRecOn with
  | _ n ih =>
    intro c hc
    by_cases h : n < b
    · rw [dig_small h] at hc
      exact ⟨n, h, by simpa using hc⟩
    · rw [dig_big (by omega) hb] at hc
      rcases List.mem_append.1 hc with hc | hc
      · exact ih (n / b) (Nat.div_lt_self (by omega) (by omega)) c hc
      · exact ⟨n % b, Nat.mod_lt _ (by omega), by simpa using hc⟩
theorem dig_pos (b n : Nat) : 1 ≤ (dig b n).length := by
  rw [dig]; split <;> simp
theorem dig_length {b : Nat} (hb : 2 ≤ b) : ∀ k n, 1 ≤ k → n < b ^ k → (dig b n).length ≤ k := by
  intro k
  induction k with
  | zero => intro n h; omega
  | succ k ih =>
    intro n _ hn
    by_cases h : n < b
    · rw [dig_small h]; simp
    · rw [dig_big (by omega) hb, List.length_append]
      have hk : 1 ≤ k := by
        rcases Nat.eq_zero_or_pos k with rfl | hk
        · simp at hn; omega
        · exact hk
      have := ih (n / b) hk (by rw [Nat.div_lt_iff_lt_mul (by omega)]; rw [Nat.pow_succ] at hn; omega)
      simp; omega

/-- Digits are read behind what was read: none where one is none. -/
def reads (b : Nat) : List UInt8 → Nat → Option Nat
  | [], n => some n
  | c :: t, n => if val c < b then reads b t (n * b + val c) else none
theorem reads_append (b : Nat) : ∀ (s t : List UInt8) (n : Nat), reads b (s ++ t) n = (reads b s n).bind (reads b t)
  | [], _, _ => rfl
  | c :: s, t, n => by
    simp only [List.cons_append, reads]
    split
    · exact reads_append b s t _
    · rfl
theorem reads_dig {b : Nat} (hb : 2 ≤ b) (h16 : b ≤ 16) : ∀ n, reads b (dig b n) 0 = some n := by
  intro n
  induction n using Nat.strongRecOn with
  | _ n ih =>
    by_cases h : n < b
    · rw [dig_small h]
      simp only [reads, val_dgt n (by omega), if_pos h, Nat.zero_mul, Nat.zero_add]
    · rw [dig_big (by omega) hb, reads_append, ih (n / b) (Nat.div_lt_self (by omega) (by omega))]
      have hm : n % b < b := Nat.mod_lt _ (by omega)
      simp only [Option.bind_some, reads, val_dgt (n % b) (by omega), if_pos hm]
      rw [Nat.mul_comm, Nat.div_add_mod]
/-- A number of at most so many digits. -/
def digits (b most : Nat) (s : List UInt8) : Option Nat := if s = [] ∨ most < s.length then none else reads b s 0
theorem digits_dig {b most n : Nat} (hb : 2 ≤ b) (h16 : b ≤ 16) (hm : 1 ≤ most) (hn : n < b ^ most) : digits b most (dig b n) = some n := by
  have := dig_pos b n
  rw [digits, if_neg, reads_dig hb h16]
  have := dig_length hb most n hm hn
  rintro (h | h)
  · rw [h] at this; simp_all
  · omega
theorem reads_lt {b : Nat} (hb : 2 ≤ b) : ∀ (s : List UInt8) (n k v : Nat), n < b ^ k → reads b s n = some v → v < b ^ (k + s.length)
  | [], n, k, v, hn, h => by simp [reads] at h; subst h; simpa using hn
  | c :: t, n, k, v, hn, h => by
    unfold reads at h
    split at h
    · rename_i hc
      have := reads_lt hb t _ (k + 1) v (by
        rw [Nat.pow_succ]
        have h1 : n + 1 ≤ b ^ k := hn
        have h2 : (n + 1) * b ≤ b ^ k * b := Nat.mul_le_mul_right b h1
        rw [Nat.add_mul, Nat.one_mul] at h2
        omega) h
      rw [List.length_cons]
      rw [show k + (t.length + 1) = k + 1 + t.length by omega]; exact this
    · cases h

/-- A text cut at a byte. -/
def cutAt (c : UInt8) : List UInt8 → List (List UInt8)
  | [] => [[]]
  | x :: t => if x = c then [] :: cutAt c t else match cutAt c t with
    | [] => [[x]]
    | h :: r => (x :: h) :: r
theorem cutAt_ne (c : UInt8) : ∀ s, cutAt c s ≠ [] := by
  intro s
  cases s with
  | nil => simp [cutAt]
  | cons x t =>
    unfold cutAt; split
    · simp
    · split <;> simp
theorem cutAt_none {c : UInt8} : ∀ {s : List UInt8}, c ∉ s → cutAt c s = [s]
  | [], _ => rfl
  | x :: t, h => by
    have h1 : x ≠ c := fun e => h (by simp [e])
    have h2 := cutAt_none (c := c) (s := t) (fun e => h (List.mem_cons_of_mem _ e))
    rw [cutAt, if_neg h1, h2]
theorem cutAt_one {c : UInt8} : ∀ {s : List UInt8} (t : List UInt8), c ∉ s → cutAt c (s ++ c :: t) = s :: cutAt c t
  | [], t, _ => by simp [cutAt]
  | x :: s, t, h => by
    have h1 : x ≠ c := fun e => h (by simp [e])
    have h2 := cutAt_one (c := c) (s := s) t (fun e => h (List.mem_cons_of_mem _ e))
    rw [List.cons_append, cutAt, if_neg h1, h2]
theorem cutAt_many {c : UInt8} : ∀ (l : List (List UInt8)), (∀ s ∈ l, c ∉ s) → ∀ t, cutAt c (l.flatMap (fun s => s ++ [c]) ++ t) = l ++ cutAt c t
  | [], _, t => rfl
  | s :: l, h, t => by
    rw [List.flatMap_cons, List.append_assoc, List.append_assoc, List.singleton_append, cutAt_one _ (h s (by simp)), cutAt_many l (fun s hs => h s (by simp [hs]))]
    rfl

def poly : Nat := 0x82f63b78
/-- The state behind a bit. -/
def crcBit (s b : Nat) : Nat := if (s ^^^ b) % 2 = 1 then (s / 2) ^^^ poly else s / 2
/-- The state behind bits. -/
def crcBits : Nat → List Nat → Nat
  | s, [] => s
  | s, b :: t => crcBits (crcBit s b) t
theorem crcBits_append : ∀ (l t : List Nat) (s : Nat), crcBits s (l ++ t) = crcBits (crcBits s l) t
  | [], _, _ => rfl
  | b :: l, t, s => by rw [List.cons_append, crcBits, crcBits, crcBits_append l t]
/-- A number's lowest bits, the lowest first. -/
def bitsOf : Nat → Nat → List Nat
  | 0, _ => []
  | k + 1, w => w % 2 :: bitsOf k (w / 2)
theorem bitsOf_length : ∀ k w, (bitsOf k w).length = k
  | 0, _ => rfl
  | k + 1, w => by rw [bitsOf, List.length_cons, bitsOf_length k]
theorem bitsOf_get : ∀ (k w i : Nat), i < k → (bitsOf k w)[i]? = some (w / 2 ^ i % 2)
  | 0, _, _, h => by omega
  | k + 1, w, 0, _ => by simp [bitsOf]
  | k + 1, w, i + 1, h => by
    rw [bitsOf, List.getElem?_cons_succ, bitsOf_get k (w / 2) i (by omega), Nat.div_div_eq_div_mul, Nat.pow_succ, Nat.mul_comm 2]
/-- A byte's eight bits: a word's 64 bits are its bytes' bits. -/
theorem bitsOf_append : ∀ (a b w : Nat), bitsOf (a + b) w = bitsOf a w ++ bitsOf b (w / 2 ^ a)
  | 0, b, w => by simp [bitsOf]
  | a + 1, b, w => by
    rw [show a + 1 + b = (a + b) + 1 by omega, bitsOf, bitsOf_append a b, bitsOf, List.cons_append, Nat.div_div_eq_div_mul, Nat.pow_succ, Nat.mul_comm 2]
theorem bitsOf_mod : ∀ (k w : Nat), bitsOf k (w % 2 ^ k) = bitsOf k w
  | 0, _ => rfl
  | k + 1, w => by
    rw [bitsOf, bitsOf]
    have h1 : w % 2 ^ (k + 1) % 2 = w % 2 := Nat.mod_mod_of_dvd _ ⟨2 ^ k, by rw [Nat.pow_succ]; omega⟩
    have h2 : w % 2 ^ (k + 1) / 2 = w / 2 % 2 ^ k := by
      rw [Nat.pow_succ, Nat.mul_comm, Nat.mod_mul_right_div_self]
    rw [h1, h2, bitsOf_mod k]
theorem poly_lt : poly < 2 ^ 32 := by decide
theorem crcBit_lt (s b : Nat) (h : s < 2 ^ 32) : crcBit s b < 2 ^ 32 := by
  unfold crcBit; split
  · exact Nat.xor_lt_two_pow (by omega) poly_lt
  · omega
theorem crcBits_lt : ∀ (l : List Nat) (s : Nat), s < 2 ^ 32 → crcBits s l < 2 ^ 32
  | [], _, h => h
  | b :: l, s, h => crcBits_lt l _ (crcBit_lt s b h)

/-! The division: a row of bits; the first n of them are struck one by one. -/
/-- The bit of a state at j, as a number. -/
def bitAt (s j : Nat) : Nat := s / 2 ^ j % 2
/-- The divisor's coefficient at j from the struck bit on (0 .. 32). -/
def dv (j : Nat) : Nat := if j = 0 then 1 else bitAt poly (j - 1)
/-- A step of the division at i: struck where the bit is 1. -/
def strike (i : Nat) (f : Nat → Nat) : Nat → Nat := fun p => if f i = 1 ∧ i ≤ p ∧ p ≤ i + 32 then (f p + dv (p - i)) % 2 else f p
def strikes : Nat → (Nat → Nat) → Nat → Nat
  | 0, f => f
  | i + 1, f => strike i (strikes i f)
theorem bitAt_lt (s j : Nat) : bitAt s j < 2 := Nat.mod_lt _ (by decide)
theorem bitAt_testBit (s j : Nat) : bitAt s j = if s.testBit j then 1 else 0 := by
  unfold bitAt Nat.testBit
  rw [Nat.shiftRight_eq_div_pow, Nat.one_and_eq_mod_two]
  have : s / 2 ^ j % 2 = 0 ∨ s / 2 ^ j % 2 = 1 := by omega
  rcases this with h | h <;> simp [h]
theorem bitAt_xor (a b j : Nat) : bitAt (a ^^^ b) j = (bitAt a j + bitAt b j) % 2 := by
  rw [bitAt_testBit, bitAt_testBit, bitAt_testBit, Nat.testBit_xor]
  cases a.testBit j <;> cases b.testBit j <;> rfl
theorem bitAt_half (s j : Nat) : bitAt (s / 2) j = bitAt s (j + 1) := by
  unfold bitAt; rw [Nat.div_div_eq_div_mul, Nat.pow_succ, Nat.mul_comm 2]
theorem bitAt_high {s j : Nat} (h : s < 2 ^ 32) (hj : 32 ≤ j) : bitAt s j = 0 := by
  unfold bitAt
  have : 2 ^ 32 ≤ 2 ^ j := Nat.pow_le_pow_right (by decide) hj
  rw [Nat.div_eq_of_lt (by omega)]
theorem bitAt_crcBit (s b j : Nat) (hb : b < 2) : bitAt (crcBit s b) j = (bitAt s (j + 1) + (if (bitAt s 0 + b) % 2 = 1 then bitAt poly j else 0)) % 2 := by
  have hk : (s ^^^ b) % 2 = (bitAt s 0 + b) % 2 := by
    have := bitAt_xor s b 0
    have e : bitAt b 0 = b := by unfold bitAt; simp; omega
    rw [e] at this
    unfold bitAt at this ⊢
    simpa using this
  unfold crcBit
  rw [hk]
  split
  · rw [bitAt_xor, bitAt_half]
  · rw [bitAt_half, Nat.add_zero]
    have := bitAt_lt s (j + 1); omega
/-- Behind i strikes the next 32 bits are the bits to come, and the state's. -/
theorem strikes_state (l : List Nat) (hl : ∀ b ∈ l, b < 2) (s : Nat) (hs : s < 2 ^ 32) (f : Nat → Nat) (hf : ∀ p : Nat, f p = ((l[p]?.getD 0) + bitAt s p) % 2) :
    ∀ i : Nat, i ≤ l.length → ∀ p : Nat, i ≤ p → strikes i f p = ((l[p]?.getD 0) + bitAt (crcBits s (l.take i)) (p - i)) % 2 := by
  intro i
  induction i with
  | zero => intro _ p _; simpa [strikes, crcBits] using hf p
  | succ i ih =>
    intro hi p hp
    have hlt : ∀ p : Nat, (l[p]?.getD 0) < 2 := fun p => by
      cases h : l[p]? with
      | none => simp
      | some b => exact hl b (List.mem_of_getElem? h)
    have ht : l.take (i + 1) = l.take i ++ [l[i]?.getD 0] := by
      rw [List.take_add_one]
      rw [List.getElem?_eq_getElem (by omega)]; rfl
    have hn : crcBits s (l.take i) < 2 ^ 32 := crcBits_lt _ _ hs
    have h0 := ih (by omega) i (Nat.le_refl _)
    have h1 := ih (by omega) p (by omega)
    rw [strikes, ht, crcBits_append]
    rw [show crcBits (crcBits s (l.take i)) [l[i]?.getD 0] = crcBit (crcBits s (l.take i)) (l[i]?.getD 0) from rfl, bitAt_crcBit _ _ _ (hlt i)]
    generalize crcBits s (l.take i) = S at *
    rw [Nat.sub_self] at h0
    have hb := hlt i
    have hbp := hlt p
    generalize l[i]?.getD 0 = b at *
    generalize l[p]?.getD 0 = c at *
    obtain ⟨q, rfl⟩ : ∃ q, p = i + 1 + q := ⟨p - (i + 1), by omega⟩
    rw [show i + 1 + q - (i + 1) = q by omega]
    rw [show i + 1 + q - i = q + 1 by omega] at h1
    unfold strike
    rw [h0, h1, show i + 1 + q - i = q + 1 by omega]
    have e0 := bitAt_lt S 0
    have e1 := bitAt_lt S (q + 1)
    have e2 := bitAt_lt poly q
    have e3 : dv (q + 1) = bitAt poly q := by simp [dv]
    by_cases hk : (b + bitAt S 0) % 2 = 1
    · rw [if_pos (show (bitAt S 0 + b) % 2 = 1 by omega)]
      by_cases hq : i + 1 + q ≤ i + 32
      · rw [if_pos ⟨hk, by omega, hq⟩, e3]; omega
      · rw [if_neg (by omega), bitAt_high (s := poly) poly_lt (by omega), bitAt_high hn (by omega)]
    · rw [if_neg (by omega), if_neg (by omega)]; omega
/-- A number of its bits. -/
def ofBits : Nat → (Nat → Nat) → Nat
  | 0, _ => 0
  | k + 1, f => f 0 + 2 * ofBits k (fun j => f (j + 1))
theorem ofBits_bitAt : ∀ (k s : Nat), s < 2 ^ k → ofBits k (bitAt s) = s
  | 0, s, h => by simp at h; simp [ofBits, h]
  | k + 1, s, h => by
    have e : (fun j => bitAt s (j + 1)) = bitAt (s / 2) := funext fun j => (bitAt_half s j).symm
    rw [ofBits, e, ofBits_bitAt k (s / 2) (by rw [Nat.pow_succ] at h; omega)]
    unfold bitAt; simp; omega
theorem ofBits_congr : ∀ (k : Nat) (f g : Nat → Nat), (∀ j, j < k → f j = g j) → ofBits k f = ofBits k g
  | 0, _, _, _ => rfl
  | k + 1, f, g, h => by
    rw [ofBits, ofBits, h 0 (by omega), ofBits_congr k _ (fun j => g (j + 1)) fun j hj => h (j + 1) (by omega)]
/-- THE REST OF THE DIVISION IS THE STATE BEHIND ALL BITS. -/
theorem rest_crc (l : List Nat) (hl : ∀ b ∈ l, b < 2) (s : Nat) (hs : s < 2 ^ 32) (f : Nat → Nat) (hf : ∀ p : Nat, f p = ((l[p]?.getD 0) + bitAt s p) % 2) :
    ofBits 32 (fun k => strikes l.length f (l.length + k)) = crcBits s l := by
  rw [ofBits_congr 32 _ (bitAt (crcBits s l)) fun j hj => by
    show strikes l.length f (l.length + j) = _
    rw [strikes_state l hl s hs f hf l.length (Nat.le_refl _) _ (by omega), List.take_length, show l.length + j - l.length = j by omega, List.getElem?_eq_none (by omega)]
    have := bitAt_lt (crcBits s l) j
    simp; omega]
  exact ofBits_bitAt 32 _ (crcBits_lt l s hs)

/-! Images as text. -/
def ones : Nat := 4294967295
/-- The sum of m words. -/
def sumW (w : Nat → Nat) (n : Nat) : Nat := ones - crcBits ones ((List.range n).flatMap fun j => bitsOf 64 (w j))
theorem sumW_lt (w : Nat → Nat) (n : Nat) : sumW w n < 2 ^ 32 := by unfold sumW ones; omega
def pad8 (s : List UInt8) : List UInt8 := List.replicate (8 - s.length) 48 ++ s
/-- A line's row, its end left out. -/
def rowT (w : Nat → Nat) (n : Nat) : List UInt8 := dig 10 n ++ [58] ++ (List.range 8).flatMap fun k => 32 :: dig 16 (w (8 * n + k))
def full (w : Nat → Nat) (n : Nat) : Bool := (List.range 8).any fun k => w (8 * n + k) != 0
def partsW (w : Nat → Nat) (m : Nat) : List Nat := (List.range m).filter (full w)
def headT (w : Nat → Nat) (m : Nat) : List UInt8 := [105, 109, 97, 103, 101, 32] ++ dig 10 m ++ [32] ++ pad8 (dig 16 (sumW w (8 * m)))
def textT (w : Nat → Nat) (m : Nat) : List UInt8 := headT w m ++ [10] ++ (partsW w m).flatMap fun n => rowT w n ++ [10]

theorem dig_not {b n : Nat} (hb : 2 ≤ b) (h16 : b ≤ 16) : (32 : UInt8) ∉ dig b n ∧ (10 : UInt8) ∉ dig b n ∧ (58 : UInt8) ∉ dig b n := by
  refine ⟨fun h => ?_, fun h => ?_, fun h => ?_⟩ <;> obtain ⟨d, hd, e⟩ := dig_mem hb h16 n _ h
  · exact (dgt_ne d (by omega)).1 e.symm
  · exact (dgt_ne d (by omega)).2.1 e.symm
  · exact (dgt_ne d (by omega)).2.2 e.symm
theorem pad8_not (s : List UInt8) (c : UInt8) (hc : c ≠ 48) (h : c ∉ s) : c ∉ pad8 s := fun e => by
  rcases List.mem_append.1 e with e | e
  · exact hc (List.eq_of_mem_replicate e)
  · exact h e
/-- Words behind blanks: the words of a text cut at blanks. -/
theorem cut_words (g : Nat → List UInt8) (hg : ∀ k, (32 : UInt8) ∉ g k) : ∀ (l : List Nat) (s : List UInt8), (32 : UInt8) ∉ s → cutAt 32 (s ++ l.flatMap fun k => 32 :: g k) = s :: l.map g
  | [], s, hs => by simp [cutAt_none hs]
  | k :: l, s, hs => by
    rw [List.flatMap_cons, List.cons_append, cutAt_one _ hs, cut_words g hg l (g k) (hg k)]; rfl
theorem row_cut (w : Nat → Nat) (n : Nat) : cutAt 32 (rowT w n) = (dig 10 n ++ [58]) :: (List.range 8).map fun k => dig 16 (w (8 * n + k)) :=
  cut_words (fun k => dig 16 (w (8 * n + k))) (fun k => (dig_not (by decide) (by decide)).1) _ _ (fun h => by
    rcases List.mem_append.1 h with h | h
    · exact (dig_not (by decide) (by decide)).1 h
    · simp at h)
theorem head_cut (w : Nat → Nat) (m : Nat) : cutAt 32 (headT w m) = [[105, 109, 97, 103, 101], dig 10 m, pad8 (dig 16 (sumW w (8 * m)))] := by
  have h2 := (dig_not (b := 10) (n := m) (by decide) (by decide)).1
  have h3 := pad8_not (dig 16 (sumW w (8 * m))) 32 (by decide) (dig_not (by decide) (by decide)).1
  have e : headT w m = [105, 109, 97, 103, 101] ++ 32 :: (dig 10 m ++ 32 :: pad8 (dig 16 (sumW w (8 * m)))) := by simp [headT]
  rw [e, cutAt_one _ (by decide), cutAt_one _ h2, cutAt_none h3]
theorem row_line (w : Nat → Nat) (n : Nat) : (10 : UInt8) ∉ rowT w n := fun h => by
  unfold rowT at h
  rcases List.mem_append.1 h with h | h
  · rcases List.mem_append.1 h with h | h
    · exact (dig_not (by decide) (by decide)).2.1 h
    · simp at h
  · obtain ⟨k, -, hk⟩ := List.mem_flatMap.1 h
    rcases List.mem_cons.1 hk with hk | hk
    · simp at hk
    · exact (dig_not (by decide) (by decide)).2.1 hk
theorem head_line (w : Nat → Nat) (m : Nat) : (10 : UInt8) ∉ headT w m := fun h => by
  unfold headT at h
  rcases List.mem_append.1 h with h | h
  · rcases List.mem_append.1 h with h | h
    · rcases List.mem_append.1 h with h | h
      · simp at h
      · exact (dig_not (by decide) (by decide)).2.1 h
    · simp at h
  · exact pad8_not _ 10 (by decide) (dig_not (by decide) (by decide)).2.1 h
theorem text_cut (w : Nat → Nat) (m : Nat) : cutAt 10 (textT w m) = headT w m :: ((partsW w m).map (rowT w) ++ [[]]) := by
  have e : textT w m = headT w m ++ 10 :: (((partsW w m).map (rowT w)).flatMap (fun s => s ++ [10]) ++ []) := by
    unfold textT; rw [List.flatMap_map]; simp
  rw [e, cutAt_one _ (head_line w m), cutAt_many _ (fun s hs => by obtain ⟨n, -, rfl⟩ := List.mem_map.1 hs; exact row_line w n)]
  rfl

/-! What is read. -/
/-- A row's words put into an image of m lines; none: it is no row. -/
def putW (w : Nat → Nat) (n : Nat) (v : Nat → Nat) : Nat → Nat := fun p => if 8 * n ≤ p ∧ p < 8 * n + 8 then v (p - 8 * n) else w p
def allDigits : List (List UInt8) → Option (List Nat)
  | [] => some []
  | s :: t => match digits 16 16 s with
    | none => none
    | some v => (allDigits t).map (v :: ·)
def putP (m : Nat) (w : Nat → Nat) (r : List UInt8) : Option (Nat → Nat) :=
  match cutAt 32 r with
  | [] => none
  | a :: ws => if a.getLast? = some 58 then
      match digits 10 6 a.dropLast with
      | some n => if n < m ∧ ws.length = 8 then (allDigits ws).map fun v => putW w n fun i => v[i]?.getD 0 else none
      | none => none
    else none
def putAll (m : Nat) : List (List UInt8) → (Nat → Nat) → Option (Nat → Nat)
  | [], w => some w
  | r :: t, w => (putP m w r).bind (putAll m t)
theorem allDigits_map (g : Nat → Nat) (hg : ∀ k, g k < 2 ^ 64) : ∀ l : List Nat, allDigits (l.map fun k => dig 16 (g k)) = some (l.map g)
  | [] => rfl
  | k :: l => by
    rw [List.map_cons, allDigits, digits_dig (by decide) (by decide) (by decide) (by have := hg k; omega), allDigits_map g hg l]; rfl
theorem putP_row (w u : Nat → Nat) (m n : Nat) (hw : ∀ p, w p < 2 ^ 64) (hn : n < m) (hm : m ≤ 262144) : putP m u (rowT w n) = some (putW u n fun i => w (8 * n + i)) := by
  unfold putP
  rw [row_cut]
  simp only [List.getLast?_append, List.getLast?_singleton, Option.some_or, if_true, List.dropLast_concat]
  rw [digits_dig (by decide) (by decide) (by decide) (by omega)]
  simp only [List.length_map, List.length_range]
  rw [if_pos ⟨hn, trivial⟩, allDigits_map _ (fun k => hw _)]
  simp only [Option.map_some, Option.some.injEq]
  funext p
  unfold putW
  split
  · rename_i h
    show ((List.map (fun k => w (8 * n + k)) (List.range 8))[p - 8 * n]?.getD 0) = w (8 * n + (p - 8 * n))
    rw [List.getElem?_map, List.getElem?_range (by omega)]; rfl
  · rfl
theorem putAll_rows (w : Nat → Nat) (m : Nat) (hw : ∀ p, w p < 2 ^ 64) (hm : m ≤ 262144) : ∀ (l : List Nat) (u : Nat → Nat), (∀ n ∈ l, n < m) → ∃ u', putAll m (l.map (rowT w)) u = some u' ∧ ∀ p, u' p = if p / 8 ∈ l then w p else u p
  | [], u, _ => ⟨u, rfl, fun p => by simp⟩
  | n :: l, u, h => by
    obtain ⟨u', e, h'⟩ := putAll_rows w m hw hm l (putW u n fun i => w (8 * n + i)) (fun n hn => h n (by simp [hn]))
    refine ⟨u', by rw [List.map_cons, putAll, putP_row w u m n hw (h n (by simp)) hm]; exact e, fun p => ?_⟩
    rw [h' p]
    by_cases h1 : p / 8 ∈ l
    · simp [h1]
    · rw [if_neg h1]
      unfold putW
      by_cases h2 : 8 * n ≤ p ∧ p < 8 * n + 8
      · rw [if_pos h2, if_pos (by simp; left; omega)]; show w (8 * n + (p - 8 * n)) = w p; rw [show 8 * n + (p - 8 * n) = p by omega]
      · rw [if_neg h2, if_neg (by simp; exact ⟨by omega, h1⟩)]
/-- Zero words are put nowhere, and are 0. -/
theorem parts_all (w : Nat → Nat) (m p : Nat) (hp : p < 8 * m) : (if p / 8 ∈ partsW w m then w p else 0) = w p := by
  split
  · rfl
  · rename_i h
    unfold partsW at h
    rw [List.mem_filter, List.mem_range] at h
    have hf : full w (p / 8) = false := by
      cases e : full w (p / 8)
      · rfl
      · exact absurd ⟨by omega, e⟩ h
    unfold full at hf
    rw [List.any_eq_false] at hf
    have := hf (p % 8) (List.mem_range.2 (by omega))
    rw [show 8 * (p / 8) + p % 8 = p by omega] at this
    have : w p = 0 := by simpa using this
    omega
/-- What the program reads. -/
def parseP (t : List UInt8) : Option (Nat × (Nat → Nat)) :=
  let rows := cutAt 10 t
  let head := cutAt 32 (rows.head?.getD [])
  if rows.length < 2 ∨ head.length ≠ 3 then none
  else match digits 10 6 (head[1]?.getD []) with
    | none => none
    | some m => if 1 ≤ m ∧ m ≤ 262144 then
        match putAll m (rows.drop 1).dropLast (fun _ => 0) with
        | none => none
        | some w => if textT w m = t then some (m, w) else none
      else none
theorem parseP_text {t : List UInt8} {m : Nat} {w : Nat → Nat} (h : parseP t = some (m, w)) : textT w m = t ∧ 1 ≤ m ∧ m ≤ 262144 := by
  unfold parseP at h
  simp only at h
  split at h
  · cases h
  · split at h
    · cases h
    · split at h
      · split at h
        · cases h
        · split at h
          · cases h; exact ⟨by assumption, by omega⟩
          · cases h
      · cases h
theorem textT_congr (w u : Nat → Nat) (m : Nat) (h : ∀ p, p < 8 * m → w p = u p) : textT w m = textT u m := by
  have e1 : sumW w (8 * m) = sumW u (8 * m) := by
    unfold sumW
    have : (List.range (8 * m)).flatMap (fun j => bitsOf 64 (w j)) = (List.range (8 * m)).flatMap (fun j => bitsOf 64 (u j)) := by
      rw [List.flatMap_eq_foldl, List.flatMap_eq_foldl] <;> skip
      have : ∀ (l : List Nat) (a : List Nat), (∀ p ∈ l, p < 8 * m) → l.foldl (fun acc j => acc ++ bitsOf 64 (w j)) a = l.foldl (fun acc j => acc ++ bitsOf 64 (u j)) a := by
        intro l
        induction l with
        | nil => intro a _; rfl
        | cons p l ih => intro a hl; rw [List.foldl_cons, List.foldl_cons, h p (hl p (by simp)), ih _ fun q hq => hl q (by simp [hq])]
      exact this _ _ fun p hp => List.mem_range.1 hp
    rw [this]
  have e2 : ∀ n, n < m → full w n = full u n := fun n hn => by
    unfold full
    simp only [show List.range 8 = [0, 1, 2, 3, 4, 5, 6, 7] from rfl, List.any_cons, List.any_nil]
    rw [h, h, h, h, h, h, h, h] <;> omega
  have e3 : partsW w m = partsW u m := by
    unfold partsW
    exact List.filter_congr fun n hn => e2 n (List.mem_range.1 hn)
  have e4 : ∀ n, n < m → rowT w n = rowT u n := fun n hn => by
    unfold rowT
    simp only [show List.range 8 = [0, 1, 2, 3, 4, 5, 6, 7] from rfl, List.flatMap_cons, List.flatMap_nil]
    rw [h, h, h, h, h, h, h, h] <;> omega
  have e5 : ∀ l : List Nat, (∀ n ∈ l, n < m) → (l.flatMap fun n => rowT w n ++ [10]) = l.flatMap fun n => rowT u n ++ [10] := by
    intro l
    induction l with
    | nil => intro _; rfl
    | cons n l ih => intro hl; rw [List.flatMap_cons, List.flatMap_cons, e4 n (hl n (by simp)), ih fun q hq => hl q (by simp [hq])]
  unfold textT headT
  rw [e1, e3, e5 _ fun n hn => by unfold partsW at hn; exact List.mem_range.1 (List.mem_filter.1 hn).1]
/-- WHAT IS WRITTEN IS READ. -/
theorem parseP_of (w : Nat → Nat) (m : Nat) (hw : ∀ p, w p < 2 ^ 64) (h1 : 1 ≤ m) (hm : m ≤ 262144) : ∃ u, parseP (textT w m) = some (m, u) ∧ ∀ p, p < 8 * m → u p = w p := by
  obtain ⟨u, e, hu⟩ := putAll_rows w m hw hm (partsW w m) (fun _ => 0) (fun n hn => List.mem_range.1 (List.mem_filter.1 hn).1)
  have hu' : ∀ p, p < 8 * m → u p = w p := fun p hp => by rw [hu p]; exact parts_all w m p hp
  refine ⟨u, ?_, hu'⟩
  unfold parseP
  simp only [text_cut, List.head?_cons, Option.getD_some, head_cut]
  rw [if_neg (by simp), List.drop_succ_cons, List.drop_zero, List.dropLast_concat]
  simp only [List.getElem?_cons_succ, List.getElem?_cons_zero, Option.getD_some]
  rw [digits_dig (by decide) (by decide) (by decide) (by omega)]
  simp only
  rw [if_pos ⟨h1, hm⟩, e]
  simp only
  rw [if_pos (textT_congr _ _ _ hu')]

/-! What the document reads. -/
/-- What a byte counts; what is no digit counts as 0. -/
def valR (c : UInt8) : Nat := if 97 ≤ c.toNat ∧ c.toNat ≤ 102 then c.toNat - 87 else if 48 ≤ c.toNat ∧ c.toNat ≤ 57 then c.toNat - 48 else 0
theorem valR_dgt : ∀ d, d < 16 → valR (dgt d) = d := by decide
def numR (b : Nat) : List UInt8 → Nat → Nat
  | [], n => n
  | c :: t, n => numR b t ((n * b + valR c) % 2 ^ 64)
def numberR (b : Nat) (s : List UInt8) : Nat := if 16 < s.length then 0 else numR b s 0
theorem numR_append (b : Nat) : ∀ (s t : List UInt8) (n : Nat), numR b (s ++ t) n = numR b t (numR b s n)
  | [], _, _ => rfl
  | c :: s, t, n => by rw [List.cons_append, numR, numR, numR_append b s]
theorem numR_dig {b : Nat} (hb : 2 ≤ b) (h16 : b ≤ 16) : ∀ n, n < 2 ^ 64 → numR b (dig b n) 0 = n := by
  intro n
  induction n using Nat.strongRecOn with
  | _ n ih =>
    intro hn
    by_cases h : n < b
    · rw [dig_small h]
      simp only [numR, valR_dgt n (by omega), Nat.zero_mul, Nat.zero_add]
      exact Nat.mod_eq_of_lt hn
    · rw [dig_big (by omega) hb, numR_append, ih (n / b) (Nat.div_lt_self (by omega) (by omega)) (Nat.lt_of_le_of_lt (Nat.div_le_self _ _) hn)]
      have hm : n % b < b := Nat.mod_lt _ (by omega)
      simp only [numR, valR_dgt (n % b) (by omega)]
      rw [Nat.mul_comm, Nat.div_add_mod]
      exact Nat.mod_eq_of_lt hn
theorem numberR_dig {b n : Nat} (hb : 2 ≤ b) (h16 : b ≤ 16) (hn : n < 2 ^ 64) (hl : n < b ^ 16) : numberR b (dig b n) = n := by
  rw [numberR, if_neg (by have := dig_length hb 16 n (by decide) hl; omega), numR_dig hb h16 n hn]
def putR (m : Nat) (w : Nat → Nat) (r : List UInt8) : Nat → Nat :=
  match cutAt 32 r with
  | [] => w
  | a :: ws => if ws.length = 8 ∧ a ≠ [] ∧ numberR 10 a.dropLast < m then putW w (numberR 10 a.dropLast) fun i => numberR 16 (ws[i]?.getD []) else w
def putsR (m : Nat) : List (List UInt8) → (Nat → Nat) → (Nat → Nat)
  | [], w => w
  | r :: t, w => putsR m t (putR m w r)
theorem putR_row (w u : Nat → Nat) (m n : Nat) (hw : ∀ p, w p < 2 ^ 64) (hn : n < m) (hm : m ≤ 262144) : putR m u (rowT w n) = putW u n fun i => w (8 * n + i) := by
  unfold putR
  rw [row_cut]
  simp only [List.dropLast_concat]
  rw [numberR_dig (by decide) (by decide) (by omega) (by omega)]
  simp only [List.length_map, List.length_range]
  rw [if_pos ⟨trivial, by simp, hn⟩]
  funext p
  unfold putW
  split
  · rename_i h
    show numberR 16 ((List.map (fun k => dig 16 (w (8 * n + k))) (List.range 8))[p - 8 * n]?.getD []) = w (8 * n + (p - 8 * n))
    rw [List.getElem?_map, List.getElem?_range (by omega)]
    simp only [Option.map_some, Option.getD_some]
    exact numberR_dig (by decide) (by decide) (hw _) (by have := hw (8 * n + (p - 8 * n)); omega)
  · rfl
theorem putR_nil (m : Nat) (u : Nat → Nat) : putR m u [] = u := by simp [putR, cutAt]
theorem putsR_rows (w : Nat → Nat) (m : Nat) (hw : ∀ p, w p < 2 ^ 64) (hm : m ≤ 262144) : ∀ (l : List Nat) (u : Nat → Nat), (∀ n ∈ l, n < m) → ∀ p, putsR m (l.map (rowT w) ++ [[]]) u p = if p / 8 ∈ l then w p else u p
  | [], u, _, p => by simp [putsR, putR_nil]
  | n :: l, u, h, p => by
    rw [List.map_cons, List.cons_append, putsR, putR_row w u m n hw (h n (by simp)) hm, putsR_rows w m hw hm l _ (fun n hn => h n (by simp [hn])) p]
    by_cases h1 : p / 8 ∈ l
    · simp [h1]
    · rw [if_neg h1]
      unfold putW
      by_cases h2 : 8 * n ≤ p ∧ p < 8 * n + 8
      · rw [if_pos h2, if_pos (by simp; left; omega)]; show w (8 * n + (p - 8 * n)) = w p; rw [show 8 * n + (p - 8 * n) = p by omega]
      · rw [if_neg h2, if_neg (by simp; exact ⟨by omega, h1⟩)]
def parseR (most : Nat) (t : List UInt8) : Option (Nat × (Nat → Nat)) :=
  let rows := cutAt 10 t
  let head := cutAt 32 (rows.head?.getD [])
  if head.length ≠ 3 then none
  else
    let m := numberR 10 (head[1]?.getD [])
    if m < 1 ∨ most < m then none
    else if textT (putsR m (rows.drop 1) fun _ => 0) m = t then some (m, putsR m (rows.drop 1) fun _ => 0) else none
theorem parseR_text {t : List UInt8} {most m : Nat} {w : Nat → Nat} (h : parseR most t = some (m, w)) : textT w m = t ∧ 1 ≤ m ∧ m ≤ most := by
  unfold parseR at h
  simp only at h
  split at h
  · cases h
  · split at h
    · cases h
    · split at h
      · cases h; exact ⟨by assumption, by omega⟩
      · cases h
theorem parseR_of (w : Nat → Nat) (m most : Nat) (hw : ∀ p, w p < 2 ^ 64) (h1 : 1 ≤ m) (hm : m ≤ most) (hmost : most ≤ 262144) : ∃ u, parseR most (textT w m) = some (m, u) ∧ ∀ p, p < 8 * m → u p = w p := by
  have hu' : ∀ p, p < 8 * m → putsR m ((partsW w m).map (rowT w) ++ [[]]) (fun _ => 0) p = w p := fun p hp => by
    rw [putsR_rows w m hw (by omega) (partsW w m) (fun _ => 0) (fun n hn => List.mem_range.1 (List.mem_filter.1 hn).1) p]
    exact parts_all w m p hp
  refine ⟨_, ?_, hu'⟩
  unfold parseR
  simp only [text_cut, List.head?_cons, Option.getD_some, head_cut]
  rw [if_neg (by simp)]
  simp only [List.getElem?_cons_succ, List.getElem?_cons_zero, Option.getD_some]
  rw [numberR_dig (by decide) (by decide) (by omega) (by omega), List.drop_succ_cons, List.drop_zero]
  rw [if_neg (by omega), if_pos (textT_congr _ _ _ hu')]
end Go.Proofs.YtjbngddmmdcagaaDoor
