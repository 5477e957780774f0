/- Plain arithmetic of layer 37 (trace): a number's bytes. No program here. -/
import Derived.WalkKit
import Derived.Lib.Hide
import Derived.Laws.BytesArg
namespace Go.Proofs.Ytfjddkjfkgdihaa
open Go.RowKit

/-- A number's bytes: seven bits each, the lowest first. -/
def numB (n : Nat) : List Int := if n < 128 then [(n : Int)] else ((n % 128 + 128 : Nat) : Int) :: numB (n / 128)
termination_by n
decreasing_by omega

theorem numB_small {n : Nat} (h : n < 128) : numB n = [(n : Int)] := by rw [numB, if_pos h]
theorem numB_big {n : Nat} (h : ¬ n < 128) : numB n = ((n % 128 + 128 : Nat) : Int) :: numB (n / 128) := by rw [numB, if_neg h]

/-- What the first k bytes say. -/
def vs : (Nat → Int) → Nat → Int
  | _, 0 => 0
  | z, k + 1 => z 0 % 128 + 128 * vs (fun i => z (i + 1)) k
theorem vs_succ (k : Nat) : ∀ z : Nat → Int, vs z (k + 1) = vs z k + z k % 128 * 128 ^ k := by
  induction k with
  | zero => intro z; simp [vs]
  | succ k ih =>
    intro z
    rw [vs, ih, vs, Int.pow_succ]
    have : 128 * (z (k + 1) % 128 * 128 ^ k) = z (k + 1) % 128 * (128 ^ k * 128) := by rw [Int.mul_left_comm, Int.mul_comm 128]
    simp only [Int.mul_add]
    omega
theorem vs_lo (k : Nat) : ∀ z : Nat → Int, 0 ≤ vs z k := by
  induction k with
  | zero => intro z; simp [vs]
  | succ k ih => intro z; rw [vs]; have := ih (fun i => z (i + 1)); omega
theorem vs_hi (k : Nat) : ∀ z : Nat → Int, vs z k < 128 ^ k := by
  induction k with
  | zero => intro z; simp [vs]
  | succ k ih => intro z; rw [vs, Int.pow_succ]; have := ih (fun i => z (i + 1)); omega

/-- The first k bytes are a number's, whole. -/
structure Stops (z : Nat → Int) (k : Nat) : Prop where
  one : 1 ≤ k
  big : ∀ i, i + 1 < k → 128 ≤ z i
  last : z (k - 1) < 128
  some : 1 < k → z (k - 1) ≠ 0

theorem Stops.tail {z : Nat → Int} {k : Nat} (h : Stops z (k + 2)) : Stops (fun i => z (i + 1)) (k + 1) :=
  ⟨by omega, fun i hi => h.big (i + 1) (by omega), by have := h.last; simpa using this, fun _ => by have := h.some (by omega); simpa using this⟩

theorem numB_of_stops : ∀ (k : Nat) (z : Nat → Int), Stops z k → (∀ i, 0 ≤ z i ∧ z i ≤ 255) →
    numB (vs z k).toNat = (List.range k).map z ∧ (z (k - 1) ≠ 0 → 1 ≤ vs z k)
  | 0, _, h, _ => absurd h.one (by omega)
  | 1, z, h, hb => by
    have h1 := h.last
    have h2 := hb 0
    simp at h1
    have e : vs z 1 = z 0 := by simp [vs]; omega
    rw [e]
    refine ⟨?_, fun h => by simp at h; omega⟩
    rw [numB_small (by omega)]
    simp; omega
  | k + 2, z, h, hb => by
    obtain ⟨ih, ip⟩ := numB_of_stops (k + 1) (fun i => z (i + 1)) h.tail (fun i => hb (i + 1))
    have hz0 := h.big 0 (by omega)
    have hb0 := hb 0
    have hp : 1 ≤ vs (fun i => z (i + 1)) (k + 1) := ip (by have := h.some (by omega); simpa using this)
    rw [vs]
    obtain ⟨v, hv⟩ : ∃ v, v = vs (fun i => z (i + 1)) (k + 1) := ⟨_, rfl⟩
    rw [← hv] at ih hp ⊢
    refine ⟨?_, fun _ => by omega⟩
    rw [numB_big (by omega)]
    have e1 : ((z 0 % 128 + 128 * v).toNat % 128 + 128 : Nat) = (z 0) := by omega
    have e2 : (z 0 % 128 + 128 * v).toNat / 128 = v.toNat := by omega
    rw [e1, e2, ih, List.range_succ_eq_map]
    simp [List.range_succ_eq_map, Function.comp_def]

theorem numB_ne (n : Nat) : numB n ≠ [] := by
  by_cases h : n < 128
  · rw [numB_small h]; simp
  · rw [numB_big h]; simp
theorem numB_bytes (n : Nat) : ∀ c ∈ numB n, 0 ≤ c ∧ c ≤ 255 := by
  induction n using Nat.strongRecOn with
  | ind n ih =>
    intro c hc
    by_cases h : n < 128
    · rw [numB_small h] at hc; simp at hc; omega
    · rw [numB_big h] at hc
      rcases List.mem_cons.1 hc with rfl | hc
      · omega
      · exact ih (n / 128) (by omega) c hc
theorem numB_len (k : Nat) : ∀ n, n < 128 ^ (k + 1) → (numB n).length ≤ k + 1 := by
  induction k with
  | zero => intro n h; rw [numB_small (by simpa using h)]; simp
  | succ k ih =>
    intro n h
    by_cases h' : n < 128
    · rw [numB_small h']; simp
    · rw [numB_big h', List.length_cons]
      have := ih (n / 128) (by rw [Nat.pow_succ] at h; omega)
      omega
theorem numB_len10 (n : Nat) (h : n < 18446744073709551616) : (numB n).length ≤ 10 := numB_len 9 n (by omega)

theorem stops_of_numB (n : Nat) : ∀ z : Nat → Int, (∀ i, i < (numB n).length → z i = (numB n).getD i 0) → Stops z (numB n).length ∧ vs z (numB n).length = n ∧ (n ≠ 0 → z ((numB n).length - 1) ≠ 0) := by
  induction n using Nat.strongRecOn with
  | ind n ih =>
    intro z hz
    by_cases h : n < 128
    · rw [numB_small h] at hz ⊢
      have := hz 0 (by simp)
      simp at this
      refine ⟨⟨by simp, fun i hi => by simp at hi, by simp; omega, fun h => by simp at h⟩, by simp [vs]; omega, fun _ => by simp; omega⟩
    · rw [numB_big h] at hz ⊢
      have h0 := hz 0 (by simp)
      simp only [List.getD_cons_zero] at h0
      obtain ⟨hs, hv, hn⟩ := ih (n / 128) (by omega) (fun i => z (i + 1)) (fun i hi => by have := hz (i + 1) (by simp; omega); simpa using this)
      have hlen : 1 ≤ (numB (n / 128)).length := hs.one
      rw [List.length_cons]
      have el : (numB (n / 128)).length + 1 - 1 = (numB (n / 128)).length - 1 + 1 := by omega
      refine ⟨⟨by omega, fun i hi => ?_, ?_, fun _ => ?_⟩, ?_, fun _ => ?_⟩
      · cases i with
        | zero => rw [h0]; omega
        | succ i => exact hs.big i (by omega)
      · rw [el]; exact hs.last
      · rw [el]; exact hn (by omega)
      · rw [vs, hv, h0]; omega
      · rw [el]; exact hn (by omega)

/-- ReadNumber hits at k: the first k bytes are a number of 64 bits. -/
structure Hit (z : Nat → Int) (len k : Nat) : Prop where
  stops : Stops z k
  le : k ≤ len
  ten : k ≤ 10
  top : k = 10 → z 9 ≤ 1

theorem Hit.lt {z : Nat → Int} {len k : Nat} (h : Hit z len k) (hb : ∀ i, 0 ≤ z i ∧ z i ≤ 255) : vs z k < 18446744073709551616 := by
  by_cases h10 : k = 10
  · subst h10
    have h1 := h.top rfl
    have h2 := vs_hi 9 z
    have h3 := hb 9
    rw [vs_succ]
    omega
  · have h1 := vs_hi k z
    have h2 : (128 : Int) ^ k ≤ 128 ^ 9 := by
      have : (128 : Nat) ^ k ≤ 128 ^ 9 := Nat.pow_le_pow_right (by decide) (by have := h.ten; omega)
      exact_mod_cast this
    omega
theorem Hit.numB {z : Nat → Int} {len k : Nat} (h : Hit z len k) (hb : ∀ i, 0 ≤ z i ∧ z i ≤ 255) : Ytfjddkjfkgdihaa.numB (vs z k).toNat = (List.range k).map z :=
  (numB_of_stops k z h.stops hb).1
theorem hit_of_numB (n : Nat) (hn : n < 18446744073709551616) (z : Nat → Int) (len : Nat) (hz : ∀ i, i < (numB n).length → z i = (numB n).getD i 0) (hl : (numB n).length ≤ len) :
    Hit z len (numB n).length ∧ vs z (numB n).length = n := by
  obtain ⟨h1, h2, _⟩ := stops_of_numB n z hz
  refine ⟨⟨h1, hl, numB_len10 n hn, fun h10 => ?_⟩, h2⟩
  rw [h10] at h2 h1
  have h3 := h1.last
  have h4 := vs_lo 9 z
  rw [vs_succ] at h2
  simp only [Nat.reduceSub] at h3
  have h5 := hz 9 (by omega)
  have h6 := numB_bytes n ((numB n).getD 9 0) (by
    rw [List.getD_eq_getElem?_getD, List.getElem?_eq_getElem (show 9 < (numB n).length by omega), Option.getD_some]; exact List.getElem_mem _)
  omega
theorem Hit.unique {z : Nat → Int} {len k k' : Nat} (h : Hit z len k) (h' : Stops z k') : k ≤ k' := by
  rcases Nat.lt_or_ge k' k with hlt | hge
  · have h1 := h.stops.big (k' - 1) (by have := h'.one; omega)
    have h2 := h'.last
    omega
  · exact hge

/-- The shifted seven bits, laid over the lower ones. -/
theorem or_step (s c : Int) (i : Nat) (s0 : 0 ≤ s) (s1 : s < 128 ^ i) (c0 : 0 ≤ c) (c1 : c ≤ 255) (hi : i ≤ 9) (h9 : i = 9 → c ≤ 1) :
    bits BinOp.or IntKind.u64 s (IntKind.u64.wrap (IntKind.u64.wrap (bits BinOp.and IntKind.u8 c 127) * 2 ^ (7 * i))) = s + c % 128 * 128 ^ i := by
  have e1 : bits BinOp.and IntKind.u8 c 127 = c % 128 := bits_mask .u8 8 (by decide) wraps_u8 7 (by decide) c c0 (by omega)
  have e2 : (2 : Int) ^ (7 * i) = 128 ^ i := by rw [Int.pow_mul]; rfl
  obtain ⟨a, rfl⟩ := Int.eq_ofNat_of_zero_le s0
  obtain ⟨d, rfl⟩ := Int.eq_ofNat_of_zero_le c0
  have hp : (128 : Nat) ^ i ≤ 128 ^ 9 := Nat.pow_le_pow_right (by decide) hi
  have hpos : 0 < (128 : Nat) ^ i := Nat.pow_pos (by decide)
  have ha : a < 128 ^ i := by exact_mod_cast s1
  have hd : d % 128 * 128 ^ i < 18446744073709551616 := by
    by_cases h : i = 9
    · subst h; have := h9 rfl; omega
    · have : (128 : Nat) ^ i ≤ 128 ^ 8 := Nat.pow_le_pow_right (by decide) (by omega)
      calc d % 128 * 128 ^ i ≤ 127 * 128 ^ 8 := Nat.mul_le_mul (by omega) this
        _ < 18446744073709551616 := by decide
  have e3 : ((d % 128 * 128 ^ i : Nat) : Int) = (d : Int) % 128 * 128 ^ i := by simp
  have e5 : (128 : Nat) ^ i = 2 ^ (7 * i) := by rw [Nat.pow_mul]
  have e6 : a ||| (d % 128 * 128 ^ i) = a + d % 128 * 128 ^ i := by
    rw [Nat.or_comm, Nat.add_comm, e5, Nat.mul_comm, Nat.two_pow_add_eq_or_of_lt (by rw [← e5]; exact ha)]
  have hlt : a + d % 128 * 128 ^ i < 18446744073709551616 := by
    have : a ||| (d % 128 * 128 ^ i) < 2 ^ 64 := Nat.or_lt_two_pow (by omega) (by omega)
    omega
  rw [e1, e2, IntKind.wrap_u64 ((d : Int) % 128), Int.emod_eq_of_lt (show 0 ≤ (d : Int) % 128 by omega) (by omega), ← e3, IntKind.wrap_u64, Int.emod_eq_of_lt (by omega) (by omega)]
  rw [(bits_nat .u64 64 (by decide) (fun n h0 h1 => by rw [IntKind.wrap_u64]; omega) a (d % 128 * 128 ^ i) (by omega) (by omega)).2, e6]
  simp

/-- The byte with the bit that says more. -/
theorem or_128 (n : Int) (h : 0 ≤ n) : bits BinOp.or IntKind.u8 (n % 256) 128 = n % 128 + 128 := by
  obtain ⟨a, rfl⟩ := Int.eq_ofNat_of_zero_le h
  have e : (a : Int) % 256 = ((a % 256 : Nat) : Int) := by omega
  have e3 := (bits_nat .u8 8 (by decide) wraps_u8 (a % 256) 128 (by omega) (by decide)).2
  rw [show ((128 : Nat) : Int) = 128 from rfl] at e3
  rw [e, e3]
  have e2 : ∀ m : Fin 256, (m.val ||| 128) = m.val % 128 + 128 := by decide +kernel
  have := e2 ⟨a % 256, by omega⟩
  simp only at this
  rw [this]; omega

theorem not_u64 (n : Int) (h : 0 ≤ n) (h1 : n ≤ 18446744073709551615) : bits BinOp.xor IntKind.u64 IntKind.u64.max n = 18446744073709551615 - n := by
  obtain ⟨a, rfl⟩ := Int.eq_ofNat_of_zero_le h
  have e : IntKind.u64.max = ((18446744073709551615 : Nat) : Int) := by decide +kernel
  have e2 : (BitVec.ofNat 64 18446744073709551615 ^^^ BitVec.ofNat 64 a).toNat = 18446744073709551615 - a := by
    have : BitVec.ofNat 64 18446744073709551615 = BitVec.allOnes 64 := by decide +kernel
    rw [this, BitVec.allOnes_xor, BitVec.toNat_not, BitVec.toNat_ofNat, Nat.mod_eq_of_lt (by omega)]
  rw [e]
  simp only [bits, BitVec.ofInt_natCast]
  show IntKind.u64.wrap ((BitVec.ofNat 64 18446744073709551615 ^^^ BitVec.ofNat 64 a).toNat : Int) = _
  rw [e2, IntKind.wrap_u64]; omega
theorem and_1 (n : Int) (h : 0 ≤ n) (h1 : n ≤ 18446744073709551615) : bits BinOp.and IntKind.u64 n 1 = n % 2 :=
  bits_mask .u64 64 (by decide) (fun m h0 h1 => by rw [IntKind.wrap_u64]; omega) 1 (by decide) n h (by omega)
/-- A signed number as one that is not, and back. -/
def sgn (k : Int) : Int := if k < 0 then -2 * k - 1 else 2 * k
def uns (n : Int) : Int := if n % 2 = 1 then -(n / 2) - 1 else n / 2
theorem sgn_lo (k : Int) : 0 ≤ sgn k := by unfold sgn; split <;> omega
theorem sgn_hi (k : Int) (h : -9223372036854775808 ≤ k) (h1 : k ≤ 9223372036854775807) : sgn k ≤ 18446744073709551615 := by unfold sgn; split <;> omega
theorem uns_lo (n : Int) (h : 0 ≤ n) (h1 : n ≤ 18446744073709551615) : -9223372036854775808 ≤ uns n ∧ uns n ≤ 9223372036854775807 := by unfold uns; split <;> omega
theorem uns_sgn (k : Int) : uns (sgn k) = k := by unfold uns sgn; split <;> split <;> omega
theorem sgn_uns (n : Int) (h : 0 ≤ n) : sgn (uns n) = n := by unfold uns sgn; split <;> split <;> omega
theorem sgn_neg_walk (k : Int) (h : k < 0) (h1 : -9223372036854775808 ≤ k) : bits BinOp.xor IntKind.u64 IntKind.u64.max (IntKind.u64.wrap (IntKind.u64.wrap k * 2)) = sgn k := by
  have e : IntKind.u64.wrap (IntKind.u64.wrap k * 2) = 2 * k + 18446744073709551616 := by simp only [IntKind.wrap_u64]; omega
  rw [e, not_u64 _ (by omega) (by omega)]; unfold sgn; rw [if_pos h]; omega
theorem uns_odd_walk (n : Int) (h : 0 ≤ n) (h1 : n ≤ 18446744073709551615) (hb : n % 2 = 1) : wrap64 (bits BinOp.xor IntKind.u64 IntKind.u64.max (n / 2)) = uns n := by
  rw [not_u64 _ (by omega) (by omega)]; unfold uns wrap64; rw [if_pos hb]; omega

/-- The reference's sum, one byte on, modulo 2^64. -/
theorem add_step (z : Nat → Int) (j : Nat) (s t : Int) (hs : s = vs z j % 18446744073709551616) (ht : t = 128 ^ j) :
    IntKind.u64.wrap (s + IntKind.u64.wrap (z j % 128 * t)) = vs z (j + 1) % 18446744073709551616 := by
  rw [vs_succ, ← ht]
  simp only [IntKind.wrap_u64]
  rw [hs]
  generalize z j % 128 * t = d
  omega
theorem mul_step (j : Nat) (t : Int) (h : j + 1 ≤ 9) (ht : t = 128 ^ j) : IntKind.u64.wrap (t * 128) = 128 ^ (j + 1) := by
  have hp : (128 : Nat) ^ (j + 1) ≤ 128 ^ 9 := Nat.pow_le_pow_right (by decide) h
  have hp' : (128 : Int) ^ (j + 1) ≤ 128 ^ 9 := by exact_mod_cast hp
  have h0 : (0 : Int) ≤ 128 ^ (j + 1) := Int.le_of_lt (Int.pow_pos (by decide))
  rw [ht, ← Int.pow_succ, IntKind.wrap_u64]
  omega
/-- If the reference's bytes of a number are the first k bytes, ReadNumber hits there. -/
theorem hit_of_eq (n : Nat) (hn : n < 18446744073709551616) (z : Nat → Int) (len k : Nat) (hk : k ≤ len) (h : numB n = (List.range k).map z) : Hit z len k := by
  have hl : (numB n).length = k := by rw [h]; simp
  have := (hit_of_numB n hn z len (fun i hi => by
    rw [h, List.getD_eq_getElem?_getD]
    have : i < k := by omega
    simp [this]) (by omega)).1
  rw [hl] at this; exact this
theorem strOfNums_inj (L M : List Int) (hL : ∀ c ∈ L, 0 ≤ c ∧ c ≤ 255) (hM : ∀ c ∈ M, 0 ≤ c ∧ c ≤ 255) (h : (strOfNums L).toList = (strOfNums M).toList) : L = M := by
  rw [ByteArray.toList_eq, ByteArray.toList_eq, strOfNums_data, strOfNums_data] at h
  have key : ∀ c d : Int, 0 ≤ c ∧ c ≤ 255 → 0 ≤ d ∧ d ≤ 255 → UInt8.ofNat c.toNat = UInt8.ofNat d.toNat → c = d := fun c d hc hd e => by
    have := congrArg UInt8.toNat e
    simp only [UInt8.toNat_ofNat'] at this
    omega
  induction L generalizing M with
  | nil => cases M with
    | nil => rfl
    | cons d M => simp at h
  | cons c L ih => cases M with
    | nil => simp at h
    | cons d M =>
      simp only [List.map_cons, List.cons.injEq] at h
      rw [key c d (hL c (by simp)) (hM d (by simp)) h.1, ih M (fun x hx => hL x (by simp [hx])) (fun x hx => hM x (by simp [hx])) h.2]
end Go.Proofs.Ytfjddkjfkgdihaa
