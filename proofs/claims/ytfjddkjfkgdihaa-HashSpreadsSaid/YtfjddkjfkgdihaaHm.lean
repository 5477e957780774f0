/- Plain arithmetic of layer 16 (hash): the mix as numbers. No program here. -/
import Derived.WalkKit
import Derived.Lib.Hide
namespace Go.Proofs.Ytfjddkjfkgdihaa
open Go.RowKit

def mulN (a : Nat) : Nat := a * 2654435769 % 4294967296
def mixN (a : Nat) : Nat := mulN a ^^^ (mulN a / 65536)
def hMix (a : Int) : Int := (mixN a.toNat : Nat)

theorem mulN_lt (a : Nat) : mulN a < 4294967296 := Nat.mod_lt _ (by decide)
theorem mixN_lt (a : Nat) : mixN a < 4294967296 := by
  have h := mulN_lt a
  exact Nat.xor_lt_two_pow (n := 32) h (by have := Nat.div_le_self (mulN a) 65536; omega)
theorem hMix_lo (a : Int) : 0 ≤ hMix a := by unfold hMix; omega
theorem hMix_hi (a : Int) : hMix a ≤ 4294967295 := by unfold hMix; have := mixN_lt a.toNat; omega

theorem bits_xor_u32 (x y : Nat) (hx : x < 4294967296) (hy : y < 4294967296) : bits BinOp.xor IntKind.u32 (x : Int) (y : Int) = ((x ^^^ y : Nat) : Int) := by
  have h : x ^^^ y < 4294967296 := Nat.xor_lt_two_pow (n := 32) hx hy
  have e : (BitVec.ofNat 32 x ^^^ BitVec.ofNat 32 y).toNat = x ^^^ y := by
    rw [BitVec.toNat_xor, BitVec.toNat_ofNat, BitVec.toNat_ofNat, Nat.mod_eq_of_lt hx, Nat.mod_eq_of_lt hy]
  simp only [bits, BitVec.ofInt_natCast]
  show IntKind.u32.wrap ((BitVec.ofNat 32 x ^^^ BitVec.ofNat 32 y).toNat : Int) = _
  rw [e, IntKind.wrap_u32]; omega

theorem hMix_walk (a : Int) (h0 : 0 ≤ a) : bits BinOp.xor IntKind.u32 (IntKind.u32.wrap (a * 2654435769)) (IntKind.u32.wrap (a * 2654435769) / 65536) = hMix a := by
  obtain ⟨n, rfl⟩ := Int.eq_ofNat_of_zero_le h0
  have e : IntKind.u32.wrap ((n : Int) * 2654435769) = (mulN n : Nat) := by rw [IntKind.wrap_u32]; unfold mulN; omega
  have e2 : ((mulN n : Nat) : Int) / 65536 = (mulN n / 65536 : Nat) := by omega
  rw [e, e2, bits_xor_u32 _ _ (mulN_lt n) (by have := mulN_lt n; have := Nat.div_le_self (mulN n) 65536; omega)]
  rfl

theorem mulN_inv (a : Nat) (h : a < 4294967296) : mulN a * 340573321 % 4294967296 = a := by unfold mulN; omega
theorem xor_back (m : Nat) (h : m < 4294967296) : (m ^^^ (m / 65536)) ^^^ ((m ^^^ (m / 65536)) / 65536) = m := by
  have e : ∀ x : Nat, x / 65536 = x >>> 16 := fun x => by rw [Nat.shiftRight_eq_div_pow]
  simp only [e]
  have e0 : m >>> 32 = 0 := by rw [Nat.shiftRight_eq_div_pow]; omega
  rw [Nat.shiftRight_xor_distrib, ← Nat.shiftRight_add, e0, Nat.xor_zero, Nat.xor_assoc, Nat.xor_self, Nat.xor_zero]
theorem mixN_inj (a b : Nat) (ha : a < 4294967296) (hb : b < 4294967296) (h : mixN a = mixN b) : a = b := by
  have h1 : mulN a = mulN b := by
    have := xor_back _ (mulN_lt a); have h2 := xor_back _ (mulN_lt b)
    unfold mixN at h
    rw [← this, ← h2, h]
  rw [← mulN_inv a ha, ← mulN_inv b hb, h1]
theorem hMix_inj (a b : Int) (ha : 0 ≤ a ∧ a ≤ 4294967295) (hb : 0 ≤ b ∧ b ≤ 4294967295) (h : hMix a = hMix b) : a = b := by
  unfold hMix at h
  have := mixN_inj a.toNat b.toNat (by omega) (by omega) (by omega)
  omega

/-- One bit more of the mix. -/
theorem mix_step (x y k : Nat) : (x ^^^ y) % 2 ^ (k + 1) = (x ^^^ y) % 2 ^ k + (if x / 2 ^ k % 2 = y / 2 ^ k % 2 then 0 else 2 ^ k) := by
  rw [Nat.mod_pow_succ]
  congr 1
  have hb : ∀ z : Nat, z / 2 ^ k % 2 = (z.testBit k).toNat := fun z => by rw [Nat.testBit_eq_decide_div_mod_eq]; rcases Nat.mod_two_eq_zero_or_one (z / 2 ^ k) with h | h <;> simp [h]
  rw [hb, hb, hb, Nat.testBit_xor]
  cases x.testBit k <;> cases y.testBit k <;> simp

/-- The reference's loop: what its counters mean behind k rounds. -/
structure MixAt (n : Nat) (x : Int) (k : Nat) (p q : Int) : Prop where
  hx : x = ((mulN n : Nat) : Int)
  hp : p = ((2 ^ k : Nat) : Int)
  hq : q = ((mixN n % 2 ^ k : Nat) : Int)
theorem MixAt.start (n : Nat) (x : Int) (hx : x = (n : Int) * 2654435769 % 4294967296) : MixAt n x 0 1 0 :=
  ⟨by rw [hx]; unfold mulN; omega, by simp, by simp [Nat.mod_one]⟩
theorem MixAt.bits {n : Nat} {x : Int} {k : Nat} {p q : Int} (h : MixAt n x k p q) : (x / p % 2 = x / 65536 / p % 2) ↔ (mulN n / 2 ^ k % 2 = mulN n / 65536 / 2 ^ k % 2) := by
  have dv : ((mulN n : Nat) : Int) / ((2 ^ k : Nat) : Int) % 2 = ((mulN n / 2 ^ k % 2 : Nat) : Int) := by simp
  have dv2 : ((mulN n : Nat) : Int) / 65536 / ((2 ^ k : Nat) : Int) % 2 = ((mulN n / 65536 / 2 ^ k % 2 : Nat) : Int) := by simp
  rw [h.hx, h.hp, dv, dv2]; omega
theorem MixAt.same {n : Nat} {x : Int} {k : Nat} {p q : Int} (h : MixAt n x k p q) (hb : x / p % 2 = x / 65536 / p % 2) : MixAt n x (k + 1) (2 * p) q := by
  have ms := mix_step (mulN n) (mulN n / 65536) k
  rw [if_pos (h.bits.1 hb)] at ms
  exact ⟨h.hx, by rw [h.hp, Nat.pow_succ]; omega, by rw [h.hq]; unfold mixN; rw [ms, Nat.add_zero]⟩
theorem MixAt.other {n : Nat} {x : Int} {k : Nat} {p q : Int} (h : MixAt n x k p q) (hb : ¬ x / p % 2 = x / 65536 / p % 2) : MixAt n x (k + 1) (2 * p) (q + p) := by
  have ms := mix_step (mulN n) (mulN n / 65536) k
  rw [if_neg (fun e => hb (h.bits.2 e))] at ms
  exact ⟨h.hx, by rw [h.hp, Nat.pow_succ]; omega, by rw [h.hq, h.hp]; unfold mixN; rw [ms]; omega⟩
theorem MixAt.le {n : Nat} {x : Int} {k : Nat} {p q : Int} (h : MixAt n x k p q) (hk : k < 32) : p ≤ 2147483648 := by
  rw [h.hp]
  have : 2 ^ k ≤ 2 ^ 31 := Nat.pow_le_pow_right (by decide) (by omega)
  omega
theorem MixAt.done {n : Nat} {x : Int} {p q : Int} (h : MixAt n x 32 p q) : q = hMix n := by
  rw [h.hq]; unfold hMix; rw [Int.toNat_natCast, Nat.mod_eq_of_lt (mixN_lt n)]
end Go.Proofs.Ytfjddkjfkgdihaa
