/- Layer 2, the document's: the rest of a division; no program here but its rows. -/
import Derived.Test.YtjbngddmmdcagaaDoorS4
namespace Go.Proofs.YtjbngddmmdcagaaDoor
open Go.RowKit Go.BigFrame
set_option linter.unusedVariables false
set_option linter.unusedSimpArgs false

/-- Nothing but block p has turned. -/
structure But (p : Nat) (w w' : World) : Prop where
  os : w'.os = w.os
  tape : w'.tape = w.tape
  output : w'.output = w.output
  size : w.heap.size ≤ w'.heap.size
  block : ∀ k, k < w.heap.size → k ≠ p → w'.heap[k]? = w.heap[k]?
theorem But.refl (p : Nat) (w : World) : But p w w := ⟨rfl, rfl, rfl, Nat.le_refl _, fun _ _ _ => rfl⟩
theorem But.trans {p : Nat} {x y z : World} (h : But p x y) (k : But p y z) : But p x z :=
  ⟨k.os.trans h.os, k.tape.trans h.tape, k.output.trans h.output, Nat.le_trans h.size k.size, fun i hi h1 => (k.block i (Nat.lt_of_lt_of_le hi h.size) h1).trans (h.block i hi h1)⟩
theorem But.of_below {p : Nat} {w w' : World} (h : Below w.heap.size w w') : But p w w' := ⟨h.os, h.tape, h.output, h.size, fun k hk _ => h.block k hk⟩
theorem But.alloc {p : Nat} {a w : World} (h : But p a w) (o : Obj) : But p a (w.alloc o) :=
  ⟨h.os, h.tape, h.output, Nat.le_trans h.size (by simp), fun k hk hb => by rw [Below.heap_alloc _ _ _ (Nat.lt_of_lt_of_le hk h.size)]; exact h.block k hk hb⟩
theorem But.set {p : Nat} {a w : World} (h : But p a w) (j : Nat) (v : Value) : But p a (w.setCell ⟨p, j, none⟩ v) :=
  ⟨h.os, h.tape, h.output, by simpa [World.setCell] using h.size, fun k hk hb => by rw [heap_set_other hb]; exact h.block k hk hb⟩
theorem But.below {p B : Nat} {a w w' : World} (h : Below B a w) (k : But p w w') (hb : B ≤ p) (hB : B ≤ w.heap.size) : Below B a w' :=
  ⟨k.os.trans h.os, k.tape.trans h.tape, k.output.trans h.output, Nat.le_trans h.size k.size, fun i hi => (k.block i (by omega) (by omega)).trans (h.block i hi)⟩
/-- A step of the division, k of its 33 places done. -/
def part (i k : Nat) (F : Nat → Nat) : Nat → Nat := fun p => if F i = 1 ∧ i + 33 ≤ p + k ∧ p ≤ i + 32 then (F p + dv (p - i)) % 2 else F p
theorem part_zero (i : Nat) (F : Nat → Nat) : part i 0 F = F := by
  funext p; unfold part; rw [if_neg (by omega)]
theorem part_head (i k : Nat) (F : Nat → Nat) (hk : k ≤ 32) : part i k F i = F i := by
  unfold part; rw [if_neg (by omega)]
theorem part_at (i k : Nat) (F : Nat → Nat) (hk : k ≤ 32) : part i k F (i + 32 - k) = F (i + 32 - k) := by
  unfold part; rw [if_neg (by omega)]
theorem part_next (i k : Nat) (F : Nat → Nat) (hk : k ≤ 32) (h : F i = 1) : part i (k + 1) F = upd (part i k F) (i + 32 - k) ((F (i + 32 - k) + dv (32 - k)) % 2) := by
  funext p
  unfold upd part
  by_cases hp : p = i + 32 - k
  · subst hp
    rw [if_pos rfl, if_pos ⟨h, by omega, by omega⟩, show i + 32 - k - i = 32 - k by omega]
  · rw [if_neg hp]
    by_cases h2 : F i = 1 ∧ i + 33 ≤ p + k ∧ p ≤ i + 32
    · rw [if_pos h2, if_pos ⟨h, by omega, by omega⟩]
    · rw [if_neg h2, if_neg (by omega)]
theorem part_last (i : Nat) (F : Nat → Nat) : part i 33 F = strike i F := by
  funext p
  unfold part strike
  by_cases h2 : F i = 1 ∧ i ≤ p ∧ p ≤ i + 32
  · rw [if_pos h2, if_pos ⟨h2.1, by omega, h2.2.2⟩]
  · rw [if_neg h2, if_neg (by omega)]
theorem strike_no (i : Nat) (F : Nat → Nat) (h : F i ≠ 1) : strike i F = F := by
  funext p; unfold strike; rw [if_neg (by omega)]
theorem strike_lt (i : Nat) (F : Nat → Nat) (h : ∀ p, F p < 2) : ∀ p, strike i F p < 2 := fun p => by
  unfold strike; split
  · omega
  · exact h p
theorem part_lt (i k : Nat) (F : Nat → Nat) (h : ∀ p, F p < 2) : ∀ p, part i k F p < 2 := fun p => by
  unfold part; split
  · omega
  · exact h p
theorem strikes_lt (f : Nat → Nat) (h : ∀ p, f p < 2) : ∀ i p, strikes i f p < 2
  | 0, p => h p
  | i + 1, p => strike_lt i _ (strikes_lt f h i) p
theorem ofBits_lt : ∀ (k : Nat) (f : Nat → Nat), (∀ p, f p < 2) → ofBits k f < 2 ^ k
  | 0, _, _ => by simp [ofBits]
  | k + 1, f, h => by
    rw [ofBits, Nat.pow_succ]
    have := ofBits_lt k (fun j => f (j + 1)) fun p => h (p + 1)
    have := h 0
    omega
theorem ofBits_down (T : Nat → Nat) (n m : Nat) (h : m < 32) : ofBits (m + 1) (fun j => T (n + 32 - (m + 1) + j)) = 2 * ofBits m (fun j => T (n + 32 - m + j)) + T (n + (31 - m)) := by
  rw [ofBits]
  have e : (fun j => T (n + 32 - (m + 1) + (j + 1))) = fun j => T (n + 32 - m + j) := funext fun j => by rw [show n + 32 - (m + 1) + (j + 1) = n + 32 - m + j by omega]
  rw [e, show n + 32 - (m + 1) + 0 = n + (31 - m) by omega]
  omega
/-- A row of numbers. -/
def Nums (W : World) (g n : Nat) (T : Nat → Nat) : Prop := RowAt W g n fun p => .int .i64 (Int.ofNat (T p))
theorem Nums.cell {W : World} {g n : Nat} {T : Nat → Nat} (h : Nums W g n T) {k : Nat} (hk : k < n) : W.cell? ⟨g, k, none⟩ = some (.int .i64 (Int.ofNat (T k))) := RowAt.cell h hk
theorem Nums.set {W : World} {g n : Nat} {T : Nat → Nat} (h : Nums W g n T) (j x : Nat) : Nums (W.setCell ⟨g, j, none⟩ (.int .i64 (Int.ofNat x))) g n (upd T j x) :=
  RowAt.congr (RowAt.set h j (.int .i64 (Int.ofNat x))) fun k _ => by unfold upd; split <;> rfl
theorem Nums.to {W : World} {g n : Nat} {T U : Nat → Nat} (h : Nums W g n T) (e : ∀ p, p < n → T p = U p) : Nums W g n U := RowAt.congr h fun k hk => by rw [e k hk]
theorem Nums.free {W : World} {g n : Nat} {T : Nat → Nat} (h : Nums W g n T) (j : Nat) : W.frozen? ⟨g, j, none⟩ = false := RowAt.free h j
theorem Nums.keep {W W' : World} {g n : Nat} {T : Nat → Nat} (h : Nums W g n T) (e : W'.heap[g]? = W.heap[g]?) : Nums W' g n T := RowAt.keep h e
theorem Nums.drew {W : World} {g n : Nat} {T : Nat → Nat} (h : Nums W g n T) : Nums W.drew g n T := RowAt.keep h rfl
/-- A row of one's own numbers. -/
theorem own_nums {w : World} {B : Nat} {v : Value} {l : List Nat} (h : w.ownsRow B 3 1 v l.length (intsL l)) (h1 : 1 ≤ l.length) : ∃ g c, v = .slice (some ⟨g, 0, none⟩) l.length c ∧ B ≤ g ∧ Nums w g l.length (fun p => l[p]?.getD 0) := by
  rcases h.2 with ⟨-, h0⟩ | ⟨g, cap, cur, rfl, hb, hg, h2, h3, h4, h5⟩
  · omega
  · refine ⟨g, cap, rfl, hb, cur, 3, hg, fun k hk => ?_⟩
    rw [← Array.getElem?_toList]
    have h6 : (intsL l)[k]? = cur.toList[k]? := by rw [← h5, Nat.mul_one, List.getElem?_take, if_pos hk]
    rw [← h6, intsL_get l k hk]; rfl
end Go.Proofs.YtjbngddmmdcagaaDoor
