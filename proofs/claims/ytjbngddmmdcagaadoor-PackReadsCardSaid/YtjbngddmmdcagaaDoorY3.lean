/- Layer 32: a row is put into an image; what is of no program. -/
import Derived.Test.YtjbngddmmdcagaaDoorY2
import Derived.Test.YtjbngddmmdcagaaDoorS5
namespace Go.Proofs.YtjbngddmmdcagaaDoor
open Go.RowKit Go.BigFrame
set_option linter.unusedVariables false
set_option linter.unusedSimpArgs false

theorem allDigits_snoc : ∀ (l : List (List UInt8)) (x : List UInt8), allDigits (l ++ [x]) = (allDigits l).bind fun v => (digits 16 16 x).map fun d => v ++ [d]
  | [], x => by
    rw [List.nil_append, allDigits, allDigits]
    cases h : digits 16 16 x <;> simp [allDigits]
  | s :: l, x => by
    rw [List.cons_append, allDigits, allDigits]
    cases h : digits 16 16 s with
    | none => rfl
    | some v =>
      simp only
      rw [allDigits_snoc l x]
      cases h2 : allDigits l with
      | none => rfl
      | some vs =>
        cases h3 : digits 16 16 x <;> simp
theorem allDigits_take (l : List (List UInt8)) (k : Nat) (h : k < l.length) : allDigits (l.take (k + 1)) = (allDigits (l.take k)).bind fun v => (digits 16 16 l[k]).map fun d => v ++ [d] := by
  rw [List.take_add_one, List.getElem?_eq_getElem h]
  exact allDigits_snoc _ _
theorem allDigits_none (l : List (List UInt8)) : ∀ k, allDigits (l.take k) = none → allDigits l = none := by
  induction l with
  | nil => intro k h; simp [allDigits] at h
  | cons s l ih =>
    intro k h
    cases k with
    | zero => simp [allDigits] at h
    | succ k =>
      rw [List.take_succ_cons, allDigits] at h
      rw [allDigits]
      cases hs : digits 16 16 s with
      | none => rfl
      | some v =>
        rw [hs] at h
        simp only at h ⊢
        cases h2 : allDigits (l.take k) with
        | none => rw [ih k h2]; rfl
        | some vs => rw [h2] at h; cases h
theorem allDigits_len : ∀ (l : List (List UInt8)) (v : List Nat), allDigits l = some v → v.length = l.length
  | [], v, h => by cases h; rfl
  | s :: l, v, h => by
    rw [allDigits] at h
    cases hs : digits 16 16 s with
    | none => rw [hs] at h; cases h
    | some x =>
      rw [hs] at h
      simp only at h
      cases h2 : allDigits l with
      | none => rw [h2] at h; cases h
      | some vs => rw [h2] at h; cases h; simp [allDigits_len l vs h2]
/-- The first k words of a line put. -/
def putTo (u : Nat → Nat) (n k : Nat) (v : List Nat) : Nat → Nat := fun p => if 8 * n ≤ p ∧ p < 8 * n + k then v[p - 8 * n]?.getD 0 else u p
theorem putTo_next (u : Nat → Nat) (n k : Nat) (v : List Nat) (d : Nat) (h : v.length = k) : putTo u n (k + 1) (v ++ [d]) = upd (putTo u n k v) (8 * n + k) d := by
  funext p
  unfold putTo upd
  by_cases hp : p = 8 * n + k
  · subst hp
    rw [if_pos (by omega), if_pos rfl, show 8 * n + k - 8 * n = k by omega, ← h]; simp
  · rw [if_neg hp]
    by_cases h2 : 8 * n ≤ p ∧ p < 8 * n + k
    · rw [if_pos (by omega), List.getElem?_append_left (by omega)]; exact (if_pos h2).symm
    · rw [if_neg (by omega)]; exact (if_neg h2).symm
/-- A row of words. -/
def Wds (W : World) (g n : Nat) (T : Nat → Nat) : Prop := RowAt W g n fun p => .int .u64 (T p : Int)
theorem Wds.set {W : World} {g n : Nat} {T : Nat → Nat} (h : Wds W g n T) (j x : Nat) : Wds (W.setCell ⟨g, j, none⟩ (.int .u64 (x : Int))) g n (upd T j x) :=
  RowAt.congr (RowAt.set h j (.int .u64 (x : Int))) fun k _ => by unfold upd; split <;> rfl
theorem Wds.keep {W W' : World} {g n : Nat} {T : Nat → Nat} (h : Wds W g n T) (e : W'.heap[g]? = W.heap[g]?) : Wds W' g n T := RowAt.keep h e
theorem Wds.cell {W : World} {g n : Nat} {T : Nat → Nat} (h : Wds W g n T) {k : Nat} (hk : k < n) : W.cell? ⟨g, k, none⟩ = some (.int .u64 (T k : Int)) := RowAt.cell h hk
end Go.Proofs.YtjbngddmmdcagaaDoor
