/- A map with int keys that the call makes, read key by key; its elements are whatever values. No program here. -/
import Derived.WalkKit
import Derived.MapKept
import Derived.Lib.Hide
namespace Go.Proofs.Ytfjddkjfkgdihaa
open Go.RowKit

def entL (l : List (Int × Value × Nat)) : List MapEntry := l.map fun p => { key := .int .i64 p.1, val := p.2.1, born := p.2.2 }
/-- The place and the value of a key. -/
def findL (a : Int) : List (Int × Value × Nat) → Nat → Option (Nat × Value)
  | [], _ => none
  | p :: l, i => if a = p.1 then some (i, p.2.1) else findL a l (i + 1)
def lookL (a : Int) : List (Int × Value × Nat) → Option Value
  | [] => none
  | p :: l => if a = p.1 then some p.2.1 else lookL a l

theorem findL_none (a : Int) : ∀ (l : List (Int × Value × Nat)) (i : Nat), findL a l i = none → lookL a l = none ∧ ∀ p ∈ l, p.1 ≠ a
  | [], _, _ => ⟨rfl, fun _ h => by cases h⟩
  | p :: l, i, h => by
    unfold findL at h
    split at h
    · cases h
    · rename_i hne
      obtain ⟨h1, h2⟩ := findL_none a l (i + 1) h
      refine ⟨by rw [lookL, if_neg hne, h1], fun q hq => ?_⟩
      rcases List.mem_cons.1 hq with rfl | hq
      · exact fun e => hne e.symm
      · exact h2 q hq
theorem findL_some (a : Int) : ∀ (l : List (Int × Value × Nat)) (i j : Nat) (v : Value), findL a l i = some (j, v) → lookL a l = some v ∧ ∃ k b, j = i + k ∧ l[k]? = some (a, v, b) ∧ (∀ k', k' < k → ∀ p, l[k']? = some p → p.1 ≠ a)
  | [], _, _, _, h => by cases h
  | p :: l, i, j, v, h => by
    unfold findL at h
    split at h
    · rename_i he
      cases h
      exact ⟨by rw [lookL, if_pos he], 0, p.2.2, rfl, by simp [he], fun k' hk => absurd hk (Nat.not_lt_zero _)⟩
    · rename_i hne
      obtain ⟨h1, k, b, h2, h3, h4⟩ := findL_some a l (i + 1) j v h
      refine ⟨by rw [lookL, if_neg hne, h1], k + 1, b, by omega, by simpa using h3, fun k' hk q hq => ?_⟩
      cases k' with
      | zero => simp at hq; subst hq; exact fun e => hne e.symm
      | succ k' => exact h4 k' (by omega) q (by simpa using hq)

theorem findNow_entL (a : Int) : ∀ (l : List (Int × Value × Nat)) (i : Nat), Instr.findNow (.int .i64) (.int .i64 a) (entL l) i = some (findL a l i)
  | [], _ => rfl
  | p :: l, i => by
    by_cases h : a = p.1
    · simp [entL, Instr.findNow, Instr.sameNow, findL, h]
    · have := findNow_entL a l (i + 1)
      simp only [entL] at this
      have hb : (a == p.1) = false := by simp [h]
      simp [entL, Instr.findNow, Instr.sameNow, findL, h, hb, this]

/-- Block b is a map with int keys that holds, at key a, what f says. -/
def IMap (w : World) (b : Nat) (f : Int → Option Value) : Prop :=
  ∃ l clock, w.heap[b]? = some (.map (entL l).toArray clock) ∧ ∀ a, lookL a l = f a

theorem IMap.lt {w : World} {b : Nat} {f : Int → Option Value} (h : IMap w b f) : b < w.heap.size := by
  obtain ⟨l, c, hb, _⟩ := h; exact (Array.getElem?_eq_some_iff.1 hb).1
theorem IMap.of_block {w w' : World} {b : Nat} {f : Int → Option Value} (h : IMap w b f) (hb : w'.heap[b]? = w.heap[b]?) : IMap w' b f := by
  obtain ⟨l, c, hc, hf⟩ := h; exact ⟨l, c, by rw [hb]; exact hc, hf⟩
theorem IMap.below {w w' : World} {b B : Nat} {f : Int → Option Value} (h : IMap w b f) (hb : Below B w w') (hB : b < B) : IMap w' b f := h.of_block (hb.block b hB)
theorem IMap.made (w : World) : IMap (w.alloc (.map #[] 0)) w.heap.size (fun _ => none) := ⟨[], 0, heap_alloc_new w _, fun _ => rfl⟩

section
variable {P : Program} {t k e : TypeId} (ht : P.underlying t = some (.map k e)) (hk : P.underlying k = some (.int .i64))
include ht hk

theorem IMap.lookup {w : World} {b : Nat} {f : Int → Option Value} (h : IMap w b f) {z : Value} (hz : (zeroValue e).run P w = .ok z w) (a : Int) :
    (Instr.lookup t (.map (some b)) (.int .i64 a) true).run P w = .ok (.tuple #[(f a).getD z, .bool (f a).isSome]) w := by
  obtain ⟨l, c, hb, hf⟩ := h
  have hc : ∀ e, (Instr.checkKey e 10000 k (.int .i64 a)).run P w = .ok () w := fun e => MapKept.run_checkKey (k := .int .i64 a) hk (by simp [MapKept.IsKey]) e 9999
  have hfk := MapKept.run_findKey (w := w) (k := .int .i64 a) hk (findNow_entL a l 0)
  rw [← hf a]
  cases hfl : findL a l 0 with
  | none =>
    obtain ⟨h1, -⟩ := findL_none a l 0 hfl
    rw [hfl] at hfk
    simp [Instr.lookup, run_underlying ht, MapKept.run_getObj_map hb, hc, hfk, hz, Result.andThen, h1]
  | some p =>
    obtain ⟨j, v⟩ := p
    obtain ⟨h1, -⟩ := findL_some a l 0 j v hfl
    rw [hfl] at hfk
    simp [Instr.lookup, run_underlying ht, MapKept.run_getObj_map hb, hc, hfk, Result.andThen, h1]

theorem IMap.update {w : World} {b : Nat} {f : Int → Option Value} (h : IMap w b f) (a : Int) (v : Value) :
    ∃ w', (Instr.mapUpdate t (.map (some b)) (.int .i64 a) v).run P w = .ok () w' ∧ IMap w' b (fun x => if x = a then some v else f x) ∧ w.grownBy w' (some b) := by
  obtain ⟨l, c, hb, hf⟩ := h
  have hlt : b < w.heap.size := (Array.getElem?_eq_some_iff.1 hb).1
  have hc : ∀ e, (Instr.checkKey e 10000 k (.int .i64 a)).run P w = .ok () w := fun e => MapKept.run_checkKey (k := .int .i64 a) hk (by simp [MapKept.IsKey]) e 9999
  have hfk := MapKept.run_findKey (w := w) (k := .int .i64 a) hk (findNow_entL a l 0)
  have hgrow : ∀ o : Obj, w.grownBy { w with heap := w.heap.setIfInBounds b o } (some b) := fun o =>
    ⟨rfl, rfl, rfl, by simp, fun i _ hi => by
      have : ¬ b = i := fun e => hi (by rw [e])
      simp [this]⟩
  cases hfl : findL a l 0 with
  | none =>
    rw [hfl] at hfk
    obtain ⟨h1, h2⟩ := findL_none a l 0 hfl
    refine ⟨{ w with heap := w.heap.setIfInBounds b (.map ((entL l).toArray.push { key := .int .i64 a, val := v, born := c }) (c + 1)) }, ?_, ⟨l ++ [(a, v, c)], c + 1, ?_, fun x => ?_⟩, hgrow _⟩
    · simp [Instr.mapUpdate, run_underlying ht, MapKept.run_getObj_map hb, hc, hfk, MapKept.run_setObj_map _ hb, Result.andThen]
    · simp [hlt, entL]
    · have key : ∀ l : List (Int × Value × Nat), lookL x (l ++ [(a, v, c)]) = match lookL x l with | some u => some u | none => if x = a then some v else none := by
        intro l
        induction l with
        | nil => simp [lookL]
        | cons p l ih => simp only [List.cons_append, lookL]; split <;> simp_all
      rw [key, hf x]
      by_cases hx : x = a
      · subst hx; rw [← hf x, h1]; simp
      · simp only [if_neg hx]; cases f x <;> rfl
  | some p =>
    obtain ⟨j, u⟩ := p
    rw [hfl] at hfk
    obtain ⟨h1, j', bn, h2, h3, h4⟩ := findL_some a l 0 j u hfl
    obtain rfl : j = j' := by omega
    have hj : (entL l)[j]? = some { key := .int .i64 a, val := u, born := bn } := by simp [entL, h3]
    refine ⟨{ w with heap := w.heap.setIfInBounds b (.map ((entL l).toArray.modify j fun e => { e with key := .int .i64 a, val := v }) c) }, ?_, ⟨l.modify j fun p => (a, v, p.2.2), c, ?_, fun x => ?_⟩, hgrow _⟩
    · have hst : (Instr.keyThatStays (.int .i64 a) (.int .i64 a)).run P w = .ok (.int .i64 a) w := by simp [Instr.keyThatStays, Instr.sameBits]
      simp [Instr.mapUpdate, run_underlying ht, MapKept.run_getObj_map hb, hc, hfk, MapKept.run_setObj_map _ hb, Result.andThen, hj, hst]
    · have e1 : (entL l).toArray.modify j (fun e => { e with key := .int .i64 a, val := v }) = (entL (l.modify j fun p => (a, v, p.2.2))).toArray := by
        apply Array.ext'
        simp only [Array.toList_modify, entL]
        apply List.ext_getElem?
        intro i
        simp only [List.getElem?_modify, List.getElem?_map]
        by_cases hij : j = i
        · subst hij; simp [h3]
        · simp [hij]
      rw [e1]; simp [hlt]
    · have key : ∀ (l : List (Int × Value × Nat)) (j : Nat), l[j]? = some (a, u, bn) → (∀ k', k' < j → ∀ p, l[k']? = some p → p.1 ≠ a) → lookL x (l.modify j fun p => (a, v, p.2.2)) = if x = a then some v else lookL x l := by
        intro l
        induction l with
        | nil => intro j h; simp at h
        | cons p l ih =>
          intro j h3 h4
          cases j with
          | zero =>
            simp at h3; subst h3
            simp only [List.modify_zero_cons, lookL]
            by_cases hx : x = a
            · simp only [if_pos hx]
            · simp only [if_neg hx]
          | succ j =>
            have hp : p.1 ≠ a := h4 0 (by omega) p rfl
            simp only [List.modify_succ_cons, lookL]
            rw [ih j (by simpa using h3) (fun k' hk q hq => h4 (k' + 1) (by omega) q (by simpa using hq))]
            by_cases hx : x = a
            · rw [if_pos hx, if_pos hx, if_neg (fun e => hp (by rw [← hx]; exact e.symm))]
            · simp [hx]
      rw [key l j h3 h4, hf x]

/-- 'm[k] = v' at the operation. -/
theorem wpList_update_im (w : World) {ops : Array Oper} {rest : List Oper} {o : Oper} {a : Act} {Q : Exit → Act → World → Prop}
    (hg : o.guard = none) (m x v : Operand) (hop : o.op = Op.mapUpdate t m x v) (b : Nat) (f : Int → Option Value)
    (hm : a.eval m = .map (some b)) (h : IMap w b f) (key : Int) (val : Value) (hx : a.eval x = .int .i64 key) (hv : a.eval v = val)
    (hK : ∀ w', IMap w' b (fun y => if y = key then some val else f y) → w.grownBy w' (some b) → wpList P ops Q rest (a.put o.dst undef) w') :
    wpList P ops Q (o :: rest) a w := by
  refine wpList_plain hg fun K' hK' => ?_
  obtain ⟨w', hrun, r1, r2⟩ := h.update ht hk key val
  unfold Oper.wp
  simp [execOp, hop, hm, hx, hv, hrun, Result.andThen]
  exact hK' _ _ (hK w' r1 r2)
end
end Go.Proofs.Ytfjddkjfkgdihaa
