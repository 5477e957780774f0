/- Walk of the reader's access (layer 37; the ways printed by e9.py). -/
import Derived.Test.YtfjddkjfkgdihaaE8
import Derived.Deep.CutRange
namespace Go.Proofs.Ytfjddkjfkgdihaa
open Go.RowKit Go.BigFrame
set_option linter.unusedVariables false
set_option linter.unusedSimpArgs false

theorem and7 : ∀ m : Fin 256, bits BinOp.and IntKind.i64 ((m.val : Nat) : Int) 7 = ((m.val % 8 : Nat) : Int) := by decide +kernel
theorem and8 : ∀ m : Fin 256, bits BinOp.and IntKind.i64 ((m.val : Nat) : Int) 8 = if (m.val / 8) % 2 = 1 then 8 else 0 := by decide +kernel

theorem acc_first {x : AccD} (h : x.mayB = true) {f : Nat} (e : (f : Int) = x.first) : x.ki = ((f % 8 : Nat) : Int) ∧ x.dn = decide ((f / 8) % 2 = 1) := by
  obtain ⟨h1, h2, h3, h4, -⟩ := AccD.may_out h
  unfold AccD.first at e
  cases hd : x.dn <;> simp [hd] at e ⊢ <;> omega
/-- What the bytes tell of an access that they begin with. -/
theorem acc_l1 {x : AccD} {last : Int} {f : Nat} {M1 r : List Int} (hg : x.good) (e : (f : Int) :: M1 = x.enc last ++ r) :
    x.ki = ((f % 8 : Nat) : Int) ∧ x.dn = decide ((f / 8) % 2 = 1) ∧ (f : Int) = x.first ∧ x.th.toNat < 64 ∧ M1 = numB x.th.toNat ++ (x.placeB last ++ (x.oldB ++ (x.newB ++ r))) := by
  unfold AccD.enc at e
  simp only [List.cons_append, List.cons.injEq, List.append_assoc] at e
  obtain ⟨h1, h2⟩ := acc_first hg.1 e.1
  obtain ⟨-, -, h3, h4, -⟩ := AccD.may_out hg.1
  exact ⟨h1, h2, e.1, by omega, e.2⟩
theorem acc_th {x : AccD} (hg : x.good) {th : Nat} {M2 R : List Int} (e : numB th ++ M2 = numB x.th.toNat ++ R) : x.th = th ∧ M2 = R := by
  obtain ⟨e1, e2⟩ := numB_pre _ _ _ _ e
  obtain ⟨-, -, h3, h4, -⟩ := AccD.may_out hg.1
  exact ⟨by omega, e2⟩
theorem acc_pl {x : AccD} {last : Int} (l0 : -1073741824 ≤ last) (l1 : last ≤ 1073741824) (hg : x.good) (h5 : ¬ x.ki = 5) {M2 R : List Int} (e : M2 = x.placeB last ++ R) : ∃ n : Nat, n ≤ 4294967296 ∧ M2 = numB n ++ R ∧ x.pl = last + uns n := by
  obtain ⟨-, -, -, -, h5', h6, -⟩ := AccD.may_out hg.1
  unfold AccD.placeB at e
  rw [if_neg h5] at e
  have s0 := sgn_lo (x.pl - last)
  refine ⟨(sgn (x.pl - last)).toNat, ?_, e, ?_⟩
  · unfold sgn; split <;> omega
  · rw [Int.toNat_of_nonneg s0, uns_sgn]; omega
theorem acc_ol {x : AccD} (hg : x.good) (h3 : x.ki ≤ 3) {M R : List Int} (e : M = x.oldB ++ R) : ∃ n : Nat, n < 18446744073709551616 ∧ M = numB n ++ R ∧ x.ol = n := by
  obtain ⟨-, o0, o1, -⟩ := hg
  unfold AccD.oldB at e
  rw [if_pos h3] at e
  exact ⟨x.ol.toNat, by omega, e, by omega⟩
theorem acc_ne {x : AccD} (hg : x.good) (h3 : x.ki = 2 ∨ x.ki = 3) {M R : List Int} (e : M = x.newB ++ R) : ∃ n : Nat, n < 18446744073709551616 ∧ M = numB n ++ R ∧ x.ne = n := by
  obtain ⟨-, -, -, n0, n1⟩ := hg
  unfold AccD.newB at e
  rw [if_pos h3] at e
  exact ⟨x.ne.toNat, by omega, e, by omega⟩

def AccTo (B p : Nat) (M : List Int) (last : Int) (w : World) (e : Ending) (w' : World) : Prop :=
  But p p w w' ∧ ((∃ x r, AccD.good x ∧ M = x.enc last ++ r ∧ e = .returned (.agg x.cells) ∧ ∃ a len cap, RdrAt w' B p r (x.next last) a len cap) ∨
    (e = .panicked [{ v := noTrace, recovered := false }] ∧ ∀ x r, AccD.good x → M ≠ x.enc last ++ r))
theorem AccTo.no {B p : Nat} {M : List Int} {last : Int} {w w' : World} (hb : But p p w w') (h : ∀ x r, AccD.good x → M ≠ x.enc last ++ r) : AccTo B p M last w (.panicked [{ v := noTrace, recovered := false }]) w' := ⟨hb, .inr ⟨rfl, h⟩⟩
theorem RdrAt.keep {w w' : World} {B p : Nat} {M : List Int} {last : Int} {a : Option Addr} {len cap : Nat} (h : RdrAt w B p M last a len cap) (hs : w.heap.size ≤ w'.heap.size) (hb : ∀ k, k ≤ p → w'.heap[k]? = w.heap[k]?) : RdrAt w' B p M last a len cap := by
  refine ⟨Nat.lt_of_lt_of_le h.lt hs, h.le, by rw [cell_of_heap (hb p (Nat.le_refl _))]; exact h.rest, by rw [cell_of_heap (hb p (Nat.le_refl _))]; exact h.last, fun j => by rw [frozen_of_heap (hb p (Nat.le_refl _))]; exact h.free j, ?_, h.bytes⟩
  obtain ⟨h1, h2, h3, h4, h5⟩ := h.reads
  have hle := h.le
  refine ⟨h1, h2, h3, Nat.le_trans h4 hs, ?_⟩
  rcases h5 with h5 | ⟨b, off, e, hlt, hc⟩
  · exact .inl h5
  · exact .inr ⟨b, off, e, hlt, fun i hi => by rw [cell_of_heap (hb b (by omega))]; exact hc i hi⟩
theorem RdrAt.alloc {w : World} {B p : Nat} {M : List Int} {last : Int} {a : Option Addr} {len cap : Nat} (h : RdrAt w B p M last a len cap) (o : Obj) : RdrAt (w.alloc o) B p M last a len cap :=
  h.keep (by simp) fun k hk => Below.heap_alloc _ _ _ (Nat.lt_of_le_of_lt hk h.lt)
theorem RdrAt.setOther {w : World} {B p : Nat} {M : List Int} {last : Int} {a : Option Addr} {len cap : Nat} (h : RdrAt w B p M last a len cap) {g : Nat} (hg : p < g) (j : Nat) (v : Value) : RdrAt (w.setCell ⟨g, j, none⟩ v) B p M last a len cap :=
  h.keep (by simp) fun k hk => heap_setCell_ne _ _ _ _ (by simp; omega)
theorem RdrAt.below {w w' : World} {B p : Nat} {M : List Int} {last : Int} {a : Option Addr} {len cap : Nat} (h : RdrAt w B p M last a len cap) (hb : Below w.heap.size w w') : RdrAt w' B p M last a len cap :=
  h.keep hb.size fun k hk => hb.block k (Nat.lt_of_le_of_lt hk h.lt)
theorem heap_set {w : World} {g j : Nat} {c : Array Value} {t : TypeId} {f : Nat × Nat} (v : Value) (h : w.heap[g]? = some (.cells c t f)) : (w.setCell ⟨g, j, none⟩ v).heap[g]? = some (.cells (c.setIfInBounds j v) t f) := by
  simp [World.setCell, Array.getElem?_modify, h]
theorem But.setNew {p : Nat} {w w' : World} (h : But p p w w') {g : Nat} (hg : w.heap.size ≤ g) (j : Nat) (v : Value) : But p p w (w'.setCell ⟨g, j, none⟩ v) :=
  ⟨h.os, h.tape, h.output, by simpa [World.setCell] using h.size, fun k hk h1 h2 => by rw [heap_setCell_ne _ _ _ _ (by simp; omega)]; exact h.block k hk h1 h2⟩
theorem But.of_below {p : Nat} {w w' : World} (h : Below w.heap.size w w') : But p p w w' := ⟨h.os, h.tape, h.output, h.size, fun k hk _ _ => h.block k hk⟩
theorem But.cells {p : Nat} {w w' : World} (h : But p p w w') {g : Nat} {x : Obj} (hg : w.heap[g]? = some x) (hp : p < g) : w'.heap[g]? = some x :=
  (h.block g (Array.getElem?_eq_some_iff.1 hg).1 (by omega) (by omega)).trans hg
theorem Below.cellsAt {w w' : World} (h : Below w.heap.size w w') {g : Nat} {x : Obj} (hg : w.heap[g]? = some x) : w'.heap[g]? = some x :=
  (h.block g (Array.getElem?_eq_some_iff.1 hg).1).trans hg
theorem free_of {w : World} {g : Nat} {c : Array Value} {t : TypeId} (h : w.heap[g]? = some (.cells c t (0, 0))) (j : Nat) : w.frozen? ⟨g, j, none⟩ = false := by
  unfold World.frozen?; rw [h]; simp
theorem acc_cells' {W : World} {b : Nat} {k0 k1 k2 k3 k4 k5 : Value} {t : TypeId} (h : W.heap[b]? = some (.cells #[k0, k1, k2, k3, k4, k5] t (0, 0))) :
    W.cell? ⟨b, 0, none⟩ = some k0 ∧ W.cell? ⟨b, 1, none⟩ = some k1 ∧ W.cell? ⟨b, 2, none⟩ = some k2 ∧ W.cell? ⟨b, 3, none⟩ = some k3 ∧ W.cell? ⟨b, 4, none⟩ = some k4 ∧ W.cell? ⟨b, 5, none⟩ = some k5 := by
  refine ⟨?_, ?_, ?_, ?_, ?_, ?_⟩ <;> rw [cell_of_row _ _ _ _ _ _ h] <;> rfl
/-- The access that was read is the one. -/
theorem enc_mk (ki : Int) (th : Nat) (pl last : Int) (ol ne : Nat) (dn : Bool) (f : Int) (n : Nat) (M2 M3 M4 M5 : List Int)
    (hf : AccD.first ⟨ki, th, pl, ol, ne, dn⟩ = f) (h2 : if ki = 5 then M2 = M3 else M2 = numB n ++ M3 ∧ pl = last + uns n) (h3 : if ki ≤ 3 then M3 = numB ol ++ M4 else M3 = M4) (h4 : if ki = 2 ∨ ki = 3 then M4 = numB ne ++ M5 else M4 = M5) :
    f :: (numB th ++ M2) = AccD.enc ⟨ki, th, pl, ol, ne, dn⟩ last ++ M5 := by
  have e2 : M2 = AccD.placeB ⟨ki, th, pl, ol, ne, dn⟩ last ++ M3 := by
    unfold AccD.placeB
    by_cases h : ki = 5
    · rw [if_pos h] at h2 ⊢; exact h2
    · rw [if_neg h] at h2 ⊢
      obtain ⟨h2, rfl⟩ := h2
      simp only
      rw [show last + uns n - last = uns (n : Int) by omega, sgn_uns _ (by omega), Int.toNat_natCast]; exact h2
  have e3 : M3 = AccD.oldB ⟨ki, th, pl, ol, ne, dn⟩ ++ M4 := by
    unfold AccD.oldB
    by_cases h : ki ≤ 3
    · rw [if_pos h] at h3 ⊢; simpa using h3
    · rw [if_neg h] at h3 ⊢; exact h3
  have e4 : M4 = AccD.newB ⟨ki, th, pl, ol, ne, dn⟩ ++ M5 := by
    unfold AccD.newB
    by_cases h : ki = 2 ∨ ki = 3
    · rw [if_pos h] at h4 ⊢; simpa using h4
    · rw [if_neg h] at h4 ⊢; exact h4
  unfold AccD.enc
  rw [hf, e2, e3, e4]
  simp

end Go.Proofs.Ytfjddkjfkgdihaa
