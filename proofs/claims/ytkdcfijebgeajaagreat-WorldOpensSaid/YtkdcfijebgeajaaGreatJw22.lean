/- A run reckoned: how blocks come to be, and turn. -/
import Derived.Test.YtkdcfijebgeajaaGreatJw21
import Derived.Laws.MakeOwn
namespace Go.Proofs.YtkdcfijebgeajaaGreat
namespace Rk
open Go.RowKit
set_option linter.unusedVariables false
set_option linter.unusedSimpArgs false
set_option linter.unusedSectionVars false
def AH.put (σ : AH) (b : Nat) (x : Option AObj) : AH := ⟨σ.next, Tr.put (b + 1) σ.tr b x⟩
def AH.new (σ : AH) (x : AObj) : AH := ⟨σ.next + 1, Tr.put (σ.next + 1) σ.tr σ.next (some x)⟩
theorem ah_putK {β : Sort _} (σ : AH) (b : Nat) (x : Option AObj) (k : AH → β) : σ.putK b x k = k (σ.put b x) := by obtain ⟨n, t⟩ := σ; simp [AH.putK, AH.put, putK_eq]
theorem ah_newK {β : Sort _} (σ : AH) (x : AObj) (k : AH → β) : σ.newK x k = k (σ.new x) := by obtain ⟨n, t⟩ := σ; simp [AH.newK, AH.new, putK_eq, natF_eq]
theorem ah_put_get (σ : AH) (b : Nat) (x : Option AObj) (j : Nat) : (σ.put b x).get j = if j = b then x else σ.get j := put_get _ _ _ _ _ (Nat.lt_succ_self b)
theorem ah_new_get (σ : AH) (x : AObj) (j : Nat) : (σ.new x).get j = if j = σ.next then some x else σ.get j := put_get _ _ _ _ _ (Nat.lt_succ_self _)
@[simp] theorem ah_put_next (σ : AH) (b : Nat) (x : Option AObj) : (σ.put b x).next = σ.next := rfl
@[simp] theorem ah_new_next (σ : AH) (x : AObj) : (σ.new x).next = σ.next + 1 := rfl
def Mp.set (R : Mp) (b : Nat) (x : Nat × Nat) : Mp := fun c => if c = b then some x else R c
theorem Mp.set_le {R : Mp} {b : Nat} {x : Nat × Nat} (h : R b = none) : R.le (R.set b x) := fun c y e => by
  unfold Mp.set
  by_cases hc : c = b
  · subst hc; rw [h] at e; cases e
  · rw [if_neg hc]; exact e
theorem Mp.set_same (R : Mp) (b : Nat) (x : Nat × Nat) : R.set b x b = some x := if_pos rfl
theorem Mp.set_ne {R : Mp} {b c : Nat} {x : Nat × Nat} (h : c ≠ b) : R.set b x c = R c := if_neg h
structure Ext (R : Mp) (σ : AH) (R' : Mp) (σ' : AH) : Prop where
  le : R.le R'
  next : σ.next ≤ σ'.next
  fr : ∀ b, b < σ.next → R b = none → σ'.get b = σ.get b ∧ R' b = none
theorem Ext.refl (R : Mp) (σ : AH) : Ext R σ R σ := ⟨R.le_refl, Nat.le_refl _, fun b _ h => ⟨rfl, h⟩⟩
theorem Ext.trans {R S T : Mp} {a b c : AH} (h : Ext R a S b) (k : Ext S b T c) : Ext R a T c :=
  ⟨Mp.le_trans h.le k.le, Nat.le_trans h.next k.next, fun q hq hr => by
    obtain ⟨h1, h2⟩ := h.fr q hq hr
    obtain ⟨k1, k2⟩ := k.fr q (Nat.lt_of_lt_of_le hq h.next) h2
    exact ⟨k1.trans h1, k2⟩⟩
section
variable {B : Nat} {w0 : World} {R : Mp} {σ : AH} {w : World}
theorem Sim.none_next (h : Sim B w0 R σ w) {b : Nat} (hb : σ.next ≤ b) : R b = none := by
  cases e : R b with
  | none => rfl
  | some x => have := h.dom b x e; omega
theorem Sim.world {w' : World} (h : Sim B w0 R σ w) (hh : w'.heap = w.heap) (h1 : w'.os = w.os) (h2 : w'.tape = w.tape) (h3 : w'.output = w.output) : Sim B w0 R σ w' :=
  ⟨h.dom, fun b r s e => by rw [hh]; exact h.lt b r s e, fun b r s o e g => by rw [hh]; exact h.obj b r s o e g, h.inj,
    ⟨h1.trans h.below.os, h2.trans h.below.tape, h3.trans h.below.output, by rw [hh]; exact h.below.size, fun k hk => by rw [hh]; exact h.below.block k hk⟩, by rw [hh]; exact h.base⟩
theorem Sim.drawn (h : Sim B w0 R σ w) (n : Nat) : Sim B w0 R σ { w with drawn := n } := h.world rfl rfl rfl rfl
theorem Sim.ghost (h : Sim B w0 R σ w) (x : AObj) : Sim B w0 R (σ.new x) w :=
  ⟨fun b y e => Nat.lt_succ_of_lt (h.dom b y e), h.lt, fun b r s o e g => by
      rw [ah_new_get, if_neg (by have := h.dom b _ e; omega)] at g; exact h.obj b r s o e g,
    fun b1 b2 r s1 s2 e1 e2 hne => by
      rw [ah_new_get, ah_new_get, if_neg (by have := h.dom b1 _ e1; omega), if_neg (by have := h.dom b2 _ e2; omega)]
      exact h.inj b1 b2 r s1 s2 e1 e2 hne, h.below, h.base⟩
theorem heap_alloc_old (w : World) (o : Obj) {k : Nat} (hk : k < w.heap.size) : (w.alloc o).heap[k]? = w.heap[k]? := by
  show (w.heap.push o)[k]? = _
  rw [Array.getElem?_push, if_neg (by omega)]
theorem heap_alloc_at (w : World) (o : Obj) : (w.alloc o).heap[w.heap.size]? = some o := by
  show (w.heap.push o)[w.heap.size]? = _
  simp
theorem Sim.real (h : Sim B w0 R σ w) {b : Nat} {x : AObj} (hb : b < σ.next) (hr : R b = none) (hg : σ.get b = some x) {o : Obj} {s : Nat} (ho : objR R x (some o) s) :
    Sim B w0 (R.set b (w.heap.size, s)) σ (w.alloc o) := by
  have hle : R.le (R.set b (w.heap.size, s)) := Mp.set_le hr
  refine ⟨fun c y e => ?_, fun c r q e => ?_, fun c r q y e g => ?_, fun b1 b2 r s1 s2 e1 e2 hne => ?_, ?_, ?_⟩
  · by_cases hc : c = b
    · subst hc; exact hb
    · rw [Mp.set_ne hc] at e; exact h.dom c y e
  · by_cases hc : c = b
    · subst hc; rw [Mp.set_same] at e; cases e; simp
    · rw [Mp.set_ne hc] at e; have := h.lt c r q e; simp; omega
  · by_cases hc : c = b
    · subst hc
      rw [Mp.set_same] at e; cases e
      rw [hg] at g; cases g
      refine ⟨h.base, ?_⟩
      rw [heap_alloc_at]
      exact ho.mono hle
    · rw [Mp.set_ne hc] at e
      obtain ⟨h1, h2⟩ := h.obj c r q y e g
      refine ⟨h1, ?_⟩
      rw [heap_alloc_old _ _ (h.lt c r q e)]
      exact h2.mono hle
  · by_cases h1 : b1 = b
    · subst h1
      rw [Mp.set_same] at e1; cases e1
      rw [Mp.set_ne (Ne.symm hne)] at e2
      have := h.lt b2 _ _ e2
      omega
    · rw [Mp.set_ne h1] at e1
      by_cases h2 : b2 = b
      · subst h2
        rw [Mp.set_same] at e2; cases e2
        have := h.lt b1 _ _ e1
        omega
      · rw [Mp.set_ne h2] at e2
        exact h.inj b1 b2 r s1 s2 e1 e2 hne
  · exact h.below.alloc h.base o
  · simp; have := h.base; omega
theorem Sim.repl {w' : World} (h : Sim B w0 R σ w) {b r s : Nat} (hb : R b = some (r, s)) (hg : σ.get b ≠ none) {x : AObj} (hx : objR R x w'.heap[r]? s) (ho : ∀ k, k ≠ r → w'.heap[k]? = w.heap[k]?) (hsz : w'.heap.size = w.heap.size)
    (h1 : w'.os = w.os) (h2 : w'.tape = w.tape) (h3 : w'.output = w.output) : Sim B w0 R (σ.put b (some x)) w' := by
  have hB : B ≤ r := by
    cases hgb : σ.get b with
    | none => exact absurd hgb hg
    | some y => exact (h.obj b r s y hb hgb).1
  refine ⟨h.dom, fun c q t e => by rw [hsz]; exact h.lt c q t e, fun c q t y e g => ?_, fun b1 b2 r' s1 s2 e1 e2 hne => ?_, ?_, by rw [hsz]; exact h.base⟩
  · rw [ah_put_get] at g
    by_cases hc : c = b
    · subst hc
      rw [if_pos rfl] at g; cases g
      rw [hb] at e; cases e
      exact ⟨hB, hx⟩
    · rw [if_neg hc] at g
      obtain ⟨k1, k2⟩ := h.obj c q t y e g
      have hqr : q ≠ r := fun hq => by
        subst hq
        rcases h.inj c b q t s e hb hc with k | k
        · rw [g] at k; cases k
        · exact hg k
      exact ⟨k1, by rw [ho q hqr]; exact k2⟩
  · rw [ah_put_get, ah_put_get]
    by_cases h1 : b1 = b
    · subst h1
      right
      rw [if_neg (Ne.symm hne)]
      rcases h.inj b1 b2 r' s1 s2 e1 e2 hne with k | k
      · exact absurd k hg
      · exact k
    · rw [if_neg h1]
      by_cases h2 : b2 = b
      · subst h2
        left
        rcases h.inj b1 b2 r' s1 s2 e1 e2 hne with k | k
        · exact k
        · exact absurd k hg
      · rw [if_neg h2]; exact h.inj b1 b2 r' s1 s2 e1 e2 hne
  · exact ⟨h1.trans h.below.os, h2.trans h.below.tape, h3.trans h.below.output, by rw [hsz]; exact h.below.size, fun k hk => by rw [ho k (by omega)]; exact h.below.block k hk⟩
theorem Sim.kill (h : Sim B w0 R σ w) (b : Nat) : Sim B w0 R (σ.put b none) w :=
  ⟨h.dom, h.lt, fun c r s o e g => by
      rw [ah_put_get] at g
      by_cases hc : c = b
      · rw [if_pos hc] at g; cases g
      · rw [if_neg hc] at g; exact h.obj c r s o e g,
    fun b1 b2 r s1 s2 e1 e2 hne => by
      rw [ah_put_get, ah_put_get]
      by_cases h1 : b1 = b
      · left; rw [if_pos h1]
      · by_cases h2 : b2 = b
        · right; rw [if_pos h2]
        · rw [if_neg h1, if_neg h2]; exact h.inj b1 b2 r s1 s2 e1 e2 hne, h.below, h.base⟩
theorem Ext.put (R : Mp) (σ : AH) {b : Nat} {x : Nat × Nat} (hb : R b = some x) (y : Option AObj) : Ext R σ R (σ.put b y) :=
  ⟨R.le_refl, Nat.le_refl _, fun c _ hr => ⟨by rw [ah_put_get, if_neg (fun e => by subst e; rw [hb] at hr; cases hr)], hr⟩⟩
theorem Ext.new (h : Sim B w0 R σ w) (x : AObj) (y : Nat × Nat) : Ext R σ (R.set σ.next y) (σ.new x) :=
  ⟨Mp.set_le (h.none_next (Nat.le_refl _)), Nat.le_succ _, fun c hc hr => ⟨by rw [ah_new_get, if_neg (by omega)], by rw [Mp.set_ne (by omega)]; exact hr⟩⟩
theorem Sim.new (h : Sim B w0 R σ w) {x : AObj} {o : Obj} {s : Nat} (ho : objR R x (some o) s) : Sim B w0 (R.set σ.next (w.heap.size, s)) (σ.new x) (w.alloc o) :=
  (h.ghost x).real (Nat.lt_succ_self _) (h.none_next (Nat.le_refl _)) (by rw [ah_new_get, if_pos rfl]) ho
end
theorem objR_ofL {R : Mp} {l l' : List Value} (h : LR R l l') (e : TypeId) : objR R (.cells (Row.nil.app l) e true) (some (.cells ⟨l'⟩ e (0, 0))) l'.length := by
  refine ⟨⟨l'⟩, rfl, rfl, ?_, fun _ => ?_, fun i v hv => ?_⟩
  · rw [(row_app_n l Row.nil).1, ← h.1]; simp [Row.nil]
  · rw [(row_app_n l Row.nil).1, ← h.1]; simp [Row.nil]
  · rw [row_app_get l Row.nil rfl] at hv
    split at hv
    · have hv : l[i]? = some v := by simpa [Row.nil] using hv
      obtain ⟨y, hy, hr⟩ := h.get hv
      refine ⟨?_, y, by simpa using hy, hr⟩
      rw [(row_app_n l Row.nil).1]; have := (List.getElem?_eq_some_iff.1 hv).1; simp [Row.nil]; omega
    · simp [Row.nil, row_get, Tr.get_nil] at hv
theorem blockL_eq {l : List Value} {e : TypeId} {k f : Nat → Value} {x : AObj} (h : blockL l e k = some (x, f)) : x = .cells (Row.nil.app l) e true ∧ f = k := by
  unfold blockL at h
  rw [row_ext] at h
  cases h
  exact ⟨rfl, rfl⟩
theorem rept_eq (l : List Value) : ∀ n, (rept l n).length = n * l.length ∧ ∀ j, j < n * l.length → (rept l n)[j]? = l[j % l.length]?
  | 0 => ⟨by simp [rept], fun j hj => by simp at hj⟩
  | n + 1 => by
    obtain ⟨h1, h2⟩ := rept_eq l n
    refine ⟨by simp [rept, h1, Nat.add_mul]; omega, fun j hj => ?_⟩
    simp only [rept]
    by_cases hjl : j < l.length
    · rw [List.getElem?_append_left hjl, Nat.mod_eq_of_lt hjl]
    · rw [List.getElem?_append_right (by omega), h2 _ (by rw [Nat.add_mul] at hj; omega)]
      congr 1
      rw [Nat.mod_eq_sub_mod (by omega : l.length ≤ j)]
theorem rept_flat {R : Mp} {z : Value} (hz : Rk.flat z = true) (n : Nat) : LR R (rept (cellsL z) n) (rept (cellsL z) n) := by
  induction n with
  | zero => exact LR.nil R
  | succ n ih => exact LR.append (vr_cells (vr_flat R hz)) ih
theorem zero_cells_eq {z : Value} {s n : Nat} (hs : (cellsL z).length = s + 1) : ((Array.range (n * (s + 1))).map (z.cells[· % z.cells.size]!)).toList = rept (cellsL z) n := by
  have hsz : z.cells.size = s + 1 := by rw [← hs, cellsL_eq]; simp
  apply List.ext_getElem?
  intro j
  obtain ⟨h1, h2⟩ := rept_eq (cellsL z) n
  by_cases hj : j < n * (s + 1)
  · rw [h2 j (by rw [hs]; exact hj), hs]
    have hm : j % (s + 1) < s + 1 := Nat.mod_lt _ (by omega)
    simp [hj, hsz, cellsL_eq, hm]
  · rw [List.getElem?_eq_none (by simp; omega), List.getElem?_eq_none (by rw [h1, hs]; omega)]
section
variable {E : Env} (hE : EnvOk E) {R : Mp} {t : Tm} {a : Act} (ht : TR R t a.tmps)
include hE ht
theorem fresh_sound (o : Oper) {x : AObj} {f : Nat → Value} (h : evFresh E t o.op = some (x, f)) :
    ∃ (ob : Obj) (s : Nat) (g : Nat → Value), objR R x (some ob) s ∧ (∀ w, (execOp a.eval o).run E.P w = .ok (.value (g w.heap.size)) (w.alloc ob)) ∧ ∀ (R' : Mp) (b r : Nat), R' b = some (r, s) → VR R' (f b) (g r) := by
  obtain ⟨dst, op, tp, pos, af, gd⟩ := o
  cases op with
  | alloc e =>
    simp only [evFresh] at h
    split at h
    · rename_i i hi
      obtain ⟨ii, d, hT⟩ := hE.is hi
      split at h
      · rename_i z hz
        obtain ⟨hz1, hz2⟩ := hT.zero hz
        obtain ⟨rfl, rfl⟩ := blockL_eq h
        have hl : LR R (cellsL z) (cellsL z) := vr_cells (vr_flat R hz2)
        refine ⟨_, _, fun r => .pointer (some ⟨r, 0, none⟩), objR_ofL hl e, fun w => runV ?_, fun R' b r hb => .ptr b 0 r _ hb⟩
        simp [Instr.alloc, run_zero w hT.info hz1, Result.andThen, newVar, newRow, cellsL_eq]
      · cases h
    · cases h
  | box e y =>
    simp only [evFresh] at h
    split at h
    · rename_i v hv
      split at h
      · obtain ⟨rfl, rfl⟩ := blockL_eq h
        have hv := ev_sound ht hv
        refine ⟨_, _, fun r => .pointer (some ⟨r, 0, none⟩), objR_ofL (vr_cells hv) e, fun w => runV ?_, fun R' b r hb => .ptr b 0 r _ hb⟩
        simp [Instr.box, Result.andThen, newVar, newRow, cellsL_eq]
      · cases h
    · cases h
  | buildSlice ty n ps =>
    simp only [evFresh] at h
    split at h
    · rename_i i vs hi hvs
      obtain ⟨ii, d, hT⟩ := hE.is hi
      split at h
      · rename_i e hds
        have := hT.sl hds
        subst this
        split at h
        · rename_i ie hie
          obtain ⟨ei, ed, hTe⟩ := hE.is hie
          split at h
          · rename_i s z hs hz
            obtain ⟨hz1, hz2⟩ := hTe.zero hz
            split at h
            · rename_i c1 c2
              rw [bleN] at c1
              rw [beqN, lenL_eq] at c2
              have c1 := of_decide_eq_true c1
              have c2 := of_decide_eq_true c2
              have c1 : n * (s + 1) ≤ 100000 := c1
              split at h
              · rename_i l hf
                obtain ⟨rfl, rfl⟩ := blockL_eq h
                obtain ⟨hl, hp⟩ := evP_sound ht hvs
                obtain ⟨l', hr, hfill⟩ := fill_sound (R := R) _ _ _ _ _ _ hl hp (rept_flat hz2 n) hf
                have hps : (ps.map fun (i, x) => (i, a.eval x)).toList = ps.toList.map fun p => (p.1, a.eval p.2) := by simp
                have hsz : ei.size = s + 1 := by rw [hTe.size, hs]
                have hll : l'.length = n * (s + 1) := by
                  rw [← hr.1]
                  have : ∀ (ps : List (Nat × Value)) (c r : List Value), fillL (fun i => some (Nat.mul i (s + 1), s + 1)) ps c = some r → r.length = c.length := by
                    intro ps
                    induction ps with
                    | nil => intro c r h; simp [fillL] at h; rw [h]
                    | cons p ps ih =>
                      intro c r h
                      simp only [fillL] at h
                      split at h
                      · cases h
                      · split at h
                        · cases h
                        · rename_i c2 hov
                          rw [ih _ _ h]
                          obtain ⟨q1, rfl⟩ := overAt_eq _ _ _ _ hov
                          have em : Nat.mul p.1 (s + 1) = p.1 * (s + 1) := rfl
                          simp only [em] at q1 ⊢
                          simp; omega
                  rw [this _ _ _ hf, (rept_eq (cellsL z) n).1, c2]
                by_cases hn : n * (s + 1) = 0
                · have hn0 : n = 0 := by
                    rcases Nat.mul_eq_zero.1 hn with h | h
                    · exact h
                    · omega
                  subst hn0
                  have hl0 : l' = [] := by simpa using hll
                  subst hl0
                  refine ⟨.cells #[] e (0, 0), 0, fun r => .slice (some ⟨r, 0, none⟩) 0 0, objR_ofL hr e, fun w => runV ?_, fun R' b r hb => .slU b 0 r _ 0 (s + 1) 0 hb (by omega) (by simp) (by omega)⟩
                  have hf0 : Instr.fill (fun i => some (i * ei.size, ei.size)) #[] (ps.map fun (i, x) => (i, a.eval x)).toList = some #[] := by rw [hps, hsz]; exact hfill
                  simp [Instr.buildSlice, run_und w hT.und, Result.andThen, run_size w hTe.info, newRow, Array.range_zero']
                  simp only [Array.toList_map] at hf0
                  simp [hf0]
                · refine ⟨.cells ⟨l'⟩ e (0, 0), l'.length, fun r => .slice (some ⟨r, 0, none⟩) n n, objR_ofL hr e, fun w => runV ?_, fun R' b r hb => .slU b 0 r _ n (s + 1) n hb (by omega) (by rw [hll]; rfl) (Nat.le_refl _)⟩
                  refine run_buildSlice w ty e n _ ⟨l'⟩ ei z hT.und hTe.info hz1 (by rw [hsz]; omega) (by rw [hsz]; exact hn) ?_
                  rw [hps, hsz]
                  have hz3 : (Array.range (n * (s + 1))).map (z.cells[· % z.cells.size]!) = ⟨rept (cellsL z) n⟩ := by apply Array.ext'; exact zero_cells_eq c2
                  rw [hz3]
                  exact hfill
              · cases h
            · cases h
          · cases h
        · cases h
      · cases h
    · cases h
  | makeSlice ty l c =>
    simp only [evFresh] at h
    split at h
    · rename_i i kl l0 kc c0 hi hl hc
      obtain ⟨ii, d, hT⟩ := hE.is hi
      split at h
      · rename_i e hds
        have := hT.sl hds
        subst this
        split at h
        · rename_i ie hie
          obtain ⟨ei, ed, hTe⟩ := hE.is hie
          split at h
          · rename_i s z hs hz
            obtain ⟨hz1, hz2⟩ := hTe.zero hz
            split at h
            · rename_i c1 c2 c3 c4
              rw [bleN] at c1 c2 c3
              rw [beqN, lenL_eq] at c4
              have c1 := of_decide_eq_true c1
              have c2 := of_decide_eq_true c2
              have c3 := of_decide_eq_true c3
              have c4 := of_decide_eq_true c4
              have hsz : ei.size = s + 1 := by rw [hTe.size, hs]
              have hby : ei.bytes = ie.bytes := by rw [hTe.eq]
              have el := vr_int (ev_sound ht hl)
              have ec := vr_int (ev_sound ht hc)
              have hz3 : madeCells z.cells (c0 * (s + 1)) = ⟨rept (cellsL z) c0⟩ := by apply Array.ext'; exact zero_cells_eq c4
              have hbig : (ei.bytes : Int) * (c0 : Int) ≤ 281474976710656 := by
                have : ei.bytes * c0 ≤ 65536 * 65536 := Nat.mul_le_mul (by omega) c2
                have : ((ei.bytes * c0 : Nat) : Int) ≤ 281474976710656 := by omega
                rwa [Int.natCast_mul] at this
              have hrun : ∀ w, (Instr.makeSlice ty (.int kl (.ofNat l0)) (.int kc (.ofNat c0))).run E.P w = .ok (.slice (some ⟨w.heap.size, 0, none⟩) l0 c0) (w.alloc (.cells ⟨rept (cellsL z) c0⟩ e)) := fun w => by
                have := run_make (P := E.P) w ty e ei z hT.und hTe.info hz1 kl kc l0 c0 (by omega) (by omega) hbig (by omega)
                simp only [Int.toNat_natCast] at this
                rw [hsz, hz3] at this
                exact this
              have hlen : (rept (cellsL z) c0).length = c0 * (s + 1) := by rw [(rept_eq (cellsL z) c0).1, c4]
              have hfin : ∀ (R' : Mp) (b r : Nat), R' b = some (r, c0 * (s + 1)) → VR R' (.slice (some ⟨b, 0, none⟩) l0 (s + 1)) (.slice (some ⟨r, 0, none⟩) l0 c0) := fun R' b r hb => .slU b 0 r _ l0 (s + 1) c0 hb (by omega) (by omega) c1
              have hex : ∀ w, (execOp a.eval ⟨dst, .makeSlice ty l c, tp, pos, af, gd⟩).run E.P w = .ok (.value (.slice (some ⟨w.heap.size, 0, none⟩) l0 c0)) (w.alloc (.cells ⟨rept (cellsL z) c0⟩ e (0, 0))) := fun w => runV (by rw [el, ec]; exact hrun w)
              split at h
              · rename_i dv hdv
                cases h
                refine ⟨_, _, fun r => .slice (some ⟨r, 0, none⟩) l0 c0, ⟨_, rfl, hlen, ?_, fun _ => ?_, fun i v hv => ?_⟩, hex, hfin⟩
                · have : s = 0 := by rw [hdv] at c4; simpa using c4.symm
                  subst this; simp
                · have : s = 0 := by rw [hdv] at c4; simpa using c4.symm
                  subst this; simp
                · have : s = 0 := by rw [hdv] at c4; simpa using c4.symm
                  subst this
                  simp [row_get, Tr.get_nil] at hv
                  obtain ⟨hv1, hv2⟩ := hv
                  subst hv2
                  have hlr := rept_flat (R := R) hz2 c0
                  have hj := (rept_eq (cellsL z) c0).2 i (by rw [c4]; omega)
                  rw [hdv] at hj
                  have hj' : (rept (cellsL z) c0)[i]? = some dv := by rw [hdv]; simpa [Nat.mod_one] using hj
                  exact ⟨hv1, dv, by simpa using hj', hlr.2 i dv dv hj' hj'⟩
              · obtain ⟨rfl, rfl⟩ := blockL_eq h
                refine ⟨_, _, fun r => .slice (some ⟨r, 0, none⟩) l0 c0, ?_, hex, hfin⟩
                have := objR_ofL (rept_flat (R := R) hz2 c0) e
                rw [hlen] at this
                exact this
            · cases h
          · cases h
        · cases h
      · cases h
    · cases h
  | makeMap ty r =>
    simp only [evFresh] at h
    split at h
    · cases h
      refine ⟨.map #[] 0, 0, fun r => .map (some r), ⟨#[], 0, rfl, rfl, fun i p e hp => by simp at hp⟩, fun w => runV ?_, fun R' b r hb => .map b r 0 hb⟩
      simp [Instr.makeMap, Result.andThen]
    · cases h
  | _ => simp [evFresh] at h
end
end Rk
end Go.Proofs.YtkdcfijebgeajaaGreat
