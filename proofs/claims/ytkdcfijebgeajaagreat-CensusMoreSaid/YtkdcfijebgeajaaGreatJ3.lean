/- Layer 36: what one census has more than another one; how many slots a census has; of no store there is none.
   Layer 36: how many slots a census has; of no store there is none. -/
import Derived.Test.YtkdcfijebgeajaaGreatJ2
namespace Go.Proofs.YtkdcfijebgeajaaGreat
open Go.RowKit Go.BigFrame
set_option linter.unusedVariables false
set_option linter.unusedSimpArgs false
/-- A function whose result is a census in memory. -/
theorem results_cen {fn : Func} {s : Nat} (hf : fn.results = #[.cell s 80]) {tmps : Array Value} {b : Nat} (ht : tmps.getD s undef = .pointer (some ⟨b, 0, none⟩)) {w : World} {f : Nat → Int}
    (h : w.heap[b]? = some (.cells (cenC f) 80 (0, 0))) : (results fn tmps).run Tryz.prog w = .ok (.agg (cenC f)) w := by
  have z := fun k hk => cell_row h k _ (cenC_get f k hk)
  have z0 := z 0 (by omega)
  have z1 := z 1 (by omega)
  have z2 := z 2 (by omega)
  have z3 := z 3 (by omega)
  have z4 := z 4 (by omega)
  have z5 := z 5 (by omega)
  have z6 := z 6 (by omega)
  have z7 := z 7 (by omega)
  have z8 := z 8 (by omega)
  have z9 := z 9 (by omega)
  have z10 := z 10 (by omega)
  have z11 := z 11 (by omega)
  have z12 := z 12 (by omega)
  have ht' : tmps[s]?.getD undef = .pointer (some ⟨b, 0, none⟩) := by simpa using ht
  simp only [results, hf]
  simp [go_sem, ht', z0, z1, z2, z3, z4, z5, z6, z7, z8, z9, z10, z11, z12, cenC]
def AggOn (v : Value) (w : World) (e : Ending) (w' : World) : Prop := e = .returned v ∧ Below w.heap.size w w'
def set13 (w : World) (b : Nat) (f : Nat → Int) : World :=
  ((((((((((((w.setCell ⟨b, 0, none⟩ (.int .i64 (f 0))).setCell ⟨b, 1, none⟩ (.int .i64 (f 1))).setCell ⟨b, 2, none⟩ (.int .i64 (f 2))).setCell ⟨b, 3, none⟩ (.int .i64 (f 3))).setCell ⟨b, 4, none⟩ (.int .i64 (f 4))).setCell ⟨b, 5, none⟩ (.int .i64 (f 5))).setCell ⟨b, 6, none⟩ (.int .i64 (f 6))).setCell ⟨b, 7, none⟩ (.int .i64 (f 7))).setCell ⟨b, 8, none⟩ (.int .i64 (f 8))).setCell ⟨b, 9, none⟩ (.int .i64 (f 9))).setCell ⟨b, 10, none⟩ (.int .i64 (f 10))).setCell ⟨b, 11, none⟩ (.int .i64 (f 11))).setCell ⟨b, 12, none⟩ (.int .i64 (f 12))
theorem set13_row {w : World} {b : Nat} {c0 c1 c2 c3 c4 c5 c6 c7 c8 c9 c10 c11 c12 : Value} {t : TypeId} (f : Nat → Int) (h : w.heap[b]? = some (.cells #[c0, c1, c2, c3, c4, c5, c6, c7, c8, c9, c10, c11, c12] t (0, 0))) : (set13 w b f).heap[b]? = some (.cells (cenC f) t (0, 0)) := by
  have h0 : (w.setCell ⟨b, 0, none⟩ (.int .i64 (f 0))).heap[b]? = some (.cells #[.int .i64 (f 0), c1, c2, c3, c4, c5, c6, c7, c8, c9, c10, c11, c12] t (0, 0)) := heap_set _ h
  have h1 : ((w.setCell ⟨b, 0, none⟩ (.int .i64 (f 0))).setCell ⟨b, 1, none⟩ (.int .i64 (f 1))).heap[b]? = some (.cells #[.int .i64 (f 0), .int .i64 (f 1), c2, c3, c4, c5, c6, c7, c8, c9, c10, c11, c12] t (0, 0)) := heap_set _ h0
  have h2 : (((w.setCell ⟨b, 0, none⟩ (.int .i64 (f 0))).setCell ⟨b, 1, none⟩ (.int .i64 (f 1))).setCell ⟨b, 2, none⟩ (.int .i64 (f 2))).heap[b]? = some (.cells #[.int .i64 (f 0), .int .i64 (f 1), .int .i64 (f 2), c3, c4, c5, c6, c7, c8, c9, c10, c11, c12] t (0, 0)) := heap_set _ h1
  have h3 : ((((w.setCell ⟨b, 0, none⟩ (.int .i64 (f 0))).setCell ⟨b, 1, none⟩ (.int .i64 (f 1))).setCell ⟨b, 2, none⟩ (.int .i64 (f 2))).setCell ⟨b, 3, none⟩ (.int .i64 (f 3))).heap[b]? = some (.cells #[.int .i64 (f 0), .int .i64 (f 1), .int .i64 (f 2), .int .i64 (f 3), c4, c5, c6, c7, c8, c9, c10, c11, c12] t (0, 0)) := heap_set _ h2
  have h4 : (((((w.setCell ⟨b, 0, none⟩ (.int .i64 (f 0))).setCell ⟨b, 1, none⟩ (.int .i64 (f 1))).setCell ⟨b, 2, none⟩ (.int .i64 (f 2))).setCell ⟨b, 3, none⟩ (.int .i64 (f 3))).setCell ⟨b, 4, none⟩ (.int .i64 (f 4))).heap[b]? = some (.cells #[.int .i64 (f 0), .int .i64 (f 1), .int .i64 (f 2), .int .i64 (f 3), .int .i64 (f 4), c5, c6, c7, c8, c9, c10, c11, c12] t (0, 0)) := heap_set _ h3
  have h5 : ((((((w.setCell ⟨b, 0, none⟩ (.int .i64 (f 0))).setCell ⟨b, 1, none⟩ (.int .i64 (f 1))).setCell ⟨b, 2, none⟩ (.int .i64 (f 2))).setCell ⟨b, 3, none⟩ (.int .i64 (f 3))).setCell ⟨b, 4, none⟩ (.int .i64 (f 4))).setCell ⟨b, 5, none⟩ (.int .i64 (f 5))).heap[b]? = some (.cells #[.int .i64 (f 0), .int .i64 (f 1), .int .i64 (f 2), .int .i64 (f 3), .int .i64 (f 4), .int .i64 (f 5), c6, c7, c8, c9, c10, c11, c12] t (0, 0)) := heap_set _ h4
  have h6 : (((((((w.setCell ⟨b, 0, none⟩ (.int .i64 (f 0))).setCell ⟨b, 1, none⟩ (.int .i64 (f 1))).setCell ⟨b, 2, none⟩ (.int .i64 (f 2))).setCell ⟨b, 3, none⟩ (.int .i64 (f 3))).setCell ⟨b, 4, none⟩ (.int .i64 (f 4))).setCell ⟨b, 5, none⟩ (.int .i64 (f 5))).setCell ⟨b, 6, none⟩ (.int .i64 (f 6))).heap[b]? = some (.cells #[.int .i64 (f 0), .int .i64 (f 1), .int .i64 (f 2), .int .i64 (f 3), .int .i64 (f 4), .int .i64 (f 5), .int .i64 (f 6), c7, c8, c9, c10, c11, c12] t (0, 0)) := heap_set _ h5
  have h7 : ((((((((w.setCell ⟨b, 0, none⟩ (.int .i64 (f 0))).setCell ⟨b, 1, none⟩ (.int .i64 (f 1))).setCell ⟨b, 2, none⟩ (.int .i64 (f 2))).setCell ⟨b, 3, none⟩ (.int .i64 (f 3))).setCell ⟨b, 4, none⟩ (.int .i64 (f 4))).setCell ⟨b, 5, none⟩ (.int .i64 (f 5))).setCell ⟨b, 6, none⟩ (.int .i64 (f 6))).setCell ⟨b, 7, none⟩ (.int .i64 (f 7))).heap[b]? = some (.cells #[.int .i64 (f 0), .int .i64 (f 1), .int .i64 (f 2), .int .i64 (f 3), .int .i64 (f 4), .int .i64 (f 5), .int .i64 (f 6), .int .i64 (f 7), c8, c9, c10, c11, c12] t (0, 0)) := heap_set _ h6
  have h8 : (((((((((w.setCell ⟨b, 0, none⟩ (.int .i64 (f 0))).setCell ⟨b, 1, none⟩ (.int .i64 (f 1))).setCell ⟨b, 2, none⟩ (.int .i64 (f 2))).setCell ⟨b, 3, none⟩ (.int .i64 (f 3))).setCell ⟨b, 4, none⟩ (.int .i64 (f 4))).setCell ⟨b, 5, none⟩ (.int .i64 (f 5))).setCell ⟨b, 6, none⟩ (.int .i64 (f 6))).setCell ⟨b, 7, none⟩ (.int .i64 (f 7))).setCell ⟨b, 8, none⟩ (.int .i64 (f 8))).heap[b]? = some (.cells #[.int .i64 (f 0), .int .i64 (f 1), .int .i64 (f 2), .int .i64 (f 3), .int .i64 (f 4), .int .i64 (f 5), .int .i64 (f 6), .int .i64 (f 7), .int .i64 (f 8), c9, c10, c11, c12] t (0, 0)) := heap_set _ h7
  have h9 : ((((((((((w.setCell ⟨b, 0, none⟩ (.int .i64 (f 0))).setCell ⟨b, 1, none⟩ (.int .i64 (f 1))).setCell ⟨b, 2, none⟩ (.int .i64 (f 2))).setCell ⟨b, 3, none⟩ (.int .i64 (f 3))).setCell ⟨b, 4, none⟩ (.int .i64 (f 4))).setCell ⟨b, 5, none⟩ (.int .i64 (f 5))).setCell ⟨b, 6, none⟩ (.int .i64 (f 6))).setCell ⟨b, 7, none⟩ (.int .i64 (f 7))).setCell ⟨b, 8, none⟩ (.int .i64 (f 8))).setCell ⟨b, 9, none⟩ (.int .i64 (f 9))).heap[b]? = some (.cells #[.int .i64 (f 0), .int .i64 (f 1), .int .i64 (f 2), .int .i64 (f 3), .int .i64 (f 4), .int .i64 (f 5), .int .i64 (f 6), .int .i64 (f 7), .int .i64 (f 8), .int .i64 (f 9), c10, c11, c12] t (0, 0)) := heap_set _ h8
  have h10 : (((((((((((w.setCell ⟨b, 0, none⟩ (.int .i64 (f 0))).setCell ⟨b, 1, none⟩ (.int .i64 (f 1))).setCell ⟨b, 2, none⟩ (.int .i64 (f 2))).setCell ⟨b, 3, none⟩ (.int .i64 (f 3))).setCell ⟨b, 4, none⟩ (.int .i64 (f 4))).setCell ⟨b, 5, none⟩ (.int .i64 (f 5))).setCell ⟨b, 6, none⟩ (.int .i64 (f 6))).setCell ⟨b, 7, none⟩ (.int .i64 (f 7))).setCell ⟨b, 8, none⟩ (.int .i64 (f 8))).setCell ⟨b, 9, none⟩ (.int .i64 (f 9))).setCell ⟨b, 10, none⟩ (.int .i64 (f 10))).heap[b]? = some (.cells #[.int .i64 (f 0), .int .i64 (f 1), .int .i64 (f 2), .int .i64 (f 3), .int .i64 (f 4), .int .i64 (f 5), .int .i64 (f 6), .int .i64 (f 7), .int .i64 (f 8), .int .i64 (f 9), .int .i64 (f 10), c11, c12] t (0, 0)) := heap_set _ h9
  have h11 : ((((((((((((w.setCell ⟨b, 0, none⟩ (.int .i64 (f 0))).setCell ⟨b, 1, none⟩ (.int .i64 (f 1))).setCell ⟨b, 2, none⟩ (.int .i64 (f 2))).setCell ⟨b, 3, none⟩ (.int .i64 (f 3))).setCell ⟨b, 4, none⟩ (.int .i64 (f 4))).setCell ⟨b, 5, none⟩ (.int .i64 (f 5))).setCell ⟨b, 6, none⟩ (.int .i64 (f 6))).setCell ⟨b, 7, none⟩ (.int .i64 (f 7))).setCell ⟨b, 8, none⟩ (.int .i64 (f 8))).setCell ⟨b, 9, none⟩ (.int .i64 (f 9))).setCell ⟨b, 10, none⟩ (.int .i64 (f 10))).setCell ⟨b, 11, none⟩ (.int .i64 (f 11))).heap[b]? = some (.cells #[.int .i64 (f 0), .int .i64 (f 1), .int .i64 (f 2), .int .i64 (f 3), .int .i64 (f 4), .int .i64 (f 5), .int .i64 (f 6), .int .i64 (f 7), .int .i64 (f 8), .int .i64 (f 9), .int .i64 (f 10), .int .i64 (f 11), c12] t (0, 0)) := heap_set _ h10
  have h12 : (((((((((((((w.setCell ⟨b, 0, none⟩ (.int .i64 (f 0))).setCell ⟨b, 1, none⟩ (.int .i64 (f 1))).setCell ⟨b, 2, none⟩ (.int .i64 (f 2))).setCell ⟨b, 3, none⟩ (.int .i64 (f 3))).setCell ⟨b, 4, none⟩ (.int .i64 (f 4))).setCell ⟨b, 5, none⟩ (.int .i64 (f 5))).setCell ⟨b, 6, none⟩ (.int .i64 (f 6))).setCell ⟨b, 7, none⟩ (.int .i64 (f 7))).setCell ⟨b, 8, none⟩ (.int .i64 (f 8))).setCell ⟨b, 9, none⟩ (.int .i64 (f 9))).setCell ⟨b, 10, none⟩ (.int .i64 (f 10))).setCell ⟨b, 11, none⟩ (.int .i64 (f 11))).setCell ⟨b, 12, none⟩ (.int .i64 (f 12))).heap[b]? = some (.cells #[.int .i64 (f 0), .int .i64 (f 1), .int .i64 (f 2), .int .i64 (f 3), .int .i64 (f 4), .int .i64 (f 5), .int .i64 (f 6), .int .i64 (f 7), .int .i64 (f 8), .int .i64 (f 9), .int .i64 (f 10), .int .i64 (f 11), .int .i64 (f 12)] t (0, 0)) := heap_set _ h11
  exact h12
theorem set13_but {b : Nat} {a w : World} (f : Nat → Int) (h : But b a w) : But b a (set13 w b f) := ((((((((((((h.set _ _).set _ _).set _ _).set _ _).set _ _).set _ _).set _ _).set _ _).set _ _).set _ _).set _ _).set _ _).set _ _
set_option maxRecDepth 100000 in
set_option maxHeartbeats 4000000 in
theorem more38 (f g : Nat → Int) (w : World) : Calls Tryz.prog 38 #[.agg (cenC f), .agg (cenC g)] w (AggOn (.agg (cenC (lessC f g 13))) w) := by
  have HL := Lib.hid fun (w : World) (x y : Nat) h h1 h2 => each90 x y f g w h h1 h2
  obtain ⟨h, hh⟩ : ∃ h, h = lessC f g 13 := ⟨_, rfl⟩
  rw [← hh] at HL ⊢
  clear hh
  go_enter Tryz.func38, Tryz.ntmps38
  go_upto_region 1 with fail
  have n1 : ((w.alloc (.cells (cenC f) 80)).alloc (.cells (cenC g) 80)).heap[w.heap.size + 1]? = some (.cells (cenC g) 80 (0, 0)) := by
    have := heap_alloc_new (w.alloc (.cells (cenC f) 80)) (.cells (cenC g) 80)
    simpa using this
  have n0 : ((w.alloc (.cells (cenC f) 80)).alloc (.cells (cenC g) 80)).heap[w.heap.size]? = some (.cells (cenC f) 80 (0, 0)) := (Below.heap_alloc _ _ _ (by simp)).trans (heap_alloc_new w _)
  have hsz : ((w.alloc (.cells (cenC f) 80)).alloc (.cells (cenC g) 80)).heap.size = w.heap.size + 2 := by simp
  have hb0 : Below w.heap.size w ((w.alloc (.cells (cenC f) 80)).alloc (.cells (cenC g) 80)) := ((Below.refl _ _).alloc (Nat.le_refl _) _).alloc (by simp) _
  have HB0 := Lib.hid hb0
  have N0 := Lib.hid n0
  have N1 := Lib.hid n1
  have HSZ := Lib.hid hsz
  clear n0 n1 hsz hb0
  generalize (w.alloc (.cells (cenC f) 80)).alloc (.cells (cenC g) 80) = w1 at *
  have N3 : Hid ((w1.alloc (.cells #[.int .i64 0, .int .i64 0, .int .i64 0, .int .i64 0, .int .i64 0, .int .i64 0, .int .i64 0, .int .i64 0, .int .i64 0, .int .i64 0, .int .i64 0, .int .i64 0, .int .i64 0] 80)).heap[w.heap.size + 1 + 1]? = some (.cells #[.int .i64 0, .int .i64 0, .int .i64 0, .int .i64 0, .int .i64 0, .int .i64 0, .int .i64 0, .int .i64 0, .int .i64 0, .int .i64 0, .int .i64 0, .int .i64 0, .int .i64 0] 80 (0, 0))) := Lib.hid (by rw [show w.heap.size + 1 + 1 = w1.heap.size by rw [HSZ.out]]; exact heap_alloc_new w1 _)
  go_wp2_with fail
  refine (HL.out _ _ _ (by omega) ((Below.heap_alloc _ _ _ (by rw [HSZ.out]; omega)).trans N0.out) ((Below.heap_alloc _ _ _ (by rw [HSZ.out]; omega)).trans N1.out)).mono ?_
  rintro e w2 ⟨⟨u, rfl⟩, hr, hbt⟩
  have z := fun k hk => cell_row hr k _ (cenC_get h k hk)
  have z0 := z 0 (by omega)
  have z1 := z 1 (by omega)
  have z2 := z 2 (by omega)
  have z3 := z 3 (by omega)
  have z4 := z 4 (by omega)
  have z5 := z 5 (by omega)
  have z6 := z 6 (by omega)
  have z7 := z 7 (by omega)
  have z8 := z 8 (by omega)
  have z9 := z 9 (by omega)
  have z10 := z 10 (by omega)
  have z11 := z 11 (by omega)
  have z12 := z 12 (by omega)
  have N4 := Lib.hid ((hbt.block (w.heap.size + 1 + 1) (by rw [World.size_alloc, HSZ.out]; omega) (by omega)).trans N3.out)
  have qf := free_row N4.out
  have y0 := cell_row N4.out 0 _ rfl
  have y1 := cell_row N4.out 1 _ rfl
  have y2 := cell_row N4.out 2 _ rfl
  have y3 := cell_row N4.out 3 _ rfl
  have y4 := cell_row N4.out 4 _ rfl
  have y5 := cell_row N4.out 5 _ rfl
  have y6 := cell_row N4.out 6 _ rfl
  have y7 := cell_row N4.out 7 _ rfl
  have y8 := cell_row N4.out 8 _ rfl
  have y9 := cell_row N4.out 9 _ rfl
  have y10 := cell_row N4.out 10 _ rfl
  have y11 := cell_row N4.out 11 _ rfl
  have y12 := cell_row N4.out 12 _ rfl
  have HB2 : Hid (Below w.heap.size w w2) := Lib.hid (hbt.below (HB0.out.alloc (by rw [HSZ.out]; omega) _) (by omega) (by rw [World.size_alloc, HSZ.out]; omega))
  clear hbt hr z
  go_wp2_with fail
  refine bodyPost_ret (v := .agg (cenC h)) ?_ rfl ?_
  · exact results_cen rfl rfl (set13_row h N4.out)
  · exact ⟨rfl, But.below HB2.out (set13_but (b := w.heap.size + 1 + 1) h (But.refl _ w2)) (by omega) (HB2.out.size)⟩
end Go.Proofs.YtkdcfijebgeajaaGreat

namespace Go.Proofs.YtkdcfijebgeajaaGreat
open Go.RowKit Go.BigFrame
set_option linter.unusedVariables false
set_option linter.unusedSimpArgs false
def slotsW (f : Nat → Int) : Nat → Int
  | 0 => 1
  | k + 1 => wrap64 (slotsW f k + f k)
def sevC (f : Nat → Int) : Array Value := #[.int .i64 (f 0), .int .i64 (f 1), .int .i64 (f 2), .int .i64 (f 3), .int .i64 (f 4), .int .i64 (f 5), .int .i64 (f 6)]
theorem sevC_get (f : Nat → Int) (k : Nat) (hk : k < 7) : (sevC f).toList[k]? = some (.int .i64 (f k)) := by
  match k, hk with
  | 0, _ | 1, _ | 2, _ | 3, _ | 4, _ | 5, _ | 6, _ => rfl
set_option maxRecDepth 100000 in
set_option maxHeartbeats 4000000 in
theorem slots40 (f : Nat → Int) (w : World) : Calls Tryz.prog 40 #[.agg (cenC f)] w (AggOn (.int .i64 (slotsW f 7)) w) := by
  obtain ⟨S, hS⟩ : ∃ S, S = slotsW f := ⟨_, rfl⟩
  have HS : Hid (S 0 = 1 ∧ ∀ k, S (k + 1) = wrap64 (S k + f k)) := Lib.hid (by rw [hS]; exact ⟨rfl, fun _ => rfl⟩)
  rw [← hS]
  clear hS
  go_enter Tryz.func40, Tryz.ntmps40
  go_upto_region 2 with fail
  have HR : Hid ((w.alloc (.cells (cenC f) 80)).heap[w.heap.size]? = some (.cells (cenC f) 80 (0, 0))) := Lib.hid (heap_alloc_new w _)
  have HB : Hid (Below w.heap.size w (w.alloc (.cells (cenC f) 80))) := Lib.hid ((Below.refl _ _).alloc (Nat.le_refl _) _)
  have HZ : Hid ((w.alloc (.cells (cenC f) 80)).heap.size = w.heap.size + 1) := Lib.hid (by simp)
  have z := fun k hk => cell_row HR.out k _ (cenC_get f k hk)
  have z0 := z 0 (by omega)
  have z1 := z 1 (by omega)
  have z2 := z 2 (by omega)
  have z3 := z 3 (by omega)
  have z4 := z 4 (by omega)
  have z5 := z 5 (by omega)
  have z6 := z 6 (by omega)
  clear z
  generalize w.alloc (.cells (cenC f) 80) = w1 at *
  have HN : Hid ((w1.alloc (.cells (sevC f) 3)).heap[w1.heap.size]? = some (.cells (sevC f) 3 (0, 0))) := Lib.hid (heap_alloc_new w1 _)
  have e1 := HS.out.1
  go_wp2_with fail
  go_loopw [3, 22] (fun v i wr => ∃ k : Nat, k ≤ 7 ∧ i = .int .i64 k ∧ v = .int .i64 (S k) ∧ Hid (wr = w1.alloc (.cells (sevC f) 3))) (fun _ i _ => 7 - (intOf i).toNat)
  case atStart => exact ⟨0, by omega, rfl, by rw [HS.out.1], Lib.hid rfl⟩
  case round =>
    obtain ⟨k, hk, rfl, rfl, HW⟩ := hrel
    by_cases hlt : k < 7
    · have d1 : decide ((k : Int) < (7 : Int)) = true := bool_yes (by omega)
      have p1 : wr.cell? ⟨w1.heap.size, k, none⟩ = some (.int .i64 (f k)) := by rw [HW.out]; exact cell_row HN.out k _ (sevC_get f k hlt)
      have i0 : (0 : Int) ≤ (k : Int) := by omega
      have i1 : (k : Int) < (7 : Int) := by omega
      have HSk := Lib.hid (HS.out.2 k)
      go_wp2_with fail
      go_roundw
      case rel => exact ⟨k + 1, by omega, by go_num, by rw [HSk.out], HW⟩
      case measure => simp [intOf]; omega
    · obtain rfl : k = 7 := by omega
      go_wp2_with fail
      go_ret
      exact ⟨rfl, by rw [HW.out]; exact HB.out.alloc (by have := HZ.out; omega) _⟩
theorem results_cen2 {fn : Func} {s t : Nat} (hf : fn.results = #[.cell s 80, .tmp t]) {tmps : Array Value} {b : Nat} {v : Value} (ht : tmps.getD s undef = .pointer (some ⟨b, 0, none⟩)) (hv : tmps.getD t undef = v) {w : World} {f : Nat → Int}
    (h : w.heap[b]? = some (.cells (cenC f) 80 (0, 0))) : (results fn tmps).run Tryz.prog w = .ok (.tuple #[.agg (cenC f), v]) w := by
  have z := fun k hk => cell_row h k _ (cenC_get f k hk)
  have z0 := z 0 (by omega)
  have z1 := z 1 (by omega)
  have z2 := z 2 (by omega)
  have z3 := z 3 (by omega)
  have z4 := z 4 (by omega)
  have z5 := z 5 (by omega)
  have z6 := z 6 (by omega)
  have z7 := z 7 (by omega)
  have z8 := z 8 (by omega)
  have z9 := z 9 (by omega)
  have z10 := z 10 (by omega)
  have z11 := z 11 (by omega)
  have z12 := z 12 (by omega)
  have ht' : tmps[s]?.getD undef = .pointer (some ⟨b, 0, none⟩) := by simpa using ht
  have hv' : tmps[t]?.getD undef = v := by simpa using hv
  simp only [results, hf]
  simp [go_sem, ht', hv', z0, z1, z2, z3, z4, z5, z6, z7, z8, z9, z10, z11, z12, cenC]
/-- The error of no store. -/
theorem of39_nil (w : World) : Calls Tryz.prog 39 #[.pointer none] w fun e w' => e = .returned (.tuple #[.agg (cenC fun _ => 0), .int .i64 1]) ∧ Below w.heap.size w w' := by
  go_enter Tryz.func39, Tryz.ntmps39
  go_wp2_with fail
  refine bodyPost_ret (v := .tuple #[.agg (cenC fun _ => 0), .int .i64 1]) ?_ rfl ⟨rfl, (Below.refl _ _).alloc (Nat.le_refl _) _⟩
  exact results_cen2 (fn := Tryz.f39) (s := 2) (t := 3) (b := w.heap.size) (v := .int .i64 1) (f := fun _ => 0) Tryz.results39 rfl rfl (heap_alloc_new w _)
end Go.Proofs.YtkdcfijebgeajaaGreat
