/- Layer 5 (super): two lines are read, whatever they are.
   Layer 5 (super), the document's: a config's words. -/
import Derived.Test.YtkdcfijebgeajaaGreatJw8
import Derived.Laws.OwnMore
namespace Go.Proofs.YtkdcfijebgeajaaGreat
open Go.RowKit Go.BigFrame
set_option linter.unusedVariables false
set_option linter.unusedSimpArgs false
set_option maxRecDepth 100000 in
set_option maxHeartbeats 4000000 in
theorem both_bb (i0 i1 i2 i3 i4 i5 i6 i7 j0 j1 j2 j3 j4 j5 j6 j7 c0 c1 c2 c3 d0 d1 d2 d3 : Int) 
    (HR : Hid (∀ w, Calls Tryz.prog 148 #[.agg #[.int .u64 i0, .int .u64 i1, .int .u64 i2, .int .u64 i3, .int .u64 i4, .int .u64 i5, .int .u64 i6, .int .u64 i7]] w (Gives (.tuple #[.agg #[.int .i64 c0, .int .i64 c1, .int .i64 c2, .int .i64 c3], .int .i64 8]) w))) (HR2 : Hid (∀ w, Calls Tryz.prog 148 #[.agg #[.int .u64 j0, .int .u64 j1, .int .u64 j2, .int .u64 j3, .int .u64 j4, .int .u64 j5, .int .u64 j6, .int .u64 j7]] w (Gives (.tuple #[.agg #[.int .i64 d0, .int .i64 d1, .int .i64 d2, .int .i64 d3], .int .i64 8]) w)))
    (w : World) : Calls Tryz.prog 78 #[.agg #[.int .u64 i0, .int .u64 i1, .int .u64 i2, .int .u64 i3, .int .u64 i4, .int .u64 i5, .int .u64 i6, .int .u64 i7], .agg #[.int .u64 j0, .int .u64 j1, .int .u64 j2, .int .u64 j3, .int .u64 j4, .int .u64 j5, .int .u64 j6, .int .u64 j7]] w (Gives (.tuple #[.agg #[.int .i64 0, .int .i64 0, .int .i64 0, .int .i64 0], .int .i64 0, .int .i64 8]) w) := by
  obtain ⟨W3, hW3⟩ : ∃ W3, W3 = ((w.alloc (.cells #[.int .u64 i0, .int .u64 i1, .int .u64 i2, .int .u64 i3, .int .u64 i4, .int .u64 i5, .int .u64 i6, .int .u64 i7] 142)).alloc (.cells #[.int .u64 j0, .int .u64 j1, .int .u64 j2, .int .u64 j3, .int .u64 j4, .int .u64 j5, .int .u64 j6, .int .u64 j7] 142)).alloc (.cells #[.int .i64 0, .int .i64 0, .int .i64 0, .int .i64 0] 23) := ⟨_, rfl⟩
  have g0 : W3.heap[w.heap.size]? = some (.cells #[.int .u64 i0, .int .u64 i1, .int .u64 i2, .int .u64 i3, .int .u64 i4, .int .u64 i5, .int .u64 i6, .int .u64 i7] 142 (0, 0)) := by rw [hW3]; exact (Below.heap_alloc _ _ _ (by simp; omega)).trans ((Below.heap_alloc _ _ _ (by simp)).trans (heap_alloc_new w _))
  have g1 : W3.heap[w.heap.size + 1]? = some (.cells #[.int .u64 j0, .int .u64 j1, .int .u64 j2, .int .u64 j3, .int .u64 j4, .int .u64 j5, .int .u64 j6, .int .u64 j7] 142 (0, 0)) := by rw [hW3]; exact (Below.heap_alloc _ _ _ (by simp)).trans (by have := heap_alloc_new (w.alloc (.cells #[.int .u64 i0, .int .u64 i1, .int .u64 i2, .int .u64 i3, .int .u64 i4, .int .u64 i5, .int .u64 i6, .int .u64 i7] 142)) (.cells #[.int .u64 j0, .int .u64 j1, .int .u64 j2, .int .u64 j3, .int .u64 j4, .int .u64 j5, .int .u64 j6, .int .u64 j7] 142); rwa [World.size_alloc] at this)
  have g2 : W3.heap[w.heap.size + 2]? = some (.cells #[.int .i64 0, .int .i64 0, .int .i64 0, .int .i64 0] 23 (0, 0)) := by rw [hW3]; have := heap_alloc_new ((w.alloc (.cells #[.int .u64 i0, .int .u64 i1, .int .u64 i2, .int .u64 i3, .int .u64 i4, .int .u64 i5, .int .u64 i6, .int .u64 i7] 142)).alloc (.cells #[.int .u64 j0, .int .u64 j1, .int .u64 j2, .int .u64 j3, .int .u64 j4, .int .u64 j5, .int .u64 j6, .int .u64 j7] 142)) (.cells #[.int .i64 0, .int .i64 0, .int .i64 0, .int .i64 0] 23); rwa [World.size_alloc, World.size_alloc] at this
  have hB : Below w.heap.size w W3 := by rw [hW3]; exact (((Below.refl _ _).alloc (Nat.le_refl _) _).alloc (by simp) _).alloc (by simp; omega) _
  have hs : W3.heap.size = w.heap.size + 3 := by rw [hW3]; simp
  have HW : Hid (∀ Q : World → Prop, Q W3 → Q (((w.alloc (.cells #[.int .u64 i0, .int .u64 i1, .int .u64 i2, .int .u64 i3, .int .u64 i4, .int .u64 i5, .int .u64 i6, .int .u64 i7] 142)).alloc (.cells #[.int .u64 j0, .int .u64 j1, .int .u64 j2, .int .u64 j3, .int .u64 j4, .int .u64 j5, .int .u64 j6, .int .u64 j7] 142)).alloc (.cells #[.int .i64 0, .int .i64 0, .int .i64 0, .int .i64 0] 23))) := Lib.hid fun Q h => by rw [hW3] at h; exact h
  have HG0 := Lib.hid g0
  have HG1 := Lib.hid g1
  have HG2 := Lib.hid g2
  have HB := Lib.hid hB
  have HS := Lib.hid hs
  clear hW3 g0 g1 g2 hB hs
  go_enter Tryz.func78, Tryz.ntmps78
  go_upto_region 1 with fail
  refine HW.out _ ?_
  clear HW
  have b0 := cell_row HG0.out 0 _ rfl
  have b1 := cell_row HG0.out 1 _ rfl
  have b2 := cell_row HG0.out 2 _ rfl
  have b3 := cell_row HG0.out 3 _ rfl
  have b4 := cell_row HG0.out 4 _ rfl
  have b5 := cell_row HG0.out 5 _ rfl
  have b6 := cell_row HG0.out 6 _ rfl
  have b7 := cell_row HG0.out 7 _ rfl
  go_wp2_with fail
  refine (HR.out _).mono ?_
  rintro e w4 ⟨rfl, hb⟩
  have g1 := (hb.block _ (by have := HS.out; omega)).trans HG1.out
  have g2 := (hb.block _ (by have := HS.out; omega)).trans HG2.out
  have HB4 : Hid (Below w.heap.size w w4) := Lib.hid (HB.out.trans (hb.mono (by have := HS.out; omega)))
  have HS4 : Hid (w.heap.size + 3 ≤ w4.heap.size) := Lib.hid (by have := hb.size; have := HS.out; omega)
  have n1 : w.heap.size + 1 ≠ w4.heap.size := by have := HS4.out; omega
  have l1 : w.heap.size + 1 < w4.heap.size := by have := HS4.out; omega
  have HG2' := Lib.hid g2
  have e0 := cell_row g1 0 _ rfl
  have e1 := cell_row g1 1 _ rfl
  have e2 := cell_row g1 2 _ rfl
  have e3 := cell_row g1 3 _ rfl
  have e4 := cell_row g1 4 _ rfl
  have e5 := cell_row g1 5 _ rfl
  have e6 := cell_row g1 6 _ rfl
  have e7 := cell_row g1 7 _ rfl
  clear hb g1 g2 HG0 HG1 HG2 HS HB b0 b1 b2 b3 b4 b5 b6 b7
  go_wp2_with fail
  have HA : Hid (∀ W5 : World, W5 = w4.alloc (.cells #[.int .i64 c0, .int .i64 c1, .int .i64 c2, .int .i64 c3] 23) → W5.heap[w4.heap.size]? = some (.cells #[.int .i64 c0, .int .i64 c1, .int .i64 c2, .int .i64 c3] 23 (0, 0)) ∧ W5.heap[w.heap.size + 2]? = some (.cells #[.int .i64 0, .int .i64 0, .int .i64 0, .int .i64 0] 23 (0, 0)) ∧ Below w.heap.size w W5 ∧ W5.heap.size = w4.heap.size + 1) := Lib.hid fun W5 e => by
    subst e
    exact ⟨heap_alloc_new _ _, (Below.heap_alloc _ _ _ (by have := HS4.out; omega)).trans HG2'.out, HB4.out.alloc (by have := HS4.out; omega) _, by simp⟩
  obtain ⟨W5, hW5⟩ : ∃ W5, W5 = w4.alloc (.cells #[.int .i64 c0, .int .i64 c1, .int .i64 c2, .int .i64 c3] 23) := ⟨_, rfl⟩
  rw [← hW5]
  obtain ⟨h1, h2, h3, h4⟩ := HA.out W5 hW5
  have HH1 := Lib.hid h1
  have HH2 := Lib.hid h2
  have HH3 := Lib.hid h3
  have HH4 := Lib.hid h4
  clear hW5 h1 h2 h3 h4 HA e0 e1 e2 e3 e4 e5 e6 e7 n1 l1
  refine (HR2.out _).mono ?_
  rintro e w6 ⟨rfl, hb⟩
  have g1 := (hb.block _ (by have := HH4.out; omega)).trans HH1.out
  have g2 := (hb.block _ (by have := HH4.out; have := HS4.out; omega)).trans HH2.out
  have HB6 : Hid (Below w.heap.size w w6) := Lib.hid (HH3.out.trans (hb.mono (by have := HH4.out; have := HS4.out; omega)))
  have HS6 : Hid (w4.heap.size + 1 ≤ w6.heap.size) := Lib.hid (by have := hb.size; have := HH4.out; omega)
  have n1 : w4.heap.size ≠ w6.heap.size := by have := HS6.out; omega
  have l1 : w4.heap.size < w6.heap.size := by have := HS6.out; omega
  have n2 : w.heap.size + 2 ≠ w6.heap.size := by have := HS6.out; have := HS4.out; omega
  have l2 : w.heap.size + 2 < w6.heap.size := by have := HS6.out; have := HS4.out; omega
  have n3 : w.heap.size + 2 ≠ w4.heap.size := by have := HS4.out; omega
  have rf : ∀ j, w6.frozen? ⟨w.heap.size + 2, j, none⟩ = false := fun j => by unfold World.frozen?; rw [g2]; simp
  have p0 := cell_row g1 0 _ rfl
  have p1 := cell_row g1 1 _ rfl
  have p2 := cell_row g1 2 _ rfl
  have p3 := cell_row g1 3 _ rfl
  have r0 := cell_row g2 0 _ rfl
  have r1 := cell_row g2 1 _ rfl
  have r2 := cell_row g2 2 _ rfl
  have r3 := cell_row g2 3 _ rfl
  clear hb g1 g2 HH1 HH2 HH3 HH4 HG2'
  go_wp2_with fail
  refine bodyPost_ret (v := .tuple #[.agg #[.int .i64 0, .int .i64 0, .int .i64 0, .int .i64 0], .int .i64 0, .int .i64 8]) ?_ rfl ⟨rfl, ?_⟩
  · simp [results, Tryz.results78, go_sem, r0, r1, r2, r3, n2, l2]
  · have X := ((((HB6.out).setCell (p := ⟨w.heap.size + 2, 0, none⟩) (Nat.le_add_right _ _) (.int .i64 0)).setCell (p := ⟨w.heap.size + 2, 1, none⟩) (Nat.le_add_right _ _) (.int .i64 0)).setCell (p := ⟨w.heap.size + 2, 2, none⟩) (Nat.le_add_right _ _) (.int .i64 0)).setCell (p := ⟨w.heap.size + 2, 3, none⟩) (Nat.le_add_right _ _) (.int .i64 0)
    exact X.alloc X.size _
set_option maxRecDepth 100000 in
set_option maxHeartbeats 4000000 in
theorem both_ab (i0 i1 i2 i3 i4 i5 i6 i7 j0 j1 j2 j3 j4 j5 j6 j7 c0 c1 c2 c3 d0 d1 d2 d3 : Int) 
    (HR : Hid (∀ w, Calls Tryz.prog 148 #[.agg #[.int .u64 i0, .int .u64 i1, .int .u64 i2, .int .u64 i3, .int .u64 i4, .int .u64 i5, .int .u64 i6, .int .u64 i7]] w (Gives (.tuple #[.agg #[.int .i64 c0, .int .i64 c1, .int .i64 c2, .int .i64 c3], .int .i64 0]) w))) (HR2 : Hid (∀ w, Calls Tryz.prog 148 #[.agg #[.int .u64 j0, .int .u64 j1, .int .u64 j2, .int .u64 j3, .int .u64 j4, .int .u64 j5, .int .u64 j6, .int .u64 j7]] w (Gives (.tuple #[.agg #[.int .i64 d0, .int .i64 d1, .int .i64 d2, .int .i64 d3], .int .i64 8]) w)))
    (w : World) : Calls Tryz.prog 78 #[.agg #[.int .u64 i0, .int .u64 i1, .int .u64 i2, .int .u64 i3, .int .u64 i4, .int .u64 i5, .int .u64 i6, .int .u64 i7], .agg #[.int .u64 j0, .int .u64 j1, .int .u64 j2, .int .u64 j3, .int .u64 j4, .int .u64 j5, .int .u64 j6, .int .u64 j7]] w (Gives (.tuple #[.agg #[.int .i64 c0, .int .i64 c1, .int .i64 c2, .int .i64 c3], .int .i64 0, .int .i64 0]) w) := by
  obtain ⟨W3, hW3⟩ : ∃ W3, W3 = ((w.alloc (.cells #[.int .u64 i0, .int .u64 i1, .int .u64 i2, .int .u64 i3, .int .u64 i4, .int .u64 i5, .int .u64 i6, .int .u64 i7] 142)).alloc (.cells #[.int .u64 j0, .int .u64 j1, .int .u64 j2, .int .u64 j3, .int .u64 j4, .int .u64 j5, .int .u64 j6, .int .u64 j7] 142)).alloc (.cells #[.int .i64 0, .int .i64 0, .int .i64 0, .int .i64 0] 23) := ⟨_, rfl⟩
  have g0 : W3.heap[w.heap.size]? = some (.cells #[.int .u64 i0, .int .u64 i1, .int .u64 i2, .int .u64 i3, .int .u64 i4, .int .u64 i5, .int .u64 i6, .int .u64 i7] 142 (0, 0)) := by rw [hW3]; exact (Below.heap_alloc _ _ _ (by simp; omega)).trans ((Below.heap_alloc _ _ _ (by simp)).trans (heap_alloc_new w _))
  have g1 : W3.heap[w.heap.size + 1]? = some (.cells #[.int .u64 j0, .int .u64 j1, .int .u64 j2, .int .u64 j3, .int .u64 j4, .int .u64 j5, .int .u64 j6, .int .u64 j7] 142 (0, 0)) := by rw [hW3]; exact (Below.heap_alloc _ _ _ (by simp)).trans (by have := heap_alloc_new (w.alloc (.cells #[.int .u64 i0, .int .u64 i1, .int .u64 i2, .int .u64 i3, .int .u64 i4, .int .u64 i5, .int .u64 i6, .int .u64 i7] 142)) (.cells #[.int .u64 j0, .int .u64 j1, .int .u64 j2, .int .u64 j3, .int .u64 j4, .int .u64 j5, .int .u64 j6, .int .u64 j7] 142); rwa [World.size_alloc] at this)
  have g2 : W3.heap[w.heap.size + 2]? = some (.cells #[.int .i64 0, .int .i64 0, .int .i64 0, .int .i64 0] 23 (0, 0)) := by rw [hW3]; have := heap_alloc_new ((w.alloc (.cells #[.int .u64 i0, .int .u64 i1, .int .u64 i2, .int .u64 i3, .int .u64 i4, .int .u64 i5, .int .u64 i6, .int .u64 i7] 142)).alloc (.cells #[.int .u64 j0, .int .u64 j1, .int .u64 j2, .int .u64 j3, .int .u64 j4, .int .u64 j5, .int .u64 j6, .int .u64 j7] 142)) (.cells #[.int .i64 0, .int .i64 0, .int .i64 0, .int .i64 0] 23); rwa [World.size_alloc, World.size_alloc] at this
  have hB : Below w.heap.size w W3 := by rw [hW3]; exact (((Below.refl _ _).alloc (Nat.le_refl _) _).alloc (by simp) _).alloc (by simp; omega) _
  have hs : W3.heap.size = w.heap.size + 3 := by rw [hW3]; simp
  have HW : Hid (∀ Q : World → Prop, Q W3 → Q (((w.alloc (.cells #[.int .u64 i0, .int .u64 i1, .int .u64 i2, .int .u64 i3, .int .u64 i4, .int .u64 i5, .int .u64 i6, .int .u64 i7] 142)).alloc (.cells #[.int .u64 j0, .int .u64 j1, .int .u64 j2, .int .u64 j3, .int .u64 j4, .int .u64 j5, .int .u64 j6, .int .u64 j7] 142)).alloc (.cells #[.int .i64 0, .int .i64 0, .int .i64 0, .int .i64 0] 23))) := Lib.hid fun Q h => by rw [hW3] at h; exact h
  have HG0 := Lib.hid g0
  have HG1 := Lib.hid g1
  have HG2 := Lib.hid g2
  have HB := Lib.hid hB
  have HS := Lib.hid hs
  clear hW3 g0 g1 g2 hB hs
  go_enter Tryz.func78, Tryz.ntmps78
  go_upto_region 1 with fail
  refine HW.out _ ?_
  clear HW
  have b0 := cell_row HG0.out 0 _ rfl
  have b1 := cell_row HG0.out 1 _ rfl
  have b2 := cell_row HG0.out 2 _ rfl
  have b3 := cell_row HG0.out 3 _ rfl
  have b4 := cell_row HG0.out 4 _ rfl
  have b5 := cell_row HG0.out 5 _ rfl
  have b6 := cell_row HG0.out 6 _ rfl
  have b7 := cell_row HG0.out 7 _ rfl
  go_wp2_with fail
  refine (HR.out _).mono ?_
  rintro e w4 ⟨rfl, hb⟩
  have g1 := (hb.block _ (by have := HS.out; omega)).trans HG1.out
  have g2 := (hb.block _ (by have := HS.out; omega)).trans HG2.out
  have HB4 : Hid (Below w.heap.size w w4) := Lib.hid (HB.out.trans (hb.mono (by have := HS.out; omega)))
  have HS4 : Hid (w.heap.size + 3 ≤ w4.heap.size) := Lib.hid (by have := hb.size; have := HS.out; omega)
  have n1 : w.heap.size + 1 ≠ w4.heap.size := by have := HS4.out; omega
  have l1 : w.heap.size + 1 < w4.heap.size := by have := HS4.out; omega
  have HG2' := Lib.hid g2
  have e0 := cell_row g1 0 _ rfl
  have e1 := cell_row g1 1 _ rfl
  have e2 := cell_row g1 2 _ rfl
  have e3 := cell_row g1 3 _ rfl
  have e4 := cell_row g1 4 _ rfl
  have e5 := cell_row g1 5 _ rfl
  have e6 := cell_row g1 6 _ rfl
  have e7 := cell_row g1 7 _ rfl
  clear hb g1 g2 HG0 HG1 HG2 HS HB b0 b1 b2 b3 b4 b5 b6 b7
  go_wp2_with fail
  have HA : Hid (∀ W5 : World, W5 = w4.alloc (.cells #[.int .i64 c0, .int .i64 c1, .int .i64 c2, .int .i64 c3] 23) → W5.heap[w4.heap.size]? = some (.cells #[.int .i64 c0, .int .i64 c1, .int .i64 c2, .int .i64 c3] 23 (0, 0)) ∧ W5.heap[w.heap.size + 2]? = some (.cells #[.int .i64 0, .int .i64 0, .int .i64 0, .int .i64 0] 23 (0, 0)) ∧ Below w.heap.size w W5 ∧ W5.heap.size = w4.heap.size + 1) := Lib.hid fun W5 e => by
    subst e
    exact ⟨heap_alloc_new _ _, (Below.heap_alloc _ _ _ (by have := HS4.out; omega)).trans HG2'.out, HB4.out.alloc (by have := HS4.out; omega) _, by simp⟩
  obtain ⟨W5, hW5⟩ : ∃ W5, W5 = w4.alloc (.cells #[.int .i64 c0, .int .i64 c1, .int .i64 c2, .int .i64 c3] 23) := ⟨_, rfl⟩
  rw [← hW5]
  obtain ⟨h1, h2, h3, h4⟩ := HA.out W5 hW5
  have HH1 := Lib.hid h1
  have HH2 := Lib.hid h2
  have HH3 := Lib.hid h3
  have HH4 := Lib.hid h4
  clear hW5 h1 h2 h3 h4 HA e0 e1 e2 e3 e4 e5 e6 e7 n1 l1
  refine (HR2.out _).mono ?_
  rintro e w6 ⟨rfl, hb⟩
  have g1 := (hb.block _ (by have := HH4.out; omega)).trans HH1.out
  have g2 := (hb.block _ (by have := HH4.out; have := HS4.out; omega)).trans HH2.out
  have HB6 : Hid (Below w.heap.size w w6) := Lib.hid (HH3.out.trans (hb.mono (by have := HH4.out; have := HS4.out; omega)))
  have HS6 : Hid (w4.heap.size + 1 ≤ w6.heap.size) := Lib.hid (by have := hb.size; have := HH4.out; omega)
  have n1 : w4.heap.size ≠ w6.heap.size := by have := HS6.out; omega
  have l1 : w4.heap.size < w6.heap.size := by have := HS6.out; omega
  have n2 : w.heap.size + 2 ≠ w6.heap.size := by have := HS6.out; have := HS4.out; omega
  have l2 : w.heap.size + 2 < w6.heap.size := by have := HS6.out; have := HS4.out; omega
  have n3 : w.heap.size + 2 ≠ w4.heap.size := by have := HS4.out; omega
  have rf : ∀ j, w6.frozen? ⟨w.heap.size + 2, j, none⟩ = false := fun j => by unfold World.frozen?; rw [g2]; simp
  have p0 := cell_row g1 0 _ rfl
  have p1 := cell_row g1 1 _ rfl
  have p2 := cell_row g1 2 _ rfl
  have p3 := cell_row g1 3 _ rfl
  have r0 := cell_row g2 0 _ rfl
  have r1 := cell_row g2 1 _ rfl
  have r2 := cell_row g2 2 _ rfl
  have r3 := cell_row g2 3 _ rfl
  clear hb g1 g2 HH1 HH2 HH3 HH4 HG2'
  go_wp2_with fail
  refine bodyPost_ret (v := .tuple #[.agg #[.int .i64 c0, .int .i64 c1, .int .i64 c2, .int .i64 c3], .int .i64 0, .int .i64 0]) ?_ rfl ⟨rfl, ?_⟩
  · simp [results, Tryz.results78, go_sem, r0, r1, r2, r3, n2, l2]
  · have X := ((((HB6.out).setCell (p := ⟨w.heap.size + 2, 0, none⟩) (Nat.le_add_right _ _) (.int .i64 c0)).setCell (p := ⟨w.heap.size + 2, 1, none⟩) (Nat.le_add_right _ _) (.int .i64 c1)).setCell (p := ⟨w.heap.size + 2, 2, none⟩) (Nat.le_add_right _ _) (.int .i64 c2)).setCell (p := ⟨w.heap.size + 2, 3, none⟩) (Nat.le_add_right _ _) (.int .i64 c3)
    exact X.alloc X.size _
set_option maxRecDepth 100000 in
set_option maxHeartbeats 4000000 in
theorem both_ba (i0 i1 i2 i3 i4 i5 i6 i7 j0 j1 j2 j3 j4 j5 j6 j7 c0 c1 c2 c3 d0 d1 d2 d3 : Int) 
    (HR : Hid (∀ w, Calls Tryz.prog 148 #[.agg #[.int .u64 i0, .int .u64 i1, .int .u64 i2, .int .u64 i3, .int .u64 i4, .int .u64 i5, .int .u64 i6, .int .u64 i7]] w (Gives (.tuple #[.agg #[.int .i64 c0, .int .i64 c1, .int .i64 c2, .int .i64 c3], .int .i64 8]) w))) (HR2 : Hid (∀ w, Calls Tryz.prog 148 #[.agg #[.int .u64 j0, .int .u64 j1, .int .u64 j2, .int .u64 j3, .int .u64 j4, .int .u64 j5, .int .u64 j6, .int .u64 j7]] w (Gives (.tuple #[.agg #[.int .i64 d0, .int .i64 d1, .int .i64 d2, .int .i64 d3], .int .i64 0]) w)))
    (w : World) : Calls Tryz.prog 78 #[.agg #[.int .u64 i0, .int .u64 i1, .int .u64 i2, .int .u64 i3, .int .u64 i4, .int .u64 i5, .int .u64 i6, .int .u64 i7], .agg #[.int .u64 j0, .int .u64 j1, .int .u64 j2, .int .u64 j3, .int .u64 j4, .int .u64 j5, .int .u64 j6, .int .u64 j7]] w (Gives (.tuple #[.agg #[.int .i64 d0, .int .i64 d1, .int .i64 d2, .int .i64 d3], .int .i64 1, .int .i64 0]) w) := by
  obtain ⟨W3, hW3⟩ : ∃ W3, W3 = ((w.alloc (.cells #[.int .u64 i0, .int .u64 i1, .int .u64 i2, .int .u64 i3, .int .u64 i4, .int .u64 i5, .int .u64 i6, .int .u64 i7] 142)).alloc (.cells #[.int .u64 j0, .int .u64 j1, .int .u64 j2, .int .u64 j3, .int .u64 j4, .int .u64 j5, .int .u64 j6, .int .u64 j7] 142)).alloc (.cells #[.int .i64 0, .int .i64 0, .int .i64 0, .int .i64 0] 23) := ⟨_, rfl⟩
  have g0 : W3.heap[w.heap.size]? = some (.cells #[.int .u64 i0, .int .u64 i1, .int .u64 i2, .int .u64 i3, .int .u64 i4, .int .u64 i5, .int .u64 i6, .int .u64 i7] 142 (0, 0)) := by rw [hW3]; exact (Below.heap_alloc _ _ _ (by simp; omega)).trans ((Below.heap_alloc _ _ _ (by simp)).trans (heap_alloc_new w _))
  have g1 : W3.heap[w.heap.size + 1]? = some (.cells #[.int .u64 j0, .int .u64 j1, .int .u64 j2, .int .u64 j3, .int .u64 j4, .int .u64 j5, .int .u64 j6, .int .u64 j7] 142 (0, 0)) := by rw [hW3]; exact (Below.heap_alloc _ _ _ (by simp)).trans (by have := heap_alloc_new (w.alloc (.cells #[.int .u64 i0, .int .u64 i1, .int .u64 i2, .int .u64 i3, .int .u64 i4, .int .u64 i5, .int .u64 i6, .int .u64 i7] 142)) (.cells #[.int .u64 j0, .int .u64 j1, .int .u64 j2, .int .u64 j3, .int .u64 j4, .int .u64 j5, .int .u64 j6, .int .u64 j7] 142); rwa [World.size_alloc] at this)
  have g2 : W3.heap[w.heap.size + 2]? = some (.cells #[.int .i64 0, .int .i64 0, .int .i64 0, .int .i64 0] 23 (0, 0)) := by rw [hW3]; have := heap_alloc_new ((w.alloc (.cells #[.int .u64 i0, .int .u64 i1, .int .u64 i2, .int .u64 i3, .int .u64 i4, .int .u64 i5, .int .u64 i6, .int .u64 i7] 142)).alloc (.cells #[.int .u64 j0, .int .u64 j1, .int .u64 j2, .int .u64 j3, .int .u64 j4, .int .u64 j5, .int .u64 j6, .int .u64 j7] 142)) (.cells #[.int .i64 0, .int .i64 0, .int .i64 0, .int .i64 0] 23); rwa [World.size_alloc, World.size_alloc] at this
  have hB : Below w.heap.size w W3 := by rw [hW3]; exact (((Below.refl _ _).alloc (Nat.le_refl _) _).alloc (by simp) _).alloc (by simp; omega) _
  have hs : W3.heap.size = w.heap.size + 3 := by rw [hW3]; simp
  have HW : Hid (∀ Q : World → Prop, Q W3 → Q (((w.alloc (.cells #[.int .u64 i0, .int .u64 i1, .int .u64 i2, .int .u64 i3, .int .u64 i4, .int .u64 i5, .int .u64 i6, .int .u64 i7] 142)).alloc (.cells #[.int .u64 j0, .int .u64 j1, .int .u64 j2, .int .u64 j3, .int .u64 j4, .int .u64 j5, .int .u64 j6, .int .u64 j7] 142)).alloc (.cells #[.int .i64 0, .int .i64 0, .int .i64 0, .int .i64 0] 23))) := Lib.hid fun Q h => by rw [hW3] at h; exact h
  have HG0 := Lib.hid g0
  have HG1 := Lib.hid g1
  have HG2 := Lib.hid g2
  have HB := Lib.hid hB
  have HS := Lib.hid hs
  clear hW3 g0 g1 g2 hB hs
  go_enter Tryz.func78, Tryz.ntmps78
  go_upto_region 1 with fail
  refine HW.out _ ?_
  clear HW
  have b0 := cell_row HG0.out 0 _ rfl
  have b1 := cell_row HG0.out 1 _ rfl
  have b2 := cell_row HG0.out 2 _ rfl
  have b3 := cell_row HG0.out 3 _ rfl
  have b4 := cell_row HG0.out 4 _ rfl
  have b5 := cell_row HG0.out 5 _ rfl
  have b6 := cell_row HG0.out 6 _ rfl
  have b7 := cell_row HG0.out 7 _ rfl
  go_wp2_with fail
  refine (HR.out _).mono ?_
  rintro e w4 ⟨rfl, hb⟩
  have g1 := (hb.block _ (by have := HS.out; omega)).trans HG1.out
  have g2 := (hb.block _ (by have := HS.out; omega)).trans HG2.out
  have HB4 : Hid (Below w.heap.size w w4) := Lib.hid (HB.out.trans (hb.mono (by have := HS.out; omega)))
  have HS4 : Hid (w.heap.size + 3 ≤ w4.heap.size) := Lib.hid (by have := hb.size; have := HS.out; omega)
  have n1 : w.heap.size + 1 ≠ w4.heap.size := by have := HS4.out; omega
  have l1 : w.heap.size + 1 < w4.heap.size := by have := HS4.out; omega
  have HG2' := Lib.hid g2
  have e0 := cell_row g1 0 _ rfl
  have e1 := cell_row g1 1 _ rfl
  have e2 := cell_row g1 2 _ rfl
  have e3 := cell_row g1 3 _ rfl
  have e4 := cell_row g1 4 _ rfl
  have e5 := cell_row g1 5 _ rfl
  have e6 := cell_row g1 6 _ rfl
  have e7 := cell_row g1 7 _ rfl
  clear hb g1 g2 HG0 HG1 HG2 HS HB b0 b1 b2 b3 b4 b5 b6 b7
  go_wp2_with fail
  have HA : Hid (∀ W5 : World, W5 = w4.alloc (.cells #[.int .i64 c0, .int .i64 c1, .int .i64 c2, .int .i64 c3] 23) → W5.heap[w4.heap.size]? = some (.cells #[.int .i64 c0, .int .i64 c1, .int .i64 c2, .int .i64 c3] 23 (0, 0)) ∧ W5.heap[w.heap.size + 2]? = some (.cells #[.int .i64 0, .int .i64 0, .int .i64 0, .int .i64 0] 23 (0, 0)) ∧ Below w.heap.size w W5 ∧ W5.heap.size = w4.heap.size + 1) := Lib.hid fun W5 e => by
    subst e
    exact ⟨heap_alloc_new _ _, (Below.heap_alloc _ _ _ (by have := HS4.out; omega)).trans HG2'.out, HB4.out.alloc (by have := HS4.out; omega) _, by simp⟩
  obtain ⟨W5, hW5⟩ : ∃ W5, W5 = w4.alloc (.cells #[.int .i64 c0, .int .i64 c1, .int .i64 c2, .int .i64 c3] 23) := ⟨_, rfl⟩
  rw [← hW5]
  obtain ⟨h1, h2, h3, h4⟩ := HA.out W5 hW5
  have HH1 := Lib.hid h1
  have HH2 := Lib.hid h2
  have HH3 := Lib.hid h3
  have HH4 := Lib.hid h4
  clear hW5 h1 h2 h3 h4 HA e0 e1 e2 e3 e4 e5 e6 e7 n1 l1
  refine (HR2.out _).mono ?_
  rintro e w6 ⟨rfl, hb⟩
  have g1 := (hb.block _ (by have := HH4.out; omega)).trans HH1.out
  have g2 := (hb.block _ (by have := HH4.out; have := HS4.out; omega)).trans HH2.out
  have HB6 : Hid (Below w.heap.size w w6) := Lib.hid (HH3.out.trans (hb.mono (by have := HH4.out; have := HS4.out; omega)))
  have HS6 : Hid (w4.heap.size + 1 ≤ w6.heap.size) := Lib.hid (by have := hb.size; have := HH4.out; omega)
  have n1 : w4.heap.size ≠ w6.heap.size := by have := HS6.out; omega
  have l1 : w4.heap.size < w6.heap.size := by have := HS6.out; omega
  have n2 : w.heap.size + 2 ≠ w6.heap.size := by have := HS6.out; have := HS4.out; omega
  have l2 : w.heap.size + 2 < w6.heap.size := by have := HS6.out; have := HS4.out; omega
  have n3 : w.heap.size + 2 ≠ w4.heap.size := by have := HS4.out; omega
  have rf : ∀ j, w6.frozen? ⟨w.heap.size + 2, j, none⟩ = false := fun j => by unfold World.frozen?; rw [g2]; simp
  have p0 := cell_row g1 0 _ rfl
  have p1 := cell_row g1 1 _ rfl
  have p2 := cell_row g1 2 _ rfl
  have p3 := cell_row g1 3 _ rfl
  have r0 := cell_row g2 0 _ rfl
  have r1 := cell_row g2 1 _ rfl
  have r2 := cell_row g2 2 _ rfl
  have r3 := cell_row g2 3 _ rfl
  clear hb g1 g2 HH1 HH2 HH3 HH4 HG2'
  go_wp2_with fail
  refine bodyPost_ret (v := .tuple #[.agg #[.int .i64 d0, .int .i64 d1, .int .i64 d2, .int .i64 d3], .int .i64 1, .int .i64 0]) ?_ rfl ⟨rfl, ?_⟩
  · simp [results, Tryz.results78, go_sem, r0, r1, r2, r3, n2, l2]
  · have X := ((((HB6.out).setCell (p := ⟨w.heap.size + 2, 0, none⟩) (Nat.le_add_right _ _) (.int .i64 d0)).setCell (p := ⟨w.heap.size + 2, 1, none⟩) (Nat.le_add_right _ _) (.int .i64 d1)).setCell (p := ⟨w.heap.size + 2, 2, none⟩) (Nat.le_add_right _ _) (.int .i64 d2)).setCell (p := ⟨w.heap.size + 2, 3, none⟩) (Nat.le_add_right _ _) (.int .i64 d3)
    exact X.alloc X.size _
set_option maxRecDepth 100000 in
set_option maxHeartbeats 4000000 in
theorem both_aa (i0 i1 i2 i3 i4 i5 i6 i7 j0 j1 j2 j3 j4 j5 j6 j7 c0 c1 c2 c3 d0 d1 d2 d3 : Int) 
    (HR : Hid (∀ w, Calls Tryz.prog 148 #[.agg #[.int .u64 i0, .int .u64 i1, .int .u64 i2, .int .u64 i3, .int .u64 i4, .int .u64 i5, .int .u64 i6, .int .u64 i7]] w (Gives (.tuple #[.agg #[.int .i64 c0, .int .i64 c1, .int .i64 c2, .int .i64 c3], .int .i64 0]) w))) (HR2 : Hid (∀ w, Calls Tryz.prog 148 #[.agg #[.int .u64 j0, .int .u64 j1, .int .u64 j2, .int .u64 j3, .int .u64 j4, .int .u64 j5, .int .u64 j6, .int .u64 j7]] w (Gives (.tuple #[.agg #[.int .i64 c0, .int .i64 c1, .int .i64 c2, .int .i64 c3], .int .i64 0]) w)))
    (w : World) : Calls Tryz.prog 78 #[.agg #[.int .u64 i0, .int .u64 i1, .int .u64 i2, .int .u64 i3, .int .u64 i4, .int .u64 i5, .int .u64 i6, .int .u64 i7], .agg #[.int .u64 j0, .int .u64 j1, .int .u64 j2, .int .u64 j3, .int .u64 j4, .int .u64 j5, .int .u64 j6, .int .u64 j7]] w (Gives (.tuple #[.agg #[.int .i64 c0, .int .i64 c1, .int .i64 c2, .int .i64 c3], .int .i64 0, .int .i64 0]) w) := by
  obtain ⟨W3, hW3⟩ : ∃ W3, W3 = ((w.alloc (.cells #[.int .u64 i0, .int .u64 i1, .int .u64 i2, .int .u64 i3, .int .u64 i4, .int .u64 i5, .int .u64 i6, .int .u64 i7] 142)).alloc (.cells #[.int .u64 j0, .int .u64 j1, .int .u64 j2, .int .u64 j3, .int .u64 j4, .int .u64 j5, .int .u64 j6, .int .u64 j7] 142)).alloc (.cells #[.int .i64 0, .int .i64 0, .int .i64 0, .int .i64 0] 23) := ⟨_, rfl⟩
  have g0 : W3.heap[w.heap.size]? = some (.cells #[.int .u64 i0, .int .u64 i1, .int .u64 i2, .int .u64 i3, .int .u64 i4, .int .u64 i5, .int .u64 i6, .int .u64 i7] 142 (0, 0)) := by rw [hW3]; exact (Below.heap_alloc _ _ _ (by simp; omega)).trans ((Below.heap_alloc _ _ _ (by simp)).trans (heap_alloc_new w _))
  have g1 : W3.heap[w.heap.size + 1]? = some (.cells #[.int .u64 j0, .int .u64 j1, .int .u64 j2, .int .u64 j3, .int .u64 j4, .int .u64 j5, .int .u64 j6, .int .u64 j7] 142 (0, 0)) := by rw [hW3]; exact (Below.heap_alloc _ _ _ (by simp)).trans (by have := heap_alloc_new (w.alloc (.cells #[.int .u64 i0, .int .u64 i1, .int .u64 i2, .int .u64 i3, .int .u64 i4, .int .u64 i5, .int .u64 i6, .int .u64 i7] 142)) (.cells #[.int .u64 j0, .int .u64 j1, .int .u64 j2, .int .u64 j3, .int .u64 j4, .int .u64 j5, .int .u64 j6, .int .u64 j7] 142); rwa [World.size_alloc] at this)
  have g2 : W3.heap[w.heap.size + 2]? = some (.cells #[.int .i64 0, .int .i64 0, .int .i64 0, .int .i64 0] 23 (0, 0)) := by rw [hW3]; have := heap_alloc_new ((w.alloc (.cells #[.int .u64 i0, .int .u64 i1, .int .u64 i2, .int .u64 i3, .int .u64 i4, .int .u64 i5, .int .u64 i6, .int .u64 i7] 142)).alloc (.cells #[.int .u64 j0, .int .u64 j1, .int .u64 j2, .int .u64 j3, .int .u64 j4, .int .u64 j5, .int .u64 j6, .int .u64 j7] 142)) (.cells #[.int .i64 0, .int .i64 0, .int .i64 0, .int .i64 0] 23); rwa [World.size_alloc, World.size_alloc] at this
  have hB : Below w.heap.size w W3 := by rw [hW3]; exact (((Below.refl _ _).alloc (Nat.le_refl _) _).alloc (by simp) _).alloc (by simp; omega) _
  have hs : W3.heap.size = w.heap.size + 3 := by rw [hW3]; simp
  have HW : Hid (∀ Q : World → Prop, Q W3 → Q (((w.alloc (.cells #[.int .u64 i0, .int .u64 i1, .int .u64 i2, .int .u64 i3, .int .u64 i4, .int .u64 i5, .int .u64 i6, .int .u64 i7] 142)).alloc (.cells #[.int .u64 j0, .int .u64 j1, .int .u64 j2, .int .u64 j3, .int .u64 j4, .int .u64 j5, .int .u64 j6, .int .u64 j7] 142)).alloc (.cells #[.int .i64 0, .int .i64 0, .int .i64 0, .int .i64 0] 23))) := Lib.hid fun Q h => by rw [hW3] at h; exact h
  have HG0 := Lib.hid g0
  have HG1 := Lib.hid g1
  have HG2 := Lib.hid g2
  have HB := Lib.hid hB
  have HS := Lib.hid hs
  clear hW3 g0 g1 g2 hB hs
  go_enter Tryz.func78, Tryz.ntmps78
  go_upto_region 1 with fail
  refine HW.out _ ?_
  clear HW
  have b0 := cell_row HG0.out 0 _ rfl
  have b1 := cell_row HG0.out 1 _ rfl
  have b2 := cell_row HG0.out 2 _ rfl
  have b3 := cell_row HG0.out 3 _ rfl
  have b4 := cell_row HG0.out 4 _ rfl
  have b5 := cell_row HG0.out 5 _ rfl
  have b6 := cell_row HG0.out 6 _ rfl
  have b7 := cell_row HG0.out 7 _ rfl
  go_wp2_with fail
  refine (HR.out _).mono ?_
  rintro e w4 ⟨rfl, hb⟩
  have g1 := (hb.block _ (by have := HS.out; omega)).trans HG1.out
  have g2 := (hb.block _ (by have := HS.out; omega)).trans HG2.out
  have HB4 : Hid (Below w.heap.size w w4) := Lib.hid (HB.out.trans (hb.mono (by have := HS.out; omega)))
  have HS4 : Hid (w.heap.size + 3 ≤ w4.heap.size) := Lib.hid (by have := hb.size; have := HS.out; omega)
  have n1 : w.heap.size + 1 ≠ w4.heap.size := by have := HS4.out; omega
  have l1 : w.heap.size + 1 < w4.heap.size := by have := HS4.out; omega
  have HG2' := Lib.hid g2
  have e0 := cell_row g1 0 _ rfl
  have e1 := cell_row g1 1 _ rfl
  have e2 := cell_row g1 2 _ rfl
  have e3 := cell_row g1 3 _ rfl
  have e4 := cell_row g1 4 _ rfl
  have e5 := cell_row g1 5 _ rfl
  have e6 := cell_row g1 6 _ rfl
  have e7 := cell_row g1 7 _ rfl
  clear hb g1 g2 HG0 HG1 HG2 HS HB b0 b1 b2 b3 b4 b5 b6 b7
  go_wp2_with fail
  have HA : Hid (∀ W5 : World, W5 = w4.alloc (.cells #[.int .i64 c0, .int .i64 c1, .int .i64 c2, .int .i64 c3] 23) → W5.heap[w4.heap.size]? = some (.cells #[.int .i64 c0, .int .i64 c1, .int .i64 c2, .int .i64 c3] 23 (0, 0)) ∧ W5.heap[w.heap.size + 2]? = some (.cells #[.int .i64 0, .int .i64 0, .int .i64 0, .int .i64 0] 23 (0, 0)) ∧ Below w.heap.size w W5 ∧ W5.heap.size = w4.heap.size + 1) := Lib.hid fun W5 e => by
    subst e
    exact ⟨heap_alloc_new _ _, (Below.heap_alloc _ _ _ (by have := HS4.out; omega)).trans HG2'.out, HB4.out.alloc (by have := HS4.out; omega) _, by simp⟩
  obtain ⟨W5, hW5⟩ : ∃ W5, W5 = w4.alloc (.cells #[.int .i64 c0, .int .i64 c1, .int .i64 c2, .int .i64 c3] 23) := ⟨_, rfl⟩
  rw [← hW5]
  obtain ⟨h1, h2, h3, h4⟩ := HA.out W5 hW5
  have HH1 := Lib.hid h1
  have HH2 := Lib.hid h2
  have HH3 := Lib.hid h3
  have HH4 := Lib.hid h4
  clear hW5 h1 h2 h3 h4 HA e0 e1 e2 e3 e4 e5 e6 e7 n1 l1
  refine (HR2.out _).mono ?_
  rintro e w6 ⟨rfl, hb⟩
  have g1 := (hb.block _ (by have := HH4.out; omega)).trans HH1.out
  have g2 := (hb.block _ (by have := HH4.out; have := HS4.out; omega)).trans HH2.out
  have HB6 : Hid (Below w.heap.size w w6) := Lib.hid (HH3.out.trans (hb.mono (by have := HH4.out; have := HS4.out; omega)))
  have HS6 : Hid (w4.heap.size + 1 ≤ w6.heap.size) := Lib.hid (by have := hb.size; have := HH4.out; omega)
  have n1 : w4.heap.size ≠ w6.heap.size := by have := HS6.out; omega
  have l1 : w4.heap.size < w6.heap.size := by have := HS6.out; omega
  have n2 : w.heap.size + 2 ≠ w6.heap.size := by have := HS6.out; have := HS4.out; omega
  have l2 : w.heap.size + 2 < w6.heap.size := by have := HS6.out; have := HS4.out; omega
  have n3 : w.heap.size + 2 ≠ w4.heap.size := by have := HS4.out; omega
  have rf : ∀ j, w6.frozen? ⟨w.heap.size + 2, j, none⟩ = false := fun j => by unfold World.frozen?; rw [g2]; simp
  have p0 := cell_row g1 0 _ rfl
  have p1 := cell_row g1 1 _ rfl
  have p2 := cell_row g1 2 _ rfl
  have p3 := cell_row g1 3 _ rfl
  have r0 := cell_row g2 0 _ rfl
  have r1 := cell_row g2 1 _ rfl
  have r2 := cell_row g2 2 _ rfl
  have r3 := cell_row g2 3 _ rfl
  clear hb g1 g2 HH1 HH2 HH3 HH4 HG2'
  go_wp2_with fail
  refine bodyPost_ret (v := .tuple #[.agg #[.int .i64 c0, .int .i64 c1, .int .i64 c2, .int .i64 c3], .int .i64 0, .int .i64 0]) ?_ rfl ⟨rfl, ?_⟩
  · simp [results, Tryz.results78, go_sem, r0, r1, r2, r3, n2, l2]
  · have X := ((((HB6.out).setCell (p := ⟨w.heap.size + 2, 0, none⟩) (Nat.le_add_right _ _) (.int .i64 c0)).setCell (p := ⟨w.heap.size + 2, 1, none⟩) (Nat.le_add_right _ _) (.int .i64 c1)).setCell (p := ⟨w.heap.size + 2, 2, none⟩) (Nat.le_add_right _ _) (.int .i64 c2)).setCell (p := ⟨w.heap.size + 2, 3, none⟩) (Nat.le_add_right _ _) (.int .i64 c3)
    exact X.alloc X.size _
set_option maxRecDepth 100000 in
set_option maxHeartbeats 4000000 in
theorem both_ne (i0 i1 i2 i3 i4 i5 i6 i7 j0 j1 j2 j3 j4 j5 j6 j7 c0 c1 c2 c3 d0 d1 d2 d3 : Int) (hne : Hid (¬ (c0 = d0 ∧ c1 = d1 ∧ c2 = d2 ∧ c3 = d3)))
    (HR : Hid (∀ w, Calls Tryz.prog 148 #[.agg #[.int .u64 i0, .int .u64 i1, .int .u64 i2, .int .u64 i3, .int .u64 i4, .int .u64 i5, .int .u64 i6, .int .u64 i7]] w (Gives (.tuple #[.agg #[.int .i64 c0, .int .i64 c1, .int .i64 c2, .int .i64 c3], .int .i64 0]) w))) (HR2 : Hid (∀ w, Calls Tryz.prog 148 #[.agg #[.int .u64 j0, .int .u64 j1, .int .u64 j2, .int .u64 j3, .int .u64 j4, .int .u64 j5, .int .u64 j6, .int .u64 j7]] w (Gives (.tuple #[.agg #[.int .i64 d0, .int .i64 d1, .int .i64 d2, .int .i64 d3], .int .i64 0]) w)))
    (w : World) : Calls Tryz.prog 78 #[.agg #[.int .u64 i0, .int .u64 i1, .int .u64 i2, .int .u64 i3, .int .u64 i4, .int .u64 i5, .int .u64 i6, .int .u64 i7], .agg #[.int .u64 j0, .int .u64 j1, .int .u64 j2, .int .u64 j3, .int .u64 j4, .int .u64 j5, .int .u64 j6, .int .u64 j7]] w (Gives (.tuple #[.agg #[.int .i64 0, .int .i64 0, .int .i64 0, .int .i64 0], .int .i64 0, .int .i64 8]) w) := by
  obtain ⟨W3, hW3⟩ : ∃ W3, W3 = ((w.alloc (.cells #[.int .u64 i0, .int .u64 i1, .int .u64 i2, .int .u64 i3, .int .u64 i4, .int .u64 i5, .int .u64 i6, .int .u64 i7] 142)).alloc (.cells #[.int .u64 j0, .int .u64 j1, .int .u64 j2, .int .u64 j3, .int .u64 j4, .int .u64 j5, .int .u64 j6, .int .u64 j7] 142)).alloc (.cells #[.int .i64 0, .int .i64 0, .int .i64 0, .int .i64 0] 23) := ⟨_, rfl⟩
  have g0 : W3.heap[w.heap.size]? = some (.cells #[.int .u64 i0, .int .u64 i1, .int .u64 i2, .int .u64 i3, .int .u64 i4, .int .u64 i5, .int .u64 i6, .int .u64 i7] 142 (0, 0)) := by rw [hW3]; exact (Below.heap_alloc _ _ _ (by simp; omega)).trans ((Below.heap_alloc _ _ _ (by simp)).trans (heap_alloc_new w _))
  have g1 : W3.heap[w.heap.size + 1]? = some (.cells #[.int .u64 j0, .int .u64 j1, .int .u64 j2, .int .u64 j3, .int .u64 j4, .int .u64 j5, .int .u64 j6, .int .u64 j7] 142 (0, 0)) := by rw [hW3]; exact (Below.heap_alloc _ _ _ (by simp)).trans (by have := heap_alloc_new (w.alloc (.cells #[.int .u64 i0, .int .u64 i1, .int .u64 i2, .int .u64 i3, .int .u64 i4, .int .u64 i5, .int .u64 i6, .int .u64 i7] 142)) (.cells #[.int .u64 j0, .int .u64 j1, .int .u64 j2, .int .u64 j3, .int .u64 j4, .int .u64 j5, .int .u64 j6, .int .u64 j7] 142); rwa [World.size_alloc] at this)
  have g2 : W3.heap[w.heap.size + 2]? = some (.cells #[.int .i64 0, .int .i64 0, .int .i64 0, .int .i64 0] 23 (0, 0)) := by rw [hW3]; have := heap_alloc_new ((w.alloc (.cells #[.int .u64 i0, .int .u64 i1, .int .u64 i2, .int .u64 i3, .int .u64 i4, .int .u64 i5, .int .u64 i6, .int .u64 i7] 142)).alloc (.cells #[.int .u64 j0, .int .u64 j1, .int .u64 j2, .int .u64 j3, .int .u64 j4, .int .u64 j5, .int .u64 j6, .int .u64 j7] 142)) (.cells #[.int .i64 0, .int .i64 0, .int .i64 0, .int .i64 0] 23); rwa [World.size_alloc, World.size_alloc] at this
  have hB : Below w.heap.size w W3 := by rw [hW3]; exact (((Below.refl _ _).alloc (Nat.le_refl _) _).alloc (by simp) _).alloc (by simp; omega) _
  have hs : W3.heap.size = w.heap.size + 3 := by rw [hW3]; simp
  have HW : Hid (∀ Q : World → Prop, Q W3 → Q (((w.alloc (.cells #[.int .u64 i0, .int .u64 i1, .int .u64 i2, .int .u64 i3, .int .u64 i4, .int .u64 i5, .int .u64 i6, .int .u64 i7] 142)).alloc (.cells #[.int .u64 j0, .int .u64 j1, .int .u64 j2, .int .u64 j3, .int .u64 j4, .int .u64 j5, .int .u64 j6, .int .u64 j7] 142)).alloc (.cells #[.int .i64 0, .int .i64 0, .int .i64 0, .int .i64 0] 23))) := Lib.hid fun Q h => by rw [hW3] at h; exact h
  have HG0 := Lib.hid g0
  have HG1 := Lib.hid g1
  have HG2 := Lib.hid g2
  have HB := Lib.hid hB
  have HS := Lib.hid hs
  clear hW3 g0 g1 g2 hB hs
  go_enter Tryz.func78, Tryz.ntmps78
  go_upto_region 1 with fail
  refine HW.out _ ?_
  clear HW
  have b0 := cell_row HG0.out 0 _ rfl
  have b1 := cell_row HG0.out 1 _ rfl
  have b2 := cell_row HG0.out 2 _ rfl
  have b3 := cell_row HG0.out 3 _ rfl
  have b4 := cell_row HG0.out 4 _ rfl
  have b5 := cell_row HG0.out 5 _ rfl
  have b6 := cell_row HG0.out 6 _ rfl
  have b7 := cell_row HG0.out 7 _ rfl
  go_wp2_with fail
  refine (HR.out _).mono ?_
  rintro e w4 ⟨rfl, hb⟩
  have g1 := (hb.block _ (by have := HS.out; omega)).trans HG1.out
  have g2 := (hb.block _ (by have := HS.out; omega)).trans HG2.out
  have HB4 : Hid (Below w.heap.size w w4) := Lib.hid (HB.out.trans (hb.mono (by have := HS.out; omega)))
  have HS4 : Hid (w.heap.size + 3 ≤ w4.heap.size) := Lib.hid (by have := hb.size; have := HS.out; omega)
  have n1 : w.heap.size + 1 ≠ w4.heap.size := by have := HS4.out; omega
  have l1 : w.heap.size + 1 < w4.heap.size := by have := HS4.out; omega
  have HG2' := Lib.hid g2
  have e0 := cell_row g1 0 _ rfl
  have e1 := cell_row g1 1 _ rfl
  have e2 := cell_row g1 2 _ rfl
  have e3 := cell_row g1 3 _ rfl
  have e4 := cell_row g1 4 _ rfl
  have e5 := cell_row g1 5 _ rfl
  have e6 := cell_row g1 6 _ rfl
  have e7 := cell_row g1 7 _ rfl
  clear hb g1 g2 HG0 HG1 HG2 HS HB b0 b1 b2 b3 b4 b5 b6 b7
  go_wp2_with fail
  have HA : Hid (∀ W5 : World, W5 = w4.alloc (.cells #[.int .i64 c0, .int .i64 c1, .int .i64 c2, .int .i64 c3] 23) → W5.heap[w4.heap.size]? = some (.cells #[.int .i64 c0, .int .i64 c1, .int .i64 c2, .int .i64 c3] 23 (0, 0)) ∧ W5.heap[w.heap.size + 2]? = some (.cells #[.int .i64 0, .int .i64 0, .int .i64 0, .int .i64 0] 23 (0, 0)) ∧ Below w.heap.size w W5 ∧ W5.heap.size = w4.heap.size + 1) := Lib.hid fun W5 e => by
    subst e
    exact ⟨heap_alloc_new _ _, (Below.heap_alloc _ _ _ (by have := HS4.out; omega)).trans HG2'.out, HB4.out.alloc (by have := HS4.out; omega) _, by simp⟩
  obtain ⟨W5, hW5⟩ : ∃ W5, W5 = w4.alloc (.cells #[.int .i64 c0, .int .i64 c1, .int .i64 c2, .int .i64 c3] 23) := ⟨_, rfl⟩
  rw [← hW5]
  obtain ⟨h1, h2, h3, h4⟩ := HA.out W5 hW5
  have HH1 := Lib.hid h1
  have HH2 := Lib.hid h2
  have HH3 := Lib.hid h3
  have HH4 := Lib.hid h4
  clear hW5 h1 h2 h3 h4 HA e0 e1 e2 e3 e4 e5 e6 e7 n1 l1
  refine (HR2.out _).mono ?_
  rintro e w6 ⟨rfl, hb⟩
  have g1 := (hb.block _ (by have := HH4.out; omega)).trans HH1.out
  have g2 := (hb.block _ (by have := HH4.out; have := HS4.out; omega)).trans HH2.out
  have HB6 : Hid (Below w.heap.size w w6) := Lib.hid (HH3.out.trans (hb.mono (by have := HH4.out; have := HS4.out; omega)))
  have HS6 : Hid (w4.heap.size + 1 ≤ w6.heap.size) := Lib.hid (by have := hb.size; have := HH4.out; omega)
  have n1 : w4.heap.size ≠ w6.heap.size := by have := HS6.out; omega
  have l1 : w4.heap.size < w6.heap.size := by have := HS6.out; omega
  have n2 : w.heap.size + 2 ≠ w6.heap.size := by have := HS6.out; have := HS4.out; omega
  have l2 : w.heap.size + 2 < w6.heap.size := by have := HS6.out; have := HS4.out; omega
  have n3 : w.heap.size + 2 ≠ w4.heap.size := by have := HS4.out; omega
  have rf : ∀ j, w6.frozen? ⟨w.heap.size + 2, j, none⟩ = false := fun j => by unfold World.frozen?; rw [g2]; simp
  have p0 := cell_row g1 0 _ rfl
  have p1 := cell_row g1 1 _ rfl
  have p2 := cell_row g1 2 _ rfl
  have p3 := cell_row g1 3 _ rfl
  have r0 := cell_row g2 0 _ rfl
  have r1 := cell_row g2 1 _ rfl
  have r2 := cell_row g2 2 _ rfl
  have r3 := cell_row g2 3 _ rfl
  clear hb g1 g2 HH1 HH2 HH3 HH4 HG2'
  go_wp2_with fail
  all_goals first
    | (exact absurd ⟨by assumption, by assumption, by assumption, by assumption⟩ hne.out)
    | skip
  all_goals
    refine bodyPost_ret (v := .tuple #[.agg #[.int .i64 0, .int .i64 0, .int .i64 0, .int .i64 0], .int .i64 0, .int .i64 8]) ?_ rfl ⟨rfl, ?_⟩
    · simp [results, Tryz.results78, go_sem, r0, r1, r2, r3, n2, l2]
    · have X := ((((HB6.out).setCell (p := ⟨w.heap.size + 2, 0, none⟩) (Nat.le_add_right _ _) (.int .i64 0)).setCell (p := ⟨w.heap.size + 2, 1, none⟩) (Nat.le_add_right _ _) (.int .i64 0)).setCell (p := ⟨w.heap.size + 2, 2, none⟩) (Nat.le_add_right _ _) (.int .i64 0)).setCell (p := ⟨w.heap.size + 2, 3, none⟩) (Nat.le_add_right _ _) (.int .i64 0)
      exact X.alloc X.size _
end Go.Proofs.YtkdcfijebgeajaaGreat

namespace Go.Proofs.YtkdcfijebgeajaaGreat
open Go.RowKit Go.BigFrame
set_option linter.unusedVariables false
set_option linter.unusedSimpArgs false
def supWs (th sl lo bu : Nat) : List Value := [.int .u64 magic, .int .u64 th, .int .u64 sl, .int .u64 lo, .int .u64 bu, .int .u64 1, .int .u64 0, .int .u64 (sumW (six magic th sl lo bu 1) 7 : Nat)]
def Words8 (l : List Value) (w : World) (e : Ending) (w' : World) : Prop := ∃ v, e = .returned v ∧ Below w.heap.size w w' ∧ w'.ownsRow w.heap.size 105 1 v 8 l
set_option maxRecDepth 100000 in
set_option maxHeartbeats 4000000 in
theorem words84 (th sl lo bu : Nat) (h : Ok4 th sl lo bu) (w : World) : Calls Tryz.prog 84 #[.agg #[.int .i64 th, .int .i64 sl, .int .i64 lo, .int .i64 bu]] w (Words8 (supWs th sl lo bu) w) := by
  obtain ⟨i42, hi, hz0, hz1, hz2⟩ := info_parts info42
  have h' := h
  unfold Ok4 at h'
  have e1 : IntKind.u64.wrap (th : Int) = th := by simp [IntKind.wrap, IntKind.bits, IntKind.signed]; omega
  have e2 : IntKind.u64.wrap (sl : Int) = sl := by simp [IntKind.wrap, IntKind.bits, IntKind.signed]; omega
  have e3 : IntKind.u64.wrap (lo : Int) = lo := by simp [IntKind.wrap, IntKind.bits, IntKind.signed]; omega
  have e4 : IntKind.u64.wrap (bu : Int) = bu := by simp [IntKind.wrap, IntKind.bits, IntKind.signed]; omega
  obtain ⟨S, hS⟩ : ∃ S, S = sumW (six magic th sl lo bu 1) 7 := ⟨_, rfl⟩
  have hSl : S < 4294967296 := by rw [hS]; exact sumW_lt _ _
  have e5 : IntKind.u64.wrap (S : Int) = S := by simp [IntKind.wrap, IntKind.bits, IntKind.signed]; omega
  have HS : Hid (∀ (b cap : Nat) (w : World), w.heap[b]? = some (.cells #[.int .u64 7739836655157129782, .int .u64 th, .int .u64 sl, .int .u64 lo, .int .u64 bu, .int .u64 1, .int .u64 0] 105 (0, 0)) → Calls Tryz.prog 149 #[.slice (some ⟨b, 0, none⟩) 7 cap] w fun e w' => e = .returned (.int .u32 (S : Int)) ∧ Below w.heap.size w w') := Lib.hid fun b cap w hw => by
    rw [hS]
    refine words31 (six magic th sl lo bu 1) (six_lt h) 7 (by omega) (some ⟨b, 0, none⟩) cap w ⟨b, 0, fun _ => ⟨rfl, lt_row hw⟩, fun j hj => ?_⟩
    refine cell_row hw (0 + j) _ ?_
    rw [Nat.zero_add]
    match j, hj with
    | 0, _ | 1, _ | 2, _ | 3, _ | 4, _ | 5, _ | 6, _ => rfl
  have HL : Hid (supWs th sl lo bu = [.int .u64 7739836655157129782, .int .u64 th, .int .u64 sl, .int .u64 lo, .int .u64 bu, .int .u64 1, .int .u64 0] ++ [.int .u64 (S : Int)]) := Lib.hid (by rw [hS]; rfl)
  obtain ⟨B, hB⟩ : ∃ B, B = w.heap.size := ⟨_, rfl⟩
  unfold Words8
  rw [HL.out, ← hB]
  have HB := Lib.hid hB
  clear h h' hS hSl hB HL
  go_enter Tryz.func84, Tryz.ntmps84
  go_wp2_with fail
  obtain ⟨W1, hW1⟩ : ∃ W1, W1 = (w.alloc (.cells #[.int .i64 th, .int .i64 sl, .int .i64 lo, .int .i64 bu] 23)).alloc (.cells #[.int .u64 7739836655157129782, .int .u64 th, .int .u64 sl, .int .u64 lo, .int .u64 bu, .int .u64 1, .int .u64 0] 105) := ⟨_, rfl⟩
  have R1 : Hid (W1.heap[w.heap.size + 1]? = some (.cells #[.int .u64 7739836655157129782, .int .u64 th, .int .u64 sl, .int .u64 lo, .int .u64 bu, .int .u64 1, .int .u64 0] 105 (0, 0))) := Lib.hid (by
    rw [hW1]
    have := heap_alloc_new (w.alloc (.cells #[.int .i64 th, .int .i64 sl, .int .i64 lo, .int .i64 bu] 23)) (.cells #[.int .u64 7739836655157129782, .int .u64 th, .int .u64 sl, .int .u64 lo, .int .u64 bu, .int .u64 1, .int .u64 0] 105)
    rwa [World.size_alloc] at this)
  have B1 : Hid (Below B w W1) := Lib.hid (by rw [hW1, HB.out]; exact ((Below.refl _ _).alloc (Nat.le_refl _) _).alloc (by simp) _)
  rw [← hW1]
  clear hW1
  refine (HS.out _ _ _ R1.out).mono ?_
  rintro e w2 ⟨rfl, hb⟩
  have R2 : Hid (w2.heap[w.heap.size + 1]? = some (.cells #[.int .u64 7739836655157129782, .int .u64 th, .int .u64 sl, .int .u64 lo, .int .u64 bu, .int .u64 1, .int .u64 0] 105 (0, 0))) := Lib.hid ((hb.block _ (lt_row R1.out)).trans R1.out)
  have B2 : Hid (Below B w w2) := Lib.hid (B1.out.trans (hb.mono (by rw [HB.out]; have := lt_row R1.out; omega)))
  have hBw : B ≤ w2.heap.size := by rw [HB.out]; have := lt_row R2.out; omega
  have HO : Hid (w2.ownsRow B 105 1 (.slice (some ⟨w.heap.size + 1, 0, none⟩) 7 7) 7 [.int .u64 7739836655157129782, .int .u64 th, .int .u64 sl, .int .u64 lo, .int .u64 bu, .int .u64 1, .int .u64 0]) := Lib.hid ⟨rfl, .inr ⟨w.heap.size + 1, 7, _, rfl, by rw [HB.out]; omega, R2.out, Nat.le_refl _, by unfold maxLen; omega, rfl, rfl⟩⟩
  clear hb R1 B1
  go_wp2_with (at_builtin; refine wpList_push rfl (.tmp 20) (.tmp 23) 24 rfl B 105 i42 (.int .u64 0) 1 8 Tryz.underlying24 hi hz0 hz1 hz2 rfl (by decide) w2 hBw (.slice (some ⟨w.heap.size + 1, 0, none⟩) 7 7) 7 _ rfl HO.out #[.int .u64 (S : Int)] 1 1 rfl rfl (by simp [Value.oneCell']) (by unfold maxLen; omega) (by omega) ?_; intro v' w' ho' hg' hb' hn'; have HO' := Lib.hid ho'; have HB' := Lib.hid (hb' _ _ B2.out (Nat.le_refl _)); clear ho' hg' hb' hn')
  go_wp2_with fail
  go_ret
  exact ⟨v', rfl, HB'.out, HO'.out⟩
end Go.Proofs.YtkdcfijebgeajaaGreat
