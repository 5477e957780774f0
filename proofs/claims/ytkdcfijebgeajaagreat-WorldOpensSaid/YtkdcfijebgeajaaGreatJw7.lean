/- Layer 5 (super): a config's line.
   Layer 5 (super): a config's line, read again.
   Layer 5 (super): a line is read, whatever it is. -/
import Derived.Test.YtkdcfijebgeajaaGreatJw6
import Derived.Laws.CopyRow
import Derived.Deep.RegionHeld3
import Derived.ChangeKeysEq
import Derived.Laws.StructEq
namespace Go.Proofs.YtkdcfijebgeajaaGreat
open Go.RowKit Go.BigFrame
set_option linter.unusedVariables false
set_option linter.unusedSimpArgs false
def six (a0 a1 a2 a3 a4 a5 : Nat) : Nat → Nat := fun j => [a0, a1, a2, a3, a4, a5].getD j 0
def lineV (a0 a1 a2 a3 a4 a5 : Nat) : Value := .agg #[.int .u64 a0, .int .u64 a1, .int .u64 a2, .int .u64 a3, .int .u64 a4, .int .u64 a5, .int .u64 0, .int .u64 (sumW (six a0 a1 a2 a3 a4 a5) 7 : Nat)]
def zero8 : Array Value := #[.int .u64 0, .int .u64 0, .int .u64 0, .int .u64 0, .int .u64 0, .int .u64 0, .int .u64 0, .int .u64 0]
theorem six_get (a0 a1 a2 a3 a4 a5 : Nat) (j : Nat) (hj : j < 7) (s : Value) : #[Value.int .u64 a0, .int .u64 a1, .int .u64 a2, .int .u64 a3, .int .u64 a4, .int .u64 a5, .int .u64 0, s][j]? = some (.int .u64 (six a0 a1 a2 a3 a4 a5 j)) := by
  have : j = 0 ∨ j = 1 ∨ j = 2 ∨ j = 3 ∨ j = 4 ∨ j = 5 ∨ j = 6 := by omega
  rcases this with rfl | rfl | rfl | rfl | rfl | rfl | rfl <;> rfl
set_option maxRecDepth 100000 in
theorem summed339 (b o : Nat) (a0 a1 a2 a3 a4 a5 : Nat) (c : Nat) (w : World) (hs : ∀ j, six a0 a1 a2 a3 a4 a5 j < 18446744073709551616) (hw : ∀ j v, [Value.int .u64 a0, .int .u64 a1, .int .u64 a2, .int .u64 a3, .int .u64 a4, .int .u64 a5][j]? = some v → w.cell? ⟨b, o + j, none⟩ = some v) :
    Calls Tryz.prog 142 #[.slice (some ⟨b, o, none⟩) 6 c] w (Gives (lineV a0 a1 a2 a3 a4 a5) w) := by
  obtain ⟨W2, hW2⟩ : ∃ W2, W2 = (w.alloc (.cells zero8 142)).alloc (.cells zero8 142) := ⟨_, rfl⟩
  have hh1 : W2.heap[w.heap.size]? = some (.cells zero8 142 (0, 0)) := by rw [hW2, Below.heap_alloc _ _ _ (by simp)]; exact heap_alloc_new w _
  have hh2 : W2.heap[w.heap.size + 1]? = some (.cells zero8 142 (0, 0)) := by rw [hW2]; have := heap_alloc_new (w.alloc (.cells zero8 142)) (.cells zero8 142); rwa [World.size_alloc] at this
  have hB2 : Below w.heap.size w W2 := by rw [hW2]; exact ((Below.refl _ _).alloc (Nat.le_refl _) _).alloc (by simp) _
  have hsz : W2.heap.size = w.heap.size + 2 := by rw [hW2]; simp
  have hcp : ∀ ty, (Builtin.copy_ #[24, 24] ty #[.slice (some ⟨w.heap.size + 1, 0, none⟩) 7 8, .slice (some ⟨b, o, none⟩) 6 c]).run Tryz.prog W2 = .ok (goInt 6) (W2.setRow (w.heap.size + 1) #[.int .u64 a0, .int .u64 a1, .int .u64 a2, .int .u64 a3, .int .u64 a4, .int .u64 a5, .int .u64 0, .int .u64 0]) := fun ty =>
    run_copy_row (P := Tryz.prog) W2 24 24 ty 105 (w.heap.size + 1) 0 7 8 ⟨b, o, none⟩ 6 c zero8 142 [.int .u64 a0, .int .u64 a1, .int .u64 a2, .int .u64 a3, .int .u64 a4, .int .u64 a5] Tryz.underlying24 (by kernel_rfl) hh2 rfl
      (fun j v hv => by
        have h1 := hw j v hv
        have h2 : W2.cell? ⟨b, o + j, none⟩ = some v := by
          have hb : b < w.heap.size := by
            by_cases h : b < w.heap.size
            · exact h
            · rw [World.cell?, Array.getElem?_eq_none (by simpa using h)] at h1; simp at h1
          exact (hB2.cell (p := ⟨b, o + j, none⟩) hb).trans h1
        unfold Addr.add
        split
        · rename_i e; subst e; exact h2
        · simpa using h2)
      (by simp [zero8]) (by intro v hv; simp at hv; rcases hv with rfl | rfl | rfl | rfl | rfl | rfl <;> rfl)
  have g2 : (W2.setRow (w.heap.size + 1) #[.int .u64 a0, .int .u64 a1, .int .u64 a2, .int .u64 a3, .int .u64 a4, .int .u64 a5, .int .u64 0, .int .u64 0]).heap[w.heap.size + 1]? = some (.cells #[.int .u64 a0, .int .u64 a1, .int .u64 a2, .int .u64 a3, .int .u64 a4, .int .u64 a5, .int .u64 0, .int .u64 0] 142 (0, 0)) := setRow_heap W2 _ _ _ 142 (0, 0) hh2
  have g1 : (W2.setRow (w.heap.size + 1) #[.int .u64 a0, .int .u64 a1, .int .u64 a2, .int .u64 a3, .int .u64 a4, .int .u64 a5, .int .u64 0, .int .u64 0]).heap[w.heap.size]? = some (.cells zero8 142 (0, 0)) := (setRow_other W2 _ _ _ (by omega)).trans hh1
  have hB3 : Below w.heap.size w (W2.setRow (w.heap.size + 1) #[.int .u64 a0, .int .u64 a1, .int .u64 a2, .int .u64 a3, .int .u64 a4, .int .u64 a5, .int .u64 0, .int .u64 0]) :=
    ⟨hB2.os, hB2.tape, hB2.output, by rw [setRow_size]; exact hB2.size, fun k hk => (setRow_other W2 _ _ _ (by omega)).trans (hB2.block k hk)⟩
  have hs3 : (W2.setRow (w.heap.size + 1) #[.int .u64 a0, .int .u64 a1, .int .u64 a2, .int .u64 a3, .int .u64 a4, .int .u64 a5, .int .u64 0, .int .u64 0]).heap.size = w.heap.size + 2 := by rw [setRow_size]; exact hsz
  generalize (W2.setRow (w.heap.size + 1) #[.int .u64 a0, .int .u64 a1, .int .u64 a2, .int .u64 a3, .int .u64 a4, .int .u64 a5, .int .u64 0, .int .u64 0]) = W3 at *
  rw [hW2] at hcp
  have HS : Hid (Calls Tryz.prog 193 #[.slice (some ⟨w.heap.size + 1, 0, none⟩) 7 8] W3 (Says (.int .u32 (sumW (six a0 a1 a2 a3 a4 a5) 7)) W3)) := Lib.hid
    (sum20 (some ⟨w.heap.size + 1, 0, none⟩) 7 8 (by omega) (six a0 a1 a2 a3 a4 a5) hs W3 ⟨w.heap.size + 1, 0, fun _ => ⟨rfl, by omega⟩, fun j hj => by rw [cell_in g2, Nat.zero_add]; exact six_get a0 a1 a2 a3 a4 a5 j hj _⟩)
  have HB3 := Lib.hid hB3
  have f2 : ∀ j, W3.frozen? ⟨w.heap.size + 1, j, none⟩ = false := fun j => by unfold World.frozen?; rw [g2]; simp
  have f1 : ∀ j, W3.frozen? ⟨w.heap.size, j, none⟩ = false := fun j => by unfold World.frozen?; rw [g1]; simp
  have c0 := cell_row g2 0 _ rfl
  have c1 := cell_row g2 1 _ rfl
  have c2 := cell_row g2 2 _ rfl
  have c3 := cell_row g2 3 _ rfl
  have c4 := cell_row g2 4 _ rfl
  have c5 := cell_row g2 5 _ rfl
  have c6 := cell_row g2 6 _ rfl
  have c7 := cell_row g2 7 _ rfl
  have d0 : W3.cell? ⟨w.heap.size, 0, none⟩ = some (.int .u64 0) := cell_row g1 0 _ rfl
  have d1 : W3.cell? ⟨w.heap.size, 1, none⟩ = some (.int .u64 0) := cell_row g1 1 _ rfl
  have d2 : W3.cell? ⟨w.heap.size, 2, none⟩ = some (.int .u64 0) := cell_row g1 2 _ rfl
  have d3 : W3.cell? ⟨w.heap.size, 3, none⟩ = some (.int .u64 0) := cell_row g1 3 _ rfl
  have d4 : W3.cell? ⟨w.heap.size, 4, none⟩ = some (.int .u64 0) := cell_row g1 4 _ rfl
  have d5 : W3.cell? ⟨w.heap.size, 5, none⟩ = some (.int .u64 0) := cell_row g1 5 _ rfl
  have d6 : W3.cell? ⟨w.heap.size, 6, none⟩ = some (.int .u64 0) := cell_row g1 6 _ rfl
  have d7 : W3.cell? ⟨w.heap.size, 7, none⟩ = some (.int .u64 0) := cell_row g1 7 _ rfl
  have HG1 := Lib.hid g1
  have HG2 := Lib.hid g2
  obtain ⟨S, hS⟩ : ∃ S, S = sumW (six a0 a1 a2 a3 a4 a5) 7 := ⟨_, rfl⟩
  have hlt : S < 4294967296 := by rw [hS]; exact sumW_lt _ _
  have HE : Hid (lineV a0 a1 a2 a3 a4 a5 = .agg #[.int .u64 a0, .int .u64 a1, .int .u64 a2, .int .u64 a3, .int .u64 a4, .int .u64 a5, .int .u64 0, .int .u64 (S : Int)]) := Lib.hid (by rw [hS]; rfl)
  rw [← hS] at HS
  unfold zero8 at hcp
  clear hS hs hw hW2 hB2 hh1 hh2 hsz hB3 g1 g2
  go_enter Tryz.func142, Tryz.ntmps142
  go_wp2_with fail
  refine HS.out.mono ?_
  rintro e w1 ⟨rfl, hw⟩
  cases hw
  go_wp2_with fail
  refine bodyPost_ret (v := lineV a0 a1 a2 a3 a4 a5) ?_ rfl ⟨rfl, ?_⟩
  · rw [HE.out]; simp [results, Tryz.results142, go_sem, d0, d1, d2, d3, d4, d5, d6, d7]
  · exact ((((((((HB3.out.setCell (p := ⟨w.heap.size + 1, 7, none⟩) (Nat.le_succ _) _).setCell (p := ⟨w.heap.size, 0, none⟩) (Nat.le_refl _) _).setCell (p := ⟨w.heap.size, 1, none⟩) (Nat.le_refl _) _).setCell (p := ⟨w.heap.size, 2, none⟩) (Nat.le_refl _) _).setCell (p := ⟨w.heap.size, 3, none⟩) (Nat.le_refl _) _).setCell (p := ⟨w.heap.size, 4, none⟩) (Nat.le_refl _) _).setCell (p := ⟨w.heap.size, 5, none⟩) (Nat.le_refl _) _).setCell (p := ⟨w.heap.size, 6, none⟩) (Nat.le_refl _) _).setCell (p := ⟨w.heap.size, 7, none⟩) (Nat.le_refl _) _
end Go.Proofs.YtkdcfijebgeajaaGreat

namespace Go.Proofs.YtkdcfijebgeajaaGreat
open Go.RowKit Go.BigFrame
set_option linter.unusedVariables false
set_option linter.unusedSimpArgs false
theorem number317 (x m : Nat) (h : x ≤ m) (hm : m ≤ 1000000) (w : World) : Calls Tryz.prog 198 #[.int .u64 x, .int .i64 m] w (Says (.int .i64 x) w) := by
  have d1 : decide ((m : Int) < (x : Int)) = false := bool_no (by omega)
  go_enter Tryz.func198, Tryz.ntmps198
  go_wp2_with fail
  go_ret
  exact ⟨rfl, rfl⟩
def magic : Nat := 7739836655157129782
def supV (th sl lo bu : Nat) : Value := lineV magic th sl lo bu 1
def Ok4 (th sl lo bu : Nat) : Prop := 1 ≤ th ∧ th ≤ 64 ∧ 1 ≤ sl ∧ sl ≤ 65536 ∧ 1 ≤ lo ∧ lo ≤ 64 ∧ 1 ≤ bu ∧ bu ≤ 64
theorem Ok4.right {th sl lo bu : Nat} (h : Ok4 th sl lo bu) : Cfg.right ⟨th, sl, lo, bu⟩ := by
  unfold Ok4 at h; unfold Cfg.right; simp only; omega
theorem six_lt {th sl lo bu : Nat} (h : Ok4 th sl lo bu) (j : Nat) : six magic th sl lo bu 1 j < 18446744073709551616 := by
  unfold Ok4 at h
  unfold six
  match j with
  | 0 => show magic < _; unfold magic; omega
  | 1 => show th < _; omega
  | 2 => show sl < _; omega
  | 3 => show lo < _; omega
  | 4 => show bu < _; omega
  | 5 => show 1 < _; omega
  | (j + 6) => simp
set_option maxRecDepth 100000 in
theorem line318 (th sl lo bu : Nat) (h : Ok4 th sl lo bu) (w : World) : Calls Tryz.prog 73 #[.agg #[.int .i64 th, .int .i64 sl, .int .i64 lo, .int .i64 bu]] w (Gives (.tuple #[supV th sl lo bu, .int .i64 0]) w) := by
  have HR := Lib.hid fun w => right_any ⟨th, sl, lo, bu⟩ w
  have d : decide (Cfg.right ⟨th, sl, lo, bu⟩) = true := decide_eq_true h.right
  rw [d] at HR
  have HS := Lib.hid fun b c w hw => summed339 b 0 magic th sl lo bu 1 c w (six_lt h) hw
  obtain ⟨a1, a2, a3, a4, a5, a6, a7, a8⟩ := h
  simp only [Cfg.cells] at HR
  go_enter Tryz.func73, Tryz.ntmps73
  go_wp2_with fail
  refine (HR.out _).mono ?_
  rintro e w1 ⟨rfl, hb⟩
  have g0 : w1.heap[w.heap.size]? = some (.cells #[.int .i64 th, .int .i64 sl, .int .i64 lo, .int .i64 bu] 23 (0, 0)) := (hb.block _ (by first | (simp; done) | (simp; omega))).trans (by rw [Below.heap_alloc _ _ _ (by simp)]; exact heap_alloc_new w _)
  have g1 : w1.heap[w.heap.size + 1]? = some (.cells zero8 142 (0, 0)) := (hb.block _ (by first | (simp; done) | (simp; omega))).trans (by have := heap_alloc_new (w.alloc (.cells #[.int .i64 th, .int .i64 sl, .int .i64 lo, .int .i64 bu] 23)) (.cells zero8 142); rwa [World.size_alloc] at this)
  have hB1 : Below w.heap.size w w1 := (((Below.refl _ _).alloc (Nat.le_refl _) _).alloc (by simp) _).trans (hb.mono (by simp; omega))
  have hs1 : w.heap.size + 2 ≤ w1.heap.size := by have := hb.size; simp at this; omega
  have c0 := cell_row g0 0 _ rfl
  have c1 := cell_row g0 1 _ rfl
  have c2 := cell_row g0 2 _ rfl
  have c3 := cell_row g0 3 _ rfl
  clear hb
  have HG := Lib.hid g1
  have HB1 := Lib.hid hB1
  have HS1 := Lib.hid hs1
  obtain ⟨S, hS⟩ : ∃ S, S = sumW (six magic th sl lo bu 1) 7 := ⟨_, rfl⟩
  have hlt : S < 4294967296 := by rw [hS]; exact sumW_lt _ _
  have HE : Hid (lineV magic th sl lo bu 1 = .agg #[.int .u64 7739836655157129782, .int .u64 th, .int .u64 sl, .int .u64 lo, .int .u64 bu, .int .u64 1, .int .u64 0, .int .u64 (S : Int)]) := Lib.hid (by rw [hS]; rfl)
  rw [HE.out] at HS
  clear hS g0 g1 hB1 hs1 d
  go_wp2_with fail
  refine (HS.out w1.heap.size 6 _ (fun j v hv => by
    rw [Nat.zero_add]
    rw [cell_in (heap_alloc_new w1 _), ← Array.getElem?_toList]; exact hv)).mono ?_
  rintro e w2 ⟨rfl, hb⟩
  have g1 : w2.heap[w.heap.size + 1]? = some (.cells zero8 142 (0, 0)) := (hb.block _ (by have := HS1.out; simp; omega)).trans ((Below.heap_alloc _ _ _ (by have := HS1.out; omega)).trans HG.out)
  have HB2 : Hid (Below w.heap.size w w2) := Lib.hid ((HB1.out.alloc HB1.out.size _).trans (hb.mono (by have := HS1.out; simp; omega)))
  clear hb
  have d0 := cell_row g1 0 _ rfl
  have d1 := cell_row g1 1 _ rfl
  have d2 := cell_row g1 2 _ rfl
  have d3 := cell_row g1 3 _ rfl
  have d4 := cell_row g1 4 _ rfl
  have d5 := cell_row g1 5 _ rfl
  have d6 := cell_row g1 6 _ rfl
  have d7 := cell_row g1 7 _ rfl
  have f1 : ∀ j, w2.frozen? ⟨w.heap.size + 1, j, none⟩ = false := fun j => by unfold World.frozen?; rw [g1]; simp
  clear g1
  go_wp2_with fail
  refine bodyPost_ret (v := .tuple #[supV th sl lo bu, .int .i64 0]) ?_ rfl ⟨rfl, ?_⟩
  · unfold supV; rw [HE.out]; simp [results, Tryz.results73, go_sem, d0, d1, d2, d3, d4, d5, d6, d7]
  · exact ((((((((HB2.out).setCell (p := ⟨w.heap.size + 1, 0, none⟩) (Nat.le_succ _) _).setCell (p := ⟨w.heap.size + 1, 1, none⟩) (Nat.le_succ _) _).setCell (p := ⟨w.heap.size + 1, 2, none⟩) (Nat.le_succ _) _).setCell (p := ⟨w.heap.size + 1, 3, none⟩) (Nat.le_succ _) _).setCell (p := ⟨w.heap.size + 1, 4, none⟩) (Nat.le_succ _) _).setCell (p := ⟨w.heap.size + 1, 5, none⟩) (Nat.le_succ _) _).setCell (p := ⟨w.heap.size + 1, 6, none⟩) (Nat.le_succ _) _).setCell (p := ⟨w.heap.size + 1, 7, none⟩) (Nat.le_succ _) _
end Go.Proofs.YtkdcfijebgeajaaGreat

namespace Go.Proofs.YtkdcfijebgeajaaGreat
open Go.RowKit Go.BigFrame
set_option linter.unusedVariables false
set_option linter.unusedSimpArgs false
set_option maxRecDepth 100000 in
set_option maxHeartbeats 4000000 in
theorem read_yes (i0 i1 i2 i3 i4 i5 i6 i7 o0 o1 o2 o3 o4 o5 o6 o7 m1 m2 m3 m4 : Int) (N1 : Hid (∀ w, Calls Tryz.prog 198 #[.int .u64 i1, .int .i64 64] w (Says (.int .i64 m1) w))) (N2 : Hid (∀ w, Calls Tryz.prog 198 #[.int .u64 i2, .int .i64 65536] w (Says (.int .i64 m2) w))) (N3 : Hid (∀ w, Calls Tryz.prog 198 #[.int .u64 i3, .int .i64 64] w (Says (.int .i64 m3) w))) (N4 : Hid (∀ w, Calls Tryz.prog 198 #[.int .u64 i4, .int .i64 64] w (Says (.int .i64 m4) w)))
    (HL : Hid (∀ w, Calls Tryz.prog 73 #[.agg #[.int .i64 m1, .int .i64 m2, .int .i64 m3, .int .i64 m4]] w (Gives (.tuple #[.agg #[.int .u64 o0, .int .u64 o1, .int .u64 o2, .int .u64 o3, .int .u64 o4, .int .u64 o5, .int .u64 o6, .int .u64 o7], .int .i64 0]) w))) (HE : Hid (∀ w, (Op.equalIn 10000 142 (.agg #[.int .u64 o0, .int .u64 o1, .int .u64 o2, .int .u64 o3, .int .u64 o4, .int .u64 o5, .int .u64 o6, .int .u64 o7]) (.agg #[.int .u64 i0, .int .u64 i1, .int .u64 i2, .int .u64 i3, .int .u64 i4, .int .u64 i5, .int .u64 i6, .int .u64 i7])).run Tryz.prog w = .ok true w)) (w : World) : Calls Tryz.prog 148 #[.agg #[.int .u64 i0, .int .u64 i1, .int .u64 i2, .int .u64 i3, .int .u64 i4, .int .u64 i5, .int .u64 i6, .int .u64 i7]] w (Gives (.tuple #[.agg #[.int .i64 m1, .int .i64 m2, .int .i64 m3, .int .i64 m4], .int .i64 0]) w) := by
  have HW : Hid (∀ W3 : World, W3 = (((w.alloc (.cells #[.int .u64 i0, .int .u64 i1, .int .u64 i2, .int .u64 i3, .int .u64 i4, .int .u64 i5, .int .u64 i6, .int .u64 i7] 142)).alloc (.cells #[.int .i64 0, .int .i64 0, .int .i64 0, .int .i64 0] 23)).alloc (.cells #[.int .i64 m1, .int .i64 m2, .int .i64 m3, .int .i64 m4] 23)).drew → W3.heap[w.heap.size]? = some (.cells #[.int .u64 i0, .int .u64 i1, .int .u64 i2, .int .u64 i3, .int .u64 i4, .int .u64 i5, .int .u64 i6, .int .u64 i7] 142 (0, 0)) ∧ W3.heap[w.heap.size + 1]? = some (.cells #[.int .i64 0, .int .i64 0, .int .i64 0, .int .i64 0] 23 (0, 0)) ∧ W3.heap[w.heap.size + 2]? = some (.cells #[.int .i64 m1, .int .i64 m2, .int .i64 m3, .int .i64 m4] 23 (0, 0)) ∧ Below w.heap.size w W3 ∧ W3.heap.size = w.heap.size + 3) := Lib.hid fun W3 e => by
    subst e
    refine ⟨?_, ?_, ?_, ?_, by simp [World.drew]⟩
    · exact (Below.heap_alloc _ _ _ (by simp; omega)).trans ((Below.heap_alloc _ _ _ (by simp)).trans (heap_alloc_new w _))
    · exact (Below.heap_alloc _ _ _ (by simp)).trans (by have := heap_alloc_new (w.alloc (.cells #[.int .u64 i0, .int .u64 i1, .int .u64 i2, .int .u64 i3, .int .u64 i4, .int .u64 i5, .int .u64 i6, .int .u64 i7] 142)) (.cells #[.int .i64 0, .int .i64 0, .int .i64 0, .int .i64 0] 23); rwa [World.size_alloc] at this)
    · have := heap_alloc_new ((w.alloc (.cells #[.int .u64 i0, .int .u64 i1, .int .u64 i2, .int .u64 i3, .int .u64 i4, .int .u64 i5, .int .u64 i6, .int .u64 i7] 142)).alloc (.cells #[.int .i64 0, .int .i64 0, .int .i64 0, .int .i64 0] 23)) (.cells #[.int .i64 m1, .int .i64 m2, .int .i64 m3, .int .i64 m4] 23); rwa [World.size_alloc, World.size_alloc] at this
    · exact ((((Below.refl _ _).alloc (Nat.le_refl _) _).alloc (by simp) _).alloc (by simp; omega) _).drew
  go_enter Tryz.func148, Tryz.ntmps148
  go_wp2_with fail
  have hh : ∀ o, (((w.alloc (.cells #[.int .u64 i0, .int .u64 i1, .int .u64 i2, .int .u64 i3, .int .u64 i4, .int .u64 i5, .int .u64 i6, .int .u64 i7] 142)).alloc (.cells #[.int .i64 0, .int .i64 0, .int .i64 0, .int .i64 0] 23)).cell? ⟨w.heap.size, o, none⟩) = #[Value.int .u64 i0, .int .u64 i1, .int .u64 i2, .int .u64 i3, .int .u64 i4, .int .u64 i5, .int .u64 i6, .int .u64 i7][o]? := fun o => by
    rw [cell_in ((Below.heap_alloc _ _ _ (by simp)).trans (heap_alloc_new w _))]
  have c1 := hh 1
  have c2 := hh 2
  have c3 := hh 3
  have c4 := hh 4
  simp only [List.getElem?_toArray, List.getElem?_cons_succ, List.getElem?_cons_zero] at c1 c2 c3 c4
  clear hh
  go_region_held3 (fun w' => w'.cell? ⟨w.heap.size, 1, none⟩ = some (.int .u64 i1) ∧ w'.cell? ⟨w.heap.size, 2, none⟩ = some (.int .u64 i2) ∧ w'.cell? ⟨w.heap.size, 3, none⟩ = some (.int .u64 i3) ∧ w'.cell? ⟨w.heap.size, 4, none⟩ = some (.int .u64 i4)) (go_keep) (first | (go_at_call 198; first | ((with_reducible refine (N1.out _).mono ?_); rintro e w8 ⟨rfl, hw⟩; cases hw) | ((with_reducible refine (N2.out _).mono ?_); rintro e w8 ⟨rfl, hw⟩; cases hw) | ((with_reducible refine (N3.out _).mono ?_); rintro e w8 ⟨rfl, hw⟩; cases hw) | ((with_reducible refine (N4.out _).mono ?_); rintro e w8 ⟨rfl, hw⟩; cases hw)))
  all_goals
    clear c1 c2 c3 c4 N1 N2 N3 N4
    obtain ⟨W3, hW3⟩ : ∃ W3, W3 = (((w.alloc (.cells #[.int .u64 i0, .int .u64 i1, .int .u64 i2, .int .u64 i3, .int .u64 i4, .int .u64 i5, .int .u64 i6, .int .u64 i7] 142)).alloc (.cells #[.int .i64 0, .int .i64 0, .int .i64 0, .int .i64 0] 23)).alloc (.cells #[.int .i64 m1, .int .i64 m2, .int .i64 m3, .int .i64 m4] 23)).drew := ⟨_, rfl⟩
    rw [← hW3]
    obtain ⟨g0, g1, g2, hB, hs⟩ := HW.out W3 hW3
    clear hW3 HW
    rename_i hheld
    clear hheld
    have q0 := cell_row g2 0 _ rfl
    have q1 := cell_row g2 1 _ rfl
    have q2 := cell_row g2 2 _ rfl
    have q3 := cell_row g2 3 _ rfl
    have HG0 := Lib.hid g0
    have HG1 := Lib.hid g1
    have HG2 := Lib.hid g2
    have HB3 := Lib.hid hB
    have HS3 := Lib.hid hs
    clear g0 g1 g2 hB hs
    go_wp2_with fail
    refine (HL.out _).mono ?_
    rintro e w4 ⟨rfl, hb⟩
    have g0 := (hb.block _ (by have := HS3.out; omega)).trans HG0.out
    have g1 := (hb.block _ (by have := HS3.out; omega)).trans HG1.out
    have g2 := (hb.block _ (by have := HS3.out; omega)).trans HG2.out
    have HB4 : Hid (Below w.heap.size w w4) := Lib.hid (HB3.out.trans (hb.mono (by have := HS3.out; omega)))
    have n0 : w.heap.size ≠ w4.heap.size := by have := hb.size; have := HS3.out; omega
    have n1 : w.heap.size + 1 ≠ w4.heap.size := by have := hb.size; have := HS3.out; omega
    have n2 : w.heap.size + 2 ≠ w4.heap.size := by have := hb.size; have := HS3.out; omega
    have l0 : w.heap.size < w4.heap.size := by have := hb.size; have := HS3.out; omega
    have l1 : w.heap.size + 1 < w4.heap.size := by have := hb.size; have := HS3.out; omega
    have l2 : w.heap.size + 2 < w4.heap.size := by have := hb.size; have := HS3.out; omega
    have rf : ∀ j, w4.frozen? ⟨w.heap.size + 1, j, none⟩ = false := fun j => by unfold World.frozen?; rw [g1]; simp
    have b0 := cell_row g0 0 _ rfl
    have b1 := cell_row g0 1 _ rfl
    have b2 := cell_row g0 2 _ rfl
    have b3 := cell_row g0 3 _ rfl
    have b4 := cell_row g0 4 _ rfl
    have b5 := cell_row g0 5 _ rfl
    have b6 := cell_row g0 6 _ rfl
    have b7 := cell_row g0 7 _ rfl
    have r0 := cell_row g1 0 _ rfl
    have r1 := cell_row g1 1 _ rfl
    have r2 := cell_row g1 2 _ rfl
    have r3 := cell_row g1 3 _ rfl
    have q0 := cell_row g2 0 _ rfl
    have q1 := cell_row g2 1 _ rfl
    have q2 := cell_row g2 2 _ rfl
    have q3 := cell_row g2 3 _ rfl
    clear hb g0 g1 g2 HG0 HG1 HG2 HB3 HS3
    have heq := HE.out
    go_wp2_with fail
    refine bodyPost_ret (v := .tuple #[.agg #[.int .i64 m1, .int .i64 m2, .int .i64 m3, .int .i64 m4], .int .i64 0]) ?_ rfl ⟨rfl, ?_⟩
    · simp [results, Tryz.results148, go_sem, r0, r1, r2, r3, n1, l1]
    · have X := ((((HB4.out).setCell (p := ⟨w.heap.size + 1, 0, none⟩) (Nat.le_succ _) (.int .i64 m1)).setCell (p := ⟨w.heap.size + 1, 1, none⟩) (Nat.le_succ _) (.int .i64 m2)).setCell (p := ⟨w.heap.size + 1, 2, none⟩) (Nat.le_succ _) (.int .i64 m3)).setCell (p := ⟨w.heap.size + 1, 3, none⟩) (Nat.le_succ _) (.int .i64 m4)
      exact X.alloc X.size _
set_option maxRecDepth 100000 in
set_option maxHeartbeats 4000000 in
theorem read_ne (i0 i1 i2 i3 i4 i5 i6 i7 o0 o1 o2 o3 o4 o5 o6 o7 m1 m2 m3 m4 : Int) (N1 : Hid (∀ w, Calls Tryz.prog 198 #[.int .u64 i1, .int .i64 64] w (Says (.int .i64 m1) w))) (N2 : Hid (∀ w, Calls Tryz.prog 198 #[.int .u64 i2, .int .i64 65536] w (Says (.int .i64 m2) w))) (N3 : Hid (∀ w, Calls Tryz.prog 198 #[.int .u64 i3, .int .i64 64] w (Says (.int .i64 m3) w))) (N4 : Hid (∀ w, Calls Tryz.prog 198 #[.int .u64 i4, .int .i64 64] w (Says (.int .i64 m4) w)))
    (HL : Hid (∀ w, Calls Tryz.prog 73 #[.agg #[.int .i64 m1, .int .i64 m2, .int .i64 m3, .int .i64 m4]] w (Gives (.tuple #[.agg #[.int .u64 o0, .int .u64 o1, .int .u64 o2, .int .u64 o3, .int .u64 o4, .int .u64 o5, .int .u64 o6, .int .u64 o7], .int .i64 0]) w))) (HE : Hid (∀ w, (Op.equalIn 10000 142 (.agg #[.int .u64 o0, .int .u64 o1, .int .u64 o2, .int .u64 o3, .int .u64 o4, .int .u64 o5, .int .u64 o6, .int .u64 o7]) (.agg #[.int .u64 i0, .int .u64 i1, .int .u64 i2, .int .u64 i3, .int .u64 i4, .int .u64 i5, .int .u64 i6, .int .u64 i7])).run Tryz.prog w = .ok false w)) (w : World) : Calls Tryz.prog 148 #[.agg #[.int .u64 i0, .int .u64 i1, .int .u64 i2, .int .u64 i3, .int .u64 i4, .int .u64 i5, .int .u64 i6, .int .u64 i7]] w (Gives (.tuple #[.agg #[.int .i64 0, .int .i64 0, .int .i64 0, .int .i64 0], .int .i64 8]) w) := by
  have HW : Hid (∀ W3 : World, W3 = (((w.alloc (.cells #[.int .u64 i0, .int .u64 i1, .int .u64 i2, .int .u64 i3, .int .u64 i4, .int .u64 i5, .int .u64 i6, .int .u64 i7] 142)).alloc (.cells #[.int .i64 0, .int .i64 0, .int .i64 0, .int .i64 0] 23)).alloc (.cells #[.int .i64 m1, .int .i64 m2, .int .i64 m3, .int .i64 m4] 23)).drew → W3.heap[w.heap.size]? = some (.cells #[.int .u64 i0, .int .u64 i1, .int .u64 i2, .int .u64 i3, .int .u64 i4, .int .u64 i5, .int .u64 i6, .int .u64 i7] 142 (0, 0)) ∧ W3.heap[w.heap.size + 1]? = some (.cells #[.int .i64 0, .int .i64 0, .int .i64 0, .int .i64 0] 23 (0, 0)) ∧ W3.heap[w.heap.size + 2]? = some (.cells #[.int .i64 m1, .int .i64 m2, .int .i64 m3, .int .i64 m4] 23 (0, 0)) ∧ Below w.heap.size w W3 ∧ W3.heap.size = w.heap.size + 3) := Lib.hid fun W3 e => by
    subst e
    refine ⟨?_, ?_, ?_, ?_, by simp [World.drew]⟩
    · exact (Below.heap_alloc _ _ _ (by simp; omega)).trans ((Below.heap_alloc _ _ _ (by simp)).trans (heap_alloc_new w _))
    · exact (Below.heap_alloc _ _ _ (by simp)).trans (by have := heap_alloc_new (w.alloc (.cells #[.int .u64 i0, .int .u64 i1, .int .u64 i2, .int .u64 i3, .int .u64 i4, .int .u64 i5, .int .u64 i6, .int .u64 i7] 142)) (.cells #[.int .i64 0, .int .i64 0, .int .i64 0, .int .i64 0] 23); rwa [World.size_alloc] at this)
    · have := heap_alloc_new ((w.alloc (.cells #[.int .u64 i0, .int .u64 i1, .int .u64 i2, .int .u64 i3, .int .u64 i4, .int .u64 i5, .int .u64 i6, .int .u64 i7] 142)).alloc (.cells #[.int .i64 0, .int .i64 0, .int .i64 0, .int .i64 0] 23)) (.cells #[.int .i64 m1, .int .i64 m2, .int .i64 m3, .int .i64 m4] 23); rwa [World.size_alloc, World.size_alloc] at this
    · exact ((((Below.refl _ _).alloc (Nat.le_refl _) _).alloc (by simp) _).alloc (by simp; omega) _).drew
  go_enter Tryz.func148, Tryz.ntmps148
  go_wp2_with fail
  have hh : ∀ o, (((w.alloc (.cells #[.int .u64 i0, .int .u64 i1, .int .u64 i2, .int .u64 i3, .int .u64 i4, .int .u64 i5, .int .u64 i6, .int .u64 i7] 142)).alloc (.cells #[.int .i64 0, .int .i64 0, .int .i64 0, .int .i64 0] 23)).cell? ⟨w.heap.size, o, none⟩) = #[Value.int .u64 i0, .int .u64 i1, .int .u64 i2, .int .u64 i3, .int .u64 i4, .int .u64 i5, .int .u64 i6, .int .u64 i7][o]? := fun o => by
    rw [cell_in ((Below.heap_alloc _ _ _ (by simp)).trans (heap_alloc_new w _))]
  have c1 := hh 1
  have c2 := hh 2
  have c3 := hh 3
  have c4 := hh 4
  simp only [List.getElem?_toArray, List.getElem?_cons_succ, List.getElem?_cons_zero] at c1 c2 c3 c4
  clear hh
  go_region_held3 (fun w' => w'.cell? ⟨w.heap.size, 1, none⟩ = some (.int .u64 i1) ∧ w'.cell? ⟨w.heap.size, 2, none⟩ = some (.int .u64 i2) ∧ w'.cell? ⟨w.heap.size, 3, none⟩ = some (.int .u64 i3) ∧ w'.cell? ⟨w.heap.size, 4, none⟩ = some (.int .u64 i4)) (go_keep) (first | (go_at_call 198; first | ((with_reducible refine (N1.out _).mono ?_); rintro e w8 ⟨rfl, hw⟩; cases hw) | ((with_reducible refine (N2.out _).mono ?_); rintro e w8 ⟨rfl, hw⟩; cases hw) | ((with_reducible refine (N3.out _).mono ?_); rintro e w8 ⟨rfl, hw⟩; cases hw) | ((with_reducible refine (N4.out _).mono ?_); rintro e w8 ⟨rfl, hw⟩; cases hw)))
  all_goals
    clear c1 c2 c3 c4 N1 N2 N3 N4
    obtain ⟨W3, hW3⟩ : ∃ W3, W3 = (((w.alloc (.cells #[.int .u64 i0, .int .u64 i1, .int .u64 i2, .int .u64 i3, .int .u64 i4, .int .u64 i5, .int .u64 i6, .int .u64 i7] 142)).alloc (.cells #[.int .i64 0, .int .i64 0, .int .i64 0, .int .i64 0] 23)).alloc (.cells #[.int .i64 m1, .int .i64 m2, .int .i64 m3, .int .i64 m4] 23)).drew := ⟨_, rfl⟩
    rw [← hW3]
    obtain ⟨g0, g1, g2, hB, hs⟩ := HW.out W3 hW3
    clear hW3 HW
    rename_i hheld
    clear hheld
    have q0 := cell_row g2 0 _ rfl
    have q1 := cell_row g2 1 _ rfl
    have q2 := cell_row g2 2 _ rfl
    have q3 := cell_row g2 3 _ rfl
    have HG0 := Lib.hid g0
    have HG1 := Lib.hid g1
    have HG2 := Lib.hid g2
    have HB3 := Lib.hid hB
    have HS3 := Lib.hid hs
    clear g0 g1 g2 hB hs
    go_wp2_with fail
    refine (HL.out _).mono ?_
    rintro e w4 ⟨rfl, hb⟩
    have g0 := (hb.block _ (by have := HS3.out; omega)).trans HG0.out
    have g1 := (hb.block _ (by have := HS3.out; omega)).trans HG1.out
    have g2 := (hb.block _ (by have := HS3.out; omega)).trans HG2.out
    have HB4 : Hid (Below w.heap.size w w4) := Lib.hid (HB3.out.trans (hb.mono (by have := HS3.out; omega)))
    have n0 : w.heap.size ≠ w4.heap.size := by have := hb.size; have := HS3.out; omega
    have n1 : w.heap.size + 1 ≠ w4.heap.size := by have := hb.size; have := HS3.out; omega
    have n2 : w.heap.size + 2 ≠ w4.heap.size := by have := hb.size; have := HS3.out; omega
    have l0 : w.heap.size < w4.heap.size := by have := hb.size; have := HS3.out; omega
    have l1 : w.heap.size + 1 < w4.heap.size := by have := hb.size; have := HS3.out; omega
    have l2 : w.heap.size + 2 < w4.heap.size := by have := hb.size; have := HS3.out; omega
    have rf : ∀ j, w4.frozen? ⟨w.heap.size + 1, j, none⟩ = false := fun j => by unfold World.frozen?; rw [g1]; simp
    have b0 := cell_row g0 0 _ rfl
    have b1 := cell_row g0 1 _ rfl
    have b2 := cell_row g0 2 _ rfl
    have b3 := cell_row g0 3 _ rfl
    have b4 := cell_row g0 4 _ rfl
    have b5 := cell_row g0 5 _ rfl
    have b6 := cell_row g0 6 _ rfl
    have b7 := cell_row g0 7 _ rfl
    have r0 := cell_row g1 0 _ rfl
    have r1 := cell_row g1 1 _ rfl
    have r2 := cell_row g1 2 _ rfl
    have r3 := cell_row g1 3 _ rfl
    have q0 := cell_row g2 0 _ rfl
    have q1 := cell_row g2 1 _ rfl
    have q2 := cell_row g2 2 _ rfl
    have q3 := cell_row g2 3 _ rfl
    clear hb g0 g1 g2 HG0 HG1 HG2 HB3 HS3
    have heq := HE.out
    go_wp2_with fail
    refine bodyPost_ret (v := .tuple #[.agg #[.int .i64 0, .int .i64 0, .int .i64 0, .int .i64 0], .int .i64 8]) ?_ rfl ⟨rfl, ?_⟩
    · simp [results, Tryz.results148, go_sem, r0, r1, r2, r3, n1, l1]
    · have X := ((((HB4.out).setCell (p := ⟨w.heap.size + 1, 0, none⟩) (Nat.le_succ _) (.int .i64 0)).setCell (p := ⟨w.heap.size + 1, 1, none⟩) (Nat.le_succ _) (.int .i64 0)).setCell (p := ⟨w.heap.size + 1, 2, none⟩) (Nat.le_succ _) (.int .i64 0)).setCell (p := ⟨w.heap.size + 1, 3, none⟩) (Nat.le_succ _) (.int .i64 0)
      exact X.alloc X.size _
set_option maxRecDepth 100000 in
set_option maxHeartbeats 4000000 in
theorem read_er (i0 i1 i2 i3 i4 i5 i6 i7 o0 o1 o2 o3 o4 o5 o6 o7 m1 m2 m3 m4 : Int) (N1 : Hid (∀ w, Calls Tryz.prog 198 #[.int .u64 i1, .int .i64 64] w (Says (.int .i64 m1) w))) (N2 : Hid (∀ w, Calls Tryz.prog 198 #[.int .u64 i2, .int .i64 65536] w (Says (.int .i64 m2) w))) (N3 : Hid (∀ w, Calls Tryz.prog 198 #[.int .u64 i3, .int .i64 64] w (Says (.int .i64 m3) w))) (N4 : Hid (∀ w, Calls Tryz.prog 198 #[.int .u64 i4, .int .i64 64] w (Says (.int .i64 m4) w)))
    (HL : Hid (∀ w, Calls Tryz.prog 73 #[.agg #[.int .i64 m1, .int .i64 m2, .int .i64 m3, .int .i64 m4]] w (Gives (.tuple #[.agg #[.int .u64 o0, .int .u64 o1, .int .u64 o2, .int .u64 o3, .int .u64 o4, .int .u64 o5, .int .u64 o6, .int .u64 o7], .int .i64 1]) w))) (w : World) : Calls Tryz.prog 148 #[.agg #[.int .u64 i0, .int .u64 i1, .int .u64 i2, .int .u64 i3, .int .u64 i4, .int .u64 i5, .int .u64 i6, .int .u64 i7]] w (Gives (.tuple #[.agg #[.int .i64 0, .int .i64 0, .int .i64 0, .int .i64 0], .int .i64 8]) w) := by
  have HW : Hid (∀ W3 : World, W3 = (((w.alloc (.cells #[.int .u64 i0, .int .u64 i1, .int .u64 i2, .int .u64 i3, .int .u64 i4, .int .u64 i5, .int .u64 i6, .int .u64 i7] 142)).alloc (.cells #[.int .i64 0, .int .i64 0, .int .i64 0, .int .i64 0] 23)).alloc (.cells #[.int .i64 m1, .int .i64 m2, .int .i64 m3, .int .i64 m4] 23)).drew → W3.heap[w.heap.size]? = some (.cells #[.int .u64 i0, .int .u64 i1, .int .u64 i2, .int .u64 i3, .int .u64 i4, .int .u64 i5, .int .u64 i6, .int .u64 i7] 142 (0, 0)) ∧ W3.heap[w.heap.size + 1]? = some (.cells #[.int .i64 0, .int .i64 0, .int .i64 0, .int .i64 0] 23 (0, 0)) ∧ W3.heap[w.heap.size + 2]? = some (.cells #[.int .i64 m1, .int .i64 m2, .int .i64 m3, .int .i64 m4] 23 (0, 0)) ∧ Below w.heap.size w W3 ∧ W3.heap.size = w.heap.size + 3) := Lib.hid fun W3 e => by
    subst e
    refine ⟨?_, ?_, ?_, ?_, by simp [World.drew]⟩
    · exact (Below.heap_alloc _ _ _ (by simp; omega)).trans ((Below.heap_alloc _ _ _ (by simp)).trans (heap_alloc_new w _))
    · exact (Below.heap_alloc _ _ _ (by simp)).trans (by have := heap_alloc_new (w.alloc (.cells #[.int .u64 i0, .int .u64 i1, .int .u64 i2, .int .u64 i3, .int .u64 i4, .int .u64 i5, .int .u64 i6, .int .u64 i7] 142)) (.cells #[.int .i64 0, .int .i64 0, .int .i64 0, .int .i64 0] 23); rwa [World.size_alloc] at this)
    · have := heap_alloc_new ((w.alloc (.cells #[.int .u64 i0, .int .u64 i1, .int .u64 i2, .int .u64 i3, .int .u64 i4, .int .u64 i5, .int .u64 i6, .int .u64 i7] 142)).alloc (.cells #[.int .i64 0, .int .i64 0, .int .i64 0, .int .i64 0] 23)) (.cells #[.int .i64 m1, .int .i64 m2, .int .i64 m3, .int .i64 m4] 23); rwa [World.size_alloc, World.size_alloc] at this
    · exact ((((Below.refl _ _).alloc (Nat.le_refl _) _).alloc (by simp) _).alloc (by simp; omega) _).drew
  go_enter Tryz.func148, Tryz.ntmps148
  go_wp2_with fail
  have hh : ∀ o, (((w.alloc (.cells #[.int .u64 i0, .int .u64 i1, .int .u64 i2, .int .u64 i3, .int .u64 i4, .int .u64 i5, .int .u64 i6, .int .u64 i7] 142)).alloc (.cells #[.int .i64 0, .int .i64 0, .int .i64 0, .int .i64 0] 23)).cell? ⟨w.heap.size, o, none⟩) = #[Value.int .u64 i0, .int .u64 i1, .int .u64 i2, .int .u64 i3, .int .u64 i4, .int .u64 i5, .int .u64 i6, .int .u64 i7][o]? := fun o => by
    rw [cell_in ((Below.heap_alloc _ _ _ (by simp)).trans (heap_alloc_new w _))]
  have c1 := hh 1
  have c2 := hh 2
  have c3 := hh 3
  have c4 := hh 4
  simp only [List.getElem?_toArray, List.getElem?_cons_succ, List.getElem?_cons_zero] at c1 c2 c3 c4
  clear hh
  go_region_held3 (fun w' => w'.cell? ⟨w.heap.size, 1, none⟩ = some (.int .u64 i1) ∧ w'.cell? ⟨w.heap.size, 2, none⟩ = some (.int .u64 i2) ∧ w'.cell? ⟨w.heap.size, 3, none⟩ = some (.int .u64 i3) ∧ w'.cell? ⟨w.heap.size, 4, none⟩ = some (.int .u64 i4)) (go_keep) (first | (go_at_call 198; first | ((with_reducible refine (N1.out _).mono ?_); rintro e w8 ⟨rfl, hw⟩; cases hw) | ((with_reducible refine (N2.out _).mono ?_); rintro e w8 ⟨rfl, hw⟩; cases hw) | ((with_reducible refine (N3.out _).mono ?_); rintro e w8 ⟨rfl, hw⟩; cases hw) | ((with_reducible refine (N4.out _).mono ?_); rintro e w8 ⟨rfl, hw⟩; cases hw)))
  all_goals
    clear c1 c2 c3 c4 N1 N2 N3 N4
    obtain ⟨W3, hW3⟩ : ∃ W3, W3 = (((w.alloc (.cells #[.int .u64 i0, .int .u64 i1, .int .u64 i2, .int .u64 i3, .int .u64 i4, .int .u64 i5, .int .u64 i6, .int .u64 i7] 142)).alloc (.cells #[.int .i64 0, .int .i64 0, .int .i64 0, .int .i64 0] 23)).alloc (.cells #[.int .i64 m1, .int .i64 m2, .int .i64 m3, .int .i64 m4] 23)).drew := ⟨_, rfl⟩
    rw [← hW3]
    obtain ⟨g0, g1, g2, hB, hs⟩ := HW.out W3 hW3
    clear hW3 HW
    rename_i hheld
    clear hheld
    have q0 := cell_row g2 0 _ rfl
    have q1 := cell_row g2 1 _ rfl
    have q2 := cell_row g2 2 _ rfl
    have q3 := cell_row g2 3 _ rfl
    have HG0 := Lib.hid g0
    have HG1 := Lib.hid g1
    have HG2 := Lib.hid g2
    have HB3 := Lib.hid hB
    have HS3 := Lib.hid hs
    clear g0 g1 g2 hB hs
    go_wp2_with fail
    refine (HL.out _).mono ?_
    rintro e w4 ⟨rfl, hb⟩
    have g0 := (hb.block _ (by have := HS3.out; omega)).trans HG0.out
    have g1 := (hb.block _ (by have := HS3.out; omega)).trans HG1.out
    have g2 := (hb.block _ (by have := HS3.out; omega)).trans HG2.out
    have HB4 : Hid (Below w.heap.size w w4) := Lib.hid (HB3.out.trans (hb.mono (by have := HS3.out; omega)))
    have n0 : w.heap.size ≠ w4.heap.size := by have := hb.size; have := HS3.out; omega
    have n1 : w.heap.size + 1 ≠ w4.heap.size := by have := hb.size; have := HS3.out; omega
    have n2 : w.heap.size + 2 ≠ w4.heap.size := by have := hb.size; have := HS3.out; omega
    have l0 : w.heap.size < w4.heap.size := by have := hb.size; have := HS3.out; omega
    have l1 : w.heap.size + 1 < w4.heap.size := by have := hb.size; have := HS3.out; omega
    have l2 : w.heap.size + 2 < w4.heap.size := by have := hb.size; have := HS3.out; omega
    have rf : ∀ j, w4.frozen? ⟨w.heap.size + 1, j, none⟩ = false := fun j => by unfold World.frozen?; rw [g1]; simp
    have b0 := cell_row g0 0 _ rfl
    have b1 := cell_row g0 1 _ rfl
    have b2 := cell_row g0 2 _ rfl
    have b3 := cell_row g0 3 _ rfl
    have b4 := cell_row g0 4 _ rfl
    have b5 := cell_row g0 5 _ rfl
    have b6 := cell_row g0 6 _ rfl
    have b7 := cell_row g0 7 _ rfl
    have r0 := cell_row g1 0 _ rfl
    have r1 := cell_row g1 1 _ rfl
    have r2 := cell_row g1 2 _ rfl
    have r3 := cell_row g1 3 _ rfl
    have q0 := cell_row g2 0 _ rfl
    have q1 := cell_row g2 1 _ rfl
    have q2 := cell_row g2 2 _ rfl
    have q3 := cell_row g2 3 _ rfl
    clear hb g0 g1 g2 HG0 HG1 HG2 HB3 HS3
    go_wp2_with fail
    refine bodyPost_ret (v := .tuple #[.agg #[.int .i64 0, .int .i64 0, .int .i64 0, .int .i64 0], .int .i64 8]) ?_ rfl ⟨rfl, ?_⟩
    · simp [results, Tryz.results148, go_sem, r0, r1, r2, r3, n1, l1]
    · have X := ((((HB4.out).setCell (p := ⟨w.heap.size + 1, 0, none⟩) (Nat.le_succ _) (.int .i64 0)).setCell (p := ⟨w.heap.size + 1, 1, none⟩) (Nat.le_succ _) (.int .i64 0)).setCell (p := ⟨w.heap.size + 1, 2, none⟩) (Nat.le_succ _) (.int .i64 0)).setCell (p := ⟨w.heap.size + 1, 3, none⟩) (Nat.le_succ _) (.int .i64 0)
      exact X.alloc X.size _
end Go.Proofs.YtkdcfijebgeajaaGreat
