/- Walk of wear.Count. -/
import Derived.Test.YtfjddkjfkgdihaaW2e
import Derived.Test.YtfjddkjfkgdihaaW4
import Derived.Laws.Pointers
import Derived.RegionTactic
import Derived.BigRegion
import Derived.ChangeAlike
import Derived.Deep.OwnRows
import Derived.BigQuiet
namespace Go.Proofs.Ytfjddkjfkgdihaa
open Go.RowKit Go.BigFrame
set_option linter.unusedVariables false

def tallyV (F : Nat → Int) (a : Option Addr) (n cap : Nat) : Value := .agg #[.int .i64 (F 0), .int .i64 (F 1), .int .i64 (F 2), .int .i64 (F 3), .int .i64 (F 4), .int .i64 (F 5), .int .i64 (F 6), .int .i64 (F 7), .int .i64 (F 8), .slice a n cap]

def CountTo (F : Nat → Int) (n : Nat) (T : Nat → Int) (w : World) (e : Ending) (w' : World) : Prop :=
  ∃ g, e = .returned (tallyV F (some ⟨g, 0, none⟩) n n) ∧ Below w.heap.size w w' ∧ w.heap.size ≤ g ∧ g < w'.heap.size ∧ ∀ j, j < n → w'.cell? ⟨g, j, none⟩ = some (.int .i64 (T j))

theorem Hid_mk {p : Prop} (h : p) : Hid p := h

def zTally : Array Value := #[.int .i64 0, .int .i64 0, .int .i64 0, .int .i64 0, .int .i64 0, .int .i64 0, .int .i64 0, .int .i64 0, .int .i64 0, .slice none 0 0]
theorem ztally_cells {w : World} {B : Nat} (h : w.heap[B]? = some (.cells zTally 53 (0, 0))) :
    w.cell? ⟨B, 0, none⟩ = some (.int .i64 0) ∧ w.cell? ⟨B, 1, none⟩ = some (.int .i64 0) ∧ w.cell? ⟨B, 2, none⟩ = some (.int .i64 0) ∧ w.cell? ⟨B, 3, none⟩ = some (.int .i64 0) ∧ w.cell? ⟨B, 4, none⟩ = some (.int .i64 0) ∧ w.cell? ⟨B, 5, none⟩ = some (.int .i64 0) ∧ w.cell? ⟨B, 6, none⟩ = some (.int .i64 0) ∧ w.cell? ⟨B, 7, none⟩ = some (.int .i64 0) ∧ w.cell? ⟨B, 8, none⟩ = some (.int .i64 0) ∧ w.cell? ⟨B, 9, none⟩ = some (.slice none 0 0) ∧ ∀ j, w.frozen? ⟨B, j, none⟩ = false := by
  refine ⟨?_, ?_, ?_, ?_, ?_, ?_, ?_, ?_, ?_, ?_, fun j => ?_⟩
  all_goals first | (rw [cell_of_row _ _ _ _ _ _ h]; rfl) | (unfold World.frozen?; rw [h]; simp)
theorem cnt_step (p : AccD → Bool) (c : Nat → AccD) (k : Nat) : ((cnt p c k : Nat) : Int) + (if p (c k) = true then 1 else 0) = (cnt p c (k + 1) : Nat) := by
  show _ = ((cnt p c k + if p (c k) then 1 else 0 : Nat) : Int)
  split <;> simp
theorem cnt_step' {q : Int} (c : Nat → AccD) (k : Nat) : ((cnt (fun x => decide (x.th = q)) c k : Nat) : Int) + (if (c k).th = q then 1 else 0) = (cnt (fun x => decide (x.th = q)) c (k + 1) : Nat) := by
  rw [← cnt_step]; simp
theorem tally_start (w : World) (n : Nat) (hz : ∀ j, j < n → (madeCells #[Value.int .i64 0] n)[j]? = some (.int .i64 0)) :
    TallyAt (((w.alloc (.cells zTally 53)).alloc (.cells (madeCells #[.int .i64 0] n) 3)).alloc (.cells (zTally.setIfInBounds 9 (.slice (some ⟨w.heap.size + 1, 0, none⟩) n n)) 53)) (w.heap.size + 1 + 1) (fun _ => 0) (w.heap.size + 1) n (fun _ => 0) := by
  have hT : (((w.alloc (.cells zTally 53)).alloc (.cells (madeCells #[.int .i64 0] n) 3)).alloc (.cells (zTally.setIfInBounds 9 (.slice (some ⟨w.heap.size + 1, 0, none⟩) n n)) 53)).heap[w.heap.size + 1 + 1]? = some (.cells (zTally.setIfInBounds 9 (.slice (some ⟨w.heap.size + 1, 0, none⟩) n n)) 53 (0, 0)) := by
    have := heap_alloc_new ((w.alloc (.cells zTally 53)).alloc (.cells (madeCells #[.int .i64 0] n) 3)) (.cells (zTally.setIfInBounds 9 (.slice (some ⟨w.heap.size + 1, 0, none⟩) n n)) 53)
    simpa using this
  have hG : (((w.alloc (.cells zTally 53)).alloc (.cells (madeCells #[.int .i64 0] n) 3)).alloc (.cells (zTally.setIfInBounds 9 (.slice (some ⟨w.heap.size + 1, 0, none⟩) n n)) 53)).heap[w.heap.size + 1]? = some (.cells (madeCells #[.int .i64 0] n) 3 (0, 0)) := by
    rw [Below.heap_alloc _ _ _ (by simp)]
    have := heap_alloc_new (w.alloc (.cells zTally 53)) (.cells (madeCells #[.int .i64 0] n) 3)
    simpa using this
  refine ⟨(Array.getElem?_eq_some_iff.1 hT).1, fun j hj => ?_, ?_, fun j => ?_, (Array.getElem?_eq_some_iff.1 hG).1, fun j hj => ?_, fun j => ?_, by omega⟩
  · rw [cell_of_row _ _ _ _ _ _ hT]
    rcases (show j = 0 ∨ j = 1 ∨ j = 2 ∨ j = 3 ∨ j = 4 ∨ j = 5 ∨ j = 6 ∨ j = 7 ∨ j = 8 by omega) with rfl | rfl | rfl | rfl | rfl | rfl | rfl | rfl | rfl <;> rfl
  · rw [cell_of_row _ _ _ _ _ _ hT]; rfl
  · unfold World.frozen?; rw [hT]; simp
  · rw [cell_of_row _ _ _ _ _ _ hG]; exact hz j hj
  · unfold World.frozen?; rw [hG]; simp

set_option maxRecDepth 100000 in
set_option maxHeartbeats 4000000 in
theorem count_any (a : Option Addr) (len cap : Nat) (c : Nat → AccD) (t : Int) (n : Nat) (hn : n = (min (max t 0) 64).toNat) (w : World) (hc : AccsAt w a len cap c) (hl : len ≤ 200) :
    Calls Try.prog 33 #[.slice a len cap, .int .i64 t] w (CountTo (fun j => cnt (fun x => x.hit j) c len) n (fun j => cnt (fun x => decide (x.th = (j : Int))) c len) w) := by
  obtain ⟨i3, hi, hz0, hz1, hz2⟩ := info_parts info3
  obtain ⟨hlc, hcm, hcell⟩ := hc
  unfold maxLen at hcm
  have HC := Lib.hid hcell; clear hcell
  obtain ⟨B, hB⟩ : ∃ B, B = w.heap.size := ⟨_, rfl⟩
  have HB := Lib.hid hB; clear hB
  have hn64 : n ≤ 64 := by omega
  have hcs : (t < 0 ∧ n = 0) ∨ (0 ≤ t ∧ t ≤ 64 ∧ t = n) ∨ (64 < t ∧ n = 64) := by omega
  clear hn
  have hmk0 := fun w => run_make_row' (P := Try.prog) 37 3 (.int .i64 0) 8 Try.underlying37 info3 rfl .i64 .i64 n (by omega) (by omega) w
  obtain ⟨v, hmk, hv⟩ : ∃ v : Int, (∀ w : World, (Instr.makeSlice 37 (.int .i64 v) (.int .i64 v)).run Try.prog w = .ok (.slice (some ⟨w.heap.size, 0, none⟩) n n) (w.alloc (.cells (madeCells #[.int .i64 0] n) 3))) ∧ ((t < 0 ∧ v = 0) ∨ (0 ≤ t ∧ t ≤ 64 ∧ t = v) ∨ (64 < t ∧ v = 64)) :=
    ⟨(n : Int), hmk0, by omega⟩
  clear hmk0 hcs
  have HZ : Hid (∀ j, j < n → (madeCells #[Value.int .i64 0] n)[j]? = some (.int .i64 0)) := Lib.hid fun j hj => by
    rw [← Array.getElem?_toList, toList_madeCells_one]; simp [hj]
  rcases hv with ⟨ht, rfl⟩ | ⟨ht0, ht1, rfl⟩ | ⟨ht, rfl⟩
  · have htt : t ≤ 0 := by omega
    go_enter Try.func33, Try.ntmps33
    go_wp2_with fail
    have HT0 : Hid (TallyAt (((w.alloc (.cells zTally 53)).alloc (.cells (madeCells #[.int .i64 0] n) 3)).alloc (.cells (zTally.setIfInBounds 9 (.slice (some ⟨w.heap.size + 1, 0, none⟩) n n)) 53)) (w.heap.size + 1 + 1) (fun _ => 0) (w.heap.size + 1) n (fun _ => 0)) := Lib.hid (tally_start w n HZ.out)
    have HB0 : Hid (Below w.heap.size w (((w.alloc (.cells zTally 53)).alloc (.cells (madeCells #[.int .i64 0] n) 3)).alloc (.cells (zTally.setIfInBounds 9 (.slice (some ⟨w.heap.size + 1, 0, none⟩) n n)) 53))) := Lib.hid ((((Below.refl _ _).alloc (Nat.le_refl _) _).alloc (by simp) _).alloc (by simp; omega) _)
    have HR0 : Hid ((((w.alloc (.cells zTally 53)).alloc (.cells (madeCells #[.int .i64 0] n) 3)).alloc (.cells (zTally.setIfInBounds 9 (.slice (some ⟨w.heap.size + 1, 0, none⟩) n n)) 53)).heap[w.heap.size]? = some (.cells zTally 53 (0, 0))) := Lib.hid (by
      rw [Below.heap_alloc _ _ _ (by simp; omega), Below.heap_alloc _ _ _ (by simp), heap_alloc_new])
    simp only [zTally, List.setIfInBounds_toArray, List.set_cons_succ, List.set_cons_zero] at HT0 HB0 HR0
    clear hmk HZ
    rw [← HB.out] at HT0 HB0 HR0 ⊢
    go_loopw [15] (fun i wr => ∃ k : Nat, k ≤ len ∧ i = .int .i64 k ∧ Hid (TallyAt wr (B + 1 + 1) (fun j => cnt (fun x => x.hit j) c k) (B + 1) n (fun j => cnt (fun x => decide (x.th = (j : Int))) c k)) ∧ Hid (Below B w wr) ∧ Hid (wr.heap[B]? = some (.cells zTally 53 (0, 0)))) (fun i _ => len - (intOf i).toNat)
    case atStart => exact ⟨0, Nat.zero_le _, rfl, HT0, HB0, by simpa [zTally] using HR0⟩
    case round =>
      clear HT0 HB0 HR0
      obtain ⟨k, hk, rfl, HTA, HBE, HRB⟩ := hrel
      by_cases hlt : k < len
      · obtain ⟨b, off, rfl, hb, hc⟩ := HC.out k hlt
        obtain ⟨d0, d1, d2, d3, d4, d5⟩ := hc.of (w' := wr) fun o => HBE.out.cell (p := ⟨b, o, none⟩) (by rw [HB.out]; exact hb)
        have hsz := HBE.out.size
        have HONE := Lib.hid (one_any (B + 1 + 1) (B + 1) n (fun j => cnt (fun x => x.hit j) c k) (fun j => cnt (fun x => decide (x.th = (j : Int))) c k) (c k) _ (HTA.out.alloc (.cells (c k).cells 50)) hn64 (fun j _ => by have := cnt_le (fun x => x.hit j) c k; omega) (fun j _ => by have := cnt_le (fun x => decide (x.th = (j : Int))) c k; omega))
        simp only [AccD.cells] at HONE
        go_wp2_with (go_at_call 57; refine HONE.out.mono ?_; rintro e w' ⟨rfl, hbut, htal⟩)
        have HTA' := Lib.hid htal
        have HBE' := Lib.hid (hbut.below (HBE.out.alloc (by rw [HB.out]; exact hsz) _) (by omega) (by omega) (by simp; rw [HB.out]; omega))
        have HRB' : Hid (w'.heap[B]? = some (.cells zTally 53 (0, 0))) := Lib.hid (by rw [hbut.block B (by simp; rw [HB.out]; omega) (by omega) (by omega), Below.heap_alloc _ _ _ (Array.getElem?_eq_some_iff.1 HRB.out).1]; exact HRB.out)
        clear hbut htal
        go_wp2_with fail
        go_roundw
        case rel => exact ⟨k + 1, by omega, by go_num, Lib.hid (HTA'.out.congr (fun j _ => cnt_step _ c k) (fun j _ => cnt_step' c k)), HBE', HRB'⟩
        case measure => simp [intOf]; omega
      · obtain rfl : k = len := by omega
        have f0 := HTA.out.cell 0 (by decide)
        have f1 := HTA.out.cell 1 (by decide)
        have f2 := HTA.out.cell 2 (by decide)
        have f3 := HTA.out.cell 3 (by decide)
        have f4 := HTA.out.cell 4 (by decide)
        have f5 := HTA.out.cell 5 (by decide)
        have f6 := HTA.out.cell 6 (by decide)
        have f7 := HTA.out.cell 7 (by decide)
        have f8 := HTA.out.cell 8 (by decide)
        have f9 := HTA.out.list
        obtain ⟨r0, r1, r2, r3, r4, r5, r6, r7, r8, r9, rz⟩ := ztally_cells HRB.out
        have HSZ : Hid (B + 1 < wr.heap.size) := Lib.hid HTA.out.lt2
        go_wp2_with fail
        refine bodyPost_ret (v := tallyV (fun j => ((cnt (fun x => x.hit j) c k : Nat) : Int)) (some ⟨B + 1, 0, none⟩) n n) (by simp [results, Try.results33, go_sem, tallyV, r0, r1, r2, r3, r4, r5, r6, r7, r8, r9]) rfl ?_
        refine ⟨B + 1, rfl, ?_, ?_, ?_, ?_⟩
        · rw [← HB.out]
          exact ((((((((((HBE.out.setCell (Nat.le_refl _) _).setCell (Nat.le_refl _) _).setCell (Nat.le_refl _) _).setCell (Nat.le_refl _) _).setCell (Nat.le_refl _) _).setCell (Nat.le_refl _) _).setCell (Nat.le_refl _) _).setCell (Nat.le_refl _) _).setCell (Nat.le_refl _) _).setCell (Nat.le_refl _) _)
        · rw [← HB.out]; omega
        · simp; exact HSZ.out
        · intro j hj
          iterate 10 rw [cell_of_heap (heap_setCell_ne _ _ _ _ (by simp))]
          exact HTA.out.cell2 j hj
  · go_enter Try.func33, Try.ntmps33
    go_wp2_with fail
    have HT0 : Hid (TallyAt (((w.alloc (.cells zTally 53)).alloc (.cells (madeCells #[.int .i64 0] n) 3)).alloc (.cells (zTally.setIfInBounds 9 (.slice (some ⟨w.heap.size + 1, 0, none⟩) n n)) 53)) (w.heap.size + 1 + 1) (fun _ => 0) (w.heap.size + 1) n (fun _ => 0)) := Lib.hid (tally_start w n HZ.out)
    have HB0 : Hid (Below w.heap.size w (((w.alloc (.cells zTally 53)).alloc (.cells (madeCells #[.int .i64 0] n) 3)).alloc (.cells (zTally.setIfInBounds 9 (.slice (some ⟨w.heap.size + 1, 0, none⟩) n n)) 53))) := Lib.hid ((((Below.refl _ _).alloc (Nat.le_refl _) _).alloc (by simp) _).alloc (by simp; omega) _)
    have HR0 : Hid ((((w.alloc (.cells zTally 53)).alloc (.cells (madeCells #[.int .i64 0] n) 3)).alloc (.cells (zTally.setIfInBounds 9 (.slice (some ⟨w.heap.size + 1, 0, none⟩) n n)) 53)).heap[w.heap.size]? = some (.cells zTally 53 (0, 0))) := Lib.hid (by
      rw [Below.heap_alloc _ _ _ (by simp; omega), Below.heap_alloc _ _ _ (by simp), heap_alloc_new])
    simp only [zTally, List.setIfInBounds_toArray, List.set_cons_succ, List.set_cons_zero] at HT0 HB0 HR0
    clear hmk HZ
    rw [← HB.out] at HT0 HB0 HR0 ⊢
    go_loopw [15] (fun i wr => ∃ k : Nat, k ≤ len ∧ i = .int .i64 k ∧ Hid (TallyAt wr (B + 1 + 1) (fun j => cnt (fun x => x.hit j) c k) (B + 1) n (fun j => cnt (fun x => decide (x.th = (j : Int))) c k)) ∧ Hid (Below B w wr) ∧ Hid (wr.heap[B]? = some (.cells zTally 53 (0, 0)))) (fun i _ => len - (intOf i).toNat)
    case atStart => exact ⟨0, Nat.zero_le _, rfl, HT0, HB0, by simpa [zTally] using HR0⟩
    case round =>
      clear HT0 HB0 HR0
      obtain ⟨k, hk, rfl, HTA, HBE, HRB⟩ := hrel
      by_cases hlt : k < len
      · obtain ⟨b, off, rfl, hb, hc⟩ := HC.out k hlt
        obtain ⟨d0, d1, d2, d3, d4, d5⟩ := hc.of (w' := wr) fun o => HBE.out.cell (p := ⟨b, o, none⟩) (by rw [HB.out]; exact hb)
        have hsz := HBE.out.size
        have HONE := Lib.hid (one_any (B + 1 + 1) (B + 1) n (fun j => cnt (fun x => x.hit j) c k) (fun j => cnt (fun x => decide (x.th = (j : Int))) c k) (c k) _ (HTA.out.alloc (.cells (c k).cells 50)) hn64 (fun j _ => by have := cnt_le (fun x => x.hit j) c k; omega) (fun j _ => by have := cnt_le (fun x => decide (x.th = (j : Int))) c k; omega))
        simp only [AccD.cells] at HONE
        go_wp2_with (go_at_call 57; refine HONE.out.mono ?_; rintro e w' ⟨rfl, hbut, htal⟩)
        have HTA' := Lib.hid htal
        have HBE' := Lib.hid (hbut.below (HBE.out.alloc (by rw [HB.out]; exact hsz) _) (by omega) (by omega) (by simp; rw [HB.out]; omega))
        have HRB' : Hid (w'.heap[B]? = some (.cells zTally 53 (0, 0))) := Lib.hid (by rw [hbut.block B (by simp; rw [HB.out]; omega) (by omega) (by omega), Below.heap_alloc _ _ _ (Array.getElem?_eq_some_iff.1 HRB.out).1]; exact HRB.out)
        clear hbut htal
        go_wp2_with fail
        go_roundw
        case rel => exact ⟨k + 1, by omega, by go_num, Lib.hid (HTA'.out.congr (fun j _ => cnt_step _ c k) (fun j _ => cnt_step' c k)), HBE', HRB'⟩
        case measure => simp [intOf]; omega
      · obtain rfl : k = len := by omega
        have f0 := HTA.out.cell 0 (by decide)
        have f1 := HTA.out.cell 1 (by decide)
        have f2 := HTA.out.cell 2 (by decide)
        have f3 := HTA.out.cell 3 (by decide)
        have f4 := HTA.out.cell 4 (by decide)
        have f5 := HTA.out.cell 5 (by decide)
        have f6 := HTA.out.cell 6 (by decide)
        have f7 := HTA.out.cell 7 (by decide)
        have f8 := HTA.out.cell 8 (by decide)
        have f9 := HTA.out.list
        obtain ⟨r0, r1, r2, r3, r4, r5, r6, r7, r8, r9, rz⟩ := ztally_cells HRB.out
        have HSZ : Hid (B + 1 < wr.heap.size) := Lib.hid HTA.out.lt2
        go_wp2_with fail
        refine bodyPost_ret (v := tallyV (fun j => ((cnt (fun x => x.hit j) c k : Nat) : Int)) (some ⟨B + 1, 0, none⟩) n n) (by simp [results, Try.results33, go_sem, tallyV, r0, r1, r2, r3, r4, r5, r6, r7, r8, r9]) rfl ?_
        refine ⟨B + 1, rfl, ?_, ?_, ?_, ?_⟩
        · rw [← HB.out]
          exact ((((((((((HBE.out.setCell (Nat.le_refl _) _).setCell (Nat.le_refl _) _).setCell (Nat.le_refl _) _).setCell (Nat.le_refl _) _).setCell (Nat.le_refl _) _).setCell (Nat.le_refl _) _).setCell (Nat.le_refl _) _).setCell (Nat.le_refl _) _).setCell (Nat.le_refl _) _).setCell (Nat.le_refl _) _)
        · rw [← HB.out]; omega
        · simp; exact HSZ.out
        · intro j hj
          iterate 10 rw [cell_of_heap (heap_setCell_ne _ _ _ _ (by simp))]
          exact HTA.out.cell2 j hj
  · have htt : ¬ t ≤ 64 := by omega
    have htt : ¬ t ≤ 0 := by omega
    go_enter Try.func33, Try.ntmps33
    go_wp2_with fail
    have HT0 : Hid (TallyAt (((w.alloc (.cells zTally 53)).alloc (.cells (madeCells #[.int .i64 0] n) 3)).alloc (.cells (zTally.setIfInBounds 9 (.slice (some ⟨w.heap.size + 1, 0, none⟩) n n)) 53)) (w.heap.size + 1 + 1) (fun _ => 0) (w.heap.size + 1) n (fun _ => 0)) := Lib.hid (tally_start w n HZ.out)
    have HB0 : Hid (Below w.heap.size w (((w.alloc (.cells zTally 53)).alloc (.cells (madeCells #[.int .i64 0] n) 3)).alloc (.cells (zTally.setIfInBounds 9 (.slice (some ⟨w.heap.size + 1, 0, none⟩) n n)) 53))) := Lib.hid ((((Below.refl _ _).alloc (Nat.le_refl _) _).alloc (by simp) _).alloc (by simp; omega) _)
    have HR0 : Hid ((((w.alloc (.cells zTally 53)).alloc (.cells (madeCells #[.int .i64 0] n) 3)).alloc (.cells (zTally.setIfInBounds 9 (.slice (some ⟨w.heap.size + 1, 0, none⟩) n n)) 53)).heap[w.heap.size]? = some (.cells zTally 53 (0, 0))) := Lib.hid (by
      rw [Below.heap_alloc _ _ _ (by simp; omega), Below.heap_alloc _ _ _ (by simp), heap_alloc_new])
    simp only [zTally, List.setIfInBounds_toArray, List.set_cons_succ, List.set_cons_zero] at HT0 HB0 HR0
    clear hmk HZ
    rw [← HB.out] at HT0 HB0 HR0 ⊢
    go_loopw [15] (fun i wr => ∃ k : Nat, k ≤ len ∧ i = .int .i64 k ∧ Hid (TallyAt wr (B + 1 + 1) (fun j => cnt (fun x => x.hit j) c k) (B + 1) n (fun j => cnt (fun x => decide (x.th = (j : Int))) c k)) ∧ Hid (Below B w wr) ∧ Hid (wr.heap[B]? = some (.cells zTally 53 (0, 0)))) (fun i _ => len - (intOf i).toNat)
    case atStart => exact ⟨0, Nat.zero_le _, rfl, HT0, HB0, by simpa [zTally] using HR0⟩
    case round =>
      clear HT0 HB0 HR0
      obtain ⟨k, hk, rfl, HTA, HBE, HRB⟩ := hrel
      by_cases hlt : k < len
      · obtain ⟨b, off, rfl, hb, hc⟩ := HC.out k hlt
        obtain ⟨d0, d1, d2, d3, d4, d5⟩ := hc.of (w' := wr) fun o => HBE.out.cell (p := ⟨b, o, none⟩) (by rw [HB.out]; exact hb)
        have hsz := HBE.out.size
        have HONE := Lib.hid (one_any (B + 1 + 1) (B + 1) n (fun j => cnt (fun x => x.hit j) c k) (fun j => cnt (fun x => decide (x.th = (j : Int))) c k) (c k) _ (HTA.out.alloc (.cells (c k).cells 50)) hn64 (fun j _ => by have := cnt_le (fun x => x.hit j) c k; omega) (fun j _ => by have := cnt_le (fun x => decide (x.th = (j : Int))) c k; omega))
        simp only [AccD.cells] at HONE
        go_wp2_with (go_at_call 57; refine HONE.out.mono ?_; rintro e w' ⟨rfl, hbut, htal⟩)
        have HTA' := Lib.hid htal
        have HBE' := Lib.hid (hbut.below (HBE.out.alloc (by rw [HB.out]; exact hsz) _) (by omega) (by omega) (by simp; rw [HB.out]; omega))
        have HRB' : Hid (w'.heap[B]? = some (.cells zTally 53 (0, 0))) := Lib.hid (by rw [hbut.block B (by simp; rw [HB.out]; omega) (by omega) (by omega), Below.heap_alloc _ _ _ (Array.getElem?_eq_some_iff.1 HRB.out).1]; exact HRB.out)
        clear hbut htal
        go_wp2_with fail
        go_roundw
        case rel => exact ⟨k + 1, by omega, by go_num, Lib.hid (HTA'.out.congr (fun j _ => cnt_step _ c k) (fun j _ => cnt_step' c k)), HBE', HRB'⟩
        case measure => simp [intOf]; omega
      · obtain rfl : k = len := by omega
        have f0 := HTA.out.cell 0 (by decide)
        have f1 := HTA.out.cell 1 (by decide)
        have f2 := HTA.out.cell 2 (by decide)
        have f3 := HTA.out.cell 3 (by decide)
        have f4 := HTA.out.cell 4 (by decide)
        have f5 := HTA.out.cell 5 (by decide)
        have f6 := HTA.out.cell 6 (by decide)
        have f7 := HTA.out.cell 7 (by decide)
        have f8 := HTA.out.cell 8 (by decide)
        have f9 := HTA.out.list
        obtain ⟨r0, r1, r2, r3, r4, r5, r6, r7, r8, r9, rz⟩ := ztally_cells HRB.out
        have HSZ : Hid (B + 1 < wr.heap.size) := Lib.hid HTA.out.lt2
        go_wp2_with fail
        refine bodyPost_ret (v := tallyV (fun j => ((cnt (fun x => x.hit j) c k : Nat) : Int)) (some ⟨B + 1, 0, none⟩) n n) (by simp [results, Try.results33, go_sem, tallyV, r0, r1, r2, r3, r4, r5, r6, r7, r8, r9]) rfl ?_
        refine ⟨B + 1, rfl, ?_, ?_, ?_, ?_⟩
        · rw [← HB.out]
          exact ((((((((((HBE.out.setCell (Nat.le_refl _) _).setCell (Nat.le_refl _) _).setCell (Nat.le_refl _) _).setCell (Nat.le_refl _) _).setCell (Nat.le_refl _) _).setCell (Nat.le_refl _) _).setCell (Nat.le_refl _) _).setCell (Nat.le_refl _) _).setCell (Nat.le_refl _) _).setCell (Nat.le_refl _) _)
        · rw [← HB.out]; omega
        · simp; exact HSZ.out
        · intro j hj
          iterate 10 rw [cell_of_heap (heap_setCell_ne _ _ _ _ (by simp))]
          exact HTA.out.cell2 j hj
end Go.Proofs.Ytfjddkjfkgdihaa
