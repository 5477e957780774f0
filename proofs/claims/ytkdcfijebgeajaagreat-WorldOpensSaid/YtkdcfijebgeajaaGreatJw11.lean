/- Layer 23, the document's: which words are opened.
   Layer 23 (world): words are opened: passing words; words that are no lines.
   Layer 23 (world): words are opened: two lines are looked at.
   Layers 4, 7: a device opened, a memory made.
   The document's device: flush, and what may not be.
   The document's memory: an access, plain.
   Layer 38: a memory at its start; what a run holds.
   Layers 3, 4, 38: what is seen, kept; words that are alike.
   Layer 6: the words that pass away, by their names.
   Layer 6: words filled up to whole lines. -/
import Derived.Test.YtkdcfijebgeajaaGreatJw10
import Derived.Deep.RegionHeld3
import Derived.Test.YtkdcfijebgeajaaGreatJw4
import Derived.Test.YtkdcfijebgeajaaGreatJw3
import Derived.Test.YtkdcfijebgeajaaGreatJw2
import Derived.IntWalk
import Derived.Deep.LoopGhost
namespace Go.Proofs.YtkdcfijebgeajaaGreat
open Go.RowKit Go.BigFrame
set_option linter.unusedVariables false
set_option linter.unusedSimpArgs false
theorem gC_set (g : Nat → Nat) (k : Nat) (hk : k < 8) (v : Nat) : (gC g).setIfInBounds k (.int .u64 (v : Nat)) = gC fun i => if i = k then v else g i := by
  match k, hk with
  | 0, _ | 1, _ | 2, _ | 3, _ | 4, _ | 5, _ | 6, _ | 7, _ => rfl
def upTo8 (f : Nat → Nat) (k j : Nat) : Nat := if j < k then f j else 0
theorem upTo8_next (f : Nat → Nat) (k : Nat) : (fun i => if i = k then f k else upTo8 f k i) = upTo8 f (k + 1) := by
  funext i
  unfold upTo8
  by_cases h : i = k
  · subst h; rw [if_pos rfl, if_pos (Nat.lt_succ_self i)]
  · rw [if_neg h]
    by_cases h2 : i < k
    · rw [if_pos h2, if_pos (by omega)]
    · rw [if_neg h2, if_neg (by omega)]
theorem may_err (f : Nat → Nat) (n : Nat) (e : Int) (he : errP f n = e) (h0 : e ≠ 0) (w w' : World) (c0 c1 c2 c3 : Int) (hb : Below w.heap.size w w') : MayTo f n w (.returned (.tuple #[.agg #[.int .i64 c0, .int .i64 c1, .int .i64 c2, .int .i64 c3], .int .i64 e])) w' :=
  ⟨c0, c1, c2, c3, by rw [he], hb, fun x h => absurd (he.symm.trans h) h0⟩
set_option maxRecDepth 100000 in
theorem may27_no (f : Nat → Nat) (a : Option Addr) (n cap : Nat) (hn : n ≤ 300) (hno : n % 8 ≠ 0 ∨ n < 16) (w : World) : Calls Tryz.prog 27 #[.slice a n cap] w (MayTo f n w) := by
  have e2 : (n : Int).tmod 8 = (n : Int) % 8 := Int.tmod_eq_emod_of_nonneg (by omega)
  have e1 : (n : Int).tdiv 8 = (n : Int) / 8 := Int.tdiv_eq_ediv_of_nonneg (by omega)
  have hE : errP f n = 3 := by
    unfold errP wholeE
    by_cases h : (n : Int) % 8 ≠ 0
    · rw [if_pos h, if_pos (by decide)]
    · rw [if_neg h, if_neg (by omega : ¬ (262144 < (n : Int) / 8)), if_neg (by decide), if_pos (by omega)]
  have HF := Lib.hid fun w' c0 c1 c2 c3 hb => may_err f n 3 hE (by decide) w w' c0 c1 c2 c3 hb
  have R1 : Hid ((w.alloc (.cells #[.int .i64 0, .int .i64 0, .int .i64 0, .int .i64 0] 23)).heap[w.heap.size]? = some (.cells #[.int .i64 0, .int .i64 0, .int .i64 0, .int .i64 0] 23 (0, 0))) := Lib.hid (heap_alloc_new w _)
  have r0 := cell_row R1.out 0 _ rfl
  have r1 := cell_row R1.out 1 _ rfl
  have r2 := cell_row R1.out 2 _ rfl
  have r3 := cell_row R1.out 3 _ rfl
  have rf := free_row R1.out
  have HB : Hid (Below w.heap.size w (w.alloc (.cells #[.int .i64 0, .int .i64 0, .int .i64 0, .int .i64 0] 23))) := Lib.hid ((Below.refl _ _).alloc (Nat.le_refl _) _)
  by_cases h3 : (n : Int) % 8 = 0
  · have d3 : ((n : Int) % 8 != 0) = false := by simp [h3]
    have d4 : decide (262144 < (n : Int) / 8) = false := bool_no (by omega)
    have d5 : decide ((n : Int) < 16) = true := bool_yes (by omega)
    clear hE hno h3
    go_enter Tryz.func27, Tryz.ntmps27
    go_wp2_with fail
    refine bodyPost_ret (v := .tuple #[.agg #[.int .i64 0, .int .i64 0, .int .i64 0, .int .i64 0], .int .i64 3]) ?_ rfl (HF.out _ _ _ _ _ ?_)
    · simp [results, Tryz.results27, go_sem, r0, r1, r2, r3]
    · first | exact HB.out | exact ((((HB.out).setCell (p := ⟨w.heap.size, 0, none⟩) (Nat.le_refl _) _).setCell (p := ⟨w.heap.size, 1, none⟩) (Nat.le_refl _) _).setCell (p := ⟨w.heap.size, 2, none⟩) (Nat.le_refl _) _).setCell (p := ⟨w.heap.size, 3, none⟩) (Nat.le_refl _) _
  · have d3 : ((n : Int) % 8 != 0) = true := by simp [h3]
    clear hE hno h3
    go_enter Tryz.func27, Tryz.ntmps27
    go_wp2_with fail
    refine bodyPost_ret (v := .tuple #[.agg #[.int .i64 0, .int .i64 0, .int .i64 0, .int .i64 0], .int .i64 3]) ?_ rfl (HF.out _ _ _ _ _ ?_)
    · simp [results, Tryz.results27, go_sem, r0, r1, r2, r3]
    · first | exact HB.out | exact ((((HB.out).setCell (p := ⟨w.heap.size, 0, none⟩) (Nat.le_refl _) _).setCell (p := ⟨w.heap.size, 1, none⟩) (Nat.le_refl _) _).setCell (p := ⟨w.heap.size, 2, none⟩) (Nat.le_refl _) _).setCell (p := ⟨w.heap.size, 3, none⟩) (Nat.le_refl _) _
end Go.Proofs.YtkdcfijebgeajaaGreat

namespace Go.Proofs.YtkdcfijebgeajaaGreat
open Go.RowKit Go.BigFrame
set_option linter.unusedVariables false
set_option linter.unusedSimpArgs false
def NotOpened (er : Int) (w : World) (e : Ending) (w' : World) : Prop := e = .returned (.tuple #[.pointer none, .int .i64 er]) ∧ Below w.heap.size w w'
set_option maxRecDepth 100000 in
theorem open26_whole (a : Option Addr) (n cap : Nat) (hn : n ≤ 800) (he : n % 8 ≠ 0) (w : World) : Calls Tryz.prog 26 #[.slice a n cap] w (NotOpened 3 w) := by
  have hw : wholeE n = 3 := by unfold wholeE; rw [if_pos (by omega)]
  have HC := Lib.hid (cut35_no a n cap (by omega) (by rw [hw]; decide) w)
  rw [hw] at HC
  clear he hw
  go_enter Tryz.func26, Tryz.ntmps26
  go_wp2_with fail
  refine HC.out.mono ?_
  rintro e w1 ⟨rfl, hb, -⟩
  have HB := Lib.hid hb
  clear hb
  go_wp2_with fail
  refine bodyPost_ret (v := .tuple #[.pointer none, .int .i64 3]) ?_ rfl ⟨rfl, HB.out⟩
  simp [results, Tryz.results26, go_sem]
theorem own_slice_n8 {w : World} {B : Nat} {e : TypeId} {size : Nat} {v : Value} {n : Nat} {xs : List Value} (h : w.ownsRow B e size v n xs) : ∃ a c, v = .slice a n c := by
  obtain ⟨-, ⟨rfl, rfl⟩ | ⟨g, cap, cur, rfl, -⟩⟩ := h
  · exact ⟨none, 0, rfl⟩
  · exact ⟨_, _, rfl⟩
theorem cut_lines {W : World} {B : Nat} {v : Value} {f : Nat → Int} {n : Nat} (h : W.ownsRow B 142 8 v (n / 8) (wordsL f (8 * (n / 8)))) (hn : 0 < n / 8) : ∃ b c, v = .slice (some ⟨b, 0, none⟩) (n / 8) c ∧ B ≤ b ∧ b < W.heap.size ∧ ∀ j, j < 8 * (n / 8) → W.cell? ⟨b, j, none⟩ = some (.int .u64 (f j)) := by
  obtain ⟨hl, ⟨-, h0⟩ | ⟨b, cap, cur, rfl, hb, hh, h1, h2, h3, h4⟩⟩ := h
  · omega
  · refine ⟨b, cap, rfl, hb, lt_row hh, fun j hj => cell_row hh j _ ?_⟩
    have e : (cur.toList.take (n / 8 * 8))[j]? = (wordsL f (8 * (n / 8)))[j]? := by rw [h4]
    rw [List.getElem?_take, if_pos (by omega)] at e
    rw [e]
    unfold wordsL
    simp [hj]
theorem passing79 (l : Nat) (v : Lv) (w : World) (h : LayAt w l v) : Calls Tryz.prog 79 #[.pointer (some ⟨l, 0, none⟩)] w fun e w' => e = .returned (.int .i64 (2 + v.th + v.sl)) ∧ Below w.heap.size w w' := by
  have hl := h.lt
  obtain ⟨l0, l1, l2, l3, l4, l5, l6, l7, l8, lf⟩ := row_9 h.row
  obtain ⟨th, sl, lo, bu, pt, pl, ls, ps, ln⟩ := v
  obtain ⟨th0, th1, sl0, sl1, lo0, lo1, bu0, bu1, pt0, pt1, pl0, pl1, ls0, ls1, ps0, ps1, ln0, ln1⟩ := h.ok
  simp only at *
  have e1 : wrap64 (2 + th) = 2 + th := wrap_small _ (by omega) (by omega)
  have e2 : wrap64 (2 + th + sl) = 2 + th + sl := wrap_small _ (by omega) (by omega)
  clear h
  go_enter Tryz.func79, Tryz.ntmps79
  go_wp2_with fail
  refine region_qd 0 11 (by kernel_rfl) (by kernel_rfl) (fun _ _ d _ _ h => by cases d <;> exact h) ?_
  simp only [List.take_succ_cons, List.take_zero, List.drop_succ_cons, List.drop_zero, Nat.reduceAdd]
  refine wpQuiet_nil ?_
  repeat (first | go_big_quiet_skip | (go_big_quiet_want; go_big_quiet_op; go_big_quiet_on))
  refine wpQuiet_nil ?_
  rintro _ ⟨n, rfl⟩
  go_wp2_with fail
  go_ret
  exact ⟨rfl, ⟨rfl, rfl, rfl, Nat.le_refl _, fun _ _ => rfl⟩⟩
set_option maxRecDepth 100000 in
theorem open26_short (a : Option Addr) (b off n cap : Nat) (ha : 8 ≤ n → a = some ⟨b, off, none⟩) (hn : n < 16) (h8 : n % 8 = 0) (hcap : n ≤ cap) (hc : cap ≤ 9223372036854775807) (f : Nat → Int) (w : World) (hb : 0 < n → b < w.heap.size) (hf : ∀ j, j < n → w.cell? ⟨b, off + j, none⟩ = some (.int .u64 (f j))) : Calls Tryz.prog 26 #[.slice a n cap] w (NotOpened 3 w) := by
  have hw : wholeE n = 0 := by unfold wholeE; rw [if_neg (by omega), if_neg (by omega)]
  have HC := Lib.hid (cut35 a b off n cap ha hcap hc hw f w hb hf)
  have d1 : decide (((n / 8 : Nat) : Int) < 2) = true := bool_yes (by omega)
  unfold CutTo at HC
  generalize n / 8 = q at HC d1
  clear ha hn h8 hcap hc hb hf hw
  go_enter Tryz.func26, Tryz.ntmps26
  go_wp2_with fail
  refine HC.out.mono ?_
  rintro e w1 ⟨u, rfl, hb, ho⟩
  obtain ⟨ua, uc, rfl⟩ := own_slice_n8 ho
  have HB := Lib.hid hb
  clear hb ho
  go_wp2_with fail
  refine bodyPost_ret (v := .tuple #[.pointer none, .int .i64 3]) ?_ rfl ⟨rfl, HB.out⟩
  simp [results, Tryz.results26, go_sem]
end Go.Proofs.YtkdcfijebgeajaaGreat

namespace Go.Proofs.YtkdcfijebgeajaaGreat
open Go.RowKit Go.BigFrame
set_option linter.unusedVariables false
set_option linter.unusedSimpArgs false
set_option maxRecDepth 100000 in
set_option maxHeartbeats 3000000 in
theorem open26_bad (f : Nat → Nat) (b off n cap : Nat) (hn : n ≤ 800) (h8 : n % 8 = 0) (h16 : 16 ≤ n) (hcap : n ≤ cap) (hc : cap ≤ 9223372036854775807) (w : World) (hb : b < w.heap.size) (hf : ∀ j, j < n → w.cell? ⟨b, off + j, none⟩ = some (.int .u64 (f j : Nat))) (hp : pickP f (next8 f) = none) : Calls Tryz.prog 26 #[.slice (some ⟨b, off, none⟩) n cap] w (NotOpened 8 w) := by
  have hw : wholeE n = 0 := by unfold wholeE; rw [if_neg (by omega), if_neg (by omega)]
  have HC := Lib.hid (cut35 (some ⟨b, off, none⟩) b off n cap (fun _ => rfl) hcap hc hw (fun j => (f j : Int)) w (fun _ => hb) hf)
  have hq : 2 ≤ n / 8 := by omega
  have HBO : Hid (∀ w, Calls Tryz.prog 78 #[.agg #[.int .u64 (f 0 : Nat), .int .u64 (f 1 : Nat), .int .u64 (f 2 : Nat), .int .u64 (f 3 : Nat), .int .u64 (f 4 : Nat), .int .u64 (f 5 : Nat), .int .u64 (f 6 : Nat), .int .u64 (f 7 : Nat)], .agg #[.int .u64 (f (8 + 0) : Nat), .int .u64 (f (8 + 1) : Nat), .int .u64 (f (8 + 2) : Nat), .int .u64 (f (8 + 3) : Nat), .int .u64 (f (8 + 4) : Nat), .int .u64 (f (8 + 5) : Nat), .int .u64 (f (8 + 6) : Nat), .int .u64 (f (8 + 7) : Nat)]] w fun e w' => (∃ c0 c1 c2 c3 k : Int, e = .returned (.tuple #[.agg #[.int .i64 c0, .int .i64 c1, .int .i64 c2, .int .i64 c3], .int .i64 k, .int .i64 8])) ∧ Below w.heap.size w w') := Lib.hid fun w => by
    refine Calls.mono (both78_any f (next8 f) w) ?_
    rintro e w' ⟨hb, ⟨-, h⟩ | ⟨x, k, h, -⟩⟩
    · exact ⟨h, hb⟩
    · rw [hp] at h; cases h
  unfold CutTo at HC
  have HFF : Hid (∀ (W : World) v, W.ownsRow w.heap.size 142 8 v (n / 8) (wordsL (fun j => (f j : Int)) (8 * (n / 8))) → ∃ bb c, v = .slice (some ⟨bb, 0, none⟩) (n / 8) c ∧ w.heap.size ≤ bb ∧ bb < W.heap.size ∧ ∀ j, j < 16 → W.cell? ⟨bb, j, none⟩ = some (.int .u64 (f j : Nat))) := Lib.hid fun W v h => by
    obtain ⟨bb, c, h1, h2, h3, h4⟩ := cut_lines h (by omega)
    exact ⟨bb, c, h1, h2, h3, fun j hj => h4 j (by omega)⟩
  obtain ⟨q, hqq⟩ : ∃ q, q = n / 8 := ⟨_, rfl⟩
  rw [← hqq] at HC HFF hq
  have d1 : decide ((q : Int) < 2) = false := bool_no (by omega)
  have q0 : (0 : Int) < (q : Int) := by omega
  have q1 : (1 : Int) < (q : Int) := by omega
  have q2 : 0 < q := by omega
  have q3 : 1 < q := by omega
  clear hf hb hp hw h8 h16 hn hq hqq
  go_enter Tryz.func26, Tryz.ntmps26
  go_wp2_with fail
  refine HC.out.mono ?_
  rintro e w1 ⟨u, rfl, hb, ho⟩
  obtain ⟨bb, uc, rfl, hb1, hb2, hcell⟩ := HFF.out w1 u ho
  have x0 := hcell 0 (by omega)
  have x1 := hcell 1 (by omega)
  have x2 := hcell 2 (by omega)
  have x3 := hcell 3 (by omega)
  have x4 := hcell 4 (by omega)
  have x5 := hcell 5 (by omega)
  have x6 := hcell 6 (by omega)
  have x7 := hcell 7 (by omega)
  have x8 := hcell 8 (by omega)
  have x9 := hcell 9 (by omega)
  have x10 := hcell 10 (by omega)
  have x11 := hcell 11 (by omega)
  have x12 := hcell 12 (by omega)
  have x13 := hcell 13 (by omega)
  have x14 := hcell 14 (by omega)
  have x15 := hcell 15 (by omega)
  have HB1 := Lib.hid hb
  have HL1 : Hid (bb < w1.heap.size) := Lib.hid hb2
  clear hb ho hcell HC HFF hb1 hb2
  obtain ⟨i0, hi0⟩ : ∃ i : Int, i = (f 0 : Nat) := ⟨_, rfl⟩
  obtain ⟨i1, hi1⟩ : ∃ i : Int, i = (f 1 : Nat) := ⟨_, rfl⟩
  obtain ⟨i2, hi2⟩ : ∃ i : Int, i = (f 2 : Nat) := ⟨_, rfl⟩
  obtain ⟨i3, hi3⟩ : ∃ i : Int, i = (f 3 : Nat) := ⟨_, rfl⟩
  obtain ⟨i4, hi4⟩ : ∃ i : Int, i = (f 4 : Nat) := ⟨_, rfl⟩
  obtain ⟨i5, hi5⟩ : ∃ i : Int, i = (f 5 : Nat) := ⟨_, rfl⟩
  obtain ⟨i6, hi6⟩ : ∃ i : Int, i = (f 6 : Nat) := ⟨_, rfl⟩
  obtain ⟨i7, hi7⟩ : ∃ i : Int, i = (f 7 : Nat) := ⟨_, rfl⟩
  obtain ⟨i8, hi8⟩ : ∃ i : Int, i = (f 8 : Nat) := ⟨_, rfl⟩
  obtain ⟨i9, hi9⟩ : ∃ i : Int, i = (f 9 : Nat) := ⟨_, rfl⟩
  obtain ⟨i10, hi10⟩ : ∃ i : Int, i = (f 10 : Nat) := ⟨_, rfl⟩
  obtain ⟨i11, hi11⟩ : ∃ i : Int, i = (f 11 : Nat) := ⟨_, rfl⟩
  obtain ⟨i12, hi12⟩ : ∃ i : Int, i = (f 12 : Nat) := ⟨_, rfl⟩
  obtain ⟨i13, hi13⟩ : ∃ i : Int, i = (f 13 : Nat) := ⟨_, rfl⟩
  obtain ⟨i14, hi14⟩ : ∃ i : Int, i = (f 14 : Nat) := ⟨_, rfl⟩
  obtain ⟨i15, hi15⟩ : ∃ i : Int, i = (f 15 : Nat) := ⟨_, rfl⟩
  have HBO2 : Hid (∀ w, Calls Tryz.prog 78 #[.agg #[.int .u64 i0, .int .u64 i1, .int .u64 i2, .int .u64 i3, .int .u64 i4, .int .u64 i5, .int .u64 i6, .int .u64 i7], .agg #[.int .u64 i8, .int .u64 i9, .int .u64 i10, .int .u64 i11, .int .u64 i12, .int .u64 i13, .int .u64 i14, .int .u64 i15]] w fun e w' => (∃ c0 c1 c2 c3 k : Int, e = .returned (.tuple #[.agg #[.int .i64 c0, .int .i64 c1, .int .i64 c2, .int .i64 c3], .int .i64 k, .int .i64 8])) ∧ Below w.heap.size w w') := Lib.hid (by rw [hi0, hi1, hi2, hi3, hi4, hi5, hi6, hi7, hi8, hi9, hi10, hi11, hi12, hi13, hi14, hi15]; exact HBO.out)
  rw [← hi0] at x0
  rw [← hi1] at x1
  rw [← hi2] at x2
  rw [← hi3] at x3
  rw [← hi4] at x4
  rw [← hi5] at x5
  rw [← hi6] at x6
  rw [← hi7] at x7
  rw [← hi8] at x8
  rw [← hi9] at x9
  rw [← hi10] at x10
  rw [← hi11] at x11
  rw [← hi12] at x12
  rw [← hi13] at x13
  rw [← hi14] at x14
  rw [← hi15] at x15
  clear HBO hi0 hi1 hi2 hi3 hi4 hi5 hi6 hi7 hi8 hi9 hi10 hi11 hi12 hi13 hi14 hi15
  have HBO4 : Hid (∀ w' : World, bb < w'.heap.size → (w'.cell? ⟨bb, 0, none⟩ = some (.int .u64 i0) ∧ w'.cell? ⟨bb, 1, none⟩ = some (.int .u64 i1) ∧ w'.cell? ⟨bb, 2, none⟩ = some (.int .u64 i2) ∧ w'.cell? ⟨bb, 3, none⟩ = some (.int .u64 i3) ∧ w'.cell? ⟨bb, 4, none⟩ = some (.int .u64 i4) ∧ w'.cell? ⟨bb, 5, none⟩ = some (.int .u64 i5) ∧ w'.cell? ⟨bb, 6, none⟩ = some (.int .u64 i6) ∧ w'.cell? ⟨bb, 7, none⟩ = some (.int .u64 i7) ∧ w'.cell? ⟨bb, 8, none⟩ = some (.int .u64 i8) ∧ w'.cell? ⟨bb, 9, none⟩ = some (.int .u64 i9) ∧ w'.cell? ⟨bb, 10, none⟩ = some (.int .u64 i10) ∧ w'.cell? ⟨bb, 11, none⟩ = some (.int .u64 i11) ∧ w'.cell? ⟨bb, 12, none⟩ = some (.int .u64 i12) ∧ w'.cell? ⟨bb, 13, none⟩ = some (.int .u64 i13) ∧ w'.cell? ⟨bb, 14, none⟩ = some (.int .u64 i14) ∧ w'.cell? ⟨bb, 15, none⟩ = some (.int .u64 i15)) → Calls Tryz.prog 78 #[.agg #[.int .u64 i0, .int .u64 i1, .int .u64 i2, .int .u64 i3, .int .u64 i4, .int .u64 i5, .int .u64 i6, .int .u64 i7], .agg #[.int .u64 i8, .int .u64 i9, .int .u64 i10, .int .u64 i11, .int .u64 i12, .int .u64 i13, .int .u64 i14, .int .u64 i15]] w' fun e w'' => (∃ c0 c1 c2 c3 k : Int, e = .returned (.tuple #[.agg #[.int .i64 c0, .int .i64 c1, .int .i64 c2, .int .i64 c3], .int .i64 k, .int .i64 8])) ∧ Below w'.heap.size w' w'' ∧ (w''.cell? ⟨bb, 0, none⟩ = some (.int .u64 i0) ∧ w''.cell? ⟨bb, 1, none⟩ = some (.int .u64 i1) ∧ w''.cell? ⟨bb, 2, none⟩ = some (.int .u64 i2) ∧ w''.cell? ⟨bb, 3, none⟩ = some (.int .u64 i3) ∧ w''.cell? ⟨bb, 4, none⟩ = some (.int .u64 i4) ∧ w''.cell? ⟨bb, 5, none⟩ = some (.int .u64 i5) ∧ w''.cell? ⟨bb, 6, none⟩ = some (.int .u64 i6) ∧ w''.cell? ⟨bb, 7, none⟩ = some (.int .u64 i7) ∧ w''.cell? ⟨bb, 8, none⟩ = some (.int .u64 i8) ∧ w''.cell? ⟨bb, 9, none⟩ = some (.int .u64 i9) ∧ w''.cell? ⟨bb, 10, none⟩ = some (.int .u64 i10) ∧ w''.cell? ⟨bb, 11, none⟩ = some (.int .u64 i11) ∧ w''.cell? ⟨bb, 12, none⟩ = some (.int .u64 i12) ∧ w''.cell? ⟨bb, 13, none⟩ = some (.int .u64 i13) ∧ w''.cell? ⟨bb, 14, none⟩ = some (.int .u64 i14) ∧ w''.cell? ⟨bb, 15, none⟩ = some (.int .u64 i15))) := Lib.hid fun w' hlt h => (HBO2.out w').mono fun e w'' hh => ⟨hh.1, hh.2, by
    have q := fun j => cell_of_heap (hh.2.block bb hlt) j
    rw [q 0, q 1, q 2, q 3, q 4, q 5, q 6, q 7, q 8, q 9, q 10, q 11, q 12, q 13, q 14, q 15]
    exact h⟩
  have hne : bb ≠ w1.heap.size := by have := HL1.out; omega
  have hlt : bb < w1.heap.size := HL1.out
  have hne2 : w1.heap.size ≠ bb := by have := HL1.out; omega
  go_wp2_with fail
  go_region_held3 (fun w' => w'.cell? ⟨bb, 0, none⟩ = some (.int .u64 i0) ∧ w'.cell? ⟨bb, 1, none⟩ = some (.int .u64 i1) ∧ w'.cell? ⟨bb, 2, none⟩ = some (.int .u64 i2) ∧ w'.cell? ⟨bb, 3, none⟩ = some (.int .u64 i3) ∧ w'.cell? ⟨bb, 4, none⟩ = some (.int .u64 i4) ∧ w'.cell? ⟨bb, 5, none⟩ = some (.int .u64 i5) ∧ w'.cell? ⟨bb, 6, none⟩ = some (.int .u64 i6) ∧ w'.cell? ⟨bb, 7, none⟩ = some (.int .u64 i7) ∧ w'.cell? ⟨bb, 8, none⟩ = some (.int .u64 i8) ∧ w'.cell? ⟨bb, 9, none⟩ = some (.int .u64 i9) ∧ w'.cell? ⟨bb, 10, none⟩ = some (.int .u64 i10) ∧ w'.cell? ⟨bb, 11, none⟩ = some (.int .u64 i11) ∧ w'.cell? ⟨bb, 12, none⟩ = some (.int .u64 i12) ∧ w'.cell? ⟨bb, 13, none⟩ = some (.int .u64 i13) ∧ w'.cell? ⟨bb, 14, none⟩ = some (.int .u64 i14) ∧ w'.cell? ⟨bb, 15, none⟩ = some (.int .u64 i15)) (go_keep) ((go_at_call 78; (with_reducible refine (HBO4.out _ (by first | exact hlt | (simp; omega)) (by assumption)).mono ?_); rintro e w8 ⟨⟨c0, c1, c2, c3, kk, rfl⟩, hb8, s0, s1, s2, s3, s4, s5, s6, s7, s8, s9, s10, s11, s12, s13, s14, s15⟩; have HB8 : Hid (Below w.heap.size w w8) := Lib.hid (by first | exact (HB1.out.drew).trans (hb8.mono HB1.out.size) | exact (HB1.out.drew.alloc HB1.out.size _).trans (hb8.mono (by have := HB1.out.size; simp; omega))); (try (have za : w8.heap[w1.heap.size]? = some (.cells #[.int .i64 0, .int .i64 0, .int .i64 0, .int .i64 0] 23 (0, 0)) := (hb8.block _ (by simp)).trans (heap_alloc_new _ _); have z0 := cell_row za 0 _ rfl; have z1 := cell_row za 1 _ rfl; have z2 := cell_row za 2 _ rfl; have z3 := cell_row za 3 _ rfl; have zf := free_row za))))
  all_goals
    go_wp2_with fail
    refine bodyPost_ret (v := .tuple #[.pointer none, .int .i64 8]) ?_ rfl ⟨rfl, ?_⟩
    · simp [results, Tryz.results26, go_sem]
    · first | exact HB8.out.alloc HB8.out.size _ | exact (((HB8.out.setCell (p := ⟨w1.heap.size, 0, none⟩) HB1.out.size _).setCell (p := ⟨w1.heap.size, 1, none⟩) HB1.out.size _).setCell (p := ⟨w1.heap.size, 2, none⟩) HB1.out.size _).setCell (p := ⟨w1.heap.size, 3, none⟩) HB1.out.size _
end Go.Proofs.YtkdcfijebgeajaaGreat

namespace Go.Proofs.YtkdcfijebgeajaaGreat
open Go.RowKit Go.BigFrame
set_option linter.unusedVariables false
set_option linter.unusedSimpArgs false
def mayOpenE (n : Nat) (t : Int) : Int := if ¬ (1 ≤ t ∧ t ≤ 64) then 1 else if wholeE n ≠ 0 then wholeE n else if n = 0 then 3 else 0
theorem mayOpen_ok {n : Nat} {t : Int} (h : mayOpenE n t = 0) : (1 ≤ t ∧ t ≤ 64) ∧ wholeE n = 0 ∧ 0 < n := by
  unfold mayOpenE at h
  by_cases h1 : 1 ≤ t ∧ t ≤ 64
  · rw [if_neg (by simpa using h1)] at h
    by_cases h2 : wholeE n = 0
    · rw [if_neg (by simpa using h2)] at h
      by_cases h3 : n = 0
      · rw [if_pos h3] at h; omega
      · exact ⟨h1, h2, by omega⟩
    · rw [if_pos h2] at h; exact absurd h h2
  · rw [if_pos h1] at h; omega
theorem wholeE_eq {n : Nat} (h : wholeE n = 0) : 8 * (n / 8) = n ∧ n / 8 ≤ 262144 := by
  unfold wholeE at h
  split at h
  · omega
  · split at h <;> omega
def OpenTo (f : Nat → Int) (n : Nat) (t : Int) (W : World) (e : Ending) (W' : World) : Prop :=
  Below W.heap.size W W' ∧ (mayOpenE n t ≠ 0 ∧ e = .returned (.tuple #[.pointer none, .int .i64 (mayOpenE n t)]) ∨
    mayOpenE n t = 0 ∧ ∃ d kb sb wb fb c0 c1, e = .returned (.tuple #[.pointer (some ⟨d, 0, none⟩), .int .i64 0]) ∧ DevAt W' W.heap.size d kb sb wb fb (n / 8) t.toNat c0 c1 f)
theorem open18_yes (a : Option Addr) (b off n cap : Nat) (ha : 0 < n → a = some ⟨b, off, none⟩) (hn : n ≤ cap) (hc : cap ≤ 9223372036854775807) (t : Int) (f : Nat → Int) (w : World) (h0 : mayOpenE n t = 0) (hb : b < w.heap.size) (hw : ∀ j, j < n → w.cell? ⟨b, off + j, none⟩ = some (.int .u64 (f j))) :
    Calls Tryz.prog 51 #[.slice a n cap, .int .i64 t] w (OpenTo f n t w) := by
  obtain ⟨h1, h2, h3⟩ := mayOpen_ok h0
  obtain ⟨h4, h5⟩ := wholeE_eq h2
  have HT := Lib.hid (threads34 t w)
  rw [bool_yes h1] at HT
  have HC := Lib.hid (cut35 a b off n cap (fun _ => ha h3) hn hc h2 f w (fun _ => hb) hw)
  unfold CutTo at HC
  obtain ⟨m, hm⟩ : ∃ m, m = n / 8 := ⟨_, rfl⟩
  rw [← hm] at HC
  have HM : Hid (n / 8 = m) := Lib.hid hm.symm
  obtain ⟨k, rfl⟩ := Int.eq_ofNat_of_zero_le (show 0 ≤ t by omega)
  have HD : Hid (∀ g c w1, w1.ownsRow w.heap.size 142 8 (.slice (some ⟨g, 0, none⟩) m c) m (wordsL f (8 * m)) → Calls Tryz.prog 107 #[.slice (some ⟨g, 0, none⟩) m c, .int .i64 k] w1 (MadeTo w.heap.size g m c k f w1)) := Lib.hid fun g c w1 h => made36 w.heap.size g m c k (by omega) (by omega) (by omega) f w1 h
  have HE := Lib.hid h0
  have hm0 : 0 < m := by omega
  have m1 : ((m : Int) == 0) = false := by simp; omega
  have m2 : (m == 0) = false := by simp; omega
  have HS : Hid (8 * m = n) := Lib.hid (by omega)
  clear h0 h1 h2 h3 h4 h5 hw ha hn hc hm hb
  go_enter Tryz.func51, Tryz.ntmps51
  go_wp2_with fail
  refine HT.out.mono ?_
  rintro e w' ⟨rfl, hw⟩
  cases hw
  go_wp2_with fail
  with_reducible refine HC.out.mono ?_
  rintro e w1 ⟨v, rfl, hb, ho⟩
  obtain ⟨g, c, cc, rfl, -⟩ := own_row ho hm0
  have HB := Lib.hid hb
  have HDD := Lib.hid (HD.out g c w1 ho)
  clear hb ho HD
  go_wp2_with fail
  with_reducible refine HDD.out.mono ?_
  rintro e w2 ⟨d, sb, wb, fb, c1, rfl, hb2, hd⟩
  have HB2 := Lib.hid hb2
  have HDV := Lib.hid hd
  clear hb2 hd
  go_wp2_with fail
  go_ret2
  exact ⟨HB.out.trans (HB2.out.mono HB.out.size), Or.inr ⟨HE.out, d, g, sb, wb, fb, c, c1, rfl, by rw [HM.out]; exact HDV.out⟩⟩
theorem info42' : (Tryz.prog.info? 105).map (fun i => (i.zero, i.size, i.bytes)) = some (some (.int .u64 0), 1, 8) := by kernel_rfl
def NewTo (d np : Nat) (W : World) (e : Ending) (W' : World) : Prop :=
  ∃ m pb, e = .returned (.tuple #[.pointer (some ⟨m, 0, none⟩), .int .i64 0]) ∧ Below W.heap.size W W' ∧ W.heap.size ≤ m ∧ W.heap.size ≤ pb ∧ m ≠ pb ∧
    MemRow W' m (.pointer (some ⟨d, 0, none⟩)) (.slice (some ⟨pb, 0, none⟩) np np) 0 0 ⟨0, 0, 0, 0, 0, false⟩ ∧ RowAt W' pb np fun _ => .int .u64 0
theorem new19_yes (d np : Nat) (hp : np ≤ 262144) (w : World) : Calls Tryz.prog 52 #[.pointer (some ⟨d, 0, none⟩), .int .i64 np] w (NewTo d np w) := by
  have mk1 := mk_row 24 105 _ _ 8 Tryz.underlying24 info42' rfl np (by omega) (by omega)
  have d0 : decide ((np : Int) < 0) = false := bool_no (by omega)
  have d1 : decide (262144 < (np : Int)) = false := bool_no (by omega)
  have i0 : (0 : Int) ≤ (np : Int) := by omega
  go_enter Tryz.func52, Tryz.ntmps52
  go_wp2_with fail
  go_ret2
  refine ⟨w.heap.size + 1, w.heap.size, rfl, ((Below.refl _ _).alloc (Nat.le_refl _) _).alloc (by simp) _, by omega, by omega, by omega, (two_new w _ _).2, ⟨_, _, (two_new w _ _).1, fun k hk => made_get _ _ _ hk⟩⟩
end Go.Proofs.YtkdcfijebgeajaaGreat

namespace Go.Proofs.YtkdcfijebgeajaaGreat
open Go.RowKit Go.BigFrame
set_option linter.unusedVariables false
set_option linter.unusedSimpArgs false
theorem dev_cells {W : World} {b : Nat} {k0 k1 k2 k3 : Value} {t : TypeId} (h : W.heap[b]? = some (.cells #[k0, k1, k2, k3] t (0, 0))) :
    W.cell? ⟨b, 0, none⟩ = some k0 ∧ W.cell? ⟨b, 1, none⟩ = some k1 ∧ W.cell? ⟨b, 2, none⟩ = some k2 ∧ W.cell? ⟨b, 3, none⟩ = some k3 := by
  refine ⟨?_, ?_, ?_, ?_⟩ <;> (rw [cell_of_row _ _ _ _ _ _ h]; rfl)
end Go.Proofs.YtkdcfijebgeajaaGreat

namespace Go.Proofs.YtkdcfijebgeajaaGreat
open Go.RowKit Go.BigFrame
set_option linter.unusedVariables false
set_option linter.unusedSimpArgs false
def puts (w : World) (b : Nat) : List (Nat × Value) → World
  | [] => w
  | (j, v) :: l => puts (w.setCell ⟨b, j, none⟩ v) b l
end Go.Proofs.YtkdcfijebgeajaaGreat

namespace Go.Proofs.YtkdcfijebgeajaaGreat
open Go.RowKit Go.BigFrame
set_option linter.unusedVariables false
set_option linter.unusedSimpArgs false
def Mv.start (m d kb sb wb fb pb n nt np c0 c1 : Nat) (f : Nat → Int) : Mv :=
  { m, d, kb, sb, wb, fb, pb, n, nt, np, c0, c1, c2 := n, c3 := nt, c4 := np, kept := f, seen := f, pass := fun _ => 0, wr := fun _ => 0, fl := fun _ => [], fv := fun _ => .slice none 0 0, ck := 0, bd := 0, la := ⟨0, 0, 0, 0, 0, false⟩, wm := 0 }
theorem mem_start {W W' : World} {B m d kb sb wb fb pb n nt np c0 c1 : Nat} {f : Nat → Int} (h : DevAt W B d kb sb wb fb n nt c0 c1 f) (hb : Below W.heap.size W W') (hm : W.heap.size ≤ m) (hp : W.heap.size ≤ pb) (hmp : m ≠ pb)
    (hr : MemRow W' m (.pointer (some ⟨d, 0, none⟩)) (.slice (some ⟨pb, 0, none⟩) np np) 0 0 ⟨0, 0, 0, 0, 0, false⟩) (hpr : RowAt W' pb np fun _ => .int .u64 0) (n0 : 0 < n) (n1 : n ≤ 262144) (t1 : nt ≤ 64) (p1 : np ≤ 262144) :
    MemAt W' (Mv.start m d kb sb wb fb pb n nt np c0 c1 f) ∧ ∀ k, (Mv.start m d kb sb wb fb pb n nt np c0 c1 f).own k → B ≤ k ∨ W.heap.size ≤ k := by
  have hd := (Array.getElem?_eq_some_iff.1 h.dev).1
  have l1 := h.rk.lt
  have l2 := h.rs.lt
  have l3 := h.rw.lt
  have l4 := h.rf.lt
  have ap := h.apart
  refine ⟨⟨hr, (hb.block d hd).trans h.dev, h.rk.keep (hb.block _ l1), h.rs.keep (hb.block _ l2), h.rw.keep (hb.block _ l3), h.rf.keep (hb.block _ l4), hpr, fun t _ => Or.inl ⟨rfl, rfl⟩, ?_, (fun t _ g hg => by cases hg), (fun t _ t' _ _ g hg => by cases hg), n0, n1, t1, p1, fun t _ => List.Pairwise.nil, (fun t _ x hx => by cases hx), Int.le_refl _, Int.le_refl _, Int.le_refl _, fun k _ => ⟨Int.le_refl _, Int.le_refl _⟩⟩, ?_⟩
  · simp only [List.nodup_cons, List.mem_cons, List.not_mem_nil, or_false, not_or, List.nodup_nil, and_true, not_false_eq_true] at ap
    simp only [Mv.blocks, Mv.start, List.nodup_cons, List.mem_cons, List.not_mem_nil, or_false, not_or, List.nodup_nil, and_true, not_false_eq_true]
    omega
  · rintro k (hk | ⟨t, _, e⟩)
    · have b := h.base
      simp only [Mv.blocks, Mv.start, List.mem_cons, List.not_mem_nil, or_false] at hk
      omega
    · cases e
end Go.Proofs.YtkdcfijebgeajaaGreat

namespace Go.Proofs.YtkdcfijebgeajaaGreat
open Go.RowKit Go.BigFrame
set_option linter.unusedVariables false
set_option linter.unusedSimpArgs false
theorem row_of_own42 {w : World} {X n g cap : Nat} {f : Nat → Int} (h : w.ownsRow X 105 1 (.slice (some ⟨g, 0, none⟩) n cap) n (wordsL f n)) (hn : 0 < n) : RowAt w g n fun k => .int .u64 (f k) := by
  obtain ⟨g', cap', c, e1, hb, hg, hc1, hcs, hcc⟩ := own_row h hn
  cases e1
  exact ⟨c, _, hg, fun k hk => by rw [hcc k (by omega)]; exact wordsL_get f _ k hk⟩
def WordsTo (f : Nat → Int) (n : Nat) (W : World) (e : Ending) (W' : World) : Prop := ∃ g c, e = .returned (.slice (some ⟨g, 0, none⟩) n c) ∧ Below W.heap.size W W' ∧ RowAt W' g n (fun k => .int .u64 (f k)) ∧ W.heap.size ≤ g
theorem NewWords.to {f : Nat → Int} {n : Nat} {W W' : World} {e : Ending} (h : NewWords f n W e W') (hn : 0 < n) : WordsTo f n W e W' := by
  obtain ⟨v, rfl, hb, ho⟩ := h
  obtain ⟨g, cap, c, rfl, hg, -⟩ := own_row ho hn
  exact ⟨g, cap, rfl, hb, row_of_own42 ho hn, hg⟩
theorem seen24M (M : Mv) (W : World) (h : MemAt W M) : Calls Tryz.prog 48 #[.pointer (some ⟨M.d, 0, none⟩)] W (WordsTo M.seen (8 * M.n) W) := by
  have hd := (dev_cells h.dev).2.1
  have HW := Lib.hid ((words42 M.sb M.n M.c1 h.n1 M.seen W h.seen).mono fun e w hw => hw.to (by have := h.n0; omega))
  clear h
  generalize 8 * M.n = N at *
  go_enter Tryz.func48, Tryz.ntmps48
  go_wp2_with fail
  with_reducible refine HW.out.mono ?_
  rintro e w ⟨g, c, rfl, hb, hr, hg⟩
  have H := Lib.hid (And.intro hb (And.intro hr hg))
  clear hb hr hg
  go_wp2_with fail
  go_ret
  exact ⟨g, c, rfl, H.out.1, H.out.2⟩
theorem kept28M (M : Mv) (W : World) (h : MemAt W M) : Calls Tryz.prog 31 #[.pointer (some ⟨M.d, 0, none⟩)] W (WordsTo M.kept (8 * M.n) W) := by
  have hd := (dev_cells h.dev).1
  have HW := Lib.hid ((words42 M.kb M.n M.c0 h.n1 M.kept W h.kept).mono fun e w hw => hw.to (by have := h.n0; omega))
  clear h
  generalize 8 * M.n = N at *
  go_enter Tryz.func31, Tryz.ntmps31
  go_wp2_with fail
  with_reducible refine HW.out.mono ?_
  rintro e w ⟨g, c, rfl, hb, hr, hg⟩
  have H := Lib.hid (And.intro hb (And.intro hr hg))
  clear hb hr hg
  go_wp2_with fail
  go_ret
  exact ⟨g, c, rfl, H.out.1, H.out.2⟩
theorem same12M (g h n ca cb : Nat) (hn : n ≤ 2097152) (f f' : Nat → Int) (W : World) (h1 : RowAt W g n fun k => .int .u64 (f k)) (h2 : RowAt W h n fun k => .int .u64 (f' k)) (e : ∀ k, k < n → f k = f' k) :
    Calls Tryz.prog 29 #[.slice (some ⟨g, 0, none⟩) n ca, .slice (some ⟨h, 0, none⟩) n cb] W (Gives (.bool true) W) := by
  exact same12 _ _ n ca cb hn f W fun _ => ⟨g, h, rfl, rfl, h1.lt, h2.lt, fun j hj => ⟨h1.cell hj, by rw [e j hj]; exact h2.cell hj⟩⟩
end Go.Proofs.YtkdcfijebgeajaaGreat

namespace Go.Proofs.YtkdcfijebgeajaaGreat
open Go.RowKit Go.BigFrame
set_option linter.unusedVariables false
set_option linter.unusedSimpArgs false
theorem info64 : (Tryz.prog.info? 87).map (fun i => (i.zero, i.size, i.bytes)) = some (some (.agg #[.int .i64 0, .int .i64 0, .int .i64 0]), 3, 24) := by kernel_rfl
abbrev Nm := Int × Int × Int
def nmV (l : List Nm) : List Value := l.flatMap fun p => [.int .i64 p.1, .int .i64 p.2.1, .int .i64 p.2.2]
theorem nmV_snoc (l : List Nm) (a b d : Int) : nmV (l ++ [(a, b, d)]) = nmV l ++ #[Value.int .i64 a, .int .i64 b, .int .i64 d].toList := by simp [nmV]
theorem nmV_len (l : List Nm) : (nmV l).length = l.length * 3 := by
  induction l with
  | nil => rfl
  | cons a t ih => simp only [nmV, List.flatMap_cons, List.length_append, List.length_cons, List.length_nil] at *; rw [ih]; omega
def WordsOf (n : Nat) (l : List Nm) (W : World) (e : Ending) (W' : World) : Prop := ∃ v, e = .returned v ∧ Below W.heap.size W W' ∧ W'.ownsRow W.heap.size 87 3 v n (nmV l)
structure NamesAt (W : World) (c : Array Value) (n : Nat) (l : List Nm) (v : Value) (wr : World) : Prop where
  below : Below W.heap.size W wr
  box : wr.heap[W.heap.size]? = some (.cells c 23 (0, 0))
  own : wr.ownsRow (W.heap.size + 1) 87 3 v n (nmV l)
theorem NamesAt.push {W wr w' : World} {c : Array Value} {n : Nat} {l : List Nm} {v v' : Value} (h : NamesAt W c n l v wr) (hv : ∀ k, v.ownBlock = some k → W.heap.size + 1 ≤ k) {a b d : Int}
    (ho : w'.ownsRow (W.heap.size + 1) 87 3 v' (n + 1) (nmV l ++ #[Value.int .i64 a, .int .i64 b, .int .i64 d].toList)) (hg : wr.grownBy w' v.ownBlock) (hb : ∀ B W0, Below B W0 wr → B ≤ W.heap.size + 1 → Below B W0 w') : NamesAt W c (n + 1) (l ++ [(a, b, d)]) v' w' :=
  ⟨hb _ _ h.below (by omega), (hg.block _ (lt_row h.box) (fun e => by have := hv _ e.symm; omega)).trans h.box, by rw [nmV_snoc]; exact ho⟩
theorem own_mono {w : World} {b b' : Nat} {e : TypeId} {size : Nat} {v : Value} {n : Nat} {xs : List Value} (h : w.ownsRow b e size v n xs) (hb : b' ≤ b) : w.ownsRow b' e size v n xs := by
  refine ⟨h.1, ?_⟩
  rcases h.2 with hn | ⟨g, cap, cur, hv, h2, rest⟩
  · exact .inl hn
  · exact .inr ⟨g, cap, cur, hv, Nat.le_trans hb h2, rest⟩
def kindL (kind : Int) (k : Nat) : List Nm := (List.range k).map fun (i : Nat) => (kind, (i : Int), 0)
theorem kindL_succ (kind : Int) (k : Nat) : kindL kind (k + 1) = kindL kind k ++ [(kind, (k : Int), 0)] := by simp [kindL, List.range_succ]
end Go.Proofs.YtkdcfijebgeajaaGreat

namespace Go.Proofs.YtkdcfijebgeajaaGreat
open Go.RowKit Go.BigFrame
set_option linter.unusedVariables false
set_option linter.unusedSimpArgs false
def up8 (n : Nat) : Nat := (n + 7) / 8 * 8
def zerosL (k : Nat) : List Nm := List.replicate k (0, 0, 0)
theorem zerosL_succ (k : Nat) : zerosL (k + 1) = zerosL k ++ [(0, 0, 0)] := List.replicate_succ'
def fillL (n : Nat) (l : List Nm) : List Nm := l ++ zerosL (up8 n - n)
def FillTo (W : World) (c : Array Value) (n : Nat) (l : List Nm) (e : Ending) (w' : World) : Prop := ∃ v', e = .returned v' ∧ NamesAt W c (up8 n) (fillL n l) v' w'
set_option maxRecDepth 100000 in
theorem fill122 (W : World) (c : Array Value) (n : Nat) (hn : n ≤ 1000000) (l : List Nm) (v : Value) (w : World) (h : NamesAt W c n l v w) : Calls Tryz.prog 42 #[v] w (FillTo W c n l) := by
  obtain ⟨i64, hi, hz0, hz1, hz2⟩ := info_parts info64
  have H0 : Hid (NamesAt W c n (l ++ zerosL (n - n)) v w) := Lib.hid (by rw [Nat.sub_self, show zerosL 0 = [] from rfl, List.append_nil]; exact h)
  have HU : Hid (n ≤ up8 n ∧ up8 n ≤ 1000008 ∧ up8 n % 8 = 0 ∧ up8 n < n + 8) := Lib.hid (by unfold up8; omega)
  clear h
  unfold FillTo fillL
  generalize up8 n = u at *
  go_enter Tryz.func42, Tryz.ntmps42
  go_wp2_with fail
  go_loopg [0] (u - n) (fun g v wr => ∃ k : Nat, k + g = u ∧ n ≤ k ∧ Hid (NamesAt W c k (l ++ zerosL (k - n)) v wr))
  case atStart => exact ⟨n, by have := HU.out; omega, Nat.le_refl _, H0⟩
  case round =>
    obtain ⟨k, hk, hnk, HK⟩ := hrel
    obtain ⟨va, vc, rfl⟩ := own_slice_n HK.out.own
    have HO := Lib.hid HK.out.own
    have HSZ : Hid (W.heap.size + 1 ≤ wr.heap.size) := Lib.hid (lt_row HK.out.box)
    have HKU : Hid (k + gk = u ∧ n ≤ k) := Lib.hid ⟨hk, hnk⟩
    clear hk hnk
    obtain ⟨l0, hl0⟩ : ∃ l0, l0 = l ++ zerosL (k - n) := ⟨_, rfl⟩
    rw [← hl0] at HO HK
    have HL0 := Lib.hid hl0
    clear hl0
    by_cases hlt : k % 8 = 0
    · have d1 : ((k : Int) % 8 == 0) = true := by rw [beq_iff_eq]; omega
      have d2 : ((k : Int) % 8 != 0) = false := by simp [bne, d1]
      have HLT := Lib.hid hlt
      clear hlt
      go_wp2_with fail
      obtain rfl : k = u := by have := HKU.out; have := HU.out; have := HLT.out; omega
      go_ret
      exact ⟨_, rfl, by rw [← HL0.out]; exact HK.out⟩
    · have d1 : ((k : Int) % 8 == 0) = false := by rw [beq_eq_false_iff_ne]; omega
      have d2 : ((k : Int) % 8 != 0) = true := by simp [bne, d1]
      have HLT : Hid (k < u) := Lib.hid (by have := HKU.out; have := HU.out; omega)
      clear hlt
      go_wp2_with (at_builtin; refine wpList_push rfl _ _ 26 rfl (W.heap.size + 1) 87 i64 _ 3 24 Tryz.underlying26 hi hz0 hz1 hz2 rfl (by decide) wr HSZ.out (.slice va k vc) k (nmV l0) rfl HO.out #[.int .i64 0, .int .i64 0, .int .i64 0] 1 1 rfl rfl (by simp [Value.oneCell']) (by have := HLT.out; have := HU.out; unfold maxLen; omega) (by have := HLT.out; have := HU.out; omega) ?_; intro v' w' hown hgr hbel hne; have HP := Lib.hid (HK.out.push (fun q hq => (HO.out.lt q hq).1) hown hgr hbel); clear hown hgr hbel hne)
      go_roundg (gk - 1)
      case rel => exact ⟨k + 1, by have := HKU.out; have := HLT.out; omega, by have := HKU.out; omega, by have h := HP.out; rw [HL0.out, List.append_assoc, ← zerosL_succ, show k - n + 1 = k + 1 - n by have := HKU.out; omega] at h; exact Lib.hid h⟩
      case measure => have := HKU.out; have := HLT.out; omega
end Go.Proofs.YtkdcfijebgeajaaGreat
