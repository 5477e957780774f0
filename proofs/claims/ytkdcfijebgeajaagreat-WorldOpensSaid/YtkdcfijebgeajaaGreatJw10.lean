/- Layer 5 (super), the document's: a line is read, whatever it is.
   Layer 22: of no recovery nothing is told; the most steps.
   Layer 23: of no world nothing is told.
   Layer 30: the bounds' numbers.
   Layer 23, the document's: how many lines a config has; which words are opened, plainly.
   Layer 23 (world): all threads are idle, and new.
   Layer 5 (super): two lines are read: which config is taken. -/
import Derived.Test.YtkdcfijebgeajaaGreatJw9
import Derived.Test.YtkdcfijebgeajaaGreatJw2
import Derived.IntWalk
import Derived.Below
import Derived.Test.YtkdcfijebgeajaaGreatJw6
import Derived.Test.YtkdcfijebgeajaaGreatJw4
import Derived.Test.YtkdcfijebgeajaaGreatJw1
import Derived.Test.YtkdcfijebgeajaaGreatJw3
import Derived.Maps.AppendAt
namespace Go.Proofs.YtkdcfijebgeajaaGreat
open Go.RowKit Go.BigFrame
set_option linter.unusedVariables false
set_option linter.unusedSimpArgs false
def gC (g : Nat → Nat) : Array Value := #[.int .u64 (g 0 : Nat), .int .u64 (g 1 : Nat), .int .u64 (g 2 : Nat), .int .u64 (g 3 : Nat), .int .u64 (g 4 : Nat), .int .u64 (g 5 : Nat), .int .u64 (g 6 : Nat), .int .u64 (g 7 : Nat)]
theorem gC_get (g : Nat → Nat) (k : Nat) (hk : k < 8) : (gC g).toList[k]? = some (.int .u64 (g k : Nat)) := by
  match k, hk with
  | 0, _ | 1, _ | 2, _ | 3, _ | 4, _ | 5, _ | 6, _ | 7, _ => rfl
def supG (th sl lo bu : Nat) (j : Nat) : Nat := [magic, th, sl, lo, bu, 1, 0, sumW (six magic th sl lo bu 1) 7].getD j 0
theorem supG_get (th sl lo bu k : Nat) (hk : k < 8) : (supWs th sl lo bu)[k]? = some (.int .u64 (supG th sl lo bu k : Nat)) := by
  match k, hk with
  | 0, _ | 1, _ | 2, _ | 3, _ | 4, _ | 5, _ | 6, _ | 7, _ => rfl
theorem lineP_iff (g : Nat → Nat) : LineP g ↔ Ok4 (g 1) (g 2) (g 3) (g 4) ∧ ∀ j, j < 8 → supG (g 1) (g 2) (g 3) (g 4) j = g j := by
  unfold LineP
  constructor
  · rintro ⟨h, h0, h5, h6, h7⟩
    refine ⟨h, fun j hj => ?_⟩
    match j, hj with
    | 0, _ => exact h0.symm
    | 1, _ | 2, _ | 3, _ | 4, _ => rfl
    | 5, _ => exact h5.symm
    | 6, _ => exact h6.symm
    | 7, _ => exact h7.symm
  · rintro ⟨h, hj⟩
    exact ⟨h, (hj 0 (by omega)).symm, (hj 5 (by omega)).symm, (hj 6 (by omega)).symm, (hj 7 (by omega)).symm⟩
def RefReadTo (g : Nat → Nat) (w : World) (e : Ending) (w' : World) : Prop :=
  ((LineP g ∧ e = .returned (.tuple #[cfgV (g 1) (g 2) (g 3) (g 4), .bool true])) ∨ (¬ LineP g ∧ e = .returned (.tuple #[.agg #[.int .i64 0, .int .i64 0, .int .i64 0, .int .i64 0], .bool false]))) ∧ Below w.heap.size w w'
theorem own8 {w : World} {B : Nat} {v : Value} {l : List Value} (h : w.ownsRow B 105 1 v 8 l) : ∃ b c, v = .slice (some ⟨b, 0, none⟩) 8 c ∧ B ≤ b ∧ b < w.heap.size ∧ ∀ j u, j < 8 → l[j]? = some u → w.cell? ⟨b, j, none⟩ = some u := by
  obtain ⟨hl, ⟨-, h0⟩ | ⟨b, cap, cur, rfl, hb, hh, hn, hm, hs, ht⟩⟩ := h
  · cases h0
  · refine ⟨b, cap, rfl, hb, lt_row hh, fun j u hj hu => cell_row hh j u ?_⟩
    rw [← ht, List.getElem?_take, if_pos (by omega)] at hu
    exact hu
set_option maxRecDepth 100000 in
set_option maxHeartbeats 4000000 in
theorem refRead81 (g : Nat → Nat) (w : World) : Calls Tryz.prog 81 #[.agg (gC g)] w (RefReadTo g w) := by
  obtain ⟨W2, hW2⟩ : ∃ W2, W2 = (w.alloc (.cells (gC g) 142)).alloc (.cells #[.int .i64 0, .int .i64 0, .int .i64 0, .int .i64 0] 23) := ⟨_, rfl⟩
  have R0 : Hid (W2.heap[w.heap.size]? = some (.cells (gC g) 142 (0, 0))) := Lib.hid (by rw [hW2]; exact (Below.heap_alloc _ _ _ (by simp)).trans (heap_alloc_new w _))
  have R1 : Hid (W2.heap[w.heap.size + 1]? = some (.cells #[.int .i64 0, .int .i64 0, .int .i64 0, .int .i64 0] 23 (0, 0))) := Lib.hid (by
    rw [hW2]
    have := heap_alloc_new (w.alloc (.cells (gC g) 142)) (.cells #[.int .i64 0, .int .i64 0, .int .i64 0, .int .i64 0] 23)
    rwa [World.size_alloc] at this)
  have B2 : Hid (Below w.heap.size w W2) := Lib.hid (by rw [hW2]; exact ((Below.refl _ _).alloc (Nat.le_refl _) _).alloc (by simp) _)
  have HZ : Hid (W2.heap.size = w.heap.size + 2) := Lib.hid (by rw [hW2]; simp)
  have HW : Hid (∀ Q : World → Prop, Q W2 → Q ((w.alloc (.cells (gC g) 142)).alloc (.cells #[.int .i64 0, .int .i64 0, .int .i64 0, .int .i64 0] 23))) := Lib.hid fun Q h => by rw [hW2] at h; exact h
  obtain ⟨G, hG⟩ : ∃ G, G = gC g := ⟨_, rfl⟩
  rw [← hG] at HW ⊢
  clear hG hW2
  have HNO : Hid (¬ LineP g → ∀ w', Below w.heap.size w w' → RefReadTo g w (.returned (.tuple #[.agg #[.int .i64 0, .int .i64 0, .int .i64 0, .int .i64 0], .bool false])) w') := Lib.hid fun h w' hb => ⟨.inr ⟨h, rfl⟩, hb⟩
  go_enter Tryz.func81, Tryz.ntmps81
  go_upto_region 1 with fail
  refine HW.out _ ?_
  clear HW
  go_wp2_with fail
  go_loopw [4] (fun i wr => ∃ k : Nat, 1 ≤ k ∧ k ≤ 5 ∧ i = .int .i64 k ∧ Hid (wr = W2) ∧ Hid (∀ j, 1 ≤ j → j < k → g j ≤ 65536)) (fun i _ => 5 - (intOf i).toNat)
  case atStart => exact ⟨1, by omega, by omega, rfl, Lib.hid rfl, Lib.hid fun j h1 h2 => by omega⟩
  case round =>
    obtain ⟨k, hk1, hk, rfl, HWR, HJ⟩ := hrel
    have r0 := cell_row R1.out 0 _ rfl
    have r1 := cell_row R1.out 1 _ rfl
    have r2 := cell_row R1.out 2 _ rfl
    have r3 := cell_row R1.out 3 _ rfl
    have rf := free_row R1.out
    rw [← HWR.out] at r0 r1 r2 r3 rf
    by_cases hlt : k < 5
    · have d1 : decide ((k : Int) ≤ (4 : Int)) = true := bool_yes (by omega)
      have i0 : (0 : Int) ≤ (k : Int) := by omega
      have i1 : (k : Int) < (8 : Int) := by omega
      have c1 : wr.cell? ⟨w.heap.size, k, none⟩ = some (.int .u64 (g k : Nat)) := by rw [HWR.out]; exact cell_row R0.out k _ (gC_get g k (by omega))
      by_cases hg : g k ≤ 65536
      · have d2 : decide ((65536 : Int) < (g k : Int)) = false := bool_no (by omega)
        have HJ2 : Hid (∀ j, 1 ≤ j → j < k + 1 → g j ≤ 65536) := Lib.hid fun j h1 h2 => by
          by_cases hj : j = k
          · subst hj; exact hg
          · exact HJ.out j h1 (by omega)
        generalize g k = x at c1 d2
        clear hg
        go_wp2_with fail
        go_roundw
        case rel => exact ⟨k + 1, by omega, by omega, by go_num, HWR, HJ2⟩
        case measure => simp [intOf]; omega
      · have d2 : decide ((65536 : Int) < (g k : Int)) = true := bool_yes (by omega)
        have HN : Hid (¬ LineP g) := Lib.hid fun h => by
          obtain ⟨h4, -⟩ := h
          unfold Ok4 at h4
          have hkk : k = 1 ∨ k = 2 ∨ k = 3 ∨ k = 4 := by omega
          rcases hkk with rfl | rfl | rfl | rfl <;> omega
        have HB : Hid (Below w.heap.size w wr) := Lib.hid (by rw [HWR.out]; exact B2.out)
        generalize g k = x at c1 d2
        clear hg
        go_wp2_with fail
        refine bodyPost_ret (v := .tuple #[.agg #[.int .i64 0, .int .i64 0, .int .i64 0, .int .i64 0], .bool false]) ?_ rfl (HNO.out HN.out _ ?_)
        · simp [results, Tryz.results81, go_sem, r0, r1, r2, r3]
        · exact ((((HB.out).setCell (p := ⟨w.heap.size + 1, 0, none⟩) (Nat.le_succ _) _).setCell (p := ⟨w.heap.size + 1, 1, none⟩) (Nat.le_succ _) _).setCell (p := ⟨w.heap.size + 1, 2, none⟩) (Nat.le_succ _) _).setCell (p := ⟨w.heap.size + 1, 3, none⟩) (Nat.le_succ _) _
    · obtain rfl : k = 5 := by omega
      have b1 := HJ.out 1 (by omega) (by omega)
      have b2 := HJ.out 2 (by omega) (by omega)
      have b3 := HJ.out 3 (by omega) (by omega)
      have b4 := HJ.out 4 (by omega) (by omega)
      have c1 : wr.cell? ⟨w.heap.size, 1, none⟩ = some (.int .u64 (g 1 : Nat)) := by rw [HWR.out]; exact cell_row R0.out 1 _ (gC_get g 1 (by omega))
      have c2 : wr.cell? ⟨w.heap.size, 2, none⟩ = some (.int .u64 (g 2 : Nat)) := by rw [HWR.out]; exact cell_row R0.out 2 _ (gC_get g 2 (by omega))
      have c3 : wr.cell? ⟨w.heap.size, 3, none⟩ = some (.int .u64 (g 3 : Nat)) := by rw [HWR.out]; exact cell_row R0.out 3 _ (gC_get g 3 (by omega))
      have c4 : wr.cell? ⟨w.heap.size, 4, none⟩ = some (.int .u64 (g 4 : Nat)) := by rw [HWR.out]; exact cell_row R0.out 4 _ (gC_get g 4 (by omega))
      have HP := Lib.hid (lineP_iff g)
      have HRR := Lib.hid fun w => refRight_any ⟨(g 1 : Nat), (g 2 : Nat), (g 3 : Nat), (g 4 : Nat)⟩ w
      obtain ⟨rt, hrt⟩ : ∃ rt, rt = decide (Cfg.right ⟨(g 1 : Nat), (g 2 : Nat), (g 3 : Nat), (g 4 : Nat)⟩) := ⟨_, rfl⟩
      rw [← hrt] at HRR
      have HO4 : Hid (rt = true ↔ Ok4 (g 1) (g 2) (g 3) (g 4)) := Lib.hid (by
        rw [hrt, decide_eq_true_iff]
        unfold Cfg.right Ok4
        simp only
        omega)
      have HWD : Hid (Ok4 (g 1) (g 2) (g 3) (g 4) → ∀ w, Calls Tryz.prog 84 #[.agg #[.int .i64 (g 1 : Nat), .int .i64 (g 2 : Nat), .int .i64 (g 3 : Nat), .int .i64 (g 4 : Nat)]] w (Words8 (supWs (g 1) (g 2) (g 3) (g 4)) w)) := Lib.hid fun h w => words84 _ _ _ _ h w
      have HSG : Hid (∀ k, k < 8 → (supWs (g 1) (g 2) (g 3) (g 4))[k]? = some (.int .u64 (supG (g 1) (g 2) (g 3) (g 4) k : Nat))) := Lib.hid fun k hk => supG_get _ _ _ _ k hk
      have HYES : Hid (LineP g → ∀ w', Below w.heap.size w w' → RefReadTo g w (.returned (.tuple #[.agg #[.int .i64 (g 1 : Nat), .int .i64 (g 2 : Nat), .int .i64 (g 3 : Nat), .int .i64 (g 4 : Nat)], .bool true])) w') := Lib.hid fun h w' hb => ⟨.inl ⟨h, rfl⟩, hb⟩
      generalize supWs (g 1) (g 2) (g 3) (g 4) = SL at HWD HSG
      generalize supG (g 1) (g 2) (g 3) (g 4) = SG at HSG HP
      clear hrt HJ
      simp only [Cfg.cells] at HRR
      obtain ⟨x1, hx1⟩ : ∃ x, x = g 1 := ⟨_, rfl⟩
      obtain ⟨x2, hx2⟩ : ∃ x, x = g 2 := ⟨_, rfl⟩
      obtain ⟨x3, hx3⟩ : ∃ x, x = g 3 := ⟨_, rfl⟩
      obtain ⟨x4, hx4⟩ : ∃ x, x = g 4 := ⟨_, rfl⟩
      rw [← hx1] at b1 c1 HRR HWD HP HO4 HYES
      rw [← hx2] at b2 c2 HRR HWD HP HO4 HYES
      rw [← hx3] at b3 c3 HRR HWD HP HO4 HYES
      rw [← hx4] at b4 c4 HRR HWD HP HO4 HYES
      clear hx1 hx2 hx3 hx4
      have v1 : IntKind.i64.wrap (x1 : Int) = x1 := IntWalk.i64_in _ (by omega)
      have v2 : IntKind.i64.wrap (x2 : Int) = x2 := IntWalk.i64_in _ (by omega)
      have v3 : IntKind.i64.wrap (x3 : Int) = x3 := IntWalk.i64_in _ (by omega)
      have v4 : IntKind.i64.wrap (x4 : Int) = x4 := IntWalk.i64_in _ (by omega)
      have HZR : Hid (wr.heap.size = w.heap.size + 2) := Lib.hid (by rw [HWR.out]; exact HZ.out)
      have R0' : Hid (wr.heap[w.heap.size]? = some (.cells (gC g) 142 (0, 0))) := Lib.hid (by rw [HWR.out]; exact R0.out)
      have R1' : Hid (wr.heap[w.heap.size + 1]? = some (.cells #[.int .i64 0, .int .i64 0, .int .i64 0, .int .i64 0] 23 (0, 0))) := Lib.hid (by rw [HWR.out]; exact R1.out)
      have B3 : Hid (Below w.heap.size w wr) := Lib.hid (by rw [HWR.out]; exact B2.out)
      clear HWR r0 r1 r2 r3 rf R0 R1 B2 HZ
      go_wp2_with fail
      obtain ⟨W3, hW3⟩ : ∃ W3, W3 = wr.alloc (.cells #[.int .i64 x1, .int .i64 x2, .int .i64 x3, .int .i64 x4] 23) := ⟨_, rfl⟩
      have R2 : Hid (W3.heap[wr.heap.size]? = some (.cells #[.int .i64 x1, .int .i64 x2, .int .i64 x3, .int .i64 x4] 23 (0, 0))) := Lib.hid (by rw [hW3]; exact heap_alloc_new wr _)
      have R03 : Hid (W3.heap[w.heap.size]? = some (.cells (gC g) 142 (0, 0))) := Lib.hid (by rw [hW3, Below.heap_alloc _ _ _ (lt_row R0'.out)]; exact R0'.out)
      have R13 : Hid (W3.heap[w.heap.size + 1]? = some (.cells #[.int .i64 0, .int .i64 0, .int .i64 0, .int .i64 0] 23 (0, 0))) := Lib.hid (by rw [hW3, Below.heap_alloc _ _ _ (lt_row R1'.out)]; exact R1'.out)
      have B33 : Hid (Below w.heap.size w W3) := Lib.hid (by rw [hW3]; exact B3.out.alloc B3.out.size _)
      rw [← hW3]
      clear hW3 c1 c2 c3 c4 R0' R1' B3
      refine (HRR.out _).mono ?_
      rintro e w4 ⟨rfl, hb⟩
      have R24 := Lib.hid ((hb.block _ (lt_row R2.out)).trans R2.out)
      have R04 := Lib.hid ((hb.block _ (lt_row R03.out)).trans R03.out)
      have R14 := Lib.hid ((hb.block _ (lt_row R13.out)).trans R13.out)
      have B4 : Hid (Below w.heap.size w w4) := Lib.hid (B33.out.trans (hb.mono B33.out.size))
      clear hb R2 R03 R13 B33
      cases rt
      case false =>
        have HN : Hid (¬ LineP g) := Lib.hid fun h => by
          have := HO4.out.2 (HP.out.1 h).1
          cases this
        have r0 := cell_row R14.out 0 _ rfl
        have r1 := cell_row R14.out 1 _ rfl
        have r2 := cell_row R14.out 2 _ rfl
        have r3 := cell_row R14.out 3 _ rfl
        have rf := free_row R14.out
        go_wp2_with fail
        refine bodyPost_ret (v := .tuple #[.agg #[.int .i64 0, .int .i64 0, .int .i64 0, .int .i64 0], .bool false]) ?_ rfl (HNO.out HN.out _ ?_)
        · simp [results, Tryz.results81, go_sem, r0, r1, r2, r3]
        · exact ((((B4.out).setCell (p := ⟨w.heap.size + 1, 0, none⟩) (Nat.le_succ _) _).setCell (p := ⟨w.heap.size + 1, 1, none⟩) (Nat.le_succ _) _).setCell (p := ⟨w.heap.size + 1, 2, none⟩) (Nat.le_succ _) _).setCell (p := ⟨w.heap.size + 1, 3, none⟩) (Nat.le_succ _) _
      case true =>
        have HOK := Lib.hid (HO4.out.1 rfl)
        have q0 := cell_row R24.out 0 _ rfl
        have q1 := cell_row R24.out 1 _ rfl
        have q2 := cell_row R24.out 2 _ rfl
        have q3 := cell_row R24.out 3 _ rfl
        go_wp2_with fail
        refine (HWD.out HOK.out _).mono ?_
        rintro e w5 ⟨u, rfl, hb, ho⟩
        obtain ⟨bb, cc, rfl, hbb, hlt, hcell⟩ := own8 ho
        have R25 := Lib.hid ((hb.block _ (lt_row R24.out)).trans R24.out)
        have R05 := Lib.hid ((hb.block _ (lt_row R04.out)).trans R04.out)
        have R15 := Lib.hid ((hb.block _ (lt_row R14.out)).trans R14.out)
        have B5 : Hid (Below w.heap.size w w5) := Lib.hid (B4.out.trans (hb.mono B4.out.size))
        have HCL : Hid (∀ k, k < 8 → w5.cell? ⟨bb, k, none⟩ = some (.int .u64 (SG k : Nat))) := Lib.hid fun k hk => hcell k _ hk (HSG.out k hk)
        clear hb ho hcell q0 q1 q2 q3 R24 R04 R14 B4 HSG HWD HRR HO4
        go_wp2_with fail
        go_loopw [7] (fun i wr => ∃ k : Nat, k ≤ 8 ∧ i = .int .i64 k ∧ Hid (∃ n, wr = w5.drewN n) ∧ Hid (∀ j, j < k → SG j = g j)) (fun i _ => 8 - (intOf i).toNat)
        case atStart => exact ⟨0, by omega, rfl, Lib.hid ⟨0, rfl⟩, Lib.hid fun j h2 => by omega⟩
        case round =>
          obtain ⟨k, hk, rfl, HWR, HJ⟩ := hrel
          have HEQ : Hid (∀ b : Nat, wr.heap[b]? = w5.heap[b]?) := Lib.hid fun b => by obtain ⟨n, e⟩ := HWR.out; rw [e]; exact (rfl : (w5.drewN n).heap[b]? = w5.heap[b]?)
          have B6 : Hid (Below w.heap.size w wr) := Lib.hid (by obtain ⟨n, e⟩ := HWR.out; rw [e]; exact B5.out.trans ⟨rfl, rfl, rfl, Nat.le_refl _, fun _ _ => rfl⟩)
          by_cases hlt : k < 8
          · have d1 : decide ((k : Int) < (8 : Int)) = true := bool_yes (by omega)
            have i0 : (0 : Int) ≤ (k : Int) := by omega
            have i1 : (k : Int) < (8 : Int) := by omega
            have c1 : wr.cell? ⟨bb, k, none⟩ = some (.int .u64 (SG k : Nat)) := (cell_of_heap (HEQ.out _) _).trans (HCL.out k hlt)
            have c2 : wr.cell? ⟨w.heap.size, k, none⟩ = some (.int .u64 (g k : Nat)) := cell_row ((HEQ.out _).trans R05.out) k _ (gC_get g k hlt)
            have r0 := cell_row ((HEQ.out _).trans R15.out) 0 _ rfl
            have r1 := cell_row ((HEQ.out _).trans R15.out) 1 _ rfl
            have r2 := cell_row ((HEQ.out _).trans R15.out) 2 _ rfl
            have r3 := cell_row ((HEQ.out _).trans R15.out) 3 _ rfl
            have rf := free_row ((HEQ.out _).trans R15.out)
            by_cases hg : SG k = g k
            · have HJ2 : Hid (∀ j, j < k + 1 → SG j = g j) := Lib.hid fun j h2 => by
                by_cases hj : j = k
                · subst hj; exact hg
                · exact HJ.out j (by omega)
              rw [hg] at c1
              generalize g k = x at c1 c2
              clear hg r0 r1 r2 r3 rf
              go_wp2_with fail
              refine region_qd 0 7 (by kernel_rfl) (by kernel_rfl) (fun _ _ d _ _ h => by cases d <;> exact h) ?_
              simp only [List.take_succ_cons, List.take_zero, List.drop_succ_cons, List.drop_zero, Nat.reduceAdd]
              refine wpQuiet_nil ?_
              repeat (first | go_big_quiet_skip | (go_big_quiet_want; go_big_quiet_op; go_big_quiet_on))
              refine wpQuiet_nil ?_
              rintro _ ⟨m, rfl⟩
              go_wp2_with fail
              go_roundw
              case rel => exact ⟨k + 1, by omega, by go_num, Lib.hid (by obtain ⟨n, e⟩ := HWR.out; exact ⟨n + m, by rw [e]; simp⟩), HJ2⟩
              case measure => simp [intOf]; omega
            · have HN : Hid (¬ LineP g) := Lib.hid fun h => hg ((HP.out.1 h).2 k hlt)
              have hne : ¬ ((SG k : Nat) : Int) = ((g k : Nat) : Int) := by omega
              have hne2 : (((SG k : Nat) : Int) == ((g k : Nat) : Int)) = false := by simpa using hne
              generalize g k = x at c1 c2 hne hne2
              generalize SG k = y at c1 c2 hne hne2
              clear hg
              go_wp2_with fail
              refine region_qd 0 7 (by kernel_rfl) (by kernel_rfl) (fun _ _ d _ _ h => by cases d <;> exact h) ?_
              simp only [List.take_succ_cons, List.take_zero, List.drop_succ_cons, List.drop_zero, Nat.reduceAdd]
              refine wpQuiet_nil ?_
              repeat (first | go_big_quiet_skip | (go_big_quiet_want; go_big_quiet_op; go_big_quiet_on))
              refine wpQuiet_nil ?_
              rintro _ ⟨m, rfl⟩
              have s0 : (wr.drewN m).cell? ⟨w.heap.size + 1, 0, none⟩ = _ := r0
              have s1 : (wr.drewN m).cell? ⟨w.heap.size + 1, 1, none⟩ = _ := r1
              have s2 : (wr.drewN m).cell? ⟨w.heap.size + 1, 2, none⟩ = _ := r2
              have s3 : (wr.drewN m).cell? ⟨w.heap.size + 1, 3, none⟩ = _ := r3
              have sf : ∀ j, (wr.drewN m).frozen? ⟨w.heap.size + 1, j, none⟩ = false := rf
              have B7 : Hid (Below w.heap.size w (wr.drewN m)) := Lib.hid (B6.out.trans ⟨rfl, rfl, rfl, Nat.le_refl _, fun _ _ => rfl⟩)
              generalize wr.drewN m = w7 at s0 s1 s2 s3 sf B7 ⊢
              clear r0 r1 r2 r3 rf c1 c2
              go_wp2_with fail
              refine bodyPost_ret (v := .tuple #[.agg #[.int .i64 0, .int .i64 0, .int .i64 0, .int .i64 0], .bool false]) ?_ rfl (HNO.out HN.out _ ?_)
              · simp [results, Tryz.results81, go_sem, s0, s1, s2, s3]
              · exact ((((B7.out).setCell (p := ⟨w.heap.size + 1, 0, none⟩) (Nat.le_succ _) _).setCell (p := ⟨w.heap.size + 1, 1, none⟩) (Nat.le_succ _) _).setCell (p := ⟨w.heap.size + 1, 2, none⟩) (Nat.le_succ _) _).setCell (p := ⟨w.heap.size + 1, 3, none⟩) (Nat.le_succ _) _
          · obtain rfl : k = 8 := by omega
            have HY : Hid (LineP g) := Lib.hid (HP.out.2 ⟨HOK.out, fun j hj => HJ.out j hj⟩)
            have r0 := cell_row ((HEQ.out _).trans R15.out) 0 _ rfl
            have r1 := cell_row ((HEQ.out _).trans R15.out) 1 _ rfl
            have r2 := cell_row ((HEQ.out _).trans R15.out) 2 _ rfl
            have r3 := cell_row ((HEQ.out _).trans R15.out) 3 _ rfl
            have q0 := cell_row ((HEQ.out _).trans R25.out) 0 _ rfl
            have q1 := cell_row ((HEQ.out _).trans R25.out) 1 _ rfl
            have q2 := cell_row ((HEQ.out _).trans R25.out) 2 _ rfl
            have q3 := cell_row ((HEQ.out _).trans R25.out) 3 _ rfl
            have rf := free_row ((HEQ.out _).trans R15.out)
            have B7 := B6
            go_wp2_with fail
            refine bodyPost_ret (v := .tuple #[.agg #[.int .i64 x1, .int .i64 x2, .int .i64 x3, .int .i64 x4], .bool true]) ?_ rfl (HYES.out HY.out _ ?_)
            · simp [results, Tryz.results81, go_sem, r0, r1, r2, r3]
            · exact ((((B7.out).setCell (p := ⟨w.heap.size + 1, 0, none⟩) (Nat.le_succ _) _).setCell (p := ⟨w.heap.size + 1, 1, none⟩) (Nat.le_succ _) _).setCell (p := ⟨w.heap.size + 1, 2, none⟩) (Nat.le_succ _) _).setCell (p := ⟨w.heap.size + 1, 3, none⟩) (Nat.le_succ _) _
end Go.Proofs.YtkdcfijebgeajaaGreat

namespace Go.Proofs.YtkdcfijebgeajaaGreat
open Go.RowKit Go.BigFrame
set_option linter.unusedVariables false
set_option linter.unusedSimpArgs false
theorem ret_intA {k : IntKind} {a b : Int} (h : a = b) : Ending.returned (.int k a) = .returned (.int k b) := by rw [h]
end Go.Proofs.YtkdcfijebgeajaaGreat

namespace Go.Proofs.YtkdcfijebgeajaaGreat
open Go.RowKit Go.BigFrame
set_option linter.unusedVariables false
set_option linter.unusedSimpArgs false
def Awake (P : Program) (f : FuncId) : Prop := ∀ w, Calls P f #[] w fun e w' => e = .returned (.bool true) ∧ Below w.heap.size w w'
end Go.Proofs.YtkdcfijebgeajaaGreat

namespace Go.Proofs.YtkdcfijebgeajaaGreat
open Go.RowKit Go.BigFrame
set_option linter.unusedVariables false
set_option linter.unusedSimpArgs false
def IntOn (v : Int) (w : World) (e : Ending) (w' : World) : Prop := e = .returned (.int .i64 v) ∧ Below w.heap.size w w'
end Go.Proofs.YtkdcfijebgeajaaGreat

namespace Go.Proofs.YtkdcfijebgeajaaGreat
open Go.RowKit Go.BigFrame
set_option linter.unusedVariables false
set_option linter.unusedSimpArgs false
def linesN (th sl lo bu : Nat) : Nat := 5 + (bu + 7) / 8 + th + th * ((lo + 7) / 8) + sl
set_option maxRecDepth 100000 in
theorem lines82 (th sl lo bu : Nat) (h : Ok4 th sl lo bu) (w : World) : Calls Tryz.prog 82 #[.agg #[.int .i64 th, .int .i64 sl, .int .i64 lo, .int .i64 bu]] w (IntOn (linesN th sl lo bu : Nat) w) := by
  unfold Ok4 at h
  have hm : th * ((lo + 7) / 8) ≤ 64 * 9 := Nat.mul_le_mul (by omega) (by omega)
  have hmi : (th : Int) * (((lo + 7) / 8 : Nat) : Int) = ((th * ((lo + 7) / 8) : Nat) : Int) := by rw [Int.natCast_mul]
  unfold linesN
  obtain ⟨z, hz⟩ : ∃ z : Nat, z = th * ((lo + 7) / 8) := ⟨_, rfl⟩
  rw [← hz] at hm hmi ⊢
  have e1 : wrap64 ((bu : Int) + 7) = (bu : Int) + 7 := wrap_small _ (by omega) (by omega)
  have e2 : ((bu : Int) + 7).tdiv 8 = (((bu + 7) / 8 : Nat) : Int) := by rw [Int.tdiv_eq_ediv_of_nonneg (by omega)]; omega
  have e3 : wrap64 ((lo : Int) + 7) = (lo : Int) + 7 := wrap_small _ (by omega) (by omega)
  have e4 : ((lo : Int) + 7).tdiv 8 = (((lo + 7) / 8 : Nat) : Int) := by rw [Int.tdiv_eq_ediv_of_nonneg (by omega)]; omega
  obtain ⟨y, hy⟩ : ∃ y : Nat, y = (bu + 7) / 8 := ⟨_, rfl⟩
  obtain ⟨x, hx⟩ : ∃ x : Nat, x = (lo + 7) / 8 := ⟨_, rfl⟩
  rw [← hy] at e2 ⊢
  rw [← hx] at e4 hmi
  have HF : Hid (y ≤ 10 ∧ x ≤ 10 ∧ z ≤ 576 ∧ (th : Int) * (x : Int) = (z : Int) ∧ th ≤ 64 ∧ sl ≤ 65536) := Lib.hid ⟨by omega, by omega, by omega, hmi, by omega, by omega⟩
  clear hm hmi hz hy hx
  go_enter Tryz.func82, Tryz.ntmps82
  go_wp2_with fail
  go_ret
  refine ⟨ret_intA ?_, by first | exact (Below.refl _ _).alloc (Nat.le_refl _) _⟩
  obtain ⟨f1, f2, f3, f4, f5, f6⟩ := HF.out
  rw [wrap_small (y : Int) (by omega) (by omega), wrap_small (x : Int) (by omega) (by omega), f4, wrap_small (z : Int) (by omega) (by omega), wrap_small (5 + (y : Int)) (by omega) (by omega), wrap_small (5 + (y : Int) + th) (by omega) (by omega), wrap_small (5 + (y : Int) + th + z) (by omega) (by omega), wrap_small _ (by omega) (by omega)]
  omega
def same4 (g h : Nat → Nat) : Prop := g 1 = h 1 ∧ g 2 = h 2 ∧ g 3 = h 3 ∧ g 4 = h 4
open Classical in
/-- Of two lines, the one whose config is taken. -/
noncomputable def pickP (g h : Nat → Nat) : Option (Nat → Nat) := if LineP g then (if LineP h then (if same4 g h then some g else none) else some g) else (if LineP h then some h else none)
theorem pickP_line {g h x : Nat → Nat} (e : pickP g h = some x) : LineP x := by
  unfold pickP at e
  split at e
  · split at e
    · split at e
      · cases e; assumption
      · cases e
    · cases e; assumption
  · split at e
    · cases e; assumption
    · cases e
def linesX (x : Nat → Nat) : Nat := linesN (x 1) (x 2) (x 3) (x 4)
def next8 (f : Nat → Nat) (j : Nat) : Nat := f (8 + j)
noncomputable def errP (f : Nat → Nat) (n : Nat) : Int :=
  if wholeE n ≠ 0 then wholeE n else if n < 16 then 3 else
    match pickP f (next8 f) with
    | none => 8
    | some x => if linesX x ≠ n / 8 then 3 else 0
theorem errP_ok {f : Nat → Nat} {n : Nat} (h : errP f n = 0) : wholeE n = 0 ∧ 16 ≤ n ∧ ∃ x, pickP f (next8 f) = some x ∧ linesX x = n / 8 := by
  unfold errP at h
  split at h
  · rename_i h1; exact absurd h h1
  · rename_i h1
    split at h
    · cases h
    · rename_i h2
      split at h
      · cases h
      · rename_i x hx
        split at h
        · cases h
        · rename_i h3
          exact ⟨Classical.not_not.1 h1, by omega, x, hx, Classical.not_not.1 h3⟩
def MayTo (f : Nat → Nat) (n : Nat) (w : World) (e : Ending) (w' : World) : Prop :=
  ∃ c0 c1 c2 c3 : Int, e = .returned (.tuple #[.agg #[.int .i64 c0, .int .i64 c1, .int .i64 c2, .int .i64 c3], .int .i64 (errP f n)]) ∧ Below w.heap.size w w' ∧
    ∀ x, errP f n = 0 → pickP f (next8 f) = some x → c0 = (x 1 : Nat) ∧ c1 = (x 2 : Nat) ∧ c2 = (x 3 : Nat) ∧ c3 = (x 4 : Nat)
end Go.Proofs.YtkdcfijebgeajaaGreat

namespace Go.Proofs.YtkdcfijebgeajaaGreat
open Go.RowKit Go.BigFrame
set_option linter.unusedVariables false
set_option linter.unusedSimpArgs false
theorem new44 (l : Nat) (t : Int) (w : World) : Calls Tryz.prog 44 #[.pointer (some ⟨l, 0, none⟩), .int .i64 t] w fun e w' => e = .returned (.pointer (some ⟨w.heap.size, 0, none⟩)) ∧ ∃ o, w' = w.alloc o := by
  go_enter Tryz.func44, Tryz.ntmps44
  go_wp2_with fail
  go_ret
  exact ⟨rfl, _, rfl⟩
theorem info59 : (Tryz.prog.info? 59).map (fun i => (i.zero, i.size, i.bytes)) = some (some (.pointer none), 1, 8) := by kernel_rfl
theorem info3' : (Tryz.prog.info? 3).map (fun i => (i.zero, i.size, i.bytes)) = some (some (.int .i64 0), 1, 8) := by kernel_rfl
theorem fld23_0 (a b c d : Value) (w : World) : (Instr.field 23 (.agg #[a, b, c, d]) 0).run Tryz.prog w = .ok a w := by kernel_rfl
theorem own_at_block {w : World} {B : Nat} {e : TypeId} {v : Value} {n : Nat} {xs : List Value} (h : w.ownsRow B e 1 v n xs) (q : Nat) (hq : v.ownBlock = some q) : B ≤ q ∧ ∃ c, w.heap[q]? = some (.cells c e (0, 0)) := by
  obtain ⟨-, ⟨rfl, -⟩ | ⟨g, cap, cur, rfl, hb, hh, -⟩⟩ := h
  · cases hq
  · cases hq; exact ⟨hb, cur, hh⟩
theorem own_same {w w' : World} {B : Nat} {e : TypeId} {v : Value} {n : Nat} {xs : List Value} (h : w.ownsRow B e 1 v n xs) (hk : ∀ q, v.ownBlock = some q → w'.heap[q]? = w.heap[q]?) : w'.ownsRow B e 1 v n xs := by
  obtain ⟨h1, h2 | ⟨g, cap, cur, rfl, hb, hh, r⟩⟩ := h
  · exact ⟨h1, .inl h2⟩
  · exact ⟨h1, .inr ⟨g, cap, cur, rfl, hb, (hk g rfl).trans hh, r⟩⟩
structure IdleAt (w0 : World) (x : Nat) (l m st rv cl : Value) (k : Nat) (wr : World) : Prop where
  row : ∃ v4 v6 xs ys, wr.heap[x]? = some (.cells #[l, m, st, rv, v4, cl, v6] 137 (0, 0)) ∧ wr.ownsRow w0.heap.size 59 1 v4 k xs ∧ wr.ownsRow w0.heap.size 3 1 v6 k ys
  but : But x w0 wr
set_option maxRecDepth 100000 in
set_option maxHeartbeats 4000000 in
theorem idle80 (x l : Nat) (m st rv v4 cl v6 : Value) (v : Lv) (w : World) (hth : 0 ≤ v.th ∧ v.th ≤ 64) (hr : w.heap[x]? = some (.cells #[.pointer (some ⟨l, 0, none⟩), m, st, rv, v4, cl, v6] 137 (0, 0))) (hl : LayAt w l v) (hxl : x ≠ l)
    (HC : Hid (∀ w', w'.heap[l]? = w.heap[l]? → Calls Tryz.prog 28 #[.pointer (some ⟨l, 0, none⟩)] w' (Gives (.agg #[.int .i64 v.th, .int .i64 v.sl, .int .i64 v.lo, .int .i64 v.bu]) w'))) :
    Calls Tryz.prog 80 #[.pointer (some ⟨x, 0, none⟩)] w fun e w' => (∃ u, e = .returned u) ∧ IdleAt w x (.pointer (some ⟨l, 0, none⟩)) m st (.pointer none) cl v.th.toNat w' := by
  have HR := Lib.hid hr
  have q0 := cell_row hr 0 _ rfl
  have q4 := cell_row hr 4 _ rfl
  have q6 := cell_row hr 6 _ rfl
  have qf := free_row hr
  obtain ⟨th, hthh⟩ : ∃ th : Nat, (th : Int) = v.th := ⟨v.th.toNat, by omega⟩
  have hto : v.th.toNat = th := by omega
  rw [hto]
  rw [← hthh] at HC hth
  have HTH : Hid (th ≤ 64) := Lib.hid (by omega)
  clear hr hth hthh hto
  go_enter Tryz.func80, Tryz.ntmps80
  go_wp2_with fail
  refine (HC.out _ ((heap_set_other (Ne.symm hxl)).trans (heap_set_other (Ne.symm hxl)))).mono ?_
  rintro e w1 ⟨rfl, hb⟩
  have R1 : Hid (w1.heap[x]? = some (.cells #[.pointer (some ⟨l, 0, none⟩), m, st, rv, .slice none 0 0, cl, .slice none 0 0] 137 (0, 0))) := Lib.hid ((hb.block _ (by simp [World.setCell]; exact lt_row HR.out)).trans (heap_set _ (heap_set _ HR.out)))
  have B1 : Hid (But x w w1) := Lib.hid ((((But.refl x w).set 4 _).set 6 _).trans (But.of_below hb))
  clear hb q0 q4 q6 qf
  have I0 : Hid (IdleAt w x (.pointer (some ⟨l, 0, none⟩)) m st rv cl 0 w1) := Lib.hid ⟨⟨_, _, [], [], R1.out, World.ownsRow_nil _ _ _ _, World.ownsRow_nil _ _ _ _⟩, B1.out⟩
  clear R1 B1 HC
  have hfl := fun (a b c d : Value) (w : World) => fld23_0 a b c d w
  go_wp2_with fail
  clear hfl
  go_loopw [15] (fun i wr => ∃ k : Nat, k ≤ th ∧ i = .int .i64 k ∧ Hid (IdleAt w x (.pointer (some ⟨l, 0, none⟩)) m st rv cl k wr)) (fun i _ => th - (intOf i).toNat)
  case atStart => exact ⟨0, by omega, rfl, I0⟩
  case round =>
    obtain ⟨k, hk, rfl, HI⟩ := hrel
    obtain ⟨⟨u4, u6, xs, ys, hrow, ho4, ho6⟩, hbut⟩ := HI.out
    have HR1 := Lib.hid hrow
    have HO4 := Lib.hid ho4
    have HO6 := Lib.hid ho6
    have HB := Lib.hid hbut
    clear hrow ho4 ho6 hbut HI
    by_cases hlt : k < th
    · have d1 : decide ((k : Int) < (th : Int)) = true := bool_yes (by omega)
      obtain ⟨g4, c4, rfl⟩ := own_slice_n HO4.out
      obtain ⟨g6, c6, rfl⟩ := own_slice_n HO6.out
      obtain ⟨i59, hi, hz0, hz1, hz2⟩ := info_parts info59
      obtain ⟨i3, hi3, hz30, hz31, hz32⟩ := info_parts info3'
      have HLT : Hid (k < th) := Lib.hid hlt
      have i0 : (0 : Int) ≤ (k : Int) := by omega
      have i1 : (k : Int) < 64 := by have := HTH.out; omega
      go_wp2_with fail
      have HF : Hid (∀ w'' : World, w''.heap[x]? = wr.heap[x]? → w''.cell? ⟨x, 0, none⟩ = some (.pointer (some ⟨l, 0, none⟩)) ∧ w''.cell? ⟨x, 4, none⟩ = some (.slice g4 k c4)) := Lib.hid fun w'' h => ⟨cell_row (h.trans HR1.out) 0 _ rfl, cell_row (h.trans HR1.out) 4 _ rfl⟩
      have SX : wr.drew.heap[x]? = wr.heap[x]? := rfl
      refine region_last (fun w'' => w''.heap[x]? = wr.heap[x]?) (by kernel_rfl) rfl (by kernel_rfl) ?_
      simp only [List.pop_toArray, List.dropLast, List.size_toArray, List.length_cons, List.length_nil, Nat.reduceAdd]
      refine take_at 0 (some 18) (.pointer (some ⟨x, 0, none⟩)) rfl rfl (by kernel_rfl) (by kernel_rfl) (by kernel_rfl) (fun _ _ _ h => h) (Or.inl ⟨by rfl, ?_⟩) SX ?_
      · intro w hSw
        obtain ⟨f0, f4⟩ := HF.out w hSw
        clear hSw
        go_simp
      try simp only [Act.put, List.setIfInBounds_toArray, List.set_cons_zero, List.set_cons_succ]
      refine take_at 1 (some 19) (.pointer (some ⟨x, 0, none⟩)) rfl rfl (by kernel_rfl) (by kernel_rfl) (by kernel_rfl) (fun _ _ _ h => h) (Or.inl ⟨by rfl, ?_⟩) SX ?_
      · intro w hSw
        obtain ⟨f0, f4⟩ := HF.out w hSw
        clear hSw
        go_simp
      try simp only [Act.put, List.setIfInBounds_toArray, List.set_cons_zero, List.set_cons_succ]
      refine take_at 2 (some 20) (.pointer (some ⟨x, 0, none⟩)) rfl rfl (by kernel_rfl) (by kernel_rfl) (by kernel_rfl) (fun _ _ _ h => h) (Or.inl ⟨by rfl, ?_⟩) SX ?_
      · intro w hSw
        obtain ⟨f0, f4⟩ := HF.out w hSw
        clear hSw
        go_simp
      try simp only [Act.put, List.setIfInBounds_toArray, List.set_cons_zero, List.set_cons_succ]
      refine take_at 3 (some 21) (.pointer (some ⟨x, 4, none⟩)) rfl rfl (by kernel_rfl) (by kernel_rfl) (by kernel_rfl) (fun _ _ _ h => h) (Or.inl ⟨by rfl, ?_⟩) SX ?_
      · intro w hSw
        obtain ⟨f0, f4⟩ := HF.out w hSw
        clear hSw
        go_simp
      try simp only [Act.put, List.setIfInBounds_toArray, List.set_cons_zero, List.set_cons_succ]
      refine take_at 4 (some 22) (.slice g4 k c4) rfl rfl (by kernel_rfl) (by kernel_rfl) (by kernel_rfl) (fun _ _ _ h => h) (Or.inl ⟨by rfl, ?_⟩) SX ?_
      · intro w hSw
        obtain ⟨f0, f4⟩ := HF.out w hSw
        clear hSw
        go_simp
      try simp only [Act.put, List.setIfInBounds_toArray, List.set_cons_zero, List.set_cons_succ]
      refine take_at 5 (some 23) (.pointer (some ⟨x, 0, none⟩)) rfl rfl (by kernel_rfl) (by kernel_rfl) (by kernel_rfl) (fun _ _ _ h => h) (Or.inl ⟨by rfl, ?_⟩) SX ?_
      · intro w hSw
        obtain ⟨f0, f4⟩ := HF.out w hSw
        clear hSw
        go_simp
      try simp only [Act.put, List.setIfInBounds_toArray, List.set_cons_zero, List.set_cons_succ]
      refine take_at 6 (some 24) (.pointer (some ⟨x, 0, none⟩)) rfl rfl (by kernel_rfl) (by kernel_rfl) (by kernel_rfl) (fun _ _ _ h => h) (Or.inl ⟨by rfl, ?_⟩) SX ?_
      · intro w hSw
        obtain ⟨f0, f4⟩ := HF.out w hSw
        clear hSw
        go_simp
      try simp only [Act.put, List.setIfInBounds_toArray, List.set_cons_zero, List.set_cons_succ]
      refine take_at 7 (some 25) (.pointer (some ⟨x, 0, none⟩)) rfl rfl (by kernel_rfl) (by kernel_rfl) (by kernel_rfl) (fun _ _ _ h => h) (Or.inl ⟨by rfl, ?_⟩) SX ?_
      · intro w hSw
        obtain ⟨f0, f4⟩ := HF.out w hSw
        clear hSw
        go_simp
      try simp only [Act.put, List.setIfInBounds_toArray, List.set_cons_zero, List.set_cons_succ]
      refine take_at 8 (some 26) (.pointer (some ⟨l, 0, none⟩)) rfl rfl (by kernel_rfl) (by kernel_rfl) (by kernel_rfl) (fun _ _ _ h => h) (Or.inl ⟨by rfl, ?_⟩) SX ?_
      · intro w hSw
        obtain ⟨f0, f4⟩ := HF.out w hSw
        clear hSw
        go_simp
      try simp only [Act.put, List.setIfInBounds_toArray, List.set_cons_zero, List.set_cons_succ]
      refine take_at 9 (some 27) (.int .i64 k) rfl rfl (by kernel_rfl) (by kernel_rfl) (by kernel_rfl) (fun _ _ _ h => h) (Or.inl ⟨by rfl, ?_⟩) SX ?_
      · intro w hSw
        obtain ⟨f0, f4⟩ := HF.out w hSw
        clear hSw
        go_simp
      try simp only [Act.put, List.setIfInBounds_toArray, List.set_cons_zero, List.set_cons_succ]
      refine wpAnyH_ready (rs := [10]) (by kernel_rfl) (by simp) ?_
      refine AllReadyH.cons (i := 10) rfl (fun K hK => ?_) AllReadyH.nil
      go_simp
      refine (new44 l k _).mono ?_
      rintro e w4 ⟨rfl, o4, rfl⟩
      have S4 : (wr.drew.alloc o4).heap[x]? = wr.heap[x]? := Below.heap_alloc wr.drew o4 x (lt_row HR1.out)
      refine hK.out _ _ S4 (fun _ => ?_)
      clear hK K
      try simp only [Act.put, List.setIfInBounds_toArray, List.set_cons_zero, List.set_cons_succ]
      obtain ⟨nt, hnt⟩ : ∃ nt, nt = wr.drew.heap.size := ⟨_, rfl⟩
      obtain ⟨Wd, hWd⟩ : ∃ Wd, Wd = wr.drew.alloc o4 := ⟨_, rfl⟩
      have HOd : Hid (Wd.ownsRow w.heap.size 59 1 (.slice g4 k c4) k xs) := Lib.hid (by rw [hWd]; exact (HO4.out.drew).alloc _)
      have HO6d : Hid (Wd.ownsRow w.heap.size 3 1 (.slice g6 k c6) k ys) := Lib.hid (by rw [hWd]; exact (HO6.out.drew).alloc _)
      have HBd : Hid (But x w Wd) := Lib.hid (by rw [hWd]; exact (HB.out.trans (show But x wr wr.drew from ⟨rfl, rfl, rfl, Nat.le_refl _, fun _ _ _ => rfl⟩)).alloc _)
      rw [← hWd] at S4 ⊢
      rw [← hnt]
      clear hWd hnt HO4 HO6 HB SX
      have kS : ∀ o, (Wd.alloc o).heap[x]? = wr.heap[x]? := fun o => (Below.heap_alloc Wd o x (by have := HBd.out.size; have := lt_row HR.out; omega)).trans S4
      refine wpAnyH_ready (rs := [11]) (by kernel_rfl) (by simp) ?_
      refine AllReadyH.cons (i := 11) rfl (fun K hK => ?_) AllReadyH.nil
      go_simp
      refine hK.out _ _ (kS _) (fun _ => ?_)
      clear hK K
      try simp only [Act.put, List.setIfInBounds_toArray, List.set_cons_zero, List.set_cons_succ]
      refine wpAnyH_ready (rs := [12]) (by kernel_rfl) (by simp) ?_
      refine AllReadyH.cons (i := 12) rfl (fun K hK => ?_) AllReadyH.nil
      refine step_append_at rfl (.tmp 22) (.tmp 29) 134 rfl w.heap.size 59 i59 _ 1 8 Tryz.underlying134 hi hz0 hz1 hz2 rfl (by decide) (.slice g4 k c4) k xs rfl (HOd.out.alloc _) ⟨Wd.heap.size, 0, none⟩ 1 1 [.pointer (some ⟨nt, 0, none⟩)] rfl rfl (fun j u hj => cell_alloc Wd _ 59 j u hj) (by simp [Value.oneCell']) (by have := HTH.out; unfold maxLen; omega) (by have := HTH.out; omega) (by have := HBd.out.size; simp; omega) ?_
      intro v' w2 ho hg hbl
      obtain ⟨ua, um, uc, rfl⟩ := own_slice ho
      have hxb : ∀ q, (Value.slice g4 k c4).ownBlock = some q → w.heap.size ≤ q ∧ ∃ c, Wd.heap[q]? = some (.cells c 59 (0, 0)) := own_at_block HOd.out
      have hk6 : ∀ q, (Value.slice g6 k c6).ownBlock = some q → w2.heap[q]? = (Wd.alloc (.cells #[.pointer (some ⟨nt, 0, none⟩)] 59)).heap[q]? := fun q hq => by
        obtain ⟨h1, c, h2⟩ := own_at_block HO6d.out q hq
        refine hg.block q (Nat.lt_of_lt_of_le (lt_row h2) (by simp)) (fun e => ?_)
        obtain ⟨-, c', h3⟩ := hxb q e.symm
        rw [h2] at h3
        cases h3
      have HO62 : Hid (w2.ownsRow w.heap.size 3 1 (.slice g6 k c6) k ys) := Lib.hid (own_same (HO6d.out.alloc _) hk6)
      have SX2 : w2.heap[x]? = wr.heap[x]? := (hg.block x (by have := HBd.out.size; have := lt_row HR.out; simp; omega) (fun e => by have := (hxb x e.symm).1; have := lt_row HR.out; omega)).trans (kS _)
      have HB2 : Hid (But x w w2) := Lib.hid ⟨hg.os.trans HBd.out.os, hg.tape.trans HBd.out.tape, hg.output.trans HBd.out.output, by have h1 := hg.size; rw [World.size_alloc] at h1; have := HBd.out.size; omega, fun j hj hjx => by
        refine (hg.block j (by have := HBd.out.size; simp; omega) (fun e => by have := (hxb j e.symm).1; omega)).trans ?_
        exact (Below.heap_alloc _ _ _ (by have := HBd.out.size; omega)).trans (HBd.out.block j hj hjx)⟩
      refine hK.out _ _ SX2 (fun _ => ?_)
      clear hK K kS hxb hk6
      have HO42 := Lib.hid ho
      have SX := SX2
      clear ho hg hbl S4 HOd HO6d HBd SX2
      try simp only [Act.put, List.setIfInBounds_toArray, List.set_cons_zero, List.set_cons_succ]
      refine take_at 13 (some 31) (.pointer (some ⟨x, 0, none⟩)) rfl rfl (by kernel_rfl) (by kernel_rfl) (by kernel_rfl) (fun _ _ _ h => h) (Or.inl ⟨by rfl, ?_⟩) SX ?_
      · intro w hSw
        obtain ⟨f0, f4⟩ := HF.out w hSw
        clear hSw
        go_simp
      try simp only [Act.put, List.setIfInBounds_toArray, List.set_cons_zero, List.set_cons_succ]
      refine take_at 14 (some 32) (.pointer (some ⟨x, 4, none⟩)) rfl rfl (by kernel_rfl) (by kernel_rfl) (by kernel_rfl) (fun _ _ _ h => h) (Or.inl ⟨by rfl, ?_⟩) SX ?_
      · intro w hSw
        obtain ⟨f0, f4⟩ := HF.out w hSw
        clear hSw
        go_simp
      try simp only [Act.put, List.setIfInBounds_toArray, List.set_cons_zero, List.set_cons_succ]
      refine wpAnyH_done (by kernel_rfl) ?_ _
      unfold ThenOp
      have R2 : Hid (w2.heap[x]? = some (.cells #[.pointer (some ⟨l, 0, none⟩), m, st, rv, .slice g4 k c4, cl, .slice g6 k c6] 137 (0, 0))) := Lib.hid (SX.trans HR1.out)
      have c4' := cell_row R2.out 4 _ rfl
      have f4' := free_row R2.out
      clear SX HF HR1
      dsimp only
      go_simp
      have R3 : Hid ((w2.setCell ⟨x, 4, none⟩ (.slice ua um uc)).heap[x]? = some (.cells #[.pointer (some ⟨l, 0, none⟩), m, st, rv, .slice ua um uc, cl, .slice g6 k c6] 137 (0, 0))) := Lib.hid (heap_set _ R2.out)
      have O43 : Hid ((w2.setCell ⟨x, 4, none⟩ (.slice ua um uc)).ownsRow w.heap.size 59 1 (.slice ua um uc) (k + 1) (xs ++ [.pointer (some ⟨nt, 0, none⟩)])) := Lib.hid (ownsRow_setCell_below HO42.out (by show x < w.heap.size; exact lt_row HR.out) _)
      have O63 : Hid ((w2.setCell ⟨x, 4, none⟩ (.slice ua um uc)).ownsRow w.heap.size 3 1 (.slice g6 k c6) k ys) := Lib.hid (ownsRow_setCell_below HO62.out (by show x < w.heap.size; exact lt_row HR.out) _)
      have HB3 : Hid (But x w (w2.setCell ⟨x, 4, none⟩ (.slice ua um uc))) := Lib.hid (HB2.out.set 4 _)
      generalize w2.setCell ⟨x, 4, none⟩ (.slice ua um uc) = w3 at *
      clear R2 c4' f4' HO42 HO62 HB2
      have p6 := cell_row R3.out 6 _ rfl
      have pf := free_row R3.out
      have hBw : w.heap.size ≤ w3.heap.size := HB3.out.size
      go_wp2_with (at_builtin; refine wpList_push rfl (.tmp 37) (.tmp 38) 135 rfl w.heap.size 3 i3 (.int .i64 0) 1 8 Tryz.underlying135 hi3 hz30 hz31 hz32 rfl (by decide) w3 hBw (.slice g6 k c6) k _ rfl O63.out #[.int .i64 (-1)] 1 1 rfl rfl (by simp [Value.oneCell']) (by have := HTH.out; unfold maxLen; omega) (by have := HTH.out; omega) ?_; intro v6' w4 ho' hg' hb' hn'; obtain ⟨va, vm, vc, rfl⟩ := own_slice ho'; have R4 := (hg'.block x (lt_row R3.out) (fun e => by have := (own_at_block O63.out x e.symm).1; have := lt_row HR.out; omega)).trans R3.out; have p64 := cell_row R4 6 _ rfl; have pf4 := free_row R4; have HR4 := Lib.hid R4; have HO' := Lib.hid ho'; have HG' := Lib.hid hg'; clear ho' hg' hb' hn' R4)
      go_roundw
      case rel =>
        refine ⟨k + 1, by have := HLT.out; omega, by go_num, Lib.hid ⟨⟨_, _, xs ++ [.pointer (some ⟨nt, 0, none⟩)], _, heap_set _ HR4.out, ?_, ownsRow_setCell_below HO'.out (by show x < w.heap.size; exact lt_row HR.out) _⟩, ?_⟩⟩
        · refine ownsRow_setCell_below (own_same O43.out fun q hq => ?_) (by show x < w.heap.size; exact lt_row HR.out) _
          obtain ⟨h1, c, h2⟩ := own_at_block O43.out q hq
          refine HG'.out.block q (lt_row h2) (fun e => ?_)
          obtain ⟨-, c', h3⟩ := own_at_block O63.out q e.symm
          rw [h2] at h3
          cases h3
        · refine But.set ⟨HG'.out.os.trans HB3.out.os, HG'.out.tape.trans HB3.out.tape, HG'.out.output.trans HB3.out.output, Nat.le_trans HB3.out.size HG'.out.size, fun j hj hjx => ?_⟩ 6 _
          exact (HG'.out.block j (Nat.lt_of_lt_of_le hj HB3.out.size) (fun e => by have := (own_at_block O63.out j e.symm).1; omega)).trans (HB3.out.block j hj hjx)
      case measure => have := HLT.out; simp [intOf]; omega
    · obtain rfl : k = th := by omega
      have q := cell_row HR1.out 3 _ rfl
      have qf := free_row HR1.out
      go_wp2_with fail
      go_end0
      refine ⟨⟨_, rfl⟩, ⟨_, _, xs, ys, heap_set _ HR1.out, ?_, ?_⟩, HB.out.set 3 _⟩
      · exact ownsRow_setCell_below HO4.out (by show x < w.heap.size; exact lt_row HR.out) _
      · exact ownsRow_setCell_below HO6.out (by show x < w.heap.size; exact lt_row HR.out) _
end Go.Proofs.YtkdcfijebgeajaaGreat

namespace Go.Proofs.YtkdcfijebgeajaaGreat
open Go.RowKit Go.BigFrame
set_option linter.unusedVariables false
set_option linter.unusedSimpArgs false
def BothTo (g h : Nat → Nat) (w : World) (e : Ending) (w' : World) : Prop :=
  Below w.heap.size w w' ∧ ((pickP g h = none ∧ ∃ c0 c1 c2 c3 k : Int, e = .returned (.tuple #[.agg #[.int .i64 c0, .int .i64 c1, .int .i64 c2, .int .i64 c3], .int .i64 k, .int .i64 8])) ∨
    ∃ x k, pickP g h = some x ∧ e = .returned (.tuple #[cfgV (x 1) (x 2) (x 3) (x 4), .int .i64 k, .int .i64 0]))
theorem both78_any (g h : Nat → Nat) (w : World) : Calls Tryz.prog 78 #[lineG g, lineG h] w (BothTo g h w) := by
  have A := fun w => read148_any g w
  have B := fun w => read148_any h w
  unfold readV at A B
  by_cases hg : LineP g
  · by_cases hh : LineP h
    · simp only [if_pos hg] at A
      simp only [if_pos hh] at B
      by_cases hs : same4 g h
      · obtain ⟨s1, s2, s3, s4⟩ := id hs
        rw [← s1, ← s2, ← s3, ← s4] at B
        refine (both_aa _ _ _ _ _ _ _ _ _ _ _ _ _ _ _ _ _ _ _ _ 0 0 0 0 (Lib.hid A) (Lib.hid B) w).mono ?_
        rintro e w' ⟨rfl, hb⟩
        exact ⟨hb, .inr ⟨g, 0, by unfold pickP; rw [if_pos hg, if_pos hh, if_pos hs], rfl⟩⟩
      · refine (both_ne _ _ _ _ _ _ _ _ _ _ _ _ _ _ _ _ _ _ _ _ _ _ _ _ (Lib.hid ?_) (Lib.hid A) (Lib.hid B) w).mono ?_
        · rintro ⟨a, b, c, d⟩
          exact hs ⟨by omega, by omega, by omega, by omega⟩
        rintro e w' ⟨rfl, hb⟩
        exact ⟨hb, .inl ⟨by unfold pickP; rw [if_pos hg, if_pos hh, if_neg hs], _, _, _, _, _, rfl⟩⟩
    · simp only [if_pos hg] at A
      simp only [if_neg hh] at B
      refine (both_ab _ _ _ _ _ _ _ _ _ _ _ _ _ _ _ _ _ _ _ _ _ _ _ _ (Lib.hid A) (Lib.hid B) w).mono ?_
      rintro e w' ⟨rfl, hb⟩
      exact ⟨hb, .inr ⟨g, 0, by unfold pickP; rw [if_pos hg, if_neg hh], rfl⟩⟩
  · by_cases hh : LineP h
    · simp only [if_neg hg] at A
      simp only [if_pos hh] at B
      refine (both_ba _ _ _ _ _ _ _ _ _ _ _ _ _ _ _ _ _ _ _ _ _ _ _ _ (Lib.hid A) (Lib.hid B) w).mono ?_
      rintro e w' ⟨rfl, hb⟩
      exact ⟨hb, .inr ⟨h, 1, by unfold pickP; rw [if_neg hg, if_pos hh], rfl⟩⟩
    · simp only [if_neg hg] at A
      simp only [if_neg hh] at B
      refine (both_bb _ _ _ _ _ _ _ _ _ _ _ _ _ _ _ _ _ _ _ _ _ _ _ _ (Lib.hid A) (Lib.hid B) w).mono ?_
      rintro e w' ⟨rfl, hb⟩
      exact ⟨hb, .inl ⟨by unfold pickP; rw [if_neg hg, if_neg hh], _, _, _, _, _, rfl⟩⟩
end Go.Proofs.YtkdcfijebgeajaaGreat
