/- Layer 23, the document's: which words are opened: their first two lines. -/
import Derived.Test.YtkdcfijebgeajaaGreatJw11
namespace Go.Proofs.YtkdcfijebgeajaaGreat
open Go.RowKit Go.BigFrame
set_option linter.unusedVariables false
set_option linter.unusedSimpArgs false
theorem errP_some {f : Nat → Nat} {n : Nat} {x : Nat → Nat} (h8 : n % 8 = 0) (h16 : 16 ≤ n) (hn : n ≤ 300) (hp : pickP f (next8 f) = some x) : errP f n = if linesX x ≠ n / 8 then 3 else 0 := by
  have hw : wholeE n = 0 := by unfold wholeE; rw [if_neg (by omega), if_neg (by omega)]
  unfold errP
  rw [hw, if_neg (by decide), if_neg (by omega), hp]
theorem errP_none {f : Nat → Nat} {n : Nat} (h8 : n % 8 = 0) (h16 : 16 ≤ n) (hn : n ≤ 300) (hp : pickP f (next8 f) = none) : errP f n = 8 := by
  have hw : wholeE n = 0 := by unfold wholeE; rw [if_neg (by omega), if_neg (by omega)]
  unfold errP
  rw [hw, if_neg (by decide), if_neg (by omega), hp]
theorem may_yes (f : Nat → Nat) (n : Nat) (x : Nat → Nat) (hp : pickP f (next8 f) = some x) (he : errP f n = 0) (w w' : World) (hb : Below w.heap.size w w') : MayTo f n w (.returned (.tuple #[.agg #[.int .i64 (x 1 : Nat), .int .i64 (x 2 : Nat), .int .i64 (x 3 : Nat), .int .i64 (x 4 : Nat)], .int .i64 0])) w' :=
  ⟨_, _, _, _, by rw [he], hb, fun y _ hy => by rw [hp] at hy; cases hy; exact ⟨rfl, rfl, rfl, rfl⟩⟩
set_option maxRecDepth 100000 in
set_option maxHeartbeats 3000000 in
theorem may27_yes (f : Nat → Nat) (b off n cap : Nat) (hn : n ≤ 300) (h8 : n % 8 = 0) (h16 : 16 ≤ n) (hcap : n ≤ cap) (w : World) (hb : b < w.heap.size) (hf : ∀ j, j < n → w.cell? ⟨b, off + j, none⟩ = some (.int .u64 (f j : Nat))) : Calls Tryz.prog 27 #[.slice (some ⟨b, off, none⟩) n cap] w (MayTo f n w) := by
  have e2 : (n : Int).tmod 8 = (n : Int) % 8 := Int.tmod_eq_emod_of_nonneg (by omega)
  have e1 : (n : Int).tdiv 8 = (n : Int) / 8 := Int.tdiv_eq_ediv_of_nonneg (by omega)
  have d3 : ((n : Int) % 8 != 0) = false := by simp; omega
  have e3 : wrap64 ((n : Int) / 8) = (n : Int) / 8 := wrap_small _ (by omega) (by omega)
  have d4 : decide (262144 < (n : Int) / 8) = false := bool_no (by omega)
  have d5 : decide ((n : Int) < 16) = false := bool_no (by omega)
  obtain ⟨W1, hW1⟩ : ∃ W1, W1 = ((w.alloc (.cells #[.int .i64 0, .int .i64 0, .int .i64 0, .int .i64 0] 23)).alloc (.cells zero8 142)).alloc (.cells zero8 142) := ⟨_, rfl⟩
  have R0 : Hid (W1.heap[w.heap.size]? = some (.cells #[.int .i64 0, .int .i64 0, .int .i64 0, .int .i64 0] 23 (0, 0))) := Lib.hid (by rw [hW1]; exact (Below.heap_alloc _ _ _ (by simp; omega)).trans ((Below.heap_alloc _ _ _ (by simp)).trans (heap_alloc_new w _)))
  have R1 : Hid (W1.heap[w.heap.size + 1]? = some (.cells (gC (upTo8 f 0)) 142 (0, 0))) := Lib.hid (by rw [hW1]; exact (Below.heap_alloc _ _ _ (by simp)).trans (by have := heap_alloc_new (w.alloc (.cells #[.int .i64 0, .int .i64 0, .int .i64 0, .int .i64 0] 23)) (.cells zero8 142); rwa [World.size_alloc] at this))
  have R2 : Hid (W1.heap[w.heap.size + 1 + 1]? = some (.cells (gC (upTo8 (next8 f) 0)) 142 (0, 0))) := Lib.hid (by rw [hW1]; have := heap_alloc_new ((w.alloc (.cells #[.int .i64 0, .int .i64 0, .int .i64 0, .int .i64 0] 23)).alloc (.cells zero8 142)) (.cells zero8 142); rwa [World.size_alloc, World.size_alloc] at this)
  have HB1 : Hid (Below w.heap.size w W1) := Lib.hid (by rw [hW1]; exact (((Below.refl _ _).alloc (Nat.le_refl _) _).alloc (by simp) _).alloc (by simp; omega) _)
  have HZ1 : Hid (W1.heap.size = w.heap.size + 3) := Lib.hid (by rw [hW1]; simp)
  have HW : Hid ((((w.alloc (.cells #[.int .i64 0, .int .i64 0, .int .i64 0, .int .i64 0] 23)).alloc (.cells #[.int .u64 0, .int .u64 0, .int .u64 0, .int .u64 0, .int .u64 0, .int .u64 0, .int .u64 0, .int .u64 0] 142)).alloc (.cells #[.int .u64 0, .int .u64 0, .int .u64 0, .int .u64 0, .int .u64 0, .int .u64 0, .int .u64 0, .int .u64 0] 142)) = W1) := Lib.hid hW1.symm
  have HFC := Lib.hid hf
  have HBL := Lib.hid hb
  have HNN : Hid (16 ≤ n ∧ n ≤ cap ∧ n ≤ 300 ∧ n % 8 = 0) := Lib.hid ⟨h16, hcap, hn, h8⟩
  clear hW1 hf hb h8 h16 hn
  go_enter Tryz.func27, Tryz.ntmps27
  go_upto_region 9 with fail
  rw [HW.out]
  clear HW
  go_wp2_with fail
  go_loopw [6] (fun i wr => ∃ k : Nat, k ≤ 8 ∧ i = .int .i64 k ∧ Hid (wr.heap[w.heap.size + 1]? = some (.cells (gC (upTo8 f k)) 142 (0, 0))) ∧ Hid (wr.heap[w.heap.size + 1 + 1]? = some (.cells (gC (upTo8 (next8 f) k)) 142 (0, 0))) ∧ Hid (wr.heap[w.heap.size]? = some (.cells #[.int .i64 0, .int .i64 0, .int .i64 0, .int .i64 0] 23 (0, 0))) ∧ Hid (Below w.heap.size w wr)) (fun i _ => 8 - (intOf i).toNat)
  case atStart => exact ⟨0, by omega, rfl, R1, R2, R0, HB1⟩
  case round =>
    obtain ⟨k, hk, rfl, Q1, Q2, Q0, HB⟩ := hrel
    by_cases hlt : k < 8
    · have dk : decide ((k : Int) < (8 : Int)) = true := bool_yes (by omega)
      have i0 : (0 : Int) ≤ (k : Int) := by omega
      have i1 : (k : Int) < (8 : Int) := by omega
      have i2 : (k : Int) < (n : Int) := by have := HNN.out; omega
      have i3 : (8 : Int) + (k : Int) < (n : Int) := by have := HNN.out; omega
      have wk : IntKind.i64.wrap (8 + (k : Int)) = 8 + (k : Int) := IntWalk.i64_in _ (by omega)
      have c1 : wr.cell? ⟨b, off + k, none⟩ = some (.int .u64 (f k : Nat)) := (cell_of_heap (HB.out.block b HBL.out) _).trans (HFC.out k (by have := HNN.out; omega))
      have c2 : wr.cell? ⟨b, off + (8 + k), none⟩ = some (.int .u64 (next8 f k : Nat)) := (cell_of_heap (HB.out.block b HBL.out) _).trans (HFC.out (8 + k) (by have := HNN.out; omega))
      have t1 := cell_row Q1.out k _ (gC_get _ k hlt)
      have t2 := cell_row Q2.out k _ (gC_get _ k hlt)
      have f1 := free_row Q1.out
      have f2 := free_row Q2.out
      have nb1 : w.heap.size + 1 ≠ b := by have := HBL.out; omega
      have nb2 : b ≠ w.heap.size + 1 := by have := HBL.out; omega
      go_wp2_with fail
      go_roundw
      case rel =>
        have nn : w.heap.size + 1 ≠ w.heap.size + 1 + 1 := by omega
        have n0 : w.heap.size ≠ w.heap.size + 1 := by omega
        have n3 : w.heap.size ≠ w.heap.size + 1 + 1 := by omega
        refine ⟨k + 1, by omega, by go_num, Lib.hid ?_, Lib.hid ?_, Lib.hid ?_, Lib.hid ?_⟩
        · rw [← upTo8_next, ← gC_set _ k hlt]
          exact (heap_set_other nn).trans (heap_set _ Q1.out)
        · rw [← upTo8_next, ← gC_set _ k hlt]
          exact heap_set _ ((heap_set_other (Ne.symm nn)).trans Q2.out)
        · exact (heap_set_other n3).trans ((heap_set_other n0).trans Q0.out)
        · exact (HB.out.setCell (p := ⟨w.heap.size + 1, k, none⟩) (Nat.le_succ _) _).setCell (p := ⟨w.heap.size + 1 + 1, k, none⟩) (by show w.heap.size ≤ w.heap.size + 1 + 1; omega) _
      case measure => simp [intOf]; omega
    · obtain rfl : k = 8 := by omega
      have S1 : Hid (wr.heap[w.heap.size + 1]? = some (.cells (gC f) 142 (0, 0))) := Lib.hid Q1.out
      have S2 : Hid (wr.heap[w.heap.size + 1 + 1]? = some (.cells (gC (next8 f)) 142 (0, 0))) := Lib.hid Q2.out
      have x0 := cell_row S1.out 0 _ (gC_get f 0 (by omega))
      have x1 := cell_row S1.out 1 _ (gC_get f 1 (by omega))
      have x2 := cell_row S1.out 2 _ (gC_get f 2 (by omega))
      have x3 := cell_row S1.out 3 _ (gC_get f 3 (by omega))
      have x4 := cell_row S1.out 4 _ (gC_get f 4 (by omega))
      have x5 := cell_row S1.out 5 _ (gC_get f 5 (by omega))
      have x6 := cell_row S1.out 6 _ (gC_get f 6 (by omega))
      have x7 := cell_row S1.out 7 _ (gC_get f 7 (by omega))
      have HRF := Lib.hid fun w => refRead81 f w
      have HRN := Lib.hid fun w => refRead81 (next8 f) w
      unfold gC at HRF HRN
      clear R0 R1 R2 HB1 Q1 Q2
      go_wp2_with fail
      refine (HRF.out _).mono ?_
      rintro e w3 ⟨hc, hb⟩
      have P0 : Hid (w3.heap[w.heap.size]? = some (.cells #[.int .i64 0, .int .i64 0, .int .i64 0, .int .i64 0] 23 (0, 0))) := Lib.hid ((hb.block _ (lt_row Q0.out)).trans Q0.out)
      have P2 : Hid (w3.heap[w.heap.size + 1 + 1]? = some (.cells (gC (next8 f)) 142 (0, 0))) := Lib.hid ((hb.block _ (lt_row S2.out)).trans S2.out)
      have HB3 : Hid (Below w.heap.size w w3) := Lib.hid (HB.out.trans (hb.mono HB.out.size))
      have HC := Lib.hid hc
      clear hb hc S1 S2 Q0 HB x0 x1 x2 x3 x4 x5 x6 x7
      rcases HC.out with ⟨hp1, rfl⟩ | ⟨hp1, rfl⟩
      · have HP1 := Lib.hid hp1
        clear hp1 HC
        unfold cfgV
        have x0 := cell_row P2.out 0 _ (gC_get (next8 f) 0 (by omega))
        have x1 := cell_row P2.out 1 _ (gC_get (next8 f) 1 (by omega))
        have x2 := cell_row P2.out 2 _ (gC_get (next8 f) 2 (by omega))
        have x3 := cell_row P2.out 3 _ (gC_get (next8 f) 3 (by omega))
        have x4 := cell_row P2.out 4 _ (gC_get (next8 f) 4 (by omega))
        have x5 := cell_row P2.out 5 _ (gC_get (next8 f) 5 (by omega))
        have x6 := cell_row P2.out 6 _ (gC_get (next8 f) 6 (by omega))
        have x7 := cell_row P2.out 7 _ (gC_get (next8 f) 7 (by omega))
        have m2 : w.heap.size + 1 + 1 ≠ w3.heap.size := by have := lt_row P2.out; omega
        have l2 : w.heap.size + 1 + 1 < w3.heap.size := lt_row P2.out
        go_wp2_with fail
        clear m2 l2
        obtain ⟨cb, hcb⟩ : ∃ cb, cb = w3.heap.size := ⟨_, rfl⟩
        obtain ⟨W4, hW4⟩ : ∃ W4, W4 = w3.alloc (.cells #[.int .i64 (f 1 : Nat), .int .i64 (f 2 : Nat), .int .i64 (f 3 : Nat), .int .i64 (f 4 : Nat)] 23) := ⟨_, rfl⟩
        have PC : Hid (W4.heap[cb]? = some (.cells #[.int .i64 (f 1 : Nat), .int .i64 (f 2 : Nat), .int .i64 (f 3 : Nat), .int .i64 (f 4 : Nat)] 23 (0, 0))) := Lib.hid (by rw [hW4, hcb]; exact heap_alloc_new w3 _)
        have P04 : Hid (W4.heap[w.heap.size]? = some (.cells #[.int .i64 0, .int .i64 0, .int .i64 0, .int .i64 0] 23 (0, 0))) := Lib.hid (by rw [hW4, Below.heap_alloc _ _ _ (lt_row P0.out)]; exact P0.out)
        have HB4 : Hid (Below w.heap.size w W4) := Lib.hid (by rw [hW4]; exact HB3.out.alloc HB3.out.size _)
        have HCB : Hid (w.heap.size + 1 < cb) := Lib.hid (by have := lt_row P2.out; omega)
        have HS4 : Hid (cb < W4.heap.size) := Lib.hid (lt_row PC.out)
        rw [← hW4, ← hcb]
        clear hW4 hcb P0 P2 HB3 x0 x1 x2 x3 x4 x5 x6 x7
        refine (HRN.out _).mono ?_
        rintro e w5 ⟨hc2, hb⟩
        have PC5 := Lib.hid ((hb.block _ (lt_row PC.out)).trans PC.out)
        have P05 := Lib.hid ((hb.block _ (lt_row P04.out)).trans P04.out)
        have HB5 : Hid (Below w.heap.size w w5) := Lib.hid (HB4.out.trans (hb.mono HB4.out.size))
        have HS5 : Hid (cb < w5.heap.size) := Lib.hid (Nat.lt_of_lt_of_le HS4.out hb.size)
        clear hb PC P04 HB4 HS4
        have n5 : cb ≠ w5.heap.size := by have := HS5.out; omega
        have l5 : cb < w5.heap.size := HS5.out
        have n0 : w.heap.size ≠ w5.heap.size := by have := HS5.out; have := HCB.out; omega
        have l0 : w.heap.size < w5.heap.size := by have := HS5.out; have := HCB.out; omega
        have q0 := cell_row PC5.out 0 _ rfl
        have q1 := cell_row PC5.out 1 _ rfl
        have q2 := cell_row PC5.out 2 _ rfl
        have q3 := cell_row PC5.out 3 _ rfl
        have r0 := cell_row P05.out 0 _ rfl
        have r1 := cell_row P05.out 1 _ rfl
        have r2 := cell_row P05.out 2 _ rfl
        have r3 := cell_row P05.out 3 _ rfl
        have rf := free_row P05.out
        have cf := free_row PC5.out
        rcases hc2 with ⟨hp2, rfl⟩ | ⟨hp2, rfl⟩
        · have HP2 := Lib.hid hp2
          clear hp2
          simp only [cfgV]
          by_cases hs : same4 f (next8 f)
          · obtain ⟨s1, s2, s3, s4⟩ := id hs
            have HPK : Hid (pickP f (next8 f) = some f) := Lib.hid (by unfold pickP; rw [if_pos HP1.out, if_pos HP2.out, if_pos hs])
            have HL : Hid (∀ w, Calls Tryz.prog 82 #[.agg #[.int .i64 (f 1 : Nat), .int .i64 (f 2 : Nat), .int .i64 (f 3 : Nat), .int .i64 (f 4 : Nat)]] w (IntOn (linesN (f 1) (f 2) (f 3) (f 4) : Nat) w)) := Lib.hid fun w => lines82 _ _ _ _ (pickP_line HPK.out).1 w
            have HE : Hid ((¬ linesN (f 1) (f 2) (f 3) (f 4) = n / 8 → ∀ w' (c0 c1 c2 c3 : Int), Below w.heap.size w w' → MayTo f n w (.returned (.tuple #[.agg #[.int .i64 c0, .int .i64 c1, .int .i64 c2, .int .i64 c3], .int .i64 3])) w') ∧ (linesN (f 1) (f 2) (f 3) (f 4) = n / 8 → ∀ w', Below w.heap.size w w' → MayTo f n w (.returned (.tuple #[.agg #[.int .i64 (f 1 : Nat), .int .i64 (f 2 : Nat), .int .i64 (f 3 : Nat), .int .i64 (f 4 : Nat)], .int .i64 0])) w')) := Lib.hid (by
              have he := errP_some HNN.out.2.2.2 HNN.out.1 HNN.out.2.2.1 HPK.out
              refine ⟨fun hl w' c0 c1 c2 c3 hb => may_err f n 3 (by rw [he]; exact if_pos hl) (by decide) w w' c0 c1 c2 c3 hb, fun hl w' hb => may_yes f n _ HPK.out (by rw [he]; exact if_neg (fun k => k hl)) w w' hb⟩)
            rw [← s1, ← s2, ← s3, ← s4]
            clear s1 s2 s3 s4 hs
            have PC6 : Hid ((w5.alloc (.cells #[.int .i64 (f 1 : Nat), .int .i64 (f 2 : Nat), .int .i64 (f 3 : Nat), .int .i64 (f 4 : Nat)] 23)).heap[cb]? = some _) := Lib.hid ((Below.heap_alloc _ _ _ (lt_row PC5.out)).trans PC5.out)
            have P06 : Hid ((w5.alloc (.cells #[.int .i64 (f 1 : Nat), .int .i64 (f 2 : Nat), .int .i64 (f 3 : Nat), .int .i64 (f 4 : Nat)] 23)).heap[w.heap.size]? = some _) := Lib.hid ((Below.heap_alloc _ _ _ (lt_row P05.out)).trans P05.out)
            have HB6 : Hid (Below w.heap.size w (w5.alloc (.cells #[.int .i64 (f 1 : Nat), .int .i64 (f 2 : Nat), .int .i64 (f 3 : Nat), .int .i64 (f 4 : Nat)] 23))) := Lib.hid (HB5.out.alloc HB5.out.size _)
            go_wp2_with fail
            refine (HL.out _).mono ?_
            rintro e w8 ⟨rfl, hb⟩
            have T0 := Lib.hid ((hb.block _ (lt_row P06.out)).trans P06.out)
            have TC := Lib.hid ((hb.block _ (lt_row PC6.out)).trans PC6.out)
            have HB8 : Hid (Below w.heap.size w w8) := Lib.hid (HB6.out.trans (hb.mono HB6.out.size))
            clear hb
            have r0 := cell_row T0.out 0 _ rfl
            have r1 := cell_row T0.out 1 _ rfl
            have r2 := cell_row T0.out 2 _ rfl
            have r3 := cell_row T0.out 3 _ rfl
            have q0 := cell_row TC.out 0 _ rfl
            have q1 := cell_row TC.out 1 _ rfl
            have q2 := cell_row TC.out 2 _ rfl
            have q3 := cell_row TC.out 3 _ rfl
            have rf := free_row T0.out
            have nb : w.heap.size ≠ cb := by have := HCB.out; omega
            by_cases hl : linesN (f 1) (f 2) (f 3) (f 4) = n / 8
            · have g1 : ((linesN (f 1) (f 2) (f 3) (f 4) : Nat) : Int) = (n : Int) / 8 := by omega
              have HEz := Lib.hid (HE.out.2 hl)
              generalize linesN (f 1) (f 2) (f 3) (f 4) = ln at g1
              clear hl
              go_wp2_with fail
              refine bodyPost_ret (v := .tuple #[.agg #[.int .i64 (f 1), .int .i64 (f 2), .int .i64 (f 3), .int .i64 (f 4)], .int .i64 0]) ?_ rfl (HEz.out _ ?_)
              · simp [results, Tryz.results27, go_sem, r0, r1, r2, r3]
              · exact (((((HB8.out).setCell (p := ⟨w.heap.size, 0, none⟩) (Nat.le_refl _) (.int .i64 (f 1))).setCell (p := ⟨w.heap.size, 1, none⟩) (Nat.le_refl _) (.int .i64 (f 2))).setCell (p := ⟨w.heap.size, 2, none⟩) (Nat.le_refl _) (.int .i64 (f 3))).setCell (p := ⟨w.heap.size, 3, none⟩) (Nat.le_refl _) (.int .i64 (f 4)))
            · have g1 : ¬ ((linesN (f 1) (f 2) (f 3) (f 4) : Nat) : Int) = (n : Int) / 8 := by omega
              have HEz := Lib.hid (HE.out.1 hl)
              generalize linesN (f 1) (f 2) (f 3) (f 4) = ln at g1
              clear hl
              go_wp2_with fail
              refine bodyPost_ret (v := .tuple #[.agg #[.int .i64 (f 1), .int .i64 (f 2), .int .i64 (f 3), .int .i64 (f 4)], .int .i64 3]) ?_ rfl (HEz.out _ _ _ _ _ ?_)
              · simp [results, Tryz.results27, go_sem, r0, r1, r2, r3]
              · exact (((((HB8.out).setCell (p := ⟨w.heap.size, 0, none⟩) (Nat.le_refl _) (.int .i64 (f 1))).setCell (p := ⟨w.heap.size, 1, none⟩) (Nat.le_refl _) (.int .i64 (f 2))).setCell (p := ⟨w.heap.size, 2, none⟩) (Nat.le_refl _) (.int .i64 (f 3))).setCell (p := ⟨w.heap.size, 3, none⟩) (Nat.le_refl _) (.int .i64 (f 4)))
          · have HNS : Hid (¬ (f 1 = next8 f 1 ∧ f 2 = next8 f 2 ∧ f 3 = next8 f 3 ∧ f 4 = next8 f 4)) := Lib.hid hs
            have HPK : Hid (pickP f (next8 f) = none) := Lib.hid (by unfold pickP; rw [if_pos HP1.out, if_pos HP2.out, if_neg hs])
            clear hs
            have HE8 := Lib.hid fun w' c0 c1 c2 c3 hb => may_err f n 8 (errP_none HNN.out.2.2.2 HNN.out.1 HNN.out.2.2.1 HPK.out) (by decide) w w' c0 c1 c2 c3 hb
            have HB6 : Hid (Below w.heap.size w w5) := HB5
            go_wp2_with fail
            all_goals first
              | (exact absurd ⟨by omega, by omega, by omega, by omega⟩ HNS.out)
              | skip
            all_goals
              refine bodyPost_ret (v := .tuple #[.agg #[.int .i64 0, .int .i64 0, .int .i64 0, .int .i64 0], .int .i64 8]) ?_ rfl (HE8.out _ _ _ _ _ ?_)
              · simp [results, Tryz.results27, go_sem, r0, r1, r2, r3, n0, l0]
              · have X := (((((HB6.out).setCell (p := ⟨w.heap.size, 0, none⟩) (Nat.le_refl _) (.int .i64 0)).setCell (p := ⟨w.heap.size, 1, none⟩) (Nat.le_refl _) (.int .i64 0)).setCell (p := ⟨w.heap.size, 2, none⟩) (Nat.le_refl _) (.int .i64 0)).setCell (p := ⟨w.heap.size, 3, none⟩) (Nat.le_refl _) (.int .i64 0))
                exact X.alloc X.size _
        · have HP2 := Lib.hid hp2
          clear hp2
          have HPK : Hid (pickP f (next8 f) = some f) := Lib.hid (by unfold pickP; rw [if_pos HP1.out, if_neg HP2.out])
          have HL : Hid (∀ w, Calls Tryz.prog 82 #[.agg #[.int .i64 (f 1 : Nat), .int .i64 (f 2 : Nat), .int .i64 (f 3 : Nat), .int .i64 (f 4 : Nat)]] w (IntOn (linesN (f 1) (f 2) (f 3) (f 4) : Nat) w)) := Lib.hid fun w => lines82 _ _ _ _ (pickP_line HPK.out).1 w
          have HE : Hid ((¬ linesN (f 1) (f 2) (f 3) (f 4) = n / 8 → ∀ w' (c0 c1 c2 c3 : Int), Below w.heap.size w w' → MayTo f n w (.returned (.tuple #[.agg #[.int .i64 c0, .int .i64 c1, .int .i64 c2, .int .i64 c3], .int .i64 3])) w') ∧ (linesN (f 1) (f 2) (f 3) (f 4) = n / 8 → ∀ w', Below w.heap.size w w' → MayTo f n w (.returned (.tuple #[.agg #[.int .i64 (f 1 : Nat), .int .i64 (f 2 : Nat), .int .i64 (f 3 : Nat), .int .i64 (f 4 : Nat)], .int .i64 0])) w')) := Lib.hid (by
            have he := errP_some HNN.out.2.2.2 HNN.out.1 HNN.out.2.2.1 HPK.out
            refine ⟨fun hl w' c0 c1 c2 c3 hb => may_err f n 3 (by rw [he]; exact if_pos hl) (by decide) w w' c0 c1 c2 c3 hb, fun hl w' hb => may_yes f n _ HPK.out (by rw [he]; exact if_neg (fun k => k hl)) w w' hb⟩)
          have PC6 : Hid ((w5.alloc (.cells #[.int .i64 0, .int .i64 0, .int .i64 0, .int .i64 0] 23)).heap[cb]? = some _) := Lib.hid ((Below.heap_alloc _ _ _ (lt_row PC5.out)).trans PC5.out)
          have P06 : Hid ((w5.alloc (.cells #[.int .i64 0, .int .i64 0, .int .i64 0, .int .i64 0] 23)).heap[w.heap.size]? = some _) := Lib.hid ((Below.heap_alloc _ _ _ (lt_row P05.out)).trans P05.out)
          have HB6 : Hid (Below w.heap.size w (w5.alloc (.cells #[.int .i64 0, .int .i64 0, .int .i64 0, .int .i64 0] 23))) := Lib.hid (HB5.out.alloc HB5.out.size _)
          go_wp2_with fail
          refine (HL.out _).mono ?_
          rintro e w8 ⟨rfl, hb⟩
          have T0 := Lib.hid ((hb.block _ (lt_row P06.out)).trans P06.out)
          have TC := Lib.hid ((hb.block _ (lt_row PC6.out)).trans PC6.out)
          have HB8 : Hid (Below w.heap.size w w8) := Lib.hid (HB6.out.trans (hb.mono HB6.out.size))
          clear hb
          have r0 := cell_row T0.out 0 _ rfl
          have r1 := cell_row T0.out 1 _ rfl
          have r2 := cell_row T0.out 2 _ rfl
          have r3 := cell_row T0.out 3 _ rfl
          have q0 := cell_row TC.out 0 _ rfl
          have q1 := cell_row TC.out 1 _ rfl
          have q2 := cell_row TC.out 2 _ rfl
          have q3 := cell_row TC.out 3 _ rfl
          have rf := free_row T0.out
          have nb : w.heap.size ≠ cb := by have := HCB.out; omega
          by_cases hl : linesN (f 1) (f 2) (f 3) (f 4) = n / 8
          · have g1 : ((linesN (f 1) (f 2) (f 3) (f 4) : Nat) : Int) = (n : Int) / 8 := by omega
            have HEz := Lib.hid (HE.out.2 hl)
            generalize linesN (f 1) (f 2) (f 3) (f 4) = ln at g1
            clear hl
            go_wp2_with fail
            refine bodyPost_ret (v := .tuple #[.agg #[.int .i64 (f 1), .int .i64 (f 2), .int .i64 (f 3), .int .i64 (f 4)], .int .i64 0]) ?_ rfl (HEz.out _ ?_)
            · simp [results, Tryz.results27, go_sem, r0, r1, r2, r3]
            · exact (((((HB8.out).setCell (p := ⟨w.heap.size, 0, none⟩) (Nat.le_refl _) (.int .i64 (f 1))).setCell (p := ⟨w.heap.size, 1, none⟩) (Nat.le_refl _) (.int .i64 (f 2))).setCell (p := ⟨w.heap.size, 2, none⟩) (Nat.le_refl _) (.int .i64 (f 3))).setCell (p := ⟨w.heap.size, 3, none⟩) (Nat.le_refl _) (.int .i64 (f 4)))
          · have g1 : ¬ ((linesN (f 1) (f 2) (f 3) (f 4) : Nat) : Int) = (n : Int) / 8 := by omega
            have HEz := Lib.hid (HE.out.1 hl)
            generalize linesN (f 1) (f 2) (f 3) (f 4) = ln at g1
            clear hl
            go_wp2_with fail
            refine bodyPost_ret (v := .tuple #[.agg #[.int .i64 (f 1), .int .i64 (f 2), .int .i64 (f 3), .int .i64 (f 4)], .int .i64 3]) ?_ rfl (HEz.out _ _ _ _ _ ?_)
            · simp [results, Tryz.results27, go_sem, r0, r1, r2, r3]
            · exact (((((HB8.out).setCell (p := ⟨w.heap.size, 0, none⟩) (Nat.le_refl _) (.int .i64 (f 1))).setCell (p := ⟨w.heap.size, 1, none⟩) (Nat.le_refl _) (.int .i64 (f 2))).setCell (p := ⟨w.heap.size, 2, none⟩) (Nat.le_refl _) (.int .i64 (f 3))).setCell (p := ⟨w.heap.size, 3, none⟩) (Nat.le_refl _) (.int .i64 (f 4)))
      · have HP1 := Lib.hid hp1
        clear hp1 HC
        have x0 := cell_row P2.out 0 _ (gC_get (next8 f) 0 (by omega))
        have x1 := cell_row P2.out 1 _ (gC_get (next8 f) 1 (by omega))
        have x2 := cell_row P2.out 2 _ (gC_get (next8 f) 2 (by omega))
        have x3 := cell_row P2.out 3 _ (gC_get (next8 f) 3 (by omega))
        have x4 := cell_row P2.out 4 _ (gC_get (next8 f) 4 (by omega))
        have x5 := cell_row P2.out 5 _ (gC_get (next8 f) 5 (by omega))
        have x6 := cell_row P2.out 6 _ (gC_get (next8 f) 6 (by omega))
        have x7 := cell_row P2.out 7 _ (gC_get (next8 f) 7 (by omega))
        have m2 : w.heap.size + 1 + 1 ≠ w3.heap.size := by have := lt_row P2.out; omega
        have l2 : w.heap.size + 1 + 1 < w3.heap.size := lt_row P2.out
        go_wp2_with fail
        clear m2 l2
        obtain ⟨cb, hcb⟩ : ∃ cb, cb = w3.heap.size := ⟨_, rfl⟩
        obtain ⟨W4, hW4⟩ : ∃ W4, W4 = w3.alloc (.cells #[.int .i64 0, .int .i64 0, .int .i64 0, .int .i64 0] 23) := ⟨_, rfl⟩
        have PC : Hid (W4.heap[cb]? = some (.cells #[.int .i64 0, .int .i64 0, .int .i64 0, .int .i64 0] 23 (0, 0))) := Lib.hid (by rw [hW4, hcb]; exact heap_alloc_new w3 _)
        have P04 : Hid (W4.heap[w.heap.size]? = some (.cells #[.int .i64 0, .int .i64 0, .int .i64 0, .int .i64 0] 23 (0, 0))) := Lib.hid (by rw [hW4, Below.heap_alloc _ _ _ (lt_row P0.out)]; exact P0.out)
        have HB4 : Hid (Below w.heap.size w W4) := Lib.hid (by rw [hW4]; exact HB3.out.alloc HB3.out.size _)
        have HCB : Hid (w.heap.size + 1 < cb) := Lib.hid (by have := lt_row P2.out; omega)
        have HS4 : Hid (cb < W4.heap.size) := Lib.hid (lt_row PC.out)
        rw [← hW4, ← hcb]
        clear hW4 hcb P0 P2 HB3 x0 x1 x2 x3 x4 x5 x6 x7
        refine (HRN.out _).mono ?_
        rintro e w5 ⟨hc2, hb⟩
        have PC5 := Lib.hid ((hb.block _ (lt_row PC.out)).trans PC.out)
        have P05 := Lib.hid ((hb.block _ (lt_row P04.out)).trans P04.out)
        have HB5 : Hid (Below w.heap.size w w5) := Lib.hid (HB4.out.trans (hb.mono HB4.out.size))
        have HS5 : Hid (cb < w5.heap.size) := Lib.hid (Nat.lt_of_lt_of_le HS4.out hb.size)
        clear hb PC P04 HB4 HS4
        have n5 : cb ≠ w5.heap.size := by have := HS5.out; omega
        have l5 : cb < w5.heap.size := HS5.out
        have n0 : w.heap.size ≠ w5.heap.size := by have := HS5.out; have := HCB.out; omega
        have l0 : w.heap.size < w5.heap.size := by have := HS5.out; have := HCB.out; omega
        have q0 := cell_row PC5.out 0 _ rfl
        have q1 := cell_row PC5.out 1 _ rfl
        have q2 := cell_row PC5.out 2 _ rfl
        have q3 := cell_row PC5.out 3 _ rfl
        have r0 := cell_row P05.out 0 _ rfl
        have r1 := cell_row P05.out 1 _ rfl
        have r2 := cell_row P05.out 2 _ rfl
        have r3 := cell_row P05.out 3 _ rfl
        have rf := free_row P05.out
        have cf := free_row PC5.out
        rcases hc2 with ⟨hp2, rfl⟩ | ⟨hp2, rfl⟩
        · have HP2 := Lib.hid hp2
          clear hp2
          simp only [cfgV]
          have HPK : Hid (pickP f (next8 f) = some (next8 f)) := Lib.hid (by unfold pickP; rw [if_neg HP1.out, if_pos HP2.out])
          have HL : Hid (∀ w, Calls Tryz.prog 82 #[.agg #[.int .i64 (next8 f 1 : Nat), .int .i64 (next8 f 2 : Nat), .int .i64 (next8 f 3 : Nat), .int .i64 (next8 f 4 : Nat)]] w (IntOn (linesN (next8 f 1) (next8 f 2) (next8 f 3) (next8 f 4) : Nat) w)) := Lib.hid fun w => lines82 _ _ _ _ (pickP_line HPK.out).1 w
          have HE : Hid ((¬ linesN (next8 f 1) (next8 f 2) (next8 f 3) (next8 f 4) = n / 8 → ∀ w' (c0 c1 c2 c3 : Int), Below w.heap.size w w' → MayTo f n w (.returned (.tuple #[.agg #[.int .i64 c0, .int .i64 c1, .int .i64 c2, .int .i64 c3], .int .i64 3])) w') ∧ (linesN (next8 f 1) (next8 f 2) (next8 f 3) (next8 f 4) = n / 8 → ∀ w', Below w.heap.size w w' → MayTo f n w (.returned (.tuple #[.agg #[.int .i64 (next8 f 1 : Nat), .int .i64 (next8 f 2 : Nat), .int .i64 (next8 f 3 : Nat), .int .i64 (next8 f 4 : Nat)], .int .i64 0])) w')) := Lib.hid (by
            have he := errP_some HNN.out.2.2.2 HNN.out.1 HNN.out.2.2.1 HPK.out
            refine ⟨fun hl w' c0 c1 c2 c3 hb => may_err f n 3 (by rw [he]; exact if_pos hl) (by decide) w w' c0 c1 c2 c3 hb, fun hl w' hb => may_yes f n _ HPK.out (by rw [he]; exact if_neg (fun k => k hl)) w w' hb⟩)
          have nz : w.heap.size ≠ cb := by have := HCB.out; omega
          have PS : Hid (((((w5.setCell ⟨cb, 0, none⟩ (.int .i64 (next8 f 1 : Nat))).setCell ⟨cb, 1, none⟩ (.int .i64 (next8 f 2 : Nat))).setCell ⟨cb, 2, none⟩ (.int .i64 (next8 f 3 : Nat))).setCell ⟨cb, 3, none⟩ (.int .i64 (next8 f 4 : Nat))).heap[cb]? = some (.cells #[.int .i64 (next8 f 1 : Nat), .int .i64 (next8 f 2 : Nat), .int .i64 (next8 f 3 : Nat), .int .i64 (next8 f 4 : Nat)] 23 (0, 0))) := Lib.hid (heap_set _ (heap_set _ (heap_set _ (heap_set _ PC5.out))))
          have PZ : Hid (((((w5.setCell ⟨cb, 0, none⟩ (.int .i64 (next8 f 1 : Nat))).setCell ⟨cb, 1, none⟩ (.int .i64 (next8 f 2 : Nat))).setCell ⟨cb, 2, none⟩ (.int .i64 (next8 f 3 : Nat))).setCell ⟨cb, 3, none⟩ (.int .i64 (next8 f 4 : Nat))).heap[w.heap.size]? = some (.cells #[.int .i64 0, .int .i64 0, .int .i64 0, .int .i64 0] 23 (0, 0))) := Lib.hid ((heap_set_other nz).trans ((heap_set_other nz).trans ((heap_set_other nz).trans ((heap_set_other nz).trans P05.out))))
          have HBS : Hid (Below w.heap.size w ((((w5.setCell ⟨cb, 0, none⟩ (.int .i64 (next8 f 1 : Nat))).setCell ⟨cb, 1, none⟩ (.int .i64 (next8 f 2 : Nat))).setCell ⟨cb, 2, none⟩ (.int .i64 (next8 f 3 : Nat))).setCell ⟨cb, 3, none⟩ (.int .i64 (next8 f 4 : Nat)))) := Lib.hid ((((HB5.out.setCell (p := ⟨cb, 0, none⟩) (by show _ ≤ cb; have := HCB.out; omega) _).setCell (p := ⟨cb, 1, none⟩) (by show _ ≤ cb; have := HCB.out; omega) _).setCell (p := ⟨cb, 2, none⟩) (by show _ ≤ cb; have := HCB.out; omega) _).setCell (p := ⟨cb, 3, none⟩) (by show _ ≤ cb; have := HCB.out; omega) _)
          have PC6 : Hid ((((((w5.setCell ⟨cb, 0, none⟩ (.int .i64 (next8 f 1 : Nat))).setCell ⟨cb, 1, none⟩ (.int .i64 (next8 f 2 : Nat))).setCell ⟨cb, 2, none⟩ (.int .i64 (next8 f 3 : Nat))).setCell ⟨cb, 3, none⟩ (.int .i64 (next8 f 4 : Nat))).alloc (.cells #[.int .i64 (next8 f 1 : Nat), .int .i64 (next8 f 2 : Nat), .int .i64 (next8 f 3 : Nat), .int .i64 (next8 f 4 : Nat)] 23)).heap[cb]? = some (.cells #[.int .i64 (next8 f 1 : Nat), .int .i64 (next8 f 2 : Nat), .int .i64 (next8 f 3 : Nat), .int .i64 (next8 f 4 : Nat)] 23 (0, 0))) := Lib.hid ((Below.heap_alloc _ _ _ (lt_row PS.out)).trans PS.out)
          have P06 : Hid ((((((w5.setCell ⟨cb, 0, none⟩ (.int .i64 (next8 f 1 : Nat))).setCell ⟨cb, 1, none⟩ (.int .i64 (next8 f 2 : Nat))).setCell ⟨cb, 2, none⟩ (.int .i64 (next8 f 3 : Nat))).setCell ⟨cb, 3, none⟩ (.int .i64 (next8 f 4 : Nat))).alloc (.cells #[.int .i64 (next8 f 1 : Nat), .int .i64 (next8 f 2 : Nat), .int .i64 (next8 f 3 : Nat), .int .i64 (next8 f 4 : Nat)] 23)).heap[w.heap.size]? = some (.cells #[.int .i64 0, .int .i64 0, .int .i64 0, .int .i64 0] 23 (0, 0))) := Lib.hid ((Below.heap_alloc _ _ _ (lt_row PZ.out)).trans PZ.out)
          have HB6 : Hid (Below w.heap.size w (((((w5.setCell ⟨cb, 0, none⟩ (.int .i64 (next8 f 1 : Nat))).setCell ⟨cb, 1, none⟩ (.int .i64 (next8 f 2 : Nat))).setCell ⟨cb, 2, none⟩ (.int .i64 (next8 f 3 : Nat))).setCell ⟨cb, 3, none⟩ (.int .i64 (next8 f 4 : Nat))).alloc (.cells #[.int .i64 (next8 f 1 : Nat), .int .i64 (next8 f 2 : Nat), .int .i64 (next8 f 3 : Nat), .int .i64 (next8 f 4 : Nat)] 23))) := Lib.hid (HBS.out.alloc HBS.out.size _)
          clear PS PZ HBS
          clear nz
          go_wp2_with fail
          refine (HL.out _).mono ?_
          rintro e w8 ⟨rfl, hb⟩
          have T0 := Lib.hid ((hb.block _ (lt_row P06.out)).trans P06.out)
          have TC := Lib.hid ((hb.block _ (lt_row PC6.out)).trans PC6.out)
          have HB8 : Hid (Below w.heap.size w w8) := Lib.hid (HB6.out.trans (hb.mono HB6.out.size))
          clear hb
          have r0 := cell_row T0.out 0 _ rfl
          have r1 := cell_row T0.out 1 _ rfl
          have r2 := cell_row T0.out 2 _ rfl
          have r3 := cell_row T0.out 3 _ rfl
          have q0 := cell_row TC.out 0 _ rfl
          have q1 := cell_row TC.out 1 _ rfl
          have q2 := cell_row TC.out 2 _ rfl
          have q3 := cell_row TC.out 3 _ rfl
          have rf := free_row T0.out
          have nb : w.heap.size ≠ cb := by have := HCB.out; omega
          by_cases hl : linesN (next8 f 1) (next8 f 2) (next8 f 3) (next8 f 4) = n / 8
          · have g1 : ((linesN (next8 f 1) (next8 f 2) (next8 f 3) (next8 f 4) : Nat) : Int) = (n : Int) / 8 := by omega
            have HEz := Lib.hid (HE.out.2 hl)
            generalize linesN (next8 f 1) (next8 f 2) (next8 f 3) (next8 f 4) = ln at g1
            clear hl
            go_wp2_with fail
            refine bodyPost_ret (v := .tuple #[.agg #[.int .i64 (next8 f 1), .int .i64 (next8 f 2), .int .i64 (next8 f 3), .int .i64 (next8 f 4)], .int .i64 0]) ?_ rfl (HEz.out _ ?_)
            · simp [results, Tryz.results27, go_sem, r0, r1, r2, r3]
            · exact (((((HB8.out).setCell (p := ⟨w.heap.size, 0, none⟩) (Nat.le_refl _) (.int .i64 (next8 f 1))).setCell (p := ⟨w.heap.size, 1, none⟩) (Nat.le_refl _) (.int .i64 (next8 f 2))).setCell (p := ⟨w.heap.size, 2, none⟩) (Nat.le_refl _) (.int .i64 (next8 f 3))).setCell (p := ⟨w.heap.size, 3, none⟩) (Nat.le_refl _) (.int .i64 (next8 f 4)))
          · have g1 : ¬ ((linesN (next8 f 1) (next8 f 2) (next8 f 3) (next8 f 4) : Nat) : Int) = (n : Int) / 8 := by omega
            have HEz := Lib.hid (HE.out.1 hl)
            generalize linesN (next8 f 1) (next8 f 2) (next8 f 3) (next8 f 4) = ln at g1
            clear hl
            go_wp2_with fail
            refine bodyPost_ret (v := .tuple #[.agg #[.int .i64 (next8 f 1), .int .i64 (next8 f 2), .int .i64 (next8 f 3), .int .i64 (next8 f 4)], .int .i64 3]) ?_ rfl (HEz.out _ _ _ _ _ ?_)
            · simp [results, Tryz.results27, go_sem, r0, r1, r2, r3]
            · exact (((((HB8.out).setCell (p := ⟨w.heap.size, 0, none⟩) (Nat.le_refl _) (.int .i64 (next8 f 1))).setCell (p := ⟨w.heap.size, 1, none⟩) (Nat.le_refl _) (.int .i64 (next8 f 2))).setCell (p := ⟨w.heap.size, 2, none⟩) (Nat.le_refl _) (.int .i64 (next8 f 3))).setCell (p := ⟨w.heap.size, 3, none⟩) (Nat.le_refl _) (.int .i64 (next8 f 4)))
        · have HP2 := Lib.hid hp2
          clear hp2
          have HPK : Hid (pickP f (next8 f) = none) := Lib.hid (by unfold pickP; rw [if_neg HP1.out, if_neg HP2.out])
          have HNS : Hid (¬ (f 1 = next8 f 1 ∧ f 2 = next8 f 2 ∧ f 3 = next8 f 3 ∧ f 4 = next8 f 4) ∨ True) := Lib.hid (.inr trivial)
          have HE8 := Lib.hid fun w' c0 c1 c2 c3 hb => may_err f n 8 (errP_none HNN.out.2.2.2 HNN.out.1 HNN.out.2.2.1 HPK.out) (by decide) w w' c0 c1 c2 c3 hb
          have HB6 : Hid (Below w.heap.size w w5) := HB5
          go_wp2_with fail
          all_goals
            refine bodyPost_ret (v := .tuple #[.agg #[.int .i64 0, .int .i64 0, .int .i64 0, .int .i64 0], .int .i64 8]) ?_ rfl (HE8.out _ _ _ _ _ ?_)
            · simp [results, Tryz.results27, go_sem, r0, r1, r2, r3, n0, l0]
            · have X := (((((HB6.out).setCell (p := ⟨w.heap.size, 0, none⟩) (Nat.le_refl _) (.int .i64 0)).setCell (p := ⟨w.heap.size, 1, none⟩) (Nat.le_refl _) (.int .i64 0)).setCell (p := ⟨w.heap.size, 2, none⟩) (Nat.le_refl _) (.int .i64 0)).setCell (p := ⟨w.heap.size, 3, none⟩) (Nat.le_refl _) (.int .i64 0))
              exact X.alloc X.size _
end Go.Proofs.YtkdcfijebgeajaaGreat
