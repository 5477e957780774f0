/- Walk of the reference's Script (layer 35). -/
import Derived.Test.YtoeeeapjfkjkbaaS5
namespace Go.Proofs.Ytoeeeapjfkjkbaa
open Go.RowKit Go.BigFrame
set_option linter.unusedVariables false
set_option linter.unusedSimpArgs false

def ScriptTo (L : List ActD) (w : World) (e : Ending) (w' : World) : Prop :=
  ∃ v, e = .returned v ∧ w'.ownsRow w.heap.size 38 6 v L.length (actCells L) ∧ Below w.heap.size w w'
theorem act_cells {W : World} {b : Nat} {k0 k1 k2 k3 k4 k5 : Value} {t : TypeId} (h : W.heap[b]? = some (.cells #[k0, k1, k2, k3, k4, k5] t (0, 0))) :
    W.cell? ⟨b, 0, none⟩ = some k0 ∧ W.cell? ⟨b, 1, none⟩ = some k1 ∧ W.cell? ⟨b, 2, none⟩ = some k2 ∧ W.cell? ⟨b, 3, none⟩ = some k3 ∧ W.cell? ⟨b, 4, none⟩ = some k4 ∧ W.cell? ⟨b, 5, none⟩ = some k5 ∧ ∀ j, W.frozen? ⟨b, j, none⟩ = false := by
  refine ⟨?_, ?_, ?_, ?_, ?_, ?_, fun j => ?_⟩
  all_goals first | (rw [cell_of_row _ _ _ _ _ _ h]; rfl) | (unfold World.frozen?; rw [h]; simp)

theorem lines_bd {c : Cfg} (h : c.few) : 1 ≤ c.lines ∧ c.lines ≤ 1000 := by
  obtain ⟨⟨t1, t2, u1, u2, o1, o2, q1, q2⟩, g1, g2, g3, g4⟩ := h
  obtain ⟨p1, p2⟩ := mul_bd t1 g1 (show 1 ≤ (c.lo + 7) / 8 by omega) (show (c.lo + 7) / 8 ≤ 1 by omega)
  unfold Cfg.lines; omega
set_option maxRecDepth 100000 in
set_option maxHeartbeats 4000000 in
theorem refScript8 (c : Cfg) (hf : c.few) (seed : Int) (s0 : 0 ≤ seed) (s1 : seed ≤ 18446744073709551615) (n : Nat) (hn : n ≤ 300) (w : World) :
    Calls Try.prog 8 #[.agg c.cells, .int .u64 seed, .int .i64 n] w (ScriptTo (playTo c seed n).1 w) := by
  obtain ⟨i38, hi, hz0, hz1, hz2⟩ := info_parts info38
  have HF := Lib.hid hf
  obtain ⟨m0, m1⟩ := few_most hf
  obtain ⟨m, hm⟩ := Int.eq_ofNat_of_zero_le m0
  have HM := Lib.hid fun w => refMost c hf.1 w
  have HLI := Lib.hid fun w => refLines c hf.1 w
  rw [hm] at HM m1
  have HRV : Hid (c.revs = List.replicate m aRevive) := Lib.hid (by unfold Cfg.revs; rw [hm]; rfl)
  have hmm : m ≤ 672 := by omega
  clear m0 m1 hm
  obtain ⟨B, hB⟩ : ∃ B, B = w.heap.size := ⟨_, rfl⟩
  obtain ⟨W, hW⟩ : ∃ W, W = w.alloc (.cells c.cells 23) := ⟨_, rfl⟩
  have HB := Lib.hid hB
  have HBW : Hid (Below B w W) := Lib.hid (by rw [hW, hB]; exact (Below.refl _ _).alloc (Nat.le_refl _) _)
  have HQ : Hid (W.heap[B]? = some (.cells c.cells 23 (0, 0))) := Lib.hid (by rw [hW, hB]; exact heap_alloc_new _ _)
  have HWS : Hid (W.heap.size = B + 1) := Lib.hid (by rw [hW, hB]; simp)
  have HLEN := Lib.hid fun k => playTo_len hf seed k
  simp only [Cfg.cells] at *
  go_enter Try.func8, Try.ntmps8
  go_upto_region 2 with fail
  rw [← hW, ← hB]
  clear hW hB hf
  go_wp2_with fail
  go_loopw [7, 8] (fun v i wr => ∃ k : Nat, k ≤ m ∧ i = .int .i64 k ∧ Hid (wr.ownsRow (B + 1) 38 6 v k (actCells (List.replicate k aRevive))) ∧ Hid (Below (B + 1) W wr)) (fun _ i _ => m - (intOf i).toNat)
  case atStart => exact ⟨0, Nat.zero_le _, rfl, World.ownsRow_nil _ _ _ _, Lib.hid (Below.refl _ _)⟩
  case round =>
    obtain ⟨k, hk, rfl, HO, HBE⟩ := hrel
    have hBw : B + 1 ≤ wr.heap.size := by rw [← HWS.out]; exact HBE.out.size
    have HQR : Hid (wr.heap[B]? = some (.cells #[.int .i64 c.th, .int .i64 c.sl, .int .i64 c.lo, .int .i64 c.bu] 23 (0, 0))) := Lib.hid ((HBE.out.block B (by omega)).trans HQ.out)
    have q0 : wr.cell? ⟨B, 0, none⟩ = some (.int .i64 c.th) := by rw [cell_of_row _ _ _ _ _ _ HQR.out]; rfl
    have q1 : wr.cell? ⟨B, 1, none⟩ = some (.int .i64 c.sl) := by rw [cell_of_row _ _ _ _ _ _ HQR.out]; rfl
    have q2 : wr.cell? ⟨B, 2, none⟩ = some (.int .i64 c.lo) := by rw [cell_of_row _ _ _ _ _ _ HQR.out]; rfl
    have q3 : wr.cell? ⟨B, 3, none⟩ = some (.int .i64 c.bu) := by rw [cell_of_row _ _ _ _ _ _ HQR.out]; rfl
    go_wp2_with fail
    refine (HM.out _).mono ?_
    rintro e w1 ⟨rfl, hb1⟩
    have HO1 := Lib.hid (own_keep HO.out fun t _ ht => hb1.block t ht)
    have HB1 : Hid (Below (B + 1) W w1) := Lib.hid (HBE.out.trans (hb1.mono hBw))
    have hB1 : B + 1 ≤ w1.heap.size := Nat.le_trans hBw hb1.size
    clear hb1 HO HBE HQR q0 q1 q2 q3
    by_cases hlt : k < m
    · have HN : Hid (actCells (List.replicate (k + 1) aRevive) = actCells (List.replicate k aRevive) ++ aRevive.cells.toList) := Lib.hid (by rw [List.replicate_succ', actCells_append]; simp [actCells])
      have d1 : decide ((k : Int) < (m : Int)) = true := by simp; omega
      go_wp2_with (at_builtin; refine wpList_push rfl (.tmp 24) (.tmp 26) 29 rfl (B + 1) 38 i38 _ 6 40 Try.underlying29 hi hz0 hz1 hz2 rfl (by decide) w1 hB1 u7 k _ rfl HO1.out aRevive.cells 1 1 rfl rfl (by simp [Value.oneCell', ActD.cells]) (by unfold maxLen; omega) (by omega) ?_; intro v' w4 ho4 hg4 hb4 _; have HO4 := Lib.hid ho4; have HB4 : Hid (Below (B + 1) W w4) := Lib.hid (hb4 (B + 1) W HB1.out (Nat.le_refl _)); clear ho4 hg4 hb4)
      go_roundw
      case rel => exact ⟨k + 1, by omega, by go_num, Lib.hid (by rw [HN.out]; exact HO4.out), HB4⟩
      case measure => simp [intOf]; omega
    · obtain rfl : k = m := by omega
      have d1 : decide ((k : Int) < (k : Int)) = false := by simp
      have HO2 : Hid (w1.ownsRow (B + 1) 38 6 u7 (playTo c seed 0).1.length (actCells (playTo c seed 0).1)) := Lib.hid (by
        show w1.ownsRow (B + 1) 38 6 u7 c.revs.length (actCells c.revs)
        rw [HRV.out, List.length_replicate]; exact HO1.out)
      clear HO1
      go_wp2_with fail
      go_loopw [7, 9, 10] (fun v st i wr => ∃ j : Nat, j ≤ n ∧ i = .int .i64 j ∧ st = .int .u64 (playTo c seed j).2 ∧ Hid (wr.ownsRow (B + 1) 38 6 v (playTo c seed j).1.length (actCells (playTo c seed j).1)) ∧ Hid (Below (B + 1) W wr)) (fun _ _ i _ => n - (intOf i).toNat)
      case atStart => exact ⟨0, Nat.zero_le _, rfl, rfl, HO2, HB1⟩
      case round =>
        clear HO2 HB1 hB1 d1
        obtain ⟨j, hj, rfl, rfl, HO, HBE⟩ := hrel
        have hBw : B + 1 ≤ wr.heap.size := by rw [← HWS.out]; exact HBE.out.size
        by_cases hlt : j < n
        · have hBlt : B < wr.heap.size := by omega
          have HQR : Hid (wr.heap[B]? = some (.cells #[.int .i64 c.th, .int .i64 c.sl, .int .i64 c.lo, .int .i64 c.bu] 23 (0, 0))) := Lib.hid ((HBE.out.block B (by omega)).trans HQ.out)
          have q0 : wr.cell? ⟨B, 0, none⟩ = some (.int .i64 c.th) := by rw [cell_of_row _ _ _ _ _ _ HQR.out]; rfl
          have q1 : wr.cell? ⟨B, 1, none⟩ = some (.int .i64 c.sl) := by rw [cell_of_row _ _ _ _ _ _ HQR.out]; rfl
          have q2 : wr.cell? ⟨B, 2, none⟩ = some (.int .i64 c.lo) := by rw [cell_of_row _ _ _ _ _ _ HQR.out]; rfl
          have q3 : wr.cell? ⟨B, 3, none⟩ = some (.int .i64 c.bu) := by rw [cell_of_row _ _ _ _ _ _ HQR.out]; rfl
          have HST : Hid (playTo c seed (j + 1) = ((playTo c seed j).1 ++ actsOf c (rNext (playTo c seed j).2) (rThrow (playTo c seed j).2), stOf (rNext (playTo c seed j).2) (rThrow (playTo c seed j).2))) := Lib.hid rfl
          have HLJ := Lib.hid (HLEN.out j)
          generalize (playTo c seed j).2 = s at *
          generalize (playTo c seed j).1 = L at *
          have HT := Lib.hid (refThrow_any s wr)
          have v0 := rThrow_lo s
          have v1 := rThrow_hi s
          generalize rThrow s = v at *
          generalize rNext s = s' at *
          have HOP : Hid (∀ w, Calls Try.prog 18 #[.int .u64 s'] w (OpD (rNext s') (rKind (rThrow s')) (rKey (rThrow s')) (rVal (rThrow s')) w)) := Lib.hid fun w => refOp_any s' w
          have HA : Hid (actsOf c s' v = if v % 16 < 3 then [⟨1, v / 16 % c.th, 0, rKind (rThrow s'), rKey (rThrow s'), rVal (rThrow s')⟩]
            else if v % 16 = 3 then [⟨3, 0, v / 256 % c.lines, 0, 0, 0⟩]
            else if v % 16 = 4 ∧ v / 256 % 8 = 0 then aCrash :: c.revs
            else [⟨2, v / 16 % c.th, 0, 0, 0, 0⟩]) := Lib.hid rfl
          have HS : Hid (stOf s' v = if v % 16 < 3 then rNext s' else s') := Lib.hid rfl
          generalize actsOf c s' v = A at *
          generalize stOf s' v = st at *
          generalize rKind (rThrow s') = ki at *
          generalize rKey (rThrow s') = ke at *
          generalize rVal (rThrow s') = va at *
          generalize rNext s' = s2 at *
          have hf := HF.out
          obtain ⟨⟨t1, t2, u1, u2, o1, o2, b1, b2⟩, g1, g2, g3, g4⟩ := hf
          have wt : IntKind.u64.wrap c.th = c.th := IntWalk.u64_in _ (by omega)
          have m1 : 0 ≤ v / 16 % c.th := Int.emod_nonneg _ (by omega)
          have m2 : v / 16 % c.th < c.th := Int.emod_lt_of_pos _ (by omega)
          clear u1 u2 o1 o2 b1 b2 g2 g3 g4
          by_cases c1 : v % 16 < 3
          · skip
            have d1 : decide (v % 16 < 3) = true := bool_yes c1
            have d2 : (v % 16 == 3) = false := by simp; omega
            have d3 : (v % 16 == 4) = false := by simp; omega
            have HL : Hid (A = [⟨1, v / 16 % c.th, 0, ki, ke, va⟩]) := Lib.hid (by rw [HA.out, if_pos c1])
            have HS2 : Hid (st = s2) := Lib.hid (by rw [HS.out, if_pos c1])
            clear HA HS HLI c1
            go_upto_region 23 with (first | (go_at_call 17; refine HT.out.mono ?_; rintro e w' ⟨rfl, rfl⟩) | (go_at_call 18; (with_reducible refine (HOP.out _).mono ?_); rintro e w2 ⟨rfl, cc, rfl⟩))
            obtain ⟨ga, hga⟩ : ∃ ga, ga = wr.heap.size := ⟨_, rfl⟩
            obtain ⟨X, hX⟩ : ∃ X : ActD, X = ⟨1, v / 16 % c.th, 0, ki, ke, va⟩ := ⟨_, rfl⟩
            obtain ⟨Wx, hWx⟩ : ∃ Wx, Wx = ((wr.alloc (.cells #[.int .i64 1, .int .i64 (v / 16 % c.th), .int .i64 0, .int .i64 ki, .int .u32 ke, .int .u32 va] 38)).alloc (.cells cc 36)).alloc (.cells #[.int .i64 ki, .int .u32 ke, .int .u32 va] 36) := ⟨_, rfl⟩
            have HX : Hid (Wx.heap[ga]? = some (.cells X.cells 38 (0, 0))) := Lib.hid (by rw [hWx, hga, hX, Below.heap_alloc _ _ _ (by simp; omega), Below.heap_alloc _ _ _ (by simp), heap_alloc_new]; rfl)
            have HBX : Hid (Below wr.heap.size wr Wx) := Lib.hid (by rw [hWx]; exact (((Below.refl _ _).alloc (Nat.le_refl _) _).alloc (by simp) _).alloc (by simp; omega) _)
            have HOX : Hid (Wx.ownsRow (B + 1) 38 6 u7 L.length (actCells L)) := Lib.hid (own_keep HO.out fun t _ ht => HBX.out.block t ht)
            have HBY : Hid (Below (B + 1) W Wx) := Lib.hid (HBE.out.trans (HBX.out.mono hBw))
            have hBx : B + 1 ≤ Wx.heap.size := Nat.le_trans hBw HBX.out.size
            have HQX : Hid (Wx.heap[B]? = some (.cells #[.int .i64 c.th, .int .i64 c.sl, .int .i64 c.lo, .int .i64 c.bu] 23 (0, 0))) := Lib.hid ((HBX.out.block B hBlt).trans HQR.out)
            rw [← hWx, ← hga]
            have HXX := Lib.hid hX
            clear hWx hga hX q0 q1 q2 q3 HO HBE HQR HT HOP HBX
            obtain ⟨y0, y1, y2, y3, y4, y5, -⟩ := act_cells HX.out
            have hlen : L.length ≤ 673 * (j + 1) := HLJ.out
            go_wp2_with (at_builtin; refine wpList_push rfl (.tmp 82) (.tmp 84) 29 rfl (B + 1) 38 i38 _ 6 40 Try.underlying29 hi hz0 hz1 hz2 rfl (by decide) Wx hBx u7 L.length _ rfl HOX.out X.cells 1 1 rfl rfl (by simp [Value.oneCell', ActD.cells]) (by unfold maxLen; omega) (by omega) ?_; intro v' w4 ho4 hg4 hb4 _; have HO4 := Lib.hid ho4; have HB4 : Hid (Below (B + 1) W w4) := Lib.hid (hb4 (B + 1) W HBY.out (Nat.le_refl _)); have HB5 := Lib.hid (hb4 (B + 1) Wx (Below.refl _ _) (Nat.le_refl _)); clear ho4 hg4 hb4)
            go_loopw [7, 17] (fun v i wq => v = v' ∧ i = .int .i64 0 ∧ wq = w4) (fun _ _ _ => 0)
            case atStart => exact ⟨rfl, rfl, rfl⟩
            case round =>
              obtain ⟨rfl, rfl, rfl⟩ := hrel
              go_wp2_with fail
              go_roundw
              case rel =>
                refine ⟨j + 1, by omega, by go_num, by rw [HST.out, HS2.out], Lib.hid ?_, HB4⟩
                rw [HST.out, HL.out, List.length_append, actCells_append]
                show World.ownsRow _ _ _ _ _ _ (actCells L ++ actCells [_])
                have := HO4.out
                rw [HXX.out] at this
                simpa [actCells] using this
              case measure => simp [intOf]; omega
          · have d1 : decide (v % 16 < 3) = false := bool_no c1
            have HS2 : Hid (st = s') := Lib.hid (by rw [HS.out, if_neg c1])
            clear HS
            by_cases c2 : v % 16 = 3
            · have d2 : (v % 16 == 3) = true := by simp [c2]
              have d3 : (v % 16 == 4) = false := by simp [c2]
              have HL : Hid (A = [⟨3, 0, v / 256 % c.lines, 0, 0, 0⟩]) := Lib.hid (by rw [HA.out, if_neg c1, if_pos c2])
              obtain ⟨l1, l2⟩ := lines_bd HF.out
              have wl : IntKind.u64.wrap c.lines = c.lines := IntWalk.u64_in _ (by omega)
              have m3 : 0 ≤ v / 256 % c.lines := Int.emod_nonneg _ (by omega)
              have m4 : v / 256 % c.lines < c.lines := Int.emod_lt_of_pos _ (by omega)
              clear HA c2
              go_upto_region 23 with (first | (go_at_call 17; refine HT.out.mono ?_; rintro e w' ⟨rfl, rfl⟩) | (go_at_call 19; (with_reducible refine (HLI.out _).mono ?_); rintro e w2 ⟨rfl, hb2⟩; have HB2 := Lib.hid hb2; have hga2 := (hb2.block wr.heap.size (by simp)).trans (heap_alloc_new wr _); obtain ⟨z0, z1, z2, z3, z4, z5, zf⟩ := act_cells hga2; have HG2 := Lib.hid hga2; clear hb2 hga2))
              obtain ⟨ga, hga⟩ : ∃ ga, ga = wr.heap.size := ⟨_, rfl⟩
              obtain ⟨X, hX⟩ : ∃ X : ActD, X = ⟨3, 0, v / 256 % c.lines, 0, 0, 0⟩ := ⟨_, rfl⟩
              obtain ⟨Wx, hWx⟩ : ∃ Wx, Wx = (((((w2.setCell ⟨wr.heap.size, 0, none⟩ (.int .i64 3)).setCell ⟨wr.heap.size, 1, none⟩ (.int .i64 0)).setCell ⟨wr.heap.size, 2, none⟩ (.int .i64 (v / 256 % c.lines))).setCell ⟨wr.heap.size, 3, none⟩ (.int .i64 0)).setCell ⟨wr.heap.size, 4, none⟩ (.int .u32 0)).setCell ⟨wr.heap.size, 5, none⟩ (.int .u32 0) := ⟨_, rfl⟩
              have HX : Hid (Wx.heap[ga]? = some (.cells X.cells 38 (0, 0))) := Lib.hid (by rw [hWx, hga, hX]; exact heap_set (j := 5) _ (heap_set (j := 4) _ (heap_set (j := 3) _ (heap_set (j := 2) _ (heap_set (j := 1) _ (heap_set (j := 0) _ HG2.out))))))
              have HBX : Hid (Below wr.heap.size wr Wx) := Lib.hid (by rw [hWx]; exact ((((((((Below.refl wr.heap.size wr).alloc (Nat.le_refl _) _).trans (HB2.out.mono (by simp))).setCell (Nat.le_refl _) _).setCell (Nat.le_refl _) _).setCell (Nat.le_refl _) _).setCell (Nat.le_refl _) _).setCell (Nat.le_refl _) _).setCell (Nat.le_refl _) _)
              have HOX : Hid (Wx.ownsRow (B + 1) 38 6 u7 L.length (actCells L)) := Lib.hid (own_keep HO.out fun t _ ht => HBX.out.block t ht)
              have HBY : Hid (Below (B + 1) W Wx) := Lib.hid (HBE.out.trans (HBX.out.mono hBw))
              have hBx : B + 1 ≤ Wx.heap.size := Nat.le_trans hBw HBX.out.size
              have HQX : Hid (Wx.heap[B]? = some (.cells #[.int .i64 c.th, .int .i64 c.sl, .int .i64 c.lo, .int .i64 c.bu] 23 (0, 0))) := Lib.hid ((HBX.out.block B hBlt).trans HQR.out)
              rw [← hWx, ← hga]
              have HXX := Lib.hid hX
              clear hWx hga hX q0 q1 q2 q3 HO HBE HQR HT HOP HBX
              obtain ⟨y0, y1, y2, y3, y4, y5, -⟩ := act_cells HX.out
              have hlen : L.length ≤ 673 * (j + 1) := HLJ.out
              go_wp2_with (at_builtin; refine wpList_push rfl (.tmp 82) (.tmp 84) 29 rfl (B + 1) 38 i38 _ 6 40 Try.underlying29 hi hz0 hz1 hz2 rfl (by decide) Wx hBx u7 L.length _ rfl HOX.out X.cells 1 1 rfl rfl (by simp [Value.oneCell', ActD.cells]) (by unfold maxLen; omega) (by omega) ?_; intro v' w4 ho4 hg4 hb4 _; have HO4 := Lib.hid ho4; have HB4 : Hid (Below (B + 1) W w4) := Lib.hid (hb4 (B + 1) W HBY.out (Nat.le_refl _)); have HB5 := Lib.hid (hb4 (B + 1) Wx (Below.refl _ _) (Nat.le_refl _)); clear ho4 hg4 hb4)
              go_loopw [7, 17] (fun v i wq => v = v' ∧ i = .int .i64 0 ∧ wq = w4) (fun _ _ _ => 0)
              case atStart => exact ⟨rfl, rfl, rfl⟩
              case round =>
                obtain ⟨rfl, rfl, rfl⟩ := hrel
                go_wp2_with fail
                go_roundw
                case rel =>
                  refine ⟨j + 1, by omega, by go_num, by rw [HST.out, HS2.out], Lib.hid ?_, HB4⟩
                  rw [HST.out, HL.out, List.length_append, actCells_append]
                  show World.ownsRow _ _ _ _ _ _ (actCells L ++ actCells [_])
                  have := HO4.out
                  rw [HXX.out] at this
                  simpa [actCells] using this
                case measure => simp [intOf]; omega
            · have d2 : (v % 16 == 3) = false := by simp [c2]
              by_cases c3 : v % 16 = 4 ∧ v / 256 % 8 = 0
              · have d3 : (v % 16 == 4) = true := by simp [c3.1]
                have d4 : (v / 256 % 8 == 0) = true := by simp [c3.2]
                have HL : Hid (A = aCrash :: c.revs) := Lib.hid (by rw [HA.out, if_neg c1, if_neg c2, if_pos c3])
                clear HA HLI c2 c3
                go_upto_region 23 with (first | (go_at_call 17; refine HT.out.mono ?_; rintro e w' ⟨rfl, rfl⟩))
                obtain ⟨ga, hga⟩ : ∃ ga, ga = wr.heap.size := ⟨_, rfl⟩
                obtain ⟨X, hX⟩ : ∃ X : ActD, X = aCrash := ⟨_, rfl⟩
                obtain ⟨Wx, hWx⟩ : ∃ Wx, Wx = wr.alloc (.cells #[.int .i64 4, .int .i64 0, .int .i64 0, .int .i64 0, .int .u32 0, .int .u32 0] 38) := ⟨_, rfl⟩
                have HX : Hid (Wx.heap[ga]? = some (.cells X.cells 38 (0, 0))) := Lib.hid (by rw [hWx, hga, hX, heap_alloc_new]; rfl)
                have HBX : Hid (Below wr.heap.size wr Wx) := Lib.hid (by rw [hWx]; exact (Below.refl _ _).alloc (Nat.le_refl _) _)
                have HOX : Hid (Wx.ownsRow (B + 1) 38 6 u7 L.length (actCells L)) := Lib.hid (own_keep HO.out fun t _ ht => HBX.out.block t ht)
                have HBY : Hid (Below (B + 1) W Wx) := Lib.hid (HBE.out.trans (HBX.out.mono hBw))
                have hBx : B + 1 ≤ Wx.heap.size := Nat.le_trans hBw HBX.out.size
                have HQX : Hid (Wx.heap[B]? = some (.cells #[.int .i64 c.th, .int .i64 c.sl, .int .i64 c.lo, .int .i64 c.bu] 23 (0, 0))) := Lib.hid ((HBX.out.block B hBlt).trans HQR.out)
                rw [← hWx, ← hga]
                have HXX := Lib.hid hX
                clear hWx hga hX q0 q1 q2 q3 HO HBE HQR HT HOP HBX
                obtain ⟨y0, y1, y2, y3, y4, y5, -⟩ := act_cells HX.out
                have hlen : L.length ≤ 673 * (j + 1) := HLJ.out
                go_wp2_with (at_builtin; refine wpList_push rfl (.tmp 82) (.tmp 84) 29 rfl (B + 1) 38 i38 _ 6 40 Try.underlying29 hi hz0 hz1 hz2 rfl (by decide) Wx hBx u7 L.length _ rfl HOX.out X.cells 1 1 rfl rfl (by simp [Value.oneCell', ActD.cells]) (by unfold maxLen; omega) (by omega) ?_; intro v' w4 ho4 hg4 hb4 _; have HO4 := Lib.hid ho4; have HB4 : Hid (Below (B + 1) W w4) := Lib.hid (hb4 (B + 1) W HBY.out (Nat.le_refl _)); have HB5 := Lib.hid (hb4 (B + 1) Wx (Below.refl _ _) (Nat.le_refl _)); clear ho4 hg4 hb4)
                go_loopw [7, 17] (fun v i wq => ∃ k2 : Nat, k2 ≤ k ∧ i = .int .i64 k2 ∧ Hid (wq.ownsRow (B + 1) 38 6 v (L.length + 1 + k2) (actCells (L ++ (aCrash :: List.replicate k2 aRevive)))) ∧ Hid (Below (B + 1) W wq)) (fun _ i _ => k - (intOf i).toNat)
                case atStart => exact ⟨0, Nat.zero_le _, rfl, Lib.hid (by have := HO4.out; rw [HXX.out] at this; rw [actCells_append]; simpa [actCells] using this), HB4⟩
                case round =>
                  clear HO4 HB4 HB5 HX HOX HBY hBx HQX y0 y1 y2 y3 y4 y5
                  obtain ⟨k2, hk2, rfl, HO, HBE⟩ := hrel
                  have hBw : B + 1 ≤ wr.heap.size := by rw [← HWS.out]; exact HBE.out.size
                  have HQR : Hid (wr.heap[B]? = some (.cells #[.int .i64 c.th, .int .i64 c.sl, .int .i64 c.lo, .int .i64 c.bu] 23 (0, 0))) := Lib.hid ((HBE.out.block B (by omega)).trans HQ.out)
                  have q0 : wr.cell? ⟨B, 0, none⟩ = some (.int .i64 c.th) := by rw [cell_of_row _ _ _ _ _ _ HQR.out]; rfl
                  have q1 : wr.cell? ⟨B, 1, none⟩ = some (.int .i64 c.sl) := by rw [cell_of_row _ _ _ _ _ _ HQR.out]; rfl
                  have q2 : wr.cell? ⟨B, 2, none⟩ = some (.int .i64 c.lo) := by rw [cell_of_row _ _ _ _ _ _ HQR.out]; rfl
                  have q3 : wr.cell? ⟨B, 3, none⟩ = some (.int .i64 c.bu) := by rw [cell_of_row _ _ _ _ _ _ HQR.out]; rfl
                  go_wp2_with fail
                  refine (HM.out _).mono ?_
                  rintro e w1 ⟨rfl, hb1⟩
                  have HO1 := Lib.hid (own_keep HO.out fun t _ ht => hb1.block t ht)
                  have HB1 : Hid (Below (B + 1) W w1) := Lib.hid (HBE.out.trans (hb1.mono hBw))
                  have hB1 : B + 1 ≤ w1.heap.size := Nat.le_trans hBw hb1.size
                  clear hb1 HO HBE HQR q0 q1 q2 q3
                  by_cases hlt2 : k2 < k
                  · have HN : Hid (actCells (L ++ (aCrash :: List.replicate (k2 + 1) aRevive)) = actCells (L ++ (aCrash :: List.replicate k2 aRevive)) ++ aRevive.cells.toList) := Lib.hid (by rw [List.replicate_succ', actCells_append, actCells_append]; simp [actCells, actCells_append])
                    have e1 : decide ((k2 : Int) < (k : Int)) = true := by simp; omega
                    go_wp2_with (at_builtin; refine wpList_push rfl (.tmp 95) (.tmp 97) 29 rfl (B + 1) 38 i38 _ 6 40 Try.underlying29 hi hz0 hz1 hz2 rfl (by decide) w1 hB1 u7 (L.length + 1 + k2) _ rfl HO1.out aRevive.cells 1 1 rfl rfl (by simp [Value.oneCell', ActD.cells]) (by unfold maxLen; omega) (by omega) ?_; intro v' w4 ho4 hg4 hb4 _; have HO4 := Lib.hid ho4; have HB4 : Hid (Below (B + 1) W w4) := Lib.hid (hb4 (B + 1) W HB1.out (Nat.le_refl _)); clear ho4 hg4 hb4)
                    go_roundw
                    case rel => exact ⟨k2 + 1, by omega, by go_num, Lib.hid (by rw [HN.out, ← Nat.add_assoc]; exact HO4.out), HB4⟩
                    case measure => simp [intOf]; omega
                  · obtain rfl : k2 = k := by omega
                    have e1 : decide ((k2 : Int) < (k2 : Int)) = false := by simp
                    go_wp2_with fail
                    go_roundw
                    case rel =>
                      refine ⟨j + 1, by omega, by go_num, by rw [HST.out, HS2.out], Lib.hid ?_, HB1⟩
                      rw [HST.out, HL.out, HRV.out]
                      have := HO1.out
                      rw [show (L ++ aCrash :: List.replicate k2 aRevive).length = L.length + 1 + k2 by simp; omega]
                      exact this
                    case measure => simp [intOf]; omega
              · have HL : Hid (A = [⟨2, v / 16 % c.th, 0, 0, 0, 0⟩]) := Lib.hid (by rw [HA.out, if_neg c1, if_neg c2, if_neg c3])
                by_cases c4 : v % 16 = 4
                · have d3 : (v % 16 == 4) = true := by simp [c4]
                  have d4 : (v / 256 % 8 == 0) = false := by simp; omega
                  clear HA HLI c2 c3 c4
                  go_upto_region 23 with (first | (go_at_call 17; refine HT.out.mono ?_; rintro e w' ⟨rfl, rfl⟩))
                  obtain ⟨ga, hga⟩ : ∃ ga, ga = wr.heap.size := ⟨_, rfl⟩
                  obtain ⟨X, hX⟩ : ∃ X : ActD, X = ⟨2, v / 16 % c.th, 0, 0, 0, 0⟩ := ⟨_, rfl⟩
                  obtain ⟨Wx, hWx⟩ : ∃ Wx, Wx = wr.alloc (.cells #[.int .i64 2, .int .i64 (v / 16 % c.th), .int .i64 0, .int .i64 0, .int .u32 0, .int .u32 0] 38) := ⟨_, rfl⟩
                  have HX : Hid (Wx.heap[ga]? = some (.cells X.cells 38 (0, 0))) := Lib.hid (by rw [hWx, hga, hX, heap_alloc_new]; rfl)
                  have HBX : Hid (Below wr.heap.size wr Wx) := Lib.hid (by rw [hWx]; exact (Below.refl _ _).alloc (Nat.le_refl _) _)
                  have HOX : Hid (Wx.ownsRow (B + 1) 38 6 u7 L.length (actCells L)) := Lib.hid (own_keep HO.out fun t _ ht => HBX.out.block t ht)
                  have HBY : Hid (Below (B + 1) W Wx) := Lib.hid (HBE.out.trans (HBX.out.mono hBw))
                  have hBx : B + 1 ≤ Wx.heap.size := Nat.le_trans hBw HBX.out.size
                  have HQX : Hid (Wx.heap[B]? = some (.cells #[.int .i64 c.th, .int .i64 c.sl, .int .i64 c.lo, .int .i64 c.bu] 23 (0, 0))) := Lib.hid ((HBX.out.block B hBlt).trans HQR.out)
                  rw [← hWx, ← hga]
                  have HXX := Lib.hid hX
                  clear hWx hga hX q0 q1 q2 q3 HO HBE HQR HT HOP HBX
                  obtain ⟨y0, y1, y2, y3, y4, y5, -⟩ := act_cells HX.out
                  have hlen : L.length ≤ 673 * (j + 1) := HLJ.out
                  go_wp2_with (at_builtin; refine wpList_push rfl (.tmp 82) (.tmp 84) 29 rfl (B + 1) 38 i38 _ 6 40 Try.underlying29 hi hz0 hz1 hz2 rfl (by decide) Wx hBx u7 L.length _ rfl HOX.out X.cells 1 1 rfl rfl (by simp [Value.oneCell', ActD.cells]) (by unfold maxLen; omega) (by omega) ?_; intro v' w4 ho4 hg4 hb4 _; have HO4 := Lib.hid ho4; have HB4 : Hid (Below (B + 1) W w4) := Lib.hid (hb4 (B + 1) W HBY.out (Nat.le_refl _)); have HB5 := Lib.hid (hb4 (B + 1) Wx (Below.refl _ _) (Nat.le_refl _)); clear ho4 hg4 hb4)
                  go_loopw [7, 17] (fun v i wq => v = v' ∧ i = .int .i64 0 ∧ wq = w4) (fun _ _ _ => 0)
                  case atStart => exact ⟨rfl, rfl, rfl⟩
                  case round =>
                    obtain ⟨rfl, rfl, rfl⟩ := hrel
                    go_wp2_with fail
                    go_roundw
                    case rel =>
                      refine ⟨j + 1, by omega, by go_num, by rw [HST.out, HS2.out], Lib.hid ?_, HB4⟩
                      rw [HST.out, HL.out, List.length_append, actCells_append]
                      show World.ownsRow _ _ _ _ _ _ (actCells L ++ actCells [_])
                      have := HO4.out
                      rw [HXX.out] at this
                      simpa [actCells] using this
                    case measure => simp [intOf]; omega
                · have d3 : (v % 16 == 4) = false := by simp [c4]
                  clear HA HLI c2 c3 c4
                  go_upto_region 23 with (first | (go_at_call 17; refine HT.out.mono ?_; rintro e w' ⟨rfl, rfl⟩))
                  obtain ⟨ga, hga⟩ : ∃ ga, ga = wr.heap.size := ⟨_, rfl⟩
                  obtain ⟨X, hX⟩ : ∃ X : ActD, X = ⟨2, v / 16 % c.th, 0, 0, 0, 0⟩ := ⟨_, rfl⟩
                  obtain ⟨Wx, hWx⟩ : ∃ Wx, Wx = wr.alloc (.cells #[.int .i64 2, .int .i64 (v / 16 % c.th), .int .i64 0, .int .i64 0, .int .u32 0, .int .u32 0] 38) := ⟨_, rfl⟩
                  have HX : Hid (Wx.heap[ga]? = some (.cells X.cells 38 (0, 0))) := Lib.hid (by rw [hWx, hga, hX, heap_alloc_new]; rfl)
                  have HBX : Hid (Below wr.heap.size wr Wx) := Lib.hid (by rw [hWx]; exact (Below.refl _ _).alloc (Nat.le_refl _) _)
                  have HOX : Hid (Wx.ownsRow (B + 1) 38 6 u7 L.length (actCells L)) := Lib.hid (own_keep HO.out fun t _ ht => HBX.out.block t ht)
                  have HBY : Hid (Below (B + 1) W Wx) := Lib.hid (HBE.out.trans (HBX.out.mono hBw))
                  have hBx : B + 1 ≤ Wx.heap.size := Nat.le_trans hBw HBX.out.size
                  have HQX : Hid (Wx.heap[B]? = some (.cells #[.int .i64 c.th, .int .i64 c.sl, .int .i64 c.lo, .int .i64 c.bu] 23 (0, 0))) := Lib.hid ((HBX.out.block B hBlt).trans HQR.out)
                  rw [← hWx, ← hga]
                  have HXX := Lib.hid hX
                  clear hWx hga hX q0 q1 q2 q3 HO HBE HQR HT HOP HBX
                  obtain ⟨y0, y1, y2, y3, y4, y5, -⟩ := act_cells HX.out
                  have hlen : L.length ≤ 673 * (j + 1) := HLJ.out
                  go_wp2_with (at_builtin; refine wpList_push rfl (.tmp 82) (.tmp 84) 29 rfl (B + 1) 38 i38 _ 6 40 Try.underlying29 hi hz0 hz1 hz2 rfl (by decide) Wx hBx u7 L.length _ rfl HOX.out X.cells 1 1 rfl rfl (by simp [Value.oneCell', ActD.cells]) (by unfold maxLen; omega) (by omega) ?_; intro v' w4 ho4 hg4 hb4 _; have HO4 := Lib.hid ho4; have HB4 : Hid (Below (B + 1) W w4) := Lib.hid (hb4 (B + 1) W HBY.out (Nat.le_refl _)); have HB5 := Lib.hid (hb4 (B + 1) Wx (Below.refl _ _) (Nat.le_refl _)); clear ho4 hg4 hb4)
                  go_loopw [7, 17] (fun v i wq => v = v' ∧ i = .int .i64 0 ∧ wq = w4) (fun _ _ _ => 0)
                  case atStart => exact ⟨rfl, rfl, rfl⟩
                  case round =>
                    obtain ⟨rfl, rfl, rfl⟩ := hrel
                    go_wp2_with fail
                    go_roundw
                    case rel =>
                      refine ⟨j + 1, by omega, by go_num, by rw [HST.out, HS2.out], Lib.hid ?_, HB4⟩
                      rw [HST.out, HL.out, List.length_append, actCells_append]
                      show World.ownsRow _ _ _ _ _ _ (actCells L ++ actCells [_])
                      have := HO4.out
                      rw [HXX.out] at this
                      simpa [actCells] using this
                    case measure => simp [intOf]; omega
        · obtain rfl : j = n := by omega
          go_wp2_with fail
          go_ret
          refine ⟨u7, rfl, ?_, ?_⟩
          · rw [← HB.out]; exact own_base (by omega) HO.out
          · rw [← HB.out]; exact HBW.out.trans (HBE.out.mono (by omega))
end Go.Proofs.Ytoeeeapjfkjkbaa
