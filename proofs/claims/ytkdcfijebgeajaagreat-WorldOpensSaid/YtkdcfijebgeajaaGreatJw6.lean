/- Layer 2, the document's: the rest of a division is the state.
   Layer 2, the document's: the sum of bytes.
   Layer 2, the document's: the sum of words.
   Layer 20's law, plain: a store gone through a load a step, and the same store read. No program here.
   Layer 22: the recovery's row; how it stands; the most steps. -/
import Derived.Test.YtkdcfijebgeajaaGreatJw5
import Derived.Test.YtkdcfijebgeajaaGreatJw2
import Derived.Laws.EntriesVeiled
import Derived.IntWalk
import Derived.Test.YtkdcfijebgeajaaGreatJw3
import Derived.Maps.AppendAt
namespace Go.Proofs.YtkdcfijebgeajaaGreat
open Go.RowKit Go.BigFrame
set_option linter.unusedVariables false
set_option linter.unusedSimpArgs false
set_option maxRecDepth 100000 in
set_option maxHeartbeats 8000000 in
theorem rest60 (s : Nat) (hs : s < 4294967296) (l : List Nat) (hl : ∀ b ∈ l, b < 2) (n : Nat) (hnl : l.length = n) (hn : n ≤ 1000000) (a : Option Addr) (cap : Nat) (w : World) (h : CellsAt w.heap.size w a n fun j => (intsL l)[j]?.getD undef) :
    Calls Tryz.prog 235 #[.int .u32 s, .slice a n cap] w fun e w' => e = .returned (.int .u32 (crcBits s l)) ∧ Below w.heap.size w w' := by
  obtain ⟨i3, hi, hz0, hz1, hz2⟩ := info_parts info3
  obtain ⟨B, hB⟩ : ∃ B, B = w.heap.size := ⟨_, rfl⟩
  obtain ⟨b, off, ha, hc⟩ := h
  rw [← hB] at ha ⊢
  have HB := Lib.hid hB
  have HA := Lib.hid ha
  have HC : Hid (∀ j, j < n → w.cell? ⟨b, off + j, none⟩ = some (.int .i64 (Int.ofNat (l[j]?.getD 0)))) := Lib.hid fun j hj => by rw [hc j hj]; show some ((intsL l)[j]?.getD undef) = _; rw [intsL_get l j (by omega)]; rfl
  have HLB := Lib.hid hl
  have HN := Lib.hid hnl
  have HQ : Hid ((32 : Int) = ((32 : Nat) : Int)) := Lib.hid rfl
  clear ha hc hB hl hnl
  go_enter Tryz.func235, Tryz.ntmps235
  go_wp2_with fail
  -- the bits, copied
  go_loopw [5, 6] (fun v i wr => ∃ k : Nat, k ≤ n ∧ i = .int .i64 k ∧ Hid (wr.ownsRow B 3 1 v k (intsL (l.take k))) ∧ Hid (Below B w wr)) (fun _ i _ => n - (intOf i).toNat)
  case atStart => exact ⟨0, by omega, rfl, World.ownsRow_nil _ _ _ _, by rw [HB.out]; exact Below.refl _ _⟩
  case round =>
    obtain ⟨k, hk, rfl, HO, HBE⟩ := hrel
    have hBw : B ≤ wr.heap.size := by have := HBE.out.size; have := HB.out; omega
    have q1 : k + 1 ≤ maxLen := by unfold maxLen; omega
    have q2 : (k + 1) * 8 ≤ 140737488355328 := by omega
    obtain ⟨va, vc, rfl⟩ := own_slice_n HO.out
    by_cases hlt : k < n
    · have d1 : decide ((k : Int) < (n : Int)) = true := bool_yes (by omega)
      obtain ⟨rfl, hb⟩ := HA.out (by omega)
      have e1 : wr.cell? ⟨b, off + k, none⟩ = some (.int .i64 (Int.ofNat (l[k]?.getD 0))) := by rw [HBE.out.cell (p := ⟨b, off + k, none⟩) hb, HC.out k hlt]
      have HTk : Hid (l.take (k + 1) = l.take k ++ [l[k]?.getD 0]) := Lib.hid (by rw [List.take_add_one, List.getElem?_eq_getElem (by rw [HN.out]; exact hlt)]; rfl)
      generalize l[k]?.getD 0 = x at *
      go_wp2_with (at_builtin; refine wpList_push rfl (.tmp 21) (.tmp 26) 135 rfl B 3 i3 (.int .i64 0) 1 8 Tryz.underlying135 hi hz0 hz1 hz2 rfl (by decide) wr hBw (.slice va k vc) k (intsL (l.take k)) rfl HO.out #[.int .i64 (Int.ofNat x)] 1 1 rfl rfl (by simp [Value.oneCell']) q1 q2 ?_; intro v' w' ho' hg' hb' hn'; have HO' := Lib.hid ho'; have HB' := Lib.hid (hb' _ _ HBE.out (Nat.le_refl _)); clear ho' hg' hb' hn')
      go_wp2_with fail
      go_roundw
      case rel => exact ⟨k + 1, by omega, by go_num, Lib.hid (by rw [HTk.out, intsL_append]; exact HO'.out), HB'⟩
      case measure => simp [intOf]; omega
    · obtain rfl : k = n := by omega
      have d1 : decide ((k : Int) < (k : Int)) = false := by simp
      have HO2 : Hid (wr.ownsRow B 3 1 (.slice va k vc) (k + 0) (intsL (l ++ List.replicate 0 0))) := Lib.hid (by have := HO.out; rw [List.take_of_length_le (by have := HN.out; omega)] at this; simp only [List.replicate_zero, List.append_nil, Nat.add_zero]; exact this)
      clear HO
      go_wp2_with fail
      -- 32 noughts behind
      go_loopw [5, 7] (fun v i wr => ∃ m : Nat, m ≤ 32 ∧ i = .int .i64 m ∧ Hid (wr.ownsRow B 3 1 v (k + m) (intsL (l ++ List.replicate m 0))) ∧ Hid (Below B w wr)) (fun _ i _ => 32 - (intOf i).toNat)
      case atStart => exact ⟨0, by omega, rfl, HO2, HBE⟩
      case round =>
        clear HO2 HBE hBw
        obtain ⟨m, hm, rfl, HO, HBE⟩ := hrel
        have hBw : B ≤ wr.heap.size := by have := HBE.out.size; have := HB.out; omega
        have q1 : k + m + 1 ≤ maxLen := by unfold maxLen; omega
        have q2 : (k + m + 1) * 8 ≤ 140737488355328 := by omega
        obtain ⟨va, vc, rfl⟩ := own_slice_n HO.out
        by_cases hlt : m < 32
        · have d1 : decide ((m : Int) < 32) = true := bool_yes (by omega)
          go_wp2_with (at_builtin; refine wpList_push rfl (.tmp 32) (.tmp 33) 135 rfl B 3 i3 (.int .i64 0) 1 8 Tryz.underlying135 hi hz0 hz1 hz2 rfl (by decide) wr hBw (.slice va (k + m) vc) (k + m) (intsL (l ++ List.replicate m 0)) rfl HO.out #[.int .i64 0] 1 1 rfl rfl (by simp [Value.oneCell']) q1 q2 ?_; intro v' w' ho' hg' hb' hn'; have HO' := Lib.hid ho'; have HB' := Lib.hid (hb' _ _ HBE.out (Nat.le_refl _)); clear ho' hg' hb' hn')
          go_wp2_with fail
          go_roundw
          case rel => exact ⟨m + 1, by omega, by go_num, Lib.hid (by rw [List.replicate_succ', ← List.append_assoc, intsL_append]; exact HO'.out), HB'⟩
          case measure => simp [intOf]; omega
        · obtain rfl : m = 32 := by omega
          have HLL : Hid ((l ++ List.replicate 32 0).length = k + 32) := Lib.hid (by simp [HN.out])
          obtain ⟨g, gc, hgv, hgB, hgn⟩ := own_nums (l := l ++ List.replicate 32 0) (by rw [HLL.out]; exact HO.out) (by rw [HLL.out]; omega)
          rw [HLL.out] at hgv hgn
          obtain ⟨rfl, rfl⟩ : va = some ⟨g, 0, none⟩ ∧ vc = gc := by cases hgv; exact ⟨rfl, rfl⟩
          have HX : Hid (Nums wr g (k + 32) fun p => l[p]?.getD 0) := Lib.hid (hgn.to fun p hp => by
            by_cases h : p < l.length
            · rw [List.getElem?_append_left h]
            · have hp2 : l.length ≤ p := by omega
              rw [List.getElem?_append_right hp2, List.getElem?_eq_none hp2, List.getElem?_replicate]
              split <;> rfl)
          have HGB := Lib.hid hgB
          clear hgv hgn hgB HO
          go_wp2_with (go_at_call 234; (with_reducible refine (bits59' _ _ s 32 rfl HQ.out (by omega) (by decide) _).mono ?_); rintro e w1 ⟨v1, rfl, hb1, ho1⟩; have HB1 := Lib.hid hb1; have HO1 := Lib.hid ho1; clear hb1 ho1)
          have h1L : (bitsOf 32 s).length = 32 := bitsOf_length _ _
          obtain ⟨g1, c1, rfl, hg1, hn1⟩ := own_nums HO1.out (by rw [h1L]; decide)
          rw [h1L] at hn1 ⊢
          have HS : Hid (Nums w1 g1 32 fun p => bitAt s p) := Lib.hid (hn1.to fun p hp => by rw [bitsOf_get 32 s p hp]; rfl)
          have hgw := HX.out.lt
          have HXw : Hid (Nums w1 g (k + 32) fun p => l[p]?.getD 0) := Lib.hid (HX.out.keep (HB1.out.block g hgw))
          have hne : g1 ≠ g := by omega
          have h1w := HS.out.lt
          have HBE1 : Hid (Below B w w1) := Lib.hid (HBE.out.trans (HB1.out.mono hBw))
          clear hn1 HO1 h1L HX HBE HB1 hg1 hgw hBw q1 q2 hlt
          go_wp2_with fail
          -- the state turned into the first 32
          go_loopw [9] (fun i wr3 => ∃ m : Nat, m ≤ 32 ∧ i = .int .i64 m ∧ Hid (Nums wr3 g (k + 32) fun p => if p < m then ((l[p]?.getD 0) + bitAt s p) % 2 else l[p]?.getD 0) ∧ Hid (But g w1 wr3)) (fun i _ => 32 - (intOf i).toNat)
          case atStart => exact ⟨0, by omega, rfl, by simp only [Nat.not_lt_zero, if_false]; exact HXw, But.refl _ _⟩
          case round =>
            obtain ⟨m, hm, rfl, HX3, HBU⟩ := hrel
            by_cases hlt : m < 32
            · have d1 : decide ((m : Int) < 32) = true := bool_yes (by omega)
              have ca := HX3.out.cell (k := m) (by omega)
              rw [if_neg (Nat.lt_irrefl m)] at ca
              have cb := (HS.out.keep (HBU.out.block g1 h1w hne)).cell hlt
              have fa := HX3.out.free m
              have i0 : (0 : Int) ≤ (m : Int) := by omega
              have i1 : (m : Int) < ((k : Int) + 32) := by omega
              have i2 : (m : Int) < 32 := by omega
              have hx2 : l[m]?.getD 0 < 2 := by
                cases h : l[m]? with
                | none => simp
                | some b => exact HLB.out b (List.mem_of_getElem? h)
              have hy2 : bitAt s m < 2 := bitAt_lt s m
              have HV : Hid (∀ p, (if p < m + 1 then ((l[p]?.getD 0) + bitAt s p) % 2 else l[p]?.getD 0) = upd (fun p => if p < m then ((l[p]?.getD 0) + bitAt s p) % 2 else l[p]?.getD 0) m ((l[m]?.getD 0 + bitAt s m) % 2) p) := Lib.hid fun p => by
                unfold upd
                by_cases hp : p = m
                · subst hp; rw [if_pos (by omega), if_pos rfl]
                · rw [if_neg hp]
                  by_cases hp2 : p < m
                  · rw [if_pos (by omega)]; exact (if_pos hp2).symm
                  · rw [if_neg (by omega)]; exact (if_neg hp2).symm
              have HX4 := Lib.hid (HX3.out.drew.set m ((l[m]?.getD 0 + bitAt s m) % 2))
              have HB4 := Lib.hid ((HBU.out.trans (But.of_below (Below.refl _ wr).drew)).set m (.int .i64 (Int.ofNat ((l[m]?.getD 0 + bitAt s m) % 2))))
              generalize l[m]?.getD 0 = x at *
              generalize bitAt s m = y at *
              have ew : IntKind.i64.wrap (Int.ofNat x + Int.ofNat y) = Int.ofNat (x + y) := by rw [IntKind.wrap_i64]; simp only [Int.ofNat_eq_natCast]; omega
              have et : (Int.ofNat (x + y)).tmod 2 = Int.ofNat ((x + y) % 2) := by rw [Int.tmod_eq_emod_of_nonneg (by simp only [Int.ofNat_eq_natCast]; omega)]; rfl
              go_wp2_with fail
              go_region
              go_wp2_with fail
              go_roundw
              case rel => exact ⟨m + 1, by omega, by go_num, Lib.hid (HX4.out.to fun p _ => (HV.out p).symm), HB4⟩
              case measure => simp [intOf]; omega
            · obtain rfl : m = 32 := by omega
              have d1 : decide (((32 : Nat) : Int) < 32) = false := by decide
              have HF : Hid (∀ p, (if p < 32 then ((l[p]?.getD 0) + bitAt s p) % 2 else l[p]?.getD 0) = ((l[p]?.getD 0) + bitAt s p) % 2) := Lib.hid fun p => by
                split
                · rfl
                · rename_i hp
                  have hx2 : l[p]?.getD 0 < 2 := by
                    cases h : l[p]? with
                    | none => simp
                    | some b => exact HLB.out b (List.mem_of_getElem? h)
                  rw [bitAt_high (show s < 2 ^ 32 from hs) (by omega)]; omega
              obtain ⟨f, hf⟩ : ∃ f : Nat → Nat, f = fun p => ((l[p]?.getD 0) + bitAt s p) % 2 := ⟨_, rfl⟩
              have HX4 : Hid (Nums wr g (k + 32) f) := Lib.hid (HX3.out.to fun p _ => by rw [hf]; exact HF.out p)
              have hf2 : ∀ p, f p < 2 := fun p => by rw [hf]; exact Nat.mod_lt _ (by decide)
              have HFQ : Hid (f = fun p => ((l[p]?.getD 0) + bitAt s p) % 2) := Lib.hid hf
              have HF2 := Lib.hid hf2
              clear HX3 hf hf2 HF d1 HLL HQ HXw
              go_wp2_with (go_at_call 252; (with_reducible refine (divisor72 _).mono ?_); rintro e w2 ⟨v2, rfl, hb2, ho2⟩; have HB2 := Lib.hid hb2; have HO2 := Lib.hid ho2; clear hb2 ho2)
              obtain ⟨g2, c2, rfl, hg2, hn2⟩ := own_nums HO2.out (by decide)
              have h33 : divL.length = 33 := by unfold divL; rw [List.length_cons, bitsOf_length]
              rw [h33] at hn2 ⊢
              have HD : Hid (Nums w2 g2 33 dv) := Lib.hid (hn2.to fun p hp => divL_get p hp)
              have hgw := HX4.out.lt
              have HXw : Hid (Nums w2 g (k + 32) f) := Lib.hid (HX4.out.keep (HB2.out.block g hgw))
              have hne2 : g2 ≠ g := by omega
              have h2w := HD.out.lt
              have HBE2 : Hid (Below B w w2) := Lib.hid ((HBU.out.below HBE1.out HGB.out (by have := HBE1.out.size; have := HB.out; omega)).trans (HB2.out.mono (by have := HBE1.out.size; have := HBU.out.size; have := HB.out; omega)))
              clear hn2 HO2 h33 HX4 HBE1 HB2 hg2 hgw HBU HS hne h1w hlt d1
              -- the division
              go_loopw [11] (fun v wr4 => ∃ i : Nat, i ≤ k ∧ v = .int .i64 i ∧ Hid (Nums wr4 g (k + 32) (strikes i f)) ∧ Hid (But g w2 wr4)) (fun v _ => k - (intOf v).toNat)
              case atStart => exact ⟨0, by omega, rfl, HXw, But.refl _ _⟩
              case round =>
                obtain ⟨i, hi, rfl, HX4, HBU⟩ := hrel
                have HFp : Hid (∀ p, strikes i f p < 2) := Lib.hid (strikes_lt f HF2.out i)
                by_cases hlt : i < k
                · have d1 : decide ((i : Int) < (k : Int)) = true := bool_yes (by omega)
                  have HFe : Hid (strikes (i + 1) f = strike i (strikes i f)) := Lib.hid rfl
                  generalize strikes i f = F at *
                  go_wp2_with fail
                  go_loopw [12] (fun v wr5 => ∃ q : Nat, q ≤ 33 ∧ (q = 0 ∨ F i = 1) ∧ v = .int .i64 q ∧ Hid (Nums wr5 g (k + 32) (part i q F)) ∧ Hid (But g w2 wr5)) (fun v _ => 33 - (intOf v).toNat)
                  case atStart => exact ⟨0, by omega, .inl rfl, rfl, by rw [part_zero]; exact HX4, HBU⟩
                  case round =>
                    clear HX4 HBU
                    obtain ⟨q, hq, hq1, rfl, HX5, HBU⟩ := hrel
                    have ca := HX5.out.cell (k := i) (by omega)
                    have j0 : (0 : Int) ≤ (i : Int) := by omega
                    have j1 : (i : Int) < (k : Int) + 32 := by omega
                    by_cases hq33 : q < 33
                    · rw [part_head i q F (by omega)] at ca
                      have d2 : decide ((q : Int) < 33) = true := bool_yes (by omega)
                      by_cases hF : F i = 1
                      · have d3 : (Int.ofNat (F i) == 1) = true := by rw [hF]; rfl
                        have cb := HX5.out.cell (k := i + 32 - q) (by omega)
                        rw [part_at i q F (by omega)] at cb
                        have cd := (HD.out.keep (HBU.out.block g2 h2w hne2)).cell (k := 32 - q) (by omega)
                        have fa := HX5.out.free (i + 32 - q)
                        have w1' : IntKind.i64.wrap ((i : Int) + 32) = (i : Int) + 32 := by rw [IntKind.wrap_i64]; omega
                        have w2' : IntKind.i64.wrap ((i : Int) + 32 - (q : Int)) = ((i + 32 - q : Nat) : Int) := by rw [IntKind.wrap_i64]; omega
                        have w3' : IntKind.i64.wrap (32 - (q : Int)) = ((32 - q : Nat) : Int) := by rw [IntKind.wrap_i64]; omega
                        have j2 : (0 : Int) ≤ ((i + 32 - q : Nat) : Int) := by omega
                        have j3 : ((i + 32 - q : Nat) : Int) < (k : Int) + 32 := by omega
                        have j4 : (0 : Int) ≤ ((32 - q : Nat) : Int) := by omega
                        have j5 : ((32 - q : Nat) : Int) < 33 := by omega
                        have hx2 := HFp.out (i + 32 - q)
                        have hy2 : dv (32 - q) < 2 := by
                          unfold dv; split
                          · omega
                          · exact bitAt_lt _ _
                        have HX6 : Hid (∀ nq, Nums ((wr.drewN nq).setCell ⟨g, i + 32 - q, none⟩ (.int .i64 (Int.ofNat ((F (i + 32 - q) + dv (32 - q)) % 2)))) g (k + 32) (part i (q + 1) F)) := Lib.hid fun nq => by
                          rw [part_next i q F (by omega) hF]; exact Nums.set (W := wr.drewN nq) (HX5.out.keep rfl) _ _
                        have HB6 : Hid (∀ nq, But g w2 ((wr.drewN nq).setCell ⟨g, i + 32 - q, none⟩ (.int .i64 (Int.ofNat ((F (i + 32 - q) + dv (32 - q)) % 2))))) := Lib.hid fun nq => (HBU.out.trans (But.of_below (w := wr) (w' := wr.drewN nq) ⟨rfl, rfl, rfl, Nat.le_refl _, fun _ _ => rfl⟩)).set _ _
                        generalize F (i + 32 - q) = x at *
                        generalize dv (32 - q) = y at *
                        have ew : IntKind.i64.wrap (Int.ofNat x + Int.ofNat y) = Int.ofNat (x + y) := by rw [IntKind.wrap_i64]; simp only [Int.ofNat_eq_natCast]; omega
                        have et : (Int.ofNat (x + y)).tmod 2 = Int.ofNat ((x + y) % 2) := by rw [Int.tmod_eq_emod_of_nonneg (by simp only [Int.ofNat_eq_natCast]; omega)]; rfl
                        go_wp2_with fail
                        refine Lo.region_quiet_last (by kernel_rfl) rfl (by kernel_rfl) (by kernel_rfl) ?_
                        simp only [List.pop_toArray, List.dropLast]
                        repeat (first | go_big_quiet_skip | (go_big_quiet_want; go_big_quiet_op; go_big_quiet_on))
                        refine wpQuiet_nil ?_
                        intro _ hw'
                        obtain ⟨nq, rfl⟩ := hw'
                        unfold Lo.ThenOp
                        simp only [List.size_toArray, List.length_cons, List.length_nil, Nat.reduceAdd, Nat.reduceSub, List.getElem_toArray, List.getElem_cons_succ, List.getElem_cons_zero]
                        go_simp
                        go_wp2_with fail
                        go_roundw
                        case rel => exact ⟨q + 1, by omega, .inr hF, by go_num, HX6.out nq, HB6.out nq⟩
                        case measure => simp [intOf]; omega
                      · have d3 : (Int.ofNat (F i) == 1) = false := by
                          have := HFp.out i
                          rw [show F i = 0 by omega]; rfl
                        obtain rfl : q = 0 := by omega
                        go_wp2_with fail
                        go_roundw
                        case rel => exact ⟨i + 1, by omega, by go_num, by rw [HFe.out, strike_no i F hF, ← part_zero i F]; exact HX5, HBU⟩
                        case measure => simp [intOf]; omega
                    · obtain rfl : q = 33 := by omega
                      have hF : F i = 1 := by omega
                      have hz : part i 33 F i = 0 := by
                        rw [part_last]; unfold strike; rw [if_pos ⟨hF, by omega, by omega⟩, hF, Nat.sub_self]; rfl
                      rw [hz] at ca
                      have HS5 : Hid (Nums wr g (k + 32) (strike i F)) := Lib.hid (by rw [← part_last]; exact HX5.out)
                      clear HX5 hz
                      go_wp2_with fail
                      go_roundw
                      case rel => exact ⟨i + 1, by omega, by go_num, by rw [HFe.out]; exact HS5, HBU⟩
                      case measure => simp [intOf]; omega
                · obtain rfl : i = k := by omega
                  have d1 : decide ((i : Int) < (i : Int)) = false := by simp
                  go_wp2_with fail
                  have hT := HFp.out
                  have HT := Lib.hid hT
                  have HRC : Hid (∀ T : Nat → Nat, T = strikes i f → ofBits 32 (fun j => T (i + j)) = crcBits s l) := Lib.hid fun T hTe => by
                    have h1 := rest_crc l HLB.out s hs f (fun p => by rw [HFQ.out])
                    rw [HN.out] at h1
                    rw [hTe]; exact h1
                  obtain ⟨T, hTe⟩ : ∃ T, T = strikes i f := ⟨_, rfl⟩
                  have HR : Hid (ofBits 32 (fun j => T (i + j)) = crcBits s l) := Lib.hid (HRC.out T hTe)
                  rw [← hTe] at HX4 HT
                  clear HRC hTe hT HFp HFQ HF2
                  obtain ⟨G, HG⟩ : ∃ G : Nat → Nat, Hid (G 0 = 0 ∧ (∀ m, m < 32 → G (m + 1) = 2 * G m + T (i + (31 - m))) ∧ (∀ m, G m < 2 ^ m) ∧ G 32 = crcBits s l) :=
                    ⟨fun m => ofBits m (fun j => T (i + 32 - m + j)), rfl, fun m h => ofBits_down T i m h, fun m => ofBits_lt m _ (fun p => HT.out _), by
                      have h1 := HR.out
                      have e : (fun j => T (i + 32 - 32 + j)) = fun j => T (i + j) := funext fun j => by rw [Nat.add_sub_cancel]
                      show ofBits 32 (fun j => T (i + 32 - 32 + j)) = _
                      rw [e]; exact h1⟩
                  clear HR
                  obtain ⟨R, hR⟩ : ∃ R, R = crcBits s l := ⟨_, rfl⟩
                  rw [← hR] at HG
                  have HRR := Lib.hid hR
                  clear hR
                  go_wp2_with fail
                  go_loop [13, 14] (fun v u => ∃ (m x : Nat), m ≤ 32 ∧ v = .int .i64 x ∧ u = .int .i64 (31 - (m : Int)) ∧ Hid (G m = x)) (fun _ u => (intOf u + 1).toNat)
                  case atStart => exact ⟨0, 0, by omega, rfl, rfl, HG.out.1⟩
                  case round =>
                    obtain ⟨m, x, hm, rfl, rfl, HE⟩ := hrel
                    have hx : x < 2 ^ m := by rw [← HE.out]; exact HG.out.2.2.1 m
                    by_cases hlt : m < 32
                    · have d2 : decide ((0 : Int) ≤ 31 - (m : Int)) = true := bool_yes (by omega)
                      have hx31 : x < 2147483648 := Nat.lt_of_lt_of_le hx (show 2 ^ m ≤ 2 ^ 31 from Nat.pow_le_pow_right (by decide) (by omega))
                      have ca := HX4.out.cell (k := i + (31 - m)) (by omega)
                      have hy := HT.out (i + (31 - m))
                      have hn : Hid (G (m + 1) = 2 * x + T (i + (31 - m))) := by
                        unfold Hid
                        rw [HG.out.2.1 m hlt, HE.out]
                      generalize T (i + (31 - m)) = y at *
                      have e0 : 31 - (m : Int) = ((31 - m : Nat) : Int) := by omega
                      have j0 : ((i : Int) + (31 - (m : Int))) = ((i + (31 - m) : Nat) : Int) := by omega
                      clear hx
                      go_wp2_with fail
                      go_round
                      case rel => exact ⟨m + 1, 2 * x + y, by omega, by go_num, by go_num, hn⟩
                      case measure => simp [intOf]; omega
                    · obtain rfl : m = 32 := by omega
                      have d2 : decide ((0 : Int) ≤ 31 - ((32 : Nat) : Int)) = false := by decide
                      have HX : Hid (x = R) := Lib.hid (by rw [← HE.out]; exact HG.out.2.2.2)
                      have hx32 : x < 4294967296 := hx
                      go_wp2_with fail
                      go_ret
                      exact ⟨by rw [← HRR.out, ← HX.out]; rfl, HBU.out.below HBE2.out HGB.out (by have := HBE2.out.size; have := HB.out; omega)⟩
end Go.Proofs.YtkdcfijebgeajaaGreat

namespace Go.Proofs.YtkdcfijebgeajaaGreat
open Go.RowKit Go.BigFrame
set_option linter.unusedVariables false
set_option linter.unusedSimpArgs false
def byteBits (f : Nat → Nat) (n : Nat) : List Nat := (List.range n).flatMap fun j => bitsOf 8 (f j)
theorem byteBits_next (f : Nat → Nat) (k : Nat) : byteBits f (k + 1) = byteBits f k ++ bitsOf 8 (f k) := by
  unfold byteBits; rw [List.range_succ, List.flatMap_append]; simp
theorem byteBits_length (f : Nat → Nat) : ∀ n, (byteBits f n).length = 8 * n
  | 0 => rfl
  | n + 1 => by rw [byteBits_next, List.length_append, byteBits_length f n, bitsOf_length]; omega
theorem bitsOf_lt : ∀ (k w b : Nat), b ∈ bitsOf k w → b < 2
  | 0, _, _, h => by simp [bitsOf] at h
  | k + 1, w, b, h => by
    rw [bitsOf] at h
    rcases List.mem_cons.1 h with rfl | h
    · exact Nat.mod_lt _ (by decide)
    · exact bitsOf_lt k _ _ h
theorem byteBits_lt (f : Nat → Nat) (n b : Nat) (h : b ∈ byteBits f n) : b < 2 := by
  obtain ⟨j, -, hj⟩ := List.mem_flatMap.1 h
  exact bitsOf_lt _ _ _ hj
set_option maxRecDepth 100000 in
set_option maxHeartbeats 8000000 in
theorem bytes47 (f : Nat → Nat) (hf : ∀ j, f j < 256) (n : Nat) (hn : n ≤ 100000) (a : Option Addr) (cap : Nat) (w : World) (h : CellsAt w.heap.size w a n fun j => .int .u8 (f j)) :
    Calls Tryz.prog 199 #[.slice a n cap] w fun e w' => e = .returned (.int .u32 ((ones - crcBits ones (byteBits f n) : Nat) : Int)) ∧ Below w.heap.size w w' := by
  obtain ⟨i3, hi, hz0, hz1, hz2⟩ := info_parts info3
  obtain ⟨B, hB⟩ : ∃ B, B = w.heap.size := ⟨_, rfl⟩
  obtain ⟨b, off, ha, hc⟩ := h
  rw [← hB] at ha ⊢
  have HB := Lib.hid hB
  have HA := Lib.hid ha
  have HC := Lib.hid hc
  have HF := Lib.hid hf
  have HQ : Hid ((8 : Int) = ((8 : Nat) : Int)) := Lib.hid rfl
  obtain ⟨LL, hLL⟩ : ∃ LL : Nat → List Nat, LL = byteBits f := ⟨_, rfl⟩
  have HS : Hid (LL 0 = [] ∧ ∀ k, LL (k + 1) = LL k ++ bitsOf 8 (f k)) := Lib.hid (by rw [hLL]; exact ⟨rfl, byteBits_next f⟩)
  have HE := Lib.hid hLL
  clear ha hc hB hf hLL
  go_enter Tryz.func199, Tryz.ntmps199
  go_wp2_with fail
  go_loopw [3, 4] (fun v i wr => ∃ k : Nat, k ≤ n ∧ i = .int .i64 k ∧ Hid (wr.ownsRow B 3 1 v (8 * k) (intsL (LL k))) ∧ Hid (Below B w wr)) (fun _ i _ => n - (intOf i).toNat)
  case atStart => exact ⟨0, by omega, rfl, by rw [HS.out.1]; exact World.ownsRow_nil _ _ _ _, by rw [HB.out]; exact Below.refl _ _⟩
  case round =>
    obtain ⟨k, hk, rfl, HO, HBE⟩ := hrel
    have hBw : B ≤ wr.heap.size := by have := HBE.out.size; have := HB.out; omega
    by_cases hlt : k < n
    · have d1 : decide ((k : Int) < (n : Int)) = true := bool_yes (by omega)
      obtain ⟨rfl, hb⟩ := HA.out (by omega)
      have e1 : wr.cell? ⟨b, off + k, none⟩ = some (.int .u8 (f k)) := by rw [HBE.out.cell (p := ⟨b, off + k, none⟩) hb, HC.out k hlt]
      have hfk := HF.out k
      have HSk := Lib.hid (HS.out.2 k)
      generalize f k = x at *
      go_wp2_with (go_at_call 234; (with_reducible refine (bits59' _ _ x 8 rfl HQ.out (by omega) (by decide) _).mono ?_); rintro e w1 ⟨v1, rfl, hb1, ho1⟩; have HB1 := Lib.hid hb1; have HO1 := Lib.hid ho1; clear hb1 ho1)
      obtain ⟨g1, c1, rfl, hg1, hn1⟩ := own_nums HO1.out (by rw [bitsOf_length]; decide)
      have HL8 : Hid ((bitsOf 8 x).length = 8) := Lib.hid (bitsOf_length _ _)
      rw [HL8.out] at hn1 ⊢
      have HN1 := Lib.hid hn1
      have h1w := hn1.lt
      have HBw1 : Hid (wr.heap.size ≤ w1.heap.size) := Lib.hid HB1.out.size
      have HO2 : Hid (w1.ownsRow B 3 1 u3 (8 * k) (intsL (LL k))) := Lib.hid (own_keep1 HO.out fun q hq => HB1.out.block q (own_lt HO.out hq).2)
      have HNE : Hid (u3.ownBlock ≠ some g1) := Lib.hid fun e => by have := (own_lt HO.out e).2; omega
      have HBE1 : Hid (Below B w w1) := Lib.hid (HBE.out.trans (HB1.out.mono hBw))
      clear hn1 HO1 HO HBE HB1
      obtain ⟨bl, hbl⟩ : ∃ bl, bl = bitsOf 8 x := ⟨_, rfl⟩
      rw [← hbl] at HSk HL8 HN1
      have HT : Hid (∀ m, m < 8 → bl.take (m + 1) = bl.take m ++ [bl[m]?.getD 0]) := Lib.hid fun m hm => by
        rw [List.take_add_one, List.getElem?_eq_getElem (by rw [HL8.out]; exact hm)]; rfl
      have HT8 : Hid (bl.take 8 = bl) := Lib.hid (List.take_of_length_le (by rw [HL8.out]; exact Nat.le_refl _))
      clear hbl hfk e1
      go_wp2_with fail
      go_loopw [3, 6] (fun v i wr => ∃ m : Nat, m ≤ 8 ∧ i = .int .i64 m ∧ Hid (wr.ownsRow B 3 1 v (8 * k + m) (intsL (LL k ++ bl.take m))) ∧ Hid (Below B w wr) ∧ Hid (v.ownBlock ≠ some g1) ∧ Hid (wr.heap[g1]? = w1.heap[g1]?)) (fun _ i _ => 8 - (intOf i).toNat)
      case atStart => exact ⟨0, by omega, rfl, by simp only [List.take_zero, List.append_nil, Nat.add_zero]; exact HO2, HBE1, HNE, rfl⟩
      case round =>
        clear HO2 HBE1 HNE hBw
        obtain ⟨m, hm, rfl, HO, HBE, HNE, HK⟩ := hrel
        have hBw : B ≤ wr.heap.size := by have := HBE.out.size; have := HB.out; omega
        have q1 : 8 * k + m + 1 ≤ maxLen := by unfold maxLen; omega
        have q2 : (8 * k + m + 1) * 8 ≤ 140737488355328 := by omega
        obtain ⟨va, vc, rfl⟩ := own_slice_n HO.out
        by_cases hlt8 : m < 8
        · have d2 : decide ((m : Int) < 8) = true := bool_yes (by omega)
          have HN2 := Lib.hid (HN1.out.keep HK.out)
          have e2 := HN2.out.cell hlt8
          have HL : Hid (g1 < wr.heap.size) := Lib.hid HN2.out.lt
          have HTm := Lib.hid (HT.out m hlt8)
          generalize bl[m]?.getD 0 = y at *
          go_wp2_with (at_builtin; refine Lo.wpList_push_at rfl (.tmp 23) (.tmp 28) 135 rfl B 3 3 i3 (.int .i64 0) 1 8 Tryz.underlying135 hi hz0 hz1 hz2 rfl (by decide) wr hBw (.slice va (8 * k + m) vc) (8 * k + m) (intsL (LL k ++ bl.take m)) rfl HO.out #[.int .i64 (Int.ofNat y)] 1 1 rfl rfl (by simp [Value.oneCell']) q1 q2 ?_; intro v' w' ho' hg' hb' hn'; have HO' := Lib.hid ho'; have HG' := Lib.hid hg'; have HNN := Lib.hid hn'; have HB' := Lib.hid (hb' _ _ HBE.out (Nat.le_refl _)); clear ho' hg' hb' hn')
          go_wp2_with fail
          go_roundw
          case rel => exact ⟨m + 1, by omega, by go_num, Lib.hid (by rw [HTm.out, ← List.append_assoc, intsL_append]; exact HO'.out), HB', Lib.hid (fun e => by rcases HNN.out with h | h <;> rw [h] at e; exact HNE.out e; have := HL.out; cases e; omega), Lib.hid ((HG'.out.block g1 HL.out (Ne.symm HNE.out)).trans HK.out)⟩
          case measure => simp [intOf]; omega
        · obtain rfl : m = 8 := by omega
          go_wp2_with fail
          go_roundw
          case rel => exact ⟨k + 1, by omega, by go_num, Lib.hid (by rw [HSk.out]; have := HO.out; rw [HT8.out] at this; exact this), HBE⟩
          case measure => simp [intOf]; omega
    · obtain rfl : k = n := by omega
      have d1 : decide ((k : Int) < (k : Int)) = false := by simp
      obtain ⟨va, vc, rfl⟩ := own_slice_n HO.out
      obtain ⟨a', c', hv, hat⟩ := own_at HO.out
      obtain ⟨rfl, rfl⟩ : va = a' ∧ vc = c' := by cases hv; exact ⟨rfl, rfl⟩
      have HLn : Hid ((LL k).length = 8 * k) := Lib.hid (by rw [HE.out]; exact byteBits_length f k)
      have HLt : Hid (∀ b ∈ LL k, b < 2) := Lib.hid (by rw [HE.out]; exact byteBits_lt f k)
      have HX := Lib.hid hat
      obtain ⟨R, hR⟩ : ∃ R, R = crcBits ones (LL k) := ⟨_, rfl⟩
      have HR := Lib.hid hR
      have hRl : R < 4294967296 := by rw [hR]; exact crcBits_lt _ _ (by decide)
      have HM : Hid (∀ (z : Int), z = 4294967295 → Calls Tryz.prog 235 #[.int .u32 z, .slice va (8 * k) vc] wr fun e w' => e = .returned (.int .u32 R) ∧ Below wr.heap.size wr w') := Lib.hid fun z hz => by
        subst hz; rw [hR]
        exact rest60 ones (by decide) (LL k) HLt.out (8 * k) HLn.out (by omega) va vc wr HX.out
      clear hv hat hR HX
      go_wp2_with (go_at_call 235; (with_reducible refine (HM.out _ (by rfl)).mono ?_); rintro e w2 ⟨rfl, hb2⟩; have HB2 := Lib.hid hb2; clear hb2)
      go_ret
      refine ⟨?_, HBE.out.trans (HB2.out.mono (by have := HBE.out.size; have := HB.out; omega))⟩
      rw [← HE.out, ← HR.out]
      exact congrArg (fun z => Ending.returned (Value.int .u32 z)) (by unfold ones; rw [show (4294967295 - R : Nat) = 4294967295 - R from rfl]; omega)
end Go.Proofs.YtkdcfijebgeajaaGreat

namespace Go.Proofs.YtkdcfijebgeajaaGreat
open Go.RowKit Go.BigFrame
set_option linter.unusedVariables false
set_option linter.unusedSimpArgs false
def valsL (g : Nat → Value) (n : Nat) : List Value := (List.range n).map g
theorem valsL_next (g : Nat → Value) (n : Nat) : valsL g (n + 1) = valsL g n ++ [g n] := by simp [valsL, List.range_succ]
theorem valsL_get (g : Nat → Value) (n j : Nat) (h : j < n) : (valsL g n)[j]?.getD undef = g j := by
  unfold valsL; rw [List.getElem?_map, List.getElem?_range h]; rfl
def byteAt (f : Nat → Nat) (j : Nat) : Nat := f (j / 8) / 256 ^ (j % 8) % 256
theorem byteAt_at (f : Nat → Nat) (k q : Nat) (h : q < 8) : byteAt f (8 * k + q) = f k / 256 ^ q % 256 := by
  unfold byteAt; rw [show (8 * k + q) / 8 = k by omega, show (8 * k + q) % 8 = q by omega]
theorem word_bits (x : Nat) : bitsOf 64 x = bitsOf 8 (x / 256 ^ 0 % 256) ++ bitsOf 8 (x / 256 ^ 1 % 256) ++ bitsOf 8 (x / 256 ^ 2 % 256) ++ bitsOf 8 (x / 256 ^ 3 % 256) ++ bitsOf 8 (x / 256 ^ 4 % 256) ++ bitsOf 8 (x / 256 ^ 5 % 256) ++ bitsOf 8 (x / 256 ^ 6 % 256) ++ bitsOf 8 (x / 256 ^ 7 % 256) := by
  have e : ∀ q, bitsOf 8 (x / 256 ^ q % 256) = bitsOf 8 (x / 2 ^ (8 * q)) := fun q => by
    rw [show bitsOf 8 (x / 256 ^ q % 256) = bitsOf 8 (x / 256 ^ q) from bitsOf_mod 8 _, show (256 : Nat) = 2 ^ 8 from rfl, ← Nat.pow_mul]
  rw [e, e, e, e, e, e, e, e]
  have s : ∀ a, bitsOf (8 + a) x = bitsOf 8 x ++ bitsOf a (x / 2 ^ 8) := fun a => bitsOf_append 8 a x
  have g : ∀ a b, bitsOf (a + b) x = bitsOf a x ++ bitsOf b (x / 2 ^ a) := fun a b => bitsOf_append a b x
  rw [show 64 = 56 + 8 from rfl, g, show 56 = 48 + 8 from rfl, g, show 48 = 40 + 8 from rfl, g, show 40 = 32 + 8 from rfl, g, show 32 = 24 + 8 from rfl, g, show 24 = 16 + 8 from rfl, g, show 16 = 8 + 8 from rfl, g]
  simp
theorem byteBits_words (f : Nat → Nat) : ∀ n, byteBits (byteAt f) (8 * n) = (List.range n).flatMap fun j => bitsOf 64 (f j)
  | 0 => rfl
  | n + 1 => by
    rw [bitsAll_next, ← byteBits_words f n, show 8 * (n + 1) = 8 * n + 7 + 1 by omega]
    rw [byteBits_next, byteBits_next, byteBits_next, byteBits_next, byteBits_next, byteBits_next, byteBits_next, byteBits_next, word_bits]
    rw [byteAt_at f n 7 (by omega), byteAt_at f n 6 (by omega), byteAt_at f n 5 (by omega), byteAt_at f n 4 (by omega), byteAt_at f n 3 (by omega), byteAt_at f n 2 (by omega), byteAt_at f n 1 (by omega)]
    rw [show byteAt f (8 * n) = f n / 256 ^ 0 % 256 from byteAt_at f n 0 (by omega)]
    simp only [List.append_assoc]
theorem byteAt_lt (f : Nat → Nat) (j : Nat) : byteAt f j < 256 := Nat.mod_lt _ (by decide)
set_option maxRecDepth 100000 in
set_option maxHeartbeats 8000000 in
theorem words31 (f : Nat → Nat) (hf : ∀ j, f j < 18446744073709551616) (n : Nat) (hn : n ≤ 10000) (a : Option Addr) (cap : Nat) (w : World) (h : WordsN w.heap.size w a n f) :
    Calls Tryz.prog 149 #[.slice a n cap] w fun e w' => e = .returned (.int .u32 (sumW f n)) ∧ Below w.heap.size w w' := by
  obtain ⟨i5, hi, hz0, hz1, hz2⟩ := info_parts info5
  obtain ⟨B, hB⟩ : ∃ B, B = w.heap.size := ⟨_, rfl⟩
  obtain ⟨b, off, ha, hc⟩ := h
  rw [← hB] at ha ⊢
  have HB := Lib.hid hB
  have HA := Lib.hid ha
  have HC := Lib.hid hc
  have HF := Lib.hid hf
  obtain ⟨fb, hfb⟩ : ∃ fb, fb = byteAt f := ⟨_, rfl⟩
  have HFB : Hid (∀ k q, q < 8 → fb (8 * k + q) = f k / 256 ^ q % 256) := Lib.hid (by rw [hfb]; exact byteAt_at f)
  obtain ⟨g, hg⟩ : ∃ g : Nat → Value, g = fun j => .int .u8 (Int.ofNat (fb j)) := ⟨_, rfl⟩
  have HG : Hid (∀ j, g j = .int .u8 (Int.ofNat (fb j))) := Lib.hid fun j => by rw [hg]
  have HE := Lib.hid (And.intro hfb hg)
  clear ha hc hB hf hfb hg
  go_enter Tryz.func149, Tryz.ntmps149
  go_wp2_with fail
  go_loopw [3, 4] (fun v i wr => ∃ k : Nat, k ≤ n ∧ i = .int .i64 k ∧ Hid (wr.ownsRow B 5 1 v (8 * k) (valsL g (8 * k))) ∧ Hid (Below B w wr)) (fun _ i _ => n - (intOf i).toNat)
  case atStart => exact ⟨0, by omega, rfl, World.ownsRow_nil _ _ _ _, by rw [HB.out]; exact Below.refl _ _⟩
  case round =>
    obtain ⟨k, hk, rfl, HO, HBE⟩ := hrel
    by_cases hlt : k < n
    · have d1 : decide ((k : Int) < (n : Int)) = true := bool_yes (by omega)
      obtain ⟨rfl, hb⟩ := HA.out (by omega)
      have e1 : wr.cell? ⟨b, off + k, none⟩ = some (.int .u64 (f k)) := by rw [HBE.out.cell (p := ⟨b, off + k, none⟩) hb, HC.out k hlt]
      have hfk := HF.out k
      have HFk : Hid (∀ q, q < 8 → fb (8 * k + q) = f k / 256 ^ q % 256) := Lib.hid (HFB.out k)
      generalize f k = x at *
      go_wp2_with fail
      clear e1
      go_loopw [3, 5, 6] (fun v y i wr => ∃ (m z : Nat), m ≤ 8 ∧ z < 18446744073709551616 ∧ i = .int .i64 m ∧ y = .int .u64 z ∧ Hid (z = x / 256 ^ m) ∧ Hid (wr.ownsRow B 5 1 v (8 * k + m) (valsL g (8 * k + m))) ∧ Hid (Below B w wr)) (fun _ _ i _ => 8 - (intOf i).toNat)
      case atStart => exact ⟨0, x, by omega, hfk, rfl, rfl, by simp [Hid], HO, HBE⟩
      case round =>
        clear HO HBE
        obtain ⟨m, z, hm, hz, rfl, rfl, HZ, HO, HBE⟩ := hrel
        have hBw : B ≤ wr.heap.size := by have := HBE.out.size; have := HB.out; omega
        have q1 : 8 * k + m + 1 ≤ maxLen := by unfold maxLen; omega
        have q2 : (8 * k + m + 1) * 1 ≤ 140737488355328 := by omega
        obtain ⟨va, vc, rfl⟩ := own_slice_n HO.out
        by_cases hlt8 : m < 8
        · have d2 : decide ((m : Int) < 8) = true := bool_yes (by omega)
          have HY : Hid (g (8 * k + m) = .int .u8 ((z : Int) % 256)) := Lib.hid (by rw [HG.out, HFk.out m hlt8, ← HZ.out]; rfl)
          have HZ' : Hid (z / 256 = x / 256 ^ (m + 1)) := Lib.hid (by rw [HZ.out, Nat.div_div_eq_div_mul, Nat.pow_succ])
          go_wp2_with (at_builtin; refine wpList_push rfl (.tmp 21) (.tmp 25) 166 rfl B 5 i5 (.int .u8 0) 1 1 Tryz.underlying166 hi hz0 hz1 hz2 rfl (by decide) wr hBw (.slice va (8 * k + m) vc) (8 * k + m) (valsL g (8 * k + m)) rfl HO.out #[.int .u8 ((z : Int) % 256)] 1 1 rfl rfl (by simp [Value.oneCell']) q1 q2 ?_; intro v' w' ho' hg' hb' hn'; have HO' := Lib.hid ho'; have HB' := Lib.hid (hb' _ _ HBE.out (Nat.le_refl _)); clear ho' hg' hb' hn')
          go_wp2_with fail
          go_roundw
          case rel => exact ⟨m + 1, z / 256, by omega, by omega, by go_num, by go_num, HZ', Lib.hid (by rw [← Nat.add_assoc, valsL_next, HY.out]; exact HO'.out), HB'⟩
          case measure => simp [intOf]; omega
        · obtain rfl : m = 8 := by omega
          go_wp2_with fail
          go_roundw
          case rel => exact ⟨k + 1, by omega, by go_num, HO, HBE⟩
          case measure => simp [intOf]; omega
    · obtain rfl : k = n := by omega
      have d1 : decide ((k : Int) < (k : Int)) = false := by simp
      obtain ⟨va, vc, rfl⟩ := own_slice_n HO.out
      obtain ⟨a', c', hv, hat⟩ := own_at HO.out
      obtain ⟨rfl, rfl⟩ : va = a' ∧ vc = c' := by cases hv; exact ⟨rfl, rfl⟩
      have HM : Hid (Calls Tryz.prog 199 #[.slice va (8 * k) vc] wr fun e w' => e = .returned (.int .u32 (sumW f k)) ∧ Below wr.heap.size wr w') := Lib.hid (by
        have h1 : CellsAt wr.heap.size wr va (8 * k) fun j => .int .u8 (fb j) := by
          obtain ⟨b', o', h1, h2⟩ := hat
          exact ⟨b', o', h1, fun j hj => by rw [h2 j hj]; show some ((valsL g (8 * k))[j]?.getD undef) = _; rw [valsL_get g _ j hj, HG.out]; rfl⟩
        have h2 := bytes47 fb (by rw [HE.out.1]; exact byteAt_lt f) (8 * k) (by omega) va vc wr h1
        have h3 : ones - crcBits ones (byteBits fb (8 * k)) = sumW f k := by rw [HE.out.1, byteBits_words]; rfl
        rw [h3] at h2; exact h2)
      clear hv hat
      go_wp2_with (go_at_call 199; (with_reducible refine HM.out.mono ?_); rintro e w2 ⟨rfl, hb2⟩; have HB2 := Lib.hid hb2; clear hb2)
      go_ret
      exact ⟨rfl, HBE.out.trans (HB2.out.mono (by have := HBE.out.size; have := HB.out; omega))⟩
end Go.Proofs.YtkdcfijebgeajaaGreat

namespace Go.Proofs.YtkdcfijebgeajaaGreat
set_option linter.unusedVariables false
def lo (x : Nat) : Nat := x % 4294967296
def hi (x : Nat) : Nat := x / 4294967296 % 128
def rightL (S T x : Nat) : Prop := x % 9223372036854775808 = lo x + hi x * 4294967296 ∧ lo x ≤ S ∧ hi x ≤ T
structure Gd where
  S : Nat
  T : Nat
  B : Nat
  at_ : Nat
  heads : List Nat
  bucket : Nat → Nat
  w : Nat → Nat
def whole (g : Gd) (x : Nat) : Prop := rightL g.S g.T x ∧ lo x = 0
end Go.Proofs.YtkdcfijebgeajaaGreat

namespace Go.Proofs.YtkdcfijebgeajaaGreat
open Go.RowKit Go.BigFrame
set_option linter.unusedVariables false
set_option linter.unusedSimpArgs false
theorem wrap_small (x : Int) (h0 : -1000000000 ≤ x) (h1 : x ≤ 1000000000) : wrap64 x = x := by unfold wrap64; omega
end Go.Proofs.YtkdcfijebgeajaaGreat
