/- Walk of the reader's access (layer 37; the ways printed by e9.py). -/
import Derived.Test.YtfjddkjfkgdihaaE9
import Derived.Deep.CutRange
namespace Go.Proofs.Ytfjddkjfkgdihaa
open Go.RowKit Go.BigFrame
set_option linter.unusedVariables false
set_option linter.unusedSimpArgs false

set_option maxRecDepth 100000 in
set_option maxHeartbeats 4000000 in
theorem access_2f (B p f : Nat) (hf : f < 256) (hk : f % 8 = 2) (hd : decide ((f / 8) % 2 = 1) = false) (M1 : List Int) (last : Int) (l0 : -1073741824 ≤ last) (l1 : last ≤ 1073741824) (a : Option Addr) (len cap : Nat) (w : World) (h : RdrAt w B p ((f : Int) :: M1) last a len cap) :
    Calls Try.prog 72 #[.pointer (some ⟨p, 0, none⟩)] w (AccTo B p ((f : Int) :: M1) last w) := by
  have h7 := and7 ⟨f, hf⟩
  have h8 := and8 ⟨f, hf⟩
  simp only [hk] at h7
  have hd' : ((f / 8) % 2 = 1) = False := by simpa using hd
  simp only [hd', if_true, if_false] at h8
  have HK := Lib.hid hk
  have HD := Lib.hid hd
  clear hd hd' hk
  have HFF := Lib.hid hf; clear hf
  obtain ⟨q2, hq2⟩ : ∃ q2, q2 = w.heap.size := ⟨_, rfl⟩
  obtain ⟨W0, hW0⟩ : ∃ W0, W0 = w.alloc (.cells #[.int .i64 0, .int .i64 0, .int .i64 0, .int .u64 0, .int .u64 0, .bool false] 50) := ⟨_, rfl⟩
  have HQ2 : Hid (W0.heap[q2]? = some (.cells #[.int .i64 0, .int .i64 0, .int .i64 0, .int .u64 0, .int .u64 0, .bool false] 50 (0, 0))) := Lib.hid (by rw [hW0, hq2, heap_alloc_new])
  have HR0 : Hid (RdrAt W0 B p ((f : Int) :: M1) last a len cap) := Lib.hid (by rw [hW0]; exact h.alloc _)
  have HU0 : Hid (But p p w W0) := Lib.hid (by rw [hW0]; exact (But.refl p p w).alloc _)
  have hpq : p < q2 := by rw [hq2]; exact h.lt
  have HPQ := Lib.hid hpq
  have HQW := Lib.hid hq2
  have HW0 := Lib.hid hW0
  have HBY := Lib.hid (byte_yes B p f M1 last a len cap W0 HR0.out)
  clear h hpq hW0 hq2
  go_enter Try.func72, Try.ntmps72
  go_wp2_with fail
  rw [← HW0.out, ← HQW.out]
  with_reducible refine HBY.out.mono ?_
  rintro e w1 ⟨rfl, hb1, a1, n1, c1, hr1⟩
  have HU1 := Lib.hid (HU0.out.trans hb1)
  have HQ21 := Lib.hid (hb1.cells HQ2.out HPQ.out)
  have HR1 := Lib.hid hr1
  clear hb1 hr1 HBY
  by_cases hT : ∃ th M2, th < 64 ∧ M1 = numB th ++ M2
  rotate_left
  · have HNO : Hid (∀ x r, AccD.good x → (f : Int) :: M1 ≠ x.enc last ++ r) := Lib.hid fun x r hg e => by
      obtain ⟨-, -, -, h4, h5⟩ := acc_l1 hg e
      exact hT ⟨_, _, h4, h5⟩
    have HC : Hid (Calls Try.prog 71 #[.pointer (some ⟨p, 0, none⟩), .int .u64 64] w1 (Falls p w1)) := Lib.hid (below_no B p 64 (by decide) M1 last a1 n1 c1 w1 HR1.out (fun th M2 h e => hT ⟨th, M2, h, e⟩))
    clear hT
    go_wp2_with fail
    with_reducible refine HC.out.mono ?_
    rintro e w2 ⟨rfl, hb2⟩
    exact ⟨rfl, AccTo.no (HU1.out.trans hb2) HNO.out⟩
  obtain ⟨th, M2, hth, rfl⟩ := hT
  have HC2 : Hid (Calls Try.prog 71 #[.pointer (some ⟨p, 0, none⟩), .int .u64 64] w1 (BelowTo B p th M2 last w1)) := Lib.hid (below_yes B p th 64 hth (by decide) M2 last a1 n1 c1 w1 HR1.out)
  go_wp2_with fail
  with_reducible refine HC2.out.mono ?_
  rintro e w2 ⟨rfl, hb2, a2, n2, c2, hr2⟩
  obtain ⟨q4, hq4⟩ : ∃ q4, q4 = w2.heap.size := ⟨_, rfl⟩
  obtain ⟨W2, hW2⟩ : ∃ W2, W2 = w2.alloc (.cells #[.int .i64 2, .int .i64 (th : Int), .int .i64 0, .int .u64 0, .int .u64 0, .bool false] 50) := ⟨_, rfl⟩
  have HQ4 : Hid (W2.heap[q4]? = some (.cells #[.int .i64 2, .int .i64 (th : Int), .int .i64 0, .int .u64 0, .int .u64 0, .bool false] 50 (0, 0))) := Lib.hid (by rw [hW2, hq4, heap_alloc_new])
  have hq24 : q2 < q4 := by rw [hq4]; exact Nat.lt_of_lt_of_le (Array.getElem?_eq_some_iff.1 HQ21.out).1 hb2.size
  have HQ24 := Lib.hid hq24
  have HQ2a : Hid (W2.heap[q2]? = some (.cells #[.int .i64 0, .int .i64 0, .int .i64 0, .int .u64 0, .int .u64 0, .bool false] 50 (0, 0))) := Lib.hid (by rw [hW2, Below.heap_alloc _ _ _ (by rw [← hq4]; exact hq24)]; exact hb2.cells HQ21.out HPQ.out)
  have HRa : Hid (RdrAt W2 B p M2 last a2 n2 c2) := Lib.hid (by rw [hW2]; exact hr2.alloc _)
  have HUa : Hid (But p p w W2) := Lib.hid (by rw [hW2]; exact (HU1.out.trans hb2).alloc _)
  have HWQ : Hid (w.heap.size ≤ q4) := Lib.hid (by rw [hq4]; exact (HU1.out.trans hb2).size)
  have HP4 : Hid (p < q4) := Lib.hid (Nat.lt_trans HPQ.out hq24)
  have HW2 := Lib.hid hW2
  have HQ4W := Lib.hid hq4
  clear hb2 hr2 hW2 hq4 HC2
  obtain ⟨d0, d1, d2, d3, d4, d5⟩ := acc_cells' HQ4.out
  have zz := free_of HQ4.out
  have hne1 : q2 ≠ q4 := by omega
  have hne2 : q4 ≠ q2 := by omega
  by_cases hP : ∃ n M3, n ≤ 4294967296 ∧ M2 = numB n ++ M3
  rotate_left
  · have HNO : Hid (∀ x r, AccD.good x → (f : Int) :: (numB th ++ M2) ≠ x.enc last ++ r) := Lib.hid fun x r hg e => by
      obtain ⟨y1, y2, y3, y4, y5⟩ := acc_l1 hg e
      rw [HK.out] at y1
      rw [HD.out] at y2
      obtain ⟨z1, z2⟩ := acc_th hg y5
      obtain ⟨n, g1, g2, g3⟩ := acc_pl l0 l1 hg (by omega) z2
      exact hP ⟨n, _, g1, g2⟩
    have HC := Lib.hid (place_no B p M2 last a2 n2 c2 W2 HRa.out (fun n M3 h e => hP ⟨n, M3, h, e⟩))
    clear hP
    go_upto_region 3 with fail
    rw [← HW2.out, ← HQ4W.out]
    go_wp2_with fail
    with_reducible refine HC.out.mono ?_
    rintro e w3 ⟨rfl, hb3⟩
    exact ⟨rfl, AccTo.no (HUa.out.trans hb3) HNO.out⟩
  obtain ⟨n, M3, hn, rfl⟩ := hP
  obtain ⟨u0, u1⟩ := uns_bd n hn
  have HC3 := Lib.hid (place_yes B p n hn M3 last l0 l1 a2 n2 c2 W2 HRa.out)
  obtain ⟨pl, hpl⟩ : ∃ pl, pl = last + uns n := ⟨_, rfl⟩
  rw [← hpl] at HC3
  have HPL := Lib.hid hpl
  have hpl0 : -3300000000 ≤ pl := by omega
  have hpl1 : pl ≤ 3300000000 := by omega
  clear hpl u0 u1 hn
  go_upto_region 3 with fail
  rw [← HW2.out, ← HQ4W.out]
  go_wp2_with fail
  with_reducible refine HC3.out.mono ?_
  rintro e w3 ⟨rfl, hb3, a3, n3, c3, hr3⟩
  have HQ4b := Lib.hid (hb3.cells HQ4.out HP4.out)
  have HQ2b := Lib.hid (hb3.cells HQ2a.out HPQ.out)
  have HUb := Lib.hid (HUa.out.trans hb3)
  have HRb := Lib.hid hr3
  clear hb3 hr3 d0 d1 d2 d3 d4 d5 zz HC3
  obtain ⟨d0, d1, d2, d3, d4, d5⟩ := acc_cells' HQ4b.out
  have zz := free_of HQ4b.out
  obtain ⟨W3, hW3⟩ : ∃ W3, W3 = w3.setCell ⟨q4, 2, none⟩ (.int .i64 pl) := ⟨_, rfl⟩
  have HQ4c : Hid (W3.heap[q4]? = some (.cells #[.int .i64 2, .int .i64 (th : Int), .int .i64 pl, .int .u64 0, .int .u64 0, .bool false] 50 (0, 0))) := Lib.hid (by rw [hW3, heap_set _ HQ4b.out]; rfl)
  have HQ2c : Hid (W3.heap[q2]? = some (.cells #[.int .i64 0, .int .i64 0, .int .i64 0, .int .u64 0, .int .u64 0, .bool false] 50 (0, 0))) := Lib.hid (by rw [hW3, heap_setCell_ne _ _ _ _ hne1]; exact HQ2b.out)
  have HRc : Hid (RdrAt W3 B p M3 pl a3 n3 c3) := Lib.hid (by rw [hW3]; exact HRb.out.setOther HP4.out _ _)
  have HUc : Hid (But p p w W3) := Lib.hid (by rw [hW3]; exact HUb.out.setNew HWQ.out _ _)
  have HW3 := Lib.hid hW3; clear hW3
  go_upto_region 5 with fail
  rw [← HW3.out]
  clear d0 d1 d2 d3 d4 d5 zz
  obtain ⟨d0, d1, d2, d3, d4, d5⟩ := acc_cells' HQ4c.out
  have zz := free_of HQ4c.out
  have HO := Lib.hid fun w => olds_any 2 w
  have HNW := Lib.hid fun w => news_any 2 w
  rw [show AccD.oldsB 2 = true from by decide] at HO
  rw [show AccD.newsB 2 = true from by decide] at HNW
  go_wp2_with fail
  refine (HO.out _).mono ?_
  rintro e w' ⟨rfl, rfl⟩
  by_cases hO : ∃ ol M4, ol < 18446744073709551616 ∧ M3 = numB ol ++ M4
  rotate_left
  · have HNO : Hid (∀ x r, AccD.good x → (f : Int) :: (numB th ++ (numB n ++ M3)) ≠ x.enc last ++ r) := Lib.hid fun x r hg e => by
      obtain ⟨y1, y2, y3, y4, y5⟩ := acc_l1 hg e
      rw [HK.out] at y1
      rw [HD.out] at y2
      obtain ⟨z1, z2⟩ := acc_th hg y5
      obtain ⟨n', g1, g2, g3⟩ := acc_pl l0 l1 hg (by omega) z2
      obtain ⟨g4, z3⟩ := numB_pre _ _ _ _ g2
      have g5 : x.pl = pl := by rw [g3, ← g4, HPL.out]
      obtain ⟨k, g6, g7, g8⟩ := acc_ol hg (by omega) z3
      exact hO ⟨k, _, g6, g7⟩
    have HC := Lib.hid (rnum_no B p M3 pl a3 n3 c3 W3 HRc.out (fun n M h e => hO ⟨n, M, h, e⟩))
    clear hO
    go_wp2_with fail
    with_reducible refine HC.out.mono ?_
    rintro e w4 ⟨rfl, hb4⟩
    exact ⟨rfl, AccTo.no (HUc.out.trans hb4) HNO.out⟩
  obtain ⟨ol, M4, hnO, rfl⟩ := hO
  have HCO := Lib.hid (rnum_yes B p ol hnO M4 pl a3 n3 c3 W3 HRc.out)
  have HNO := Lib.hid hnO; clear hnO
  go_wp2_with fail
  with_reducible refine HCO.out.mono ?_
  rintro e w4 ⟨rfl, hb, aW4, nW4, cW4, hr⟩
  have HQ4d := Lib.hid (hb.cells HQ4c.out HP4.out)
  have HQ2d := Lib.hid (hb.cells HQ2c.out HPQ.out)
  have HUd := Lib.hid (HUc.out.trans hb)
  have HRd := Lib.hid hr
  clear hb hr d0 d1 d2 d3 d4 d5 zz HCO
  obtain ⟨d0, d1, d2, d3, d4, d5⟩ := acc_cells' HQ4d.out
  have zz := free_of HQ4d.out
  obtain ⟨W4, hW4⟩ : ∃ W, W = w4.setCell ⟨q4, 3, none⟩ (.int .u64 (ol : Int)) := ⟨_, rfl⟩
  have HQ4e : Hid (W4.heap[q4]? = some (.cells #[.int .i64 2, .int .i64 (th : Int), .int .i64 pl, .int .u64 (ol : Int), .int .u64 0, .bool false] 50 (0, 0))) := Lib.hid (by rw [hW4, heap_set _ HQ4d.out]; rfl)
  have HQ2e : Hid (W4.heap[q2]? = some (.cells #[.int .i64 0, .int .i64 0, .int .i64 0, .int .u64 0, .int .u64 0, .bool false] 50 (0, 0))) := Lib.hid (by rw [hW4, heap_setCell_ne _ _ _ _ hne1]; exact HQ2d.out)
  have HRe : Hid (RdrAt W4 B p M4 pl aW4 nW4 cW4) := Lib.hid (by rw [hW4]; exact HRd.out.setOther HP4.out _ _)
  have HUe : Hid (But p p w W4) := Lib.hid (by rw [hW4]; exact HUd.out.setNew HWQ.out _ _)
  have HW4 := Lib.hid hW4; clear hW4
  go_upto_region 7 with fail
  rw [← HW4.out]
  clear d0 d1 d2 d3 d4 d5 zz
  obtain ⟨d0, d1, d2, d3, d4, d5⟩ := acc_cells' HQ4e.out
  have zz := free_of HQ4e.out
  go_wp2_with fail
  refine (HNW.out _).mono ?_
  rintro e w' ⟨rfl, rfl⟩
  by_cases hN : ∃ ne M5, ne < 18446744073709551616 ∧ M4 = numB ne ++ M5
  rotate_left
  · have HNO : Hid (∀ x r, AccD.good x → (f : Int) :: (numB th ++ (numB n ++ (numB ol ++ M4))) ≠ x.enc last ++ r) := Lib.hid fun x r hg e => by
      obtain ⟨y1, y2, y3, y4, y5⟩ := acc_l1 hg e
      rw [HK.out] at y1
      rw [HD.out] at y2
      obtain ⟨z1, z2⟩ := acc_th hg y5
      obtain ⟨n', g1, g2, g3⟩ := acc_pl l0 l1 hg (by omega) z2
      obtain ⟨g4, z3⟩ := numB_pre _ _ _ _ g2
      have g5 : x.pl = pl := by rw [g3, ← g4, HPL.out]
      obtain ⟨k3, g6, g7, g8⟩ := acc_ol hg (by omega) z3
      obtain ⟨g9, z4⟩ := numB_pre _ _ _ _ g7
      obtain ⟨k, g6, g7, g8⟩ := acc_ne hg (by omega) z4
      exact hN ⟨k, _, g6, g7⟩
    have HC := Lib.hid (rnum_no B p M4 pl aW4 nW4 cW4 W4 HRe.out (fun n M h e => hN ⟨n, M, h, e⟩))
    clear hN
    go_wp2_with fail
    with_reducible refine HC.out.mono ?_
    rintro e w4 ⟨rfl, hb4⟩
    exact ⟨rfl, AccTo.no (HUe.out.trans hb4) HNO.out⟩
  obtain ⟨ne, M5, hnN, rfl⟩ := hN
  have HCN := Lib.hid (rnum_yes B p ne hnN M5 pl aW4 nW4 cW4 W4 HRe.out)
  have HNN := Lib.hid hnN; clear hnN
  go_wp2_with fail
  with_reducible refine HCN.out.mono ?_
  rintro e w5 ⟨rfl, hb, aW5, nW5, cW5, hr⟩
  have HQ4f := Lib.hid (hb.cells HQ4e.out HP4.out)
  have HQ2f := Lib.hid (hb.cells HQ2e.out HPQ.out)
  have HUf := Lib.hid (HUe.out.trans hb)
  have HRf := Lib.hid hr
  clear hb hr d0 d1 d2 d3 d4 d5 zz HCN
  obtain ⟨d0, d1, d2, d3, d4, d5⟩ := acc_cells' HQ4f.out
  have zz := free_of HQ4f.out
  obtain ⟨W5, hW5⟩ : ∃ W, W = w5.setCell ⟨q4, 4, none⟩ (.int .u64 (ne : Int)) := ⟨_, rfl⟩
  have HQ4g : Hid (W5.heap[q4]? = some (.cells #[.int .i64 2, .int .i64 (th : Int), .int .i64 pl, .int .u64 (ol : Int), .int .u64 (ne : Int), .bool false] 50 (0, 0))) := Lib.hid (by rw [hW5, heap_set _ HQ4f.out]; rfl)
  have HQ2g : Hid (W5.heap[q2]? = some (.cells #[.int .i64 0, .int .i64 0, .int .i64 0, .int .u64 0, .int .u64 0, .bool false] 50 (0, 0))) := Lib.hid (by rw [hW5, heap_setCell_ne _ _ _ _ hne1]; exact HQ2f.out)
  have HRg : Hid (RdrAt W5 B p M5 pl aW5 nW5 cW5) := Lib.hid (by rw [hW5]; exact HRf.out.setOther HP4.out _ _)
  have HUg : Hid (But p p w W5) := Lib.hid (by rw [hW5]; exact HUf.out.setNew HWQ.out _ _)
  have HW5 := Lib.hid hW5; clear hW5
  go_upto_region 9 with fail
  rw [← HW5.out]
  clear d0 d1 d2 d3 d4 d5 zz
  obtain ⟨d0, d1, d2, d3, d4, d5⟩ := acc_cells' HQ4g.out
  have zz := free_of HQ4g.out
  go_upto_region 9 with fail
  have HRT := Lib.hid fun w => right_acc ⟨2, th, pl, (ol : Int), (ne : Int), false⟩ w
  have HFI := Lib.hid fun (h : AccD.mayB ⟨2, th, pl, (ol : Int), (ne : Int), false⟩ = true) w => first_any ⟨2, th, pl, (ol : Int), (ne : Int), false⟩ h w
  by_cases hq : AccD.mayB ⟨2, th, pl, (ol : Int), (ne : Int), false⟩ = true
  rotate_left
  · have HNO : Hid (∀ x r, AccD.good x → (f : Int) :: (numB th ++ (numB n ++ (numB ol ++ (numB ne ++ M5)))) ≠ x.enc last ++ r) := Lib.hid fun x r hg e => by
      obtain ⟨y1, y2, y3, y4, y5⟩ := acc_l1 hg e
      rw [HK.out] at y1
      rw [HD.out] at y2
      obtain ⟨z1, z2⟩ := acc_th hg y5
      obtain ⟨n', g1, g2, g3⟩ := acc_pl l0 l1 hg (by omega) z2
      obtain ⟨g4, z3⟩ := numB_pre _ _ _ _ g2
      have g5 : x.pl = pl := by rw [g3, ← g4, HPL.out]
      obtain ⟨k3, g6, g7, g8⟩ := acc_ol hg (by omega) z3
      obtain ⟨g9, z4⟩ := numB_pre _ _ _ _ g7
      obtain ⟨k4, j6, j7, j8⟩ := acc_ne hg (by omega) z4
      obtain ⟨j9, z5⟩ := numB_pre _ _ _ _ j7
      have hx : x = ⟨2, th, pl, (ol : Int), (ne : Int), false⟩ := AccD.ext' (by rw [y1]; rfl) (z1) (g5) (by rw [g8, g9]) (by rw [j8, j9]) (y2)
      exact hq (by rw [← hx]; exact hg.1)
    rw [show AccD.mayB ⟨2, th, pl, (ol : Int), (ne : Int), false⟩ = false by simpa using hq] at HRT
    simp only [AccD.cells] at HRT
    clear hq HFI
    go_wp2_with fail
    with_reducible refine (HRT.out _).mono ?_
    rintro e w6 ⟨rfl, hb6⟩
    have HB6 := Lib.hid hb6; clear hb6 d0 d1 d2 d3 d4 d5 zz
    go_wp2_with fail
    exact ⟨rfl, AccTo.no (HUg.out.trans (But.of_below HB6.out)) HNO.out⟩
  have HFI := Lib.hid fun w => HFI.out hq w
  have HMB := Lib.hid hq
  rw [hq] at HRT
  have hfb := AccD.first_bd hq
  clear hq
  obtain ⟨g, hg⟩ : ∃ g, g = AccD.first ⟨2, th, pl, (ol : Int), (ne : Int), false⟩ := ⟨_, rfl⟩
  rw [← hg] at HFI hfb
  have HG := Lib.hid hg; clear hg
  obtain ⟨gb0, gb1⟩ := hfb
  simp only [AccD.cells] at HRT HFI
  go_wp2_with fail
  with_reducible refine (HRT.out _).mono ?_
  rintro e w6 ⟨rfl, hb6⟩
  have HQ46 := Lib.hid (Below.cellsAt hb6 HQ4g.out)
  have HQ26 := Lib.hid (Below.cellsAt hb6 HQ2g.out)
  have HR6 := Lib.hid (HRg.out.below hb6)
  have HU6 := Lib.hid (HUg.out.trans (But.of_below hb6))
  clear hb6 d0 d1 d2 d3 d4 d5 zz
  obtain ⟨d0, d1, d2, d3, d4, d5⟩ := acc_cells' HQ46.out
  have zz := free_of HQ46.out
  go_wp2_with fail
  with_reducible refine (HFI.out _).mono ?_
  rintro e w7 ⟨rfl, hb7⟩
  have HQ47 := Lib.hid (Below.cellsAt hb7 HQ46.out)
  have HQ27 := Lib.hid (Below.cellsAt hb7 HQ26.out)
  have HR7 := Lib.hid (HR6.out.below hb7)
  have HU7 := Lib.hid (HU6.out.trans (But.of_below hb7))
  clear hb7 d0 d1 d2 d3 d4 d5 zz
  obtain ⟨d0, d1, d2, d3, d4, d5⟩ := acc_cells' HQ47.out
  have zz := free_of HQ47.out
  obtain ⟨r0, r1, r2, r3, r4, r5⟩ := acc_cells' HQ27.out
  have zr := free_of HQ27.out
  by_cases hgf : g = (f : Int)
  rotate_left
  · have HNO : Hid (∀ x r, AccD.good x → (f : Int) :: (numB th ++ (numB n ++ (numB ol ++ (numB ne ++ M5)))) ≠ x.enc last ++ r) := Lib.hid fun x r hg e => by
      obtain ⟨y1, y2, y3, y4, y5⟩ := acc_l1 hg e
      rw [HK.out] at y1
      rw [HD.out] at y2
      obtain ⟨z1, z2⟩ := acc_th hg y5
      obtain ⟨n', g1, g2, g3⟩ := acc_pl l0 l1 hg (by omega) z2
      obtain ⟨g4, z3⟩ := numB_pre _ _ _ _ g2
      have g5 : x.pl = pl := by rw [g3, ← g4, HPL.out]
      obtain ⟨k3, g6, g7, g8⟩ := acc_ol hg (by omega) z3
      obtain ⟨g9, z4⟩ := numB_pre _ _ _ _ g7
      obtain ⟨k4, j6, j7, j8⟩ := acc_ne hg (by omega) z4
      obtain ⟨j9, z5⟩ := numB_pre _ _ _ _ j7
      have hx : x = ⟨2, th, pl, (ol : Int), (ne : Int), false⟩ := AccD.ext' (by rw [y1]; rfl) (z1) (g5) (by rw [g8, g9]) (by rw [j8, j9]) (y2)
      exact hgf (by rw [HG.out, ← hx]; exact y3.symm)
    have e1 : (g == (f : Int)) = false := by simp [hgf]
    have e2 : (g != (f : Int)) = true := by simp [hgf]
    clear hgf
    go_wp2_with fail
    exact ⟨rfl, AccTo.no HU7.out HNO.out⟩
  have HGF := Lib.hid hgf
  have e1 : (g == (f : Int)) = true := by simp [hgf]
  have e2 : (g != (f : Int)) = false := by simp [hgf]
  clear hgf
  go_wp2_with fail
  have HGD : AccD.good ⟨2, th, pl, (ol : Int), (ne : Int), false⟩ := ⟨HMB.out, by simp only [AccD.wide]; have := HNO.out; have := HNN.out;  omega⟩
  have HEQ : (f : Int) :: (numB th ++ (numB n ++ (numB ol ++ (numB ne ++ M5)))) = AccD.enc ⟨2, th, pl, (ol : Int), (ne : Int), false⟩ last ++ M5 := enc_mk 2 th pl last ol ne false f n (numB n ++ (numB ol ++ (numB ne ++ M5))) (numB ol ++ (numB ne ++ M5)) (numB ne ++ M5) M5 (HG.out.symm.trans HGF.out) (by rw [if_neg (by decide)]; exact ⟨rfl, HPL.out⟩) (by simp) (by simp)
  refine bodyPost_ret (v := .agg (AccD.cells ⟨2, th, pl, (ol : Int), (ne : Int), false⟩)) (by simp [results, Try.results72, go_sem, AccD.cells, r0, r1, r2, r3, r4, r5]) rfl ?_
  refine ⟨?_, .inl ⟨⟨2, th, pl, (ol : Int), (ne : Int), false⟩, M5, HGD, HEQ, rfl, aW5, nW5, cW5, ?_⟩⟩
  · exact ((((((HU7.out.setNew (by rw [HQW.out]; exact Nat.le_refl _) _ _).setNew (by rw [HQW.out]; exact Nat.le_refl _) _ _).setNew (by rw [HQW.out]; exact Nat.le_refl _) _ _).setNew (by rw [HQW.out]; exact Nat.le_refl _) _ _).setNew (by rw [HQW.out]; exact Nat.le_refl _) _ _).setNew (by rw [HQW.out]; exact Nat.le_refl _) _ _)
  · rw [show AccD.next ⟨2, th, pl, (ol : Int), (ne : Int), false⟩ last = pl from by simp [AccD.next]]
    exact ((((((HR7.out.setOther HPQ.out _ _).setOther HPQ.out _ _).setOther HPQ.out _ _).setOther HPQ.out _ _).setOther HPQ.out _ _).setOther HPQ.out _ _)
set_option maxRecDepth 100000 in
set_option maxHeartbeats 4000000 in
theorem access_2t (B p f : Nat) (hf : f < 256) (hk : f % 8 = 2) (hd : decide ((f / 8) % 2 = 1) = true) (M1 : List Int) (last : Int) (l0 : -1073741824 ≤ last) (l1 : last ≤ 1073741824) (a : Option Addr) (len cap : Nat) (w : World) (h : RdrAt w B p ((f : Int) :: M1) last a len cap) :
    Calls Try.prog 72 #[.pointer (some ⟨p, 0, none⟩)] w (AccTo B p ((f : Int) :: M1) last w) := by
  have h7 := and7 ⟨f, hf⟩
  have h8 := and8 ⟨f, hf⟩
  simp only [hk] at h7
  have hd' : ((f / 8) % 2 = 1) = True := by simpa using hd
  simp only [hd', if_true, if_false] at h8
  have HK := Lib.hid hk
  have HD := Lib.hid hd
  clear hd hd' hk
  have HFF := Lib.hid hf; clear hf
  obtain ⟨q2, hq2⟩ : ∃ q2, q2 = w.heap.size := ⟨_, rfl⟩
  obtain ⟨W0, hW0⟩ : ∃ W0, W0 = w.alloc (.cells #[.int .i64 0, .int .i64 0, .int .i64 0, .int .u64 0, .int .u64 0, .bool false] 50) := ⟨_, rfl⟩
  have HQ2 : Hid (W0.heap[q2]? = some (.cells #[.int .i64 0, .int .i64 0, .int .i64 0, .int .u64 0, .int .u64 0, .bool false] 50 (0, 0))) := Lib.hid (by rw [hW0, hq2, heap_alloc_new])
  have HR0 : Hid (RdrAt W0 B p ((f : Int) :: M1) last a len cap) := Lib.hid (by rw [hW0]; exact h.alloc _)
  have HU0 : Hid (But p p w W0) := Lib.hid (by rw [hW0]; exact (But.refl p p w).alloc _)
  have hpq : p < q2 := by rw [hq2]; exact h.lt
  have HPQ := Lib.hid hpq
  have HQW := Lib.hid hq2
  have HW0 := Lib.hid hW0
  have HBY := Lib.hid (byte_yes B p f M1 last a len cap W0 HR0.out)
  clear h hpq hW0 hq2
  go_enter Try.func72, Try.ntmps72
  go_wp2_with fail
  rw [← HW0.out, ← HQW.out]
  with_reducible refine HBY.out.mono ?_
  rintro e w1 ⟨rfl, hb1, a1, n1, c1, hr1⟩
  have HU1 := Lib.hid (HU0.out.trans hb1)
  have HQ21 := Lib.hid (hb1.cells HQ2.out HPQ.out)
  have HR1 := Lib.hid hr1
  clear hb1 hr1 HBY
  by_cases hT : ∃ th M2, th < 64 ∧ M1 = numB th ++ M2
  rotate_left
  · have HNO : Hid (∀ x r, AccD.good x → (f : Int) :: M1 ≠ x.enc last ++ r) := Lib.hid fun x r hg e => by
      obtain ⟨-, -, -, h4, h5⟩ := acc_l1 hg e
      exact hT ⟨_, _, h4, h5⟩
    have HC : Hid (Calls Try.prog 71 #[.pointer (some ⟨p, 0, none⟩), .int .u64 64] w1 (Falls p w1)) := Lib.hid (below_no B p 64 (by decide) M1 last a1 n1 c1 w1 HR1.out (fun th M2 h e => hT ⟨th, M2, h, e⟩))
    clear hT
    go_wp2_with fail
    with_reducible refine HC.out.mono ?_
    rintro e w2 ⟨rfl, hb2⟩
    exact ⟨rfl, AccTo.no (HU1.out.trans hb2) HNO.out⟩
  obtain ⟨th, M2, hth, rfl⟩ := hT
  have HC2 : Hid (Calls Try.prog 71 #[.pointer (some ⟨p, 0, none⟩), .int .u64 64] w1 (BelowTo B p th M2 last w1)) := Lib.hid (below_yes B p th 64 hth (by decide) M2 last a1 n1 c1 w1 HR1.out)
  go_wp2_with fail
  with_reducible refine HC2.out.mono ?_
  rintro e w2 ⟨rfl, hb2, a2, n2, c2, hr2⟩
  obtain ⟨q4, hq4⟩ : ∃ q4, q4 = w2.heap.size := ⟨_, rfl⟩
  obtain ⟨W2, hW2⟩ : ∃ W2, W2 = w2.alloc (.cells #[.int .i64 2, .int .i64 (th : Int), .int .i64 0, .int .u64 0, .int .u64 0, .bool true] 50) := ⟨_, rfl⟩
  have HQ4 : Hid (W2.heap[q4]? = some (.cells #[.int .i64 2, .int .i64 (th : Int), .int .i64 0, .int .u64 0, .int .u64 0, .bool true] 50 (0, 0))) := Lib.hid (by rw [hW2, hq4, heap_alloc_new])
  have hq24 : q2 < q4 := by rw [hq4]; exact Nat.lt_of_lt_of_le (Array.getElem?_eq_some_iff.1 HQ21.out).1 hb2.size
  have HQ24 := Lib.hid hq24
  have HQ2a : Hid (W2.heap[q2]? = some (.cells #[.int .i64 0, .int .i64 0, .int .i64 0, .int .u64 0, .int .u64 0, .bool false] 50 (0, 0))) := Lib.hid (by rw [hW2, Below.heap_alloc _ _ _ (by rw [← hq4]; exact hq24)]; exact hb2.cells HQ21.out HPQ.out)
  have HRa : Hid (RdrAt W2 B p M2 last a2 n2 c2) := Lib.hid (by rw [hW2]; exact hr2.alloc _)
  have HUa : Hid (But p p w W2) := Lib.hid (by rw [hW2]; exact (HU1.out.trans hb2).alloc _)
  have HWQ : Hid (w.heap.size ≤ q4) := Lib.hid (by rw [hq4]; exact (HU1.out.trans hb2).size)
  have HP4 : Hid (p < q4) := Lib.hid (Nat.lt_trans HPQ.out hq24)
  have HW2 := Lib.hid hW2
  have HQ4W := Lib.hid hq4
  clear hb2 hr2 hW2 hq4 HC2
  obtain ⟨d0, d1, d2, d3, d4, d5⟩ := acc_cells' HQ4.out
  have zz := free_of HQ4.out
  have hne1 : q2 ≠ q4 := by omega
  have hne2 : q4 ≠ q2 := by omega
  by_cases hP : ∃ n M3, n ≤ 4294967296 ∧ M2 = numB n ++ M3
  rotate_left
  · have HNO : Hid (∀ x r, AccD.good x → (f : Int) :: (numB th ++ M2) ≠ x.enc last ++ r) := Lib.hid fun x r hg e => by
      obtain ⟨y1, y2, y3, y4, y5⟩ := acc_l1 hg e
      rw [HK.out] at y1
      rw [HD.out] at y2
      obtain ⟨z1, z2⟩ := acc_th hg y5
      obtain ⟨n, g1, g2, g3⟩ := acc_pl l0 l1 hg (by omega) z2
      exact hP ⟨n, _, g1, g2⟩
    have HC := Lib.hid (place_no B p M2 last a2 n2 c2 W2 HRa.out (fun n M3 h e => hP ⟨n, M3, h, e⟩))
    clear hP
    go_upto_region 3 with fail
    rw [← HW2.out, ← HQ4W.out]
    go_wp2_with fail
    with_reducible refine HC.out.mono ?_
    rintro e w3 ⟨rfl, hb3⟩
    exact ⟨rfl, AccTo.no (HUa.out.trans hb3) HNO.out⟩
  obtain ⟨n, M3, hn, rfl⟩ := hP
  obtain ⟨u0, u1⟩ := uns_bd n hn
  have HC3 := Lib.hid (place_yes B p n hn M3 last l0 l1 a2 n2 c2 W2 HRa.out)
  obtain ⟨pl, hpl⟩ : ∃ pl, pl = last + uns n := ⟨_, rfl⟩
  rw [← hpl] at HC3
  have HPL := Lib.hid hpl
  have hpl0 : -3300000000 ≤ pl := by omega
  have hpl1 : pl ≤ 3300000000 := by omega
  clear hpl u0 u1 hn
  go_upto_region 3 with fail
  rw [← HW2.out, ← HQ4W.out]
  go_wp2_with fail
  with_reducible refine HC3.out.mono ?_
  rintro e w3 ⟨rfl, hb3, a3, n3, c3, hr3⟩
  have HQ4b := Lib.hid (hb3.cells HQ4.out HP4.out)
  have HQ2b := Lib.hid (hb3.cells HQ2a.out HPQ.out)
  have HUb := Lib.hid (HUa.out.trans hb3)
  have HRb := Lib.hid hr3
  clear hb3 hr3 d0 d1 d2 d3 d4 d5 zz HC3
  obtain ⟨d0, d1, d2, d3, d4, d5⟩ := acc_cells' HQ4b.out
  have zz := free_of HQ4b.out
  obtain ⟨W3, hW3⟩ : ∃ W3, W3 = w3.setCell ⟨q4, 2, none⟩ (.int .i64 pl) := ⟨_, rfl⟩
  have HQ4c : Hid (W3.heap[q4]? = some (.cells #[.int .i64 2, .int .i64 (th : Int), .int .i64 pl, .int .u64 0, .int .u64 0, .bool true] 50 (0, 0))) := Lib.hid (by rw [hW3, heap_set _ HQ4b.out]; rfl)
  have HQ2c : Hid (W3.heap[q2]? = some (.cells #[.int .i64 0, .int .i64 0, .int .i64 0, .int .u64 0, .int .u64 0, .bool false] 50 (0, 0))) := Lib.hid (by rw [hW3, heap_setCell_ne _ _ _ _ hne1]; exact HQ2b.out)
  have HRc : Hid (RdrAt W3 B p M3 pl a3 n3 c3) := Lib.hid (by rw [hW3]; exact HRb.out.setOther HP4.out _ _)
  have HUc : Hid (But p p w W3) := Lib.hid (by rw [hW3]; exact HUb.out.setNew HWQ.out _ _)
  have HW3 := Lib.hid hW3; clear hW3
  go_upto_region 5 with fail
  rw [← HW3.out]
  clear d0 d1 d2 d3 d4 d5 zz
  obtain ⟨d0, d1, d2, d3, d4, d5⟩ := acc_cells' HQ4c.out
  have zz := free_of HQ4c.out
  have HO := Lib.hid fun w => olds_any 2 w
  have HNW := Lib.hid fun w => news_any 2 w
  rw [show AccD.oldsB 2 = true from by decide] at HO
  rw [show AccD.newsB 2 = true from by decide] at HNW
  go_wp2_with fail
  refine (HO.out _).mono ?_
  rintro e w' ⟨rfl, rfl⟩
  by_cases hO : ∃ ol M4, ol < 18446744073709551616 ∧ M3 = numB ol ++ M4
  rotate_left
  · have HNO : Hid (∀ x r, AccD.good x → (f : Int) :: (numB th ++ (numB n ++ M3)) ≠ x.enc last ++ r) := Lib.hid fun x r hg e => by
      obtain ⟨y1, y2, y3, y4, y5⟩ := acc_l1 hg e
      rw [HK.out] at y1
      rw [HD.out] at y2
      obtain ⟨z1, z2⟩ := acc_th hg y5
      obtain ⟨n', g1, g2, g3⟩ := acc_pl l0 l1 hg (by omega) z2
      obtain ⟨g4, z3⟩ := numB_pre _ _ _ _ g2
      have g5 : x.pl = pl := by rw [g3, ← g4, HPL.out]
      obtain ⟨k, g6, g7, g8⟩ := acc_ol hg (by omega) z3
      exact hO ⟨k, _, g6, g7⟩
    have HC := Lib.hid (rnum_no B p M3 pl a3 n3 c3 W3 HRc.out (fun n M h e => hO ⟨n, M, h, e⟩))
    clear hO
    go_wp2_with fail
    with_reducible refine HC.out.mono ?_
    rintro e w4 ⟨rfl, hb4⟩
    exact ⟨rfl, AccTo.no (HUc.out.trans hb4) HNO.out⟩
  obtain ⟨ol, M4, hnO, rfl⟩ := hO
  have HCO := Lib.hid (rnum_yes B p ol hnO M4 pl a3 n3 c3 W3 HRc.out)
  have HNO := Lib.hid hnO; clear hnO
  go_wp2_with fail
  with_reducible refine HCO.out.mono ?_
  rintro e w4 ⟨rfl, hb, aW4, nW4, cW4, hr⟩
  have HQ4d := Lib.hid (hb.cells HQ4c.out HP4.out)
  have HQ2d := Lib.hid (hb.cells HQ2c.out HPQ.out)
  have HUd := Lib.hid (HUc.out.trans hb)
  have HRd := Lib.hid hr
  clear hb hr d0 d1 d2 d3 d4 d5 zz HCO
  obtain ⟨d0, d1, d2, d3, d4, d5⟩ := acc_cells' HQ4d.out
  have zz := free_of HQ4d.out
  obtain ⟨W4, hW4⟩ : ∃ W, W = w4.setCell ⟨q4, 3, none⟩ (.int .u64 (ol : Int)) := ⟨_, rfl⟩
  have HQ4e : Hid (W4.heap[q4]? = some (.cells #[.int .i64 2, .int .i64 (th : Int), .int .i64 pl, .int .u64 (ol : Int), .int .u64 0, .bool true] 50 (0, 0))) := Lib.hid (by rw [hW4, heap_set _ HQ4d.out]; rfl)
  have HQ2e : Hid (W4.heap[q2]? = some (.cells #[.int .i64 0, .int .i64 0, .int .i64 0, .int .u64 0, .int .u64 0, .bool false] 50 (0, 0))) := Lib.hid (by rw [hW4, heap_setCell_ne _ _ _ _ hne1]; exact HQ2d.out)
  have HRe : Hid (RdrAt W4 B p M4 pl aW4 nW4 cW4) := Lib.hid (by rw [hW4]; exact HRd.out.setOther HP4.out _ _)
  have HUe : Hid (But p p w W4) := Lib.hid (by rw [hW4]; exact HUd.out.setNew HWQ.out _ _)
  have HW4 := Lib.hid hW4; clear hW4
  go_upto_region 7 with fail
  rw [← HW4.out]
  clear d0 d1 d2 d3 d4 d5 zz
  obtain ⟨d0, d1, d2, d3, d4, d5⟩ := acc_cells' HQ4e.out
  have zz := free_of HQ4e.out
  go_wp2_with fail
  refine (HNW.out _).mono ?_
  rintro e w' ⟨rfl, rfl⟩
  by_cases hN : ∃ ne M5, ne < 18446744073709551616 ∧ M4 = numB ne ++ M5
  rotate_left
  · have HNO : Hid (∀ x r, AccD.good x → (f : Int) :: (numB th ++ (numB n ++ (numB ol ++ M4))) ≠ x.enc last ++ r) := Lib.hid fun x r hg e => by
      obtain ⟨y1, y2, y3, y4, y5⟩ := acc_l1 hg e
      rw [HK.out] at y1
      rw [HD.out] at y2
      obtain ⟨z1, z2⟩ := acc_th hg y5
      obtain ⟨n', g1, g2, g3⟩ := acc_pl l0 l1 hg (by omega) z2
      obtain ⟨g4, z3⟩ := numB_pre _ _ _ _ g2
      have g5 : x.pl = pl := by rw [g3, ← g4, HPL.out]
      obtain ⟨k3, g6, g7, g8⟩ := acc_ol hg (by omega) z3
      obtain ⟨g9, z4⟩ := numB_pre _ _ _ _ g7
      obtain ⟨k, g6, g7, g8⟩ := acc_ne hg (by omega) z4
      exact hN ⟨k, _, g6, g7⟩
    have HC := Lib.hid (rnum_no B p M4 pl aW4 nW4 cW4 W4 HRe.out (fun n M h e => hN ⟨n, M, h, e⟩))
    clear hN
    go_wp2_with fail
    with_reducible refine HC.out.mono ?_
    rintro e w4 ⟨rfl, hb4⟩
    exact ⟨rfl, AccTo.no (HUe.out.trans hb4) HNO.out⟩
  obtain ⟨ne, M5, hnN, rfl⟩ := hN
  have HCN := Lib.hid (rnum_yes B p ne hnN M5 pl aW4 nW4 cW4 W4 HRe.out)
  have HNN := Lib.hid hnN; clear hnN
  go_wp2_with fail
  with_reducible refine HCN.out.mono ?_
  rintro e w5 ⟨rfl, hb, aW5, nW5, cW5, hr⟩
  have HQ4f := Lib.hid (hb.cells HQ4e.out HP4.out)
  have HQ2f := Lib.hid (hb.cells HQ2e.out HPQ.out)
  have HUf := Lib.hid (HUe.out.trans hb)
  have HRf := Lib.hid hr
  clear hb hr d0 d1 d2 d3 d4 d5 zz HCN
  obtain ⟨d0, d1, d2, d3, d4, d5⟩ := acc_cells' HQ4f.out
  have zz := free_of HQ4f.out
  obtain ⟨W5, hW5⟩ : ∃ W, W = w5.setCell ⟨q4, 4, none⟩ (.int .u64 (ne : Int)) := ⟨_, rfl⟩
  have HQ4g : Hid (W5.heap[q4]? = some (.cells #[.int .i64 2, .int .i64 (th : Int), .int .i64 pl, .int .u64 (ol : Int), .int .u64 (ne : Int), .bool true] 50 (0, 0))) := Lib.hid (by rw [hW5, heap_set _ HQ4f.out]; rfl)
  have HQ2g : Hid (W5.heap[q2]? = some (.cells #[.int .i64 0, .int .i64 0, .int .i64 0, .int .u64 0, .int .u64 0, .bool false] 50 (0, 0))) := Lib.hid (by rw [hW5, heap_setCell_ne _ _ _ _ hne1]; exact HQ2f.out)
  have HRg : Hid (RdrAt W5 B p M5 pl aW5 nW5 cW5) := Lib.hid (by rw [hW5]; exact HRf.out.setOther HP4.out _ _)
  have HUg : Hid (But p p w W5) := Lib.hid (by rw [hW5]; exact HUf.out.setNew HWQ.out _ _)
  have HW5 := Lib.hid hW5; clear hW5
  go_upto_region 9 with fail
  rw [← HW5.out]
  clear d0 d1 d2 d3 d4 d5 zz
  obtain ⟨d0, d1, d2, d3, d4, d5⟩ := acc_cells' HQ4g.out
  have zz := free_of HQ4g.out
  go_upto_region 9 with fail
  have HRT := Lib.hid fun w => right_acc ⟨2, th, pl, (ol : Int), (ne : Int), true⟩ w
  have HFI := Lib.hid fun (h : AccD.mayB ⟨2, th, pl, (ol : Int), (ne : Int), true⟩ = true) w => first_any ⟨2, th, pl, (ol : Int), (ne : Int), true⟩ h w
  by_cases hq : AccD.mayB ⟨2, th, pl, (ol : Int), (ne : Int), true⟩ = true
  rotate_left
  · have HNO : Hid (∀ x r, AccD.good x → (f : Int) :: (numB th ++ (numB n ++ (numB ol ++ (numB ne ++ M5)))) ≠ x.enc last ++ r) := Lib.hid fun x r hg e => by
      obtain ⟨y1, y2, y3, y4, y5⟩ := acc_l1 hg e
      rw [HK.out] at y1
      rw [HD.out] at y2
      obtain ⟨z1, z2⟩ := acc_th hg y5
      obtain ⟨n', g1, g2, g3⟩ := acc_pl l0 l1 hg (by omega) z2
      obtain ⟨g4, z3⟩ := numB_pre _ _ _ _ g2
      have g5 : x.pl = pl := by rw [g3, ← g4, HPL.out]
      obtain ⟨k3, g6, g7, g8⟩ := acc_ol hg (by omega) z3
      obtain ⟨g9, z4⟩ := numB_pre _ _ _ _ g7
      obtain ⟨k4, j6, j7, j8⟩ := acc_ne hg (by omega) z4
      obtain ⟨j9, z5⟩ := numB_pre _ _ _ _ j7
      have hx : x = ⟨2, th, pl, (ol : Int), (ne : Int), true⟩ := AccD.ext' (by rw [y1]; rfl) (z1) (g5) (by rw [g8, g9]) (by rw [j8, j9]) (y2)
      exact hq (by rw [← hx]; exact hg.1)
    rw [show AccD.mayB ⟨2, th, pl, (ol : Int), (ne : Int), true⟩ = false by simpa using hq] at HRT
    simp only [AccD.cells] at HRT
    clear hq HFI
    go_wp2_with fail
    with_reducible refine (HRT.out _).mono ?_
    rintro e w6 ⟨rfl, hb6⟩
    have HB6 := Lib.hid hb6; clear hb6 d0 d1 d2 d3 d4 d5 zz
    go_wp2_with fail
    exact ⟨rfl, AccTo.no (HUg.out.trans (But.of_below HB6.out)) HNO.out⟩
  have HFI := Lib.hid fun w => HFI.out hq w
  have HMB := Lib.hid hq
  rw [hq] at HRT
  have hfb := AccD.first_bd hq
  clear hq
  obtain ⟨g, hg⟩ : ∃ g, g = AccD.first ⟨2, th, pl, (ol : Int), (ne : Int), true⟩ := ⟨_, rfl⟩
  rw [← hg] at HFI hfb
  have HG := Lib.hid hg; clear hg
  obtain ⟨gb0, gb1⟩ := hfb
  simp only [AccD.cells] at HRT HFI
  go_wp2_with fail
  with_reducible refine (HRT.out _).mono ?_
  rintro e w6 ⟨rfl, hb6⟩
  have HQ46 := Lib.hid (Below.cellsAt hb6 HQ4g.out)
  have HQ26 := Lib.hid (Below.cellsAt hb6 HQ2g.out)
  have HR6 := Lib.hid (HRg.out.below hb6)
  have HU6 := Lib.hid (HUg.out.trans (But.of_below hb6))
  clear hb6 d0 d1 d2 d3 d4 d5 zz
  obtain ⟨d0, d1, d2, d3, d4, d5⟩ := acc_cells' HQ46.out
  have zz := free_of HQ46.out
  go_wp2_with fail
  with_reducible refine (HFI.out _).mono ?_
  rintro e w7 ⟨rfl, hb7⟩
  have HQ47 := Lib.hid (Below.cellsAt hb7 HQ46.out)
  have HQ27 := Lib.hid (Below.cellsAt hb7 HQ26.out)
  have HR7 := Lib.hid (HR6.out.below hb7)
  have HU7 := Lib.hid (HU6.out.trans (But.of_below hb7))
  clear hb7 d0 d1 d2 d3 d4 d5 zz
  obtain ⟨d0, d1, d2, d3, d4, d5⟩ := acc_cells' HQ47.out
  have zz := free_of HQ47.out
  obtain ⟨r0, r1, r2, r3, r4, r5⟩ := acc_cells' HQ27.out
  have zr := free_of HQ27.out
  by_cases hgf : g = (f : Int)
  rotate_left
  · have HNO : Hid (∀ x r, AccD.good x → (f : Int) :: (numB th ++ (numB n ++ (numB ol ++ (numB ne ++ M5)))) ≠ x.enc last ++ r) := Lib.hid fun x r hg e => by
      obtain ⟨y1, y2, y3, y4, y5⟩ := acc_l1 hg e
      rw [HK.out] at y1
      rw [HD.out] at y2
      obtain ⟨z1, z2⟩ := acc_th hg y5
      obtain ⟨n', g1, g2, g3⟩ := acc_pl l0 l1 hg (by omega) z2
      obtain ⟨g4, z3⟩ := numB_pre _ _ _ _ g2
      have g5 : x.pl = pl := by rw [g3, ← g4, HPL.out]
      obtain ⟨k3, g6, g7, g8⟩ := acc_ol hg (by omega) z3
      obtain ⟨g9, z4⟩ := numB_pre _ _ _ _ g7
      obtain ⟨k4, j6, j7, j8⟩ := acc_ne hg (by omega) z4
      obtain ⟨j9, z5⟩ := numB_pre _ _ _ _ j7
      have hx : x = ⟨2, th, pl, (ol : Int), (ne : Int), true⟩ := AccD.ext' (by rw [y1]; rfl) (z1) (g5) (by rw [g8, g9]) (by rw [j8, j9]) (y2)
      exact hgf (by rw [HG.out, ← hx]; exact y3.symm)
    have e1 : (g == (f : Int)) = false := by simp [hgf]
    have e2 : (g != (f : Int)) = true := by simp [hgf]
    clear hgf
    go_wp2_with fail
    exact ⟨rfl, AccTo.no HU7.out HNO.out⟩
  have HGF := Lib.hid hgf
  have e1 : (g == (f : Int)) = true := by simp [hgf]
  have e2 : (g != (f : Int)) = false := by simp [hgf]
  clear hgf
  go_wp2_with fail
  have HGD : AccD.good ⟨2, th, pl, (ol : Int), (ne : Int), true⟩ := ⟨HMB.out, by simp only [AccD.wide]; have := HNO.out; have := HNN.out;  omega⟩
  have HEQ : (f : Int) :: (numB th ++ (numB n ++ (numB ol ++ (numB ne ++ M5)))) = AccD.enc ⟨2, th, pl, (ol : Int), (ne : Int), true⟩ last ++ M5 := enc_mk 2 th pl last ol ne true f n (numB n ++ (numB ol ++ (numB ne ++ M5))) (numB ol ++ (numB ne ++ M5)) (numB ne ++ M5) M5 (HG.out.symm.trans HGF.out) (by rw [if_neg (by decide)]; exact ⟨rfl, HPL.out⟩) (by simp) (by simp)
  refine bodyPost_ret (v := .agg (AccD.cells ⟨2, th, pl, (ol : Int), (ne : Int), true⟩)) (by simp [results, Try.results72, go_sem, AccD.cells, r0, r1, r2, r3, r4, r5]) rfl ?_
  refine ⟨?_, .inl ⟨⟨2, th, pl, (ol : Int), (ne : Int), true⟩, M5, HGD, HEQ, rfl, aW5, nW5, cW5, ?_⟩⟩
  · exact ((((((HU7.out.setNew (by rw [HQW.out]; exact Nat.le_refl _) _ _).setNew (by rw [HQW.out]; exact Nat.le_refl _) _ _).setNew (by rw [HQW.out]; exact Nat.le_refl _) _ _).setNew (by rw [HQW.out]; exact Nat.le_refl _) _ _).setNew (by rw [HQW.out]; exact Nat.le_refl _) _ _).setNew (by rw [HQW.out]; exact Nat.le_refl _) _ _)
  · rw [show AccD.next ⟨2, th, pl, (ol : Int), (ne : Int), true⟩ last = pl from by simp [AccD.next]]
    exact ((((((HR7.out.setOther HPQ.out _ _).setOther HPQ.out _ _).setOther HPQ.out _ _).setOther HPQ.out _ _).setOther HPQ.out _ _).setOther HPQ.out _ _)
set_option maxRecDepth 100000 in
set_option maxHeartbeats 4000000 in
theorem access_3f (B p f : Nat) (hf : f < 256) (hk : f % 8 = 3) (hd : decide ((f / 8) % 2 = 1) = false) (M1 : List Int) (last : Int) (l0 : -1073741824 ≤ last) (l1 : last ≤ 1073741824) (a : Option Addr) (len cap : Nat) (w : World) (h : RdrAt w B p ((f : Int) :: M1) last a len cap) :
    Calls Try.prog 72 #[.pointer (some ⟨p, 0, none⟩)] w (AccTo B p ((f : Int) :: M1) last w) := by
  have h7 := and7 ⟨f, hf⟩
  have h8 := and8 ⟨f, hf⟩
  simp only [hk] at h7
  have hd' : ((f / 8) % 2 = 1) = False := by simpa using hd
  simp only [hd', if_true, if_false] at h8
  have HK := Lib.hid hk
  have HD := Lib.hid hd
  clear hd hd' hk
  have HFF := Lib.hid hf; clear hf
  obtain ⟨q2, hq2⟩ : ∃ q2, q2 = w.heap.size := ⟨_, rfl⟩
  obtain ⟨W0, hW0⟩ : ∃ W0, W0 = w.alloc (.cells #[.int .i64 0, .int .i64 0, .int .i64 0, .int .u64 0, .int .u64 0, .bool false] 50) := ⟨_, rfl⟩
  have HQ2 : Hid (W0.heap[q2]? = some (.cells #[.int .i64 0, .int .i64 0, .int .i64 0, .int .u64 0, .int .u64 0, .bool false] 50 (0, 0))) := Lib.hid (by rw [hW0, hq2, heap_alloc_new])
  have HR0 : Hid (RdrAt W0 B p ((f : Int) :: M1) last a len cap) := Lib.hid (by rw [hW0]; exact h.alloc _)
  have HU0 : Hid (But p p w W0) := Lib.hid (by rw [hW0]; exact (But.refl p p w).alloc _)
  have hpq : p < q2 := by rw [hq2]; exact h.lt
  have HPQ := Lib.hid hpq
  have HQW := Lib.hid hq2
  have HW0 := Lib.hid hW0
  have HBY := Lib.hid (byte_yes B p f M1 last a len cap W0 HR0.out)
  clear h hpq hW0 hq2
  go_enter Try.func72, Try.ntmps72
  go_wp2_with fail
  rw [← HW0.out, ← HQW.out]
  with_reducible refine HBY.out.mono ?_
  rintro e w1 ⟨rfl, hb1, a1, n1, c1, hr1⟩
  have HU1 := Lib.hid (HU0.out.trans hb1)
  have HQ21 := Lib.hid (hb1.cells HQ2.out HPQ.out)
  have HR1 := Lib.hid hr1
  clear hb1 hr1 HBY
  by_cases hT : ∃ th M2, th < 64 ∧ M1 = numB th ++ M2
  rotate_left
  · have HNO : Hid (∀ x r, AccD.good x → (f : Int) :: M1 ≠ x.enc last ++ r) := Lib.hid fun x r hg e => by
      obtain ⟨-, -, -, h4, h5⟩ := acc_l1 hg e
      exact hT ⟨_, _, h4, h5⟩
    have HC : Hid (Calls Try.prog 71 #[.pointer (some ⟨p, 0, none⟩), .int .u64 64] w1 (Falls p w1)) := Lib.hid (below_no B p 64 (by decide) M1 last a1 n1 c1 w1 HR1.out (fun th M2 h e => hT ⟨th, M2, h, e⟩))
    clear hT
    go_wp2_with fail
    with_reducible refine HC.out.mono ?_
    rintro e w2 ⟨rfl, hb2⟩
    exact ⟨rfl, AccTo.no (HU1.out.trans hb2) HNO.out⟩
  obtain ⟨th, M2, hth, rfl⟩ := hT
  have HC2 : Hid (Calls Try.prog 71 #[.pointer (some ⟨p, 0, none⟩), .int .u64 64] w1 (BelowTo B p th M2 last w1)) := Lib.hid (below_yes B p th 64 hth (by decide) M2 last a1 n1 c1 w1 HR1.out)
  go_wp2_with fail
  with_reducible refine HC2.out.mono ?_
  rintro e w2 ⟨rfl, hb2, a2, n2, c2, hr2⟩
  obtain ⟨q4, hq4⟩ : ∃ q4, q4 = w2.heap.size := ⟨_, rfl⟩
  obtain ⟨W2, hW2⟩ : ∃ W2, W2 = w2.alloc (.cells #[.int .i64 3, .int .i64 (th : Int), .int .i64 0, .int .u64 0, .int .u64 0, .bool false] 50) := ⟨_, rfl⟩
  have HQ4 : Hid (W2.heap[q4]? = some (.cells #[.int .i64 3, .int .i64 (th : Int), .int .i64 0, .int .u64 0, .int .u64 0, .bool false] 50 (0, 0))) := Lib.hid (by rw [hW2, hq4, heap_alloc_new])
  have hq24 : q2 < q4 := by rw [hq4]; exact Nat.lt_of_lt_of_le (Array.getElem?_eq_some_iff.1 HQ21.out).1 hb2.size
  have HQ24 := Lib.hid hq24
  have HQ2a : Hid (W2.heap[q2]? = some (.cells #[.int .i64 0, .int .i64 0, .int .i64 0, .int .u64 0, .int .u64 0, .bool false] 50 (0, 0))) := Lib.hid (by rw [hW2, Below.heap_alloc _ _ _ (by rw [← hq4]; exact hq24)]; exact hb2.cells HQ21.out HPQ.out)
  have HRa : Hid (RdrAt W2 B p M2 last a2 n2 c2) := Lib.hid (by rw [hW2]; exact hr2.alloc _)
  have HUa : Hid (But p p w W2) := Lib.hid (by rw [hW2]; exact (HU1.out.trans hb2).alloc _)
  have HWQ : Hid (w.heap.size ≤ q4) := Lib.hid (by rw [hq4]; exact (HU1.out.trans hb2).size)
  have HP4 : Hid (p < q4) := Lib.hid (Nat.lt_trans HPQ.out hq24)
  have HW2 := Lib.hid hW2
  have HQ4W := Lib.hid hq4
  clear hb2 hr2 hW2 hq4 HC2
  obtain ⟨d0, d1, d2, d3, d4, d5⟩ := acc_cells' HQ4.out
  have zz := free_of HQ4.out
  have hne1 : q2 ≠ q4 := by omega
  have hne2 : q4 ≠ q2 := by omega
  by_cases hP : ∃ n M3, n ≤ 4294967296 ∧ M2 = numB n ++ M3
  rotate_left
  · have HNO : Hid (∀ x r, AccD.good x → (f : Int) :: (numB th ++ M2) ≠ x.enc last ++ r) := Lib.hid fun x r hg e => by
      obtain ⟨y1, y2, y3, y4, y5⟩ := acc_l1 hg e
      rw [HK.out] at y1
      rw [HD.out] at y2
      obtain ⟨z1, z2⟩ := acc_th hg y5
      obtain ⟨n, g1, g2, g3⟩ := acc_pl l0 l1 hg (by omega) z2
      exact hP ⟨n, _, g1, g2⟩
    have HC := Lib.hid (place_no B p M2 last a2 n2 c2 W2 HRa.out (fun n M3 h e => hP ⟨n, M3, h, e⟩))
    clear hP
    go_upto_region 3 with fail
    rw [← HW2.out, ← HQ4W.out]
    go_wp2_with fail
    with_reducible refine HC.out.mono ?_
    rintro e w3 ⟨rfl, hb3⟩
    exact ⟨rfl, AccTo.no (HUa.out.trans hb3) HNO.out⟩
  obtain ⟨n, M3, hn, rfl⟩ := hP
  obtain ⟨u0, u1⟩ := uns_bd n hn
  have HC3 := Lib.hid (place_yes B p n hn M3 last l0 l1 a2 n2 c2 W2 HRa.out)
  obtain ⟨pl, hpl⟩ : ∃ pl, pl = last + uns n := ⟨_, rfl⟩
  rw [← hpl] at HC3
  have HPL := Lib.hid hpl
  have hpl0 : -3300000000 ≤ pl := by omega
  have hpl1 : pl ≤ 3300000000 := by omega
  clear hpl u0 u1 hn
  go_upto_region 3 with fail
  rw [← HW2.out, ← HQ4W.out]
  go_wp2_with fail
  with_reducible refine HC3.out.mono ?_
  rintro e w3 ⟨rfl, hb3, a3, n3, c3, hr3⟩
  have HQ4b := Lib.hid (hb3.cells HQ4.out HP4.out)
  have HQ2b := Lib.hid (hb3.cells HQ2a.out HPQ.out)
  have HUb := Lib.hid (HUa.out.trans hb3)
  have HRb := Lib.hid hr3
  clear hb3 hr3 d0 d1 d2 d3 d4 d5 zz HC3
  obtain ⟨d0, d1, d2, d3, d4, d5⟩ := acc_cells' HQ4b.out
  have zz := free_of HQ4b.out
  obtain ⟨W3, hW3⟩ : ∃ W3, W3 = w3.setCell ⟨q4, 2, none⟩ (.int .i64 pl) := ⟨_, rfl⟩
  have HQ4c : Hid (W3.heap[q4]? = some (.cells #[.int .i64 3, .int .i64 (th : Int), .int .i64 pl, .int .u64 0, .int .u64 0, .bool false] 50 (0, 0))) := Lib.hid (by rw [hW3, heap_set _ HQ4b.out]; rfl)
  have HQ2c : Hid (W3.heap[q2]? = some (.cells #[.int .i64 0, .int .i64 0, .int .i64 0, .int .u64 0, .int .u64 0, .bool false] 50 (0, 0))) := Lib.hid (by rw [hW3, heap_setCell_ne _ _ _ _ hne1]; exact HQ2b.out)
  have HRc : Hid (RdrAt W3 B p M3 pl a3 n3 c3) := Lib.hid (by rw [hW3]; exact HRb.out.setOther HP4.out _ _)
  have HUc : Hid (But p p w W3) := Lib.hid (by rw [hW3]; exact HUb.out.setNew HWQ.out _ _)
  have HW3 := Lib.hid hW3; clear hW3
  go_upto_region 5 with fail
  rw [← HW3.out]
  clear d0 d1 d2 d3 d4 d5 zz
  obtain ⟨d0, d1, d2, d3, d4, d5⟩ := acc_cells' HQ4c.out
  have zz := free_of HQ4c.out
  have HO := Lib.hid fun w => olds_any 3 w
  have HNW := Lib.hid fun w => news_any 3 w
  rw [show AccD.oldsB 3 = true from by decide] at HO
  rw [show AccD.newsB 3 = true from by decide] at HNW
  go_wp2_with fail
  refine (HO.out _).mono ?_
  rintro e w' ⟨rfl, rfl⟩
  by_cases hO : ∃ ol M4, ol < 18446744073709551616 ∧ M3 = numB ol ++ M4
  rotate_left
  · have HNO : Hid (∀ x r, AccD.good x → (f : Int) :: (numB th ++ (numB n ++ M3)) ≠ x.enc last ++ r) := Lib.hid fun x r hg e => by
      obtain ⟨y1, y2, y3, y4, y5⟩ := acc_l1 hg e
      rw [HK.out] at y1
      rw [HD.out] at y2
      obtain ⟨z1, z2⟩ := acc_th hg y5
      obtain ⟨n', g1, g2, g3⟩ := acc_pl l0 l1 hg (by omega) z2
      obtain ⟨g4, z3⟩ := numB_pre _ _ _ _ g2
      have g5 : x.pl = pl := by rw [g3, ← g4, HPL.out]
      obtain ⟨k, g6, g7, g8⟩ := acc_ol hg (by omega) z3
      exact hO ⟨k, _, g6, g7⟩
    have HC := Lib.hid (rnum_no B p M3 pl a3 n3 c3 W3 HRc.out (fun n M h e => hO ⟨n, M, h, e⟩))
    clear hO
    go_wp2_with fail
    with_reducible refine HC.out.mono ?_
    rintro e w4 ⟨rfl, hb4⟩
    exact ⟨rfl, AccTo.no (HUc.out.trans hb4) HNO.out⟩
  obtain ⟨ol, M4, hnO, rfl⟩ := hO
  have HCO := Lib.hid (rnum_yes B p ol hnO M4 pl a3 n3 c3 W3 HRc.out)
  have HNO := Lib.hid hnO; clear hnO
  go_wp2_with fail
  with_reducible refine HCO.out.mono ?_
  rintro e w4 ⟨rfl, hb, aW4, nW4, cW4, hr⟩
  have HQ4d := Lib.hid (hb.cells HQ4c.out HP4.out)
  have HQ2d := Lib.hid (hb.cells HQ2c.out HPQ.out)
  have HUd := Lib.hid (HUc.out.trans hb)
  have HRd := Lib.hid hr
  clear hb hr d0 d1 d2 d3 d4 d5 zz HCO
  obtain ⟨d0, d1, d2, d3, d4, d5⟩ := acc_cells' HQ4d.out
  have zz := free_of HQ4d.out
  obtain ⟨W4, hW4⟩ : ∃ W, W = w4.setCell ⟨q4, 3, none⟩ (.int .u64 (ol : Int)) := ⟨_, rfl⟩
  have HQ4e : Hid (W4.heap[q4]? = some (.cells #[.int .i64 3, .int .i64 (th : Int), .int .i64 pl, .int .u64 (ol : Int), .int .u64 0, .bool false] 50 (0, 0))) := Lib.hid (by rw [hW4, heap_set _ HQ4d.out]; rfl)
  have HQ2e : Hid (W4.heap[q2]? = some (.cells #[.int .i64 0, .int .i64 0, .int .i64 0, .int .u64 0, .int .u64 0, .bool false] 50 (0, 0))) := Lib.hid (by rw [hW4, heap_setCell_ne _ _ _ _ hne1]; exact HQ2d.out)
  have HRe : Hid (RdrAt W4 B p M4 pl aW4 nW4 cW4) := Lib.hid (by rw [hW4]; exact HRd.out.setOther HP4.out _ _)
  have HUe : Hid (But p p w W4) := Lib.hid (by rw [hW4]; exact HUd.out.setNew HWQ.out _ _)
  have HW4 := Lib.hid hW4; clear hW4
  go_upto_region 7 with fail
  rw [← HW4.out]
  clear d0 d1 d2 d3 d4 d5 zz
  obtain ⟨d0, d1, d2, d3, d4, d5⟩ := acc_cells' HQ4e.out
  have zz := free_of HQ4e.out
  go_wp2_with fail
  refine (HNW.out _).mono ?_
  rintro e w' ⟨rfl, rfl⟩
  by_cases hN : ∃ ne M5, ne < 18446744073709551616 ∧ M4 = numB ne ++ M5
  rotate_left
  · have HNO : Hid (∀ x r, AccD.good x → (f : Int) :: (numB th ++ (numB n ++ (numB ol ++ M4))) ≠ x.enc last ++ r) := Lib.hid fun x r hg e => by
      obtain ⟨y1, y2, y3, y4, y5⟩ := acc_l1 hg e
      rw [HK.out] at y1
      rw [HD.out] at y2
      obtain ⟨z1, z2⟩ := acc_th hg y5
      obtain ⟨n', g1, g2, g3⟩ := acc_pl l0 l1 hg (by omega) z2
      obtain ⟨g4, z3⟩ := numB_pre _ _ _ _ g2
      have g5 : x.pl = pl := by rw [g3, ← g4, HPL.out]
      obtain ⟨k3, g6, g7, g8⟩ := acc_ol hg (by omega) z3
      obtain ⟨g9, z4⟩ := numB_pre _ _ _ _ g7
      obtain ⟨k, g6, g7, g8⟩ := acc_ne hg (by omega) z4
      exact hN ⟨k, _, g6, g7⟩
    have HC := Lib.hid (rnum_no B p M4 pl aW4 nW4 cW4 W4 HRe.out (fun n M h e => hN ⟨n, M, h, e⟩))
    clear hN
    go_wp2_with fail
    with_reducible refine HC.out.mono ?_
    rintro e w4 ⟨rfl, hb4⟩
    exact ⟨rfl, AccTo.no (HUe.out.trans hb4) HNO.out⟩
  obtain ⟨ne, M5, hnN, rfl⟩ := hN
  have HCN := Lib.hid (rnum_yes B p ne hnN M5 pl aW4 nW4 cW4 W4 HRe.out)
  have HNN := Lib.hid hnN; clear hnN
  go_wp2_with fail
  with_reducible refine HCN.out.mono ?_
  rintro e w5 ⟨rfl, hb, aW5, nW5, cW5, hr⟩
  have HQ4f := Lib.hid (hb.cells HQ4e.out HP4.out)
  have HQ2f := Lib.hid (hb.cells HQ2e.out HPQ.out)
  have HUf := Lib.hid (HUe.out.trans hb)
  have HRf := Lib.hid hr
  clear hb hr d0 d1 d2 d3 d4 d5 zz HCN
  obtain ⟨d0, d1, d2, d3, d4, d5⟩ := acc_cells' HQ4f.out
  have zz := free_of HQ4f.out
  obtain ⟨W5, hW5⟩ : ∃ W, W = w5.setCell ⟨q4, 4, none⟩ (.int .u64 (ne : Int)) := ⟨_, rfl⟩
  have HQ4g : Hid (W5.heap[q4]? = some (.cells #[.int .i64 3, .int .i64 (th : Int), .int .i64 pl, .int .u64 (ol : Int), .int .u64 (ne : Int), .bool false] 50 (0, 0))) := Lib.hid (by rw [hW5, heap_set _ HQ4f.out]; rfl)
  have HQ2g : Hid (W5.heap[q2]? = some (.cells #[.int .i64 0, .int .i64 0, .int .i64 0, .int .u64 0, .int .u64 0, .bool false] 50 (0, 0))) := Lib.hid (by rw [hW5, heap_setCell_ne _ _ _ _ hne1]; exact HQ2f.out)
  have HRg : Hid (RdrAt W5 B p M5 pl aW5 nW5 cW5) := Lib.hid (by rw [hW5]; exact HRf.out.setOther HP4.out _ _)
  have HUg : Hid (But p p w W5) := Lib.hid (by rw [hW5]; exact HUf.out.setNew HWQ.out _ _)
  have HW5 := Lib.hid hW5; clear hW5
  go_upto_region 9 with fail
  rw [← HW5.out]
  clear d0 d1 d2 d3 d4 d5 zz
  obtain ⟨d0, d1, d2, d3, d4, d5⟩ := acc_cells' HQ4g.out
  have zz := free_of HQ4g.out
  go_upto_region 9 with fail
  have HRT := Lib.hid fun w => right_acc ⟨3, th, pl, (ol : Int), (ne : Int), false⟩ w
  have HFI := Lib.hid fun (h : AccD.mayB ⟨3, th, pl, (ol : Int), (ne : Int), false⟩ = true) w => first_any ⟨3, th, pl, (ol : Int), (ne : Int), false⟩ h w
  by_cases hq : AccD.mayB ⟨3, th, pl, (ol : Int), (ne : Int), false⟩ = true
  rotate_left
  · have HNO : Hid (∀ x r, AccD.good x → (f : Int) :: (numB th ++ (numB n ++ (numB ol ++ (numB ne ++ M5)))) ≠ x.enc last ++ r) := Lib.hid fun x r hg e => by
      obtain ⟨y1, y2, y3, y4, y5⟩ := acc_l1 hg e
      rw [HK.out] at y1
      rw [HD.out] at y2
      obtain ⟨z1, z2⟩ := acc_th hg y5
      obtain ⟨n', g1, g2, g3⟩ := acc_pl l0 l1 hg (by omega) z2
      obtain ⟨g4, z3⟩ := numB_pre _ _ _ _ g2
      have g5 : x.pl = pl := by rw [g3, ← g4, HPL.out]
      obtain ⟨k3, g6, g7, g8⟩ := acc_ol hg (by omega) z3
      obtain ⟨g9, z4⟩ := numB_pre _ _ _ _ g7
      obtain ⟨k4, j6, j7, j8⟩ := acc_ne hg (by omega) z4
      obtain ⟨j9, z5⟩ := numB_pre _ _ _ _ j7
      have hx : x = ⟨3, th, pl, (ol : Int), (ne : Int), false⟩ := AccD.ext' (by rw [y1]; rfl) (z1) (g5) (by rw [g8, g9]) (by rw [j8, j9]) (y2)
      exact hq (by rw [← hx]; exact hg.1)
    rw [show AccD.mayB ⟨3, th, pl, (ol : Int), (ne : Int), false⟩ = false by simpa using hq] at HRT
    simp only [AccD.cells] at HRT
    clear hq HFI
    go_wp2_with fail
    with_reducible refine (HRT.out _).mono ?_
    rintro e w6 ⟨rfl, hb6⟩
    have HB6 := Lib.hid hb6; clear hb6 d0 d1 d2 d3 d4 d5 zz
    go_wp2_with fail
    exact ⟨rfl, AccTo.no (HUg.out.trans (But.of_below HB6.out)) HNO.out⟩
  have HFI := Lib.hid fun w => HFI.out hq w
  have HMB := Lib.hid hq
  rw [hq] at HRT
  have hfb := AccD.first_bd hq
  clear hq
  obtain ⟨g, hg⟩ : ∃ g, g = AccD.first ⟨3, th, pl, (ol : Int), (ne : Int), false⟩ := ⟨_, rfl⟩
  rw [← hg] at HFI hfb
  have HG := Lib.hid hg; clear hg
  obtain ⟨gb0, gb1⟩ := hfb
  simp only [AccD.cells] at HRT HFI
  go_wp2_with fail
  with_reducible refine (HRT.out _).mono ?_
  rintro e w6 ⟨rfl, hb6⟩
  have HQ46 := Lib.hid (Below.cellsAt hb6 HQ4g.out)
  have HQ26 := Lib.hid (Below.cellsAt hb6 HQ2g.out)
  have HR6 := Lib.hid (HRg.out.below hb6)
  have HU6 := Lib.hid (HUg.out.trans (But.of_below hb6))
  clear hb6 d0 d1 d2 d3 d4 d5 zz
  obtain ⟨d0, d1, d2, d3, d4, d5⟩ := acc_cells' HQ46.out
  have zz := free_of HQ46.out
  go_wp2_with fail
  with_reducible refine (HFI.out _).mono ?_
  rintro e w7 ⟨rfl, hb7⟩
  have HQ47 := Lib.hid (Below.cellsAt hb7 HQ46.out)
  have HQ27 := Lib.hid (Below.cellsAt hb7 HQ26.out)
  have HR7 := Lib.hid (HR6.out.below hb7)
  have HU7 := Lib.hid (HU6.out.trans (But.of_below hb7))
  clear hb7 d0 d1 d2 d3 d4 d5 zz
  obtain ⟨d0, d1, d2, d3, d4, d5⟩ := acc_cells' HQ47.out
  have zz := free_of HQ47.out
  obtain ⟨r0, r1, r2, r3, r4, r5⟩ := acc_cells' HQ27.out
  have zr := free_of HQ27.out
  by_cases hgf : g = (f : Int)
  rotate_left
  · have HNO : Hid (∀ x r, AccD.good x → (f : Int) :: (numB th ++ (numB n ++ (numB ol ++ (numB ne ++ M5)))) ≠ x.enc last ++ r) := Lib.hid fun x r hg e => by
      obtain ⟨y1, y2, y3, y4, y5⟩ := acc_l1 hg e
      rw [HK.out] at y1
      rw [HD.out] at y2
      obtain ⟨z1, z2⟩ := acc_th hg y5
      obtain ⟨n', g1, g2, g3⟩ := acc_pl l0 l1 hg (by omega) z2
      obtain ⟨g4, z3⟩ := numB_pre _ _ _ _ g2
      have g5 : x.pl = pl := by rw [g3, ← g4, HPL.out]
      obtain ⟨k3, g6, g7, g8⟩ := acc_ol hg (by omega) z3
      obtain ⟨g9, z4⟩ := numB_pre _ _ _ _ g7
      obtain ⟨k4, j6, j7, j8⟩ := acc_ne hg (by omega) z4
      obtain ⟨j9, z5⟩ := numB_pre _ _ _ _ j7
      have hx : x = ⟨3, th, pl, (ol : Int), (ne : Int), false⟩ := AccD.ext' (by rw [y1]; rfl) (z1) (g5) (by rw [g8, g9]) (by rw [j8, j9]) (y2)
      exact hgf (by rw [HG.out, ← hx]; exact y3.symm)
    have e1 : (g == (f : Int)) = false := by simp [hgf]
    have e2 : (g != (f : Int)) = true := by simp [hgf]
    clear hgf
    go_wp2_with fail
    exact ⟨rfl, AccTo.no HU7.out HNO.out⟩
  have HGF := Lib.hid hgf
  have e1 : (g == (f : Int)) = true := by simp [hgf]
  have e2 : (g != (f : Int)) = false := by simp [hgf]
  clear hgf
  go_wp2_with fail
  have HGD : AccD.good ⟨3, th, pl, (ol : Int), (ne : Int), false⟩ := ⟨HMB.out, by simp only [AccD.wide]; have := HNO.out; have := HNN.out;  omega⟩
  have HEQ : (f : Int) :: (numB th ++ (numB n ++ (numB ol ++ (numB ne ++ M5)))) = AccD.enc ⟨3, th, pl, (ol : Int), (ne : Int), false⟩ last ++ M5 := enc_mk 3 th pl last ol ne false f n (numB n ++ (numB ol ++ (numB ne ++ M5))) (numB ol ++ (numB ne ++ M5)) (numB ne ++ M5) M5 (HG.out.symm.trans HGF.out) (by rw [if_neg (by decide)]; exact ⟨rfl, HPL.out⟩) (by simp) (by simp)
  refine bodyPost_ret (v := .agg (AccD.cells ⟨3, th, pl, (ol : Int), (ne : Int), false⟩)) (by simp [results, Try.results72, go_sem, AccD.cells, r0, r1, r2, r3, r4, r5]) rfl ?_
  refine ⟨?_, .inl ⟨⟨3, th, pl, (ol : Int), (ne : Int), false⟩, M5, HGD, HEQ, rfl, aW5, nW5, cW5, ?_⟩⟩
  · exact ((((((HU7.out.setNew (by rw [HQW.out]; exact Nat.le_refl _) _ _).setNew (by rw [HQW.out]; exact Nat.le_refl _) _ _).setNew (by rw [HQW.out]; exact Nat.le_refl _) _ _).setNew (by rw [HQW.out]; exact Nat.le_refl _) _ _).setNew (by rw [HQW.out]; exact Nat.le_refl _) _ _).setNew (by rw [HQW.out]; exact Nat.le_refl _) _ _)
  · rw [show AccD.next ⟨3, th, pl, (ol : Int), (ne : Int), false⟩ last = pl from by simp [AccD.next]]
    exact ((((((HR7.out.setOther HPQ.out _ _).setOther HPQ.out _ _).setOther HPQ.out _ _).setOther HPQ.out _ _).setOther HPQ.out _ _).setOther HPQ.out _ _)
set_option maxRecDepth 100000 in
set_option maxHeartbeats 4000000 in
theorem access_3t (B p f : Nat) (hf : f < 256) (hk : f % 8 = 3) (hd : decide ((f / 8) % 2 = 1) = true) (M1 : List Int) (last : Int) (l0 : -1073741824 ≤ last) (l1 : last ≤ 1073741824) (a : Option Addr) (len cap : Nat) (w : World) (h : RdrAt w B p ((f : Int) :: M1) last a len cap) :
    Calls Try.prog 72 #[.pointer (some ⟨p, 0, none⟩)] w (AccTo B p ((f : Int) :: M1) last w) := by
  have h7 := and7 ⟨f, hf⟩
  have h8 := and8 ⟨f, hf⟩
  simp only [hk] at h7
  have hd' : ((f / 8) % 2 = 1) = True := by simpa using hd
  simp only [hd', if_true, if_false] at h8
  have HK := Lib.hid hk
  have HD := Lib.hid hd
  clear hd hd' hk
  have HFF := Lib.hid hf; clear hf
  obtain ⟨q2, hq2⟩ : ∃ q2, q2 = w.heap.size := ⟨_, rfl⟩
  obtain ⟨W0, hW0⟩ : ∃ W0, W0 = w.alloc (.cells #[.int .i64 0, .int .i64 0, .int .i64 0, .int .u64 0, .int .u64 0, .bool false] 50) := ⟨_, rfl⟩
  have HQ2 : Hid (W0.heap[q2]? = some (.cells #[.int .i64 0, .int .i64 0, .int .i64 0, .int .u64 0, .int .u64 0, .bool false] 50 (0, 0))) := Lib.hid (by rw [hW0, hq2, heap_alloc_new])
  have HR0 : Hid (RdrAt W0 B p ((f : Int) :: M1) last a len cap) := Lib.hid (by rw [hW0]; exact h.alloc _)
  have HU0 : Hid (But p p w W0) := Lib.hid (by rw [hW0]; exact (But.refl p p w).alloc _)
  have hpq : p < q2 := by rw [hq2]; exact h.lt
  have HPQ := Lib.hid hpq
  have HQW := Lib.hid hq2
  have HW0 := Lib.hid hW0
  have HBY := Lib.hid (byte_yes B p f M1 last a len cap W0 HR0.out)
  clear h hpq hW0 hq2
  go_enter Try.func72, Try.ntmps72
  go_wp2_with fail
  rw [← HW0.out, ← HQW.out]
  with_reducible refine HBY.out.mono ?_
  rintro e w1 ⟨rfl, hb1, a1, n1, c1, hr1⟩
  have HU1 := Lib.hid (HU0.out.trans hb1)
  have HQ21 := Lib.hid (hb1.cells HQ2.out HPQ.out)
  have HR1 := Lib.hid hr1
  clear hb1 hr1 HBY
  by_cases hT : ∃ th M2, th < 64 ∧ M1 = numB th ++ M2
  rotate_left
  · have HNO : Hid (∀ x r, AccD.good x → (f : Int) :: M1 ≠ x.enc last ++ r) := Lib.hid fun x r hg e => by
      obtain ⟨-, -, -, h4, h5⟩ := acc_l1 hg e
      exact hT ⟨_, _, h4, h5⟩
    have HC : Hid (Calls Try.prog 71 #[.pointer (some ⟨p, 0, none⟩), .int .u64 64] w1 (Falls p w1)) := Lib.hid (below_no B p 64 (by decide) M1 last a1 n1 c1 w1 HR1.out (fun th M2 h e => hT ⟨th, M2, h, e⟩))
    clear hT
    go_wp2_with fail
    with_reducible refine HC.out.mono ?_
    rintro e w2 ⟨rfl, hb2⟩
    exact ⟨rfl, AccTo.no (HU1.out.trans hb2) HNO.out⟩
  obtain ⟨th, M2, hth, rfl⟩ := hT
  have HC2 : Hid (Calls Try.prog 71 #[.pointer (some ⟨p, 0, none⟩), .int .u64 64] w1 (BelowTo B p th M2 last w1)) := Lib.hid (below_yes B p th 64 hth (by decide) M2 last a1 n1 c1 w1 HR1.out)
  go_wp2_with fail
  with_reducible refine HC2.out.mono ?_
  rintro e w2 ⟨rfl, hb2, a2, n2, c2, hr2⟩
  obtain ⟨q4, hq4⟩ : ∃ q4, q4 = w2.heap.size := ⟨_, rfl⟩
  obtain ⟨W2, hW2⟩ : ∃ W2, W2 = w2.alloc (.cells #[.int .i64 3, .int .i64 (th : Int), .int .i64 0, .int .u64 0, .int .u64 0, .bool true] 50) := ⟨_, rfl⟩
  have HQ4 : Hid (W2.heap[q4]? = some (.cells #[.int .i64 3, .int .i64 (th : Int), .int .i64 0, .int .u64 0, .int .u64 0, .bool true] 50 (0, 0))) := Lib.hid (by rw [hW2, hq4, heap_alloc_new])
  have hq24 : q2 < q4 := by rw [hq4]; exact Nat.lt_of_lt_of_le (Array.getElem?_eq_some_iff.1 HQ21.out).1 hb2.size
  have HQ24 := Lib.hid hq24
  have HQ2a : Hid (W2.heap[q2]? = some (.cells #[.int .i64 0, .int .i64 0, .int .i64 0, .int .u64 0, .int .u64 0, .bool false] 50 (0, 0))) := Lib.hid (by rw [hW2, Below.heap_alloc _ _ _ (by rw [← hq4]; exact hq24)]; exact hb2.cells HQ21.out HPQ.out)
  have HRa : Hid (RdrAt W2 B p M2 last a2 n2 c2) := Lib.hid (by rw [hW2]; exact hr2.alloc _)
  have HUa : Hid (But p p w W2) := Lib.hid (by rw [hW2]; exact (HU1.out.trans hb2).alloc _)
  have HWQ : Hid (w.heap.size ≤ q4) := Lib.hid (by rw [hq4]; exact (HU1.out.trans hb2).size)
  have HP4 : Hid (p < q4) := Lib.hid (Nat.lt_trans HPQ.out hq24)
  have HW2 := Lib.hid hW2
  have HQ4W := Lib.hid hq4
  clear hb2 hr2 hW2 hq4 HC2
  obtain ⟨d0, d1, d2, d3, d4, d5⟩ := acc_cells' HQ4.out
  have zz := free_of HQ4.out
  have hne1 : q2 ≠ q4 := by omega
  have hne2 : q4 ≠ q2 := by omega
  by_cases hP : ∃ n M3, n ≤ 4294967296 ∧ M2 = numB n ++ M3
  rotate_left
  · have HNO : Hid (∀ x r, AccD.good x → (f : Int) :: (numB th ++ M2) ≠ x.enc last ++ r) := Lib.hid fun x r hg e => by
      obtain ⟨y1, y2, y3, y4, y5⟩ := acc_l1 hg e
      rw [HK.out] at y1
      rw [HD.out] at y2
      obtain ⟨z1, z2⟩ := acc_th hg y5
      obtain ⟨n, g1, g2, g3⟩ := acc_pl l0 l1 hg (by omega) z2
      exact hP ⟨n, _, g1, g2⟩
    have HC := Lib.hid (place_no B p M2 last a2 n2 c2 W2 HRa.out (fun n M3 h e => hP ⟨n, M3, h, e⟩))
    clear hP
    go_upto_region 3 with fail
    rw [← HW2.out, ← HQ4W.out]
    go_wp2_with fail
    with_reducible refine HC.out.mono ?_
    rintro e w3 ⟨rfl, hb3⟩
    exact ⟨rfl, AccTo.no (HUa.out.trans hb3) HNO.out⟩
  obtain ⟨n, M3, hn, rfl⟩ := hP
  obtain ⟨u0, u1⟩ := uns_bd n hn
  have HC3 := Lib.hid (place_yes B p n hn M3 last l0 l1 a2 n2 c2 W2 HRa.out)
  obtain ⟨pl, hpl⟩ : ∃ pl, pl = last + uns n := ⟨_, rfl⟩
  rw [← hpl] at HC3
  have HPL := Lib.hid hpl
  have hpl0 : -3300000000 ≤ pl := by omega
  have hpl1 : pl ≤ 3300000000 := by omega
  clear hpl u0 u1 hn
  go_upto_region 3 with fail
  rw [← HW2.out, ← HQ4W.out]
  go_wp2_with fail
  with_reducible refine HC3.out.mono ?_
  rintro e w3 ⟨rfl, hb3, a3, n3, c3, hr3⟩
  have HQ4b := Lib.hid (hb3.cells HQ4.out HP4.out)
  have HQ2b := Lib.hid (hb3.cells HQ2a.out HPQ.out)
  have HUb := Lib.hid (HUa.out.trans hb3)
  have HRb := Lib.hid hr3
  clear hb3 hr3 d0 d1 d2 d3 d4 d5 zz HC3
  obtain ⟨d0, d1, d2, d3, d4, d5⟩ := acc_cells' HQ4b.out
  have zz := free_of HQ4b.out
  obtain ⟨W3, hW3⟩ : ∃ W3, W3 = w3.setCell ⟨q4, 2, none⟩ (.int .i64 pl) := ⟨_, rfl⟩
  have HQ4c : Hid (W3.heap[q4]? = some (.cells #[.int .i64 3, .int .i64 (th : Int), .int .i64 pl, .int .u64 0, .int .u64 0, .bool true] 50 (0, 0))) := Lib.hid (by rw [hW3, heap_set _ HQ4b.out]; rfl)
  have HQ2c : Hid (W3.heap[q2]? = some (.cells #[.int .i64 0, .int .i64 0, .int .i64 0, .int .u64 0, .int .u64 0, .bool false] 50 (0, 0))) := Lib.hid (by rw [hW3, heap_setCell_ne _ _ _ _ hne1]; exact HQ2b.out)
  have HRc : Hid (RdrAt W3 B p M3 pl a3 n3 c3) := Lib.hid (by rw [hW3]; exact HRb.out.setOther HP4.out _ _)
  have HUc : Hid (But p p w W3) := Lib.hid (by rw [hW3]; exact HUb.out.setNew HWQ.out _ _)
  have HW3 := Lib.hid hW3; clear hW3
  go_upto_region 5 with fail
  rw [← HW3.out]
  clear d0 d1 d2 d3 d4 d5 zz
  obtain ⟨d0, d1, d2, d3, d4, d5⟩ := acc_cells' HQ4c.out
  have zz := free_of HQ4c.out
  have HO := Lib.hid fun w => olds_any 3 w
  have HNW := Lib.hid fun w => news_any 3 w
  rw [show AccD.oldsB 3 = true from by decide] at HO
  rw [show AccD.newsB 3 = true from by decide] at HNW
  go_wp2_with fail
  refine (HO.out _).mono ?_
  rintro e w' ⟨rfl, rfl⟩
  by_cases hO : ∃ ol M4, ol < 18446744073709551616 ∧ M3 = numB ol ++ M4
  rotate_left
  · have HNO : Hid (∀ x r, AccD.good x → (f : Int) :: (numB th ++ (numB n ++ M3)) ≠ x.enc last ++ r) := Lib.hid fun x r hg e => by
      obtain ⟨y1, y2, y3, y4, y5⟩ := acc_l1 hg e
      rw [HK.out] at y1
      rw [HD.out] at y2
      obtain ⟨z1, z2⟩ := acc_th hg y5
      obtain ⟨n', g1, g2, g3⟩ := acc_pl l0 l1 hg (by omega) z2
      obtain ⟨g4, z3⟩ := numB_pre _ _ _ _ g2
      have g5 : x.pl = pl := by rw [g3, ← g4, HPL.out]
      obtain ⟨k, g6, g7, g8⟩ := acc_ol hg (by omega) z3
      exact hO ⟨k, _, g6, g7⟩
    have HC := Lib.hid (rnum_no B p M3 pl a3 n3 c3 W3 HRc.out (fun n M h e => hO ⟨n, M, h, e⟩))
    clear hO
    go_wp2_with fail
    with_reducible refine HC.out.mono ?_
    rintro e w4 ⟨rfl, hb4⟩
    exact ⟨rfl, AccTo.no (HUc.out.trans hb4) HNO.out⟩
  obtain ⟨ol, M4, hnO, rfl⟩ := hO
  have HCO := Lib.hid (rnum_yes B p ol hnO M4 pl a3 n3 c3 W3 HRc.out)
  have HNO := Lib.hid hnO; clear hnO
  go_wp2_with fail
  with_reducible refine HCO.out.mono ?_
  rintro e w4 ⟨rfl, hb, aW4, nW4, cW4, hr⟩
  have HQ4d := Lib.hid (hb.cells HQ4c.out HP4.out)
  have HQ2d := Lib.hid (hb.cells HQ2c.out HPQ.out)
  have HUd := Lib.hid (HUc.out.trans hb)
  have HRd := Lib.hid hr
  clear hb hr d0 d1 d2 d3 d4 d5 zz HCO
  obtain ⟨d0, d1, d2, d3, d4, d5⟩ := acc_cells' HQ4d.out
  have zz := free_of HQ4d.out
  obtain ⟨W4, hW4⟩ : ∃ W, W = w4.setCell ⟨q4, 3, none⟩ (.int .u64 (ol : Int)) := ⟨_, rfl⟩
  have HQ4e : Hid (W4.heap[q4]? = some (.cells #[.int .i64 3, .int .i64 (th : Int), .int .i64 pl, .int .u64 (ol : Int), .int .u64 0, .bool true] 50 (0, 0))) := Lib.hid (by rw [hW4, heap_set _ HQ4d.out]; rfl)
  have HQ2e : Hid (W4.heap[q2]? = some (.cells #[.int .i64 0, .int .i64 0, .int .i64 0, .int .u64 0, .int .u64 0, .bool false] 50 (0, 0))) := Lib.hid (by rw [hW4, heap_setCell_ne _ _ _ _ hne1]; exact HQ2d.out)
  have HRe : Hid (RdrAt W4 B p M4 pl aW4 nW4 cW4) := Lib.hid (by rw [hW4]; exact HRd.out.setOther HP4.out _ _)
  have HUe : Hid (But p p w W4) := Lib.hid (by rw [hW4]; exact HUd.out.setNew HWQ.out _ _)
  have HW4 := Lib.hid hW4; clear hW4
  go_upto_region 7 with fail
  rw [← HW4.out]
  clear d0 d1 d2 d3 d4 d5 zz
  obtain ⟨d0, d1, d2, d3, d4, d5⟩ := acc_cells' HQ4e.out
  have zz := free_of HQ4e.out
  go_wp2_with fail
  refine (HNW.out _).mono ?_
  rintro e w' ⟨rfl, rfl⟩
  by_cases hN : ∃ ne M5, ne < 18446744073709551616 ∧ M4 = numB ne ++ M5
  rotate_left
  · have HNO : Hid (∀ x r, AccD.good x → (f : Int) :: (numB th ++ (numB n ++ (numB ol ++ M4))) ≠ x.enc last ++ r) := Lib.hid fun x r hg e => by
      obtain ⟨y1, y2, y3, y4, y5⟩ := acc_l1 hg e
      rw [HK.out] at y1
      rw [HD.out] at y2
      obtain ⟨z1, z2⟩ := acc_th hg y5
      obtain ⟨n', g1, g2, g3⟩ := acc_pl l0 l1 hg (by omega) z2
      obtain ⟨g4, z3⟩ := numB_pre _ _ _ _ g2
      have g5 : x.pl = pl := by rw [g3, ← g4, HPL.out]
      obtain ⟨k3, g6, g7, g8⟩ := acc_ol hg (by omega) z3
      obtain ⟨g9, z4⟩ := numB_pre _ _ _ _ g7
      obtain ⟨k, g6, g7, g8⟩ := acc_ne hg (by omega) z4
      exact hN ⟨k, _, g6, g7⟩
    have HC := Lib.hid (rnum_no B p M4 pl aW4 nW4 cW4 W4 HRe.out (fun n M h e => hN ⟨n, M, h, e⟩))
    clear hN
    go_wp2_with fail
    with_reducible refine HC.out.mono ?_
    rintro e w4 ⟨rfl, hb4⟩
    exact ⟨rfl, AccTo.no (HUe.out.trans hb4) HNO.out⟩
  obtain ⟨ne, M5, hnN, rfl⟩ := hN
  have HCN := Lib.hid (rnum_yes B p ne hnN M5 pl aW4 nW4 cW4 W4 HRe.out)
  have HNN := Lib.hid hnN; clear hnN
  go_wp2_with fail
  with_reducible refine HCN.out.mono ?_
  rintro e w5 ⟨rfl, hb, aW5, nW5, cW5, hr⟩
  have HQ4f := Lib.hid (hb.cells HQ4e.out HP4.out)
  have HQ2f := Lib.hid (hb.cells HQ2e.out HPQ.out)
  have HUf := Lib.hid (HUe.out.trans hb)
  have HRf := Lib.hid hr
  clear hb hr d0 d1 d2 d3 d4 d5 zz HCN
  obtain ⟨d0, d1, d2, d3, d4, d5⟩ := acc_cells' HQ4f.out
  have zz := free_of HQ4f.out
  obtain ⟨W5, hW5⟩ : ∃ W, W = w5.setCell ⟨q4, 4, none⟩ (.int .u64 (ne : Int)) := ⟨_, rfl⟩
  have HQ4g : Hid (W5.heap[q4]? = some (.cells #[.int .i64 3, .int .i64 (th : Int), .int .i64 pl, .int .u64 (ol : Int), .int .u64 (ne : Int), .bool true] 50 (0, 0))) := Lib.hid (by rw [hW5, heap_set _ HQ4f.out]; rfl)
  have HQ2g : Hid (W5.heap[q2]? = some (.cells #[.int .i64 0, .int .i64 0, .int .i64 0, .int .u64 0, .int .u64 0, .bool false] 50 (0, 0))) := Lib.hid (by rw [hW5, heap_setCell_ne _ _ _ _ hne1]; exact HQ2f.out)
  have HRg : Hid (RdrAt W5 B p M5 pl aW5 nW5 cW5) := Lib.hid (by rw [hW5]; exact HRf.out.setOther HP4.out _ _)
  have HUg : Hid (But p p w W5) := Lib.hid (by rw [hW5]; exact HUf.out.setNew HWQ.out _ _)
  have HW5 := Lib.hid hW5; clear hW5
  go_upto_region 9 with fail
  rw [← HW5.out]
  clear d0 d1 d2 d3 d4 d5 zz
  obtain ⟨d0, d1, d2, d3, d4, d5⟩ := acc_cells' HQ4g.out
  have zz := free_of HQ4g.out
  go_upto_region 9 with fail
  have HRT := Lib.hid fun w => right_acc ⟨3, th, pl, (ol : Int), (ne : Int), true⟩ w
  have HFI := Lib.hid fun (h : AccD.mayB ⟨3, th, pl, (ol : Int), (ne : Int), true⟩ = true) w => first_any ⟨3, th, pl, (ol : Int), (ne : Int), true⟩ h w
  by_cases hq : AccD.mayB ⟨3, th, pl, (ol : Int), (ne : Int), true⟩ = true
  rotate_left
  · have HNO : Hid (∀ x r, AccD.good x → (f : Int) :: (numB th ++ (numB n ++ (numB ol ++ (numB ne ++ M5)))) ≠ x.enc last ++ r) := Lib.hid fun x r hg e => by
      obtain ⟨y1, y2, y3, y4, y5⟩ := acc_l1 hg e
      rw [HK.out] at y1
      rw [HD.out] at y2
      obtain ⟨z1, z2⟩ := acc_th hg y5
      obtain ⟨n', g1, g2, g3⟩ := acc_pl l0 l1 hg (by omega) z2
      obtain ⟨g4, z3⟩ := numB_pre _ _ _ _ g2
      have g5 : x.pl = pl := by rw [g3, ← g4, HPL.out]
      obtain ⟨k3, g6, g7, g8⟩ := acc_ol hg (by omega) z3
      obtain ⟨g9, z4⟩ := numB_pre _ _ _ _ g7
      obtain ⟨k4, j6, j7, j8⟩ := acc_ne hg (by omega) z4
      obtain ⟨j9, z5⟩ := numB_pre _ _ _ _ j7
      have hx : x = ⟨3, th, pl, (ol : Int), (ne : Int), true⟩ := AccD.ext' (by rw [y1]; rfl) (z1) (g5) (by rw [g8, g9]) (by rw [j8, j9]) (y2)
      exact hq (by rw [← hx]; exact hg.1)
    rw [show AccD.mayB ⟨3, th, pl, (ol : Int), (ne : Int), true⟩ = false by simpa using hq] at HRT
    simp only [AccD.cells] at HRT
    clear hq HFI
    go_wp2_with fail
    with_reducible refine (HRT.out _).mono ?_
    rintro e w6 ⟨rfl, hb6⟩
    have HB6 := Lib.hid hb6; clear hb6 d0 d1 d2 d3 d4 d5 zz
    go_wp2_with fail
    exact ⟨rfl, AccTo.no (HUg.out.trans (But.of_below HB6.out)) HNO.out⟩
  have HFI := Lib.hid fun w => HFI.out hq w
  have HMB := Lib.hid hq
  rw [hq] at HRT
  have hfb := AccD.first_bd hq
  clear hq
  obtain ⟨g, hg⟩ : ∃ g, g = AccD.first ⟨3, th, pl, (ol : Int), (ne : Int), true⟩ := ⟨_, rfl⟩
  rw [← hg] at HFI hfb
  have HG := Lib.hid hg; clear hg
  obtain ⟨gb0, gb1⟩ := hfb
  simp only [AccD.cells] at HRT HFI
  go_wp2_with fail
  with_reducible refine (HRT.out _).mono ?_
  rintro e w6 ⟨rfl, hb6⟩
  have HQ46 := Lib.hid (Below.cellsAt hb6 HQ4g.out)
  have HQ26 := Lib.hid (Below.cellsAt hb6 HQ2g.out)
  have HR6 := Lib.hid (HRg.out.below hb6)
  have HU6 := Lib.hid (HUg.out.trans (But.of_below hb6))
  clear hb6 d0 d1 d2 d3 d4 d5 zz
  obtain ⟨d0, d1, d2, d3, d4, d5⟩ := acc_cells' HQ46.out
  have zz := free_of HQ46.out
  go_wp2_with fail
  with_reducible refine (HFI.out _).mono ?_
  rintro e w7 ⟨rfl, hb7⟩
  have HQ47 := Lib.hid (Below.cellsAt hb7 HQ46.out)
  have HQ27 := Lib.hid (Below.cellsAt hb7 HQ26.out)
  have HR7 := Lib.hid (HR6.out.below hb7)
  have HU7 := Lib.hid (HU6.out.trans (But.of_below hb7))
  clear hb7 d0 d1 d2 d3 d4 d5 zz
  obtain ⟨d0, d1, d2, d3, d4, d5⟩ := acc_cells' HQ47.out
  have zz := free_of HQ47.out
  obtain ⟨r0, r1, r2, r3, r4, r5⟩ := acc_cells' HQ27.out
  have zr := free_of HQ27.out
  by_cases hgf : g = (f : Int)
  rotate_left
  · have HNO : Hid (∀ x r, AccD.good x → (f : Int) :: (numB th ++ (numB n ++ (numB ol ++ (numB ne ++ M5)))) ≠ x.enc last ++ r) := Lib.hid fun x r hg e => by
      obtain ⟨y1, y2, y3, y4, y5⟩ := acc_l1 hg e
      rw [HK.out] at y1
      rw [HD.out] at y2
      obtain ⟨z1, z2⟩ := acc_th hg y5
      obtain ⟨n', g1, g2, g3⟩ := acc_pl l0 l1 hg (by omega) z2
      obtain ⟨g4, z3⟩ := numB_pre _ _ _ _ g2
      have g5 : x.pl = pl := by rw [g3, ← g4, HPL.out]
      obtain ⟨k3, g6, g7, g8⟩ := acc_ol hg (by omega) z3
      obtain ⟨g9, z4⟩ := numB_pre _ _ _ _ g7
      obtain ⟨k4, j6, j7, j8⟩ := acc_ne hg (by omega) z4
      obtain ⟨j9, z5⟩ := numB_pre _ _ _ _ j7
      have hx : x = ⟨3, th, pl, (ol : Int), (ne : Int), true⟩ := AccD.ext' (by rw [y1]; rfl) (z1) (g5) (by rw [g8, g9]) (by rw [j8, j9]) (y2)
      exact hgf (by rw [HG.out, ← hx]; exact y3.symm)
    have e1 : (g == (f : Int)) = false := by simp [hgf]
    have e2 : (g != (f : Int)) = true := by simp [hgf]
    clear hgf
    go_wp2_with fail
    exact ⟨rfl, AccTo.no HU7.out HNO.out⟩
  have HGF := Lib.hid hgf
  have e1 : (g == (f : Int)) = true := by simp [hgf]
  have e2 : (g != (f : Int)) = false := by simp [hgf]
  clear hgf
  go_wp2_with fail
  have HGD : AccD.good ⟨3, th, pl, (ol : Int), (ne : Int), true⟩ := ⟨HMB.out, by simp only [AccD.wide]; have := HNO.out; have := HNN.out;  omega⟩
  have HEQ : (f : Int) :: (numB th ++ (numB n ++ (numB ol ++ (numB ne ++ M5)))) = AccD.enc ⟨3, th, pl, (ol : Int), (ne : Int), true⟩ last ++ M5 := enc_mk 3 th pl last ol ne true f n (numB n ++ (numB ol ++ (numB ne ++ M5))) (numB ol ++ (numB ne ++ M5)) (numB ne ++ M5) M5 (HG.out.symm.trans HGF.out) (by rw [if_neg (by decide)]; exact ⟨rfl, HPL.out⟩) (by simp) (by simp)
  refine bodyPost_ret (v := .agg (AccD.cells ⟨3, th, pl, (ol : Int), (ne : Int), true⟩)) (by simp [results, Try.results72, go_sem, AccD.cells, r0, r1, r2, r3, r4, r5]) rfl ?_
  refine ⟨?_, .inl ⟨⟨3, th, pl, (ol : Int), (ne : Int), true⟩, M5, HGD, HEQ, rfl, aW5, nW5, cW5, ?_⟩⟩
  · exact ((((((HU7.out.setNew (by rw [HQW.out]; exact Nat.le_refl _) _ _).setNew (by rw [HQW.out]; exact Nat.le_refl _) _ _).setNew (by rw [HQW.out]; exact Nat.le_refl _) _ _).setNew (by rw [HQW.out]; exact Nat.le_refl _) _ _).setNew (by rw [HQW.out]; exact Nat.le_refl _) _ _).setNew (by rw [HQW.out]; exact Nat.le_refl _) _ _)
  · rw [show AccD.next ⟨3, th, pl, (ol : Int), (ne : Int), true⟩ last = pl from by simp [AccD.next]]
    exact ((((((HR7.out.setOther HPQ.out _ _).setOther HPQ.out _ _).setOther HPQ.out _ _).setOther HPQ.out _ _).setOther HPQ.out _ _).setOther HPQ.out _ _)
end Go.Proofs.Ytfjddkjfkgdihaa
