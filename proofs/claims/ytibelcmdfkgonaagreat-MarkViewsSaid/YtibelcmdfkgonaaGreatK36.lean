/- Layer 20: the law MarkViews (printed by l9.py). -/
import Derived.Test.YtibelcmdfkgonaaGreatK35
import Derived.Sort.CutIn
import Derived.Deep.RegionHeld3
namespace Go.Proofs.YtibelcmdfkgonaaGreat
open Go.RowKit Go.BigFrame
set_option linter.unusedVariables false
set_option linter.unusedSimpArgs false
set_option maxRecDepth 100000 in
theorem law3_no (c : Cfg) (a : Option Addr) (len cap : Nat) (hl : len ≤ 9223372036854775807) (at_ wv : Nat → Int) (W : World) (hno : ¬ (c.few ∧ len ≤ 100)) : Calls Tryz.prog 3 #[.agg (gCells c a len cap)] W (Gives (.bool true) W) := by
  have HL : Hid (∀ w, Calls Tryz.prog 9 #[.agg (gCells c a len cap)] w fun e w' => e = .returned (.tuple #[.pointer none, .pointer none, .pointer none, .bool false]) ∧ Below w.heap.size w w') := Lib.hid fun w => by
    refine (lay9_no c a len cap hl at_ wv w hno).mono ?_
    rintro e w' (⟨-, h1, h2⟩ | ⟨h, -⟩)
    · exact ⟨h1, h2⟩
    · exact absurd h hno
  have HA := Lib.hid fun w => awake10 w
  obtain ⟨th, sl, lo', bu⟩ := c
  unfold gCells at *
  simp only at *
  have HB1 : Hid (Below W.heap.size W (W.alloc (.cells #[.int .i64 th, .int .i64 sl, .int .i64 lo', .int .i64 bu, .slice a len cap] 26))) := Lib.hid ((Below.refl _ _).alloc (Nat.le_refl _) _)
  clear hno hl
  go_enter Tryz.func3, Tryz.ntmps3
  go_wp2_with (first | (go_at_call 9; refine (HL.out _).mono ?_; rintro e w2 ⟨rfl, hb⟩; have H2 := Lib.hid (HB1.out.trans (hb.mono HB1.out.size)); clear hb) | (go_at_call 10; refine (HA.out _).mono ?_; rintro e w3 ⟨rfl, hb⟩; have H3 := Lib.hid (H2.out.trans (hb.mono H2.out.size)); clear hb))
  go_ret
  exact ⟨rfl, H3.out⟩
set_option maxRecDepth 100000 in
set_option maxHeartbeats 4000000 in
theorem law3_yes (th sl lo' bu : Nat) (hf : (⟨th, sl, lo', bu⟩ : Cfg).few) (a : Option Addr) (len cap : Nat) (hl : len ≤ 100) (at_ wv : Nat → Int) (W : World) (hP : PutsIn W a len at_ wv) : Calls Tryz.prog 3 #[.agg (gCells ⟨th, sl, lo', bu⟩ a len cap)] W (Gives (.bool true) W) := by
  obtain ⟨v, hv⟩ : ∃ v, v = (⟨th, sl, lo', bu⟩ : Cfg).lv := ⟨_, rfl⟩
  have HV := Lib.hid hv
  have HLY : Hid (∀ w, PutsIn w a len at_ wv → Calls Tryz.prog 9 #[.agg #[.int .i64 (th : Int), .int .i64 (sl : Int), .int .i64 (lo' : Int), .int .i64 (bu : Int), .slice a len cap]] w fun e w' => ∃ l M R, e = .returned (.tuple #[.pointer (some ⟨l, 0, none⟩), .pointer (some ⟨M.m, 0, none⟩), .pointer (some ⟨R.m, 0, none⟩), .bool true]) ∧ Laid ⟨th, sl, lo', bu⟩ at_ wv len w w' l M R) := Lib.hid fun w hp => by
    refine (lay9_yes th sl lo' bu hf a len cap hl at_ wv w hp).mono ?_
    rintro e w' (⟨h, -⟩ | ⟨-, l, M, R, rfl, h⟩)
    · exact absurd ⟨hf, hl⟩ h
    · exact ⟨l, M, R, rfl, h⟩
  have HU : Hid (∀ i, i < len → 0 ≤ wv i ∧ wv i < 18446744073709551616) := Lib.hid fun i hi => by
    obtain ⟨b, off, -, -, -, -, -, h⟩ := hP i hi
    exact h
  obtain ⟨⟨f1, f2, f3, f4, f5, f6, f7, f8⟩, f9, f10, f11, f12⟩ := hf
  simp only at f1 f2 f3 f4 f5 f6 f7 f8 f9 f10 f11 f12
  have HB : Hid (1 ≤ bu ∧ sl ≤ 30 ∧ bu ≤ 8 ∧ len ≤ 100 ∧ 1 ≤ sl ∧ th ≤ 6 ∧ lo' ≤ 8) := Lib.hid ⟨by omega, by omega, by omega, hl, by omega, by omega, by omega⟩
  have HMK : Hid (∀ (w : World) (l : Nat), LayAt w l v → Calls Tryz.prog 13 #[.pointer (some ⟨l, 0, none⟩), .int .i64 0] w (NewMk l v 0 sl (bu + 2) w)) := Lib.hid fun w l h => new13 l v 0 sl bu (by rw [hv]; rfl) (by omega) (by rw [hv]; rfl) (by omega) w h
  obtain ⟨Wa, hWa⟩ : ∃ Wa, Wa = W.alloc (.cells #[.int .i64 (th : Int), .int .i64 (sl : Int), .int .i64 (lo' : Int), .int .i64 (bu : Int), .slice a len cap] 26) := ⟨_, rfl⟩
  have HWA := Lib.hid hWa
  have HBA : Hid (Below W.heap.size W Wa) := Lib.hid (by rw [hWa]; exact (Below.refl _ _).alloc (Nat.le_refl _) _)
  have HPA : Hid (PutsIn Wa a len at_ wv) := Lib.hid (hP.below HBA.out)
  have HBX : Hid (∀ w, Below Wa.heap.size Wa w → w.cell? ⟨W.heap.size, 1, none⟩ = some (.int .i64 (sl : Int)) ∧ w.cell? ⟨W.heap.size, 3, none⟩ = some (.int .i64 (bu : Int))) := Lib.hid fun w hb => by
    have h0 : Wa.heap[W.heap.size]? = some (.cells #[.int .i64 (th : Int), .int .i64 (sl : Int), .int .i64 (lo' : Int), .int .i64 (bu : Int), .slice a len cap] 26 (0, 0)) := by rw [hWa]; exact heap_alloc_new _ _
    have h := (hb.block _ (lt_row h0)).trans h0
    exact ⟨cell_row h 1 _ rfl, cell_row h 3 _ rfl⟩
  unfold gCells
  simp only
  clear hP hl f1 f2 f3 f4 f5 f6 f7 f8 f9 f10 f11 f12 hWa hv
  go_enter Tryz.func3, Tryz.ntmps3
  go_wp2_with (first
    | (go_at_call 9; rw [← HWA.out]; refine (HLY.out _ HPA.out).mono ?_; rintro e w2 ⟨l, M, R, rfl, h⟩; have L2 := Lib.hid h; clear h)
    | (go_at_call 11; refine (device11 M _ L2.out.mem).mono ?_; rintro e w2 ⟨rfl, rfl⟩)
    | (go_at_call 12; refine (seen24M M _ L2.out.mem).mono ?_; rintro e w3 ⟨wb, wc, rfl, hb, hr, hlo⟩; have B3 := Lib.hid hb; have R3 := Lib.hid (And.intro hr hlo); have Y3 : Hid (LayAt w3 l v) := Lib.hid (by rw [HV.out]; exact L2.out.lay.keep (hb.block _ L2.out.lay.lt)); clear hb hr hlo)
    | (go_at_call 13; refine (HMK.out _ _ Y3.out).mono ?_; rintro e w4 ⟨K, rfl, hb, hK, e1, e2, e3, e4, e5, e6, e7, e8⟩; have K4 := Lib.hid (And.intro hb (And.intro hK (And.intro e1 (And.intro e2 (And.intro e3 (And.intro e4 (And.intro e5 (And.intro e6 (And.intro e7 e8))))))))); have M4 := Lib.hid ((L2.out.mem.below B3.out).below hb); clear hb hK e1 e2 e3 e4 e5 e6 e7 e8)
    | (go_at_call 14; refine (clock20M M _ M4.out).mono ?_; rintro e w4 ⟨rfl, rfl⟩))
  obtain ⟨g, hg⟩ : ∃ g, g = gdOf th sl lo' bu (wordsN M) := ⟨_, rfl⟩
  have HG := Lib.hid hg
  have hn : 8 * M.n = nwN th sl lo' bu := by
    have h1 := L2.out.n
    have h2 := nw_ln th sl lo' bu
    omega
  have HUM : Hid (∀ k, 0 ≤ M.seen k ∧ M.seen k < 18446744073709551616) := Lib.hid fun k => by
    rw [L2.out.seen]
    exact wordsP_u64 (8 * M.n) at_ wv len HU.out len (Nat.le_refl _) k
  have HR0 : Hid (MkRun g M K.x K Wa.heap.size Wa w4 0 w4) := Lib.hid (by
    obtain ⟨hb, hK, e1, e2, e3, e4, e5, e6, e7, e8⟩ := K4.out
    rw [hg]
    exact run_zero HB.out.1 L2.out HUM.out B3.out hb hK e1 (e2.trans HV.out) e4 e5 e6 e7 e8)
  have HKS : Hid (K.S = sl ∧ K.l = l ∧ K.v = v) := Lib.hid ⟨K4.out.2.2.2.2.2.1, K4.out.2.2.1, K4.out.2.2.2.1⟩
  have HCK : Hid (M.ck = len) := Lib.hid L2.out.ck
  have HWB : Hid (∀ k w, MkRun g M K.x K Wa.heap.size Wa w4 k w → RowAt w wb (8 * M.n) (fun k => .int .u64 (M.seen k)) ∧ wb < w.heap.size) := Lib.hid fun k w h => by
    obtain ⟨M2, K2, h1, h2, h3, h4, h5, h6, h7, h8, h9, z1, z2, z3⟩ := h
    obtain ⟨hb, hK, e1, e2, e3, e4, e5, e6, e7, e8⟩ := K4.out
    have hlt := R3.out.1.lt
    have hs4 := hb.size
    have hr4 := R3.out.1.keep (hb.block wb hlt)
    have hr := hr4.keep (z3 wb (by omega) (fun ho => by have := L2.out.mem.lt ho; have := R3.out.2; omega) (fun ho => by have := e8 wb ho; omega))
    exact ⟨hr, hr.lt⟩
  have HSTP : Hid (∀ (k : Nat) (w : World), k < 200 → MkRun g M K.x K Wa.heap.size Wa w4 k w → Calls Tryz.prog 15 #[.pointer (some ⟨K.x, 0, none⟩), .pointer (some ⟨M.m, 0, none⟩)] w fun e W' => (∃ u, e = .returned u) ∧ MkRun g M K.x K Wa.heap.size Wa w4 (k + 1) W') := Lib.hid fun k w hk h => h.step (by rw [HKS.out.1]; have := HB.out; omega) (by omega) (by rw [HCK.out]; have := HB.out; omega)
  have HN := Lib.hid hn
  clear hg hn HLY HPA HMK L2 B3 R3 Y3 K4 M4
  obtain ⟨n1, hn1⟩ : ∃ n1, n1 = 3 * sl + bu + 2 := ⟨_, rfl⟩
  have HN1 := Lib.hid hn1
  have HNB : Hid (n1 ≤ 100) := Lib.hid (by have := HB.out; omega)
  clear hn1
  have s0 : 0 ≤ (sl : Int) := by omega
  have s1 : (sl : Int) ≤ 30 := by have := HB.out; omega
  have b0 : 0 ≤ (bu : Int) := by omega
  have b1 : (bu : Int) ≤ 8 := by have := HB.out; omega
  go_loopw [10] (fun i wr => ∃ k : Nat, k ≤ n1 ∧ i = .int .i64 k ∧ Hid (MkRun g M K.x K Wa.heap.size Wa w4 k wr)) (fun i _ => n1 - (intOf i).toNat)
  case atStart => exact ⟨0, Nat.zero_le _, rfl, HR0⟩
  case round =>
    obtain ⟨k, hk, rfl, HK⟩ := hrel
    have HBK : Hid (Below Wa.heap.size Wa wr) := Lib.hid (by obtain ⟨M2, K2, h1, h2, h3, h4, h5, h6, h7, h8, -⟩ := HK.out; exact h8)
    obtain ⟨q1, q3⟩ := HBX.out wr HBK.out
    by_cases hlt : k < n1
    · have d1 : decide ((k : Int) < 3 * (sl : Int) + (bu : Int) + 2) = true := bool_yes (by have := HN1.out; omega)
      have d2 : decide (k < 3 * sl + bu + 2) = true := bool_yes (by have := HN1.out; omega)
      have HLT := Lib.hid hlt
      clear hlt hk
      go_wp2_with (go_at_call 15; refine (HSTP.out k _ (by have := HLT.out; have := HNB.out; omega) HK.out).mono ?_; rintro e w5 ⟨⟨u, rfl⟩, h⟩; have HK5 := Lib.hid h; clear h)
      go_roundw
      case rel =>
        have hw : wrap64 ((k : Int) + 1) = (k : Int) + 1 := by have := HLT.out; have := HNB.out; unfold wrap64; omega
        exact ⟨k + 1, by have := HLT.out; omega, by first | (rw [hw]; go_num) | go_num, HK5⟩
      case measure =>
        have hw : wrap64 ((k : Int) + 1) = (k : Int) + 1 := by have := HLT.out; have := HNB.out; unfold wrap64; omega
        try rw [hw]
        have h := HLT.out
        have e1 : (intOf (.int .i64 ((k : Int) + 1))).toNat = k + 1 := by show ((k : Int) + 1).toNat = k + 1; omega
        have e2 : (intOf (.int .i64 (k : Int))).toNat = k := by show ((k : Int)).toNat = k; omega
        rw [e1, e2]
        exact Nat.sub_lt_sub_left h (Nat.lt_succ_self k)
    · obtain rfl : k = n1 := by omega
      have d1 : decide ((k : Int) < 3 * (sl : Int) + (bu : Int) + 2) = false := bool_no (by have := HN1.out; omega)
      have d2 : decide (k < 3 * sl + bu + 2) = false := bool_no (by have := HN1.out; omega)
      clear hlt hk HSTP HR0
      have hT : Told MS.start (placesP g) (MS.run g k MS.start) := by
        have h := mark_run (gdOf th sl lo' bu (wordsN M)) 16 _ (gd_heads th sl lo' bu (wordsN M))
        have e : 3 * (gdOf th sl lo' bu (wordsN M)).S + (gdOf th sl lo' bu (wordsN M)).heads.length = k := by
          show 3 * sl + ((List.range (bu + 2)).map wayF).length = k
          have := HN1.out
          simp; omega
        rw [e] at h
        rw [HG.out]; exact h
      have hVS : VSaid ⟨true, fun _ => false, []⟩ (placesP g) (vRun g 16 (fun k => wayF (k + 1)) (bu + 1)) := by
        rw [HG.out]
        exact view_run _ 16 (fun k => wayF (k + 1)) (bu + 1) (gd_heads th sl lo' bu (wordsN M))
      obtain ⟨crp, err, nn, sK, lK, he, hcr, hnn, hPl, hNd⟩ := both_tell hT hVS
      have hbd := run_bd g k
      have hcn := cntN_le g MS.start k
      have HP16 : Hid (Calls Tryz.prog 16 #[.pointer (some ⟨l, 0, none⟩), .slice (some ⟨wb, 0, none⟩) (8 * M.n) wc] wr (PlTold nn sK lK err wr)) := Lib.hid (by
        have hlay : LayAt wr l v := by
          obtain ⟨M2, K2, h1, h2, h3, h4, h5, h6, -⟩ := HK.out
          have := h2.lay
          rw [h6.2.1, h6.2.2, HKS.out.2.1, HKS.out.2.2] at this
          exact this
        have hln : ((8 * M.n : Nat) : Int) = v.ln * 8 := by rw [HN.out, HV.out]; exact nw_ln th sl lo' bu
        have h40 := nw_heads th sl lo' bu
        refine (places16 g l wb (8 * M.n) wc sl bu v (wordsN M) (fun r mb => by rw [HG.out, HV.out]; exact reads_of HN.out HUM.out l wb wc r mb) (by rw [HV.out]; rfl) hln ?_ (fun k hk => ?_) (by have := HB.out; omega) (by rw [HV.out]; rfl) (by have := HB.out; omega) HB.out.1 (by rw [HN.out]; exact h40) (fun k hk => by rw [HG.out, HV.out]; exact gd_bucket th sl lo' bu _ HB.out.1 k) wr hlay ?_).mono (fun e w' h => hPl wr e w' h)
        · rw [HV.out]
          have := nw_ln th sl lo' bu
          have h2 := hlay.ok.ln1
          rw [HV.out] at h2
          omega
        · have := HUM.out k
          unfold wordsN
          rw [if_pos hk]; omega
        · refine ((HWB.out k wr HK.out).1).congr fun j hj => ?_
          have := HUM.out j
          show Value.int .u64 (M.seen j) = Value.int .u64 ((wordsN M j : Nat) : Int)
          unfold wordsN
          rw [if_pos hj, Int.toNat_of_nonneg this.1])
      obtain ⟨c1, hc1⟩ : ∃ c1, c1 = M.ck + ((cntN g MS.start k : Nat) : Int) := ⟨_, rfl⟩
      have HEND : Hid (∀ w, MkRun g M K.x K Wa.heap.size Wa w4 k w → (Calls Tryz.prog 17 #[.pointer (some ⟨K.x, 0, none⟩)] w (NdTold nn sK lK w)) ∧ (Calls Tryz.prog 18 #[.pointer (some ⟨K.x, 0, none⟩)] w (Says (.bool true) w)) ∧ (Calls Tryz.prog 19 #[.pointer (some ⟨K.x, 0, none⟩)] w (Says (.bool crp) w)) ∧ (Calls Tryz.prog 14 #[.pointer (some ⟨M.m, 0, none⟩)] w (Says (.int .i64 c1) w)) ∧ (Calls Tryz.prog 11 #[.pointer (some ⟨M.m, 0, none⟩)] w (Says (.pointer (some ⟨M.d, 0, none⟩)) w)) ∧ (Calls Tryz.prog 12 #[.pointer (some ⟨M.d, 0, none⟩)] w (WordsTo M.seen (8 * M.n) w)) ∧ Below Wa.heap.size Wa w) := Lib.hid fun w h => by
        obtain ⟨M2, K2, h1, h2, h3, h4, h5, h6, h7, h8, -⟩ := h
        have c17 := nodes17 K2 w h2 (by rw [h4]; have := hbd.nodes; have := HNB.out; omega)
        have c18 := done18 K2 w h2
        have c19 := corrupt19 K2 w h2
        have c14 := clock20M M2 w h1
        have c11 := device11 M2 w h1
        have c12 := seen24M M2 w h1
        rw [h4] at c17 c18 c19
        rw [h5] at c17 c18 c19
        rw [hT.1] at c18
        rw [hcr] at c19
        rw [h7.ck, h7.m, ← hc1] at c14
        rw [h7.m, h7.d] at c11
        rw [h7.d, h7.seen, h7.n] at c12
        exact ⟨c17.mono fun e w' h => hNd w e w' h, c18, c19, c14, c11, c12, h8⟩
      have HC1 : Hid (0 ≤ M.ck ∧ M.ck ≤ 100 ∧ 0 ≤ c1 - M.ck ∧ c1 - M.ck ≤ (k : Int) ∧ c1 ≤ 300 ∧ 0 ≤ c1) := Lib.hid (by have := HCK.out; have := HB.out; have := HNB.out; omega)
      obtain ⟨N, hN⟩ : ∃ N, N = 8 * M.n := ⟨_, rfl⟩
      have HSM : Hid (∀ (w : World) (q cq : Nat), RowAt w q N (fun j => .int .u64 (M.seen j)) → RowAt w wb N (fun j => .int .u64 (M.seen j)) → Calls Tryz.prog 20 #[.slice (some ⟨q, 0, none⟩) N cq, .slice (some ⟨wb, 0, none⟩) N wc] w (Gives (.bool true) w)) := Lib.hid fun w q cq h1 h2 => same12M q wb N cq wc (by rw [hN, HN.out]; have := nw_bd th sl lo' bu (by have := HB.out; omega) (by have := HB.out; omega) (by have := HB.out; omega) (by have := HB.out; omega); omega) M.seen M.seen w h1 h2 (fun _ _ => rfl)
      rw [← hN] at HP16 HEND HWB
      rw [← hN]
      have HWBK : Hid (∀ w, MkRun g M K.x K Wa.heap.size Wa w4 k w → RowAt w wb N (fun j => .int .u64 (M.seen j))) := Lib.hid fun w h => (HWB.out k w h).1
      have HNN : Hid (nn ≤ 100) := Lib.hid (by have := hbd.nodes; have := HNB.out; omega)
      clear hT hVS hcr hnn hPl hNd hbd hcn hc1 hN HWB HUM HG
      generalize M.d = md at *
      generalize M.m = mm at *
      generalize M.ck = c0 at *
      go_wp2_with (first
        | (go_at_call 16; refine HP16.out.mono ?_; rintro e w6 ⟨pa, pc, rfl, hb, hpl⟩; have H6 := Lib.hid (HK.out.below hb); have P6 := Lib.hid hpl; clear hb hpl)
        | (go_at_call 17; refine (HEND.out _ H6.out).1.mono ?_; rintro e w7 ⟨na, nc, rfl, hb, hnd⟩; have H7 := Lib.hid (H6.out.below hb); have N7 := Lib.hid hnd; have P7 : Hid (∀ j, j < nn → ∃ gp, pa = some ⟨gp, 0, none⟩ ∧ gp < w7.heap.size ∧ w7.cell? ⟨gp, j * 3, none⟩ = some (.int .i64 (sK j : Int)) ∧ w7.cell? ⟨gp, j * 3 + 1, none⟩ = some (.int .i64 (lK j : Int))) := Lib.hid (fun j hj => by obtain ⟨gp, e, hl, c1, c2⟩ := P6.out j hj; exact ⟨gp, e, Nat.lt_of_lt_of_le hl hb.size, (hb.cell (p := ⟨gp, j * 3, none⟩) hl).trans c1, (hb.cell (p := ⟨gp, j * 3 + 1, none⟩) hl).trans c2⟩); clear hb hnd))
      go_cut [96] from 56 (fun v96 wx => v96 = .bool false ∧ Hid (Below w7.heap.size w7 wx))
      case first =>
        have HV1 : Hid (Below w7.heap.size w7 w7) := Lib.hid (Below.refl _ _)
        have HTR : Hid (∀ w w', Below w7.heap.size w7 w → Below w.heap.size w w' → Below w7.heap.size w7 w') := Lib.hid fun w w' h1 h2 => h1.trans (h2.mono h1.size)
        have HE7 : Hid (∀ w, Below w7.heap.size w7 w → MkRun g M K.x K Wa.heap.size Wa w4 k w) := Lib.hid fun w h => H7.out.below h
        have K18 : Hid (∀ w, Below w7.heap.size w7 w → Calls Tryz.prog 18 #[.pointer (some ⟨K.x, 0, none⟩)] w (fun e w' => e = .returned (.bool true) ∧ Below w7.heap.size w7 w')) := Lib.hid fun w h => ((HEND.out w (HE7.out w h)).2.1).mono fun e w' hh => ⟨hh.1, by rw [hh.2]; exact h⟩
        have K19 : Hid (∀ w, Below w7.heap.size w7 w → Calls Tryz.prog 19 #[.pointer (some ⟨K.x, 0, none⟩)] w (fun e w' => e = .returned (.bool crp) ∧ Below w7.heap.size w7 w')) := Lib.hid fun w h => ((HEND.out w (HE7.out w h)).2.2.1).mono fun e w' hh => ⟨hh.1, by rw [hh.2]; exact h⟩
        have K14 : Hid (∀ w, Below w7.heap.size w7 w → Calls Tryz.prog 14 #[.pointer (some ⟨mm, 0, none⟩)] w (fun e w' => e = .returned (.int .i64 c1) ∧ Below w7.heap.size w7 w')) := Lib.hid fun w h => ((HEND.out w (HE7.out w h)).2.2.2.1).mono fun e w' hh => ⟨hh.1, by rw [hh.2]; exact h⟩
        have K11 : Hid (∀ w, Below w7.heap.size w7 w → Calls Tryz.prog 11 #[.pointer (some ⟨mm, 0, none⟩)] w (fun e w' => e = .returned (.pointer (some ⟨md, 0, none⟩)) ∧ Below w7.heap.size w7 w')) := Lib.hid fun w h => ((HEND.out w (HE7.out w h)).2.2.2.2.1).mono fun e w' hh => ⟨hh.1, by rw [hh.2]; exact h⟩
        have K12 : Hid (∀ w, Below w7.heap.size w7 w → Calls Tryz.prog 12 #[.pointer (some ⟨md, 0, none⟩)] w (fun e w' => ∃ q c, e = .returned (.slice (some ⟨q, 0, none⟩) N c) ∧ Below w7.heap.size w7 w' ∧ RowAt w' q N (fun j => .int .u64 (M.seen j)))) := Lib.hid fun w h => ((HEND.out w (HE7.out w h)).2.2.2.2.2.1).mono fun e w' hh => by
          obtain ⟨q, c, rfl, hb, hr, -⟩ := hh
          exact ⟨q, c, rfl, HTR.out _ _ h hb, hr⟩
        have K20 : Hid (∀ q c w, Below w7.heap.size w7 w → RowAt w q N (fun j => .int .u64 (M.seen j)) → Calls Tryz.prog 20 #[.slice (some ⟨q, 0, none⟩) N c, .slice (some ⟨wb, 0, none⟩) N wc] w (fun e w' => e = .returned (.bool true) ∧ Below w7.heap.size w7 w')) := Lib.hid fun q c w h hr => (HSM.out w q c hr (HWBK.out w (HE7.out w h))).mono fun e w' hh => ⟨hh.1, HTR.out _ _ h hh.2⟩
        obtain ⟨x1, x3⟩ := HBX.out w7 (HEND.out w7 H7.out).2.2.2.2.2.2
        have HRV : Hid (W.heap.size < w7.heap.size) := Lib.hid (by
          have h1 := (HEND.out w7 H7.out).2.2.2.2.2.2.size
          rw [HWA.out] at h1
          simp at h1; omega)
        obtain ⟨dd, hdd⟩ : ∃ dd, dd = c1 - c0 := ⟨_, rfl⟩
        have hc1 : c1 = c0 + dd := by omega
        have hd0 : 0 ≤ dd := by have := HC1.out; omega
        have hd1 : dd ≤ 100 := by have := HC1.out; have := HNB.out; omega
        have hdk : dd ≤ (k : Int) := by have := HC1.out; omega
        have k2 : 0 ≤ c0 := HC1.out.1
        have k3 : c0 ≤ 100 := HC1.out.2.1
        rw [hc1] at K14
        clear hdd hc1
        have e0 : c0 + dd - c0 = dd := by omega
        have e9 : wrap64 dd = dd := by unfold wrap64; omega
        have dgt : decide (3 * (sl : Int) + (bu : Int) + 2 < dd) = false := bool_no (by have := HN1.out; omega)
        have dle : dd ≤ 3 * (sl : Int) + (bu : Int) + 2 := by have := HN1.out; omega
        have ww : ∀ z : Int, 0 ≤ z → z ≤ 1000 → IntKind.i64.wrap z = z := fun z h0 h1 => by simp [IntKind.wrap, IntKind.bits, IntKind.signed]; omega
        have w1 := ww (3 * (sl : Int)) (by omega) (by omega)
        have w2 := ww (3 * (sl : Int) + (bu : Int)) (by omega) (by omega)
        have w3 := ww (3 * (sl : Int) + (bu : Int) + 2) (by omega) (by omega)
        have w4 := ww dd hd0 (by omega)
        clear HC1 hdk ww
        clear HEND HE7 HTR H6 H7 HK HBK N7 P7 P6 HSM HWBK HP16 HBX
        go_region_held3 (fun w' => w'.cell? ⟨W.heap.size, 1, none⟩ = some (.int .i64 (sl : Int)) ∧ w'.cell? ⟨W.heap.size, 3, none⟩ = some (.int .i64 (bu : Int))) (go_keep) (first | (go_at_call 18; refine (K18.out _ HV1.out.drew).mono ?_; rintro e w8 ⟨rfl, hb⟩; have q1 : ∀ o, w8.cell? ⟨W.heap.size, o, none⟩ = w7.cell? ⟨W.heap.size, o, none⟩ := fun o => hb.cell (p := ⟨W.heap.size, o, none⟩) HRV.out; have HNOW := Lib.hid hb; clear hb) | (go_at_call 19; refine (K19.out _ HNOW.out).mono ?_; rintro e w9 ⟨rfl, hb⟩; have q1 : ∀ o, w9.cell? ⟨W.heap.size, o, none⟩ = w7.cell? ⟨W.heap.size, o, none⟩ := fun o => hb.cell (p := ⟨W.heap.size, o, none⟩) HRV.out; have HNOW := Lib.hid hb; clear hb) | (go_at_call 14; refine (K14.out _ HNOW.out).mono ?_; rintro e w10 ⟨rfl, hb⟩; have q1 : ∀ o, w10.cell? ⟨W.heap.size, o, none⟩ = w7.cell? ⟨W.heap.size, o, none⟩ := fun o => hb.cell (p := ⟨W.heap.size, o, none⟩) HRV.out; have HNOW := Lib.hid hb; clear hb) | (go_at_call 11; refine (K11.out _ HNOW.out).mono ?_; rintro e w11 ⟨rfl, hb⟩; have q1 : ∀ o, w11.cell? ⟨W.heap.size, o, none⟩ = w7.cell? ⟨W.heap.size, o, none⟩ := fun o => hb.cell (p := ⟨W.heap.size, o, none⟩) HRV.out; have HNOW := Lib.hid hb; clear hb) | (go_at_call 12; refine (K12.out _ HNOW.out).mono ?_; rintro e w12 ⟨sq, sc, rfl, hb, hr⟩; have HRS := Lib.hid hr; clear hr; have q1 : ∀ o, w12.cell? ⟨W.heap.size, o, none⟩ = w7.cell? ⟨W.heap.size, o, none⟩ := fun o => hb.cell (p := ⟨W.heap.size, o, none⟩) HRV.out; have HNOW := Lib.hid hb; clear hb) | (go_at_call 20; refine (K20.out _ _ _ HNOW.out HRS.out).mono ?_; rintro e w13 ⟨rfl, hb⟩; have q1 : ∀ o, w13.cell? ⟨W.heap.size, o, none⟩ = w7.cell? ⟨W.heap.size, o, none⟩ := fun o => hb.cell (p := ⟨W.heap.size, o, none⟩) HRV.out; have HNOW := Lib.hid hb; clear hb))
        all_goals
          go_wp2_with fail
          go_meet
          exact ⟨rfl, HNOW⟩
      case rest =>
        obtain ⟨rfl, HBW⟩ := hcut
        have HBT : Hid (Below W.heap.size W wc) := Lib.hid (HBA.out.trans ((((HEND.out w7 H7.out).2.2.2.2.2.2).trans (HBW.out.mono ((HEND.out w7 H7.out).2.2.2.2.2.2).size)).mono HBA.out.size))
        have HAW := Lib.hid fun w => awake10 w
        clear HEND H6 H7 HK HBK P6 HSM HWBK HP16 HBX HC1 he
        go_wp2_with fail
        go_loopw [14] (fun i wz => ∃ (j q : Nat), j ≤ nn ∧ i = .int .i64 j ∧ wz = wc.drewN q) (fun i _ => nn - (intOf i).toNat)
        case atStart => exact ⟨0, 0, Nat.zero_le _, rfl, rfl⟩
        case round =>
          obtain ⟨j, q, hj, rfl, rfl⟩ := hrel
          by_cases hlt : j < nn
          · have d1 : decide ((j : Int) < (nn : Int)) = true := bool_yes (by omega)
            have d2 : decide (j < nn) = true := bool_yes hlt
            have HLT := Lib.hid hlt
            obtain ⟨gp, ep, lp, p1, p2⟩ := P7.out j hlt
            obtain ⟨gn, en, ln, r1, r2⟩ := N7.out j hlt
            cases ep
            cases en
            have p1 := (HBW.out.cell (p := ⟨gp, j * 3, none⟩) lp).trans p1
            have p2 := (HBW.out.cell (p := ⟨gp, j * 3 + 1, none⟩) lp).trans p2
            have r1 := (HBW.out.cell (p := ⟨gn, j * 4, none⟩) ln).trans r1
            have r2 := (HBW.out.cell (p := ⟨gn, j * 4 + 1, none⟩) ln).trans r2
            have i0 : (0 : Int) ≤ (j : Int) := by omega
            have i1 : (j : Int) < (nn : Int) := by omega
            clear hlt hj lp ln
            go_wp2_with fail
            go_quiet (fail)
            go_wp2_with fail
            go_roundw
            case rel =>
              have hw : wrap64 ((j : Int) + 1) = (j : Int) + 1 := by have := HLT.out; have := HNN.out; unfold wrap64; omega
              exact ⟨j + 1, q + nq, by have := HLT.out; omega, by first | (rw [hw]; go_num) | go_num, by first | rfl | exact drewN_add' _ _ _⟩
            case measure =>
              have hw : wrap64 ((j : Int) + 1) = (j : Int) + 1 := by have := HLT.out; have := HNN.out; unfold wrap64; omega
              try rw [hw]
              have h := HLT.out
              have e1 : (intOf (.int .i64 ((j : Int) + 1))).toNat = j + 1 := by show ((j : Int) + 1).toNat = j + 1; omega
              have e2 : (intOf (.int .i64 (j : Int))).toNat = j := by show ((j : Int)).toNat = j; omega
              rw [e1, e2]
              exact Nat.sub_lt_sub_left h (Nat.lt_succ_self j)
          · obtain rfl : j = nn := by omega
            have d1 : decide ((j : Int) < (j : Int)) = false := by simp
            have d2 : decide (j < j) = false := by simp
            have HBQ := Lib.hid (HBT.out.trans ((drewN_below (Below.refl _ wc) q).mono HBT.out.size))
            clear hlt hj
            go_wp2_with (go_at_call 10; refine (HAW.out _).mono ?_; rintro e wf ⟨rfl, hb⟩; have HF := Lib.hid (HBQ.out.trans (hb.mono HBQ.out.size)); clear hb)
            go_ret
            exact ⟨rfl, HF.out⟩
theorem law3 (c : Cfg) (a : Option Addr) (len cap : Nat) (hl : len ≤ 9223372036854775807) (at_ wv : Nat → Int) (W : World) (hP : PutsIn W a len at_ wv) : Calls Tryz.prog 3 #[.agg (gCells c a len cap)] W (Gives (.bool true) W) := by
  by_cases h : c.few ∧ len ≤ 100
  · obtain ⟨th, sl, lo', bu⟩ := c
    have h1 := h.1.1
    obtain ⟨f1, f2, f3, f4, f5, f6, f7, f8⟩ := h1
    simp only at f1 f2 f3 f4 f5 f6 f7 f8
    obtain ⟨a1, rfl⟩ := Int.eq_ofNat_of_zero_le (show 0 ≤ th by omega)
    obtain ⟨a2, rfl⟩ := Int.eq_ofNat_of_zero_le (show 0 ≤ sl by omega)
    obtain ⟨a3, rfl⟩ := Int.eq_ofNat_of_zero_le (show 0 ≤ lo' by omega)
    obtain ⟨a4, rfl⟩ := Int.eq_ofNat_of_zero_le (show 0 ≤ bu by omega)
    exact law3_yes a1 a2 a3 a4 h.1 a len cap h.2 at_ wv W hP
  · exact law3_no c a len cap hl at_ wv W h
end Go.Proofs.YtibelcmdfkgonaaGreat
