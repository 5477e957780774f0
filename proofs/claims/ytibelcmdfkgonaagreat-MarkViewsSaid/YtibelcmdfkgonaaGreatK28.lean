/- Layer 9: a ground laid (printed by l2.py).
   A map with int keys that the call makes, read key by key; its elements are whatever values. No program here.
   Layer 20 (view): the reader; may a link be. -/
import Derived.Test.YtibelcmdfkgonaaGreatK27
import Derived.Test.YtibelcmdfkgonaaGreatK4
import Derived.WalkKit
import Derived.MapKept
import Derived.Lib.Hide
import Derived.Test.YtibelcmdfkgonaaGreatK9
namespace Go.Proofs.YtibelcmdfkgonaaGreat
open Go.RowKit Go.BigFrame
set_option linter.unusedVariables false
set_option linter.unusedSimpArgs false
def gCells (c : Cfg) (a : Option Addr) (len cap : Nat) : Array Value := #[.int .i64 c.th, .int .i64 c.sl, .int .i64 c.lo, .int .i64 c.bu, .slice a len cap]
theorem results_tmp4 {fn : Func} {t u v x : Tmp} (h : fn.results = #[.tmp t, .tmp u, .tmp v, .tmp x]) (tmps : Array Value) (P : Program) (w : World) :
    (results fn tmps).run P w = .ok (.tuple #[tmps.getD t undef, tmps.getD u undef, tmps.getD v undef, tmps.getD x undef]) w := by
  simp [results, h]
set_option maxRecDepth 100000 in
theorem lay9_no (c : Cfg) (a : Option Addr) (len cap : Nat) (hl : len ≤ 9223372036854775807) (at_ wv : Nat → Int) (W : World) (hno : ¬ (c.few ∧ len ≤ 100)) : Calls Tryz.prog 9 #[.agg (gCells c a len cap)] W (LayTo c at_ wv len W) := by
  have HFW := Lib.hid fun w => few57 c w
  have HNO := Lib.hid hno
  have HFIN : Hid (∀ w', Below W.heap.size W w' → LayTo c at_ wv len W (.returned (.tuple #[.pointer none, .pointer none, .pointer none, .bool false])) w') := Lib.hid fun w' hb => .inl ⟨HNO.out, rfl, hb⟩
  have HLT : Hid (c.few → 100 < len) := Lib.hid fun h => by
    have := HNO.out
    exact Nat.lt_of_not_le fun h2 => this ⟨h, h2⟩
  obtain ⟨th, sl, lo', bu⟩ := c
  unfold gCells
  simp only
  obtain ⟨W1, hW1⟩ : ∃ W1, W1 = (W.alloc (.cells #[.int .i64 th, .int .i64 sl, .int .i64 lo', .int .i64 bu, .slice a len cap] 26)).alloc (.cells #[.int .i64 th, .int .i64 sl, .int .i64 lo', .int .i64 bu] 23) := ⟨_, rfl⟩
  have HW1 := Lib.hid hW1
  have HB1 : Hid (Below W.heap.size W W1) := Lib.hid (by rw [hW1]; exact ((Below.refl _ _).alloc (Nat.le_refl _) _).alloc (by simp) _)
  have HG1 : Hid (W1.heap[W.heap.size]? = some (.cells #[.int .i64 th, .int .i64 sl, .int .i64 lo', .int .i64 bu, .slice a len cap] 26 (0, 0))) := Lib.hid (by rw [hW1, Below.heap_alloc _ _ _ (by simp)]; exact heap_alloc_new _ _)
  have HC1 : Hid (W1.heap[W.heap.size + 1]? = some (.cells #[.int .i64 th, .int .i64 sl, .int .i64 lo', .int .i64 bu] 23 (0, 0))) := Lib.hid (by
    have := heap_alloc_new (W.alloc (.cells #[.int .i64 th, .int .i64 sl, .int .i64 lo', .int .i64 bu, .slice a len cap] 26)) (.cells #[.int .i64 th, .int .i64 sl, .int .i64 lo', .int .i64 bu] 23)
    rw [World.size_alloc] at this
    rw [hW1]; exact this)
  clear hW1
  by_cases hf : (⟨th, sl, lo', bu⟩ : Cfg).few
  · have h100 := HLT.out hf
    rw [bool_yes hf] at HFW
    have d1 : decide (100 < (len : Int)) = true := bool_yes (by omega)
    have d2 : decide (100 < len) = true := bool_yes h100
    unfold Cfg.cells at HFW
    clear hno HNO HLT hf h100
    go_enter Tryz.func9, Tryz.ntmps9
    go_wp2_with (go_at_call 57; refine (HFW.out _).mono ?_; rintro e w2 ⟨rfl, hb⟩; rw [← HW1.out] at hb; have H2 := Lib.hid (HB1.out.trans (hb.mono HB1.out.size)); have q4 : w2.cell? ⟨W.heap.size, 4, none⟩ = some (.slice a len cap) := cell_row ((hb.block _ (lt_row HG1.out)).trans HG1.out) 4 _ rfl; clear hb)
    (try simp only [Exit.inBlock, Exit.then])
    refine bodyPost_ret (results_tmp4 rfl _ _ _) rfl ?_
    exact HFIN.out _ H2.out
  · rw [bool_no hf] at HFW
    unfold Cfg.cells at HFW
    clear hno HNO HLT hf
    go_enter Tryz.func9, Tryz.ntmps9
    go_wp2_with (go_at_call 57; refine (HFW.out _).mono ?_; rintro e w2 ⟨rfl, hb⟩; rw [← HW1.out] at hb; have H2 := Lib.hid (HB1.out.trans (hb.mono HB1.out.size)); have q4 : w2.cell? ⟨W.heap.size, 4, none⟩ = some (.slice a len cap) := cell_row ((hb.block _ (lt_row HG1.out)).trans HG1.out) 4 _ rfl; clear hb)
    (try simp only [Exit.inBlock, Exit.then])
    refine bodyPost_ret (results_tmp4 rfl _ _ _) rfl ?_
    exact HFIN.out _ H2.out
set_option maxRecDepth 100000 in
set_option maxHeartbeats 4000000 in
theorem lay9_yes (th sl lo' bu : Nat) (hf : (⟨th, sl, lo', bu⟩ : Cfg).few) (a : Option Addr) (len cap : Nat) (hl : len ≤ 100) (at_ wv : Nat → Int) (W : World) (hP : PutsIn W a len at_ wv) : Calls Tryz.prog 9 #[.agg (gCells ⟨th, sl, lo', bu⟩ a len cap)] W (LayTo ⟨th, sl, lo', bu⟩ at_ wv len W) := by
  have HFW := Lib.hid fun w => few57 ⟨th, sl, lo', bu⟩ w
  rw [bool_yes hf] at HFW
  have HF := Lib.hid hf
  obtain ⟨⟨f1, f2, f3, f4, f5, f6, f7, f8⟩, f9, f10, f11, f12⟩ := hf
  simp only at f1 f2 f3 f4 f5 f6 f7 f8 f9 f10 f11 f12
  have HOF := Lib.hid fun w => of58 ⟨th, sl, lo', bu⟩ HF.out.1 w
  have HLA := Lib.hid fun w => lasting59 th sl lo' bu (by omega) (by omega) (by omega) (by omega) w
  have HPA := Lib.hid fun w => passing60 th sl lo' bu (by omega) (by omega) w
  have HNL : Hid (((nwN th sl lo' bu : Nat) : Int) = (⟨th, sl, lo', bu⟩ : Cfg).lv.ln * 8) := Lib.hid (nw_ln th sl lo' bu)
  have hnl := nw_lines th sl lo' bu
  have hnb := nw_bd th sl lo' bu (by omega) (by omega) (by omega) (by omega)
  obtain ⟨m, hm⟩ : ∃ m, m = 5 + (bu + 7) / 8 + th + th * ((lo' + 7) / 8) + sl := ⟨_, rfl⟩
  rw [← hm] at hnl
  have m0 : 5 ≤ m := by omega
  change Hid (∀ w, Calls Tryz.prog 59 _ w (WordsOf (nwN th sl lo' bu) _ w)) at HLA
  obtain ⟨nw, hnw⟩ : ∃ nw, nw = nwN th sl lo' bu := ⟨_, rfl⟩
  rw [← hnw] at HLA HNL hnl hnb
  obtain ⟨np, hnp⟩ : ∃ np, np = 2 + th + sl := ⟨_, rfl⟩
  rw [← hnp] at HPA
  have HM : Hid (nw = 8 * m ∧ nw ≤ 400 ∧ 5 ≤ m ∧ np ≤ 100 ∧ 1 ≤ th ∧ th ≤ 64) := Lib.hid ⟨hnl, hnb, m0, by omega, by omega, by omega⟩
  have hop0 : mayOpenE nw (th : Int) = 0 := by
    unfold mayOpenE
    have hw : wholeE nw = 0 := by unfold wholeE; rw [if_neg (by omega), if_neg (by omega)]
    rw [if_neg (by omega), if_neg (by rw [hw]; decide), if_neg (by omega)]
  have HOP : Hid (∀ (w : World) (b : Nat), w.heap[b]? = some (.cells (madeCells #[.int .u64 0] nw) 48 (0, 0)) → Calls Tryz.prog 61 #[.slice (some ⟨b, 0, none⟩) nw nw, .int .i64 (th : Int)] w fun e w' => Below w.heap.size w w' ∧ ∃ d kb sb wb fb c0 c1, e = .returned (.tuple #[.pointer (some ⟨d, 0, none⟩), .int .i64 0]) ∧ DevAt w' w.heap.size d kb sb wb fb m th c0 c1 (fun _ => 0)) := Lib.hid fun w b hw => by
    have h := open18_yes (some ⟨b, 0, none⟩) b 0 nw nw (fun _ => rfl) (Nat.le_refl _) (by omega) (th : Int) (fun _ => 0) w hop0 (lt_row hw) (fun j hj => by rw [Nat.zero_add, cell_in hw]; exact made_get _ _ _ hj)
    refine h.mono fun e w' hh => ?_
    obtain ⟨hb, ⟨h1, -⟩ | ⟨-, d, kb, sb, wb, fb, c0, c1, he, hd⟩⟩ := hh
    · exact absurd hop0 h1
    · rw [show nw / 8 = m by omega, Int.toNat_natCast] at hd
      exact ⟨hb, d, kb, sb, wb, fb, c0, c1, he, hd⟩
  have HNW := Lib.hid fun d w => new19_yes d np (by have := HM.out; omega) w
  have HMS : Hid (∀ d kb sb wb fb c0 c1 mm pb (w6 w7 w8 : World), DevAt w7 w6.heap.size d kb sb wb fb m th c0 c1 (fun _ => 0) → Below w7.heap.size w7 w8 → w7.heap.size ≤ mm → w7.heap.size ≤ pb → mm ≠ pb → MemRow w8 mm (.pointer (some ⟨d, 0, none⟩)) (.slice (some ⟨pb, 0, none⟩) np np) 0 0 ⟨0, 0, 0, 0, 0, false⟩ → RowAt w8 pb np (fun _ => .int .u64 0) →
      MemAt w8 (Mv.start mm d kb sb wb fb pb m th np c0 c1 fun _ => 0) ∧ ∀ k, (Mv.start mm d kb sb wb fb pb m th np c0 c1 fun _ => 0).own k → w6.heap.size ≤ k ∨ w7.heap.size ≤ k) := Lib.hid fun d kb sb wb fb c0 c1 mm pb w6 w7 w8 hd hb h1 h2 h3 h4 h5 =>
    mem_start hd hb h1 h2 h3 h4 h5 (by have := HM.out; omega) (by have := HM.out; omega) HM.out.2.2.2.2.2 (by have := HM.out; omega)
  have HRN : Hid (∀ (w : World) (b : Nat), w.heap[b]? = some (.cells (madeCells #[.int .u64 0] nw) 48 (0, 0)) → Calls Tryz.prog 63 #[.slice (some ⟨b, 0, none⟩) nw nw, .int .i64 (th : Int), .int .i64 (np : Int)] w (RNew (fun _ => 0) m th np w)) := Lib.hid fun w b hw => by
    have h := refNew9 b 0 m nw th np (by omega) (by omega) (by omega) (by omega) (by omega) (fun _ => 0) w (lt_row hw) (fun j hj => by rw [Nat.zero_add, cell_in hw]; exact made_get _ _ _ (by omega))
    rw [← hnl] at h
    exact h
  have mk1 := mk_row 33 48 _ _ 8 Tryz.underlying33 info42' rfl nw (by omega) (by omega)
  have HPU := Lib.hid hP
  have HLEN := Lib.hid hl
  unfold gCells
  simp only
  obtain ⟨W1, hW1⟩ : ∃ W1, W1 = (W.alloc (.cells #[.int .i64 (th : Int), .int .i64 (sl : Int), .int .i64 (lo' : Int), .int .i64 (bu : Int), .slice a len cap] 26)).alloc (.cells #[.int .i64 (th : Int), .int .i64 (sl : Int), .int .i64 (lo' : Int), .int .i64 (bu : Int)] 23) := ⟨_, rfl⟩
  have HW1 := Lib.hid hW1
  have HB1 : Hid (Below W.heap.size W W1) := Lib.hid (by rw [hW1]; exact ((Below.refl _ _).alloc (Nat.le_refl _) _).alloc (by simp) _)
  have HG1 : Hid (W1.heap[W.heap.size]? = some (.cells #[.int .i64 (th : Int), .int .i64 (sl : Int), .int .i64 (lo' : Int), .int .i64 (bu : Int), .slice a len cap] 26 (0, 0))) := Lib.hid (by rw [hW1, Below.heap_alloc _ _ _ (by simp)]; exact heap_alloc_new _ _)
  have HC1 : Hid (W1.heap[W.heap.size + 1]? = some (.cells #[.int .i64 (th : Int), .int .i64 (sl : Int), .int .i64 (lo' : Int), .int .i64 (bu : Int)] 23 (0, 0))) := Lib.hid (by
    have := heap_alloc_new (W.alloc (.cells #[.int .i64 (th : Int), .int .i64 (sl : Int), .int .i64 (lo' : Int), .int .i64 (bu : Int), .slice a len cap] 26)) (.cells #[.int .i64 (th : Int), .int .i64 (sl : Int), .int .i64 (lo' : Int), .int .i64 (bu : Int)] 23)
    rw [World.size_alloc] at this
    rw [hW1]; exact this)
  clear hW1
  have HQ : Hid (∀ w, Below W1.heap.size W1 w → w.cell? ⟨W.heap.size + 1, 0, none⟩ = some (.int .i64 (th : Int)) ∧ w.cell? ⟨W.heap.size + 1, 1, none⟩ = some (.int .i64 (sl : Int)) ∧ w.cell? ⟨W.heap.size + 1, 2, none⟩ = some (.int .i64 (lo' : Int)) ∧ w.cell? ⟨W.heap.size + 1, 3, none⟩ = some (.int .i64 (bu : Int))) := Lib.hid fun w hb => by
    have h := (hb.block _ (lt_row HC1.out)).trans HC1.out
    exact ⟨cell_row h 0 _ rfl, cell_row h 1 _ rfl, cell_row h 2 _ rfl, cell_row h 3 _ rfl⟩
  have d1 : decide (100 < (len : Int)) = false := bool_no (by omega)
  have d2 : decide (100 < len) = false := bool_no (by omega)
  unfold Cfg.cells at HFW HOF
  clear hP hl f1 f2 f3 f4 f5 f6 f7 f8 f9 f10 f11 f12 hnl hnb hm m0 hnw hnp hop0
  go_enter Tryz.func9, Tryz.ntmps9
  go_wp2_with (first | (go_at_call 57; refine (HFW.out _).mono ?_; rintro e w2 ⟨rfl, hb⟩; rw [← HW1.out] at hb; have B2 := Lib.hid hb; have q4 : w2.cell? ⟨W.heap.size, 4, none⟩ = some (.slice a len cap) := cell_row ((hb.block _ (lt_row HG1.out)).trans HG1.out) 4 _ rfl; obtain ⟨q0, q1, q2, q3⟩ := HQ.out _ B2.out; clear hb) | (go_at_call 58; refine (HOF.out _).mono ?_; rintro e w3 ⟨l, rfl, hb, hl, hlay⟩; have B3 := Lib.hid (B2.out.trans (hb.mono B2.out.size)); have L3 := Lib.hid (And.intro (Nat.le_trans B2.out.size hl) hlay); clear q4; clear q0 q1 q2 q3; obtain ⟨q0, q1, q2, q3⟩ := HQ.out _ B3.out; clear hb hl hlay) | (go_at_call 59; refine (HLA.out _).mono ?_; rintro e w4 ⟨v4, rfl, hb, ho⟩; obtain ⟨va, vc, rfl⟩ := own_slice_n ho; have B4 := Lib.hid (B3.out.trans (hb.mono B3.out.size)); have L4 := Lib.hid (L3.out.2.keep (hb.block _ L3.out.2.lt)); have B5 := Lib.hid (B4.out.alloc B4.out.size (.cells (madeCells #[.int .u64 0] nw) 48)); clear q0 q1 q2 q3; have HQ4 := Lib.hid (HQ.out _ B4.out); obtain ⟨q0, q1, q2, q3⟩ := HQ.out _ B5.out; clear hb ho) | (go_at_call 60; refine (HPA.out _).mono ?_; rintro e w6 ⟨v6, rfl, hb, ho⟩; obtain ⟨vd, ve, rfl⟩ := own_slice_n ho; have Z6 := Lib.hid hb.size; have B6 := Lib.hid (B5.out.trans (hb.mono B5.out.size)); have R6 := Lib.hid ((hb.block w4.heap.size (by simp)).trans (heap_alloc_new _ _)); have L6 := Lib.hid ((L4.out.keep (Below.heap_alloc _ _ _ L4.out.lt)).keep (hb.block _ (by have := L4.out.lt; simp; omega))); clear q0 q1 q2 q3; obtain ⟨q0, q1, q2, q3⟩ := HQ.out _ B6.out; clear hb ho) | (go_at_call 61; refine (HOP.out w6 w4.heap.size R6.out).mono ?_; rintro e w7 ⟨hb, d, kb, sb, wb, fb, e0, e1, rfl, hd⟩; have Z7 := Lib.hid hb.size; have B7 := Lib.hid (B6.out.trans (hb.mono B6.out.size)); have D7 := Lib.hid hd; have R7 := Lib.hid ((hb.block w4.heap.size (lt_row R6.out)).trans R6.out); have L7 := Lib.hid (L6.out.keep (hb.block _ L6.out.lt)); clear q0 q1 q2 q3; obtain ⟨q0, q1, q2, q3⟩ := HQ.out _ B7.out; clear hb hd) | (go_at_call 62; refine (HNW.out d _).mono ?_; rintro e w8 ⟨mm, pb, rfl, hb, m1, m2, m3, m4, m5⟩; have Z8 := Lib.hid hb.size; have B8 := Lib.hid (B7.out.trans (hb.mono B7.out.size)); have M8 := Lib.hid (HMS.out d kb sb wb fb e0 e1 mm pb w6 w7 w8 D7.out hb m1 m2 m3 m4 m5); have R8 := Lib.hid ((hb.block w4.heap.size (lt_row R7.out)).trans R7.out); have L8 := Lib.hid (L7.out.keep (hb.block _ L7.out.lt)); clear q0 q1 q2 q3; obtain ⟨q0, q1, q2, q3⟩ := HQ.out _ B8.out; clear hb m1 m2 m3 m4 m5) | (go_at_call 63; refine (HRN.out w8 w4.heap.size R8.out).mono ?_; rintro e w9 ⟨R, rfl, r1, r2, r3, hb, r4⟩; have B9 := Lib.hid (B8.out.trans (hb.mono B8.out.size)); have M9 := Lib.hid (M8.out.1.below hb); have L9 := Lib.hid (L8.out.keep (hb.block _ L8.out.lt)); have R9 := Lib.hid (And.intro r1 (And.intro r2 (And.intro r3 r4))); clear hb r1 r2 r3 r4))
  have HLY : Hid (∃ M0 : Mv, LyAt W #[.int .i64 (th : Int), .int .i64 (sl : Int), .int .i64 (lo' : Int), .int .i64 (bu : Int), .slice a len cap] ⟨th, sl, lo', bu⟩ (putsM M0 at_ wv 0) (putsR R at_ wv 0) l w9 ∧ M0.m = mm ∧ M0.n = m ∧ M0.ck = 0 ∧ M0.seen = (fun _ => 0) ∧ R.ck = 0 ∧ R.wm = 0) := Lib.hid (by
    have hs1 : W1.heap.size = W.heap.size + 1 + 1 := by rw [HW1.out]; simp
    have hl1 := L3.out.1
    have hl2 := L4.out.lt
    have z4 := B4.out.size
    have hs5 : (w4.alloc (.cells (madeCells #[.int .u64 0] nw) 48)).heap.size = w4.heap.size + 1 := by simp
    have z6 : w4.heap.size ≤ w6.heap.size := by have := Z6.out; rw [hs5] at this; omega
    have z7 := Z7.out
    have z8 := Z8.out
    refine ⟨Mv.start mm d kb sb wb fb pb m th np e0 e1 fun _ => 0, ⟨?_, (B9.out.block _ (lt_row HG1.out)).trans HG1.out, L9.out, M9.out, R9.out.1, ?_, ?_⟩, rfl, rfl, rfl, rfl, R9.out.2.1.hck, R9.out.2.2.2⟩
    · exact HB1.out.trans (B9.out.mono HB1.out.size)
    · exact (run_start mm d kb sb wb fb pb m th np e0 e1 (fun _ => 0) (fun _ => ⟨0, 0, 0, 0, 0, false⟩) R R9.out.2.1).1
    · refine ⟨by omega, fun k hk => ?_, fun k hk => ?_⟩
      · have h1 := M8.out.1.lt hk
        have h2 := M8.out.2 k hk
        refine ⟨by omega, by omega, fun hr => ?_⟩
        have := R9.out.2.2.1 k hr
        omega
      · have := R9.out.2.2.1 k hk
        omega)
  obtain ⟨M0, hly, hm1, hm2, hm3, hm4, hr1, hr2⟩ := HLY.out
  have HLY0 := Lib.hid hly
  have HM0 := Lib.hid (And.intro hm1 (And.intro hm2 (And.intro hm3 (And.intro hm4 (And.intro hr1 hr2)))))
  have hck := fun k => (putsM_all M0 at_ wv k).2.2.2.2
  have HCK : Hid (∀ k : Nat, k ≤ 100 → (putsM M0 at_ wv k).ck ≤ 1000000 ∧ (putsR R at_ wv k).ck ≤ 1000000) := Lib.hid fun k hk => ⟨by rw [hck k, hm3]; omega, by have := (putsR_all R at_ wv k).2.2.2; omega⟩
  have HMM : Hid (∀ k, (putsM M0 at_ wv k).m = mm ∧ (putsR R at_ wv k).m = R.m) := Lib.hid fun k => ⟨(putsM_all M0 at_ wv k).2.2.1.trans hm1, (putsR_all R at_ wv k).2.1⟩
  have HST : Hid (∀ (k : Nat) (w : World), k < len → MemAt w (putsM M0 at_ wv k) → Calls Tryz.prog 64 #[.pointer (some ⟨mm, 0, none⟩), .int .i64 0, .int .i64 (at_ k), .int .u64 (wv k)] w (Done (putsM M0 at_ wv k) (putsM M0 at_ wv (k + 1)) w)) := Lib.hid fun k w hk hm => by
    obtain ⟨b, off, -, -, -, -, hb, -⟩ := HPU.out k hk
    have h := store38 (putsM M0 at_ wv k) 0 (at_ k) (wv k) hb.1 hb.2 w hm (HCK.out k (by have := HLEN.out; omega)).1
    rw [(HMM.out k).1] at h
    exact h
  have HRS : Hid (∀ (k : Nat) (w : World), k < len → RefAt w (putsR R at_ wv k) → Calls Tryz.prog 65 #[.pointer (some ⟨R.m, 0, none⟩), .int .i64 2, .int .i64 0, .int .i64 (at_ k), .int .u64 0, .int .u64 (wv k)] w (RAcc (putsR R at_ wv k) (putsR R at_ wv (k + 1)) w)) := Lib.hid fun k w hk hm => by
    obtain ⟨b, off, -, -, -, -, hb, -⟩ := HPU.out k hk
    have h := refDo26_store (putsR R at_ wv k) 0 (at_ k) 0 (wv k) hb.1 hb.2 w hm (HCK.out k (by have := HLEN.out; omega)).2
    rw [(HMM.out k).2] at h
    exact h
  have HML : Hid (∀ k, (putsM M0 at_ wv (k + 1)).own = (putsM M0 at_ wv k).own ∧ (putsR R at_ wv (k + 1)).own = (putsR R at_ wv k).own) := Lib.hid fun k => ⟨(putsM_all M0 at_ wv (k + 1)).1.trans (putsM_all M0 at_ wv k).1.symm, (putsR_all R at_ wv (k + 1)).1.trans (putsR_all R at_ wv k).1.symm⟩
  have HLK : Hid (∀ k, Alike (putsM M0 at_ wv k) (putsR R at_ wv k)) := Lib.hid fun k => puts_like hly.like at_ wv k
  clear hly hm1 hm2 hm3 hm4 hr1 hr2 hck HLY HFW HOF HLA HPA HOP HNW HMS HRN mk1 d1 d2 HB1 HG1 HC1 HQ B2 B3 L3 B4 L4 B5 HQ4 B6 R6 L6 B7 D7 R7 L7 B8 M8 R8 L8 B9 M9 L9 R9 HW1 Z6 Z7 Z8 q0 q1 q2 q3
  go_loopw [16] (fun i wr => ∃ k : Nat, k ≤ len ∧ i = .int .i64 k ∧ Hid (LyAt W #[.int .i64 (th : Int), .int .i64 (sl : Int), .int .i64 (lo' : Int), .int .i64 (bu : Int), .slice a len cap] ⟨th, sl, lo', bu⟩ (putsM M0 at_ wv k) (putsR R at_ wv k) l wr)) (fun i _ => len - (intOf i).toNat)
  case atStart => exact ⟨0, Nat.zero_le _, rfl, HLY0⟩
  case round =>
    obtain ⟨k, hk, rfl, HK⟩ := hrel
    have q4 : wr.cell? ⟨W.heap.size, 4, none⟩ = some (.slice a len cap) := cell_row HK.out.box 4 _ rfl
    by_cases hlt : k < len
    · have d1 : decide ((k : Int) < (len : Int)) = true := bool_yes (by omega)
      have d2 : decide (k < len) = true := bool_yes hlt
      obtain ⟨b, off, ha, hb, c1, c2, hbd⟩ := HPU.out k hlt
      have x1 := (HK.out.below.cell (p := ⟨b, off + k * 2, none⟩) hb).trans c1
      have x2 := (HK.out.below.cell (p := ⟨b, off + k * 2 + 1, none⟩) hb).trans c2
      rw [ha] at q4
      have HA := Lib.hid ha
      have HC12 := Lib.hid (And.intro hb (And.intro c1 c2))
      have HLT := Lib.hid hlt
      have i0 : (0 : Int) ≤ (k : Int) := by omega
      have i1 : (k : Int) < (len : Int) := by omega
      clear ha hb c1 c2 hbd hlt
      go_wp2_with fail
      refine region_qd 0 13 (by kernel_rfl) (by kernel_rfl) (fun _ _ d _ _ h => by cases d <;> exact h) ?_
      simp only [List.take_succ_cons, List.take_zero, List.drop_succ_cons, List.drop_zero, Nat.reduceAdd]
      refine wpQuiet_nil ?_
      repeat (first | go_big_quiet_skip | (go_big_quiet_want; go_big_quiet_op; go_big_quiet_on))
      refine wpQuiet_nil ?_
      rintro _ ⟨q, rfl⟩
      have HK1 := Lib.hid (HK.out.grow (drewN_below (Below.refl _ wr) q))
      clear q4 x1 x2
      generalize wr.drewN q = wr1 at *
      go_wp2_with fail
      refine (HST.out k _ HLT.out HK1.out.mem).mono ?_
      rintro e wa ⟨⟨xv, rfl⟩, hm, ht⟩
      have HMA := Lib.hid (And.intro hm ht)
      have hA := HK1.out.storeM hm ht (HML.out k).1
      have q4 : wa.cell? ⟨W.heap.size, 4, none⟩ = some (.slice (some ⟨b, off, none⟩) len cap) := by rw [← HA.out]; exact cell_row hA.2.1 4 _ rfl
      have x1 := (hA.1.cell (p := ⟨b, off + k * 2, none⟩) HC12.out.1).trans HC12.out.2.1
      have x2 := (hA.1.cell (p := ⟨b, off + k * 2 + 1, none⟩) HC12.out.1).trans HC12.out.2.2
      clear hm ht hA
      go_wp2_with fail
      refine region_qd 0 13 (by kernel_rfl) (by kernel_rfl) (fun _ _ d _ _ h => by cases d <;> exact h) ?_
      simp only [List.take_succ_cons, List.take_zero, List.drop_succ_cons, List.drop_zero, Nat.reduceAdd]
      refine wpQuiet_nil ?_
      repeat (first | go_big_quiet_skip | (go_big_quiet_want; go_big_quiet_op; go_big_quiet_on))
      refine wpQuiet_nil ?_
      rintro _ ⟨q2, rfl⟩
      have HBA := Lib.hid (drewN_below (Below.refl wa.heap.size wa) q2)
      have HRA := Lib.hid ((HK1.out.storeM HMA.out.1 HMA.out.2 (HML.out k).1).2.2.2.below HBA.out)
      clear q4 x1 x2
      generalize wa.drewN q2 = wa1 at *
      go_wp2_with fail
      refine (HRS.out k _ HLT.out HRA.out).mono ?_
      rintro e wb ⟨he, hr, ht2⟩
      obtain ⟨xr, hxr⟩ : ∃ xr, xr = Value.agg (putsR R at_ wv (k + 1)).la.cells := ⟨_, rfl⟩
      rw [← hxr] at he
      subst he
      clear hxr
      have HKB := Lib.hid (HK1.out.both HMA.out.1 HMA.out.2 (HML.out k).1 HBA.out hr ht2 (HML.out k).2 (HLK.out (k + 1)))
      clear hr ht2
      go_wp2_with fail
      go_roundw
      case rel =>
        have hw : wrap64 ((k : Int) + 1) = (k : Int) + 1 := by have := HLT.out; have := HLEN.out; unfold wrap64; omega
        exact ⟨k + 1, by have := HLT.out; omega, by rw [hw]; go_num, HKB⟩
      case measure =>
        have hw : wrap64 ((k : Int) + 1) = (k : Int) + 1 := by have := HLT.out; have := HLEN.out; unfold wrap64; omega
        rw [hw]
        have h := HLT.out
        have e1 : (intOf (.int .i64 ((k : Int) + 1))).toNat = k + 1 := by show ((k : Int) + 1).toNat = k + 1; omega
        have e2 : (intOf (.int .i64 (k : Int))).toNat = k := by show ((k : Int)).toNat = k; omega
        rw [e1, e2]
        exact Nat.sub_lt_sub_left h (Nat.lt_succ_self k)
    · obtain rfl : k = len := by omega
      have d1 : decide ((k : Int) < (k : Int)) = false := by simp
      have d2 : decide (k < k) = false := by simp
      have HDV := Lib.hid (device11 (putsM M0 at_ wv k) wr HK.out.mem)
      have HSE := Lib.hid (seen24M (putsM M0 at_ wv k) wr HK.out.mem)
      have HPM := Lib.hid (putsM_all M0 at_ wv k)
      rw [HPM.out.2.2.1, HM0.out.1] at HDV
      rw [HPM.out.2.1, HM0.out.2.1, ← HM.out.1] at HSE
      have HFIN : Hid (∀ w', Below wr.heap.size wr w' → LayTo ⟨th, sl, lo', bu⟩ at_ wv k W (.returned (.tuple #[.pointer (some ⟨l, 0, none⟩), .pointer (some ⟨mm, 0, none⟩), .pointer (some ⟨R.m, 0, none⟩), .bool true])) w') := Lib.hid fun w' hb => by
        have hg := HK.out.grow hb
        refine .inr ⟨⟨HF.out, HLEN.out⟩, l, putsM M0 at_ wv k, putsR R at_ wv k, by rw [(HMM.out k).1, (HMM.out k).2], ?_⟩
        exact ⟨hg.below, hg.lay, hg.mem, hg.ref, hg.like, hg.lo, by rw [HPM.out.2.1, HM0.out.2.1, ← HM.out.1]; exact HNL.out, by rw [HPM.out.2.2.2.2, HM0.out.2.2.1]; omega, by rw [putsM_seen M0 at_ wv HM0.out.2.2.2.1 k, HPM.out.2.1]⟩
      generalize (putsM M0 at_ wv k).d = dv at *
      unfold WordsTo at HSE
      clear HK HST HRS HML HLK HPU HPM HCK HLY0 hlt hk
      go_wp2_with (first | (go_at_call 11; refine HDV.out.mono ?_; rintro e w' ⟨rfl, rfl⟩) | (go_at_call 12; refine HSE.out.mono ?_; rintro e wz ⟨sg, sc, rfl, hb, -, -⟩; have HZ := Lib.hid (HFIN.out _ hb); clear hb))
      (try simp only [Exit.inBlock, Exit.then])
      refine bodyPost_ret (results_tmp4 rfl _ _ _) rfl ?_
      exact HZ.out
end Go.Proofs.YtibelcmdfkgonaaGreat

namespace Go.Proofs.YtibelcmdfkgonaaGreat
open Go.RowKit

def entL (l : List (Int × Value × Nat)) : List MapEntry := l.map fun p => { key := .int .i64 p.1, val := p.2.1, born := p.2.2 }
/-- The place and the value of a key. -/
def findL (a : Int) : List (Int × Value × Nat) → Nat → Option (Nat × Value)
  | [], _ => none
  | p :: l, i => if a = p.1 then some (i, p.2.1) else findL a l (i + 1)
def lookL (a : Int) : List (Int × Value × Nat) → Option Value
  | [] => none
  | p :: l => if a = p.1 then some p.2.1 else lookL a l

theorem findL_none (a : Int) : ∀ (l : List (Int × Value × Nat)) (i : Nat), findL a l i = none → lookL a l = none ∧ ∀ p ∈ l, p.1 ≠ a
  | [], _, _ => ⟨rfl, fun _ h => by cases h⟩
  | p :: l, i, h => by
    unfold findL at h
    split at h
    · cases h
    · rename_i hne
      obtain ⟨h1, h2⟩ := findL_none a l (i + 1) h
      refine ⟨by rw [lookL, if_neg hne, h1], fun q hq => ?_⟩
      rcases List.mem_cons.1 hq with rfl | hq
      · exact fun e => hne e.symm
      · exact h2 q hq
theorem findL_some (a : Int) : ∀ (l : List (Int × Value × Nat)) (i j : Nat) (v : Value), findL a l i = some (j, v) → lookL a l = some v ∧ ∃ k b, j = i + k ∧ l[k]? = some (a, v, b) ∧ (∀ k', k' < k → ∀ p, l[k']? = some p → p.1 ≠ a)
  | [], _, _, _, h => by cases h
  | p :: l, i, j, v, h => by
    unfold findL at h
    split at h
    · rename_i he
      cases h
      exact ⟨by rw [lookL, if_pos he], 0, p.2.2, rfl, by simp [he], fun k' hk => absurd hk (Nat.not_lt_zero _)⟩
    · rename_i hne
      obtain ⟨h1, k, b, h2, h3, h4⟩ := findL_some a l (i + 1) j v h
      refine ⟨by rw [lookL, if_neg hne, h1], k + 1, b, by omega, by simpa using h3, fun k' hk q hq => ?_⟩
      cases k' with
      | zero => simp at hq; subst hq; exact fun e => hne e.symm
      | succ k' => exact h4 k' (by omega) q (by simpa using hq)

theorem findNow_entL (a : Int) : ∀ (l : List (Int × Value × Nat)) (i : Nat), Instr.findNow (.int .i64) (.int .i64 a) (entL l) i = some (findL a l i)
  | [], _ => rfl
  | p :: l, i => by
    by_cases h : a = p.1
    · simp [entL, Instr.findNow, Instr.sameNow, findL, h]
    · have := findNow_entL a l (i + 1)
      simp only [entL] at this
      have hb : (a == p.1) = false := by simp [h]
      simp [entL, Instr.findNow, Instr.sameNow, findL, h, hb, this]

/-- Block b is a map with int keys that holds, at key a, what f says. -/
def IMap (w : World) (b : Nat) (f : Int → Option Value) : Prop :=
  ∃ l clock, w.heap[b]? = some (.map (entL l).toArray clock) ∧ ∀ a, lookL a l = f a

theorem IMap.lt {w : World} {b : Nat} {f : Int → Option Value} (h : IMap w b f) : b < w.heap.size := by
  obtain ⟨l, c, hb, _⟩ := h; exact (Array.getElem?_eq_some_iff.1 hb).1
theorem IMap.of_block {w w' : World} {b : Nat} {f : Int → Option Value} (h : IMap w b f) (hb : w'.heap[b]? = w.heap[b]?) : IMap w' b f := by
  obtain ⟨l, c, hc, hf⟩ := h; exact ⟨l, c, by rw [hb]; exact hc, hf⟩
theorem IMap.below {w w' : World} {b B : Nat} {f : Int → Option Value} (h : IMap w b f) (hb : Below B w w') (hB : b < B) : IMap w' b f := h.of_block (hb.block b hB)
theorem IMap.made (w : World) : IMap (w.alloc (.map #[] 0)) w.heap.size (fun _ => none) := ⟨[], 0, heap_alloc_new w _, fun _ => rfl⟩

section
variable {P : Program} {t k e : TypeId} (ht : P.underlying t = some (.map k e)) (hk : P.underlying k = some (.int .i64))
include ht hk

theorem IMap.lookup {w : World} {b : Nat} {f : Int → Option Value} (h : IMap w b f) {z : Value} (hz : (zeroValue e).run P w = .ok z w) (a : Int) :
    (Instr.lookup t (.map (some b)) (.int .i64 a) true).run P w = .ok (.tuple #[(f a).getD z, .bool (f a).isSome]) w := by
  obtain ⟨l, c, hb, hf⟩ := h
  have hc : ∀ e, (Instr.checkKey e 10000 k (.int .i64 a)).run P w = .ok () w := fun e => MapKept.run_checkKey (k := .int .i64 a) hk (by simp [MapKept.IsKey]) e 9999
  have hfk := MapKept.run_findKey (w := w) (k := .int .i64 a) hk (findNow_entL a l 0)
  rw [← hf a]
  cases hfl : findL a l 0 with
  | none =>
    obtain ⟨h1, -⟩ := findL_none a l 0 hfl
    rw [hfl] at hfk
    simp [Instr.lookup, run_underlying ht, MapKept.run_getObj_map hb, hc, hfk, hz, Result.andThen, h1]
  | some p =>
    obtain ⟨j, v⟩ := p
    obtain ⟨h1, -⟩ := findL_some a l 0 j v hfl
    rw [hfl] at hfk
    simp [Instr.lookup, run_underlying ht, MapKept.run_getObj_map hb, hc, hfk, Result.andThen, h1]

theorem IMap.lookup1 {w : World} {b : Nat} {f : Int → Option Value} (h : IMap w b f) {z : Value} (hz : (zeroValue e).run P w = .ok z w) (a : Int) :
    (Instr.lookup t (.map (some b)) (.int .i64 a) false).run P w = .ok ((f a).getD z) w := by
  obtain ⟨l, c, hb, hf⟩ := h
  have hc : ∀ e, (Instr.checkKey e 10000 k (.int .i64 a)).run P w = .ok () w := fun e => MapKept.run_checkKey (k := .int .i64 a) hk (by simp [MapKept.IsKey]) e 9999
  have hfk := MapKept.run_findKey (w := w) (k := .int .i64 a) hk (findNow_entL a l 0)
  rw [← hf a]
  cases hfl : findL a l 0 with
  | none =>
    obtain ⟨h1, -⟩ := findL_none a l 0 hfl
    rw [hfl] at hfk
    simp [Instr.lookup, run_underlying ht, MapKept.run_getObj_map hb, hc, hfk, hz, Result.andThen, h1]
  | some p =>
    obtain ⟨j, v⟩ := p
    obtain ⟨h1, -⟩ := findL_some a l 0 j v hfl
    rw [hfl] at hfk
    simp [Instr.lookup, run_underlying ht, MapKept.run_getObj_map hb, hc, hfk, Result.andThen, h1]

theorem IMap.update {w : World} {b : Nat} {f : Int → Option Value} (h : IMap w b f) (a : Int) (v : Value) :
    ∃ w', (Instr.mapUpdate t (.map (some b)) (.int .i64 a) v).run P w = .ok () w' ∧ IMap w' b (fun x => if x = a then some v else f x) ∧ w.grownBy w' (some b) := by
  obtain ⟨l, c, hb, hf⟩ := h
  have hlt : b < w.heap.size := (Array.getElem?_eq_some_iff.1 hb).1
  have hc : ∀ e, (Instr.checkKey e 10000 k (.int .i64 a)).run P w = .ok () w := fun e => MapKept.run_checkKey (k := .int .i64 a) hk (by simp [MapKept.IsKey]) e 9999
  have hfk := MapKept.run_findKey (w := w) (k := .int .i64 a) hk (findNow_entL a l 0)
  have hgrow : ∀ o : Obj, w.grownBy { w with heap := w.heap.setIfInBounds b o } (some b) := fun o =>
    ⟨rfl, rfl, rfl, by simp, fun i _ hi => by
      have : ¬ b = i := fun e => hi (by rw [e])
      simp [this]⟩
  cases hfl : findL a l 0 with
  | none =>
    rw [hfl] at hfk
    obtain ⟨h1, h2⟩ := findL_none a l 0 hfl
    refine ⟨{ w with heap := w.heap.setIfInBounds b (.map ((entL l).toArray.push { key := .int .i64 a, val := v, born := c }) (c + 1)) }, ?_, ⟨l ++ [(a, v, c)], c + 1, ?_, fun x => ?_⟩, hgrow _⟩
    · simp [Instr.mapUpdate, run_underlying ht, MapKept.run_getObj_map hb, hc, hfk, MapKept.run_setObj_map _ hb, Result.andThen]
    · simp [hlt, entL]
    · have key : ∀ l : List (Int × Value × Nat), lookL x (l ++ [(a, v, c)]) = match lookL x l with | some u => some u | none => if x = a then some v else none := by
        intro l
        induction l with
        | nil => simp [lookL]
        | cons p l ih => simp only [List.cons_append, lookL]; split <;> simp_all
      rw [key, hf x]
      by_cases hx : x = a
      · subst hx; rw [← hf x, h1]; simp
      · simp only [if_neg hx]; cases f x <;> rfl
  | some p =>
    obtain ⟨j, u⟩ := p
    rw [hfl] at hfk
    obtain ⟨h1, j', bn, h2, h3, h4⟩ := findL_some a l 0 j u hfl
    obtain rfl : j = j' := by omega
    have hj : (entL l)[j]? = some { key := .int .i64 a, val := u, born := bn } := by simp [entL, h3]
    refine ⟨{ w with heap := w.heap.setIfInBounds b (.map ((entL l).toArray.modify j fun e => { e with key := .int .i64 a, val := v }) c) }, ?_, ⟨l.modify j fun p => (a, v, p.2.2), c, ?_, fun x => ?_⟩, hgrow _⟩
    · have hst : (Instr.keyThatStays (.int .i64 a) (.int .i64 a)).run P w = .ok (.int .i64 a) w := by simp [Instr.keyThatStays, Instr.sameBits]
      simp [Instr.mapUpdate, run_underlying ht, MapKept.run_getObj_map hb, hc, hfk, MapKept.run_setObj_map _ hb, Result.andThen, hj, hst]
    · have e1 : (entL l).toArray.modify j (fun e => { e with key := .int .i64 a, val := v }) = (entL (l.modify j fun p => (a, v, p.2.2))).toArray := by
        apply Array.ext'
        simp only [Array.toList_modify, entL]
        apply List.ext_getElem?
        intro i
        simp only [List.getElem?_modify, List.getElem?_map]
        by_cases hij : j = i
        · subst hij; simp [h3]
        · simp [hij]
      rw [e1]; simp [hlt]
    · have key : ∀ (l : List (Int × Value × Nat)) (j : Nat), l[j]? = some (a, u, bn) → (∀ k', k' < j → ∀ p, l[k']? = some p → p.1 ≠ a) → lookL x (l.modify j fun p => (a, v, p.2.2)) = if x = a then some v else lookL x l := by
        intro l
        induction l with
        | nil => intro j h; simp at h
        | cons p l ih =>
          intro j h3 h4
          cases j with
          | zero =>
            simp at h3; subst h3
            simp only [List.modify_zero_cons, lookL]
            by_cases hx : x = a
            · simp only [if_pos hx]
            · simp only [if_neg hx]
          | succ j =>
            have hp : p.1 ≠ a := h4 0 (by omega) p rfl
            simp only [List.modify_succ_cons, lookL]
            rw [ih j (by simpa using h3) (fun k' hk q hq => h4 (k' + 1) (by omega) q (by simpa using hq))]
            by_cases hx : x = a
            · rw [if_pos hx, if_pos hx, if_neg (fun e => hp (by rw [← hx]; exact e.symm))]
            · simp [hx]
      rw [key l j h3 h4, hf x]

/-- 'm[k] = v' at the operation. -/
theorem wpList_update_im (w : World) {ops : Array Oper} {rest : List Oper} {o : Oper} {a : Act} {Q : Exit → Act → World → Prop}
    (hg : o.guard = none) (m x v : Operand) (hop : o.op = Op.mapUpdate t m x v) (b : Nat) (f : Int → Option Value)
    (hm : a.eval m = .map (some b)) (h : IMap w b f) (key : Int) (val : Value) (hx : a.eval x = .int .i64 key) (hv : a.eval v = val)
    (hK : ∀ w', IMap w' b (fun y => if y = key then some val else f y) → w.grownBy w' (some b) → wpList P ops Q rest (a.put o.dst undef) w') :
    wpList P ops Q (o :: rest) a w := by
  refine wpList_plain hg fun K' hK' => ?_
  obtain ⟨w', hrun, r1, r2⟩ := h.update ht hk key val
  unfold Oper.wp
  simp [execOp, hop, hm, hx, hv, hrun, Result.andThen]
  exact hK' _ _ (hK w' r1 r2)
end
end Go.Proofs.YtibelcmdfkgonaaGreat

namespace Go.Proofs.YtibelcmdfkgonaaGreat
open Go.RowKit Go.BigFrame
set_option linter.unusedVariables false
set_option linter.unusedSimpArgs false
/-- A place: a slot, a list, whether it waits. -/
structure Place where
  slot : Nat
  list : Nat
  free : Bool
def placesV (ps : List Place) : List Value := ps.flatMap fun p => [.int .i64 (p.slot : Int), .int .i64 (p.list : Int), .bool p.free]
theorem placesV_len (ps : List Place) : (placesV ps).length = ps.length * 3 := by
  induction ps with
  | nil => rfl
  | cons a t ih => simp only [placesV, List.flatMap_cons, List.length_append, List.length_cons, List.length_nil] at *; rw [ih]; omega
theorem placesV_snoc (ps : List Place) (p : Place) : placesV (ps ++ [p]) = placesV ps ++ [.int .i64 (p.slot : Int), .int .i64 (p.list : Int), .bool p.free] := by simp [placesV]
/-- What a reader has. -/
structure Rd where
  r : Nat
  l : Nat
  wb : Nat
  n : Nat
  cw : Nat
  mb : Nat
  S : Nat
  v : Lv
  f : Nat → Nat
  pv : Value
def Rd.cells (K : Rd) : Array Value := #[.pointer (some ⟨K.l, 0, none⟩), .slice (some ⟨K.wb, 0, none⟩) K.n K.cw, .map (some K.mb), K.pv]
def metF (m : Nat → Bool) (a : Int) : Option Value := if 0 ≤ a ∧ m a.toNat = true then some (.bool true) else none
/-- A reader in memory: the slots met, the places found. -/
structure RdAt (W : World) (K : Rd) (m : Nat → Bool) (ps : List Place) : Prop where
  row : W.heap[K.r]? = some (.cells K.cells 159 (0, 0))
  lay : LayAt W K.l K.v
  words : RowAt W K.wb K.n fun k => .int .u64 (K.f k : Int)
  met : IMap W K.mb (metF m)
  places : W.ownsRow 0 52 3 K.pv ps.length (placesV ps)
  apart : K.r ≠ K.wb ∧ K.r ≠ K.mb ∧ K.wb ≠ K.mb ∧ K.l ≠ K.r ∧ K.l ≠ K.mb
  po : ∀ k, K.pv.ownBlock = some k → k ≠ K.r ∧ k ≠ K.wb ∧ k ≠ K.mb ∧ k ≠ K.l
  hS : (K.S : Int) = K.v.sl
  hn : (K.n : Int) = K.v.ln * 8
  u64 : ∀ k, k < K.n → K.f k < 18446744073709551616
def Rd.own (K : Rd) (k : Nat) : Prop := k = K.r ∨ k = K.mb ∨ K.pv.ownBlock = some k
theorem RdAt.keep {W W' : World} {K : Rd} {m : Nat → Bool} {ps : List Place} (h : RdAt W K m ps) (e : ∀ k, k < W.heap.size → (K.own k ∨ k = K.l ∨ k = K.wb) → W'.heap[k]? = W.heap[k]?) : RdAt W' K m ps :=
  { h with
    row := (e _ (lt_row h.row) (.inl (.inl rfl))).trans h.row
    lay := h.lay.keep (e _ h.lay.lt (.inr (.inl rfl)))
    words := h.words.keep (e _ h.words.lt (.inr (.inr rfl)))
    met := h.met.of_block (e _ h.met.lt (.inl (.inr (.inl rfl))))
    places := own_keep' h.places fun k hk => e k (h.places.lt k hk).2 (.inl (.inr (.inr hk))) }
theorem RdAt.below {W W' : World} {K : Rd} {m : Nat → Bool} {ps : List Place} (h : RdAt W K m ps) (hb : Below W.heap.size W W') : RdAt W' K m ps := h.keep fun k hk _ => hb.block k hk
set_option maxRecDepth 100000 in
theorem right230 (K : Rd) (m : Nat → Bool) (ps : List Place) (x T : Nat) (hx : x < 18446744073709551616) (hT : (T : Int) = K.v.th) (w : World) (h : RdAt w K m ps) :
    Calls Tryz.prog 230 #[.pointer (some ⟨K.r, 0, none⟩), .int .u64 (x : Int)] w (Gives (.bool (decide (rightL K.S T x))) w) := by
  have HC := Lib.hid fun w h => config70 K.l K.v w h
  have HLAY := Lib.hid h.lay
  have hU : U64 (x : Int) := by unfold U64; omega
  have hUC : U64 (cleanW (x : Int)) := by unfold U64 cleanW; omega
  have HCL := Lib.hid fun w => clean225 (x : Int) hU w
  have HR : Hid (∀ w, Calls Tryz.prog 224 #[.int .u64 (cleanW (x : Int)), .int .i64 K.v.sl, .int .i64 K.v.th] w (Gives (.bool (decide (rightL K.S T x))) w)) := Lib.hid fun w => by
    rw [← right_mark, hT, h.hS]; exact right224 _ _ _ hUC w
  have q0 := cell_row h.row 0 _ rfl
  clear h hU hUC hT
  generalize decide (rightL K.S T x) = r at *
  generalize cleanW (x : Int) = c at *
  generalize hlv : K.v = v at *
  clear hlv
  obtain ⟨th, sl, lo', bu, pt, pl, ls, ps, ln⟩ := v
  generalize K.l = l at *
  generalize K.r = y at *
  simp only at *
  go_enter Tryz.func230, Tryz.ntmps230
  go_wp2_with fail
  refine (HC.out _ HLAY.out).mono ?_
  rintro e w1 ⟨rfl, hb⟩
  have HB := Lib.hid hb
  clear hb q0
  go_wp2_with fail
  refine region_qd 0 6 (by kernel_rfl) (by kernel_rfl) (fun _ _ d _ _ h => by cases d <;> exact h) ?_
  simp only [List.take_succ_cons, List.take_zero, List.drop_succ_cons, List.drop_zero, Nat.reduceAdd]
  refine wpQuiet_nil ?_
  repeat (first | go_big_quiet_skip | (go_big_quiet_want; go_big_quiet_op; first | go_big_quiet_on | go_big_quiet_call ((go_at_call 225; exact Calls.quiet_of_same (HCL.out _)))))
  refine wpQuiet_nil ?_
  rintro _ ⟨k, rfl⟩
  go_wp2_with fail
  refine (HR.out _).mono ?_
  rintro e w2 ⟨rfl, hb⟩
  have HB2 := Lib.hid ((drewN_below (HB.out.alloc HB.out.size _) k).trans (hb.mono (by have := HB.out.size; simp; omega)))
  clear hb
  go_wp2_with fail
  go_ret
  exact ⟨rfl, HB2.out⟩
def wholeB (S T x : Nat) : Bool := decide (rightL S T x) && decide (lo x = 0)
def rootB (S T x : Nat) : Bool := decide (rightL S T x) && decide (hi x = 0)
theorem root142 (K : Rd) (m : Nat → Bool) (ps : List Place) (x T : Nat) (hx : x < 18446744073709551616) (hT : (T : Int) = K.v.th) (w : World) (h : RdAt w K m ps) :
    Calls Tryz.prog 142 #[.pointer (some ⟨K.r, 0, none⟩), .int .u64 (x : Int)] w (Gives (.bool (rootB K.S T x)) w) := by
  have HR := Lib.hid (right230 K m ps x T hx hT w h)
  have hU : U64 (x : Int) := by unfold U64; omega
  have HB := Lib.hid fun w => by95 (x : Int) hU w
  have e : (byW (x : Int) == (-1 : Int)) = decide (hi x = 0) := by
    rw [by_hi]
    by_cases h : hi x = 0
    · rw [bool_yes h]; simp [h]
    · rw [bool_no h, beq_eq_false_iff_ne]; omega
  have HE := Lib.hid e
  clear h hU hx hT e
  unfold rootB
  generalize decide (rightL K.S T x) = r at *
  rw [← HE.out]
  generalize byW (x : Int) = bw at *
  generalize K.r = y at *
  cases r
  · go_enter Tryz.func142, Tryz.ntmps142
    go_wp2_with fail
    refine HR.out.mono ?_
    rintro e w1 ⟨rfl, hb⟩
    have H1 := Lib.hid hb
    clear hb
    go_wp2_with fail
    go_ret
    exact ⟨rfl, H1.out⟩
  · go_enter Tryz.func142, Tryz.ntmps142
    go_wp2_with fail
    refine HR.out.mono ?_
    rintro e w1 ⟨rfl, hb⟩
    have H1 := Lib.hid hb
    clear hb
    go_wp2_with fail
    refine (HB.out _).mono ?_
    rintro e w2 ⟨rfl, hb⟩
    have H2 := Lib.hid (H1.out.trans (hb.mono H1.out.size))
    clear hb
    go_wp2_with fail
    go_ret
    exact ⟨by simp, H2.out⟩
theorem short144 (x : Nat) (hx : x < 18446744073709551616) (w : World) : Calls Tryz.prog 144 #[.int .u64 (x : Int)] w (Says (.bool (decide (x / 4294967296 = 0))) w) := by
  have e : (((x : Int) / 4294967296) == 0) = decide (x / 4294967296 = 0) := by
    by_cases h : x / 4294967296 = 0
    · rw [bool_yes h, beq_iff_eq]; omega
    · rw [bool_no h, beq_eq_false_iff_ne]; omega
  have HE := Lib.hid e
  clear e
  go_enter Tryz.func144, Tryz.ntmps144
  go_wp2_with fail
  go_ret
  refine ⟨?_, rfl⟩
  rw [← HE.out]
  first | rfl | (simp [Array.getD]; done)
end Go.Proofs.YtibelcmdfkgonaaGreat
