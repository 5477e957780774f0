/- Layer 20 (view): a list (printed by v7.py). -/
import Derived.Test.YtibelcmdfkgonaaGreatK31
namespace Go.Proofs.YtibelcmdfkgonaaGreat
open Go.RowKit Go.BigFrame
set_option linter.unusedVariables false
set_option linter.unusedSimpArgs false
attribute [local go_sem] Oper.semAt_some
set_option maxRecDepth 100000 in
theorem list82_no (K : Rd) (g : Gd) (m : Nat → Bool) (ps : List Place) (hd n x : Nat) (hr : Reads g K) (h16 : hd < K.n) (hx : K.f hd = x) (W0 : World) (h : RdAt W0 K m ps) (hno : ¬ (rightL g.S g.T x ∧ hi x = 0)) :
    Calls Tryz.prog 82 #[.pointer (some ⟨K.r, 0, none⟩), .int .i64 (hd : Int), .int .i64 (n : Int)] W0 (RdTo K m ps (.bool false) W0) := by
  have hxb : x < 18446744073709551616 := by have := h.u64 hd h16; omega
  have HRO : Hid (∀ w, RdAt w K m ps → Calls Tryz.prog 142 #[.pointer (some ⟨K.r, 0, none⟩), .int .u64 (x : Int)] w (Gives (.bool false) w)) := Lib.hid fun w hw => by
    have := root142 K m ps x g.T hxb hr.T w hw
    rwa [show rootB K.S g.T x = false by
      rw [← Bool.not_eq_true]
      intro hb
      unfold rootB at hb
      rw [Bool.and_eq_true, decide_eq_true_eq, decide_eq_true_eq, hr.S] at hb
      exact hno hb] at this
  have HH := Lib.hid h
  obtain ⟨c0, c1, -, -, cw, s0, s1, s2⟩ := (VAt.start h (Below.refl _ _)).reads
  have cx := cw hd h16
  rw [hx] at cx
  obtain ⟨w1, hw1⟩ : ∃ w1, w1 = (W0.alloc (.cells #[.pointer (some ⟨K.r, 0, none⟩)] 156)).alloc (.cells #[.int .i64 (n : Int)] 3) := ⟨_, rfl⟩
  have B1 : Hid (Below W0.heap.size W0 w1) := Lib.hid (by rw [hw1]; exact ((Below.refl _ _).alloc (Nat.le_refl _) _).alloc (by simp) _)
  have HV1 : Hid (VAt W0 K [(W0.heap.size, #[.pointer (some ⟨K.r, 0, none⟩)], 156), (W0.heap.size + 1, #[.int .i64 (n : Int)], 3)] K.pv m ps w1) := Lib.hid (by
    have h := ((VAt.start HH.out (Below.refl _ _)).add #[.pointer (some ⟨K.r, 0, none⟩)] 156).add #[.int .i64 (n : Int)] 3
    simp only [World.size_alloc] at h
    rw [hw1]; exact h)
  have HW1 := Lib.hid hw1
  have HRD : Hid (∀ y : Over w1.heap.size w1, RdAt y.w K m ps) := Lib.hid fun y => (HV1.out.below y.below).rd
  have k0 : ∀ y : Over w1.heap.size w1, y.w.cell? ⟨W0.heap.size, 0, none⟩ = some (.pointer (some ⟨K.r, 0, none⟩)) := fun y => cell_in ((HV1.out.below y.below).box (W0.heap.size, #[.pointer (some ⟨K.r, 0, none⟩)], 156) (by simp))
  have k1 : ∀ y : Over w1.heap.size w1, y.w.cell? ⟨K.r, 1, none⟩ = some (.slice (some ⟨K.wb, 0, none⟩) K.n K.cw) := fun y => (HV1.out.below y.below).reads.2.1
  have k2 : ∀ y : Over w1.heap.size w1, y.w.cell? ⟨K.wb, hd, none⟩ = some (.int .u64 (x : Int)) := fun y => by
    have := (HV1.out.below y.below).reads.2.2.2.2.1 hd h16
    rwa [hx] at this
  have i0 : (0 : Int) ≤ (hd : Int) := by omega
  have i1 : (hd : Int) < (K.n : Int) := by omega
  have HFIN : Hid (∀ W', Below W0.heap.size W0 W' → RdTo K m ps (.bool false) W0 (.returned (.bool false)) W') := Lib.hid fun W' hb => ⟨rfl, (VAt.start HH.out hb).out⟩
  clear h hr h16 hx hxb cw hno
  clear c0 c1 cx s0 s1 s2
  obtain ⟨y, hy⟩ : ∃ y, y = K.r := ⟨_, rfl⟩
  obtain ⟨wb, hwb⟩ : ∃ wb, wb = K.wb := ⟨_, rfl⟩
  obtain ⟨kn, hkn⟩ : ∃ kn, kn = K.n := ⟨_, rfl⟩
  obtain ⟨kcw, hkcw⟩ : ∃ kcw, kcw = K.cw := ⟨_, rfl⟩
  obtain ⟨n1, hn1⟩ : ∃ n1 : Int, n1 = (n : Int) := ⟨_, rfl⟩
  rw [← hy] at k0 k1 HRO hw1 ⊢
  rw [← hwb] at k1 k2
  rw [← hkn] at k1 i1
  rw [← hkcw] at k1
  rw [← hn1] at hw1 ⊢
  have HY := Lib.hid (And.intro hy (And.intro hwb (And.intro hkn hn1)))
  clear hy hwb hkn hkcw hn1
  go_enter Tryz.func82, Tryz.ntmps82
  go_wp2_with fail
  rw [← hw1]
  clear hw1
  refine region_quiet_of (fun y : Over w1.heap.size w1 => y.w) (by kernel_rfl) (by kernel_rfl) (Over.first _ _) (Over.first_w _ _) ?_
  repeat (first | go_big_quiet_skip | (go_big_quiet_want; go_big_quiet_op; first | go_big_quiet_on | go_big_quiet_call ((rename_i y; go_at_call 142; refine (HRO.out _ (HRD.out y)).mono ?_; rintro e w' ⟨rfl, hb⟩; exact ⟨rfl, y.on w' (hb.mono y.below.size), rfl⟩))))
  refine wpQuiet_nil ?_
  rintro _ ⟨y, rfl⟩
  go_wp2_with fail
  go_ret
  exact HFIN.out _ (B1.out.trans (y.below.mono B1.out.size))
/-- A list's boxes behind k slots. -/
def lCs (g : Gd) (n x r hd b0 b1 : Nat) (k : Nat) : List (Nat × Array Value × TypeId) :=
  [(b0, #[.pointer (some ⟨r, 0, none⟩)], 156), (b0 + 1, #[.int .i64 (n : Int)], 3), (b1, #[.int .i64 (lastI g x k)], 3), (b1 + 1, #[.bool (lIs g n x k)], 4), (b1 + 2, #[.pointer (some ⟨r, 0, none⟩)], 156), (b1 + 3, #[.int .i64 (hd : Int)], 3)]
set_option maxRecDepth 100000 in
set_option maxHeartbeats 4000000 in
theorem list82_yes (K : Rd) (g : Gd) (m : Nat → Bool) (ps : List Place) (hd n x N : Nat) (hr : Reads g K) (h16 : hd < K.n) (hx : K.f hd = x) (W0 : World) (h : RdAt W0 K m ps) (hgo0 : rightL g.S g.T x ∧ hi x = 0)
    (hgo : ∀ k, k < N → goes g (wm g m x k) (wx g x k)) (hend : ¬ goes g (wm g m x N) (wx g x N)) (hN : N ≤ g.S) (hps : ps.length + g.S ≤ 200000) (hn1000 : n ≤ 1000) (hbu1 : 1 ≤ K.v.bu) (hbu : ∀ k : Nat, k < 4294967296 → (g.bucket k : Int) = bucketI (k : Int) K.v.bu) :
    Calls Tryz.prog 82 #[.pointer (some ⟨K.r, 0, none⟩), .int .i64 (hd : Int), .int .i64 (n : Int)] W0 (RdTo K (wm g m x N) (ps ++ plsL g n x N) (.bool (lIs g n x N && wholeB K.S g.T (wx g x N))) W0) := by
  have hxb : x < 18446744073709551616 := by have := h.u64 hd h16; omega
  have HRO : Hid (∀ w, RdAt w K m ps → Calls Tryz.prog 142 #[.pointer (some ⟨K.r, 0, none⟩), .int .u64 (x : Int)] w (Gives (.bool true) w)) := Lib.hid fun w hw => by
    have := root142 K m ps x g.T hxb hr.T w hw
    rwa [show rootB K.S g.T x = true by unfold rootB; rw [hr.S, Bool.and_eq_true]; exact ⟨decide_eq_true hgo0.1, decide_eq_true hgo0.2⟩] at this
  have HH := Lib.hid h
  obtain ⟨c0, c1, -, -, cw, s0, s1, s2⟩ := (VAt.start h (Below.refl _ _)).reads
  have cx := cw hd h16
  rw [hx] at cx
  obtain ⟨w1, hw1⟩ : ∃ w1, w1 = (W0.alloc (.cells #[.pointer (some ⟨K.r, 0, none⟩)] 156)).alloc (.cells #[.int .i64 (n : Int)] 3) := ⟨_, rfl⟩
  have B1 : Hid (Below W0.heap.size W0 w1) := Lib.hid (by rw [hw1]; exact ((Below.refl _ _).alloc (Nat.le_refl _) _).alloc (by simp) _)
  have HV1 : Hid (VAt W0 K [(W0.heap.size, #[.pointer (some ⟨K.r, 0, none⟩)], 156), (W0.heap.size + 1, #[.int .i64 (n : Int)], 3)] K.pv m ps w1) := Lib.hid (by
    have h := ((VAt.start HH.out (Below.refl _ _)).add #[.pointer (some ⟨K.r, 0, none⟩)] 156).add #[.int .i64 (n : Int)] 3
    simp only [World.size_alloc] at h
    rw [hw1]; exact h)
  have HW1 := Lib.hid hw1
  have HRD : Hid (∀ y : Over w1.heap.size w1, RdAt y.w K m ps) := Lib.hid fun y => (HV1.out.below y.below).rd
  have k0 : ∀ y : Over w1.heap.size w1, y.w.cell? ⟨W0.heap.size, 0, none⟩ = some (.pointer (some ⟨K.r, 0, none⟩)) := fun y => cell_in ((HV1.out.below y.below).box (W0.heap.size, #[.pointer (some ⟨K.r, 0, none⟩)], 156) (by simp))
  have k1 : ∀ y : Over w1.heap.size w1, y.w.cell? ⟨K.r, 1, none⟩ = some (.slice (some ⟨K.wb, 0, none⟩) K.n K.cw) := fun y => (HV1.out.below y.below).reads.2.1
  have k2 : ∀ y : Over w1.heap.size w1, y.w.cell? ⟨K.wb, hd, none⟩ = some (.int .u64 (x : Int)) := fun y => by
    have := (HV1.out.below y.below).reads.2.2.2.2.1 hd h16
    rwa [hx] at this
  have i0 : (0 : Int) ≤ (hd : Int) := by omega
  have i1 : (hd : Int) < (K.n : Int) := by omega
  have HS := Lib.hid h.hS
  have HX : Hid (x < 18446744073709551616 ∧ hd < K.n ∧ K.f hd = x) := Lib.hid ⟨hxb, h16, hx⟩
  have HR := Lib.hid hr
  have HGO := Lib.hid hgo
  have HEND := Lib.hid hend
  have HPS := Lib.hid (And.intro hN hps)
  have HWAY := Lib.hid fun w => way143 K.r hd w
  have HBU := Lib.hid (And.intro hbu1 (And.intro hbu h.lay.ok.bu1))
  have l0 : 0 ≤ (n : Int) := by omega
  have l1 : (n : Int) ≤ 1000 := by omega
  clear h hr h16 hx hxb cw hgo0 hgo hend hN hps hbu1 hbu hn1000
  have z0 : W0.heap.size < w1.heap.size := by rw [hw1]; simp; omega
  have HZ0 := Lib.hid z0
  clear z0
  clear c0 c1 cx s0 s1 s2
  refine (callsIn_wide (n := 9)).1 (callsIn_of_wp_marks Tryz.func82 rfl trivial ?_ rfl)
  refine wpIn_wide.2 ?_
  simp only [Tryz.ntmps82, List.size_toArray, List.length_cons, List.length_nil, Nat.reduceAdd, Nat.reduceSub, Array.replicate_succ, Array.replicate_zero, List.push_toArray, List.append_toArray, List.nil_append, List.cons_append]
  go_wp2_with fail
  rw [← hw1]
  clear hw1
  refine region_quiet_of (fun y : Over w1.heap.size w1 => y.w) (by kernel_rfl) (by kernel_rfl) (Over.first _ _) (Over.first_w _ _) ?_
  repeat (first | go_big_quiet_skip | (go_big_quiet_want; go_big_quiet_op; first | go_big_quiet_on | go_big_quiet_call ((rename_i y; go_at_call 142; refine (HRO.out _ (HRD.out y)).mono ?_; rintro e w' ⟨rfl, hb⟩; exact ⟨rfl, y.on w' (hb.mono y.below.size), rfl⟩))))
  refine wpQuiet_nil ?_
  rintro _ ⟨y, rfl⟩
  have HV2 := Lib.hid (HV1.out.below y.below)
  have HZ2 : Hid (W0.heap.size < y.w.heap.size) := Lib.hid (Nat.lt_of_lt_of_le HZ0.out y.below.size)
  clear k0 k1 k2 HV1 HRD HRO B1
  generalize y.w = wy at *
  have H4 := Lib.hid ((HV2.out.add #[.int .i64 (-1)] 3).add #[.bool true] 4)
  have cb : ((wy.alloc (Obj.cells #[.int .i64 (-1)] 3)).alloc (Obj.cells #[.bool true] 4)).cell? ⟨W0.heap.size, 0, none⟩ = some (.pointer (some ⟨K.r, 0, none⟩)) := cell_in (H4.out.box (W0.heap.size, #[.pointer (some ⟨K.r, 0, none⟩)], 156) (by simp))
  go_wp2_with (first | (go_at_call 143; refine (HWAY.out _).mono ?_; rintro e w5 ⟨rfl, hw5⟩; have H5 := Lib.hid hw5; clear hw5))
  have HVS : Hid (VAt W0 K (lCs g n x K.r hd W0.heap.size wy.heap.size 0) K.pv m ps w5) := Lib.hid (by
    have h := ((H4.out.add #[.pointer (some ⟨K.r, 0, none⟩)] 156).add #[.int .i64 (hd : Int)] 3)
    rw [H5.out]
    simp only [World.size_alloc] at h
    exact h)
  have HSZ : Hid (W0.heap.size ≤ w5.heap.size ∧ W0.heap.size < wy.heap.size) := Lib.hid ⟨HVS.out.go.size, HZ2.out⟩
  have HB12 : Hid (W0.heap.size + 1 < wy.heap.size) := Lib.hid (by
    have := lt_row (HV2.out.box (W0.heap.size + 1, #[.int .i64 (n : Int)], 3) (by simp))
    exact this)
  clear cb H5 H4 HV2 HWAY i0 i1
  generalize wy.heap.size = b1 at *
  refine (wpIn_wide (n := 9)).1 (range_way K g HR.out HS.out (lCs g n x K.r hd W0.heap.size b1) (fun k => ps ++ plsL g n x k) m x N hd (b1 + 2) (b1 + 3) 25 26 9 10 HX.out.1 HX.out.2 HGO.out HEND.out (fun k => by simp [lCs]) (fun k => by simp [lCs]) rfl HSZ.out.1 ⟨K.pv, by rw [plsL_zero, List.append_nil]; exact HVS.out⟩ ?_ ?_ ?_)
  · intro lp k W K' hK
    simp only [List.setIfInBounds_toArray, List.set_cons_succ, List.set_cons_zero] at hK ⊢
    gi_wp2
    exact hK
  · intro lp k W pv hk hV
    simp only [List.setIfInBounds_toArray, List.set_cons_succ, List.set_cons_zero]
    obtain ⟨s, hs⟩ : ∃ s, s = lo (wx g x k) - 1 := ⟨_, rfl⟩
    obtain ⟨g1, g2⟩ := goes_lt (HGO.out k hk)
    rw [← hs] at g1 g2
    rw [show ((lo (wx g x k) : Int) - 1) = (s : Int) by omega]
    obtain ⟨xl, hxl⟩ : ∃ xl, xl = wx g x (k + 1) := ⟨_, rfl⟩
    have hxlb : xl < 18446744073709551616 := by rw [hxl]; exact wx_u64 HR.out HX.out.1 (k + 1)
    have hp3 := HR.out.pl s g1
    obtain ⟨p, hp⟩ : ∃ p, p = (g.at_ + s) * 8 + 2 := ⟨_, rfl⟩
    obtain ⟨vv, hvv⟩ : ∃ vv, vv = g.val s := ⟨_, rfl⟩
    have hfp : K.f p = vv := by rw [HR.out.w p (by omega), hvv, hp]; rfl
    have HVL : Hid (∀ w, LayAt w K.l K.v → Calls Tryz.prog 77 #[.pointer (some ⟨K.l, 0, none⟩), .int .i64 (s : Int)] w (Drew (.int .i64 (p : Int)) w)) := Lib.hid fun w hl => by
      have h1 := val77 K.l K.v (s : Int) w hl
      have h2 := HR.out.slot HS.out g1 2
      rw [← hp] at h2
      rwa [show (2 : Int) = ((2 : Nat) : Int) from rfl, h2] at h1
    have hvb : vv < 18446744073709551616 := by rw [hvv]; exact HR.out.u64 _
    obtain ⟨sh, hsh⟩ : ∃ sh, sh = decide (vv / 4294967296 = 0) := ⟨_, rfl⟩
    have HSH : Hid (∀ w, Calls Tryz.prog 144 #[.int .u64 (vv : Int)] w (Says (.bool sh) w)) := Lib.hid fun w => by rw [hsh]; exact short144 vv hvb w
    obtain ⟨pk, hpkk⟩ : ∃ pk, pk = (g.at_ + s) * 8 + 1 := ⟨_, rfl⟩
    obtain ⟨kv, hkv⟩ : ∃ kv, kv = g.key s := ⟨_, rfl⟩
    have hfk : K.f pk = kv := by rw [HR.out.w pk (by omega), hkv, hpkk]; rfl
    have HKL : Hid (∀ w, LayAt w K.l K.v → Calls Tryz.prog 75 #[.pointer (some ⟨K.l, 0, none⟩), .int .i64 (s : Int)] w (Drew (.int .i64 (pk : Int)) w)) := Lib.hid fun w hl => by
      have h1 := key75 K.l K.v (s : Int) w hl
      have h2 := HR.out.slot HS.out g1 1
      rw [← hpkk] at h2
      rwa [show (1 : Int) = ((1 : Nat) : Int) from rfl, h2] at h1
    have hkb : kv < 18446744073709551616 := by rw [hkv]; exact HR.out.u64 _
    obtain ⟨sk, hsk⟩ : ∃ sk, sk = decide (kv / 4294967296 = 0) := ⟨_, rfl⟩
    have HSK : Hid (∀ w, Calls Tryz.prog 144 #[.int .u64 (kv : Int)] w (Says (.bool sk) w)) := Lib.hid fun w => by rw [hsk]; exact short144 kv hkb w
    obtain ⟨fr, hfr⟩ : ∃ fr, fr = decide (hi xl = 0) := ⟨_, rfl⟩
    obtain ⟨bw, hbw⟩ : ∃ bw, bw = byW (xl : Int) := ⟨_, rfl⟩
    have HBY : Hid (∀ w, Calls Tryz.prog 95 #[.int .u64 (xl : Int)] w (Gives (.int .i64 bw) w)) := Lib.hid fun w => by rw [hbw]; exact by95 (xl : Int) (by unfold U64; omega) w
    have dbw : (bw == -1) = fr := by
      rw [hbw, hfr, by_hi]
      by_cases h : hi xl = 0
      · rw [bool_yes h]; simp [h]
      · rw [bool_no h, beq_eq_false_iff_ne]; omega
    obtain ⟨i0', hi0⟩ : ∃ i0, i0 = lIs g n x k := ⟨_, rfl⟩
    obtain ⟨la, hla⟩ : ∃ la, la = lastI g x k := ⟨_, rfl⟩
    obtain ⟨d0, hd0⟩ : ∃ d0, d0 = decide (k = 0) := ⟨_, rfl⟩
    have dla : (la == -1) = d0 := by
      rw [hla, hd0]
      cases k with
      | zero => rfl
      | succ k =>
        have := goes_lt (HGO.out k (by omega))
        rw [bool_no (by omega), beq_eq_false_iff_ne]
        show (lo (wx g x k) : Int) - 1 ≠ -1
        omega
    have hlast : ∃ (pl kl : Nat), (k ≠ 0 → K.v.slot la 1 = (pl : Int)) ∧ pl < K.n ∧ K.f pl = kl ∧ kl < 18446744073709551616 ∧ (k ≠ 0 → afterB g kv (lastS g x k) = decide (kl < kv)) := by
      cases k with
      | zero => exact ⟨pk, kv, fun h => absurd rfl h, by omega, hfk, hkb, fun h => absurd rfl h⟩
      | succ k =>
        obtain ⟨t1, t2⟩ := goes_lt (HGO.out k (by omega))
        have t3 := HR.out.pl _ t1
        refine ⟨(g.at_ + (lo (wx g x k) - 1)) * 8 + 1, g.key (lo (wx g x k) - 1), fun _ => ?_, by omega, HR.out.w _ (by omega), HR.out.u64 _, fun _ => rfl⟩
        have e : la = ((lo (wx g x k) - 1 : Nat) : Int) := by rw [hla]; show (lo (wx g x k) : Int) - 1 = _; omega
        rw [e]
        exact HR.out.slot HS.out t1 1
    obtain ⟨pl, kl, hl1, hl2, hl3, hl4, hl5⟩ := hlast
    obtain ⟨ab, hab⟩ : ∃ ab, ab = decide (kl < kv) := ⟨_, rfl⟩
    have dab : decide ((kl : Int) < (kv : Int)) = ab := by
      rw [hab]
      by_cases h : kl < kv
      · rw [bool_yes h]; exact bool_yes (by omega)
      · rw [bool_no h]; exact bool_no (by omega)
    have dab' : decide (kl < kv) = ab := hab.symm
    have HLL : Hid (∀ w, LayAt w K.l K.v → k ≠ 0 → Calls Tryz.prog 75 #[.pointer (some ⟨K.l, 0, none⟩), .int .i64 la] w (Drew (.int .i64 (pl : Int)) w)) := Lib.hid fun w hl h0 => by
      have h1 := key75 K.l K.v la w hl
      rwa [hl1 h0] at h1
    obtain ⟨n2, hn2⟩ : ∃ n2, n2 = decide (n < 2) := ⟨_, rfl⟩
    have dn2 : decide ((n : Int) < 2) = n2 := by
      rw [hn2]
      by_cases h : n < 2
      · rw [bool_yes h]; exact bool_yes (by omega)
      · rw [bool_no h]; exact bool_no (by omega)
    have dn2' : decide (n < 2) = n2 := hn2.symm
    obtain ⟨bk, hbk⟩ : ∃ bk, bk = bucketI ((kv : Int) % 4294967296) K.v.bu := ⟨_, rfl⟩
    have HBK : Hid (∀ w, Calls Tryz.prog 140 #[.int .u32 (IntKind.u32.wrap (kv : Int)), .int .i64 K.v.bu] w (Says (.int .i64 bk) w)) := Lib.hid fun w => by
      rw [hbk, IntKind.wrap_u32]
      exact bucket140 _ _ (by omega) HBU.out.1 (by have := HBU.out.2.2; omega) w
    obtain ⟨bq, hbq⟩ : ∃ bq, bq = (bk == ((n : Int) - 2)) := ⟨_, rfl⟩
    have HONE : Hid (lIs g n x (k + 1) = (i0' && sk && sh && (d0 || ab) && (n2 || bq)) ∧ lastI g x (k + 1) = (s : Int)) := Lib.hid (by
      refine ⟨?_, by show (lo (wx g x k) : Int) - 1 = _; omega⟩
      show (lIs g n x k && lOne g n (lastS g x k) (lo (wx g x k) - 1)) = _
      rw [← hi0, ← hs]
      unfold lOne
      rw [← hkv, ← hvv, ← hsk, ← hsh]
      have ea : afterB g kv (lastS g x k) = (d0 || ab) := by
        rw [hd0]
        by_cases h0 : k = 0
        · subst h0; rfl
        · rw [hl5 h0, bool_no h0, Bool.false_or, hab]
      rw [ea]
      cases hsk' : sk with
      | false => simp
      | true =>
        have hk32 : kv < 4294967296 := by
          rw [hsk'] at hsk
          have := of_decide_eq_true hsk.symm
          omega
        have eb : (decide (n < 2) || decide (g.bucket kv = n - 2)) = (n2 || bq) := by
          rw [hn2]
          by_cases h2 : n < 2
          · rw [bool_yes h2]; rfl
          · rw [bool_no h2, Bool.false_or, Bool.false_or, hbq, hbk]
            have := HBU.out.2.1 kv hk32
            rw [show (kv : Int) % 4294967296 = (kv : Int) by omega, ← this]
            by_cases h3 : g.bucket kv = n - 2
            · rw [bool_yes h3, eq_comm, beq_iff_eq]; omega
            · rw [bool_no h3, eq_comm, beq_eq_false_iff_ne]; omega
        rw [eb]
        simp [Bool.and_assoc])
    have HKN : Hid (k < N ∧ (d0 = false → k ≠ 0)) := Lib.hid ⟨hk, fun h => by rw [hd0] at h; exact of_decide_eq_false h⟩
    obtain ⟨cs9, hcs9⟩ : ∃ cs9 : Int → Bool → List (Nat × Array Value × TypeId), cs9 = fun las i => [(W0.heap.size, #[.pointer (some ⟨K.r, 0, none⟩)], 156), (W0.heap.size + 1, #[.int .i64 (n : Int)], 3), (b1, #[.int .i64 las], 3), (b1 + 1, #[.bool i], 4), (b1 + 2, #[.pointer (some ⟨K.r, 0, none⟩)], 156), (b1 + 3, #[.int .i64 (hd : Int)], 3)] := ⟨_, rfl⟩
    have HVb : Hid (VAt W0 K (cs9 la i0') pv (wm g m x (k + 1)) (ps ++ plsL g n x k) W) := Lib.hid (by rw [hcs9, hi0, hla]; exact hV)
    have HC9 := Lib.hid hcs9
    have HBX : Hid (∀ las i pv mk pk w, VAt W0 K (cs9 las i) pv mk pk w → w.cell? ⟨W0.heap.size, 0, none⟩ = some (.pointer (some ⟨K.r, 0, none⟩)) ∧ w.cell? ⟨W0.heap.size + 1, 0, none⟩ = some (.int .i64 (n : Int)) ∧ w.cell? ⟨b1, 0, none⟩ = some (.int .i64 las) ∧ w.cell? ⟨b1 + 1, 0, none⟩ = some (.bool i) ∧ w.frozen? ⟨b1, 0, none⟩ = false ∧ w.frozen? ⟨b1 + 1, 0, none⟩ = false) := Lib.hid (by
      intro las i pv mk pk w h
      have hbx := h.box
      rw [hcs9] at hbx
      refine ⟨cell_in (hbx (W0.heap.size, #[.pointer (some ⟨K.r, 0, none⟩)], 156) (by simp)), cell_in (hbx (W0.heap.size + 1, #[.int .i64 (n : Int)], 3) (by simp)), cell_in (hbx (b1, #[.int .i64 las], 3) (by simp)), cell_in (hbx (b1 + 1, #[.bool i], 4) (by simp)), ?_, ?_⟩
      · unfold World.frozen?; rw [hbx (b1, #[.int .i64 las], 3) (by simp)]; simp
      · unfold World.frozen?; rw [hbx (b1 + 1, #[.bool i], 4) (by simp)]; simp)
    have HSET : Hid (∀ las i i' pv mk pk w, VAt W0 K (cs9 las i) pv mk pk w → VAt W0 K (cs9 las i') pv mk pk (w.setCell ⟨b1 + 1, 0, none⟩ (.bool i')) ∧ StaysL w (w.setCell ⟨b1 + 1, 0, none⟩ (.bool i'))) := Lib.hid (by
      intro las i i' pv mk pk w h
      rw [hcs9] at h ⊢
      exact VAt.set (cs1 := [(W0.heap.size, #[.pointer (some ⟨K.r, 0, none⟩)], 156), (W0.heap.size + 1, #[.int .i64 (n : Int)], 3), (b1, #[.int .i64 las], 3)]) (cs2 := [(b1 + 2, #[.pointer (some ⟨K.r, 0, none⟩)], 156), (b1 + 3, #[.int .i64 (hd : Int)], 3)]) h (by have := HSZ.out.2; have := HB12.out; simp; omega) 0 (.bool i'))
    have HSET2 : Hid (∀ las las' i pv mk pk w, VAt W0 K (cs9 las i) pv mk pk w → VAt W0 K (cs9 las' i) pv mk pk (w.setCell ⟨b1, 0, none⟩ (.int .i64 las')) ∧ StaysL w (w.setCell ⟨b1, 0, none⟩ (.int .i64 las'))) := Lib.hid (by
      intro las las' i pv mk pk w h
      rw [hcs9] at h ⊢
      exact VAt.set (cs1 := [(W0.heap.size, #[.pointer (some ⟨K.r, 0, none⟩)], 156), (W0.heap.size + 1, #[.int .i64 (n : Int)], 3)]) (cs2 := [(b1 + 1, #[.bool i], 4), (b1 + 2, #[.pointer (some ⟨K.r, 0, none⟩)], 156), (b1 + 3, #[.int .i64 (hd : Int)], 3)]) h (by have := HSZ.out.2; have := HB12.out; simp; omega) 0 (.int .i64 las'))
    have HCEND : Hid (cs9 (s : Int) (i0' && sk && sh && (d0 || ab) && (n2 || bq)) = lCs g n x K.r hd W0.heap.size b1 (k + 1)) := Lib.hid (by
      rw [hcs9]
      unfold lCs
      rw [HONE.out.1, HONE.out.2])
    have HPV : Hid ((p < K.n ∧ K.f p = vv) ∧ (pk < K.n ∧ K.f pk = kv) ∧ (pl < K.n ∧ K.f pl = kl)) := Lib.hid ⟨⟨by omega, hfp⟩, ⟨by omega, hfk⟩, hl2, hl3⟩
    have HPEND : Hid (ps ++ plsL g n x (k + 1) = ps ++ plsL g n x k ++ [⟨s, n, fr⟩] ∧ (ps ++ plsL g n x k).length ≤ 200000) := Lib.hid (by
      refine ⟨by rw [plsL_succ, ← List.append_assoc, ← hs, ← hxl, ← hfr], ?_⟩
      rw [List.length_append, plsL_len]
      have := HPS.out
      omega)
    rw [← hxl]
    have hqq : (bk == ((n : Int) - 2)) = bq := hbq.symm
    clear hs g1 g2 hxl hxlb hp3 hp hvv hfp hvb hsh hfr hbw hi0 hla hd0 hV HX HGO HEND HVS hpkk hkv hfk hkb hsk hl1 hl2 hl3 hl4 hl5 hab hn2 hbk hbq hcs9 HONE
    generalize hmk : wm g m x (k + 1) = mk at *
    generalize hpq : ps ++ plsL g n x k = pq at *
    clear hmk hk hpq
    gi_upto_region 7 with (fail)
    gi_cut [11] from 27 (fun v11 wr => v11 = .int .u64 (kv : Int) ∧ Hid (VAt W0 K (cs9 la i0') pv mk pq wr ∧ StaysL W wr))
    case first =>
      have HVD := Lib.hid (HVb.out.below ((Below.refl _ _).drew))
      have HSD : Hid (StaysL W W.drew) := Lib.hid (fun _ _ h _ => h)
      refine region_in' (by kernel_rfl) (by kernel_rfl) ?_ ?_
      · rintro ⟨a, w, h⟩; exact h
      generalize W.drew = Wd at *
      obtain ⟨c0, c1, -, hl, hw, -⟩ := HVD.out.reads
      have cx := hw p HPV.out.1.1
      rw [HPV.out.1.2] at cx
      have ck := hw pk HPV.out.2.1.1
      rw [HPV.out.2.1.2] at ck
      have cl := hw pl HPV.out.2.2.1
      rw [HPV.out.2.2.2] at cl
      have HLY := Lib.hid hl
      have i2 : (p : Int) < (K.n : Int) := by have := HPV.out.1.1; omega
      have i3 : (0 : Int) ≤ (p : Int) := by omega
      have i4 : (pk : Int) < (K.n : Int) := by have := HPV.out.2.1.1; omega
      have i5 : (0 : Int) ≤ (pk : Int) := by omega
      have i6 : (pl : Int) < (K.n : Int) := by have := HPV.out.2.2.1; omega
      have i7 : (0 : Int) ≤ (pl : Int) := by omega
      obtain ⟨q0, qn, q2, q3, -, f3⟩ := HBX.out _ _ _ _ _ _ HVD.out
      have HFIN : Hid (∀ (q : Nat), VAt W0 K (cs9 la i0') pv mk pq (Wd.drewN q) ∧ StaysL W (Wd.drewN q)) := Lib.hid fun q => ⟨HVD.out.below (drewN_below (Below.refl _ Wd) q), HSD.out.trans (staysL_below (drewN_below (Below.refl _ Wd) q))⟩
      clear hl hw HVD HVb HCEND
      refine any_qd 0 12 (by kernel_rfl) (fun _ _ d _ _ h => by cases d <;> exact h) ?_
      simp only [List.take_succ_cons, List.take_zero, List.drop_succ_cons, List.drop_zero, Nat.reduceAdd]
      refine wpQuiet_nil ?_
      repeat (first | go_big_quiet_skip | (go_big_quiet_want; go_big_quiet_op; first | go_big_quiet_on | go_big_quiet_call ((go_at_call 75; exact Calls.quiet_of (HKL.out _ (HLY.out.keep rfl))))))
      refine wpQuiet_nil ?_
      rintro _ ⟨q, rfl⟩
      go_wp2_with fail
      gi_meet
      exact ⟨rfl, Lib.hid (HFIN.out q)⟩
    case rest =>
      obtain ⟨rfl, hcut⟩ := hcut
      clear HVb
      gi_upto_region 8 with (fail)
      gi_cut [] from 39 (fun wr => Hid (VAt W0 K (cs9 la (i0' && sk && sh)) pv mk pq wr ∧ StaysL W wr))
      case first =>
        have HVD := Lib.hid (hcut.out.1.below ((Below.refl _ _).drew))
        have HSD : Hid (StaysL W wc.drew) := Lib.hid (hcut.out.2.trans (fun _ _ h _ => h))
        refine region_in' (by kernel_rfl) (by kernel_rfl) ?_ ?_
        · rintro ⟨a, w, h⟩; exact h
        generalize wc.drew = Wd at *
        obtain ⟨c0, c1, -, hl, hw, -⟩ := HVD.out.reads
        have cx := hw p HPV.out.1.1
        rw [HPV.out.1.2] at cx
        have ck := hw pk HPV.out.2.1.1
        rw [HPV.out.2.1.2] at ck
        have cl := hw pl HPV.out.2.2.1
        rw [HPV.out.2.2.2] at cl
        have HLY := Lib.hid hl
        have i2 : (p : Int) < (K.n : Int) := by have := HPV.out.1.1; omega
        have i3 : (0 : Int) ≤ (p : Int) := by omega
        have i4 : (pk : Int) < (K.n : Int) := by have := HPV.out.2.1.1; omega
        have i5 : (0 : Int) ≤ (pk : Int) := by omega
        have i6 : (pl : Int) < (K.n : Int) := by have := HPV.out.2.2.1; omega
        have i7 : (0 : Int) ≤ (pl : Int) := by omega
        obtain ⟨q0, qn, q2, q3, -, f3⟩ := HBX.out _ _ _ _ _ _ HVD.out
        have HFIN : Hid (∀ (q : Nat) (b : Bool), b = (i0' && sk && sh) → VAt W0 K (cs9 la (i0' && sk && sh)) pv mk pq ((Wd.drewN q).setCell ⟨b1 + 1, 0, none⟩ (.bool b)) ∧ StaysL W ((Wd.drewN q).setCell ⟨b1 + 1, 0, none⟩ (.bool b))) := Lib.hid fun q b e => by
          have h2 := HSET.out _ _ b _ _ _ _ (HVD.out.below (drewN_below (Below.refl _ Wd) q))
          rw [← e]
          exact ⟨h2.1, HSD.out.trans ((staysL_below (drewN_below (Below.refl _ Wd) q)).trans h2.2)⟩
        clear hl hw HVD hcut HCEND
        cases i0'
        · skip
          refine any_qd 0 20 (by kernel_rfl) (fun _ _ d _ _ h => by cases d <;> exact h) ?_
          simp only [List.take_succ_cons, List.take_zero, List.drop_succ_cons, List.drop_zero, Nat.reduceAdd]
          refine wpQuiet_nil ?_
          repeat (first | go_big_quiet_skip | (go_big_quiet_want; go_big_quiet_op; first | go_big_quiet_on | go_big_quiet_call (fail)))
          refine wpQuiet_nil ?_
          rintro _ ⟨q, rfl⟩
          go_wp2_with fail
          gi_meet
          exact Lib.hid (HFIN.out q _ (by simp))
        · cases sk
          · skip
            refine any_qd 0 20 (by kernel_rfl) (fun _ _ d _ _ h => by cases d <;> exact h) ?_
            simp only [List.take_succ_cons, List.take_zero, List.drop_succ_cons, List.drop_zero, Nat.reduceAdd]
            refine wpQuiet_nil ?_
            repeat (first | go_big_quiet_skip | (go_big_quiet_want; go_big_quiet_op; first | go_big_quiet_on | go_big_quiet_call (first | (go_at_call 77; exact Calls.quiet_of (HVL.out _ (HLY.out.keep rfl))) | (go_at_call 144; first | exact Calls.quiet_of_same (HSK.out _) | exact Calls.quiet_of_same (HSH.out _)))))
            refine wpQuiet_nil ?_
            rintro _ ⟨q, rfl⟩
            go_wp2_with fail
            gi_meet
            exact Lib.hid (HFIN.out q _ (by simp))
          · skip
            refine any_qd 0 20 (by kernel_rfl) (fun _ _ d _ _ h => by cases d <;> exact h) ?_
            simp only [List.take_succ_cons, List.take_zero, List.drop_succ_cons, List.drop_zero, Nat.reduceAdd]
            refine wpQuiet_nil ?_
            repeat (first | go_big_quiet_skip | (go_big_quiet_want; go_big_quiet_op; first | go_big_quiet_on | go_big_quiet_call (first | (go_at_call 77; exact Calls.quiet_of (HVL.out _ (HLY.out.keep rfl))) | (go_at_call 144; first | exact Calls.quiet_of_same (HSK.out _) | exact Calls.quiet_of_same (HSH.out _)))))
            refine wpQuiet_nil ?_
            rintro _ ⟨q, rfl⟩
            go_wp2_with fail
            gi_meet
            exact Lib.hid (HFIN.out q _ (by simp))
      case rest =>
        obtain ⟨i8, hi8⟩ : ∃ i8, i8 = (i0' && sk && sh) := ⟨_, rfl⟩
        rw [← hi8] at hcut HCEND
        clear hi8
        gi_upto_region 9 with (fail)
        gi_cut [] from 59 (fun wr => Hid (VAt W0 K (cs9 la (i8 && (d0 || ab))) pv mk pq wr ∧ StaysL W wr))
        case first =>
          have HVD := Lib.hid (hcut.out.1.below ((Below.refl _ _).drew))
          have HSD : Hid (StaysL W wc.drew) := Lib.hid (hcut.out.2.trans (fun _ _ h _ => h))
          refine region_in' (by kernel_rfl) (by kernel_rfl) ?_ ?_
          · rintro ⟨a, w, h⟩; exact h
          generalize wc.drew = Wd at *
          obtain ⟨c0, c1, -, hl, hw, -⟩ := HVD.out.reads
          have cx := hw p HPV.out.1.1
          rw [HPV.out.1.2] at cx
          have ck := hw pk HPV.out.2.1.1
          rw [HPV.out.2.1.2] at ck
          have cl := hw pl HPV.out.2.2.1
          rw [HPV.out.2.2.2] at cl
          have HLY := Lib.hid hl
          have i2 : (p : Int) < (K.n : Int) := by have := HPV.out.1.1; omega
          have i3 : (0 : Int) ≤ (p : Int) := by omega
          have i4 : (pk : Int) < (K.n : Int) := by have := HPV.out.2.1.1; omega
          have i5 : (0 : Int) ≤ (pk : Int) := by omega
          have i6 : (pl : Int) < (K.n : Int) := by have := HPV.out.2.2.1; omega
          have i7 : (0 : Int) ≤ (pl : Int) := by omega
          obtain ⟨q0, qn, q2, q3, -, f3⟩ := HBX.out _ _ _ _ _ _ HVD.out
          have HFIN : Hid (∀ (q : Nat) (b : Bool), b = (i8 && (d0 || ab)) → VAt W0 K (cs9 la (i8 && (d0 || ab))) pv mk pq ((Wd.drewN q).setCell ⟨b1 + 1, 0, none⟩ (.bool b)) ∧ StaysL W ((Wd.drewN q).setCell ⟨b1 + 1, 0, none⟩ (.bool b))) := Lib.hid fun q b e => by
            have h2 := HSET.out _ _ b _ _ _ _ (HVD.out.below (drewN_below (Below.refl _ Wd) q))
            rw [← e]
            exact ⟨h2.1, HSD.out.trans ((staysL_below (drewN_below (Below.refl _ Wd) q)).trans h2.2)⟩
          clear hl hw HVD hcut HCEND
          cases i8
          · skip
            refine any_qd 0 21 (by kernel_rfl) (fun _ _ d _ _ h => by cases d <;> exact h) ?_
            simp only [List.take_succ_cons, List.take_zero, List.drop_succ_cons, List.drop_zero, Nat.reduceAdd]
            refine wpQuiet_nil ?_
            repeat (first | go_big_quiet_skip | (go_big_quiet_want; go_big_quiet_op; first | go_big_quiet_on | go_big_quiet_call (fail)))
            refine wpQuiet_nil ?_
            rintro _ ⟨q, rfl⟩
            go_wp2_with fail
            gi_meet
            exact Lib.hid (HFIN.out q _ (by simp))
          · cases d0
            · skip
              refine any_qd 0 21 (by kernel_rfl) (fun _ _ d _ _ h => by cases d <;> exact h) ?_
              simp only [List.take_succ_cons, List.take_zero, List.drop_succ_cons, List.drop_zero, Nat.reduceAdd]
              refine wpQuiet_nil ?_
              repeat (first | go_big_quiet_skip | (go_big_quiet_want; go_big_quiet_op; first | go_big_quiet_on | go_big_quiet_call ((go_at_call 75; exact Calls.quiet_of (HLL.out _ (HLY.out.keep rfl) (HKN.out.2 rfl))))))
              refine wpQuiet_nil ?_
              rintro _ ⟨q, rfl⟩
              go_wp2_with fail
              gi_meet
              exact Lib.hid (HFIN.out q _ (by simp))
            · skip
              refine any_qd 0 21 (by kernel_rfl) (fun _ _ d _ _ h => by cases d <;> exact h) ?_
              simp only [List.take_succ_cons, List.take_zero, List.drop_succ_cons, List.drop_zero, Nat.reduceAdd]
              refine wpQuiet_nil ?_
              repeat (first | go_big_quiet_skip | (go_big_quiet_want; go_big_quiet_op; first | go_big_quiet_on | go_big_quiet_call (fail)))
              refine wpQuiet_nil ?_
              rintro _ ⟨q, rfl⟩
              go_wp2_with fail
              gi_meet
              exact Lib.hid (HFIN.out q _ (by simp))
        case rest =>
          obtain ⟨i9, hi9⟩ : ∃ i9, i9 = (i8 && (d0 || ab)) := ⟨_, rfl⟩
          rw [← hi9] at hcut HCEND
          clear hi9
          gi_upto_region 10 with (fail)
          gi_cut [] from 80 (fun wr => Hid (VAt W0 K (cs9 la (i9 && (n2 || bq))) pv mk pq wr ∧ StaysL W wr))
          case first =>
            have HVD := Lib.hid (hcut.out.1.below ((Below.refl _ _).drew))
            have HSD : Hid (StaysL W wc.drew) := Lib.hid (hcut.out.2.trans (fun _ _ h _ => h))
            refine region_in' (by kernel_rfl) (by kernel_rfl) ?_ ?_
            · rintro ⟨a, w, h⟩; exact h
            generalize wc.drew = Wd at *
            have q0 : ∀ y : Over Wd.heap.size Wd, y.w.cell? ⟨W0.heap.size, 0, none⟩ = some (.pointer (some ⟨K.r, 0, none⟩)) := fun y => (HBX.out _ _ _ _ _ _ (HVD.out.below y.below)).1
            have qn : ∀ y : Over Wd.heap.size Wd, y.w.cell? ⟨W0.heap.size + 1, 0, none⟩ = some (.int .i64 (n : Int)) := fun y => (HBX.out _ _ _ _ _ _ (HVD.out.below y.below)).2.1
            have q3 : ∀ y : Over Wd.heap.size Wd, y.w.cell? ⟨b1 + 1, 0, none⟩ = some (.bool i9) := fun y => (HBX.out _ _ _ _ _ _ (HVD.out.below y.below)).2.2.2.1
            have f3 : ∀ y : Over Wd.heap.size Wd, y.w.frozen? ⟨b1 + 1, 0, none⟩ = false := fun y => (HBX.out _ _ _ _ _ _ (HVD.out.below y.below)).2.2.2.2.2
            have c0 : ∀ y : Over Wd.heap.size Wd, y.w.cell? ⟨K.r, 0, none⟩ = some (.pointer (some ⟨K.l, 0, none⟩)) := fun y => (HVD.out.below y.below).reads.1
            have HCO : Hid (∀ y : Over Wd.heap.size Wd, Calls Tryz.prog 70 #[.pointer (some ⟨K.l, 0, none⟩)] y.w (Gives (.agg #[.int .i64 K.v.th, .int .i64 K.v.sl, .int .i64 K.v.lo, .int .i64 K.v.bu]) y.w)) := Lib.hid fun y => config70 K.l K.v y.w (HVD.out.below y.below).reads.2.2.2.1
            have hfl := fun (a b c d : Value) (w : World) => fld23_3 a b c d w
            have HFIN : Hid (∀ (y : Over Wd.heap.size Wd) (b : Bool), b = (i9 && (n2 || bq)) → VAt W0 K (cs9 la (i9 && (n2 || bq))) pv mk pq (y.w.setCell ⟨b1 + 1, 0, none⟩ (.bool b)) ∧ StaysL W (y.w.setCell ⟨b1 + 1, 0, none⟩ (.bool b))) := Lib.hid fun y b e => by
              have h2 := HSET.out _ _ b _ _ _ _ (HVD.out.below y.below)
              rw [← e]
              exact ⟨h2.1, HSD.out.trans ((staysL_below y.below).trans h2.2)⟩
            clear HVD hcut HCEND
            cases i9
            · skip
              refine any_qo (fun y : Over Wd.heap.size Wd => y.w) 0 19 (by kernel_rfl) (fun _ _ d _ _ h => by cases d <;> exact h) ⟨Wd, Below.refl _ _⟩ rfl ?_
              simp only [List.take_succ_cons, List.take_zero, List.drop_succ_cons, List.drop_zero, Nat.reduceAdd]
              refine wpQuiet_nil ?_
              repeat (first | go_big_quiet_skip | (go_big_quiet_want; go_big_quiet_op; first | go_big_quiet_on ))
              refine wpQuiet_nil ?_
              rintro _ ⟨y, rfl⟩
              go_wp2_with fail
              gi_meet
              exact Lib.hid (HFIN.out y _ (by simp))
            · cases n2
              · skip
                refine any_qo (fun y : Over Wd.heap.size Wd => y.w) 0 19 (by kernel_rfl) (fun _ _ d _ _ h => by cases d <;> exact h) ⟨Wd, Below.refl _ _⟩ rfl ?_
                simp only [List.take_succ_cons, List.take_zero, List.drop_succ_cons, List.drop_zero, Nat.reduceAdd]
                refine wpQuiet_nil ?_
                repeat (first | go_big_quiet_skip | (go_big_quiet_want; go_big_quiet_op; first | go_big_quiet_on | go_big_quiet_call ((rename_i y; go_at_call 70; refine (HCO.out y).mono ?_; rintro e w' ⟨rfl, hb⟩; exact ⟨rfl, y.on w' (hb.mono y.below.size), rfl⟩)) | go_big_quiet_call ((rename_i y; go_at_call 140; refine (HBK.out _).mono ?_; rintro e w' ⟨rfl, rfl⟩; exact ⟨rfl, y, rfl⟩))))
                refine wpQuiet_nil ?_
                rintro _ ⟨y, rfl⟩
                go_wp2_with fail
                gi_meet
                exact Lib.hid (HFIN.out y _ (by simp))
              · skip
                refine any_qo (fun y : Over Wd.heap.size Wd => y.w) 0 19 (by kernel_rfl) (fun _ _ d _ _ h => by cases d <;> exact h) ⟨Wd, Below.refl _ _⟩ rfl ?_
                simp only [List.take_succ_cons, List.take_zero, List.drop_succ_cons, List.drop_zero, Nat.reduceAdd]
                refine wpQuiet_nil ?_
                repeat (first | go_big_quiet_skip | (go_big_quiet_want; go_big_quiet_op; first | go_big_quiet_on ))
                refine wpQuiet_nil ?_
                rintro _ ⟨y, rfl⟩
                go_wp2_with fail
                gi_meet
                exact Lib.hid (HFIN.out y _ (by simp))
          case rest =>
            obtain ⟨i10, hi10⟩ : ∃ i10, i10 = (i9 && (n2 || bq)) := ⟨_, rfl⟩
            rw [← hi10] at hcut HCEND
            clear hi10 dla dab dab' hqq HVL HKL HLL HSH HSK HBK
            gi_upto_region 11 with (fail)
            obtain ⟨q0, qn, q2, q3, f2, f3⟩ := HBX.out _ _ _ _ _ _ hcut.out.1
            have HC11 : Hid (VAt W0 K (cs9 (s : Int) i10) pv mk pq (wc.setCell ⟨b1, 0, none⟩ (.int .i64 (s : Int))) ∧ StaysL W (wc.setCell ⟨b1, 0, none⟩ (.int .i64 (s : Int)))) := Lib.hid (by
              have h2 := HSET2.out _ (s : Int) _ _ _ _ _ hcut.out.1
              exact ⟨h2.1, hcut.out.2.trans h2.2⟩)
            clear hcut
            gi_upto_region 12 with (fail)
            clear q0 qn q2 q3 f2 f3
            have hcut := HC11
            clear HC11
            generalize wc.setCell ⟨b1, 0, none⟩ (.int .i64 (s : Int)) = wc at *
            refine region_in' (by kernel_rfl) (by kernel_rfl) ?_ ?_
            · rintro ⟨a, w, h⟩; exact h
            have HVD := Lib.hid (hcut.out.1.below ((Below.refl _ wc).drew))
            have HSD : Hid (StaysL W wc.drew) := Lib.hid (hcut.out.2.trans (fun _ _ h _ => h))
            have HCE := HCEND
            have HPE : Hid (ps ++ plsL g n x (k + 1) = pq ++ [⟨s, n, fr⟩]) := Lib.hid HPEND.out.1
            have HPL : Hid (pq.length ≤ 200000) := Lib.hid HPEND.out.2
            generalize wc.drew = Wd at *
            clear hcut
            obtain ⟨q0, qn, -⟩ := HBX.out _ _ _ _ _ _ HVD.out
            obtain ⟨c0, c1, c3, hl, hw, y0, -⟩ := HVD.out.reads
            have ho := HVD.out.rd.places
            obtain ⟨ga, gc, rfl⟩ : ∃ a c, pv = .slice a pq.length c := own_slice_n ho
            obtain ⟨pl, hpl⟩ : ∃ pl, pl = pq.length := ⟨_, rfl⟩
            have hbx := HVD.out.box
            rw [HC9.out] at hbx
            have HB0 : Hid (W0.heap.size < Wd.heap.size ∧ W0.heap.size + 1 < Wd.heap.size) := Lib.hid ⟨lt_row (hbx (W0.heap.size, #[.pointer (some ⟨K.r, 0, none⟩)], 156) (by simp)), lt_row (hbx (W0.heap.size + 1, #[.int .i64 (n : Int)], 3) (by simp))⟩
            have HAP : Hid ((Value.slice ga pq.length gc).ownBlock ≠ some W0.heap.size ∧ (Value.slice ga pq.length gc).ownBlock ≠ some K.r ∧ (Value.slice ga pq.length gc).ownBlock ≠ some (W0.heap.size + 1)) := Lib.hid (by
              have h := HVD.out.apart
              rw [HC9.out] at h
              exact ⟨h (W0.heap.size, #[.pointer (some ⟨K.r, 0, none⟩)], 156) (by simp), fun e => (HVD.out.rd.po _ e).1 rfl, h (W0.heap.size + 1, #[.int .i64 (n : Int)], 3) (by simp)⟩)
            have HO : Hid (Wd.ownsRow 0 52 3 (.slice ga pq.length gc) pq.length (placesV pq)) := Lib.hid ho
            have HXR : Hid (∃ c t, Wd.heap[K.r]? = some (.cells c t (0, 0))) := Lib.hid ⟨_, _, HVD.out.rd.row⟩
            have HF : Hid (∀ w'' : World, w''.heap[W0.heap.size]? = Wd.heap[W0.heap.size]? ∧ w''.heap[K.r]? = Wd.heap[K.r]? ∧ w''.heap[W0.heap.size + 1]? = Wd.heap[W0.heap.size + 1]? → w''.cell? ⟨W0.heap.size, 0, none⟩ = some (.pointer (some ⟨K.r, 0, none⟩)) ∧ w''.cell? ⟨K.r, 3, none⟩ = some (.slice ga pq.length gc) ∧ w''.cell? ⟨W0.heap.size + 1, 0, none⟩ = some (.int .i64 (n : Int))) := Lib.hid (fun w'' ⟨h1, h2, h3⟩ => ⟨(cell_of_heap h1 0).trans q0, (cell_of_heap h2 3).trans c3, (cell_of_heap h3 0).trans qn⟩)
            have HSZR := Lib.hid y0
            have SV : Wd.heap[W0.heap.size]? = Wd.heap[W0.heap.size]? := rfl
            have SX : Wd.heap[K.r]? = Wd.heap[K.r]? ∧ Wd.heap[W0.heap.size + 1]? = Wd.heap[W0.heap.size + 1]? := ⟨rfl, rfl⟩
            clear hl hw q0 qn c0 c1 c3 ho y0 HCEND HBX HSET HSET2 hbx
            rw [← hpl] at HF HO HAP HPL HVD
            have HPLE := Lib.hid hpl
            clear hpl
            obtain ⟨i52, hi, hz0, hz1, hz2⟩ := info_parts info52
            refine any_last (fun w'' => w''.heap[W0.heap.size]? = Wd.heap[W0.heap.size]? ∧ w''.heap[K.r]? = Wd.heap[K.r]? ∧ w''.heap[W0.heap.size + 1]? = Wd.heap[W0.heap.size + 1]?) rfl (by kernel_rfl) ?_
            simp only [List.pop_toArray, List.dropLast, List.size_toArray, List.length_cons, List.length_nil, Nat.reduceAdd]
            refine take_at 0 (some 100) (.pointer (some ⟨K.r, 0, none⟩)) rfl rfl (by kernel_rfl) (by kernel_rfl) (by kernel_rfl) (fun _ _ _ h => h) (Or.inl ⟨by rfl, ?_⟩) ⟨SV, SX⟩ ?_
            · intro w hSw
              obtain ⟨f0, f1, fn⟩ := HF.out w hSw
              clear hSw
              go_simp
            try simp only [Act.put, List.setIfInBounds_toArray, List.set_cons_zero, List.set_cons_succ]
            refine take_at 1 (some 101) (.pointer (some ⟨K.r, 0, none⟩)) rfl rfl (by kernel_rfl) (by kernel_rfl) (by kernel_rfl) (fun _ _ _ h => h) (Or.inl ⟨by rfl, ?_⟩) ⟨SV, SX⟩ ?_
            · intro w hSw
              obtain ⟨f0, f1, fn⟩ := HF.out w hSw
              clear hSw
              go_simp
            try simp only [Act.put, List.setIfInBounds_toArray, List.set_cons_zero, List.set_cons_succ]
            refine take_at 2 (some 102) (.pointer (some ⟨K.r, 0, none⟩)) rfl rfl (by kernel_rfl) (by kernel_rfl) (by kernel_rfl) (fun _ _ _ h => h) (Or.inl ⟨by rfl, ?_⟩) ⟨SV, SX⟩ ?_
            · intro w hSw
              obtain ⟨f0, f1, fn⟩ := HF.out w hSw
              clear hSw
              go_simp
            try simp only [Act.put, List.setIfInBounds_toArray, List.set_cons_zero, List.set_cons_succ]
            refine take_at 3 (some 103) (.pointer (some ⟨K.r, 3, none⟩)) rfl rfl (by kernel_rfl) (by kernel_rfl) (by kernel_rfl) (fun _ _ _ h => h) (Or.inl ⟨by rfl, ?_⟩) ⟨SV, SX⟩ ?_
            · intro w hSw
              obtain ⟨f0, f1, fn⟩ := HF.out w hSw
              clear hSw
              go_simp
            try simp only [Act.put, List.setIfInBounds_toArray, List.set_cons_zero, List.set_cons_succ]
            refine take_at 4 (some 104) (.slice ga pl gc) rfl rfl (by kernel_rfl) (by kernel_rfl) (by kernel_rfl) (fun _ _ _ h => h) (Or.inl ⟨by rfl, ?_⟩) ⟨SV, SX⟩ ?_
            · intro w hSw
              obtain ⟨f0, f1, fn⟩ := HF.out w hSw
              clear hSw
              go_simp
            try simp only [Act.put, List.setIfInBounds_toArray, List.set_cons_zero, List.set_cons_succ]
            refine take_at 5 (some 105) (.int .i64 (s : Int)) rfl rfl (by kernel_rfl) (by kernel_rfl) (by kernel_rfl) (fun _ _ _ h => h) (Or.inl ⟨by rfl, ?_⟩) ⟨SV, SX⟩ ?_
            · intro w hSw
              obtain ⟨f0, f1, fn⟩ := HF.out w hSw
              clear hSw
              go_simp
            try simp only [Act.put, List.setIfInBounds_toArray, List.set_cons_zero, List.set_cons_succ]
            refine take_at 6 (some 106) (.int .i64 (n : Int)) rfl rfl (by kernel_rfl) (by kernel_rfl) (by kernel_rfl) (fun _ _ _ h => h) (Or.inl ⟨by rfl, ?_⟩) ⟨SV, SX⟩ ?_
            · intro w hSw
              obtain ⟨f0, f1, fn⟩ := HF.out w hSw
              clear hSw
              go_simp
            try simp only [Act.put, List.setIfInBounds_toArray, List.set_cons_zero, List.set_cons_succ]
            refine take_at 7 (some 107) (.int .u64 (xl : Int)) rfl rfl (by kernel_rfl) (by kernel_rfl) (by kernel_rfl) (fun _ _ _ h => h) (Or.inl ⟨by rfl, ?_⟩) ⟨SV, SX⟩ ?_
            · intro w hSw
              obtain ⟨f0, f1, fn⟩ := HF.out w hSw
              clear hSw
              go_simp
            try simp only [Act.put, List.setIfInBounds_toArray, List.set_cons_zero, List.set_cons_succ]
            refine wpAnyH_ready (rs := [8]) (by kernel_rfl) (by simp) ?_
            refine AllReadyH.cons (i := 8) rfl (fun K' hK => ?_) AllReadyH.nil
            go_simp
            refine (HBY.out _).mono ?_
            rintro e w8 ⟨rfl, hb8⟩
            have HB8 := Lib.hid hb8
            clear hb8
            refine hK.out _ _ ⟨HB8.out.block _ HB0.out.1, HB8.out.block _ HSZR.out, HB8.out.block _ HB0.out.2⟩ (fun _ => ?_)
            clear hK K' SV SX
            have HVD := Lib.hid (HVD.out.below HB8.out)
            have HSD := Lib.hid (HSD.out.trans (staysL_below HB8.out))
            have HO := Lib.hid (own_keep' HO.out (fun q hq => HB8.out.block q (HO.out.lt q hq).2))
            have SV := HB8.out.block _ HB0.out.1
            have SX := And.intro (HB8.out.block _ HSZR.out) (HB8.out.block _ HB0.out.2)
            have HZ8 := Lib.hid HB8.out.size
            try simp only [Act.put, List.setIfInBounds_toArray, List.set_cons_zero, List.set_cons_succ]
            refine take_at 9 (some 109) (.bool fr) rfl rfl (by kernel_rfl) (by kernel_rfl) (by kernel_rfl) (fun _ _ _ h => h) (Or.inl ⟨by rfl, ?_⟩) ⟨SV, SX⟩ ?_
            · intro w hSw
              obtain ⟨f0, f1, fn⟩ := HF.out w hSw
              clear hSw
              go_simp
            try simp only [Act.put, List.setIfInBounds_toArray, List.set_cons_zero, List.set_cons_succ]
            refine take_at 10 (some 110) (.agg #[.int .i64 (s : Int), .int .i64 (n : Int), .bool fr]) rfl rfl (by kernel_rfl) (by kernel_rfl) (by kernel_rfl) (fun _ _ _ h => h) (Or.inl ⟨by rfl, ?_⟩) ⟨SV, SX⟩ ?_
            · intro w hSw
              obtain ⟨f0, f1, fn⟩ := HF.out w hSw
              clear hSw
              go_simp
            try simp only [Act.put, List.setIfInBounds_toArray, List.set_cons_zero, List.set_cons_succ]
            have kS : ∀ o, (w8.alloc o).heap[W0.heap.size]? = Wd.heap[W0.heap.size]? ∧ (w8.alloc o).heap[K.r]? = Wd.heap[K.r]? ∧ (w8.alloc o).heap[W0.heap.size + 1]? = Wd.heap[W0.heap.size + 1]? := fun o => ⟨(Below.heap_alloc w8 o _ (Nat.lt_of_lt_of_le HB0.out.1 HZ8.out)).trans SV, (Below.heap_alloc w8 o K.r (Nat.lt_of_lt_of_le HSZR.out HZ8.out)).trans SX.1, (Below.heap_alloc w8 o _ (Nat.lt_of_lt_of_le HB0.out.2 HZ8.out)).trans SX.2⟩
            refine wpAnyH_ready (rs := [11]) (by kernel_rfl) (by simp) ?_
            refine AllReadyH.cons (i := 11) rfl (fun K' hK => ?_) AllReadyH.nil
            go_simp
            refine hK.out _ _ (kS _) (fun _ => ?_)
            clear hK K'
            try simp only [Act.put, List.setIfInBounds_toArray, List.set_cons_zero, List.set_cons_succ]
            refine wpAnyH_ready (rs := [12]) (by kernel_rfl) (by simp) ?_
            refine AllReadyH.cons (i := 12) rfl (fun K' hK => ?_) AllReadyH.nil
            refine step_append_at rfl (.tmp 104) (.tmp 111) 41 rfl 0 52 i52 _ 3 24 Tryz.underlying41 hi hz0 hz1 hz2 rfl (by decide) (.slice ga pl gc) pl (placesV pq) rfl (HO.out.alloc _) ⟨w8.heap.size, 0, none⟩ 1 1 [.int .i64 (s : Int), .int .i64 (n : Int), .bool fr] rfl rfl (fun j u hj => cell_alloc w8 _ 52 j u hj) (by simp [Value.oneCell']) (by have := HPL.out; have := HPLE.out; unfold maxLen; omega) (by have := HPL.out; have := HPLE.out; omega) (Nat.zero_le _) ?_
            intro v' w1' ho hg hbl
            obtain ⟨ua, um, uc, rfl⟩ := own_slice ho
            have hkV : w1'.heap[W0.heap.size]? = Wd.heap[W0.heap.size]? := (hg.block _ (by have := HB0.out; have := HZ8.out; simp; omega) (Ne.symm HAP.out.1)).trans (kS _).1
            have hkX : w1'.heap[K.r]? = Wd.heap[K.r]? := (hg.block K.r (by have := HSZR.out; have := HZ8.out; simp; omega) (Ne.symm HAP.out.2.1)).trans (kS _).2.1
            have hkN : w1'.heap[W0.heap.size + 1]? = Wd.heap[W0.heap.size + 1]? := (hg.block _ (by have := HB0.out; have := HZ8.out; simp; omega) (Ne.symm HAP.out.2.2)).trans (kS _).2.2
            refine hK.out _ _ ⟨hkV, hkX, hkN⟩ (fun _ => ?_)
            clear hK K' SV SX
            have HO1 := Lib.hid ho
            have HG1 := Lib.hid hg
            have HBL := Lib.hid hbl
            clear ho hg hbl kS
            have SV := hkV
            have SX := And.intro hkX hkN
            clear hkV hkX hkN
            try simp only [Act.put, List.setIfInBounds_toArray, List.set_cons_zero, List.set_cons_succ]
            refine take_at 13 (some 113) (.pointer (some ⟨K.r, 0, none⟩)) rfl rfl (by kernel_rfl) (by kernel_rfl) (by kernel_rfl) (fun _ _ _ h => h) (Or.inl ⟨by rfl, ?_⟩) ⟨SV, SX⟩ ?_
            · intro w hSw
              obtain ⟨f0, f1, fn⟩ := HF.out w hSw
              clear hSw
              go_simp
            try simp only [Act.put, List.setIfInBounds_toArray, List.set_cons_zero, List.set_cons_succ]
            refine take_at 14 (some 114) (.pointer (some ⟨K.r, 3, none⟩)) rfl rfl (by kernel_rfl) (by kernel_rfl) (by kernel_rfl) (fun _ _ _ h => h) (Or.inl ⟨by rfl, ?_⟩) ⟨SV, SX⟩ ?_
            · intro w hSw
              obtain ⟨f0, f1, fn⟩ := HF.out w hSw
              clear hSw
              go_simp
            try simp only [Act.put, List.setIfInBounds_toArray, List.set_cons_zero, List.set_cons_succ]
            refine wpAnyH_done (by kernel_rfl) ?_ _
            unfold ThenOp
            have c3 : w1'.cell? ⟨K.r, 3, none⟩ = some (.slice ga pl gc) := (HF.out w1' ⟨SV, SX⟩).2.1
            have f3 : w1'.frozen? ⟨K.r, 3, none⟩ = false := by
              obtain ⟨c, t, e⟩ := HXR.out
              unfold World.frozen?; rw [SX.1, e]; simp
            clear SV SX
            dsimp only
            go_simp
            have hfin := VAt.push (p := ⟨s, n, fr⟩) HVD.out ((Below.refl w8.heap.size w8).alloc (Nat.le_refl _) _) (by rw [← HPLE.out]; exact HO1.out) HG1.out HBL.out
            rw [HCE.out, ← HPE.out] at hfin
            exact ⟨⟨_, hfin.1⟩, HSD.out.trans hfin.2⟩
  · intro D W pv hD hV hD2
    dsimp only
    have hbx := hV.box
    unfold lCs at hbx
    obtain ⟨iN, hiN⟩ : ∃ iN, iN = lIs g n x N := ⟨_, rfl⟩
    obtain ⟨la, hla⟩ : ∃ la, la = lastI g x N := ⟨_, rfl⟩
    have hplace : ∃ p : Nat, p < K.n ∧ K.f p = wx g x N ∧ (if la = -1 then (hd : Int) else K.v.slot la 3) = (p : Int) := by
      cases N with
      | zero => exact ⟨hd, HX.out.2.1, HX.out.2.2, by rw [hla]; rfl⟩
      | succ N =>
        obtain ⟨g1, g2⟩ := goes_lt (HGO.out N (by omega))
        have h3 := HR.out.pl _ g1
        refine ⟨_, h3, (HR.out.w _ h3).trans rfl, ?_⟩
        have e : la = ((lo (wx g x N) - 1 : Nat) : Int) := by rw [hla]; show (lo (wx g x N) : Int) - 1 = _; omega
        rw [if_neg (by omega), e]
        exact HR.out.slot HS.out g1 3
    obtain ⟨p, p1, p2, p3⟩ := hplace
    have HW : Hid (∀ w, RdAt w { K with pv := pv } (wm g m x N) (ps ++ plsL g n x N) → Calls Tryz.prog 145 #[.pointer (some ⟨K.r, 0, none⟩), .int .i64 (hd : Int), .int .i64 la] w (Gives (.bool (wholeB K.S g.T (wx g x N))) w)) := Lib.hid fun w hw => whole145 { K with pv := pv } _ _ g.T p (wx g x N) (hd : Int) la p1 p2 p3 HR.out.T w hw
    have q0 : W.cell? ⟨W0.heap.size, 0, none⟩ = some (.pointer (some ⟨K.r, 0, none⟩)) := cell_in (hbx (W0.heap.size, #[.pointer (some ⟨K.r, 0, none⟩)], 156) (by simp))
    have q2 : W.cell? ⟨b1, 0, none⟩ = some (.int .i64 la) := by rw [hla]; exact cell_in (hbx (b1, #[.int .i64 (lastI g x N)], 3) (by simp))
    have q3 : W.cell? ⟨b1 + 1, 0, none⟩ = some (.bool iN) := by rw [hiN]; exact cell_in (hbx (b1 + 1, #[.bool (lIs g n x N)], 4) (by simp))
    have HVN := Lib.hid hV
    have HKK := Lib.hid hD2
    have HDL := Lib.hid hD
    have HEQ2 := Lib.hid hiN
    have HEND2 : Hid (∀ (b : Bool) (W2 : World), Below W.heap.size W W2 → b = (iN && wholeB K.S g.T (wx g x N)) → ∃ o, (Instr.takeDeferred D).run Tryz.prog W2 = .ok [] (W2.putObj D o) ∧ RdTo K (wm g m x N) (ps ++ plsL g n x N) (.bool (lIs g n x N && wholeB K.S g.T (wx g x N))) W0 (.returned (.bool b)) (W2.putObj D o)) := Lib.hid fun b W2 hb e => by
      have hk2 : W2.heap[D]? = some (.deferred (some [])) := (hb.block D (Array.getElem?_eq_some_iff.1 HKK.out).1).trans HKK.out
      exact ⟨_, run_takeDeferred hk2, by rw [e, HEQ2.out], ((HVN.out.below hb).put hk2 HDL.out).out⟩
    clear HEQ2 hV hD hD2 hbx hiN hla p1 p2 p3 HGO HEND HX HR
    generalize wholeB K.S g.T (wx g x N) = wb at *
    cases iN
    · go_wp2_with fail
      show LeavesInM Fence.wide 9 Tryz.prog Tryz.f82 _ _ [{ target := .collected D, args := #[] }] .returning W
      obtain ⟨o, t1, t2⟩ := HEND2.out false W (Below.refl _ _) (by simp)
      unfold LeavesInM
      refine ⟨by simp, .inl ⟨_, _, rfl, t1, ?_⟩⟩
      exact ⟨_, results_tmp (t := 6) rfl _ _ _, t2⟩
    · go_wp2_with (go_at_call 145; refine (HW.out _ HVN.out.rd).mono ?_; rintro e w6 ⟨rfl, hb⟩; have H6 := Lib.hid hb; clear hb q0 q2 q3)
      show LeavesInM Fence.wide 9 Tryz.prog Tryz.f82 _ _ [{ target := .collected D, args := #[] }] .returning w6
      obtain ⟨o, t1, t2⟩ := HEND2.out wb w6 (H6.out) (by simp)
      unfold LeavesInM
      refine ⟨by simp, .inl ⟨_, _, rfl, t1, ?_⟩⟩
      exact ⟨_, results_tmp (t := 6) rfl _ _ _, t2⟩
end Go.Proofs.YtibelcmdfkgonaaGreat
