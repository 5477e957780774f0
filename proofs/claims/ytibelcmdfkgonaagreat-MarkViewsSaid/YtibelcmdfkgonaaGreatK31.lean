/- Layer 20 (view): the queue, its way gone through. -/
import Derived.Test.YtibelcmdfkgonaaGreatK30
namespace Go.Proofs.YtibelcmdfkgonaaGreat
open Go.RowKit Go.BigFrame
set_option linter.unusedVariables false
set_option linter.unusedSimpArgs false
attribute [local go_sem] Oper.semAt_some
theorem info52 : (Tryz.prog.info? 52).map (fun i => (i.zero, i.size, i.bytes)) = some (some (.agg #[.int .i64 0, .int .i64 0, .bool false]), 3, 24) := by kernel_rfl
def noDeferB (ops : Array Oper) : Bool := ops.all fun o => match o.op with | .defer _ => false | _ => true
theorem region_in' {P : Program} {ops : Array Oper} {Q : Exit → Act → World → Prop} {l n id : Nat} {a : Act} {w : World} (hm : P.follows .mixedOrders = true) (hd : noDeferB ops = true) (hQ : ¬ LetsOut Q)
    (h : wpAny P .any ops Q ops.size (Array.replicate ops.size false) a w.drew) : (Code.region id ops true).wpIn (Fence.wide.inRound l) n P Q a w :=
  region_in hm (fun i o ho c hc => by
    obtain ⟨hi, rfl⟩ := Array.getElem?_eq_some_iff.1 ho
    unfold noDeferB at hd
    have := Array.all_eq_true.1 hd i hi
    rw [hc] at this
    cases this) hQ h
/-- The slot ahead of the k-th, as the code has it. -/
def lastI (g : Gd) (x : Nat) : Nat → Int
  | 0 => -1
  | k + 1 => (lo (wx g x k) : Int) - 1
/-- The queue's boxes behind k slots. -/
def qCs (g : Gd) (x r b0 b1 : Nat) (k : Nat) : List (Nat × Array Value × TypeId) :=
  [(b0, #[.pointer (some ⟨r, 0, none⟩)], 156), (b1, #[.bool (qIs g x k).2], 4), (b1 + 1, #[.int .i64 (lastI g x k)], 3), (b1 + 2, #[.bool (qIs g x k).1], 4), (b1 + 3, #[.pointer (some ⟨r, 0, none⟩)], 156), (b1 + 4, #[.int .i64 (16 : Int)], 3)]
set_option maxRecDepth 100000 in
set_option maxHeartbeats 4000000 in
theorem queue81_yes (K : Rd) (g : Gd) (m : Nat → Bool) (ps : List Place) (x N : Nat) (hr : Reads g K) (h16 : 16 < K.n) (hx : K.f 16 = x) (W0 : World) (h : RdAt W0 K m ps) (hgo0 : rightL g.S g.T x ∧ hi x = 0 ∧ lo x ≠ 0)
    (hgo : ∀ k, k < N → goes g (wm g m x k) (wx g x k)) (hend : ¬ goes g (wm g m x N) (wx g x N)) (hN : N ≤ g.S) (hps : ps.length + g.S ≤ 200000) :
    Calls Tryz.prog 81 #[.pointer (some ⟨K.r, 0, none⟩)] W0 (RdTo K (wm g m x N) (ps ++ plsL g 0 x N) (.bool ((qIs g x N).1 && (qIs g x N).2 && wholeB K.S g.T (wx g x N))) W0) := by
  have hxb : x < 18446744073709551616 := by have := h.u64 16 h16; omega
  have HRO : Hid (∀ w, RdAt w K m ps → Calls Tryz.prog 142 #[.pointer (some ⟨K.r, 0, none⟩), .int .u64 (x : Int)] w (Gives (.bool true) w)) := Lib.hid fun w hw => by
    have := root142 K m ps x g.T hxb hr.T w hw
    rwa [show rootB K.S g.T x = true by unfold rootB; rw [hr.S, Bool.and_eq_true]; exact ⟨decide_eq_true hgo0.1, decide_eq_true hgo0.2.1⟩] at this
  have HTO : Hid (∀ w, Calls Tryz.prog 136 #[.int .u64 (x : Int)] w (Gives (.int .i64 ((lo x : Int) - 1)) w)) := Lib.hid fun w => by rw [← to_lo]; exact to136 _ (by unfold U64; omega) w
  have HHD := Lib.hid fun w => head69 K.l w
  have HWAY := Lib.hid fun w => way143 K.r 16 w
  have HTE := Lib.hid (to_eq x)
  have HH := Lib.hid h
  obtain ⟨c0, c1, -, -, cw, s0, s1, s2⟩ := (VAt.start h (Below.refl _ _)).reads
  have cx := cw 16 h16
  rw [hx] at cx
  have n0 : K.r ≠ W0.heap.size := by omega
  have n1 : K.wb ≠ W0.heap.size := by omega
  have i1 : (16 : Int) < (K.n : Int) := by omega
  have d1 : ((lo x : Int) - 1 == -1) = false := by rw [HTE.out]; exact bool_no hgo0.2.2
  have HS := Lib.hid h.hS
  have HX : Hid (x < 18446744073709551616 ∧ 16 < K.n ∧ K.f 16 = x) := Lib.hid ⟨hxb, h16, hx⟩
  have HR := Lib.hid hr
  have HGO := Lib.hid hgo
  have HEND := Lib.hid hend
  have HPS := Lib.hid (And.intro hN hps)
  obtain ⟨t0, ht0⟩ : ∃ t0, t0 = ((lo x : Int) - 1) := ⟨_, rfl⟩
  rw [← ht0] at d1 HTO
  clear h hr h16 hx hxb cw hgo0 ht0 HTE hgo hend hN hps
  have HK : Hid (K.r = K.r) := Lib.hid rfl
  obtain ⟨y, hy⟩ : ∃ y, y = K.r := ⟨_, rfl⟩
  obtain ⟨wb, hwb⟩ : ∃ wb, wb = K.wb := ⟨_, rfl⟩
  obtain ⟨n, hn⟩ : ∃ n, n = K.n := ⟨_, rfl⟩
  obtain ⟨kcw, hkcw⟩ : ∃ kcw, kcw = K.cw := ⟨_, rfl⟩
  obtain ⟨ly, hly⟩ : ∃ ly, ly = K.l := ⟨_, rfl⟩
  rw [← hy] at c0 c1 s0 n0 HRO HWAY ⊢
  rw [← hwb] at c1 cx s1 n1
  rw [← hn] at c1 i1
  rw [← hkcw] at c1
  rw [← hly] at c0 s2 HHD
  have HY := Lib.hid (And.intro hy (And.intro hwb (And.intro hn hly)))
  clear hy hwb hn hkcw hly HK
  have HV1 : Hid (VAt W0 K [(W0.heap.size, #[.pointer (some ⟨y, 0, none⟩)], 156)] K.pv m ps (W0.alloc (.cells #[.pointer (some ⟨y, 0, none⟩)] 156))) := Lib.hid ((VAt.start HH.out (Below.refl _ _)).add _ _)
  have sz1 : W0.heap.size < (W0.alloc (.cells #[.pointer (some ⟨y, 0, none⟩)] 156)).heap.size := by simp
  refine (callsIn_wide (n := 9)).1 (callsIn_of_wp_marks Tryz.func81 rfl trivial ?_ rfl)
  refine wpIn_wide.2 ?_
  simp only [Tryz.ntmps81, List.size_toArray, List.length_cons, List.length_nil, Nat.reduceAdd, Nat.reduceSub, Array.replicate_succ, Array.replicate_zero, List.push_toArray, List.append_toArray, List.nil_append, List.cons_append]
  obtain ⟨B0, hB0⟩ : ∃ B0, B0 = W0.heap.size := ⟨_, rfl⟩
  go_wp2_with (first | (go_at_call 69; refine (HHD.out _).mono ?_; rintro e w' ⟨rfl, rfl⟩) | (go_at_call 142; refine (HRO.out _ (HH.out.below ((Below.refl W0.heap.size W0).alloc (Nat.le_refl _) _))).mono ?_; rintro e w2 ⟨rfl, hb⟩; have H2 := Lib.hid (HV1.out.below hb); have sz2 : W0.heap.size < w2.heap.size := Nat.lt_of_lt_of_le sz1 hb.size; clear hb) | (go_at_call 136; refine (HTO.out _).mono ?_; rintro e w3 ⟨rfl, hb⟩; have H3 := Lib.hid (H2.out.below hb); have sz3 : W0.heap.size < w3.heap.size := Nat.lt_of_lt_of_le sz2 hb.size; have H4 := Lib.hid (((H3.out.add #[.bool false] 4).add #[.int .i64 (-1)] 3).add #[.bool true] 4); have cb : (((w3.alloc (Obj.cells #[.bool false] 4)).alloc (Obj.cells #[.int .i64 (-1)] 3)).alloc (Obj.cells #[.bool true] 4)).cell? ⟨W0.heap.size, 0, none⟩ = some (.pointer (some ⟨y, 0, none⟩)) := cell_in (H4.out.box (W0.heap.size, #[.pointer (some ⟨y, 0, none⟩)], 156) (by simp)); clear hb) | (go_at_call 143; refine (HWAY.out _).mono ?_; rintro e w5 ⟨rfl, hw5⟩; have H5 := Lib.hid hw5; clear hw5))
  have HVS : Hid (VAt W0 K (qCs g x y W0.heap.size w3.heap.size 0) K.pv m ps w5) := Lib.hid (by
    have h := ((H4.out.add #[.pointer (some ⟨y, 0, none⟩)] 156).add #[.int .i64 16] 3)
    rw [H5.out]
    simp only [World.size_alloc] at h
    exact h)
  have HSZ : Hid (W0.heap.size ≤ w5.heap.size ∧ W0.heap.size < w3.heap.size) := Lib.hid ⟨HVS.out.go.size, sz3⟩
  clear cb H5 H4 H3 H2 HV1 HRO HTO HHD HWAY c0 c1 cx n0 n1 s0 s1 s2 sz1 sz2 sz3 d1 i1
  obtain ⟨e1, e2, e3, e4⟩ := HY.out
  subst e1 e2 e3 e4
  clear HY
  generalize w3.heap.size = b1 at *
  refine (wpIn_wide (n := 9)).1 (range_way K g HR.out HS.out (qCs g x K.r W0.heap.size b1) (fun k => ps ++ plsL g 0 x k) m x N 16 (b1 + 3) (b1 + 4) 35 36 8 9 HX.out.1 HX.out.2 HGO.out HEND.out (fun k => by simp [qCs]) (fun k => by simp [qCs]) rfl HSZ.out.1 ⟨K.pv, by rw [plsL_zero, List.append_nil]; exact HVS.out⟩ ?_ ?_ ?_)
  · intro lp k W K' hK
    simp only [List.setIfInBounds_toArray, List.set_cons_succ, List.set_cons_zero] at hK ⊢
    gi_wp2
    exact hK
  · intro lp k W pv hk hV
    simp only [List.setIfInBounds_toArray, List.set_cons_succ, List.set_cons_zero]
    obtain ⟨s, hs⟩ : ∃ s, s = lo (wx g x k) - 1 := ⟨_, rfl⟩
    obtain ⟨g1, g2⟩ := goes_lt (HGO.out k hk)
    rw [← hs] at g1 g2
    rw [show ((lo (wx g x k) : Int) - 1) = (s : Int) by omega]
    obtain ⟨xl, hxl⟩ : ∃ xl, xl = wx g x (k + 1) := ⟨_, rfl⟩
    have hxlb : xl < 18446744073709551616 := by rw [hxl]; exact wx_u64 HR.out HX.out.1 (k + 1)
    have hp3 := HR.out.pl s g1
    obtain ⟨p, hp⟩ : ∃ p, p = (g.at_ + s) * 8 + 2 := ⟨_, rfl⟩
    obtain ⟨vv, hvv⟩ : ∃ vv, vv = g.val s := ⟨_, rfl⟩
    have hfp : K.f p = vv := by rw [HR.out.w p (by omega), hvv, hp]; rfl
    have HVL : Hid (∀ w, LayAt w K.l K.v → Calls Tryz.prog 77 #[.pointer (some ⟨K.l, 0, none⟩), .int .i64 (s : Int)] w (Drew (.int .i64 (p : Int)) w)) := Lib.hid fun w hl => by
      have h1 := val77 K.l K.v (s : Int) w hl
      have h2 := HR.out.slot HS.out g1 2
      rw [← hp] at h2
      rwa [show (2 : Int) = ((2 : Nat) : Int) from rfl, h2] at h1
    have hvb : vv < 18446744073709551616 := by rw [hvv]; exact HR.out.u64 _
    obtain ⟨sh, hsh⟩ : ∃ sh, sh = decide (vv / 4294967296 = 0) := ⟨_, rfl⟩
    have HSH : Hid (∀ w, Calls Tryz.prog 144 #[.int .u64 (vv : Int)] w (Says (.bool sh) w)) := Lib.hid fun w => by rw [hsh]; exact short144 vv hvb w
    obtain ⟨fr, hfr⟩ : ∃ fr, fr = decide (hi xl = 0) := ⟨_, rfl⟩
    obtain ⟨bw, hbw⟩ : ∃ bw, bw = byW (xl : Int) := ⟨_, rfl⟩
    have HBY : Hid (∀ w, Calls Tryz.prog 95 #[.int .u64 (xl : Int)] w (Gives (.int .i64 bw) w)) := Lib.hid fun w => by rw [hbw]; exact by95 (xl : Int) (by unfold U64; omega) w
    have dbw : (bw == -1) = fr := by
      rw [hbw, hfr, by_hi]
      by_cases h : hi xl = 0
      · rw [bool_yes h]; simp [h]
      · rw [bool_no h, beq_eq_false_iff_ne]; omega
    obtain ⟨i0, hi0⟩ : ∃ i0, i0 = (qIs g x k).1 := ⟨_, rfl⟩
    obtain ⟨l0, hl0⟩ : ∃ l0, l0 = (qIs g x k).2 := ⟨_, rfl⟩
    obtain ⟨la, hla⟩ : ∃ la, la = lastI g x k := ⟨_, rfl⟩
    obtain ⟨d0, hd0⟩ : ∃ d0, d0 = decide (k = 0) := ⟨_, rfl⟩
    have dla : (la == -1) = d0 := by
      rw [hla, hd0]
      cases k with
      | zero => rfl
      | succ k =>
        have := goes_lt (HGO.out k (by omega))
        rw [bool_no (by omega), beq_eq_false_iff_ne]
        show (lo (wx g x k) : Int) - 1 ≠ -1
        omega
    have HEQ : Hid (s = lo (wx g x k) - 1 ∧ xl = wx g x (k + 1) ∧ vv = g.val s ∧ sh = decide (vv / 4294967296 = 0) ∧ fr = decide (hi xl = 0) ∧ i0 = (qIs g x k).1 ∧ l0 = (qIs g x k).2 ∧ la = lastI g x k ∧ d0 = decide (k = 0) ∧ k < N ∧ lo (wx g x k) = s + 1) := Lib.hid ⟨hs, hxl, hvv, hsh, hfr, hi0, hl0, hla, hd0, hk, g2⟩
    have HVb : Hid (VAt W0 K [(W0.heap.size, #[.pointer (some ⟨K.r, 0, none⟩)], 156), (b1, #[.bool l0], 4), (b1 + 1, #[.int .i64 la], 3), (b1 + 2, #[.bool i0], 4), (b1 + 3, #[.pointer (some ⟨K.r, 0, none⟩)], 156), (b1 + 4, #[.int .i64 (16 : Int)], 3)] pv (wm g m x (k + 1)) (ps ++ plsL g 0 x k) W) := Lib.hid (by rw [hl0, hi0, hla]; exact hV)
    have HPV : Hid (p < K.n ∧ K.f p = vv) := Lib.hid ⟨by omega, hfp⟩
    rw [← hxl]
    clear hs g1 g2 hxl hxlb hp3 hp hvv hfp hvb hsh hfr hbw hi0 hl0 hla hd0 hV HX HGO HEND HVS
    generalize hmk : wm g m x (k + 1) = mk at *
    generalize hpk : ps ++ plsL g 0 x k = pk at *
    have HPK := Lib.hid hpk
    clear hmk hk hpk
    obtain ⟨cs9, hcs9⟩ : ∃ cs9 : Bool → Int → Bool → List (Nat × Array Value × TypeId), cs9 = fun li las i => [(W0.heap.size, #[.pointer (some ⟨K.r, 0, none⟩)], 156), (b1, #[.bool li], 4), (b1 + 1, #[.int .i64 las], 3), (b1 + 2, #[.bool i], 4), (b1 + 3, #[.pointer (some ⟨K.r, 0, none⟩)], 156), (b1 + 4, #[.int .i64 (16 : Int)], 3)] := ⟨_, rfl⟩
    have HC9 := Lib.hid hcs9
    have HVb : Hid (VAt W0 K (cs9 l0 la i0) pv mk pk W) := Lib.hid (by rw [hcs9]; exact HVb.out)
    have HBX : Hid (∀ li las i pv mk pk w, VAt W0 K (cs9 li las i) pv mk pk w → w.cell? ⟨W0.heap.size, 0, none⟩ = some (.pointer (some ⟨K.r, 0, none⟩)) ∧ w.cell? ⟨b1, 0, none⟩ = some (.bool li) ∧ w.cell? ⟨b1 + 1, 0, none⟩ = some (.int .i64 las) ∧ w.cell? ⟨b1 + 2, 0, none⟩ = some (.bool i) ∧ w.frozen? ⟨b1, 0, none⟩ = false ∧ w.frozen? ⟨b1 + 1, 0, none⟩ = false ∧ w.frozen? ⟨b1 + 2, 0, none⟩ = false) := Lib.hid (by
      intro li las i pv mk pk w h
      have hbx := h.box
      rw [hcs9] at hbx
      refine ⟨cell_in (hbx (W0.heap.size, #[.pointer (some ⟨K.r, 0, none⟩)], 156) (by simp)), cell_in (hbx (b1, #[.bool li], 4) (by simp)), cell_in (hbx (b1 + 1, #[.int .i64 las], 3) (by simp)), cell_in (hbx (b1 + 2, #[.bool i], 4) (by simp)), ?_, ?_, ?_⟩
      · unfold World.frozen?; rw [hbx (b1, #[.bool li], 4) (by simp)]; simp
      · unfold World.frozen?; rw [hbx (b1 + 1, #[.int .i64 las], 3) (by simp)]; simp
      · unfold World.frozen?; rw [hbx (b1 + 2, #[.bool i], 4) (by simp)]; simp)
    have HSET : Hid (∀ li las i i' pv mk pk w, VAt W0 K (cs9 li las i) pv mk pk w → VAt W0 K (cs9 li las i') pv mk pk (w.setCell ⟨b1 + 2, 0, none⟩ (.bool i')) ∧ StaysL w (w.setCell ⟨b1 + 2, 0, none⟩ (.bool i'))) := Lib.hid (by
      intro li las i i' pv mk pk w h
      rw [hcs9] at h ⊢
      exact VAt.set (cs1 := [(W0.heap.size, #[.pointer (some ⟨K.r, 0, none⟩)], 156), (b1, #[.bool li], 4), (b1 + 1, #[.int .i64 las], 3)]) (cs2 := [(b1 + 3, #[.pointer (some ⟨K.r, 0, none⟩)], 156), (b1 + 4, #[.int .i64 (16 : Int)], 3)]) h (by have := HSZ.out.2; simp; omega) 0 (.bool i'))
    have HSET2 : Hid (∀ li las i li' las' pv mk pk w, VAt W0 K (cs9 li las i) pv mk pk w → VAt W0 K (cs9 li' las' i) pv mk pk ((w.setCell ⟨b1, 0, none⟩ (.bool li')).setCell ⟨b1 + 1, 0, none⟩ (.int .i64 las')) ∧ StaysL w ((w.setCell ⟨b1, 0, none⟩ (.bool li')).setCell ⟨b1 + 1, 0, none⟩ (.int .i64 las'))) := Lib.hid (by
      intro li las i li' las' pv mk pk w h
      rw [hcs9] at h ⊢
      have h1 := VAt.set (cs1 := [(W0.heap.size, #[.pointer (some ⟨K.r, 0, none⟩)], 156)]) (cs2 := [(b1 + 1, #[.int .i64 las], 3), (b1 + 2, #[.bool i], 4), (b1 + 3, #[.pointer (some ⟨K.r, 0, none⟩)], 156), (b1 + 4, #[.int .i64 (16 : Int)], 3)]) h (by have := HSZ.out.2; simp; omega) 0 (.bool li')
      have h2 := VAt.set (cs1 := [(W0.heap.size, #[.pointer (some ⟨K.r, 0, none⟩)], 156), (b1, #[.bool li'], 4)]) (cs2 := [(b1 + 2, #[.bool i], 4), (b1 + 3, #[.pointer (some ⟨K.r, 0, none⟩)], 156), (b1 + 4, #[.int .i64 (16 : Int)], 3)]) h1.1 (by have := HSZ.out.2; simp; omega) 0 (.int .i64 las')
      exact ⟨h2.1, h1.2.trans h2.2⟩)
    have HCEND : Hid (l0 = (qIs g x k).2 → cs9 (l0 || fr) (s : Int) (i0 && (d0 || sh) && (fr || !l0)) = qCs g x K.r W0.heap.size b1 (k + 1)) := Lib.hid (by
      intro _
      obtain ⟨e1, e2, e3, e4, e5, e6, e7, e8, e9, e10, e11⟩ := HEQ.out
      rw [hcs9]
      have a1 : (qIs g x (k + 1)).2 = (l0 || fr) := by rw [e7, e5, e2]; rfl
      have a2 : (qIs g x (k + 1)).1 = (i0 && (d0 || sh) && (fr || !l0)) := by rw [e6, e9, e4, e3, e1, e5, e2, e7]; rfl
      have a3 : lastI g x (k + 1) = (s : Int) := by show (lo (wx g x k) : Int) - 1 = _; omega
      unfold qCs
      rw [a1, a2, a3])
    clear hcs9
    gi_upto_region 9 with (fail)
    gi_cut [] from 37 (fun wr => Hid (VAt W0 K (cs9 l0 la (i0 && (d0 || sh))) pv mk pk wr ∧ StaysL W wr))
    case first =>
      have HVD := Lib.hid (HVb.out.below ((Below.refl _ W).drew))
      have HSD : Hid (StaysL W W.drew) := Lib.hid (fun _ _ h _ => h)
      refine region_in' (by kernel_rfl) (by kernel_rfl) ?_ ?_
      · rintro ⟨a, w, h⟩; exact h
      generalize W.drew = Wd at *
      obtain ⟨c0, c1, -, hl, hw, -⟩ := HVD.out.reads
      have cx := hw p HPV.out.1
      rw [HPV.out.2] at cx
      have HLY := Lib.hid hl
      have i2 : (p : Int) < (K.n : Int) := by have := HPV.out.1; omega
      have i3 : (0 : Int) ≤ (p : Int) := by omega
      obtain ⟨q0, -, q2, q3, -, -, f3⟩ := HBX.out _ _ _ _ _ _ _ HVD.out
      have HFIN : Hid (∀ (n : Nat) (i9 : Bool), i9 = (i0 && (d0 || sh)) → VAt W0 K (cs9 l0 la (i0 && (d0 || sh))) pv mk pk ((Wd.drewN n).setCell ⟨b1 + 2, 0, none⟩ (.bool i9)) ∧ StaysL W ((Wd.drewN n).setCell ⟨b1 + 2, 0, none⟩ (.bool i9))) := Lib.hid fun n i9 e => by
        have h2 := HSET.out _ _ _ i9 _ _ _ _ (HVD.out.below (drewN_below (Below.refl _ Wd) n))
        rw [← e]
        exact ⟨h2.1, HSD.out.trans ((staysL_below (drewN_below (Below.refl _ Wd) n)).trans h2.2)⟩
      clear hl hw HVD HVb HCEND HEQ
      cases i0
      · skip
        refine any_qd 0 20 (by kernel_rfl) (fun _ _ d _ _ h => by cases d <;> exact h) ?_
        simp only [List.take_succ_cons, List.take_zero, List.drop_succ_cons, List.drop_zero, Nat.reduceAdd]
        refine wpQuiet_nil ?_
        repeat (first | go_big_quiet_skip | (go_big_quiet_want; go_big_quiet_op; first | go_big_quiet_on | go_big_quiet_call (first | (go_at_call 77; exact Calls.quiet_of (HVL.out _ (HLY.out.keep rfl))) | (go_at_call 144; exact Calls.quiet_of_same (HSH.out _)))))
        refine wpQuiet_nil ?_
        rintro _ ⟨q, rfl⟩
        go_wp2_with fail
        gi_meet
        exact Lib.hid (HFIN.out q _ rfl)
      · cases d0
        · skip
          refine any_qd 0 20 (by kernel_rfl) (fun _ _ d _ _ h => by cases d <;> exact h) ?_
          simp only [List.take_succ_cons, List.take_zero, List.drop_succ_cons, List.drop_zero, Nat.reduceAdd]
          refine wpQuiet_nil ?_
          repeat (first | go_big_quiet_skip | (go_big_quiet_want; go_big_quiet_op; first | go_big_quiet_on | go_big_quiet_call (first | (go_at_call 77; exact Calls.quiet_of (HVL.out _ (HLY.out.keep rfl))) | (go_at_call 144; exact Calls.quiet_of_same (HSH.out _)))))
          refine wpQuiet_nil ?_
          rintro _ ⟨q, rfl⟩
          go_wp2_with fail
          gi_meet
          exact Lib.hid (HFIN.out q _ (by simp))
        · skip
          refine any_qd 0 20 (by kernel_rfl) (fun _ _ d _ _ h => by cases d <;> exact h) ?_
          simp only [List.take_succ_cons, List.take_zero, List.drop_succ_cons, List.drop_zero, Nat.reduceAdd]
          refine wpQuiet_nil ?_
          repeat (first | go_big_quiet_skip | (go_big_quiet_want; go_big_quiet_op; first | go_big_quiet_on | go_big_quiet_call (first | (go_at_call 77; exact Calls.quiet_of (HVL.out _ (HLY.out.keep rfl))) | (go_at_call 144; exact Calls.quiet_of_same (HSH.out _)))))
          refine wpQuiet_nil ?_
          rintro _ ⟨q, rfl⟩
          go_wp2_with fail
          gi_meet
          exact Lib.hid (HFIN.out q _ (by simp))
    case rest =>
      clear HVb
      obtain ⟨q0, q1, q2, q3, f1, f2, f3⟩ := HBX.out _ _ _ _ _ _ _ hcut.out.1
      obtain ⟨i9, hi9⟩ : ∃ i9, i9 = (i0 && (d0 || sh)) := ⟨_, rfl⟩
      rw [← hi9] at q3 hcut HCEND
      have HI9 := Lib.hid hi9
      clear hi9
      clear dla HVL HSH
      gi_upto_region 11 with (first | (refine ⟨trivial, ?_⟩; gi_at_call 95; refine (CallsIn.inRound _ (callsIn_wide.2 (HBY.out _))).mono ?_; rintro e w10 ⟨rfl, hb⟩; have hcut := Lib.hid (And.intro (hcut.out.1.below hb) (hcut.out.2.trans (staysL_below hb))); clear hb q0 q1 q2 q3 f1 f2 f3))
      obtain ⟨q0, q1, q2, q3, f1, f2, f3⟩ := HBX.out _ _ _ _ _ _ _ hcut.out.1
      gi_cut [] from 60 (fun wr => Hid (VAt W0 K (cs9 l0 la (i9 && (fr || !l0))) pv mk pk wr ∧ StaysL W wr))
      case first =>
        have HFIN : Hid (∀ (i' : Bool), i' = (i9 && (fr || !l0)) → VAt W0 K (cs9 l0 la (i9 && (fr || !l0))) pv mk pk (w10.setCell ⟨b1 + 2, 0, none⟩ (.bool i')) ∧ StaysL W (w10.setCell ⟨b1 + 2, 0, none⟩ (.bool i'))) := Lib.hid fun i' e => by
          have h2 := HSET.out _ _ _ i' _ _ _ _ hcut.out.1
          rw [← e]
          exact ⟨h2.1, hcut.out.2.trans h2.2⟩
        clear HCEND HI9 HEQ hcut
        cases i9
        · gi_wp2
          gi_meet
          exact Lib.hid (HFIN.out _ rfl)
        · cases fr
          · gi_wp2
            gi_meet
            exact Lib.hid (HFIN.out _ (by simp))
          · gi_wp2
            gi_meet
            exact Lib.hid (HFIN.out _ (by simp))
      case rest =>
        obtain ⟨i11, hi11⟩ : ∃ i11, i11 = (i9 && (fr || !l0)) := ⟨_, rfl⟩
        rw [← hi11] at hcut HCEND
        clear hi11 q0 q1 q2 q3 f1 f2 f3
        gi_upto_region 12 with (fail)
        obtain ⟨q0, q1, q2, q3, f1, f2, f3⟩ := HBX.out _ _ _ _ _ _ _ hcut.out.1
        have n12 : b1 ≠ b1 + 1 := by omega
        have n21 : b1 + 1 ≠ b1 := by omega
        gi_cut [] from 68 (fun wr => Hid (VAt W0 K (cs9 (l0 || fr) (s : Int) i11) pv mk pk wr ∧ StaysL W wr))
        case first =>
          have HFIN : Hid (∀ (l' : Bool), l' = (l0 || fr) → VAt W0 K (cs9 (l0 || fr) (s : Int) i11) pv mk pk ((wc.setCell ⟨b1, 0, none⟩ (.bool l')).setCell ⟨b1 + 1, 0, none⟩ (.int .i64 (s : Int))) ∧ StaysL W ((wc.setCell ⟨b1, 0, none⟩ (.bool l')).setCell ⟨b1 + 1, 0, none⟩ (.int .i64 (s : Int)))) := Lib.hid fun l' e => by
            have h2 := HSET2.out _ _ _ l' (s : Int) _ _ _ _ hcut.out.1
            rw [← e]
            exact ⟨h2.1, hcut.out.2.trans h2.2⟩
          clear HCEND HI9 HEQ hcut
          cases l0
          · gi_wp2
            gi_meet
            exact Lib.hid (HFIN.out _ (by simp))
          · gi_wp2
            gi_meet
            exact Lib.hid (HFIN.out _ (by simp))
        case rest =>
          clear q0 q1 q2 q3 f1 f2 f3
          gi_upto_region 13 with (fail)
          refine region_in' (by kernel_rfl) (by kernel_rfl) ?_ ?_
          · rintro ⟨a, w, h⟩; exact h
          have HVD := Lib.hid (hcut.out.1.below ((Below.refl _ wc).drew))
          have HSD : Hid (StaysL W wc.drew) := Lib.hid (hcut.out.2.trans (fun _ _ h _ => h))
          have HCE := Lib.hid (HCEND.out HEQ.out.2.2.2.2.2.2.1)
          have HPE : Hid (ps ++ plsL g 0 x (k + 1) = pk ++ [⟨s, 0, fr⟩]) := Lib.hid (by
            obtain ⟨e1, e2, e3, e4, e5, -⟩ := HEQ.out
            rw [plsL_succ, ← List.append_assoc, HPK.out, ← e1, ← e2, ← e5])
          have HPL : Hid (pk.length ≤ 200000) := Lib.hid (by
            rw [← HPK.out, List.length_append, plsL_len]
            have := HPS.out
            have := HEQ.out.2.2.2.2.2.2.2.2.2.1
            omega)
          generalize wc.drew = Wd at *
          clear hcut
          obtain ⟨q0, -⟩ := HBX.out _ _ _ _ _ _ _ HVD.out
          obtain ⟨c0, c1, c3, hl, hw, y0, -⟩ := HVD.out.reads
          have ho := HVD.out.rd.places
          obtain ⟨ga, gc, rfl⟩ : ∃ a c, pv = .slice a pk.length c := own_slice_n ho
          obtain ⟨pl, hpl⟩ : ∃ pl, pl = pk.length := ⟨_, rfl⟩
          have HB0 : Hid (W0.heap.size < Wd.heap.size) := Lib.hid (by
            have h := HVD.out.box
            rw [HC9.out] at h
            exact lt_row (h (W0.heap.size, #[.pointer (some ⟨K.r, 0, none⟩)], 156) (by simp)))
          have HAP : Hid ((Value.slice ga pk.length gc).ownBlock ≠ some W0.heap.size ∧ (Value.slice ga pk.length gc).ownBlock ≠ some K.r) := Lib.hid ⟨by
            have h := HVD.out.apart
            rw [HC9.out] at h
            exact h (W0.heap.size, #[.pointer (some ⟨K.r, 0, none⟩)], 156) (by simp), fun e => (HVD.out.rd.po _ e).1 rfl⟩
          have HO : Hid (Wd.ownsRow 0 52 3 (.slice ga pk.length gc) pk.length (placesV pk)) := Lib.hid ho
          have HXR : Hid (∃ c t, Wd.heap[K.r]? = some (.cells c t (0, 0))) := Lib.hid ⟨_, _, HVD.out.rd.row⟩
          have HF : Hid (∀ w'' : World, w''.heap[W0.heap.size]? = Wd.heap[W0.heap.size]? ∧ w''.heap[K.r]? = Wd.heap[K.r]? → w''.cell? ⟨W0.heap.size, 0, none⟩ = some (.pointer (some ⟨K.r, 0, none⟩)) ∧ w''.cell? ⟨K.r, 3, none⟩ = some (.slice ga pk.length gc)) := Lib.hid (fun w'' ⟨h1, h2⟩ => ⟨(cell_of_heap h1 0).trans q0, (cell_of_heap h2 3).trans c3⟩)
          have HSZR := Lib.hid y0
          have SV : Wd.heap[W0.heap.size]? = Wd.heap[W0.heap.size]? := rfl
          have SX : Wd.heap[K.r]? = Wd.heap[K.r]? := rfl
          clear hl hw q0 c0 c1 c3 ho y0 HCEND HEQ HI9 HBX HSET HSET2 HBY
          rw [← hpl] at HF HO HAP HPL HVD
          have HPLE := Lib.hid hpl
          clear hpl
          obtain ⟨i52, hi, hz0, hz1, hz2⟩ := info_parts info52
          obtain ⟨W0s, hW0s⟩ : ∃ W0s, W0s = W0.heap.size := ⟨_, rfl⟩
          refine any_last (fun w'' => w''.heap[W0.heap.size]? = Wd.heap[W0.heap.size]? ∧ w''.heap[K.r]? = Wd.heap[K.r]?) rfl (by kernel_rfl) ?_
          simp only [List.pop_toArray, List.dropLast, List.size_toArray, List.length_cons, List.length_nil, Nat.reduceAdd]
          refine take_at 0 (some 73) (.pointer (some ⟨K.r, 0, none⟩)) rfl rfl (by kernel_rfl) (by kernel_rfl) (by kernel_rfl) (fun _ _ _ h => h) (Or.inl ⟨by rfl, ?_⟩) ⟨SV, SX⟩ ?_
          · intro w hSw
            obtain ⟨f0, f1⟩ := HF.out w hSw
            clear hSw
            go_simp
          try simp only [Act.put, List.setIfInBounds_toArray, List.set_cons_zero, List.set_cons_succ]
          refine take_at 1 (some 74) (.pointer (some ⟨K.r, 0, none⟩)) rfl rfl (by kernel_rfl) (by kernel_rfl) (by kernel_rfl) (fun _ _ _ h => h) (Or.inl ⟨by rfl, ?_⟩) ⟨SV, SX⟩ ?_
          · intro w hSw
            obtain ⟨f0, f1⟩ := HF.out w hSw
            clear hSw
            go_simp
          try simp only [Act.put, List.setIfInBounds_toArray, List.set_cons_zero, List.set_cons_succ]
          refine take_at 2 (some 75) (.pointer (some ⟨K.r, 0, none⟩)) rfl rfl (by kernel_rfl) (by kernel_rfl) (by kernel_rfl) (fun _ _ _ h => h) (Or.inl ⟨by rfl, ?_⟩) ⟨SV, SX⟩ ?_
          · intro w hSw
            obtain ⟨f0, f1⟩ := HF.out w hSw
            clear hSw
            go_simp
          try simp only [Act.put, List.setIfInBounds_toArray, List.set_cons_zero, List.set_cons_succ]
          refine take_at 3 (some 76) (.pointer (some ⟨K.r, 3, none⟩)) rfl rfl (by kernel_rfl) (by kernel_rfl) (by kernel_rfl) (fun _ _ _ h => h) (Or.inl ⟨by rfl, ?_⟩) ⟨SV, SX⟩ ?_
          · intro w hSw
            obtain ⟨f0, f1⟩ := HF.out w hSw
            clear hSw
            go_simp
          try simp only [Act.put, List.setIfInBounds_toArray, List.set_cons_zero, List.set_cons_succ]
          refine take_at 4 (some 77) (.slice ga pl gc) rfl rfl (by kernel_rfl) (by kernel_rfl) (by kernel_rfl) (fun _ _ _ h => h) (Or.inl ⟨by rfl, ?_⟩) ⟨SV, SX⟩ ?_
          · intro w hSw
            obtain ⟨f0, f1⟩ := HF.out w hSw
            clear hSw
            go_simp
          try simp only [Act.put, List.setIfInBounds_toArray, List.set_cons_zero, List.set_cons_succ]
          refine take_at 5 (some 78) (.int .i64 (s : Int)) rfl rfl (by kernel_rfl) (by kernel_rfl) (by kernel_rfl) (fun _ _ _ h => h) (Or.inl ⟨by rfl, ?_⟩) ⟨SV, SX⟩ ?_
          · intro w hSw
            obtain ⟨f0, f1⟩ := HF.out w hSw
            clear hSw
            go_simp
          try simp only [Act.put, List.setIfInBounds_toArray, List.set_cons_zero, List.set_cons_succ]
          refine take_at 6 (some 79) (.bool fr) rfl rfl (by kernel_rfl) (by kernel_rfl) (by kernel_rfl) (fun _ _ _ h => h) (Or.inl ⟨by rfl, ?_⟩) ⟨SV, SX⟩ ?_
          · intro w hSw
            obtain ⟨f0, f1⟩ := HF.out w hSw
            clear hSw
            go_simp
          try simp only [Act.put, List.setIfInBounds_toArray, List.set_cons_zero, List.set_cons_succ]
          refine take_at 7 (some 80) (.agg #[.int .i64 (s : Int), .int .i64 0, .bool fr]) rfl rfl (by kernel_rfl) (by kernel_rfl) (by kernel_rfl) (fun _ _ _ h => h) (Or.inl ⟨by rfl, ?_⟩) ⟨SV, SX⟩ ?_
          · intro w hSw
            obtain ⟨f0, f1⟩ := HF.out w hSw
            clear hSw
            go_simp
          try simp only [Act.put, List.setIfInBounds_toArray, List.set_cons_zero, List.set_cons_succ]
          have kS : ∀ o, (Wd.alloc o).heap[W0.heap.size]? = Wd.heap[W0.heap.size]? ∧ (Wd.alloc o).heap[K.r]? = Wd.heap[K.r]? := fun o => ⟨Below.heap_alloc Wd o _ HB0.out, Below.heap_alloc Wd o K.r HSZR.out⟩
          refine wpAnyH_ready (rs := [8]) (by kernel_rfl) (by simp) ?_
          refine AllReadyH.cons (i := 8) rfl (fun K' hK => ?_) AllReadyH.nil
          go_simp
          refine hK.out _ _ (kS _) (fun _ => ?_)
          clear hK K'
          try simp only [Act.put, List.setIfInBounds_toArray, List.set_cons_zero, List.set_cons_succ]
          refine wpAnyH_ready (rs := [9]) (by kernel_rfl) (by simp) ?_
          refine AllReadyH.cons (i := 9) rfl (fun K' hK => ?_) AllReadyH.nil
          refine step_append_at rfl (.tmp 77) (.tmp 81) 41 rfl 0 52 i52 _ 3 24 Tryz.underlying41 hi hz0 hz1 hz2 rfl (by decide) (.slice ga pl gc) pl (placesV pk) rfl (HO.out.alloc _) ⟨Wd.heap.size, 0, none⟩ 1 1 [.int .i64 (s : Int), .int .i64 0, .bool fr] rfl rfl (fun j u hj => cell_alloc Wd _ 52 j u hj) (by simp [Value.oneCell']) (by have := HPL.out; have := HPLE.out; unfold maxLen; omega) (by have := HPL.out; have := HPLE.out; omega) (Nat.zero_le _) ?_
          intro v' w1 ho hg hbl
          obtain ⟨ua, um, uc, rfl⟩ := own_slice ho
          have hkV : w1.heap[W0.heap.size]? = Wd.heap[W0.heap.size]? := (hg.block _ (by have := HB0.out; simp; omega) (Ne.symm HAP.out.1)).trans (kS _).1
          have hkX : w1.heap[K.r]? = Wd.heap[K.r]? := (hg.block K.r (by have := HSZR.out; simp; omega) (Ne.symm HAP.out.2)).trans (kS _).2
          refine hK.out _ _ ⟨hkV, hkX⟩ (fun _ => ?_)
          clear hK K' SV SX
          have HO1 := Lib.hid ho
          have HG1 := Lib.hid hg
          have HBL := Lib.hid hbl
          clear ho hg hbl kS
          have SV := hkV
          have SX := hkX
          clear hkV hkX
          try simp only [Act.put, List.setIfInBounds_toArray, List.set_cons_zero, List.set_cons_succ]
          refine take_at 10 (some 83) (.pointer (some ⟨K.r, 0, none⟩)) rfl rfl (by kernel_rfl) (by kernel_rfl) (by kernel_rfl) (fun _ _ _ h => h) (Or.inl ⟨by rfl, ?_⟩) ⟨SV, SX⟩ ?_
          · intro w hSw
            obtain ⟨f0, f1⟩ := HF.out w hSw
            clear hSw
            go_simp
          try simp only [Act.put, List.setIfInBounds_toArray, List.set_cons_zero, List.set_cons_succ]
          refine take_at 11 (some 84) (.pointer (some ⟨K.r, 3, none⟩)) rfl rfl (by kernel_rfl) (by kernel_rfl) (by kernel_rfl) (fun _ _ _ h => h) (Or.inl ⟨by rfl, ?_⟩) ⟨SV, SX⟩ ?_
          · intro w hSw
            obtain ⟨f0, f1⟩ := HF.out w hSw
            clear hSw
            go_simp
          try simp only [Act.put, List.setIfInBounds_toArray, List.set_cons_zero, List.set_cons_succ]
          refine wpAnyH_done (by kernel_rfl) ?_ _
          unfold ThenOp
          have c3 : w1.cell? ⟨K.r, 3, none⟩ = some (.slice ga pl gc) := (HF.out w1 ⟨SV, SX⟩).2
          have f3 : w1.frozen? ⟨K.r, 3, none⟩ = false := by
            obtain ⟨c, t, e⟩ := HXR.out
            unfold World.frozen?; rw [SX, e]; simp
          clear SV SX
          dsimp only
          go_simp
          have hfin := VAt.push (p := ⟨s, 0, fr⟩) HVD.out ((Below.refl Wd.heap.size Wd).alloc (Nat.le_refl _) _) (by rw [← HPLE.out]; exact HO1.out) HG1.out HBL.out
          rw [HCE.out, ← HPE.out] at hfin
          exact ⟨⟨_, hfin.1⟩, HSD.out.trans hfin.2⟩
  · intro D W pv hD hV hD2
    dsimp only
    have hbx := hV.box
    unfold qCs at hbx
    obtain ⟨iN, hiN⟩ : ∃ iN, iN = (qIs g x N).1 := ⟨_, rfl⟩
    obtain ⟨lN, hlN⟩ : ∃ lN, lN = (qIs g x N).2 := ⟨_, rfl⟩
    obtain ⟨la, hla⟩ : ∃ la, la = lastI g x N := ⟨_, rfl⟩
    have hplace : ∃ p : Nat, p < K.n ∧ K.f p = wx g x N ∧ (if la = -1 then (16 : Int) else K.v.slot la 3) = (p : Int) := by
      cases N with
      | zero => exact ⟨16, HX.out.2.1, HX.out.2.2, by rw [hla]; rfl⟩
      | succ N =>
        obtain ⟨g1, g2⟩ := goes_lt (HGO.out N (by omega))
        have h3 := HR.out.pl _ g1
        refine ⟨_, h3, (HR.out.w _ h3).trans rfl, ?_⟩
        have e : la = ((lo (wx g x N) - 1 : Nat) : Int) := by rw [hla]; show (lo (wx g x N) : Int) - 1 = _; omega
        rw [if_neg (by omega), e]
        exact HR.out.slot HS.out g1 3
    obtain ⟨p, p1, p2, p3⟩ := hplace
    have HW : Hid (∀ w, RdAt w { K with pv := pv } (wm g m x N) (ps ++ plsL g 0 x N) → Calls Tryz.prog 145 #[.pointer (some ⟨K.r, 0, none⟩), .int .i64 16, .int .i64 la] w (Gives (.bool (wholeB K.S g.T (wx g x N))) w)) := Lib.hid fun w hw => whole145 { K with pv := pv } _ _ g.T p (wx g x N) 16 la p1 p2 p3 HR.out.T w hw
    have q0 : W.cell? ⟨W0.heap.size, 0, none⟩ = some (.pointer (some ⟨K.r, 0, none⟩)) := cell_in (hbx (W0.heap.size, #[.pointer (some ⟨K.r, 0, none⟩)], 156) (by simp))
    have q1 : W.cell? ⟨b1, 0, none⟩ = some (.bool lN) := by rw [hlN]; exact cell_in (hbx (b1, #[.bool (qIs g x N).2], 4) (by simp))
    have q2 : W.cell? ⟨b1 + 1, 0, none⟩ = some (.int .i64 la) := by rw [hla]; exact cell_in (hbx (b1 + 1, #[.int .i64 (lastI g x N)], 3) (by simp))
    have q3 : W.cell? ⟨b1 + 2, 0, none⟩ = some (.bool iN) := by rw [hiN]; exact cell_in (hbx (b1 + 2, #[.bool (qIs g x N).1], 4) (by simp))
    have HVN := Lib.hid hV
    have HKK := Lib.hid hD2
    have HDL := Lib.hid hD
    have HEQ2 := Lib.hid (And.intro hiN hlN)
    have HEND2 : Hid (∀ (b : Bool) (W2 : World), Below W.heap.size W W2 → b = (iN && lN && wholeB K.S g.T (wx g x N)) → ∃ o, (Instr.takeDeferred D).run Tryz.prog W2 = .ok [] (W2.putObj D o) ∧ RdTo K (wm g m x N) (ps ++ plsL g 0 x N) (.bool ((qIs g x N).1 && (qIs g x N).2 && wholeB K.S g.T (wx g x N))) W0 (.returned (.bool b)) (W2.putObj D o)) := Lib.hid fun b W2 hb e => by
      have hk2 : W2.heap[D]? = some (.deferred (some [])) := (hb.block D (Array.getElem?_eq_some_iff.1 HKK.out).1).trans HKK.out
      exact ⟨_, run_takeDeferred hk2, by rw [e, HEQ2.out.1, HEQ2.out.2], ((HVN.out.below hb).put hk2 HDL.out).out⟩
    clear HEQ2 hV hD hD2 hbx hiN hlN hla p1 p2 p3 HGO HEND HX HR
    generalize wholeB K.S g.T (wx g x N) = wb at *
    cases iN
    · go_wp2_with fail
      show LeavesInM Fence.wide 9 Tryz.prog Tryz.f81 _ _ [{ target := .collected D, args := #[] }] .returning W
      obtain ⟨o, t1, t2⟩ := HEND2.out false W (Below.refl _ _) (by simp)
      unfold LeavesInM
      refine ⟨by simp, .inl ⟨_, _, rfl, t1, ?_⟩⟩
      exact ⟨_, results_tmp (t := 2) rfl _ _ _, t2⟩
    · cases lN
      · go_wp2_with fail
        show LeavesInM Fence.wide 9 Tryz.prog Tryz.f81 _ _ [{ target := .collected D, args := #[] }] .returning W
        obtain ⟨o, t1, t2⟩ := HEND2.out false W (Below.refl _ _) (by simp)
        unfold LeavesInM
        refine ⟨by simp, .inl ⟨_, _, rfl, t1, ?_⟩⟩
        exact ⟨_, results_tmp (t := 2) rfl _ _ _, t2⟩
      · go_wp2_with (go_at_call 145; refine (HW.out _ HVN.out.rd).mono ?_; rintro e w6 ⟨rfl, hb⟩; have H6 := Lib.hid hb; clear hb q0 q1 q2 q3)
        show LeavesInM Fence.wide 9 Tryz.prog Tryz.f81 _ _ [{ target := .collected D, args := #[] }] .returning w6
        obtain ⟨o, t1, t2⟩ := HEND2.out wb w6 (H6.out) (by simp)
        unfold LeavesInM
        refine ⟨by simp, .inl ⟨_, _, rfl, t1, ?_⟩⟩
        exact ⟨_, results_tmp (t := 2) rfl _ _ _, t2⟩
end Go.Proofs.YtibelcmdfkgonaaGreat
