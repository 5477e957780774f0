/- Layer 20 (view): the queue and a list, as the plain law has them. No walk here.
   Layer 20 (view): Places.
   Layer 20: a ground's plain reading; a mark over a ground that was laid. No walk here. -/
import Derived.Test.YtibelcmdfkgonaaGreatK32
import Derived.Test.YtibelcmdfkgonaaGreatK17
import Derived.Carry
import Derived.Test.YtibelcmdfkgonaaGreatK18
import Derived.Test.YtibelcmdfkgonaaGreatK28
import Derived.Test.YtibelcmdfkgonaaGreatK20
namespace Go.Proofs.YtibelcmdfkgonaaGreat
open Go.RowKit Go.BigFrame
set_option linter.unusedVariables false
set_option linter.unusedSimpArgs false
/-- A reader's function was called. -/
theorem VAt.call {W0 : World} {K : Rd} {cs : List (Nat × Array Value × TypeId)} {pv pv' : Value} {m m' : Nat → Bool} {ps ps' : List Place} {W W' : World} (h : VAt W0 K cs pv m ps W) (hg : RdGo { K with pv := pv } pv' W W') (hr : RdAt W' { K with pv := pv' } m' ps') : VAt W0 K cs pv' m' ps' W' ∧ StaysL W W' := by
  refine ⟨⟨h.go.trans hg, hr, fun c hc => ?_, h.lo, fun c hc e => ?_, h.base⟩, hg.stays h.rd⟩
  · refine (hg.block c.1 (lt_row (h.box c hc)) ?_).trans (h.box c hc)
    have hlo := h.lo c hc
    rintro (e | e | e)
    · have := h.base c.1 (.inl (.inl e)); omega
    · have := h.base c.1 (.inl (.inr (.inl e))); omega
    · exact h.apart c hc e
  · rcases hg.new c.1 e with e | e
    · exact h.apart c hc e
    · have := lt_row (h.box c hc)
      omega
theorem whole_eq (g : Gd) (S x : Nat) (hS : S = g.S) : wholeB S g.T x = decide (whole g x) := by
  subst hS
  unfold wholeB whole
  by_cases h1 : rightL g.S g.T x <;> by_cases h2 : lo x = 0 <;> simp [h1, h2]
theorem queue81 (K : Rd) (g : Gd) (m : Nat → Bool) (ps : List Place) (x : Nat) (hr : Reads g K) (h16 : 16 < K.n) (hx : K.f 16 = x) (hps : ps.length + g.S ≤ 200000) (W0 : World) (h : RdAt W0 K m ps) :
    Calls Tryz.prog 81 #[.pointer (some ⟨K.r, 0, none⟩)] W0 (RdTo K (vQueue g m ps x).met (vQueue g m ps x).ps (.bool (vQueue g m ps x).is) W0) := by
  unfold vQueue
  by_cases hc : rightL g.S g.T x ∧ hi x = 0 ∧ lo x ≠ 0
  · rw [if_pos hc]
    obtain ⟨N, h1, h2, h3, h4⟩ := way_seq g g.S m x (unmet_le _ _)
    have := queue81_yes K g m ps x N hr h16 hx W0 h hc h1 h2 (by have := unmet_le g.S m; omega) hps
    unfold queueB wayP
    rw [h3]
    simp only
    rw [← qIs_eq, lastLink_wl, ← whole_eq g K.S _ hr.S]
    exact this
  · rw [if_neg hc]
    exact queue81_no K g m ps x hr h16 hx W0 h hc
theorem list82 (K : Rd) (g : Gd) (m : Nat → Bool) (ps : List Place) (hd n x : Nat) (hr : Reads g K) (h16 : hd < K.n) (hx : K.f hd = x) (hps : ps.length + g.S ≤ 200000) (hn1000 : n ≤ 1000) (hbu1 : 1 ≤ K.v.bu) (hbu : ∀ k : Nat, k < 4294967296 → (g.bucket k : Int) = bucketI (k : Int) K.v.bu) (W0 : World) (h : RdAt W0 K m ps) :
    Calls Tryz.prog 82 #[.pointer (some ⟨K.r, 0, none⟩), .int .i64 (hd : Int), .int .i64 (n : Int)] W0 (RdTo K (vList g n m ps x).met (vList g n m ps x).ps (.bool (vList g n m ps x).is) W0) := by
  unfold vList
  by_cases hc : rightL g.S g.T x ∧ hi x = 0
  · rw [if_pos hc]
    obtain ⟨N, h1, h2, h3, h4⟩ := way_seq g g.S m x (unmet_le _ _)
    have := list82_yes K g m ps hd n x N hr h16 hx W0 h hc h1 h2 (by have := unmet_le g.S m; omega) hps hn1000 hbu1 hbu
    unfold listB wayP
    rw [h3]
    simp only
    rw [← lIs_eq, lastLink_wl, ← whole_eq g K.S _ hr.S]
    exact this
  · rw [if_neg hc]
    exact list82_no K g m ps hd n x hr h16 hx W0 h hc
/-- How many slots are met. -/
theorem way_len (g : Gd) (m : Nat → Bool) (x : Nat) : (way g g.S m x).1.length + unmet g.S (way g g.S m x).2 = unmet g.S m := by
  have := way_unmet g g.S m x; omega
theorem vRun_len (g : Gd) (q : Nat) (hd : Nat → Nat) : ∀ k, (vRun g q hd k).ps.length + unmet g.S (vRun g q hd k).met ≤ g.S
  | 0 => by
    show (vQueue g (fun _ => false) [] (g.w q)).ps.length + unmet g.S (vQueue g (fun _ => false) [] (g.w q)).met ≤ g.S
    unfold vQueue
    have h1 := way_len g (fun _ => false) (g.w q)
    have h2 := unmet_le g.S (fun _ => false)
    split
    · simp only [List.nil_append, wayP, List.length_map]; omega
    · simp only [List.length_nil]; omega
  | k + 1 => by
    have ih := vRun_len g q hd k
    show (vOne g (k + 1) (hd k) (vRun g q hd k)).ps.length + unmet g.S (vOne g (k + 1) (hd k) (vRun g q hd k)).met ≤ g.S
    unfold vOne
    split
    · unfold vList
      have h1 := way_len g (vRun g q hd k).met (g.w (hd k))
      split
      · simp only [List.length_append, wayP, List.length_map]; omega
      · exact ih
    · exact ih
end Go.Proofs.YtibelcmdfkgonaaGreat

namespace Go.Proofs.YtibelcmdfkgonaaGreat
open Go.RowKit Go.BigFrame
set_option linter.unusedVariables false
set_option linter.unusedSimpArgs false
attribute [local go_sem] Oper.semAt_some
theorem own_raise {w : World} {b b' : Nat} {e : TypeId} {size : Nat} {v : Value} {n : Nat} {xs : List Value} (h : w.ownsRow b e size v n xs) (hb : ∀ k, v.ownBlock = some k → b' ≤ k) : w.ownsRow b' e size v n xs := by
  refine ⟨h.1, ?_⟩
  rcases h.2 with hn | ⟨g, cap, cur, hv, h2, rest⟩
  · exact .inl hn
  · subst hv; exact .inr ⟨g, cap, cur, rfl, hb g rfl, rest⟩
/-- What Places says. -/
def PlacesTo (s : VS) (W : World) (e : Ending) (W' : World) : Prop :=
  Below W.heap.size W W' ∧ ((s.is = false ∧ e = .returned (.tuple #[.slice none 0 0, .int .i64 8])) ∨
    (s.is = true ∧ ∃ v, e = .returned (.tuple #[v, .int .i64 0]) ∧ W'.ownsRow W.heap.size 52 3 v s.ps.length (placesV s.ps)))
def pCs (g : Gd) (r l b0 b1 : Nat) (k : Nat) : List (Nat × Array Value × TypeId) :=
  [(b0, #[.pointer (some ⟨r, 0, none⟩)], 156), (b1, #[.bool (vRun g 16 (fun k => wayF (k + 1)) k).is], 4), (b1 + 1, #[.int .i64 ((k : Int) + 1)], 3), (b1 + 2, #[.pointer (some ⟨l, 0, none⟩)], 27)]
theorem range16 {assign body : Code} {Q : Exit → Act → World → Prop} {a : Act} {gop : Operand} {W0 w : World} (K : Rd) (g : Gd) (bu b0 b1 : Nat) (hbu : (bu : Int) = K.v.bu) (hbu1 : bu ≤ 64)
    (hg : a.eval gop = .func (.func 132) #[] #[.pointer (some ⟨b1 + 2, 0, none⟩)]) (hW0 : W0.heap.size ≤ w.heap.size) (h0 : ∃ pv, VAt W0 K (pCs g K.r K.l b0 b1 0) pv (vRun g 16 (fun k => wayF (k + 1)) 0).met (vRun g 16 (fun k => wayF (k + 1)) 0).ps w)
    (hassign : ∀ (l k : Nat) (W : World) (K' : Act → World → Prop), K' { tmps := ((a.tmps.setIfInBounds 29 (.int .i64 (wayF (k + 1) : Int))).setIfInBounds 30 (.bool (wayB k))).setIfInBounds 9 (.int .i64 (wayF (k + 1) : Int)), defers := [] } W →
      assign.wpIn (Fence.wide.inRound l) 7 Tryz.prog (Exit.then K' (fun _ _ _ => False)) { tmps := (a.tmps.setIfInBounds 29 (.int .i64 (wayF (k + 1) : Int))).setIfInBounds 30 (.bool (wayB k)), defers := [] } W)
    (hbody : ∀ (lp k : Nat) (W : World) (pv : Value), k < bu + 1 → VAt W0 K (pCs g K.r K.l b0 b1 k) pv (vRun g 16 (fun k => wayF (k + 1)) k).met (vRun g 16 (fun k => wayF (k + 1)) k).ps W →
      body.wpIn (Fence.wide.inRound lp) 7 Tryz.prog (Ended fun W' => (∃ pv', VAt W0 K (pCs g K.r K.l b0 b1 (k + 1)) pv' (vRun g 16 (fun k => wayF (k + 1)) (k + 1)).met (vRun g 16 (fun k => wayF (k + 1)) (k + 1)).ps W') ∧ StaysL W W') { tmps := ((a.tmps.setIfInBounds 29 (.int .i64 (wayF (k + 1) : Int))).setIfInBounds 30 (.bool (wayB k))).setIfInBounds 9 (.int .i64 (wayF (k + 1) : Int)), defers := [] } W)
    (hdone : ∀ (D : Nat) (W : World) (pv : Value), W0.heap.size ≤ D → VAt W0 K (pCs g K.r K.l b0 b1 (bu + 1)) pv (vRun g 16 (fun k => wayF (k + 1)) (bu + 1)).met (vRun g 16 (fun k => wayF (k + 1)) (bu + 1)).ps W → W.heap[D]? = some (.deferred (some [])) → Q .normal { a with defers := { target := .collected D, args := #[] } :: a.defers } W) :
    (Code.rangeFunc gop #[29, 30] assign body).wpIn Fence.wide 9 Tryz.prog Q a w := by
  have hla : ∀ k, laid #[29, 30] (headsArg k) a.tmps = (a.tmps.setIfInBounds 29 (.int .i64 (wayF (k + 1) : Int))).setIfInBounds 30 (.bool (wayB k)) := fun k => by
    rw [headsArg_eq]; simp [laid]
  refine range_gen (F := 132) (caps := #[.pointer (some ⟨b1 + 2, 0, none⟩)]) (N := bu + 1) (args := headsArg)
    (fun k W => ∃ pv, VAt W0 K (pCs g K.r K.l b0 b1 k) pv (vRun g 16 (fun k => wayF (k + 1)) k).met (vRun g 16 (fun k => wayF (k + 1)) k).ps W)
    (fun k W => ∃ pv, VAt W0 K (pCs g K.r K.l b0 b1 k) pv (vRun g 16 (fun k => wayF (k + 1)) k).met (vRun g 16 (fun k => wayF (k + 1)) k).ps W)
    (fun k W => ∃ pv, VAt W0 K (pCs g K.r K.l b0 b1 (k + 1)) pv (vRun g 16 (fun k => wayF (k + 1)) (k + 1)).met (vRun g 16 (fun k => wayF (k + 1)) (k + 1)).ps W)
    (fun k => ((a.tmps.setIfInBounds 29 (.int .i64 (wayF (k + 1) : Int))).setIfInBounds 30 (.bool (wayB k))).setIfInBounds 9 (.int .i64 (wayF (k + 1) : Int)))
    (enters_at Tryz.func132 (by kernel_rfl) rfl) (fun k _ => by rw [headsArg_eq]; rfl) hg h0 (fun k W W' h ⟨pv, hv⟩ => ⟨pv, hv.loop h hW0⟩) (fun k W W' h ⟨pv, hv⟩ => ⟨pv, hv.loop h hW0⟩) (fun k W W' h ⟨pv, hv⟩ => ⟨pv, hv.loop h hW0⟩) ?_ ?_ ?_ ?_
  · intro lp R hR hY W h0 r0
    exact iter132 K.l (b1 + 2) bu K.v hbu hbu1 _ (fun k W W' hb ⟨pv, hv⟩ => ⟨pv, hv.below hb⟩) (fun k W ⟨pv, hv⟩ => ⟨cell_in (hv.box (b1 + 2, #[.pointer (some ⟨K.l, 0, none⟩)], 27) (by simp [pCs])), hv.rd.lay⟩) lp R hR hY W h0 r0
  · intro lp k W K' hk hK
    rw [hla]
    exact hassign lp k W K' hK
  · rintro lp k W hk ⟨pv, h⟩
    exact hbody lp k W pv hk h
  · rintro D W hD ⟨pv, h⟩ hk
    exact hdone D W pv (Nat.le_trans hW0 hD) h hk
theorem wayF_in {n ln bu : Nat} (k : Nat) (hk : k < bu + 1) (h : 40 + bu ≤ n) : wayF (k + 1) < n := by
  cases k with
  | zero => show 32 < n; omega
  | succ k => show 40 + k < n; omega
set_option maxRecDepth 100000 in
set_option maxHeartbeats 4000000 in
theorem places16 (g : Gd) (l wb n cw S bu : Nat) (v : Lv) (f : Nat → Nat) (hr : ∀ r mb, Reads g ⟨r, l, wb, n, cw, mb, S, v, f, .slice none 0 0⟩) (hS : (S : Int) = v.sl) (hn : (n : Int) = v.ln * 8) (hln : v.ln ≤ 1000000) (hu : ∀ k, k < n → f k < 18446744073709551616) (hS1 : S ≤ 100000)
    (hbu : (bu : Int) = v.bu) (hbu1 : bu ≤ 64) (hbu0 : 1 ≤ bu) (h40 : 40 + bu ≤ n) (hbk : ∀ k : Nat, k < 4294967296 → (g.bucket k : Int) = bucketI (k : Int) v.bu) (W : World) (hl : LayAt W l v) (hw : RowAt W wb n fun k => .int .u64 (f k : Int)) :
    Calls Tryz.prog 16 #[.pointer (some ⟨l, 0, none⟩), .slice (some ⟨wb, 0, none⟩) n cw] W (PlacesTo (vRun g 16 (fun k => wayF (k + 1)) (bu + 1)) W) := by
  have HLN := Lib.hid (lines80 l v W hl)
  have ln0 : 0 ≤ v.ln := by omega
  have dn : ((n : Int) != v.ln * 8) = false := by rw [hn]; simp
  obtain ⟨K, hK⟩ : ∃ K : Rd, K = ⟨W.heap.size + 1, l, wb, n, cw, W.heap.size, S, v, f, .slice none 0 0⟩ := ⟨_, rfl⟩
  obtain ⟨Wb, hWb⟩ : ∃ Wb, Wb = (W.alloc (.map #[] 0)).alloc (.cells #[.pointer (some ⟨l, 0, none⟩), .slice (some ⟨wb, 0, none⟩) n cw, .map (some W.heap.size), .slice none 0 0] 159) := ⟨_, rfl⟩
  have HBW : Hid (Below W.heap.size W Wb) := Lib.hid (by rw [hWb]; exact ((Below.refl _ _).alloc (Nat.le_refl _) _).alloc (by simp) _)
  have hlt := hl.lt
  have hwt := hw.lt
  have HRD : Hid (RdAt Wb K (fun _ => false) []) := Lib.hid (by
    have hm : Wb.heap[W.heap.size]? = some (.map #[] 0) := by rw [hWb, Below.heap_alloc _ _ _ (by simp)]; exact heap_alloc_new _ _
    have hr : Wb.heap[W.heap.size + 1]? = some (.cells #[.pointer (some ⟨l, 0, none⟩), .slice (some ⟨wb, 0, none⟩) n cw, .map (some W.heap.size), .slice none 0 0] 159 (0, 0)) := by
      have := heap_alloc_new (W.alloc (.map #[] 0)) (.cells #[.pointer (some ⟨l, 0, none⟩), .slice (some ⟨wb, 0, none⟩) n cw, .map (some W.heap.size), .slice none 0 0] 159)
      rw [World.size_alloc] at this
      rw [hWb]; exact this
    rw [hK]
    exact
      { row := hr
        lay := hl.keep (HBW.out.block l hlt)
        words := hw.keep (HBW.out.block wb hwt)
        met := ⟨[], 0, hm, fun a => by unfold lookL metF; simp⟩
        places := World.ownsRow_nil _ _ _ _
        apart := ⟨by show W.heap.size + 1 ≠ wb; omega, by show W.heap.size + 1 ≠ W.heap.size; omega, by show wb ≠ W.heap.size; omega, by show l ≠ W.heap.size + 1; omega, by show l ≠ W.heap.size; omega⟩
        po := fun k hk => by cases hk
        hS := hS
        hn := hn
        u64 := hu })
  have HR : Hid (Reads g K) := Lib.hid (by rw [hK]; exact hr _ _)
  have HK : Hid (K.S = S ∧ K.v = v ∧ K.n = n ∧ K.f = f ∧ K.l = l ∧ K.r = W.heap.size + 1 ∧ K.pv = .slice none 0 0) := Lib.hid (by rw [hK]; exact ⟨rfl, rfl, rfl, rfl, rfl, rfl, rfl⟩)
  have HMB : Hid (W.heap.size ≤ K.mb) := Lib.hid (by rw [hK]; exact Nat.le_refl _)
  have HWB := Lib.hid hWb
  have HF : Hid (∀ p, p < n → f p = g.w p) := Lib.hid (by
    have := (hr 0 0).w
    exact this)
  have HSS := Lib.hid (And.intro hS1 (And.intro hbu (And.intro hbu1 (And.intro hbu0 h40))))
  have HBK := Lib.hid hbk
  have HgS : Hid (g.S = S) := Lib.hid ((hr 0 0).S).symm
  have HQ : Hid (∀ w, RdAt w K (fun _ => false) [] → Calls Tryz.prog 81 #[.pointer (some ⟨W.heap.size + 1, 0, none⟩)] w (RdTo K (vRun g 16 (fun k => wayF (k + 1)) 0).met (vRun g 16 (fun k => wayF (k + 1)) 0).ps (.bool (vRun g 16 (fun k => wayF (k + 1)) 0).is) w)) := Lib.hid fun w hw => by
    have e := queue81 K g (fun _ => false) [] (g.w 16) HR.out (by rw [HK.out.2.2.1]; omega) (by rw [HK.out.2.2.2.1]; exact HF.out 16 (by omega)) (by rw [HgS.out]; simp; omega) w hw
    rw [HK.out.2.2.2.2.2.1] at e
    exact e
  have HHE := Lib.hid fun w => heads71 l w
  have HVT : Hid (∀ w, w = Wb.alloc (.cells #[.pointer (some ⟨W.heap.size + 1, 0, none⟩)] 156) → VAt Wb K [(Wb.heap.size, #[.pointer (some ⟨W.heap.size + 1, 0, none⟩)], 156)] K.pv (fun _ => false) [] w) := Lib.hid fun w e => by
    rw [e]
    exact (VAt.start HRD.out (Below.refl _ _)).add _ _
  have HZW : Hid (Wb.heap.size = W.heap.size + 1 + 1) := Lib.hid (by rw [hWb]; simp)
  have hmm := @run_makeMap Tryz.prog
  clear hr hK hS hn hu hl hw hlt hwt hbk hbu hbu0 h40 hS1 hWb
  refine (callsIn_wide (n := 9)).1 (callsIn_of_wp_marks Tryz.func16 rfl trivial ?_ rfl)
  refine wpIn_wide.2 ?_
  simp only [Tryz.ntmps16, List.size_toArray, List.length_cons, List.length_nil, Nat.reduceAdd, Nat.reduceSub, Array.replicate_succ, Array.replicate_zero, List.push_toArray, List.append_toArray, List.nil_append, List.cons_append]
  obtain ⟨x0, hx0⟩ : ∃ x0, x0 = vRun g 16 (fun k => wayF (k + 1)) 0 := ⟨_, rfl⟩
  rw [← hx0] at HQ
  have HX0 := Lib.hid hx0
  clear hx0
  go_wp2_with (first | (go_at_call 80; refine HLN.out.mono ?_; rintro e w' ⟨rfl, rfl⟩) | (go_at_call 81; refine (HQ.out _ (HVT.out _ (by rw [HWB.out])).rd).mono ?_; rintro e w3 ⟨rfl, pv, hg, hr⟩; have H3 := Lib.hid ((HVT.out _ (by rw [HWB.out])).call hg hr); have H3s := Lib.hid hg.size; have cb : w3.cell? ⟨Wb.heap.size, 0, none⟩ = some (.pointer (some ⟨w'.heap.size + 1, 0, none⟩)) := cell_in (H3.out.1.box (Wb.heap.size, #[.pointer (some ⟨w'.heap.size + 1, 0, none⟩)], 156) (by simp)); clear hg hr) | (go_at_call 71; refine (HHE.out _).mono ?_; rintro e w5 ⟨rfl, hw5⟩; have H5 := Lib.hid hw5; clear hw5))
  have HVS : Hid (VAt Wb K (pCs g K.r K.l (w'.heap.size + 1 + 1) w3.heap.size 0) pv (vRun g 16 (fun k => wayF (k + 1)) 0).met (vRun g 16 (fun k => wayF (k + 1)) 0).ps w5) := Lib.hid (by
    have h := ((H3.out.1.add #[.bool x0.is] 4).add #[.int .i64 1] 3).add #[.pointer (some ⟨l, 0, none⟩)] 27
    rw [H5.out]
    simp only [World.size_alloc] at h
    rw [HZW.out] at h
    unfold pCs
    rw [← HX0.out, HK.out.2.2.2.2.1, HK.out.2.2.2.2.2.1]
    exact h)
  have HSZ : Hid (Wb.heap.size ≤ w5.heap.size ∧ Wb.heap.size < w3.heap.size ∧ Wb.heap.size = w'.heap.size + 1 + 1) := Lib.hid ⟨HVS.out.go.size, lt_row (H3.out.1.box (Wb.heap.size, #[.pointer (some ⟨w'.heap.size + 1, 0, none⟩)], 156) (by simp)), HZW.out⟩
  have HBW2 : Hid (∀ pv W m ps cs, VAt Wb K cs pv m ps W → Below w'.heap.size w' W) := Lib.hid fun pv W m ps cs h => HBW.out.trans (h.go.below (fun k hk => by
      rcases hk with e | e | e
      · rw [e, HK.out.2.2.2.2.2.1]; omega
      · have := HK.out; rw [e]; exact HMB.out
      · rw [HK.out.2.2.2.2.2.2] at e; cases e) HBW.out.size)
  clear cb H5 H3 H3s HVT HZW HQ HHE hmm HLN HRD HWB HX0 dn
  obtain ⟨c0, hc0⟩ : ∃ c0, c0 = w'.heap.size := ⟨_, rfl⟩
  rw [← hc0] at HVS HSZ HK HBW2
  have HC0 := Lib.hid hc0
  rw [← hc0]
  clear hc0
  generalize w3.heap.size = b1 at *
  refine (wpIn_wide (n := 9)).1 (range16 K g bu (c0 + 1 + 1) b1 (by rw [HK.out.2.1]; exact HSS.out.2.1) hbu1 rfl HSZ.out.1 ⟨pv, HVS.out⟩ ?_ ?_ ?_)
  · intro lp k W K' hK
    simp only [List.setIfInBounds_toArray, List.set_cons_succ, List.set_cons_zero] at hK ⊢
    gi_wp2
    exact hK
  · intro lp k W pv hk hV
    simp only [List.setIfInBounds_toArray, List.set_cons_succ, List.set_cons_zero]
    obtain ⟨st, hst⟩ : ∃ st, st = vRun g 16 (fun k => wayF (k + 1)) k := ⟨_, rfl⟩
    have hst2 : vRun g 16 (fun k => wayF (k + 1)) (k + 1) = vOne g (k + 1) (wayF (k + 1)) st := by rw [hst]; rfl
    have hlen : st.ps.length + g.S ≤ 200000 := by
      have := vRun_len g 16 (fun k => wayF (k + 1)) k
      rw [← hst] at this
      have := HgS.out
      have := HSS.out.1
      omega
    have HL : Hid (st.is = true → ∀ w, RdAt w { K with pv := pv } st.met st.ps → Calls Tryz.prog 82 #[.pointer (some ⟨c0 + 1, 0, none⟩), .int .i64 (wayF (k + 1) : Int), .int .i64 ((k : Int) + 1)] w (RdTo { K with pv := pv } (vOne g (k + 1) (wayF (k + 1)) st).met (vOne g (k + 1) (wayF (k + 1)) st).ps (.bool (vOne g (k + 1) (wayF (k + 1)) st).is) w)) := Lib.hid fun his w hw => by
      have hin : wayF (k + 1) < n := wayF_in (ln := 0) k hk HSS.out.2.2.2.2
      have hR2 : Reads g { K with pv := pv } := ⟨HR.out.S, HR.out.T, HR.out.B, HR.out.at_, HR.out.w, HR.out.u64, HR.out.pl⟩
      have := list82 { K with pv := pv } g st.met st.ps (wayF (k + 1)) (k + 1) (g.w (wayF (k + 1))) hR2 (by show _ < K.n; rw [HK.out.2.2.1]; exact hin) (HR.out.w _ (by rw [HK.out.2.2.1]; exact hin)) hlen (by omega)
        (by show 1 ≤ K.v.bu; rw [HK.out.2.1, ← HSS.out.2.1]; have := HSS.out.2.2.2.1; omega) (by show ∀ k : Nat, _ → _ = bucketI _ K.v.bu; rw [HK.out.2.1]; exact HBK.out) w hw
      unfold vOne
      rw [if_pos his]
      rw [show (((k + 1 : Nat) : Int)) = (k : Int) + 1 by omega] at this
      rw [show c0 + 1 = K.r from HK.out.2.2.2.2.2.1.symm]
      exact this
    have HNO : Hid (st.is = false → vOne g (k + 1) (wayF (k + 1)) st = st) := Lib.hid fun h => vOne_no g _ _ _ h
    rw [← hst] at hV
    rw [hst2]
    have hbx := hV.box
    unfold pCs at hbx
    rw [← hst] at hbx
    have q6 : W.cell? ⟨c0 + 1 + 1, 0, none⟩ = some (.pointer (some ⟨c0 + 1, 0, none⟩)) := by
      have := cell_in (j := 0) (hbx (c0 + 1 + 1, #[.pointer (some ⟨K.r, 0, none⟩)], 156) (by simp))
      rw [HK.out.2.2.2.2.2.1] at this
      exact this
    have q7 : W.cell? ⟨b1, 0, none⟩ = some (.bool st.is) := cell_in (hbx (b1, #[.bool st.is], 4) (by simp))
    have q8 : W.cell? ⟨b1 + 1, 0, none⟩ = some (.int .i64 ((k : Int) + 1)) := cell_in (hbx (b1 + 1, #[.int .i64 ((k : Int) + 1)], 3) (by simp))
    have f7 : W.frozen? ⟨b1, 0, none⟩ = false := by unfold World.frozen?; rw [hbx (b1, #[.bool st.is], 4) (by simp)]; simp
    have f8 : W.frozen? ⟨b1 + 1, 0, none⟩ = false := by unfold World.frozen?; rw [hbx (b1 + 1, #[.int .i64 ((k : Int) + 1)], 3) (by simp)]; simp
    obtain ⟨cs9, hcs9⟩ : ∃ cs9 : Bool → Int → List (Nat × Array Value × TypeId), cs9 = fun i j => [(c0 + 1 + 1, #[.pointer (some ⟨K.r, 0, none⟩)], 156), (b1, #[.bool i], 4), (b1 + 1, #[.int .i64 j], 3), (b1 + 2, #[.pointer (some ⟨K.l, 0, none⟩)], 27)] := ⟨_, rfl⟩
    have HV : Hid (VAt Wb K (cs9 st.is ((k : Int) + 1)) pv st.met st.ps W) := Lib.hid (by
      unfold pCs at hV
      rw [← hst] at hV
      rw [hcs9]; exact hV)
    have HC9 := Lib.hid hcs9
    have HSET : Hid (∀ i j i' j' pv m ps w, VAt Wb K (cs9 i j) pv m ps w → VAt Wb K (cs9 i' j') pv m ps ((w.setCell ⟨b1, 0, none⟩ (.bool i')).setCell ⟨b1 + 1, 0, none⟩ (.int .i64 j')) ∧ StaysL w ((w.setCell ⟨b1, 0, none⟩ (.bool i')).setCell ⟨b1 + 1, 0, none⟩ (.int .i64 j'))) := Lib.hid (by
      intro i j i' j' pv m ps w h
      rw [hcs9] at h ⊢
      have h1 := VAt.set (cs1 := [(c0 + 1 + 1, #[.pointer (some ⟨K.r, 0, none⟩)], 156)]) (cs2 := [(b1 + 1, #[.int .i64 j], 3), (b1 + 2, #[.pointer (some ⟨K.l, 0, none⟩)], 27)]) h (by have := HSZ.out; simp; omega) 0 (.bool i')
      have h2 := VAt.set (cs1 := [(c0 + 1 + 1, #[.pointer (some ⟨K.r, 0, none⟩)], 156), (b1, #[.bool i'], 4)]) (cs2 := [(b1 + 2, #[.pointer (some ⟨K.l, 0, none⟩)], 27)]) h1.1 (by have := HSZ.out; simp; omega) 0 (.int .i64 j')
      exact ⟨h2.1, h1.2.trans h2.2⟩)
    have HFIN : Hid (∀ (W2 : World) (pv' : Value) (j' : Int), j' = (k : Int) + 1 + 1 → VAt Wb K (cs9 (vOne g (k + 1) (wayF (k + 1)) st).is j') pv' (vOne g (k + 1) (wayF (k + 1)) st).met (vOne g (k + 1) (wayF (k + 1)) st).ps W2 → StaysL W W2 → (∃ pv', VAt Wb K (pCs g K.r K.l (c0 + 1 + 1) b1 (k + 1)) pv' (vOne g (k + 1) (wayF (k + 1)) st).met (vOne g (k + 1) (wayF (k + 1)) st).ps W2) ∧ StaysL W W2) := Lib.hid fun W2 pv' j' ej hv hs => by
      refine ⟨⟨pv', ?_⟩, hs⟩
      unfold pCs
      rw [hst2, show (((k + 1 : Nat) : Int)) + 1 = (k : Int) + 1 + 1 by omega]
      rw [hcs9, ej] at hv
      exact hv
    have n78 : b1 ≠ b1 + 1 := by omega
    have n87 : b1 + 1 ≠ b1 := by omega
    have k0 : 0 ≤ (k : Int) + 1 := by omega
    have k1 : (k : Int) + 1 ≤ 100 := by omega
    clear hst hst2 hlen hV hbx hcs9 hk HVS
    generalize wayF (k + 1) = hd at *
    obtain ⟨n1, hn1⟩ : ∃ n1, n1 = (k : Int) + 1 := ⟨_, rfl⟩
    rw [← hn1] at q8 k0 k1 HV HL HFIN
    clear hn1
    obtain ⟨i0, hi0⟩ : ∃ i0, i0 = st.is := ⟨_, rfl⟩
    rw [← hi0] at q7 HV HL HNO
    have HI0 := Lib.hid hi0
    clear hi0
    cases i0
    · have HE := Lib.hid (HNO.out rfl)
      clear HNO HL
      gi_wp2
      refine ⟨trivial, ?_⟩
      gi_wp2
      have h := HSET.out _ _ false (n1 + 1) _ _ _ _ HV.out
      exact HFIN.out _ pv _ rfl (by rw [HE.out, ← HI0.out]; exact h.1) h.2
    · have HLL := Lib.hid (HL.out rfl)
      clear HNO HL
      gi_wp2_with ((refine ⟨trivial, ?_⟩; gi_at_call 82; refine (CallsIn.inRound _ (callsIn_wide.2 (HLL.out _ HV.out.rd))).mono ?_; rintro e w6 ⟨rfl, pv6, hg, hr⟩; have H6 := Lib.hid (HV.out.call hg hr); clear hg hr q6 q7 q8 f7 f8; have hbx6 := H6.out.1.box; rw [HC9.out] at hbx6; have q7 : w6.cell? ⟨b1, 0, none⟩ = some (.bool true) := cell_in (hbx6 (b1, #[.bool true], 4) (by simp)); have q8 : w6.cell? ⟨b1 + 1, 0, none⟩ = some (.int .i64 n1) := cell_in (hbx6 (b1 + 1, #[.int .i64 n1], 3) (by simp)); have f7 : w6.frozen? ⟨b1, 0, none⟩ = false := (by unfold World.frozen?; rw [hbx6 (b1, #[.bool true], 4) (by simp)]; simp); have f8 : w6.frozen? ⟨b1 + 1, 0, none⟩ = false := (by unfold World.frozen?; rw [hbx6 (b1 + 1, #[.int .i64 n1], 3) (by simp)]; simp); clear hbx6))
      have h := HSET.out _ _ (vOne g (k + 1) hd st).is (n1 + 1) _ _ _ _ H6.out.1
      exact HFIN.out _ pv6 _ rfl h.1 (H6.out.2.trans h.2)
  · intro D W pv hD hV hD2
    dsimp only
    obtain ⟨st, hst⟩ : ∃ st, st = vRun g 16 (fun k => wayF (k + 1)) (bu + 1) := ⟨_, rfl⟩
    have HST := Lib.hid hst
    have hbx := hV.box
    unfold pCs at hbx
    rw [← hst] at hbx hV
    have q6 : W.cell? ⟨c0 + 1 + 1, 0, none⟩ = some (.pointer (some ⟨c0 + 1, 0, none⟩)) := by
      have := cell_in (j := 0) (hbx (c0 + 1 + 1, #[.pointer (some ⟨K.r, 0, none⟩)], 156) (by simp))
      rw [HK.out.2.2.2.2.2.1] at this
      exact this
    have q7 : W.cell? ⟨b1, 0, none⟩ = some (.bool st.is) := cell_in (hbx (b1, #[.bool st.is], 4) (by simp))
    have q3 : W.cell? ⟨c0 + 1, 3, none⟩ = some pv := by
      have := hV.reads.2.2.1
      rw [HK.out.2.2.2.2.2.1] at this
      exact this
    have HVN := Lib.hid hV
    have HKK := Lib.hid hD2
    have HEND2 : Hid (∃ o, (Instr.takeDeferred D).run Tryz.prog W = .ok [] (W.putObj D o) ∧ Below c0 w' (W.putObj D o) ∧ (W.putObj D o).ownsRow c0 52 3 pv st.ps.length (placesV st.ps)) := Lib.hid (by
      have hp := HVN.out.put (o := .deferred none) hD2 hD
      refine ⟨_, run_takeDeferred hD2, HBW2.out _ _ _ _ _ (HVN.out.put hD2 hD), ?_⟩
      refine own_raise (HVN.out.put hD2 hD).rd.places fun k hk => ?_
      rcases HVN.out.go.new k hk with e | e
      · rw [HK.out.2.2.2.2.2.2] at e; cases e
      · have := HSZ.out; omega)
    clear hst hV hbx hD hD2
    obtain ⟨i0, hi0⟩ : ∃ i0, i0 = st.is := ⟨_, rfl⟩
    rw [← hi0] at q7
    have HI0 := Lib.hid hi0
    clear hi0
    obtain ⟨o, t1, t2, t3⟩ := HEND2.out
    rw [HC0.out] at t2 t3
    have HT := Lib.hid (And.intro t1 (And.intro t2 t3))
    clear t1 t2 t3 HEND2
    cases i0
    · go_wp2_with fail
      show LeavesInM Fence.wide 9 Tryz.prog Tryz.f16 _ _ [{ target := .collected D, args := #[] }] .returning W
      unfold LeavesInM
      refine ⟨by simp, .inl ⟨_, _, rfl, HT.out.1, ?_⟩⟩
      refine ⟨_, results_tmp2 (t := 4) (u := 5) rfl _ _ _, ?_⟩
      rw [← HST.out]
      exact ⟨HT.out.2.1, .inl ⟨HI0.out.symm, rfl⟩⟩
    · go_wp2_with fail
      show LeavesInM Fence.wide 9 Tryz.prog Tryz.f16 _ _ [{ target := .collected D, args := #[] }] .returning W
      unfold LeavesInM
      refine ⟨by simp, .inl ⟨_, _, rfl, HT.out.1, ?_⟩⟩
      refine ⟨_, results_tmp2 (t := 4) (u := 5) rfl _ _ _, ?_⟩
      rw [← HST.out]
      exact ⟨HT.out.2.1, .inr ⟨HI0.out.symm, pv, rfl, HT.out.2.2⟩⟩
end Go.Proofs.YtibelcmdfkgonaaGreat

namespace Go.Proofs.YtibelcmdfkgonaaGreat
open Go.RowKit Go.BigFrame
set_option linter.unusedVariables false
set_option linter.unusedSimpArgs false
def gdOf (th sl lo' bu : Nat) (f : Nat → Nat) : Gd :=
  ⟨sl, th, bu, 5 + (bu + 7) / 8 + th + th * ((lo' + 7) / 8), (List.range (bu + 2)).map wayF, fun k => (bucketI (k : Int) (bu : Int)).toNat, f⟩
theorem gd_heads (th sl lo' bu : Nat) (f : Nat → Nat) : (gdOf th sl lo' bu f).heads = 16 :: (List.range' 0 (bu + 1)).map fun k => wayF (k + 1) := by
  show (List.range (bu + 2)).map wayF = _
  rw [List.range_succ_eq_map, List.map_cons, List.map_map, List.range_eq_range']; rfl
theorem gd_at (th sl lo' bu : Nat) (f : Nat → Nat) : ((gdOf th sl lo' bu f).at_ : Int) = (⟨th, sl, lo', bu⟩ : Cfg).lv.ps := by
  show ((5 + (bu + 7) / 8 + th + th * ((lo' + 7) / 8) : Nat) : Int) = 5 + linesI (bu : Int) + (th : Int) + (th : Int) * linesI (lo' : Int)
  have e1 : linesI (bu : Int) = (((bu + 7) / 8 : Nat) : Int) := by unfold linesI; omega
  have e2 : linesI (lo' : Int) = (((lo' + 7) / 8 : Nat) : Int) := by unfold linesI; omega
  rw [e1, e2, ← Int.natCast_mul]
  generalize th * ((lo' + 7) / 8) = x
  generalize (bu + 7) / 8 = y
  omega
theorem gd_pl (th sl lo' bu : Nat) (f : Nat → Nat) (s : Nat) (hs : s < sl) : ((gdOf th sl lo' bu f).at_ + s) * 8 + 3 < nwN th sl lo' bu := by
  rw [nw_lines]
  show (5 + (bu + 7) / 8 + th + th * ((lo' + 7) / 8) + s) * 8 + 3 < _
  generalize th * ((lo' + 7) / 8) = x
  omega
theorem nw_heads (th sl lo' bu : Nat) : 40 + bu ≤ nwN th sl lo' bu := by rw [nw_lines]; omega
theorem bucket_nn (a : Int) (m : Int) (hm : 1 ≤ m) : 0 ≤ bucketI a m := by
  unfold bucketI
  exact Int.emod_nonneg _ (by omega)
theorem gd_bucket (th sl lo' bu : Nat) (f : Nat → Nat) (h : 1 ≤ bu) (k : Nat) : (((gdOf th sl lo' bu f).bucket k : Nat) : Int) = bucketI (k : Int) (bu : Int) := by
  show ((bucketI (k : Int) (bu : Int)).toNat : Int) = _
  have := bucket_nn (k : Int) (bu : Int) (by omega)
  omega
theorem wayF_lt (bu i : Nat) (h : i < bu + 2) : wayF i < 40 + bu := by
  match i, h with
  | 0, _ => show 16 < _; omega
  | 1, _ => show 32 < _; omega
  | k + 2, h => show 40 + k < _; omega
/-- The words of a memory, as numbers. -/
def wordsN (M : Mv) : Nat → Nat := fun k => if k < 8 * M.n then (M.seen k).toNat else 0
theorem run_zero {th sl lo' bu : Nat} (hbu0 : 1 ≤ bu) {at_ wv : Nat → Int} {len : Nat} {W W1 W1' W2 : World} {l : Nat} {M : Mv} {R : Rv} (h : Laid ⟨th, sl, lo', bu⟩ at_ wv len W W1 l M R) (hu : ∀ k, 0 ≤ M.seen k ∧ M.seen k < 18446744073709551616)
    (hb1 : Below W1.heap.size W1 W1') {K : Mk} (hb : Below W1'.heap.size W1' W2) (hK : MkAt W2 K) (e1 : K.l = l) (e2 : K.v = (⟨th, sl, lo', bu⟩ : Cfg).lv) (e3 : K.S = sl) (e4 : K.nh = bu + 2) (e5 : K.hd = wayF) (e6 : K.s = MS.start) (ho : ∀ q, K.own q → W1'.heap.size ≤ q) :
    MkRun (gdOf th sl lo' bu (wordsN M)) M K.x K W.heap.size W W2 0 W2 := by
  have hn : 8 * M.n = nwN th sl lo' bu := by
    have h1 := h.n
    have h2 := nw_ln th sl lo' bu
    omega
  have hM2 : MemAt W2 M := (h.mem.below hb1).below hb
  have hs1 := hb1.size
  have hw1 := h.below.size
  refine ⟨M, K, hM2, hK, ?_, e6, rfl, ⟨rfl, rfl, rfl⟩, ⟨rfl, rfl, rfl, rfl, rfl, by show M.ck = M.ck + (0 : Nat); omega⟩, ?_, ?_, fun q h => .inl h, Nat.le_refl _, fun _ _ _ _ => rfl⟩
  · refine ⟨⟨e3.symm, by rw [e2]; rfl, by rw [e4]; simp [gdOf], by rw [e2]; show 1 ≤ (bu : Int); omega, fun k hk => by rw [e2]; exact gd_bucket th sl lo' bu _ hbu0 k⟩, fun k hk => ?_, fun i hi => ?_, by rw [e2]; exact gd_at th sl lo' bu _, fun s hs => ?_, fun q hq => ?_⟩
    · have := hu k
      show M.seen k = ((wordsN M k : Nat) : Int) ∧ wordsN M k < _
      unfold wordsN
      rw [if_pos hk]
      omega
    · rw [e4] at hi
      rw [e5, hn]
      exact ⟨Nat.lt_of_lt_of_le (wayF_lt bu i hi) (nw_heads th sl lo' bu), by simp [gdOf, hi]⟩
    · rw [e3] at hs
      rw [hn]
      exact gd_pl th sl lo' bu _ s hs
    · have h1 := h.mem.lt hq
      refine ⟨fun hk => ?_, by rw [e1]; exact (h.lo.2.1 q hq).2.1⟩
      have := ho q hk
      omega
  · exact h.below.trans ((hb1.mono hw1).trans (hb.mono (Nat.le_trans hw1 hs1)))
  · intro q hq
    rcases hq with e | e
    · have := (h.lo.2.1 q e).1; omega
    · have := ho q e; omega
/-- The same words, for the view. -/
theorem reads_of {th sl lo' bu : Nat} {M : Mv} (hn : 8 * M.n = nwN th sl lo' bu) (hu : ∀ k, 0 ≤ M.seen k ∧ M.seen k < 18446744073709551616) (l wb cw r mb : Nat) : Reads (gdOf th sl lo' bu (wordsN M)) ⟨r, l, wb, 8 * M.n, cw, mb, sl, (⟨th, sl, lo', bu⟩ : Cfg).lv, wordsN M, .slice none 0 0⟩ :=
  ⟨rfl, rfl, rfl, gd_at th sl lo' bu _, fun _ _ => rfl, fun p => by
    show wordsN M p < _
    unfold wordsN
    have := hu p
    split <;> omega, fun s hs => by show _ < 8 * M.n; rw [hn]; exact gd_pl th sl lo' bu _ s hs⟩
/-- Lay, whatever the ground. -/
theorem lay9 (c : Cfg) (a : Option Addr) (len cap : Nat) (hl : len ≤ 9223372036854775807) (at_ wv : Nat → Int) (W : World) (hP : PutsIn W a len at_ wv) : Calls Tryz.prog 9 #[.agg (gCells c a len cap)] W (LayTo c at_ wv len W) := by
  by_cases h : c.few ∧ len ≤ 100
  · obtain ⟨th, sl, lo', bu⟩ := c
    have h1 := h.1.1
    obtain ⟨f1, f2, f3, f4, f5, f6, f7, f8⟩ := h1
    simp only at f1 f2 f3 f4 f5 f6 f7 f8
    obtain ⟨a1, rfl⟩ := Int.eq_ofNat_of_zero_le (show 0 ≤ th by omega)
    obtain ⟨a2, rfl⟩ := Int.eq_ofNat_of_zero_le (show 0 ≤ sl by omega)
    obtain ⟨a3, rfl⟩ := Int.eq_ofNat_of_zero_le (show 0 ≤ lo' by omega)
    obtain ⟨a4, rfl⟩ := Int.eq_ofNat_of_zero_le (show 0 ≤ bu by omega)
    exact lay9_yes a1 a2 a3 a4 h.1 a len cap h.2 at_ wv W hP
  · exact lay9_no c a len cap hl at_ wv W h
end Go.Proofs.YtibelcmdfkgonaaGreat
