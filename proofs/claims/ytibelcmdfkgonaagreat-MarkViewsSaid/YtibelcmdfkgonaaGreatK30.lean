/- Layer 20 (view): all lists, one behind the other, as the view goes through them. No program here.
   Layer 20 (view): the range over a list's way.
   Layer 20 (view): the queue. -/
import Derived.Test.YtibelcmdfkgonaaGreatK29
import Derived.Test.YtibelcmdfkgonaaGreatK28
import Derived.Sort.CutIn
namespace Go.Proofs.YtibelcmdfkgonaaGreat
set_option linter.unusedVariables false
set_option linter.unusedSimpArgs false
/-- The places of the first n slots on a way. -/
def plsL (g : Gd) (list x n : Nat) : List Place := (wl g x n).map fun y => ⟨y.1, list, decide (hi y.2 = 0)⟩
theorem plsL_zero (g : Gd) (list x : Nat) : plsL g list x 0 = [] := rfl
theorem plsL_succ (g : Gd) (list x n : Nat) : plsL g list x (n + 1) = plsL g list x n ++ [⟨lo (wx g x n) - 1, list, decide (hi (wx g x (n + 1)) = 0)⟩] := by unfold plsL; rw [wl_snoc, List.map_append]; rfl
theorem plsL_len (g : Gd) (list x n : Nat) : (plsL g list x n).length = n := by simp [plsL, wl_len]
/-- What the view has found. -/
structure VS where
  is : Bool
  met : Nat → Bool
  ps : List Place
def wayP (g : Gd) (list : Nat) (m : Nat → Bool) (x : Nat) : List Place := (way g g.S m x).1.map fun y => ⟨y.1, list, decide (hi y.2 = 0)⟩
def vQueue (g : Gd) (m : Nat → Bool) (ps : List Place) (x : Nat) : VS :=
  if rightL g.S g.T x ∧ hi x = 0 ∧ lo x ≠ 0 then ⟨queueB g m x, (way g g.S m x).2, ps ++ wayP g 0 m x⟩ else ⟨false, m, ps⟩
def vList (g : Gd) (list : Nat) (m : Nat → Bool) (ps : List Place) (x : Nat) : VS :=
  if rightL g.S g.T x ∧ hi x = 0 then ⟨listB g list m x, (way g g.S m x).2, ps ++ wayP g list m x⟩ else ⟨false, m, ps⟩
def vOne (g : Gd) (n h : Nat) (s : VS) : VS := if s.is = true then vList g n s.met s.ps (g.w h) else s
/-- The view behind the queue and k lists. -/
def vRun (g : Gd) (q : Nat) (hd : Nat → Nat) : Nat → VS
  | 0 => vQueue g (fun _ => false) [] (g.w q)
  | k + 1 => vOne g (k + 1) (hd k) (vRun g q hd k)
def pair (p : Place) : Nat × Nat := (p.slot, p.list)
theorem wayP_pair (g : Gd) (list : Nat) (m : Nat → Bool) (x : Nat) : (wayP g list m x).map pair = (way g g.S m x).1.map fun y => (y.1, list) := by
  unfold wayP; rw [List.map_map]; rfl
theorem vOne_no (g : Gd) (n h : Nat) (s : VS) (hs : s.is = false) : vOne g n h s = s := by unfold vOne; rw [if_neg (by rw [hs]; decide)]
def vFold (g : Gd) : Nat → List Nat → VS → VS
  | _, [], s => s
  | n, h :: t, s => vFold g (n + 1) t (vOne g n h s)
theorem vFold_no (g : Gd) : ∀ (t : List Nat) (n : Nat) (s : VS), s.is = false → vFold g n t s = s
  | [], _, _, _ => rfl
  | h :: t, n, s, hs => by
    show vFold g (n + 1) t (vOne g n h s) = s
    rw [vOne_no g n h s hs]; exact vFold_no g t (n + 1) s hs
/-- What the view tells at its end. -/
def VSaid (s0 : VS) (o : Option (List (Nat × Nat))) (s : VS) : Prop := (o = none → s.is = false) ∧ ∀ r, o = some r → s.is = true ∧ s.ps.map pair = s0.ps.map pair ++ r
theorem vFold_go (g : Gd) : ∀ (t : List Nat) (n : Nat) (s : VS), s.is = true → VSaid s (listsGo g n t s.met) (vFold g n t s)
  | [], n, s, hs => ⟨nofun, fun r h => by cases h; exact ⟨hs, by show s.ps.map pair = _; simp⟩⟩
  | h :: t, n, s, hs => by
    show VSaid s (listsGo g n (h :: t) s.met) (vFold g (n + 1) t (vOne g n h s))
    unfold listsGo vOne
    rw [if_pos hs]
    unfold vList
    by_cases hr : rightL g.S g.T (g.w h) ∧ hi (g.w h) = 0
    · rw [if_pos hr, if_pos hr]
      by_cases hok : listOk g n none (way g g.S s.met (g.w h)).1 = true ∧ whole g (lastLink (g.w h) (way g g.S s.met (g.w h)).1)
      · rw [if_pos hok]
        have hb : listB g n s.met (g.w h) = true := by unfold listB; rw [hok.1, Bool.true_and]; exact decide_eq_true hok.2
        obtain ⟨e1, e2⟩ := vFold_go g t (n + 1) ⟨listB g n s.met (g.w h), (way g g.S s.met (g.w h)).2, s.ps ++ wayP g n s.met (g.w h)⟩ hb
        refine ⟨fun h0 => e1 ?_, fun r h0 => ?_⟩
        · cases hg : listsGo g (n + 1) t (way g g.S s.met (g.w h)).2 with
          | none => rfl
          | some r => rw [hg] at h0; cases h0
        · cases hg : listsGo g (n + 1) t (way g g.S s.met (g.w h)).2 with
          | none => rw [hg] at h0; cases h0
          | some r2 =>
            rw [hg] at h0; cases h0
            obtain ⟨f1, f2⟩ := e2 r2 hg
            refine ⟨f1, ?_⟩
            rw [f2]
            show (s.ps ++ wayP g n s.met (g.w h)).map pair ++ r2 = _
            rw [List.map_append, wayP_pair, List.append_assoc]
      · rw [if_neg hok]
        have hb : listB g n s.met (g.w h) = false := by
          unfold listB
          by_cases h1 : listOk g n none (way g g.S s.met (g.w h)).1 = true
          · rw [h1, Bool.true_and]; exact decide_eq_false fun h2 => hok ⟨h1, h2⟩
          · rw [Bool.not_eq_true] at h1; rw [h1]; rfl
        rw [vFold_no g t _ _ hb]
        exact ⟨fun _ => hb, nofun⟩
    · rw [if_neg hr, if_neg hr, vFold_no g t _ _ rfl]
      exact ⟨fun _ => rfl, nofun⟩
theorem vRun_fold (g : Gd) (q : Nat) (hd : Nat → Nat) : ∀ (n j : Nat), vFold g (j + 1) ((List.range' j n).map hd) (vRun g q hd j) = vRun g q hd (j + n)
  | 0, j => rfl
  | n + 1, j => by
    rw [List.range'_succ, List.map_cons]
    show vFold g (j + 1 + 1) _ (vOne g (j + 1) (hd j) (vRun g q hd j)) = _
    have := vRun_fold g q hd n (j + 1)
    rw [show j + (n + 1) = j + 1 + n by omega, ← this]; rfl
/-- THE VIEW AND THE PLAIN READING ARE ONE. -/
theorem view_run (g : Gd) (q : Nat) (hd : Nat → Nat) (n : Nat) (hh : g.heads = q :: (List.range' 0 n).map hd) : VSaid ⟨true, fun _ => false, []⟩ (placesP g) (vRun g q hd n) := by
  have e := vRun_fold g q hd n 0
  rw [Nat.zero_add, Nat.zero_add] at e
  rw [← e]
  unfold placesP
  rw [hh]
  show VSaid _ (if rightL g.S g.T (g.w q) ∧ hi (g.w q) = 0 ∧ lo (g.w q) ≠ 0 then _ else none) (vFold g 1 _ (vQueue g (fun _ => false) [] (g.w q)))
  unfold vQueue
  by_cases hr : rightL g.S g.T (g.w q) ∧ hi (g.w q) = 0 ∧ lo (g.w q) ≠ 0
  · rw [if_pos hr, if_pos hr]
    by_cases hok : ((queueOk g true false (way g g.S (fun _ => false) (g.w q)).1).1 = true ∧ (queueOk g true false (way g g.S (fun _ => false) (g.w q)).1).2 = true) ∧ whole g (lastLink (g.w q) (way g g.S (fun _ => false) (g.w q)).1)
    · rw [if_pos hok]
      have hb : queueB g (fun _ => false) (g.w q) = true := by unfold queueB; rw [hok.1.1, hok.1.2, Bool.true_and, Bool.true_and]; exact decide_eq_true hok.2
      obtain ⟨e1, e2⟩ := vFold_go g ((List.range' 0 n).map hd) 1 ⟨queueB g (fun _ => false) (g.w q), (way g g.S (fun _ => false) (g.w q)).2, [] ++ wayP g 0 (fun _ => false) (g.w q)⟩ hb
      refine ⟨fun h0 => e1 ?_, fun r h0 => ?_⟩
      · cases hg : listsGo g 1 ((List.range' 0 n).map hd) (way g g.S (fun _ => false) (g.w q)).2 with
        | none => rfl
        | some r => rw [hg] at h0; cases h0
      · cases hg : listsGo g 1 ((List.range' 0 n).map hd) (way g g.S (fun _ => false) (g.w q)).2 with
        | none => rw [hg] at h0; cases h0
        | some r2 =>
          rw [hg] at h0; cases h0
          obtain ⟨f1, f2⟩ := e2 r2 hg
          refine ⟨f1, ?_⟩
          rw [f2]
          show ([] ++ wayP g 0 (fun _ => false) (g.w q)).map pair ++ r2 = _
          rw [List.nil_append, wayP_pair]; rfl
    · rw [if_neg hok]
      have hb : queueB g (fun _ => false) (g.w q) = false := by
        unfold queueB
        rw [← Bool.not_eq_true]
        intro h
        simp only [Bool.and_eq_true, decide_eq_true_eq] at h
        exact hok h
      rw [vFold_no g _ _ _ hb]
      exact ⟨fun _ => hb, nofun⟩
  · rw [if_neg hr, if_neg hr, vFold_no g _ _ _ rfl]
    exact ⟨fun _ => rfl, nofun⟩
end Go.Proofs.YtibelcmdfkgonaaGreat

namespace Go.Proofs.YtibelcmdfkgonaaGreat
open Go.RowKit Go.BigFrame
set_option linter.unusedVariables false
set_option linter.unusedSimpArgs false
/-- What a reader reads, as the plain law has it. -/
structure Reads (g : Gd) (K : Rd) : Prop where
  S : K.S = g.S
  T : (g.T : Int) = K.v.th
  B : (g.B : Int) = K.v.bu
  at_ : (g.at_ : Int) = K.v.ps
  w : ∀ p, p < K.n → K.f p = g.w p
  u64 : ∀ p, g.w p < 18446744073709551616
  pl : ∀ s, s < g.S → (g.at_ + s) * 8 + 3 < K.n
theorem Reads.slot {g : Gd} {K : Rd} (h : Reads g K) (hS : (K.S : Int) = K.v.sl) {s : Nat} (hs : s < g.S) (j : Nat) : K.v.slot (s : Int) (j : Int) = (((g.at_ + s) * 8 + j : Nat) : Int) := by
  unfold Lv.slot Lv.word hasB
  have := h.at_
  have := h.S
  rw [if_pos (by simp; omega)]
  omega
def Way (r h : Nat) (w : World) (e : Ending) (w' : World) : Prop := e = .returned (.func (.func 231) #[] #[.pointer (some ⟨w.heap.size, 0, none⟩), .pointer (some ⟨w.heap.size + 1, 0, none⟩)]) ∧ w' = (w.alloc (.cells #[.pointer (some ⟨r, 0, none⟩)] 156)).alloc (.cells #[.int .i64 (h : Int)] 3)
theorem way143 (r h : Nat) (w : World) : Calls Tryz.prog 143 #[.pointer (some ⟨r, 0, none⟩), .int .i64 (h : Int)] w (Way r h w) := by
  unfold Way
  go_enter Tryz.func143, Tryz.ntmps143
  go_wp2_with fail
  go_ret
  exact ⟨rfl, rfl⟩
theorem goes_lt {g : Gd} {m : Nat → Bool} {x : Nat} (h : goes g m x) : lo x - 1 < g.S ∧ lo x = lo x - 1 + 1 := by
  have h1 : lo x ≤ g.S := h.1.2.1
  have h2 : lo x ≠ 0 := h.2.1
  omega
theorem wx_u64 {g : Gd} {K : Rd} (h : Reads g K) {x : Nat} (hx : x < 18446744073709551616) : ∀ k, wx g x k < 18446744073709551616
  | 0 => hx
  | k + 1 => h.u64 _
theorem range_way {assign body : Code} {Q : Exit → Act → World → Prop} {a : Act} {gop : Operand} {W0 w : World} (K : Rd) (g : Gd) (hr : Reads g K) (hS : (K.S : Int) = K.v.sl) (cs : Nat → List (Nat × Array Value × TypeId)) (ps : Nat → List Place) (m : Nat → Bool) (x N aH b2 b3 p1 p2 q1 q2 : Nat)
    (hx : x < 18446744073709551616) (haH : aH < K.n ∧ K.f aH = x) (hgo : ∀ k, k < N → goes g (wm g m x k) (wx g x k)) (hend : ¬ goes g (wm g m x N) (wx g x N))
    (hb2 : ∀ k, (b2, #[Value.pointer (some ⟨K.r, 0, none⟩)], 156) ∈ cs k) (hb3 : ∀ k, (b3, #[Value.int .i64 (aH : Int)], 3) ∈ cs k)
    (hg : a.eval gop = .func (.func 231) #[] #[.pointer (some ⟨b2, 0, none⟩), .pointer (some ⟨b3, 0, none⟩)]) (hW0 : W0.heap.size ≤ w.heap.size) (h0 : ∃ pv, VAt W0 K (cs 0) pv m (ps 0) w)
    (hassign : ∀ (l k : Nat) (W : World) (K' : Act → World → Prop), K' { tmps := (((a.tmps.setIfInBounds p1 (.int .i64 ((lo (wx g x k) : Int) - 1))).setIfInBounds p2 (.int .u64 (wx g x (k + 1) : Int))).setIfInBounds q1 (.int .i64 ((lo (wx g x k) : Int) - 1))).setIfInBounds q2 (.int .u64 (wx g x (k + 1) : Int)), defers := [] } W →
      assign.wpIn (Fence.wide.inRound l) 7 Tryz.prog (Exit.then K' (fun _ _ _ => False)) { tmps := (a.tmps.setIfInBounds p1 (.int .i64 ((lo (wx g x k) : Int) - 1))).setIfInBounds p2 (.int .u64 (wx g x (k + 1) : Int)), defers := [] } W)
    (hbody : ∀ (lp k : Nat) (W : World) (pv : Value), k < N → VAt W0 K (cs k) pv (wm g m x (k + 1)) (ps k) W →
      body.wpIn (Fence.wide.inRound lp) 7 Tryz.prog (Ended fun W' => (∃ pv', VAt W0 K (cs (k + 1)) pv' (wm g m x (k + 1)) (ps (k + 1)) W') ∧ StaysL W W') { tmps := (((a.tmps.setIfInBounds p1 (.int .i64 ((lo (wx g x k) : Int) - 1))).setIfInBounds p2 (.int .u64 (wx g x (k + 1) : Int))).setIfInBounds q1 (.int .i64 ((lo (wx g x k) : Int) - 1))).setIfInBounds q2 (.int .u64 (wx g x (k + 1) : Int)), defers := [] } W)
    (hdone : ∀ (D : Nat) (W : World) (pv : Value), W0.heap.size ≤ D → VAt W0 K (cs N) pv (wm g m x N) (ps N) W → W.heap[D]? = some (.deferred (some [])) → Q .normal { a with defers := { target := .collected D, args := #[] } :: a.defers } W) :
    (Code.rangeFunc gop #[p1, p2] assign body).wpIn Fence.wide 9 Tryz.prog Q a w := by
  have hla : ∀ k, laid #[p1, p2] #[.int .i64 ((lo (wx g x k) : Int) - 1), .int .u64 (wx g x (k + 1) : Int)] a.tmps = (a.tmps.setIfInBounds p1 (.int .i64 ((lo (wx g x k) : Int) - 1))).setIfInBounds p2 (.int .u64 (wx g x (k + 1) : Int)) := fun k => by simp [laid]
  refine range_gen (F := 231) (caps := #[.pointer (some ⟨b2, 0, none⟩), .pointer (some ⟨b3, 0, none⟩)]) (N := N) (args := fun k => #[.int .i64 ((lo (wx g x k) : Int) - 1), .int .u64 (wx g x (k + 1) : Int)])
    (fun k W => ∃ pv, VAt W0 K (cs k) pv (wm g m x k) (ps k) W) (fun k W => ∃ pv, VAt W0 K (cs k) pv (wm g m x (k + 1)) (ps k) W) (fun k W => ∃ pv, VAt W0 K (cs (k + 1)) pv (wm g m x (k + 1)) (ps (k + 1)) W)
    (fun k => (((a.tmps.setIfInBounds p1 (.int .i64 ((lo (wx g x k) : Int) - 1))).setIfInBounds p2 (.int .u64 (wx g x (k + 1) : Int))).setIfInBounds q1 (.int .i64 ((lo (wx g x k) : Int) - 1))).setIfInBounds q2 (.int .u64 (wx g x (k + 1) : Int)))
    (enters_at Tryz.func231 (by kernel_rfl) rfl) (fun k _ => rfl) hg h0 (fun k W W' h ⟨pv, hv⟩ => ⟨pv, hv.loop h hW0⟩) (fun k W W' h ⟨pv, hv⟩ => ⟨pv, hv.loop h hW0⟩) (fun k W W' h ⟨pv, hv⟩ => ⟨pv, hv.loop h hW0⟩) ?_ ?_ ?_ ?_
  · intro l R hR hY W hW r0
    refine iter231 K g.T b2 b3 aH N (wx g x) (fun k => (g.at_ + (lo (wx g x k) - 1)) * 8 + 3) (wm g m x) hr.T haH (fun k => wx_u64 hr hx k) ?_ ?_ ?_ (fun k W => ∃ pv, VAt W0 K (cs k) pv (wm g m x k) (ps k) W) (fun k W => ∃ pv, VAt W0 K (cs k) pv (wm g m x (k + 1)) (ps k) W)
      (fun k W W' h ⟨pv, hv⟩ => ⟨pv, hv.below h⟩) (fun k W W' h ⟨pv, hv⟩ => ⟨pv, hv.below h⟩) ?_ ?_ ?_ l R hR hY W hW r0
    · intro k hk
      obtain ⟨h1, h2, h3⟩ := hgo k hk
      rw [hr.S]
      exact ⟨h1, h2, h3, rfl⟩
    · intro k hk
      have h1 := goes_lt (hgo k hk)
      have h2 := hr.slot hS h1.1 3
      have h3 := hr.pl _ h1.1
      refine ⟨?_, h3, hr.w _ h3⟩
      rw [show ((lo (wx g x k) : Int) - 1) = ((lo (wx g x k) - 1 : Nat) : Int) by omega]
      exact h2
    · rw [hr.S]
      exact hend
    · rintro k W ⟨pv, hv⟩
      exact ⟨cell_in (hv.box _ (hb2 k)), cell_in (hv.box _ (hb3 k)), pv, _, hv.rd⟩
    · rintro k W ⟨pv, hv⟩
      exact ⟨cell_in (hv.box _ (hb2 k)), cell_in (hv.box _ (hb3 k)), pv, _, hv.rd⟩
    · rintro k W W' hk ⟨pv, hv⟩ him hgr
      exact ⟨pv, hv.meet him hgr⟩
  · intro lp k W K' hk hK
    rw [hla]
    exact hassign lp k W K' hK
  · rintro lp k W hk ⟨pv, h⟩
    exact hbody lp k W pv hk h
  · rintro D W hD ⟨pv, h⟩ hk
    exact hdone D W pv (Nat.le_trans hW0 hD) h hk
end Go.Proofs.YtibelcmdfkgonaaGreat

namespace Go.Proofs.YtibelcmdfkgonaaGreat
open Go.RowKit Go.BigFrame
set_option linter.unusedVariables false
set_option linter.unusedSimpArgs false
set_option maxRecDepth 100000 in
theorem queue81_no (K : Rd) (g : Gd) (m : Nat → Bool) (ps : List Place) (x : Nat) (hr : Reads g K) (h16 : 16 < K.n) (hx : K.f 16 = x) (W0 : World) (h : RdAt W0 K m ps) (hno : ¬ (rightL g.S g.T x ∧ hi x = 0 ∧ lo x ≠ 0)) :
    Calls Tryz.prog 81 #[.pointer (some ⟨K.r, 0, none⟩)] W0 (RdTo K m ps (.bool false) W0) := by
  have hxb : x < 18446744073709551616 := by have := h.u64 16 h16; omega
  have HRO : Hid (∀ w, RdAt w K m ps → Calls Tryz.prog 142 #[.pointer (some ⟨K.r, 0, none⟩), .int .u64 (x : Int)] w (Gives (.bool (rootB K.S g.T x)) w)) := Lib.hid fun w hw => root142 K m ps x g.T hxb hr.T w hw
  have HTO : Hid (∀ w, Calls Tryz.prog 136 #[.int .u64 (x : Int)] w (Gives (.int .i64 ((lo x : Int) - 1)) w)) := Lib.hid fun w => by rw [← to_lo]; exact to136 _ (by unfold U64; omega) w
  have HHD := Lib.hid fun w => head69 K.l w
  have HTE := Lib.hid (to_eq x)
  have HH := Lib.hid h
  obtain ⟨c0, c1, -, -, cw, s0, s1, s2⟩ := (VAt.start h (Below.refl _ _)).reads
  have cx := cw 16 h16
  rw [hx] at cx
  have n0 : K.r ≠ W0.heap.size := by omega
  have n1 : K.wb ≠ W0.heap.size := by omega
  have i1 : (16 : Int) < (K.n : Int) := by omega
  have HFIN : Hid (∀ W', Below W0.heap.size W0 W' → RdTo K m ps (.bool false) W0 (.returned (.bool false)) W') := Lib.hid fun W' hb => ⟨rfl, (VAt.start h hb).out⟩
  have HNO : Hid (rootB K.S g.T x = true → lo x = 0) := Lib.hid fun hb => by
    unfold rootB at hb
    rw [Bool.and_eq_true, decide_eq_true_eq, decide_eq_true_eq, hr.S] at hb
    exact Decidable.byContradiction fun h0 => hno ⟨hb.1, hb.2, h0⟩
  clear h hr h16 hx hxb cw hno
  generalize hro : rootB K.S g.T x = ro at *
  clear hro
  generalize K.r = y at *
  generalize K.wb = wb at *
  generalize K.n = n at *
  generalize K.cw = kcw at *
  generalize K.l = ly at *
  have HB0 := Lib.hid ((Below.refl W0.heap.size W0).alloc (Nat.le_refl _) (.cells #[.pointer (some ⟨y, 0, none⟩)] 156))
  go_enter Tryz.func81, Tryz.ntmps81
  cases ro
  · go_wp2_with (first | (go_at_call 69; refine (HHD.out _).mono ?_; rintro e w' ⟨rfl, rfl⟩) | (go_at_call 142; refine (HRO.out _ (HH.out.below HB0.out)).mono ?_; rintro e w2 ⟨rfl, hb⟩; have H2 := Lib.hid (HB0.out.trans (hb.mono HB0.out.size)); clear hb))
    go_ret
    exact HFIN.out _ H2.out
  · have e0 := HNO.out rfl
    have d1 : ((lo x : Int) - 1 == -1) = true := by rw [HTE.out]; exact bool_yes e0
    clear e0
    generalize ((lo x : Int) - 1) = t at *
    go_wp2_with (first | (go_at_call 69; refine (HHD.out _).mono ?_; rintro e w' ⟨rfl, rfl⟩) | (go_at_call 142; refine (HRO.out _ (HH.out.below HB0.out)).mono ?_; rintro e w2 ⟨rfl, hb⟩; have H2 := Lib.hid (HB0.out.trans (hb.mono HB0.out.size)); clear hb) | (go_at_call 136; refine (HTO.out _).mono ?_; rintro e w3 ⟨rfl, hb⟩; have H3 := Lib.hid (H2.out.trans (hb.mono H2.out.size)); clear hb))
    go_ret
    exact HFIN.out _ H3.out
end Go.Proofs.YtibelcmdfkgonaaGreat
