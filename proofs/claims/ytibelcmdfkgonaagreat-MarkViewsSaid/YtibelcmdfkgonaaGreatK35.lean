/- Layer 20 (mark): the heads, copied.
   Layer 20 (mark): the page's example, plain: the words, the run. No walk here.
   Layer 20 (mark): the page's example.
   Layer 20: what a mark and the view tell, side by side. No walk here. -/
import Derived.Test.YtibelcmdfkgonaaGreatK27
import Derived.Test.YtibelcmdfkgonaaGreatK33
import Derived.Test.YtibelcmdfkgonaaGreatK34
namespace Go.Proofs.YtibelcmdfkgonaaGreat
open Go.RowKit Go.BigFrame
set_option linter.unusedVariables false
set_option linter.unusedSimpArgs false
/-- A copy of heads. -/
def HeadsCp (n : Nat) (xs : List Value) (W : World) (e : Ending) (W' : World) : Prop := ∃ v, e = .returned v ∧ Below W.heap.size W W' ∧ W'.ownsRow W.heap.size 48 1 v n xs
theorem clone130_nil (W : World) : Calls Tryz.prog 130 #[.slice none 0 0] W (HeadsCp 0 [] W) := by
  unfold HeadsCp
  have hnil := fun w : World => Lib.run_eql_slice_nil (P := Tryz.prog) w 33 48 none 0 0 0 0 Tryz.underlying33
  go_enter Tryz.func130, Tryz.ntmps130
  go_wp2_with fail
  go_ret
  exact ⟨_, rfl, Below.refl _ _, World.ownsRow_nil _ _ _ _⟩
set_option maxRecDepth 100000 in
theorem clone130 (g n cap : Nat) (c : Array Value) (h1 : n ≤ 1000000) (xs : List Value) (W : World) (hg : W.heap[g]? = some (.cells c 48 (0, 0))) (hxs : xs.length = n * 1) (hc : ∀ j, j < n * 1 → c[j]? = xs[j]?) (h1c : ∀ u ∈ xs, u.oneCell' = true) :
    Calls Tryz.prog 130 #[.slice (some ⟨g, 0, none⟩) n cap] W (HeadsCp n xs W) := by
  obtain ⟨i102, hi, hz0, hz1, hz2⟩ := info_parts info48
  have HG := Lib.hid hg
  have HC := Lib.hid hc
  have HX := Lib.hid hxs
  have H1 := Lib.hid h1c
  clear hg hc hxs h1c
  obtain ⟨B, hB⟩ : ∃ B, B = W.heap.size := ⟨_, rfl⟩
  unfold HeadsCp
  rw [← hB]
  have HB := Lib.hid hB
  clear hB
  have hnil := fun w : World => Lib.run_eql_slice_nil (P := Tryz.prog) w 33 48 (some ⟨g, 0, none⟩) n cap 0 0 Tryz.underlying33
  go_enter Tryz.func130, Tryz.ntmps130
  have hgl : g < W.heap.size := (Array.getElem?_eq_some_iff.1 HG.out).1
  go_wp2_with (at_builtin; refine wpList_append_own _ rfl (.tmp 5) (.tmp 6) 33 rfl B 48 i102 _ 1 8 Tryz.underlying33 hi hz0 hz1 hz2 rfl (by decide) (.slice (some ⟨W.heap.size, 0, none⟩) 0 0) 0 [] rfl (World.ownsRow_made W #[] 0 (by have := HB.out; omega) (by unfold maxLen; omega) rfl) ⟨g, 0, none⟩ n cap xs rfl HX.out (fun j u hj => by rw [Addr.add_lit, Nat.zero_add, cell_in ((Below.heap_alloc W _ g hgl).trans HG.out), HC.out j (by rw [← HX.out]; exact (List.getElem?_eq_some_iff.1 hj).1)]; exact hj) H1.out (by unfold maxLen; omega) (by omega) (by have := HB.out; simp; omega) ?_; intro v' w' hown hgr hne; have HO' := Lib.hid hown; have HG' := Lib.hid hgr; clear hown hgr hne)
  go_wp2_with fail
  go_ret
  refine ⟨_, rfl, ?_, ?_⟩
  · exact ((Below.refl _ _).alloc (by have := HB.out; omega) _).grown HG'.out (by have := HB.out; rw [World.size_alloc]; omega) (fun q e => by cases e; show B ≤ W.heap.size; have := HB.out; omega)
  · have := HO'.out
    rw [Nat.zero_add, List.nil_append] at this
    exact this
theorem headsV_len (hs : List Nat) : (headsV hs).length = hs.length * 1 := by simp [headsV]
theorem headsV_one (hs : List Nat) : ∀ u ∈ headsV hs, u.oneCell' = true := by
  intro u hu
  simp only [headsV, List.mem_map] at hu
  obtain ⟨y, -, rfl⟩ := hu
  rfl
theorem heads67 (K : Mk) (W : World) (h : MkAt W K) (hn : K.s.heads.length ≤ 1000000) : Calls Tryz.prog 67 #[.pointer (some ⟨K.x, 0, none⟩)] W (HeadsCp K.s.heads.length (headsV K.s.heads) W) := by
  have HC : Hid (Calls Tryz.prog 130 #[K.hv] W (HeadsCp K.s.heads.length (headsV K.s.heads) W)) := Lib.hid (by
    rcases h.heads.2 with ⟨hv, h0⟩ | ⟨g, cap, cur, hv, -, hg, h1, h2, h3, h4⟩
    · rw [hv]
      have e : K.s.heads = [] := List.length_eq_zero_iff.1 h0
      rw [e]
      exact clone130_nil W
    · rw [hv]
      refine clone130 g _ cap cur hn _ W hg (headsV_len _) (fun j hj => ?_) (headsV_one _)
      rw [← h4, List.getElem?_take, if_pos hj]; simp)
  have q7 := cell_row h.row 7 _ rfl
  clear h hn
  generalize K.hv = hv at *
  generalize headsV K.s.heads = xs at *
  generalize K.s.heads.length = n at *
  unfold HeadsCp at *
  go_enter Tryz.func67, Tryz.ntmps67
  go_wp2_with fail
  with_reducible refine HC.out.mono ?_
  rintro e w' ⟨v, rfl, h1, h2⟩
  have H := Lib.hid (And.intro h1 h2)
  clear h1 h2 HC
  go_wp2_with fail
  go_ret
  exact ⟨_, rfl, H.out.1, H.out.2⟩
end Go.Proofs.YtibelcmdfkgonaaGreat

namespace Go.Proofs.YtibelcmdfkgonaaGreat
open Go.RowKit Go.BigFrame
set_option linter.unusedVariables false
set_option linter.unusedSimpArgs false
theorem at_head : atN 1 3 1 2 (2, 0, 0) = 16 := by kernel_rfl
theorem at_tail : atN 1 3 1 2 (3, 0, 0) = 24 := by kernel_rfl
theorem at_after : atN 1 3 1 2 (17, 1, 0) = -5 := by kernel_rfl
theorem link_first : linkW 0 (-1) = 1 := by kernel_rfl
theorem fp0 : freshP 1 3 1 2 0 = (16, 1) := by show (atN 1 3 1 2 (2, 0, 0), linkW 0 (-1)) = _; rw [at_head, link_first]
theorem fp1 : freshP 1 3 1 2 1 = (24, 1) := by show (atN 1 3 1 2 (3, 0, 0), linkW 0 (-1)) = _; rw [at_tail, link_first]
theorem fp2 : freshP 1 3 1 2 2 = (-2, 2) := rfl
theorem fp3 : freshP 1 3 1 2 3 = (-5, 3) := by show (atN 1 3 1 2 (17, ((0 : Nat) : Int) + 1, 0), ((0 : Nat) : Int) + 3) = _; rw [show (((0 : Nat) : Int) + 1) = 1 from rfl, at_after]; rfl
def fAt (i : Nat) : Int := (freshP 1 3 1 2 i).1
def fWv (i : Nat) : Int := (freshP 1 3 1 2 i).2
theorem putV_get (l : List (Int × Int)) : ∀ (k : Nat) (p : Int × Int), l[k]? = some p → (putV l)[k * 2]? = some (.int .i64 p.1) ∧ (putV l)[k * 2 + 1]? = some (.int .u64 p.2) := by
  induction l with
  | nil => intro k p h; simp at h
  | cons y t ih =>
    intro k p h
    have e : putV (y :: t) = [.int .i64 y.1, .int .u64 y.2] ++ putV t := rfl
    cases k with
    | zero =>
      simp at h
      subst h
      exact ⟨rfl, rfl⟩
    | succ k =>
      obtain ⟨h1, h2⟩ := ih k p (by simpa using h)
      rw [e]
      refine ⟨?_, ?_⟩
      · rw [List.getElem?_append_right (by simp; omega)]; simp only [List.length_cons, List.length_nil]; rw [show (k + 1) * 2 - (0 + 1 + 1) = k * 2 by omega]; exact h1
      · rw [List.getElem?_append_right (by simp; omega)]; simp only [List.length_cons, List.length_nil]; rw [show (k + 1) * 2 + 1 - (0 + 1 + 1) = k * 2 + 1 by omega]; exact h2
theorem fresh_puts {W : World} {B : Nat} {pv : Value} (h : W.ownsRow B 66 2 pv 4 (putV (freshL 1 3 1 2 4))) : ∃ g cap, pv = .slice (some ⟨g, 0, none⟩) 4 cap ∧ PutsIn W (some ⟨g, 0, none⟩) 4 fAt fWv := by
  obtain ⟨g, cap, c, rfl, hb, hg, h1, h2, h3⟩ := own_row h (by omega)
  refine ⟨g, cap, rfl, fun i hi => ⟨g, 0, rfl, lt_row hg, ?_, ?_, ?_⟩⟩
  · rw [cell_in hg, Nat.zero_add, h3 _ (by omega)]
    exact (putV_get _ i (freshP 1 3 1 2 i) (by simp [freshL, hi])).1
  · rw [cell_in hg, Nat.zero_add, h3 _ (by omega)]
    exact (putV_get _ i (freshP 1 3 1 2 i) (by simp [freshL, hi])).2
  · unfold fAt fWv
    match i, hi with
    | 0, _ => rw [fp0]; decide
    | 1, _ => rw [fp1]; decide
    | 2, _ => rw [fp2]; decide
    | 3, _ => rw [fp3]; decide
def wC (k : Nat) : Nat := if k = 16 ∨ k = 24 then 1 else 0
theorem fresh_words (k : Nat) : wordsP 88 fAt fWv 4 k = (wC k : Int) := by
  show putW 88 (putW 88 (putW 88 (putW 88 (fun _ => 0) (fAt 0) (fWv 0)) (fAt 1) (fWv 1)) (fAt 2) (fWv 2)) (fAt 3) (fWv 3) k = _
  unfold fAt fWv
  rw [fp0, fp1, fp2, fp3]
  simp only [putW]
  rw [if_neg (by decide), if_neg (by decide), if_pos (by decide), if_pos (by decide)]
  unfold upd wC
  by_cases h1 : k = 24
  · subst h1; rfl
  · by_cases h2 : k = 16
    · subst h2; rfl
    · rw [if_neg (by omega), if_neg (by omega), if_neg (by omega)]; rfl
theorem fresh_wordsN {M : Mv} (hn : M.n = 11) (hs : M.seen = wordsP 88 fAt fWv 4) : wordsN M = wC := by
  funext k
  unfold wordsN
  rw [hn, hs, fresh_words]
  by_cases h : k < 8 * 11
  · rw [if_pos h]; omega
  · rw [if_neg h]
    unfold wC
    rw [if_neg (by omega)]
theorem aw_pc : (MS.run (gdOf 1 3 1 2 wC) 20 MS.start).pc = 4 := by kernel_rfl
theorem aw_corrupt : (MS.run (gdOf 1 3 1 2 wC) 20 MS.start).corrupt = false := by kernel_rfl
theorem aw_heads : (MS.run (gdOf 1 3 1 2 wC) 20 MS.start).heads.length = 4 := by kernel_rfl
theorem aw_nodes : (MS.run (gdOf 1 3 1 2 wC) 20 MS.start).nodes = [⟨0, 0, 0, 0⟩] := by kernel_rfl
theorem aw_cnt : cntN (gdOf 1 3 1 2 wC) MS.start 20 = 5 := by kernel_rfl
end Go.Proofs.YtibelcmdfkgonaaGreat

namespace Go.Proofs.YtibelcmdfkgonaaGreat
open Go.RowKit Go.BigFrame
set_option linter.unusedVariables false
set_option linter.unusedSimpArgs false
theorem few1312 : (⟨((1 : Nat) : Int), ((3 : Nat) : Int), ((1 : Nat) : Int), ((2 : Nat) : Int)⟩ : Cfg).few := by decide
set_option maxRecDepth 100000 in
set_option maxHeartbeats 4000000 in
theorem awake10 (W : World) : Calls Tryz.prog 10 #[] W (Gives (.bool true) W) := by
  have HFR : Hid (∀ w, Calls Tryz.prog 66 #[.agg #[.int .i64 1, .int .i64 3, .int .i64 1, .int .i64 2]] w fun e w' => ∃ g cap, e = .returned (.agg #[.int .i64 1, .int .i64 3, .int .i64 1, .int .i64 2, .slice (some ⟨g, 0, none⟩) 4 cap]) ∧ Below w.heap.size w w' ∧ PutsIn w' (some ⟨g, 0, none⟩) 4 fAt fWv) := Lib.hid fun w => by
    refine (fresh66 1 3 1 2 (by omega) (by omega) (by omega) (by omega) (by omega) w).mono ?_
    rintro e w' ⟨pv, rfl, hb, ho⟩
    obtain ⟨g, cap, rfl, hp⟩ := fresh_puts ho
    exact ⟨g, cap, rfl, hb, hp⟩
  have HLY : Hid (∀ w g cap, PutsIn w (some ⟨g, 0, none⟩) 4 fAt fWv → Calls Tryz.prog 9 #[.agg #[.int .i64 1, .int .i64 3, .int .i64 1, .int .i64 2, .slice (some ⟨g, 0, none⟩) 4 cap]] w fun e w' => ∃ l M R, e = .returned (.tuple #[.pointer (some ⟨l, 0, none⟩), .pointer (some ⟨M.m, 0, none⟩), .pointer (some ⟨R.m, 0, none⟩), .bool true]) ∧ Laid ⟨((1 : Nat) : Int), ((3 : Nat) : Int), ((1 : Nat) : Int), ((2 : Nat) : Int)⟩ fAt fWv 4 w w' l M R) := Lib.hid fun w g cap hp => by
    refine (lay9_yes 1 3 1 2 few1312 (some ⟨g, 0, none⟩) 4 cap (by omega) fAt fWv w hp).mono ?_
    rintro e w' (⟨h, -⟩ | ⟨-, l, M, R, rfl, h⟩)
    · exact absurd ⟨few1312, by omega⟩ h
    · exact ⟨l, M, R, rfl, h⟩
  have HMK : Hid (∀ (w : World) (l : Nat), LayAt w l (⟨((1 : Nat) : Int), ((3 : Nat) : Int), ((1 : Nat) : Int), ((2 : Nat) : Int)⟩ : Cfg).lv → Calls Tryz.prog 13 #[.pointer (some ⟨l, 0, none⟩), .int .i64 0] w (NewMk l (⟨((1 : Nat) : Int), ((3 : Nat) : Int), ((1 : Nat) : Int), ((2 : Nat) : Int)⟩ : Cfg).lv 0 3 4 w)) := Lib.hid fun w l h => new13 l _ 0 3 2 rfl (by omega) rfl (by omega) w h
  have HRZ : Hid (∀ (w w1 w2 : World) (l : Nat) (M : Mv) (R : Rv) (e : Ending), Laid ⟨((1 : Nat) : Int), ((3 : Nat) : Int), ((1 : Nat) : Int), ((2 : Nat) : Int)⟩ fAt fWv 4 w w1 l M R → NewMk l (⟨((1 : Nat) : Int), ((3 : Nat) : Int), ((1 : Nat) : Int), ((2 : Nat) : Int)⟩ : Cfg).lv 0 3 4 w1 e w2 → ∃ K : Mk, e = .returned (.pointer (some ⟨K.x, 0, none⟩)) ∧ K.S = 3 ∧ MkRun (gdOf 1 3 1 2 wC) M K.x K w.heap.size w w2 0 w2) := Lib.hid fun w w1 w2 l M R e h hk => by
    obtain ⟨K, he, hb, hK, e1, e2, e3, e4, e5, e6, e7, e8⟩ := hk
    have hn : M.n = 11 := by
      have h1 := h.n
      have h2 : (⟨((1 : Nat) : Int), ((3 : Nat) : Int), ((1 : Nat) : Int), ((2 : Nat) : Int)⟩ : Cfg).lv.ln = 11 := by decide
      rw [h2] at h1
      omega
    have hs : M.seen = wordsP 88 fAt fWv 4 := by have := h.seen; rw [hn] at this; exact this
    have hu : ∀ k, 0 ≤ M.seen k ∧ M.seen k < 18446744073709551616 := fun k => by
      rw [hs, fresh_words]
      unfold wC
      split <;> decide
    have := run_zero (by omega) h hu (Below.refl w1.heap.size w1) hb hK e1 e2 e4 e5 e6 e7 e8
    rw [fresh_wordsN hn hs] at this
    exact ⟨K, he, e4, this⟩
  obtain ⟨g, hg⟩ : ∃ g, g = gdOf 1 3 1 2 wC := ⟨_, rfl⟩
  have HAW : Hid ((MS.run g 20 MS.start).pc = 4 ∧ (MS.run g 20 MS.start).corrupt = false ∧ (MS.run g 20 MS.start).heads.length = 4 ∧ (MS.run g 20 MS.start).nodes = [⟨0, 0, 0, 0⟩] ∧ cntN g MS.start 20 = 5) := Lib.hid (by rw [hg]; exact ⟨aw_pc, aw_corrupt, aw_heads, aw_nodes, aw_cnt⟩)
  rw [← hg] at HRZ
  clear hg
  go_enter Tryz.func10, Tryz.ntmps10
  go_wp2_with (first
    | (go_at_call 66; refine (HFR.out _).mono ?_; rintro e w2 ⟨pg, pc, rfl, hb, hp⟩; have B2 := Lib.hid hb; have P2 := Lib.hid hp; clear hb hp)
    | (go_at_call 9; refine (HLY.out _ _ _ P2.out).mono ?_; rintro e w3 ⟨l, M, R, rfl, h⟩; have L3 := Lib.hid h; clear h)
    | (go_at_call 13; refine (HMK.out _ _ L3.out.lay).mono ?_; rintro e w4 hk; obtain ⟨K, rfl, hS, hrun⟩ := HRZ.out _ _ _ _ _ _ _ L3.out hk; have R4 := Lib.hid hrun; have S4 := Lib.hid hS; have CK4 : Hid (Calls Tryz.prog 14 #[.pointer (some ⟨M.m, 0, none⟩)] w4 (Says (.int .i64 4) w4)) := Lib.hid (by have hm4 : M.ck = 4 := L3.out.ck; obtain ⟨M2, K2, h1, -, -, -, -, -, hmv, -⟩ := hrun; have := clock20M M2 w4 h1; rw [hmv.m, hmv.ck] at this; rw [show M.ck + ((cntN g MS.start 0 : Nat) : Int) = 4 by show M.ck + ((0 : Nat) : Int) = 4; omega] at this; exact this); clear hk hrun hS)
    | (go_at_call 14; refine CK4.out.mono ?_; rintro e w4 ⟨rfl, rfl⟩))
  have HCKM : Hid (M.ck = 4) := Lib.hid L3.out.ck
  have HSTP : Hid (∀ (k : Nat) (w : World), k < 20 → MkRun g M K.x K w2.heap.size w2 w4 k w → Calls Tryz.prog 15 #[.pointer (some ⟨K.x, 0, none⟩), .pointer (some ⟨M.m, 0, none⟩)] w fun e W' => (∃ u, e = .returned u) ∧ MkRun g M K.x K w2.heap.size w2 w4 (k + 1) W') := Lib.hid fun k w hk h => h.step (by rw [S4.out]; omega) (by omega) (by rw [HCKM.out]; omega)
  have HEND : Hid (∀ w, MkRun g M K.x K w2.heap.size w2 w4 20 w → (Calls Tryz.prog 18 #[.pointer (some ⟨K.x, 0, none⟩)] w (Says (.bool true) w) ∧ Calls Tryz.prog 19 #[.pointer (some ⟨K.x, 0, none⟩)] w (Says (.bool false) w) ∧ Calls Tryz.prog 14 #[.pointer (some ⟨M.m, 0, none⟩)] w (Says (.int .i64 9) w)) ∧
      (Calls Tryz.prog 17 #[.pointer (some ⟨K.x, 0, none⟩)] w fun e w' => ∃ gn cn, e = .returned (.slice (some ⟨gn, 0, none⟩) 1 cn) ∧ Below w.heap.size w w' ∧ w'.cell? ⟨gn, 0, none⟩ = some (.int .i64 0) ∧ w'.cell? ⟨gn, 1, none⟩ = some (.int .i64 0) ∧ w'.cell? ⟨gn, 2, none⟩ = some (.int .u64 0) ∧ w'.cell? ⟨gn, 3, none⟩ = some (.int .u64 0)) ∧
      (Calls Tryz.prog 67 #[.pointer (some ⟨K.x, 0, none⟩)] w fun e w' => ∃ ah ch, e = .returned (.slice ah 4 ch) ∧ Below w.heap.size w w') ∧ Below w2.heap.size w2 w) := Lib.hid fun w h => by
    obtain ⟨M2, K2, h1, h2, h3, h4, h5, h6, h7, h8, h9, -⟩ := h
    have hp : K2.s.pc = 4 := by rw [h4]; exact HAW.out.1
    have hc : K2.s.corrupt = false := by rw [h4]; exact HAW.out.2.1
    have hh : K2.s.heads.length = 4 := by rw [h4]; exact HAW.out.2.2.1
    have hn : K2.s.nodes = [⟨0, 0, 0, 0⟩] := by rw [h4]; exact HAW.out.2.2.2.1
    have hck : M2.ck = 9 := by rw [h7.ck, HAW.out.2.2.2.2, HCKM.out]; rfl
    have c18 := done18 K2 w h2
    have c19 := corrupt19 K2 w h2
    have c14 := clock20M M2 w h1
    have c17 := nodes17 K2 w h2 (by rw [hn]; show 1 ≤ 1000000; omega)
    have c67 := heads67 K2 w h2 (by rw [hh]; omega)
    rw [hp, h5] at c18
    rw [hc, h5] at c19
    rw [hck, h7.m] at c14
    rw [h5] at c17 c67
    refine ⟨⟨c18, c19, c14⟩, c17.mono ?_, c67.mono ?_, h8⟩
    · rintro e w' (⟨h, -⟩ | ⟨-, v, rfl, hb, ho⟩)
      · rw [hc] at h; cases h
      · rw [hn] at ho
        obtain ⟨gn, cn, c, rfl, -, hg, -, -, hcc⟩ := own_row ho (by show 0 < 1; omega)
        exact ⟨gn, cn, rfl, hb, by rw [cell_in hg, hcc 0 (by show 0 < 1 * 4; omega)]; rfl, by rw [cell_in hg, hcc 1 (by show 1 < 1 * 4; omega)]; rfl, by rw [cell_in hg, hcc 2 (by show 2 < 1 * 4; omega)]; rfl, by rw [cell_in hg, hcc 3 (by show 3 < 1 * 4; omega)]; rfl⟩
    · rintro e w' ⟨v, rfl, hb, ho⟩
      obtain ⟨ah, ch, rfl⟩ := own_slice_n ho
      rw [hh]
      exact ⟨ah, ch, rfl, hb⟩
  clear HAW HFR HLY HMK HRZ CK4 L3 P2 S4 HCKM
  go_loopw [7] (fun i wr => ∃ k : Nat, k ≤ 20 ∧ i = .int .i64 k ∧ Hid (MkRun g M K.x K w2.heap.size w2 w4 k wr)) (fun i _ => 20 - (intOf i).toNat)
  case atStart => exact ⟨0, by omega, rfl, R4⟩
  case round =>
    obtain ⟨k, hk, rfl, HK⟩ := hrel
    by_cases hlt : k < 20
    · have d1 : decide ((k : Int) < 20) = true := bool_yes (by omega)
      have d2 : decide (k < 20) = true := bool_yes hlt
      have HLT := Lib.hid hlt
      clear hlt hk
      go_wp2_with (go_at_call 15; refine (HSTP.out k _ HLT.out HK.out).mono ?_; rintro e w5 ⟨⟨u, rfl⟩, h⟩; have HK5 := Lib.hid h; clear h)
      go_roundw
      case rel =>
        have hw : wrap64 ((k : Int) + 1) = (k : Int) + 1 := by have := HLT.out; unfold wrap64; omega
        exact ⟨k + 1, by have := HLT.out; omega, by first | rw [hw]; go_num | go_num, HK5⟩
      case measure =>
        have hw : wrap64 ((k : Int) + 1) = (k : Int) + 1 := by have := HLT.out; unfold wrap64; omega
        try rw [hw]
        have h := HLT.out
        have e1 : (intOf (.int .i64 ((k : Int) + 1))).toNat = k + 1 := by show ((k : Int) + 1).toNat = k + 1; omega
        have e2 : (intOf (.int .i64 (k : Int))).toNat = k := by show ((k : Int)).toNat = k; omega
        rw [e1, e2]
        exact Nat.sub_lt_sub_left h (Nat.lt_succ_self k)
    · obtain rfl : k = 20 := by omega
      have d1 : decide (((20 : Nat) : Int) < 20) = false := by decide
      have d2 : decide (20 < 20) = false := by decide
      have HE := Lib.hid (HEND.out _ HK.out)
      clear hlt hk HSTP
      go_wp2_with (first
        | (go_at_call 17; refine HE.out.2.1.mono ?_; rintro e w6 ⟨gn, cn, rfl, hb, c0, c1, c2, c3⟩; have HE6 := Lib.hid (HEND.out _ (HK.out.below hb)); clear hb)
        | (go_at_call 18; refine HE6.out.1.1.mono ?_; rintro e w' ⟨rfl, rfl⟩)
        | (go_at_call 19; refine HE6.out.1.2.1.mono ?_; rintro e w' ⟨rfl, rfl⟩)
        | (go_at_call 14; refine HE6.out.1.2.2.mono ?_; rintro e w' ⟨rfl, rfl⟩)
        | (go_at_call 67; refine HE6.out.2.2.1.mono ?_; rintro e w7 ⟨ah, ch, rfl, hb⟩; have B7 := Lib.hid (B2.out.trans ((HE6.out.2.2.2.trans (hb.mono HE6.out.2.2.2.size)).mono B2.out.size)); clear hb))
      go_ret
      exact ⟨rfl, B7.out⟩
end Go.Proofs.YtibelcmdfkgonaaGreat

namespace Go.Proofs.YtibelcmdfkgonaaGreat
open Go.RowKit Go.BigFrame
set_option linter.unusedVariables false
set_option linter.unusedSimpArgs false
theorem placesV_get : ∀ (l : List Place) (k : Nat) (p : Place), l[k]? = some p → (placesV l)[k * 3]? = some (.int .i64 (p.slot : Int)) ∧ (placesV l)[k * 3 + 1]? = some (.int .i64 (p.list : Int))
  | [], k, p, h => by simp at h
  | y :: t, 0, p, h => by
    simp at h
    subst h
    exact ⟨rfl, rfl⟩
  | y :: t, k + 1, p, h => by
    have e : placesV (y :: t) = [.int .i64 (y.slot : Int), .int .i64 (y.list : Int), .bool y.free] ++ placesV t := rfl
    have ih := placesV_get t k p (by simpa using h)
    rw [e]
    refine ⟨?_, ?_⟩
    · rw [List.getElem?_append_right (by simp; omega)]; simp only [List.length_cons, List.length_nil]; rw [show (k + 1) * 3 - (0 + 1 + 1 + 1) = k * 3 by omega]; exact ih.1
    · rw [List.getElem?_append_right (by simp; omega)]; simp only [List.length_cons, List.length_nil]; rw [show (k + 1) * 3 + 1 - (0 + 1 + 1 + 1) = k * 3 + 1 by omega]; exact ih.2
theorem nodesV_get : ∀ (l : List Node) (k : Nat) (p : Node), l[k]? = some p → (nodesV l)[k * 4]? = some (.int .i64 (p.slot : Int)) ∧ (nodesV l)[k * 4 + 1]? = some (.int .i64 (p.list : Int))
  | [], k, p, h => by simp at h
  | y :: t, 0, p, h => by
    simp at h
    subst h
    exact ⟨rfl, rfl⟩
  | y :: t, k + 1, p, h => by
    have e : nodesV (y :: t) = [.int .i64 (y.slot : Int), .int .i64 (y.list : Int), .int .u64 (y.link : Int), .int .u64 (y.val : Int)] ++ nodesV t := rfl
    have ih := nodesV_get t k p (by simpa using h)
    rw [e]
    refine ⟨?_, ?_⟩
    · rw [List.getElem?_append_right (by simp; omega)]; simp only [List.length_cons, List.length_nil]; rw [show (k + 1) * 4 - (0 + 1 + 1 + 1 + 1) = k * 4 by omega]; exact ih.1
    · rw [List.getElem?_append_right (by simp; omega)]; simp only [List.length_cons, List.length_nil]; rw [show (k + 1) * 4 + 1 - (0 + 1 + 1 + 1 + 1) = k * 4 + 1 by omega]; exact ih.2
def PlTold (nn : Nat) (sK lK : Nat → Nat) (err : Int) (W : World) (e : Ending) (W' : World) : Prop :=
  ∃ pa pc, e = .returned (.tuple #[.slice pa nn pc, .int .i64 err]) ∧ Below W.heap.size W W' ∧ ∀ k, k < nn → ∃ gp, pa = some ⟨gp, 0, none⟩ ∧ gp < W'.heap.size ∧ W'.cell? ⟨gp, k * 3, none⟩ = some (.int .i64 (sK k : Int)) ∧ W'.cell? ⟨gp, k * 3 + 1, none⟩ = some (.int .i64 (lK k : Int))
def NdTold (nn : Nat) (sK lK : Nat → Nat) (W : World) (e : Ending) (W' : World) : Prop :=
  ∃ na nc, e = .returned (.slice na nn nc) ∧ Below W.heap.size W W' ∧ ∀ k, k < nn → ∃ gn, na = some ⟨gn, 0, none⟩ ∧ gn < W'.heap.size ∧ W'.cell? ⟨gn, k * 4, none⟩ = some (.int .i64 (sK k : Int)) ∧ W'.cell? ⟨gn, k * 4 + 1, none⟩ = some (.int .i64 (lK k : Int))
theorem both_tell {s : MS} {st : VS} {o : Option (List (Nat × Nat))} {m : Nat → Bool} (hT : Told MS.start o s) (hV : VSaid ⟨true, m, []⟩ o st) :
    ∃ (crp : Bool) (err : Int) (nn : Nat) (sK lK : Nat → Nat), (err == 8) = crp ∧ s.corrupt = crp ∧ nn ≤ s.nodes.length ∧ (∀ W e W', PlacesTo st W e W' → PlTold nn sK lK err W e W') ∧ (∀ W e W', NodesTold s W e W' → NdTold nn sK lK W e W') := by
  cases o with
  | none =>
    refine ⟨true, 8, 0, fun _ => 0, fun _ => 0, rfl, hT.2.1 rfl, Nat.zero_le _, ?_, ?_⟩
    · rintro W e W' ⟨hb, ⟨-, rfl⟩ | ⟨h, -⟩⟩
      · exact ⟨none, 0, rfl, hb, fun k hk => absurd hk (Nat.not_lt_zero _)⟩
      · rw [hV.1 rfl] at h; cases h
    · rintro W e W' (⟨-, rfl, rfl⟩ | ⟨h, -⟩)
      · exact ⟨none, 0, rfl, Below.refl _ _, fun k hk => absurd hk (Nat.not_lt_zero _)⟩
      · rw [hT.2.1 rfl] at h; cases h
  | some ps =>
    obtain ⟨t1, ns, t2, t3⟩ := hT.2.2 ps rfl
    obtain ⟨v1, v2⟩ := hV.2 ps rfl
    have t2' : s.nodes = ns := by rw [t2]; rfl
    have v2' : st.ps.map pair = ps := by rw [v2]; rfl
    have l1 : ns.length = ps.length := by rw [← t3, List.length_map]
    have l2 : st.ps.length = ps.length := by rw [← v2', List.length_map]
    refine ⟨false, 0, ps.length, fun k => (ps[k]?.getD (0, 0)).1, fun k => (ps[k]?.getD (0, 0)).2, rfl, t1, by rw [t2', l1]; exact Nat.le_refl _, ?_, ?_⟩
    · rintro W e W' ⟨hb, ⟨h, -⟩ | ⟨-, v, rfl, ho⟩⟩
      · rw [v1] at h; cases h
      · rw [l2] at ho
        obtain ⟨pa, pc, rfl⟩ := own_slice_n ho
        refine ⟨pa, pc, rfl, hb, fun k hk => ?_⟩
        obtain ⟨gp, cap, c, e, -, hg, -, -, hc⟩ := own_row ho (by omega)
        cases e
        obtain ⟨p, hp⟩ : ∃ p, st.ps[k]? = some p := ⟨_, List.getElem?_eq_getElem (by omega)⟩
        obtain ⟨g1, g2⟩ := placesV_get _ k p hp
        have hpk : ps[k]? = some (p.slot, p.list) := by rw [← v2', List.getElem?_map, hp]; rfl
        refine ⟨gp, rfl, lt_row hg, ?_, ?_⟩
        · rw [cell_in hg, hc _ (by omega), g1]; dsimp only; rw [hpk]; rfl
        · rw [cell_in hg, hc _ (by omega), g2]; dsimp only; rw [hpk]; rfl
    · rintro W e W' (⟨h, -⟩ | ⟨-, v, rfl, hb, ho⟩)
      · rw [t1] at h; cases h
      · rw [t2', l1] at ho
        obtain ⟨na, nc, rfl⟩ := own_slice_n ho
        refine ⟨na, nc, rfl, hb, fun k hk => ?_⟩
        obtain ⟨gn, cap, c, e, -, hg, -, -, hc⟩ := own_row ho (by omega)
        cases e
        obtain ⟨p, hp⟩ : ∃ p, ns[k]? = some p := ⟨_, List.getElem?_eq_getElem (by omega)⟩
        obtain ⟨g1, g2⟩ := nodesV_get _ k p hp
        have hpk : ps[k]? = some (p.slot, p.list) := by rw [← t3, List.getElem?_map, hp]; rfl
        refine ⟨gn, rfl, lt_row hg, ?_, ?_⟩
        · rw [cell_in hg, hc _ (by omega), g1]; dsimp only; rw [hpk]; rfl
        · rw [cell_in hg, hc _ (by omega), g2]; dsimp only; rw [hpk]; rfl
end Go.Proofs.YtibelcmdfkgonaaGreat
