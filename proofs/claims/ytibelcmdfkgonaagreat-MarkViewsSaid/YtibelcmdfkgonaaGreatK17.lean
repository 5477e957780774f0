/- Layer 4: a device is made.
   Layer 20 (mark): a mark made. -/
import Derived.Test.YtibelcmdfkgonaaGreatK16
import Derived.WalkSpells
import Derived.Test.YtibelcmdfkgonaaGreatK15
namespace Go.Proofs.YtibelcmdfkgonaaGreat
open Go.RowKit Go.BigFrame
set_option linter.unusedVariables false
set_option linter.unusedSimpArgs false
/-- A copy of lines. -/
def CloneTo (xs : List Value) (n : Nat) (W : World) (e : Ending) (W' : World) : Prop := ∃ v, e = .returned v ∧ Below W.heap.size W W' ∧ W'.ownsRow W.heap.size 218 8 v n xs
set_option maxRecDepth 100000 in
theorem clone51 (g n cap : Nat) (c : Array Value) (hn : 0 < n) (h1 : n ≤ 262144) (xs : List Value) (W : World) (hg : W.heap[g]? = some (.cells c 218 (0, 0))) (hxs : xs.length = n * 8) (hc : ∀ j, j < n * 8 → c[j]? = xs[j]?) (h1c : ∀ u ∈ xs, u.oneCell' = true) :
    Calls Tryz.prog 220 #[.slice (some ⟨g, 0, none⟩) n cap] W (CloneTo xs n W) := by
  obtain ⟨i102, hi, hz0, hz1, hz2⟩ := info_parts info102
  have HG := Lib.hid hg
  have HC := Lib.hid hc
  have HX := Lib.hid hxs
  have H1 := Lib.hid h1c
  clear hg hc hxs h1c
  obtain ⟨B, hB⟩ : ∃ B, B = W.heap.size := ⟨_, rfl⟩
  unfold CloneTo
  rw [← hB]
  have HB := Lib.hid hB
  clear hB
  have hnil := fun w : World => Lib.run_eql_slice_nil (P := Tryz.prog) w 140 218 (some ⟨g, 0, none⟩) n cap 0 0 Tryz.underlying140
  go_enter Tryz.func220, Tryz.ntmps220
  have hgl : g < W.heap.size := (Array.getElem?_eq_some_iff.1 HG.out).1
  go_wp2_with (at_builtin; refine wpList_append_own _ rfl (.tmp 5) (.tmp 6) 140 rfl B 218 i102 _ 8 64 Tryz.underlying140 hi hz0 hz1 hz2 rfl (by decide) (.slice (some ⟨W.heap.size, 0, none⟩) 0 0) 0 [] rfl (World.ownsRow_made W #[] 0 (by have := HB.out; omega) (by unfold maxLen; omega) rfl) ⟨g, 0, none⟩ n cap xs rfl HX.out (fun j u hj => by rw [Addr.add_lit, Nat.zero_add, cell_in ((Below.heap_alloc W _ g hgl).trans HG.out), HC.out j (by rw [← HX.out]; exact (List.getElem?_eq_some_iff.1 hj).1)]; exact hj) H1.out (by unfold maxLen; omega) (by omega) (by have := HB.out; simp; omega) ?_; intro v' w' hown hgr hne; have HO' := Lib.hid hown; have HG' := Lib.hid hgr; clear hown hgr hne)
  go_wp2_with fail
  go_ret
  refine ⟨_, rfl, ?_, ?_⟩
  · exact ((Below.refl _ _).alloc (by have := HB.out; omega) _).grown HG'.out (by have := HB.out; rw [World.size_alloc]; omega) (fun q e => by cases e; show B ≤ W.heap.size; have := HB.out; omega)
  · have := HO'.out
    rw [Nat.zero_add, List.nil_append] at this
    exact this
theorem mk_row (t e : TypeId) (z v : Value) (by_ : Nat) (ht : Tryz.prog.underlying t = some (.slice e)) (hi : (Tryz.prog.info? e).map (fun i => (i.zero, i.size, i.bytes)) = some (some z, 1, by_)) (hz : z.cells = #[v]) (n : Nat) (hb : by_ * n ≤ 281474976710656) (h63 : n ≤ 9223372036854775807) (w : World) :
    (Instr.makeSlice t (.int .i64 n) (.int .i64 n)).run Tryz.prog w = .ok (.slice (some ⟨w.heap.size, 0, none⟩) n n) (w.alloc (.cells (madeCells #[v] n) e)) := by
  obtain ⟨i, h1, h2, h3, h4⟩ := info_parts hi
  have hb' : (i.bytes : Int) * (n : Int) ≤ 281474976710656 := by
    have h : ((by_ * n : Nat) : Int) ≤ 281474976710656 := by omega
    rw [Int.natCast_mul] at h; rw [h4]; exact h
  have := run_make (P := Tryz.prog) w t e i z ht h1 h2 .i64 .i64 n n (by omega) (Int.le_refl _) hb' (by omega)
  rw [this, h3, hz]
  rw [Int.toNat_natCast, Nat.mul_one]
theorem made_get (v : Value) (n j : Nat) (hj : j < n) : (madeCells #[v] n)[j]? = some v := by
  rw [← Array.getElem?_toList, toList_madeCells_one]; simp [hj]
theorem info3 : (Tryz.prog.info? 3).map (fun i => (i.zero, i.size, i.bytes)) = some (some (.int .i64 0), 1, 8) := by kernel_rfl
theorem info123 : (Tryz.prog.info? 280).map (fun i => (i.zero, i.size, i.bytes)) = some (some (.agg #[.slice none 0 0]), 1, 24) := by kernel_rfl
/-- A device made: its blocks. -/
structure DevAt (W : World) (B d kb sb wb fb n nt c0 c1 : Nat) (f : Nat → Int) : Prop where
  dev : W.heap[d]? = some (.cells #[.slice (some ⟨kb, 0, none⟩) n c0, .slice (some ⟨sb, 0, none⟩) n c1, .slice (some ⟨wb, 0, none⟩) n n, .slice (some ⟨fb, 0, none⟩) nt nt] 143 (0, 0))
  rk : RowAt W kb (8 * n) fun k => .int .u64 (f k)
  rs : RowAt W sb (8 * n) fun k => .int .u64 (f k)
  rw : RowAt W wb n fun _ => .int .i64 0
  rf : RowAt W fb nt fun _ => .slice none 0 0
  apart : [d, kb, sb, wb, fb].Nodup
  base : B ≤ d ∧ B ≤ kb ∧ B ≤ sb ∧ B ≤ wb ∧ B ≤ fb
def MadeTo (B kb n cap nt : Nat) (f : Nat → Int) (W : World) (e : Ending) (W' : World) : Prop := ∃ d sb wb fb c1, e = .returned (.pointer (some ⟨d, 0, none⟩)) ∧ Below W.heap.size W W' ∧ DevAt W' B d kb sb wb fb n nt cap c1 f
theorem row_of_words {w : World} {X n g cap : Nat} {f : Nat → Int} (h : w.ownsRow X 218 8 (.slice (some ⟨g, 0, none⟩) n cap) n (wordsL f (8 * n))) (hn : 0 < n) : RowAt w g (8 * n) fun k => .int .u64 (f k) := by
  obtain ⟨g', cap', c, e1, hb, hg, hc1, hcs, hcc⟩ := own_row h hn
  cases e1
  exact ⟨c, _, hg, fun k hk => by rw [hcc k (by omega)]; exact wordsL_get f _ k hk⟩
theorem dev_made {B kb n cap nt : Nat} {f : Nat → Int} {W wf : World} (hn : 0 < n) (hW : W.ownsRow B 218 8 (.slice (some ⟨kb, 0, none⟩) n cap) n (wordsL f (8 * n))) {d sb wb fb c1 X : Nat} (hb : Below W.heap.size W wf)
    (h0 : wf.heap[d]? = some (.cells #[.slice (some ⟨kb, 0, none⟩) n cap, .slice (some ⟨sb, 0, none⟩) n c1, .slice (some ⟨wb, 0, none⟩) n n, .slice (some ⟨fb, 0, none⟩) nt nt] 143 (0, 0)))
    (h1 : wf.heap[wb]? = some (.cells (madeCells #[.int .i64 0] n) 3 (0, 0))) (h2 : wf.heap[fb]? = some (.cells (madeCells #[.slice none 0 0] nt) 280 (0, 0)))
    (h3 : wf.ownsRow X 218 8 (.slice (some ⟨sb, 0, none⟩) n c1) n (wordsL f (8 * n))) (hx : W.heap.size ≤ X ∧ W.heap.size ≤ d ∧ W.heap.size ≤ wb ∧ W.heap.size ≤ fb)
    (ne : d ≠ wb ∧ d ≠ fb ∧ wb ≠ fb ∧ sb ≠ d ∧ sb ≠ wb ∧ sb ≠ fb) : MadeTo B kb n cap nt f W (.returned (.pointer (some ⟨d, 0, none⟩))) wf := by
  obtain ⟨k1, k2⟩ := own_lt hW (k := kb) rfl
  obtain ⟨s1, s2⟩ := own_lt h3 (k := sb) rfl
  refine ⟨d, sb, wb, fb, c1, rfl, hb, h0, (row_of_words hW hn).keep (hb.block _ k2), row_of_words h3 hn, ⟨_, _, h1, fun k hk => made_get _ _ _ hk⟩, ⟨_, _, h2, fun k hk => made_get _ _ _ hk⟩, ?_, by omega⟩
  simp only [List.nodup_cons, List.mem_cons, List.not_mem_nil, or_false, not_or, List.nodup_nil, and_true, not_false_eq_true]
  omega
theorem new1 (w : World) (a b c : Obj) : (((w.alloc a).alloc b).alloc c).heap[w.heap.size]? = some a ∧ (((w.alloc a).alloc b).alloc c).heap[w.heap.size + 1]? = some b ∧ (((w.alloc a).alloc b).alloc c).heap[w.heap.size + 1 + 1]? = some c := by
  refine ⟨?_, ?_, ?_⟩
  · rw [Below.heap_alloc _ _ _ (by simp; omega)]; exact (two_new w a b).1
  · rw [Below.heap_alloc _ _ _ (by simp)]; exact (two_new w a b).2
  · have := heap_alloc_new ((w.alloc a).alloc b) c; simpa using this
set_option maxRecDepth 100000 in
set_option maxHeartbeats 2000000 in
theorem made36 (B kb n cap nt : Nat) (hn : 0 < n) (h1 : n ≤ 262144) (ht : nt ≤ 64) (f : Nat → Int) (W : World) (h : W.ownsRow B 218 8 (.slice (some ⟨kb, 0, none⟩) n cap) n (wordsL f (8 * n))) :
    Calls Tryz.prog 125 #[.slice (some ⟨kb, 0, none⟩) n cap, .int .i64 nt] W (MadeTo B kb n cap nt f W) := by
  have i0 : (0 : Int) ≤ (n : Int) := by omega
  have i1 : (0 : Int) ≤ (nt : Int) := by omega
  have HCL : Hid (∀ w, Below W.heap.size W w → Calls Tryz.prog 220 #[.slice (some ⟨kb, 0, none⟩) n cap] w (CloneTo (wordsL f (8 * n)) n w)) := Lib.hid fun w hw => by
    obtain ⟨g, cap', c, e1, hb, hg, hc1, hcs, hcc⟩ := own_row h hn
    cases e1
    refine clone51 _ n _ c hn h1 _ w ((hw.block _ (Array.getElem?_eq_some_iff.1 hg).1).trans hg) (by rw [wordsL_len]; omega) hcc (fun u hu => ?_)
    unfold wordsL at hu
    obtain ⟨q, _, rfl⟩ := List.mem_map.1 hu
    rfl
  have HH := Lib.hid h
  clear h
  have mk1 := mk_row 84 3 _ _ 8 Tryz.underlying84 info3 rfl n (by omega) (by omega)
  have mk2 := mk_row 141 280 _ _ 24 Tryz.underlying141 info123 rfl nt (by omega) (by omega)
  go_enter Tryz.func125, Tryz.ntmps125
  go_wp2_with fail
  go_region_with (go_at_call 220; refine (HCL.out _ (by first | exact (Below.refl _ _).drew | exact ((Below.refl _ _).alloc (Nat.le_refl _) _).drew | exact (((Below.refl _ _).alloc (Nat.le_refl _) _).alloc (by simp) _).drew | exact (Below.refl _ _).drew.alloc (by simp) _ | exact ((Below.refl _ _).drew.alloc (by simp) _).alloc (by simp) _)).mono ?_; rintro e w1 ⟨v, rfl, hb, ho⟩; obtain ⟨sb, c1, cc, rfl, hq⟩ := own_row ho hn; have HB1 := Lib.hid hb; have HO1 := Lib.hid ho; clear hb ho hq)
  all_goals
    go_wp2_with fail
    go_ret
  all_goals (have s1 := (own_lt HO1.out rfl).1; have s2 := (own_lt HO1.out rfl).2; have z1 := HB1.out.size)
  · obtain ⟨a, b, c⟩ := new1 w1 (.cells (madeCells #[.int .i64 0] n) 3) (.cells (madeCells #[.slice none 0 0] nt) 280) (.cells #[.slice (some ⟨kb, 0, none⟩) n cap, .slice (some ⟨sb, 0, none⟩) n c1, .slice (some ⟨w1.heap.size, 0, none⟩) n n, .slice (some ⟨w1.heap.size + 1, 0, none⟩) nt nt] 143)
    refine dev_made hn HH.out ?_ c a b (((HO1.out.alloc _).alloc _).alloc _) ?_ ?_
    · exact ((((Below.refl _ _).drew.trans HB1.out).alloc z1 _).alloc (by simp at z1 ⊢; omega) _).alloc (by simp at z1 ⊢; omega) _
    all_goals (simp at z1 s1 s2 ⊢; omega)
  · obtain ⟨a, b, c⟩ := new1 w1 (.cells (madeCells #[.slice none 0 0] nt) 280) (.cells (madeCells #[.int .i64 0] n) 3) (.cells #[.slice (some ⟨kb, 0, none⟩) n cap, .slice (some ⟨sb, 0, none⟩) n c1, .slice (some ⟨w1.heap.size + 1, 0, none⟩) n n, .slice (some ⟨w1.heap.size, 0, none⟩) nt nt] 143)
    refine dev_made hn HH.out ?_ c b a (((HO1.out.alloc _).alloc _).alloc _) ?_ ?_
    · exact ((((Below.refl _ _).drew.trans HB1.out).alloc z1 _).alloc (by simp at z1 ⊢; omega) _).alloc (by simp at z1 ⊢; omega) _
    all_goals (simp at z1 s1 s2 ⊢; omega)
  · have e0 := (HB1.out.block W.heap.size (by simp)).trans (heap_alloc_new W _)
    have zz : W.heap.size + 1 ≤ w1.heap.size := by have := z1; simp at this; omega
    refine dev_made hn HH.out ?_ (two_new w1 _ _).2 ((Below.heap_alloc _ _ _ (by simp; omega)).trans ((Below.heap_alloc w1 _ W.heap.size (by omega)).trans e0)) (two_new w1 _ _).1 ((HO1.out.alloc _).alloc _) ?_ ?_
    · exact (((((Below.refl _ _).alloc (Nat.le_refl _) _).drew.trans (HB1.out.mono (by simp))).alloc (by omega) _).alloc (by simp; omega) _)
    all_goals (simp at z1 s1 s2 ⊢; omega)
  · have e0 := (HB1.out.block W.heap.size (by simp; omega)).trans (two_new W _ _).1
    have e1 := (HB1.out.block (W.heap.size + 1) (by simp)).trans (two_new W _ _).2
    have zz : W.heap.size + 1 + 1 ≤ w1.heap.size := by have := z1; simp at this; omega
    refine dev_made hn HH.out ?_ (heap_alloc_new w1 _) ((Below.heap_alloc w1 _ W.heap.size (by omega)).trans e0) ((Below.heap_alloc w1 _ (W.heap.size + 1) (by omega)).trans e1) (HO1.out.alloc _) ?_ ?_
    · exact ((((Below.refl _ _).alloc (Nat.le_refl _) _).alloc (by simp) _).drew.trans (HB1.out.mono (by simp; omega))).alloc (by omega) _
    all_goals (simp at z1 s1 s2 ⊢; omega)
  · have e0 := (HB1.out.block W.heap.size (by simp)).trans (heap_alloc_new W _)
    have zz : W.heap.size + 1 ≤ w1.heap.size := by have := z1; simp at this; omega
    refine dev_made hn HH.out ?_ (two_new w1 _ _).2 (two_new w1 _ _).1 ((Below.heap_alloc _ _ _ (by simp; omega)).trans ((Below.heap_alloc w1 _ W.heap.size (by omega)).trans e0)) ((HO1.out.alloc _).alloc _) ?_ ?_
    · exact (((((Below.refl _ _).alloc (Nat.le_refl _) _).drew.trans (HB1.out.mono (by simp))).alloc (by omega) _).alloc (by simp; omega) _)
    all_goals (simp at z1 s1 s2 ⊢; omega)
  · have e0 := (HB1.out.block W.heap.size (by simp; omega)).trans (two_new W _ _).1
    have e1 := (HB1.out.block (W.heap.size + 1) (by simp)).trans (two_new W _ _).2
    have zz : W.heap.size + 1 + 1 ≤ w1.heap.size := by have := z1; simp at this; omega
    refine dev_made hn HH.out ?_ (heap_alloc_new w1 _) ((Below.heap_alloc w1 _ (W.heap.size + 1) (by omega)).trans e1) ((Below.heap_alloc w1 _ W.heap.size (by omega)).trans e0) (HO1.out.alloc _) ?_ ?_
    · exact ((((Below.refl _ _).alloc (Nat.le_refl _) _).alloc (by simp) _).drew.trans (HB1.out.mono (by simp; omega))).alloc (by omega) _
    all_goals (simp at z1 s1 s2 ⊢; omega)
end Go.Proofs.YtibelcmdfkgonaaGreat

namespace Go.Proofs.YtibelcmdfkgonaaGreat
open Go.RowKit Go.BigFrame
set_option linter.unusedVariables false
set_option linter.unusedSimpArgs false
/-- The ways' heads. -/
def wayF : Nat → Nat
  | 0 => 16
  | 1 => 32
  | k + 2 => 40 + k
def waysL (n : Nat) : List Value := (List.range n).map fun k => .int .i64 (wayF k : Int)
theorem waysL_succ (n : Nat) : waysL (n + 1) = waysL n ++ [.int .i64 (wayF n : Int)] := by simp [waysL, List.range_succ]
theorem waysL_len (n : Nat) : (waysL n).length = n := by simp [waysL]
theorem waysL_get {n k : Nat} (h : k < n) : (waysL n)[k]? = some (.int .i64 (wayF k : Int)) := by simp [waysL, h]
def wayB : Nat → Bool
  | 0 => false
  | _ + 1 => true
theorem headsArg_eq (k : Nat) : headsArg k = #[.int .i64 (wayF (k + 1) : Int), .bool (wayB k)] := by
  cases k <;> simp [headsArg, wayF, wayB]
def newCells (l : Nat) (t : Int) (wv : Value) (mb S : Nat) : Array Value := #[.pointer (some ⟨l, 0, none⟩), .int .i64 t, .int .i64 0, wv, .int .i64 0, .slice (some ⟨mb, 0, none⟩) S S, .bool false, .slice none 0 0, .slice none 0 0, .int .i64 0, .bool false, .bool false, .int .u64 0, .bool false, .int .u64 0]
/-- A mark under way: k ways are laid. -/
structure NewAt (W0 : World) (l V x mb S b : Nat) (t : Int) (v : Lv) (k : Nat) (W : World) : Prop where
  below : Below W0.heap.size W0 W
  lay : LayAt W l v
  var : W.heap[V]? = some (.cells #[.pointer (some ⟨x, 0, none⟩)] 37 (0, 0))
  out : ∃ wv, W.heap[x]? = some (.cells (newCells l t wv mb S) 149 (0, 0)) ∧ W.ownsRow W0.heap.size 3 1 wv (k + 1) (waysL (k + 1)) ∧ wv.ownBlock ≠ some V ∧ wv.ownBlock ≠ some x ∧ wv.ownBlock ≠ some mb ∧ wv.ownBlock ≠ some b
  met : ∃ c, W.heap[mb]? = some (.cells c 4 (0, 0)) ∧ ∀ k, k < S → c[k]? = some (.bool false)
  cell : W.heap[b]? = some (.cells #[.pointer (some ⟨l, 0, none⟩)] 27 (0, 0))
  apart : V ≠ x ∧ V ≠ mb ∧ V ≠ b ∧ x ≠ mb ∧ x ≠ b ∧ mb ≠ b
  base : l < W0.heap.size ∧ W0.heap.size ≤ V ∧ W0.heap.size ≤ x ∧ W0.heap.size ≤ mb ∧ W0.heap.size ≤ b
theorem NewAt.keep {W0 W W' : World} {l V x mb S b : Nat} {t : Int} {v : Lv} {k : Nat} (h : NewAt W0 l V x mb S b t v k W) (hb : Below W0.heap.size W0 W') (e : ∀ (q : Nat) (c : Array Value) (t : TypeId), W.heap[q]? = some (.cells c t (0, 0)) → W'.heap[q]? = some (.cells c t (0, 0))) : NewAt W0 l V x mb S b t v k W' := by
  obtain ⟨wv, h1, h2, h3⟩ := h.out
  obtain ⟨c, m1, m2⟩ := h.met
  refine ⟨hb, ⟨e _ _ _ h.lay.row, h.lay.ok⟩, e _ _ _ h.var, ⟨wv, e _ _ _ h1, own_keep' h2 fun q hq => ?_, h3⟩, ⟨c, e _ _ _ m1, m2⟩, e _ _ _ h.cell, h.apart, h.base⟩
  obtain ⟨g, cap, cc, rfl, _, hg, _⟩ := own_row h2 (by omega)
  cases hq
  exact (e _ _ _ hg).trans hg.symm
theorem NewAt.size {W0 W : World} {l V x mb S b : Nat} {t : Int} {v : Lv} {k : Nat} (h : NewAt W0 l V x mb S b t v k W) : V < W.heap.size ∧ x < W.heap.size ∧ mb < W.heap.size ∧ b < W.heap.size ∧ W0.heap.size ≤ W.heap.size := by
  obtain ⟨wv, h1, _⟩ := h.out
  obtain ⟨c, m1, _⟩ := h.met
  exact ⟨lt_row h.var, lt_row h1, lt_row m1, lt_row h.cell, h.below.size⟩
theorem NewAt.of_below {W0 W W' : World} {l V x mb S b : Nat} {t : Int} {v : Lv} {k : Nat} (h : NewAt W0 l V x mb S b t v k W) (hb : Below W.heap.size W W') : NewAt W0 l V x mb S b t v k W' :=
  h.keep (h.below.trans (hb.mono h.below.size)) fun q c t hq => (hb.block q (lt_row hq)).trans hq
/-- One way more. -/
theorem NewAt.add {W0 W w4 : World} {l V x mb S b : Nat} {t : Int} {v : Lv} {k : Nat} (h : NewAt W0 l V x mb S b t v k W) {wv : Value} {o : Obj} (hx : W.heap[x]? = some (.cells (newCells l t wv mb S) 149 (0, 0)))
    (hd : wv.ownBlock ≠ some V ∧ wv.ownBlock ≠ some x ∧ wv.ownBlock ≠ some mb ∧ wv.ownBlock ≠ some b) (hlo : ∀ q, wv.ownBlock = some q → W0.heap.size ≤ q)
    {v' : Value} (ho : w4.ownsRow W0.heap.size 3 1 v' (k + 1 + 1) (waysL (k + 1) ++ [.int .i64 (wayF (k + 1) : Int)])) (hg : (W.alloc o).grownBy w4 wv.ownBlock) (hb : v'.ownBlock = wv.ownBlock ∨ v'.ownBlock = some (W.alloc o).heap.size) :
    NewAt W0 l V x mb S b t v (k + 1) (w4.setCell ⟨x, 3, none⟩ v') ∧ StaysL W (w4.setCell ⟨x, 3, none⟩ v') := by
  obtain ⟨s1, s2, s3, s4, s5⟩ := h.size
  obtain ⟨p1, p2, p3, p4, p5, p6⟩ := h.apart
  obtain ⟨b1, b2, b3, b4, b5⟩ := h.base
  obtain ⟨c, m1, m2⟩ := h.met
  obtain ⟨d1, d2, d3, d4⟩ := hd
  have old : ∀ q, q < W.heap.size → wv.ownBlock ≠ some q → w4.heap[q]? = W.heap[q]? := fun q hq hn => (hg.block q (by simp; omega) (Ne.symm hn)).trans (Below.heap_alloc _ _ _ hq)
  have xr := (old x s2 d2).trans hx
  have nx : ∀ q, v'.ownBlock = some q → q ≠ x := fun q hq e => by
    subst e
    rcases hb with hb | hb
    · exact d2 (hb ▸ hq)
    · rw [hb] at hq; cases hq; simp at s2; omega
  have nn : ∀ q, q < W.heap.size → wv.ownBlock ≠ some q → v'.ownBlock ≠ some q := fun q hq hn e => by
    rcases hb with hb | hb
    · exact hn (hb ▸ e)
    · rw [hb] at e; cases e; simp at hq; omega
  have keep : ∀ q, q < W.heap.size → wv.ownBlock ≠ some q → q ≠ x → (w4.setCell ⟨x, 3, none⟩ v').heap[q]? = W.heap[q]? := fun q hq hn hqx => (heap_set_other hqx).trans (old q hq hn)
  have lo : ∀ q, q < W0.heap.size → wv.ownBlock ≠ some q := fun q hq e => by have := hlo q e; omega
  refine ⟨⟨?_, ⟨(keep l (by omega) (lo l b1) (by omega)).trans h.lay.row, h.lay.ok⟩, (keep V s1 d1 p1).trans h.var, ⟨v', ?_, own_keep' (by rw [waysL_succ]; exact ho) (fun q hq => heap_set_other (nx q hq)), nn V s1 d1, nn x s2 d2, nn mb s3 d3, nn b s4 d4⟩, ⟨c, (keep mb s3 d3 (Ne.symm p4)).trans m1, m2⟩, (keep b s4 d4 (Ne.symm p5)).trans h.cell, h.apart, h.base⟩, ?_⟩
  · exact ((h.below.alloc s5 _).grown hg (by simp; omega) hlo).setCell (by show W0.heap.size ≤ x; omega) _
  · exact (heap_set _ xr).trans (by simp [newCells])
  · intro q o' hq hw
    have hqx : q ≠ x := fun e => by subst e; rw [hx] at hq; cases hq; rcases hw with ⟨r, e⟩ | ⟨r, e⟩ <;> cases e
    by_cases hqw : wv.ownBlock = some q
    · exfalso
      obtain ⟨wv', hx', ho', _⟩ := h.out
      have e1 : wv' = wv := by
        have := hx'.symm.trans hx
        simp only [newCells, Option.some.injEq, Obj.cells.injEq, Array.mk.injEq, List.cons.injEq] at this
        exact this.1.2.2.2.1
      subst e1
      obtain ⟨g, cap, cc, rfl, _, hg', _⟩ := own_row ho' (by omega)
      cases hqw
      rw [hg'] at hq; cases hq
      rcases hw with ⟨r, e⟩ | ⟨r, e⟩ <;> cases e
    · exact (keep q (Array.getElem?_eq_some_iff.1 hq).1 hqw hqx).trans hq
def HeadsTo (l : Nat) (w : World) (e : Ending) (w' : World) : Prop := e = .returned (.func (.func 132) #[] #[.pointer (some ⟨w.heap.size, 0, none⟩)]) ∧ w' = w.alloc (.cells #[.pointer (some ⟨l, 0, none⟩)] 27)
theorem heads71 (l : Nat) (w : World) : Calls Tryz.prog 71 #[.pointer (some ⟨l, 0, none⟩)] w (HeadsTo l w) := by
  unfold HeadsTo
  go_enter Tryz.func71, Tryz.ntmps71
  go_wp2_with fail
  go_ret
  exact ⟨rfl, rfl⟩
theorem range13 {assign body : Code} {Q : Exit → Act → World → Prop} {a : Act} {g : Operand} {W0 w : World} {l V x mb S b bu : Nat} {t : Int} {v : Lv} (hbu : (bu : Int) = v.bu) (hbu1 : bu ≤ 64)
    (hg : a.eval g = .func (.func 132) #[] #[.pointer (some ⟨b, 0, none⟩)]) (h0 : NewAt W0 l V x mb S b t v 0 w)
    (hassign : ∀ (l k : Nat) (W : World) (K : Act → World → Prop), K { tmps := ((a.tmps.setIfInBounds 21 (.int .i64 (wayF (k + 1) : Int))).setIfInBounds 22 (.bool (wayB k))).setIfInBounds 6 (.int .i64 (wayF (k + 1) : Int)), defers := [] } W →
      assign.wpIn (Fence.wide.inRound l) 7 Tryz.prog (Exit.then K (fun _ _ _ => False)) { tmps := (a.tmps.setIfInBounds 21 (.int .i64 (wayF (k + 1) : Int))).setIfInBounds 22 (.bool (wayB k)), defers := [] } W)
    (hbody : ∀ (lp k : Nat) (W : World), k < bu + 1 → NewAt W0 l V x mb S b t v k W →
      body.wpIn (Fence.wide.inRound lp) 7 Tryz.prog (Ended fun W' => NewAt W0 l V x mb S b t v (k + 1) W' ∧ StaysL W W') { tmps := ((a.tmps.setIfInBounds 21 (.int .i64 (wayF (k + 1) : Int))).setIfInBounds 22 (.bool (wayB k))).setIfInBounds 6 (.int .i64 (wayF (k + 1) : Int)), defers := [] } W)
    (hdone : ∀ (D : Nat) (W : World), W0.heap.size ≤ D → NewAt W0 l V x mb S b t v (bu + 1) W → W.heap[D]? = some (.deferred (some [])) → Q .normal { a with defers := { target := .collected D, args := #[] } :: a.defers } W) :
    (Code.rangeFunc g #[21, 22] assign body).wpIn Fence.wide 9 Tryz.prog Q a w := by
  have hsz := h0.size
  have hlp : ∀ k W W', LoopOnly w.heap.size W W' → NewAt W0 l V x mb S b t v k W → NewAt W0 l V x mb S b t v k W' := fun k W W' h hn =>
    hn.keep (LoopOnly.below (B := W0.heap.size) ⟨h.os, h.tape, h.output, h.size, fun b o hb hq => h.block b o hb (hq.imp_left fun q => Nat.lt_of_lt_of_le q hsz.2.2.2.2)⟩ hn.below hn.below.size) fun q c t hq => h.cells hq
  have hla : ∀ k, laid #[21, 22] (headsArg k) a.tmps = (a.tmps.setIfInBounds 21 (.int .i64 (wayF (k + 1) : Int))).setIfInBounds 22 (.bool (wayB k)) := fun k => by
    rw [headsArg_eq]; simp [laid]
  refine range_gen (F := 132) (caps := #[.pointer (some ⟨b, 0, none⟩)]) (N := bu + 1) (args := headsArg) (fun k W => NewAt W0 l V x mb S b t v k W) (fun k W => NewAt W0 l V x mb S b t v k W) (fun k W => NewAt W0 l V x mb S b t v (k + 1) W)
    (fun k => ((a.tmps.setIfInBounds 21 (.int .i64 (wayF (k + 1) : Int))).setIfInBounds 22 (.bool (wayB k))).setIfInBounds 6 (.int .i64 (wayF (k + 1) : Int)))
    (enters_at Tryz.func132 (by kernel_rfl) rfl) (fun k _ => by rw [headsArg_eq]; rfl) hg h0 hlp hlp (fun k => hlp (k + 1)) ?_ ?_ ?_ ?_
  · intro lp R hR hY W h0 r0
    exact iter132 l b bu v hbu hbu1 _ (fun k W W' hb h => h.of_below hb) (fun k W h => ⟨by rw [cell_in h.cell]; rfl, h.lay⟩) lp R hR hY W h0 r0
  · intro lp k W K hk hK
    rw [hla]
    exact hassign lp k W K hK
  · intro lp k W hk h
    exact hbody lp k W hk h
  · intro D W hD h hk
    exact hdone D W (Nat.le_trans hsz.2.2.2.2 hD) h hk
theorem info4m : (Tryz.prog.info? 4).map (fun i => (i.zero, i.size, i.bytes)) = some (some (.bool false), 1, 1) := by kernel_rfl
/-- A mark made. -/
def NewMk (l : Nat) (v : Lv) (t : Int) (S nh : Nat) (W : World) (e : Ending) (W' : World) : Prop :=
  ∃ K : Mk, e = .returned (.pointer (some ⟨K.x, 0, none⟩)) ∧ Below W.heap.size W W' ∧ MkAt W' K ∧ K.l = l ∧ K.v = v ∧ K.t = t ∧ K.S = S ∧ K.nh = nh ∧ K.hd = wayF ∧ K.s = MS.start ∧ ∀ k, K.own k → W.heap.size ≤ k
theorem NewAt.mk' {W0 W : World} {l V x mb S b bu : Nat} {t : Int} {v : Lv} (h : NewAt W0 l V x mb S b t v (bu + 1) W) (hS : (S : Int) = v.sl) (hbu1 : bu ≤ 64) : NewMk l v t S (bu + 2) W0 (.returned (.pointer (some ⟨x, 0, none⟩))) W := by
  obtain ⟨wv, h1, h2, d1, d2, d3, d4⟩ := h.out
  obtain ⟨c, m1, m2⟩ := h.met
  obtain ⟨g, cap, cc, rfl, hb, hg, _, _, hcc⟩ := own_row h2 (by omega)
  obtain ⟨b1, b2, b3, b4, b5⟩ := h.base
  obtain ⟨p1, p2, p3, p4, p5, p6⟩ := h.apart
  have hgx : g ≠ x := fun e => d2 (by rw [← e]; rfl)
  have hgm : g ≠ mb := fun e => d3 (by rw [← e]; rfl)
  have hlo : ∀ k, (⟨x, l, t, g, bu + 2, cap, mb, S, S, v, wayF, .slice none 0 0, .slice none 0 0, MS.start⟩ : Mk).own k → W0.heap.size ≤ k := fun k hk => by
    rcases hk with rfl | rfl | rfl | hk | hk
    · exact b3
    · exact hb
    · exact b4
    · cases hk
    · cases hk
  refine ⟨⟨x, l, t, g, bu + 2, cap, mb, S, S, v, wayF, .slice none 0 0, .slice none 0 0, MS.start⟩, rfl, h.below, ?_, rfl, rfl, rfl, rfl, rfl, rfl, rfl, hlo⟩
  exact
    { row := h1
      lay := h.lay
      ways := ⟨cc, 3, hg, fun k hk => by rw [hcc k (by simpa using hk), waysL_get (by simpa using hk)]⟩
      met := ⟨c, 4, m1, m2⟩
      heads := World.ownsRow_nil _ _ _ _
      nodes := World.ownsRow_nil _ _ _ _
      xw := Ne.symm hgx
      xm := p4
      wm := hgm
      lo := fun hk => by have := hlo l hk; omega
      hx := ⟨nofun, nofun, nofun⟩
      nx := ⟨nofun, nofun, nofun⟩
      hn := fun k hk => by cases hk
      hS := hS
      nh1 := by show bu + 2 ≤ 1000; omega
      li := by show 0 ≤ bu + 2; omega
      lip := fun _ => by show 0 < bu + 2; omega
      sl := fun h1 => by cases h1
      ky := by show 0 < 18446744073709551616; decide
      vl := by show 0 < 18446744073709551616; decide }
set_option maxRecDepth 100000 in
theorem new13 (l : Nat) (v : Lv) (t : Int) (S bu : Nat) (hS : (S : Int) = v.sl) (hS1 : S ≤ 1000000) (hbu : (bu : Int) = v.bu) (hbu1 : bu ≤ 64) (W : World) (hl : LayAt W l v) :
    Calls Tryz.prog 13 #[.pointer (some ⟨l, 0, none⟩), .int .i64 t] W (NewMk l v t S (bu + 2) W) := by
  have HL := Lib.hid hl
  have HH := Lib.hid fun w => head69 l w
  have HC := Lib.hid fun w h => config70 l v w h
  have HE := Lib.hid fun w => heads71 l w
  have HB := Lib.hid (And.intro hS hbu)
  have HLT := Lib.hid hl.lt
  have hfl := fun (a b c d : Value) (w : World) => fld23_1 a b c d w
  have mk1 := mk_row 144 4 _ _ 1 Tryz.underlying144 info4m rfl S (by omega) (by omega)
  clear hl
  rw [← hS] at HC
  clear hS hbu
  refine (callsIn_wide (n := 9)).1 (callsIn_of_wp_marks Tryz.func13 rfl trivial ?_ rfl)
  refine wpIn_wide.2 ?_
  simp only [Tryz.ntmps13, List.size_toArray, List.length_cons, List.length_nil, Nat.reduceAdd, Nat.reduceSub, Array.replicate_succ, Array.replicate_zero, List.push_toArray, List.append_toArray, List.nil_append, List.cons_append]
  go_wp2_with (first | (go_at_call 69; refine (HH.out _).mono ?_; rintro e w' ⟨rfl, rfl⟩) | (go_at_call 70; refine (HC.out _ (HL.out.below ((Below.refl _ _).alloc (Nat.le_refl _) _) HLT.out)).mono ?_; rintro e w2 ⟨rfl, hb⟩; have H2 := Lib.hid hb; clear hb) | (go_at_call 71; refine (HE.out _).mono ?_; rintro e w3 ⟨rfl, hw3⟩; have H3 := Lib.hid hw3; clear hw3))
  have HNEW : Hid (NewAt w' l (w2.heap.size + 2) (w2.heap.size + 1) w2.heap.size S (w2.heap.size + 3) t v 0 w3) := Lib.hid (by
    have h2 := H2.out
    have hl := HL.out
    have hlt := HLT.out
    have sz := h2.size
    simp only [World.size_alloc] at sz
    have w0 : w2.heap[w'.heap.size]? = some (.cells #[.int .i64 16] 3 (0, 0)) := (h2.block _ (by simp)).trans (heap_alloc_new _ _)
    have B2 : Below w'.heap.size w' w2 := ((Below.refl _ w').alloc (Nat.le_refl _) _).trans (h2.mono (by simp))
    obtain ⟨a1, ha1⟩ : ∃ a1, a1 = w2.alloc (.cells (madeCells #[.bool false] S) 4) := ⟨_, rfl⟩
    obtain ⟨a2, ha2⟩ : ∃ a2, a2 = a1.alloc (.cells (newCells l t (.slice (some ⟨w'.heap.size, 0, none⟩) 1 1) w2.heap.size S) 149) := ⟨_, rfl⟩
    obtain ⟨a3, ha3⟩ : ∃ a3, a3 = a2.alloc (.cells #[.pointer (some ⟨w2.heap.size + 1, 0, none⟩)] 37) := ⟨_, rfl⟩
    have e3 : w3 = a3.alloc (.cells #[.pointer (some ⟨l, 0, none⟩)] 27) := by rw [H3.out, ha3, ha2, ha1]; rfl
    have z1 : a1.heap.size = w2.heap.size + 1 := by rw [ha1]; simp
    have z2 : a2.heap.size = w2.heap.size + 2 := by rw [ha2]; simp [z1]
    have z3 : a3.heap.size = w2.heap.size + 3 := by rw [ha3]; simp [z2]
    have k3 : ∀ q, q < w2.heap.size + 3 → w3.heap[q]? = a3.heap[q]? := fun q hq => by rw [e3]; exact Below.heap_alloc _ _ _ (by omega)
    have k2 : ∀ q, q < w2.heap.size + 2 → w3.heap[q]? = a2.heap[q]? := fun q hq => by rw [k3 q (by omega), ha3]; exact Below.heap_alloc _ _ _ (by omega)
    have k1 : ∀ q, q < w2.heap.size + 1 → w3.heap[q]? = a1.heap[q]? := fun q hq => by rw [k2 q (by omega), ha2]; exact Below.heap_alloc _ _ _ (by omega)
    have k0 : ∀ q, q < w2.heap.size → w3.heap[q]? = w2.heap[q]? := fun q hq => by rw [k1 q (by omega), ha1]; exact Below.heap_alloc _ _ _ (by omega)
    have n0 : w3.heap[w2.heap.size]? = some (.cells (madeCells #[.bool false] S) 4 (0, 0)) := by rw [k1 _ (by omega), ha1]; exact heap_alloc_new _ _
    have n1 : w3.heap[w2.heap.size + 1]? = some (.cells (newCells l t (.slice (some ⟨w'.heap.size, 0, none⟩) 1 1) w2.heap.size S) 149 (0, 0)) := by rw [k2 _ (by omega), ha2, ← z1]; exact heap_alloc_new _ _
    have n2 : w3.heap[w2.heap.size + 2]? = some (.cells #[.pointer (some ⟨w2.heap.size + 1, 0, none⟩)] 37 (0, 0)) := by rw [k3 _ (by omega), ha3, ← z2]; exact heap_alloc_new _ _
    have n3 : w3.heap[w2.heap.size + 3]? = some (.cells #[.pointer (some ⟨l, 0, none⟩)] 27 (0, 0)) := by rw [e3, ← z3]; exact heap_alloc_new _ _
    have b3 : Below w'.heap.size w' w3 := by
      rw [e3, ha3, ha2, ha1]
      exact (((B2.alloc (by omega) _).alloc (by simp; omega) _).alloc (by simp; omega) _).alloc (by simp; omega) _
    refine ⟨b3, hl.keep (b3.block l hlt), n2, ⟨_, n1, ⟨rfl, .inr ⟨w'.heap.size, 1, #[.int .i64 16], rfl, Nat.le_refl _, (k0 _ (by omega)).trans w0, Nat.le_refl _, by unfold maxLen; omega, rfl, rfl⟩⟩, ?_, ?_, ?_, ?_⟩, ⟨_, n0, fun k hk => made_get _ _ _ hk⟩, n3, ⟨by omega, by omega, by omega, by omega, by omega, by omega⟩, hlt, by omega, by omega, by omega, by omega⟩ <;>
      (simp [Value.ownBlock]; omega))
  obtain ⟨n2, hn2⟩ : ∃ n2, n2 = w2.heap.size := ⟨_, rfl⟩
  rw [← hn2] at HNEW
  try rw [← hn2]
  have HNEW : Hid (NewAt w' l (n2 + 1 + 1) (n2 + 1) n2 S (n2 + 1 + 1 + 1) t v 0 w3) := HNEW
  clear hn2 H2 H3 mk1 hfl HH HC HE
  generalize n2 + 1 + 1 + 1 = b at *
  generalize n2 + 1 + 1 = V at *
  generalize n2 + 1 = x at *
  have HI := info3
  refine (wpIn_wide (n := 9)).1 (range13 HB.out.2 hbu1 rfl HNEW.out ?_ ?_ ?_)
  · intro lp k W K hK
    simp only [List.setIfInBounds_toArray, List.set_cons_succ, List.set_cons_zero] at hK ⊢
    gi_wp2
    exact hK
  · intro lp k W hk h
    simp only [List.setIfInBounds_toArray, List.set_cons_succ, List.set_cons_zero]
    refine wpIn_block (region_in (by kernel_rfl) ?_ ?_ ?_)
    · intro i o ho cc hc
      have hi : i < 11 := (Array.getElem?_eq_some_iff.1 ho).1
      rcases i with _ | _ | _ | _ | _ | _ | _ | _ | _ | _ | _ | i <;> first | (cases ho; cases hc) | omega
    · rintro ⟨a, w, h⟩; exact h
    have HNd : Hid (NewAt w' l V x n2 S b t v k W.drew) := Lib.hid (h.of_below ((Below.refl _ W).drew))
    have HSD : Hid (StaysL W W.drew) := Lib.hid (fun _ _ h _ => h)
    have HK : Hid (k < bu + 1 ∧ bu ≤ 64) := Lib.hid ⟨hk, hbu1⟩
    clear h hk
    generalize W.drew = Wd at *
    obtain ⟨wv, hx, ho, hd⟩ := HNd.out.out
    obtain ⟨ga, gc, rfl⟩ := own_slice_n ho
    obtain ⟨i3, hi, hz0, hz1, hz2⟩ := info_parts HI
    have HX := Lib.hid hx
    have HO := Lib.hid ho
    have HD := Lib.hid hd
    have HF : Hid (∀ w'' : World, w''.heap[V]? = Wd.heap[V]? ∧ w''.heap[x]? = Wd.heap[x]? → w''.cell? ⟨V, 0, none⟩ = some (.pointer (some ⟨x, 0, none⟩)) ∧ w''.cell? ⟨x, 3, none⟩ = some (.slice ga (k + 1) gc)) := Lib.hid (fun w'' ⟨h1, h2⟩ => ⟨by rw [cell_in (h1.trans HNd.out.var)]; rfl, by rw [cell_in (h2.trans HX.out)]; rfl⟩)
    have SV : Wd.heap[V]? = Wd.heap[V]? := rfl
    have SX : Wd.heap[x]? = Wd.heap[x]? := rfl
    have HSZ := Lib.hid HNd.out.size
    clear hx ho hd HNEW HL HLT HB
    obtain ⟨wn, hwn⟩ : ∃ wn : Int, wn = (wayF (k + 1) : Int) := ⟨_, rfl⟩
    rw [← hwn]
    have HWN := Lib.hid hwn
    obtain ⟨k1, hk1⟩ : ∃ k1, k1 = k + 1 := ⟨_, rfl⟩
    rw [← hk1] at HF HO HX HD
    have HK1 := Lib.hid hk1
    clear hwn hk1
    refine any_last (fun w'' => w''.heap[V]? = Wd.heap[V]? ∧ w''.heap[x]? = Wd.heap[x]?) rfl (by kernel_rfl) ?_
    simp only [List.pop_toArray, List.dropLast, List.size_toArray, List.length_cons, List.length_nil, Nat.reduceAdd]
    refine take_at 0 (some 23) (.pointer (some ⟨x, 0, none⟩)) rfl rfl (by kernel_rfl) (by kernel_rfl) (by kernel_rfl) (fun _ _ _ h => h) (Or.inl ⟨by rfl, ?_⟩) ⟨SV, SX⟩ ?_
    · intro w hSw
      obtain ⟨f0, f1⟩ := HF.out w hSw
      clear hSw
      go_simp
    try simp only [Act.put, List.setIfInBounds_toArray, List.set_cons_zero, List.set_cons_succ]
    refine take_at 1 (some 24) (.pointer (some ⟨x, 0, none⟩)) rfl rfl (by kernel_rfl) (by kernel_rfl) (by kernel_rfl) (fun _ _ _ h => h) (Or.inl ⟨by rfl, ?_⟩) ⟨SV, SX⟩ ?_
    · intro w hSw
      obtain ⟨f0, f1⟩ := HF.out w hSw
      clear hSw
      go_simp
    try simp only [Act.put, List.setIfInBounds_toArray, List.set_cons_zero, List.set_cons_succ]
    refine take_at 2 (some 25) (.pointer (some ⟨x, 0, none⟩)) rfl rfl (by kernel_rfl) (by kernel_rfl) (by kernel_rfl) (fun _ _ _ h => h) (Or.inl ⟨by rfl, ?_⟩) ⟨SV, SX⟩ ?_
    · intro w hSw
      obtain ⟨f0, f1⟩ := HF.out w hSw
      clear hSw
      go_simp
    try simp only [Act.put, List.setIfInBounds_toArray, List.set_cons_zero, List.set_cons_succ]
    refine take_at 3 (some 26) (.pointer (some ⟨x, 3, none⟩)) rfl rfl (by kernel_rfl) (by kernel_rfl) (by kernel_rfl) (fun _ _ _ h => h) (Or.inl ⟨by rfl, ?_⟩) ⟨SV, SX⟩ ?_
    · intro w hSw
      obtain ⟨f0, f1⟩ := HF.out w hSw
      clear hSw
      go_simp
    try simp only [Act.put, List.setIfInBounds_toArray, List.set_cons_zero, List.set_cons_succ]
    refine take_at 4 (some 27) (.slice ga k1 gc) rfl rfl (by kernel_rfl) (by kernel_rfl) (by kernel_rfl) (fun _ _ _ h => h) (Or.inl ⟨by rfl, ?_⟩) ⟨SV, SX⟩ ?_
    · intro w hSw
      obtain ⟨f0, f1⟩ := HF.out w hSw
      clear hSw
      go_simp
    try simp only [Act.put, List.setIfInBounds_toArray, List.set_cons_zero, List.set_cons_succ]
    refine take_at 5 (some 28) (.int .i64 wn) rfl rfl (by kernel_rfl) (by kernel_rfl) (by kernel_rfl) (fun _ _ _ h => h) (Or.inl ⟨by rfl, ?_⟩) ⟨SV, SX⟩ ?_
    · intro w hSw
      obtain ⟨f0, f1⟩ := HF.out w hSw
      clear hSw
      go_simp
    try simp only [Act.put, List.setIfInBounds_toArray, List.set_cons_zero, List.set_cons_succ]
    have kS : ∀ o, (Wd.alloc o).heap[V]? = Wd.heap[V]? ∧ (Wd.alloc o).heap[x]? = Wd.heap[x]? := fun o => ⟨Below.heap_alloc Wd o V HSZ.out.1, Below.heap_alloc Wd o x HSZ.out.2.1⟩
    refine wpAnyH_ready (rs := [6]) (by kernel_rfl) (by simp) ?_
    refine AllReadyH.cons (i := 6) rfl (fun K hK => ?_) AllReadyH.nil
    go_simp
    refine hK.out _ _ (kS _) (fun _ => ?_)
    clear hK K
    try simp only [Act.put, List.setIfInBounds_toArray, List.set_cons_zero, List.set_cons_succ]
    refine wpAnyH_ready (rs := [7]) (by kernel_rfl) (by simp) ?_
    refine AllReadyH.cons (i := 7) rfl (fun K hK => ?_) AllReadyH.nil
    refine step_append_at rfl (.tmp 27) (.tmp 29) 84 rfl w'.heap.size 3 i3 _ 1 8 Tryz.underlying84 hi hz0 hz1 hz2 rfl (by decide) (.slice ga k1 gc) k1 (waysL k1) rfl (HO.out.alloc _) ⟨Wd.heap.size, 0, none⟩ 1 1 [.int .i64 wn] rfl rfl (fun j u hj => cell_alloc Wd _ 3 j u hj) (by simp [Value.oneCell']) (by have := HK.out; have := HK1.out; unfold maxLen; omega) (by have := HK.out; have := HK1.out; omega) (by have := HSZ.out; simp; omega) ?_
    intro v' w1 ho hg hbl
    obtain ⟨ua, um, uc, rfl⟩ := own_slice ho
    have hkV : w1.heap[V]? = Wd.heap[V]? := (hg.block V (by have := HSZ.out.1; simp; omega) (Ne.symm HD.out.1)).trans (kS _).1
    have hkX : w1.heap[x]? = Wd.heap[x]? := (hg.block x (by have := HSZ.out.2.1; simp; omega) (Ne.symm HD.out.2.1)).trans (kS _).2
    refine hK.out _ _ ⟨hkV, hkX⟩ (fun _ => ?_)
    clear hK K SV SX
    have HO1 := Lib.hid ho
    have HG1 := Lib.hid hg
    have HBL := Lib.hid hbl
    clear ho hg hbl kS
    have SV := hkV
    have SX := hkX
    clear hkV hkX
    try simp only [Act.put, List.setIfInBounds_toArray, List.set_cons_zero, List.set_cons_succ]
    refine take_at 8 (some 31) (.pointer (some ⟨x, 0, none⟩)) rfl rfl (by kernel_rfl) (by kernel_rfl) (by kernel_rfl) (fun _ _ _ h => h) (Or.inl ⟨by rfl, ?_⟩) ⟨SV, SX⟩ ?_
    · intro w hSw
      obtain ⟨f0, f1⟩ := HF.out w hSw
      clear hSw
      go_simp
    try simp only [Act.put, List.setIfInBounds_toArray, List.set_cons_zero, List.set_cons_succ]
    refine take_at 9 (some 32) (.pointer (some ⟨x, 3, none⟩)) rfl rfl (by kernel_rfl) (by kernel_rfl) (by kernel_rfl) (fun _ _ _ h => h) (Or.inl ⟨by rfl, ?_⟩) ⟨SV, SX⟩ ?_
    · intro w hSw
      obtain ⟨f0, f1⟩ := HF.out w hSw
      clear hSw
      go_simp
    try simp only [Act.put, List.setIfInBounds_toArray, List.set_cons_zero, List.set_cons_succ]
    refine wpAnyH_done (by kernel_rfl) ?_ _
    unfold ThenOp
    have c3 : w1.cell? ⟨x, 3, none⟩ = some (.slice ga k1 gc) := (HF.out w1 ⟨SV, SX⟩).2
    have f3 : w1.frozen? ⟨x, 3, none⟩ = false := by unfold World.frozen?; rw [SX, HX.out]; simp
    clear SV SX
    dsimp only
    go_simp
    have e1 := HK1.out
    have e2 := HWN.out
    subst e1
    subst e2
    have hfin := HNd.out.add HX.out HD.out (fun q hq => (HO.out.lt q hq).1) HO1.out HG1.out HBL.out
    exact ⟨hfin.1, fun q o a c => hfin.2 q o (HSD.out q o a c) c⟩
  · intro D W hD h hK
    dsimp only
    have cV : W.cell? ⟨V, 0, none⟩ = some (.pointer (some ⟨x, 0, none⟩)) := by rw [cell_in h.var]; rfl
    have HN := Lib.hid h
    have HKK := Lib.hid hK
    clear h hK HNEW HL HLT HI
    go_wp2_with fail
    show LeavesInM Fence.wide 9 Tryz.prog Tryz.f13 _ (NewMk l v t S (bu + 2) w') [{ target := .collected D, args := #[] }] .returning W
    unfold LeavesInM
    refine ⟨by simp, .inl ⟨_, _, rfl, run_takeDeferred HKK.out, ?_⟩⟩
    have hf : ∀ o : Obj, NewMk l v t S (bu + 2) w' (.returned (.pointer (some ⟨x, 0, none⟩))) (W.putObj D o) := fun o => by
      refine NewAt.mk' (V := V) (x := x) (mb := n2) (b := b) (HN.out.keep (W' := W.putObj D o) ?_ ?_) HB.out.1 hbu1
      · exact HN.out.below.trans ⟨rfl, rfl, rfl, by simp [World.putObj], fun q hq => World.putObj_heap_other (by omega)⟩
      · intro q c t hq
        exact (World.putObj_heap_other (fun e => by rw [e, HKK.out] at hq; cases hq)).trans hq
    refine ⟨_, results_tmp (t := 4) rfl _ _ _, ?_⟩
    exact hf _
end Go.Proofs.YtibelcmdfkgonaaGreat
