/- The document's device opened: plain parts.
   The document's device opened: its flush rows. No walk here.
   The document's device opened, walked.
   The document's memory: any access; a memory made.
   The document's memory made; accesses done again on it.
   Accesses done again on the document's memory, walked.
   Layer 38: the page's example. -/
import Derived.Test.YtpmjcinemabamaaK7
import Derived.Deep.RegionLaw
import Derived.Test.YtpmjcinemabamaaK5
namespace Go.Proofs.Ytpmjcinemabamaa
open Go.RowKit Go.BigFrame
set_option linter.unusedVariables false
set_option linter.unusedSimpArgs false

theorem mayOpen7 (n : Nat) (hn : n ≤ 9223372036854775807) (t : Int) (w : World) : Calls Try.prog 7 #[.int .i64 n, .int .i64 t] w (Says (.int .i64 (mayOpenE n t)) w) := by
  have e1 : (n : Int).tdiv 8 = (n : Int) / 8 := Int.tdiv_eq_ediv_of_nonneg (by omega)
  have e2 : (n : Int).tmod 8 = (n : Int) % 8 := Int.tmod_eq_emod_of_nonneg (by omega)
  by_cases h1 : t < 1
  · have d1 : decide (t < 1) = true := bool_yes h1
    rw [show mayOpenE n t = 1 by unfold mayOpenE; rw [if_pos (by omega)]]
    clear h1
    go_enter Try.func7, Try.ntmps7
    go_wp2_with fail
    go_ret
    exact ⟨rfl, rfl⟩
  · have d1 : decide (t < 1) = false := bool_no h1
    by_cases h2 : 64 < t
    · have d2 : decide (64 < t) = true := bool_yes h2
      rw [show mayOpenE n t = 1 by unfold mayOpenE; rw [if_pos (by omega)]]
      clear h1 h2
      go_enter Try.func7, Try.ntmps7
      go_wp2_with fail
      go_ret
      exact ⟨rfl, rfl⟩
    · have d2 : decide (64 < t) = false := bool_no h2
      have ht : 1 ≤ t ∧ t ≤ 64 := by omega
      by_cases h3 : (n : Int) % 8 = 0
      · have d3 : ((n : Int) % 8 != 0) = false := by simp [h3]
        by_cases h4 : 262144 < (n : Int) / 8
        · have d4 : decide (262144 < (n : Int) / 8) = true := bool_yes h4
          rw [show mayOpenE n t = 2 by simp [mayOpenE, wholeE, ht, h3, h4]]
          clear h1 h2 h3 h4 ht
          go_enter Try.func7, Try.ntmps7
          go_wp2_with fail
          go_ret
          exact ⟨rfl, rfl⟩
        · have d4 : decide (262144 < (n : Int) / 8) = false := bool_no h4
          by_cases h5 : n = 0
          · subst h5
            rw [show mayOpenE 0 t = 3 by simp [mayOpenE, wholeE, ht]]
            clear h1 h2 h3 h4 ht
            go_enter Try.func7, Try.ntmps7
            go_wp2_with fail
            go_ret
            exact ⟨rfl, rfl⟩
          · have d5 : ((n : Int) == 0) = false := by simp; omega
            have d6 : (n == 0) = false := by simp; omega
            rw [show mayOpenE n t = 0 by simp [mayOpenE, wholeE, ht, h3, h4, h5]]
            clear h1 h2 h3 h4 ht
            go_enter Try.func7, Try.ntmps7
            go_wp2_with fail
            go_ret
            exact ⟨rfl, rfl⟩
      · have d3 : ((n : Int) % 8 != 0) = true := by simp [h3]
        rw [show mayOpenE n t = 3 by simp [mayOpenE, wholeE, ht, h3]]
        clear h1 h2 h3 ht
        go_enter Try.func7, Try.ntmps7
        go_wp2_with fail
        go_ret
        exact ⟨rfl, rfl⟩
/-- A device of the document's, half way: D is its block; k words are kept, j are seen. -/
structure HalfAt (W0 wr : World) (D : Nat) (kv sv wv fv : Value) (k j : Nat) (f : Nat → Int) : Prop where
  row : wr.heap[D]? = some (.cells #[kv, sv, wv, fv] 40 (0, 0))
  kept : wr.ownsRow W0.heap.size 42 1 kv k (wordsL f k)
  seen : wr.ownsRow W0.heap.size 42 1 sv j (wordsL f j)
  base : W0.heap.size ≤ D
  n1 : kv.ownBlock ≠ some D
  n2 : sv.ownBlock ≠ some D
  n3 : ∀ g, kv.ownBlock = some g → sv.ownBlock ≠ some g
  below : Below W0.heap.size W0 wr
theorem wordsL_snoc (f : Nat → Int) (k : Nat) : wordsL f (k + 1) = wordsL f k ++ [.int .u64 (f k)] := by
  unfold wordsL; rw [List.range_succ, List.map_append]; rfl
theorem HalfAt.kept1 {W0 wr w1 : World} {D : Nat} {kv sv wv fv v' : Value} {k j : Nat} {f : Nat → Int} (h : HalfAt W0 wr D kv sv wv fv k j f) {w : World} (hb : Below wr.heap.size wr w) (ho : w1.ownsRow W0.heap.size 42 1 v' (k + 1) (wordsL f k ++ [.int .u64 (f k)])) (hg : w.grownBy w1 kv.ownBlock)
    (hv : v'.ownBlock = kv.ownBlock ∨ v'.ownBlock = some w.heap.size) : HalfAt W0 (w1.setCell ⟨D, 0, none⟩ v') D v' sv wv fv (k + 1) j f := by
  have hD := (Array.getElem?_eq_some_iff.1 h.row).1
  have s1 := hb.size
  have s2 := hg.size
  have kA : ∀ g, g < wr.heap.size → kv.ownBlock ≠ some g → w1.heap[g]? = wr.heap[g]? := fun g hl e => (hg.block g (by omega) (Ne.symm e)).trans (hb.block g hl)
  have ns : ∀ g, sv.ownBlock = some g → kv.ownBlock ≠ some g := fun g a b => h.n3 g b a
  refine ⟨?_, own_keep1 (by rw [wordsL_snoc]; exact ho) fun g e => heap_set_other fun e2 => ?_, own_keep1 h.seen fun g e => (heap_set_other fun (e2 : g = D) => h.n2 (e2 ▸ e)).trans (kA g (own_lt h.seen e).2 (ns g e)), h.base, ?_, h.n2, fun g e => ?_, ?_⟩
  · have := heap_set (j := 0) v' ((kA D hD h.n1).trans h.row)
    simpa using this
  · subst e2
    rcases hv with q | q
    · exact h.n1 (by rw [← q]; exact e)
    · rw [q] at e; cases e; omega
  · intro e
    rcases hv with q | q
    · exact h.n1 (by rw [← q]; exact e)
    · rw [q] at e; cases e; omega
  · rcases hv with q | q
    · exact h.n3 g (by rw [← q]; exact e)
    · rw [q] at e; cases e
      intro e2
      have := (own_lt h.seen e2).2; omega
  · exact ((h.below.trans (hb.mono h.below.size)).grown hg (by have := h.below.size; omega) (fun q e => (own_lt h.kept e).1)).setCell h.base _
theorem HalfAt.seen1 {W0 wr w1 : World} {D : Nat} {kv sv wv fv v' : Value} {k j : Nat} {f : Nat → Int} (h : HalfAt W0 wr D kv sv wv fv k j f) {w : World} (hb : Below wr.heap.size wr w) (ho : w1.ownsRow W0.heap.size 42 1 v' (j + 1) (wordsL f j ++ [.int .u64 (f j)])) (hg : w.grownBy w1 sv.ownBlock)
    (hv : v'.ownBlock = sv.ownBlock ∨ v'.ownBlock = some w.heap.size) : HalfAt W0 (w1.setCell ⟨D, 1, none⟩ v') D kv v' wv fv k (j + 1) f := by
  have hD := (Array.getElem?_eq_some_iff.1 h.row).1
  have s1 := hb.size
  have s2 := hg.size
  have kA : ∀ g, g < wr.heap.size → sv.ownBlock ≠ some g → w1.heap[g]? = wr.heap[g]? := fun g hl e => (hg.block g (by omega) (Ne.symm e)).trans (hb.block g hl)
  refine ⟨?_, own_keep1 h.kept fun g e => (heap_set_other fun (e2 : g = D) => h.n1 (e2 ▸ e)).trans (kA g (own_lt h.kept e).2 (h.n3 g e)), own_keep1 (by rw [wordsL_snoc]; exact ho) fun g e => heap_set_other fun e2 => ?_, h.base, h.n1, ?_, fun g e => ?_, ?_⟩
  · have := heap_set (j := 1) v' ((kA D hD h.n2).trans h.row)
    simpa using this
  · subst e2
    rcases hv with q | q
    · exact h.n2 (by rw [← q]; exact e)
    · rw [q] at e; cases e; omega
  · intro e
    rcases hv with q | q
    · exact h.n2 (by rw [← q]; exact e)
    · rw [q] at e; cases e; omega
  · rcases hv with q | q
    · rw [q]; exact h.n3 g e
    · rw [q]; intro e2; cases e2
      have := (own_lt h.kept e).2; omega
  · exact ((h.below.trans (hb.mono h.below.size)).grown hg (by have := h.below.size; omega) (fun q e => (own_lt h.seen e).1)).setCell h.base _
end Go.Proofs.Ytpmjcinemabamaa

namespace Go.Proofs.Ytpmjcinemabamaa
open Go.RowKit Go.BigFrame
set_option linter.unusedVariables false
set_option linter.unusedSimpArgs false

def rowsL (fg : Nat → Nat) (m k : Nat) : List Value := (List.range k).map fun i => .slice (some ⟨fg i, 0, none⟩) m m
theorem rowsL_snoc (fg : Nat → Nat) (m k : Nat) : rowsL fg m (k + 1) = rowsL fg m k ++ [.slice (some ⟨fg k, 0, none⟩) m m] := by
  unfold rowsL; rw [List.range_succ, List.map_append]; rfl
theorem rowsL_upd (fg : Nat → Nat) (m k q : Nat) : rowsL (upd fg k q) m k = rowsL fg m k := by
  unfold rowsL
  apply List.map_congr_left
  intro i hi
  rw [upd_ne _ _ (by have := List.mem_range.1 hi; omega)]
theorem rowsL_get (fg : Nat → Nat) (m k i : Nat) (h : i < k) : (rowsL fg m k)[i]? = some (.slice (some ⟨fg i, 0, none⟩) m m) := by
  unfold rowsL; rw [List.getElem?_map, List.getElem?_range h]; rfl
/-- A device of the document's, all but its flush rows. -/
structure Dev3 (W0 wr : World) (D kb sb wb c0 c1 : Nat) (fv : Value) (k m : Nat) (fg : Nat → Nat) (f : Nat → Int) : Prop where
  row : wr.heap[D]? = some (.cells #[.slice (some ⟨kb, 0, none⟩) (8 * m) c0, .slice (some ⟨sb, 0, none⟩) (8 * m) c1, .slice (some ⟨wb, 0, none⟩) m m, fv] 40 (0, 0))
  rk : RowAt wr kb (8 * m) fun k => .int .u64 (f k)
  rs : RowAt wr sb (8 * m) fun k => .int .u64 (f k)
  rw : RowAt wr wb m fun _ => .int .i64 0
  fl : wr.ownsRow W0.heap.size 88 1 fv k (rowsL fg m k)
  rf : ∀ i, i < k → RowAt wr (fg i) m fun _ => .bool false
  ap : [D, kb, sb, wb].Nodup
  a1 : ∀ i, i < k → fg i ∉ [D, kb, sb, wb]
  a2 : ∀ i, i < k → ∀ j, j < k → i ≠ j → fg i ≠ fg j
  a3 : ∀ g, fv.ownBlock = some g → g ∉ [D, kb, sb, wb] ∧ ∀ i, i < k → fg i ≠ g
  base : ∀ g, g ∈ [D, kb, sb, wb] → W0.heap.size ≤ g
  bf : ∀ i, i < k → W0.heap.size ≤ fg i
  below : Below W0.heap.size W0 wr
theorem Dev3.add {W0 wr w1 : World} {D kb sb wb c0 c1 : Nat} {fv v' : Value} {k m : Nat} {fg : Nat → Nat} {f : Nat → Int} (h : Dev3 W0 wr D kb sb wb c0 c1 fv k m fg f) {w : World} {q : Nat} (hb : Below wr.heap.size wr w) (hq : wr.heap.size ≤ q) (hr : RowAt w q m fun _ => .bool false)
    (ho : w1.ownsRow W0.heap.size 88 1 v' (k + 1) (rowsL fg m k ++ [.slice (some ⟨q, 0, none⟩) m m])) (hg : w.grownBy w1 fv.ownBlock) (hv : v'.ownBlock = fv.ownBlock ∨ v'.ownBlock = some w.heap.size) :
    Dev3 W0 (w1.setCell ⟨D, 3, none⟩ v') D kb sb wb c0 c1 v' (k + 1) m (upd fg k q) f := by
  have s1 := hb.size
  have s2 := hg.size
  have lq := hr.lt
  have s0 := h.below.size
  have hD := (Array.getElem?_eq_some_iff.1 h.row).1
  have nf : ∀ g, g ∈ [D, kb, sb, wb] → fv.ownBlock ≠ some g := fun g hg e => (h.a3 g e).1 hg
  have nfg : ∀ i, i < k → fv.ownBlock ≠ some (fg i) := fun i hi e => (h.a3 _ e).2 i hi rfl
  have kA : ∀ g, g < wr.heap.size → fv.ownBlock ≠ some g → w1.heap[g]? = wr.heap[g]? := fun g hl e => (hg.block g (by omega) (Ne.symm e)).trans (hb.block g hl)
  have kB : ∀ g, g < wr.heap.size → fv.ownBlock ≠ some g → g ≠ D → (w1.setCell ⟨D, 3, none⟩ v').heap[g]? = wr.heap[g]? := fun g hl e e2 => (heap_set_other e2).trans (kA g hl e)
  have nq : fv.ownBlock ≠ some q := fun e => by have := (own_lt h.fl e).2; omega
  have hqD : q ≠ D := by omega
  have ap := h.ap
  simp only [List.nodup_cons, List.mem_cons, List.not_mem_nil, or_false, not_or, List.nodup_nil, and_true, not_false_eq_true] at ap
  have lt : ∀ g, g ∈ [D, kb, sb, wb] → g < wr.heap.size := fun g hg => by
    simp only [List.mem_cons, List.not_mem_nil, or_false] at hg
    rcases hg with rfl | rfl | rfl | rfl
    · exact hD
    · exact h.rk.lt
    · exact h.rs.lt
    · exact h.rw.lt
  have nv : ∀ g, g < wr.heap.size → fv.ownBlock ≠ some g → v'.ownBlock ≠ some g := fun g hl e e2 => by
    rcases hv with r | r
    · exact e (by rw [← r]; exact e2)
    · rw [r] at e2; cases e2; omega
  have nvq : v'.ownBlock ≠ some q := fun e => by
    rcases hv with r | r
    · exact nq (by rw [← r]; exact e)
    · rw [r] at e; cases e; omega
  refine ⟨?_, h.rk.keep (kB _ h.rk.lt (nf _ (by simp)) (by omega)), h.rs.keep (kB _ h.rs.lt (nf _ (by simp)) (by omega)), h.rw.keep (kB _ h.rw.lt (nf _ (by simp)) (by omega)), ?_, ?_, h.ap, ?_, ?_, ?_, h.base, ?_, ?_⟩
  · have := heap_set (j := 3) v' ((kA D hD (nf _ (by simp))).trans h.row)
    simpa using this
  · rw [rowsL_snoc, rowsL_upd, upd_at]
    exact own_keep1 ho fun g e => heap_set_other fun e2 => nv D hD (nf _ (by simp)) (e2 ▸ e)
  · intro i hi
    by_cases e : i = k
    · rw [e, upd_at]
      exact hr.keep ((heap_set_other hqD).trans (hg.block q lq (Ne.symm nq)))
    · rw [upd_ne _ _ e]
      have hi : i < k := by omega
      exact (h.rf i hi).keep (kB _ (h.rf i hi).lt (nfg i hi) (fun e => h.a1 i hi (by rw [e]; simp)))
  · intro i hi
    by_cases e : i = k
    · rw [e, upd_at]; intro hm; have := lt q hm; omega
    · rw [upd_ne _ _ e]; exact h.a1 i (by omega)
  · intro i hi j hj hij
    by_cases e : i = k
    · rw [e, upd_at, upd_ne _ _ (by omega)]
      have := (h.rf j (by omega)).lt; omega
    · rw [upd_ne _ _ e]
      by_cases e' : j = k
      · rw [e', upd_at]; have := (h.rf i (by omega)).lt; omega
      · rw [upd_ne _ _ e']; exact h.a2 i (by omega) j (by omega) hij
  · intro g e
    refine ⟨fun hm => nv g (lt g hm) (nf g hm) e, fun i hi => ?_⟩
    by_cases e' : i = k
    · rw [e', upd_at]; intro e2; exact nvq (e2 ▸ e)
    · rw [upd_ne _ _ e']
      have hi : i < k := by omega
      intro e2
      exact nv (fg i) (h.rf i hi).lt (nfg i hi) (e2 ▸ e)
  · intro i hi
    by_cases e : i = k
    · rw [e, upd_at]; omega
    · rw [upd_ne _ _ e]; exact h.bf i (by omega)
  · exact ((h.below.trans (hb.mono s0)).grown hg (by omega) (fun q e => (own_lt h.fl e).1)).setCell (h.base D (by simp)) _
/-- The document's memory at its start. -/
def Rv.start (m d kb sb wb fb pb n nt np c0 c1 c3 : Nat) (fg : Nat → Nat) (f : Nat → Int) : Rv :=
  { m, d, kb, sb, wb, fb, pb, n, nt, np, c0, c1, c2 := n, c3, c4 := np, fg, fc := fun _ => n, kept := f, seen := f, pass := fun _ => 0, wr := fun _ => 0, fl := fun _ _ => false, ck := 0, bd := 0, la := ⟨0, 0, 0, 0, 0, false⟩, wm := 0 }
theorem ref_init (m d kb sb wb fb pb n nt np c0 c1 c3 : Nat) (fg : Nat → Nat) (f : Nat → Int) : Init (Rv.start m d kb sb wb fb pb n nt np c0 c1 c3 fg f) f n nt np :=
  ⟨rfl, rfl, rfl, fun _ _ => rfl, fun _ _ => rfl, fun _ _ => rfl, fun _ _ _ _ => rfl, rfl, rfl, rfl⟩
theorem ref_start {W0 W W' : World} {m d kb sb wb fb pb n nt np c0 c1 c3 : Nat} {fg : Nat → Nat} {f : Nat → Int} (h : Dev3 W0 W d kb sb wb c0 c1 (.slice (some ⟨fb, 0, none⟩) nt c3) nt n fg f) (he : ∀ g, g ∈ [d, kb, sb, wb, fb] ∨ (∃ t, t < nt ∧ fg t = g) → W'.heap[g]? = W.heap[g]?)
    (hm : m ∉ [d, kb, sb, wb, fb] ∧ ∀ t, t < nt → fg t ≠ m) (hp : pb ∉ [d, kb, sb, wb, fb] ∧ ∀ t, t < nt → fg t ≠ pb) (hmp : m ≠ pb)
    (hr : W'.heap[m]? = some (.cells #[.pointer (some ⟨d, 0, none⟩), .slice (some ⟨pb, 0, none⟩) np np, .int .i64 0, .int .i64 0, .int .i64 0, .int .i64 0, .int .i64 0, .int .u64 0, .int .u64 0, .bool false] 46 (0, 0))) (hpr : RowAt W' pb np fun _ => .int .u64 0) (n0 : 0 < n) (n1 : n ≤ 262144) (t0 : 0 < nt) (t1 : nt ≤ 64) (p1 : np ≤ 262144) :
    RefAt W' (Rv.start m d kb sb wb fb pb n nt np c0 c1 c3 fg f) := by
  have hfb := h.a3 fb rfl
  have ap := h.ap
  obtain ⟨g', cap', c, e1, hb, hg, hc1, hcs, hcc⟩ := own_row h.fl t0
  cases e1
  simp only [List.nodup_cons, List.mem_cons, List.not_mem_nil, or_false, not_or, List.nodup_nil, and_true, not_false_eq_true] at ap
  have hm1 := hm.1
  have hp1 := hp.1
  have hf1 := hfb.1
  simp only [List.mem_cons, List.not_mem_nil, or_false, not_or] at hm1 hp1 hf1
  refine ⟨hr, (he d (Or.inl (by simp))).trans h.row, h.rk.keep (he kb (Or.inl (by simp))), h.rs.keep (he sb (Or.inl (by simp))), h.rw.keep (he wb (Or.inl (by simp))), ?_, hpr, fun t ht => (h.rf t ht).keep (he _ (Or.inr ⟨t, ht, rfl⟩)), ?_, fun t ht => ?_, h.a2, n0, n1, t1, p1, Int.le_refl _, Int.le_refl _, Int.le_refl _, fun k _ => ⟨Int.le_refl _, Int.le_refl _⟩⟩
  · exact ⟨c, 88, (he fb (Or.inl (by simp))).trans hg, fun k hk => by rw [hcc k (by show k < nt * 1; have : k < nt := hk; omega)]; exact rowsL_get fg n nt k hk⟩
  · show [m, d, kb, sb, wb, fb, pb].Nodup
    obtain ⟨p1, p2, p3, p4, p5⟩ := hm1
    obtain ⟨r1, r2, r3, r4, r5⟩ := hp1
    obtain ⟨s1, s2, s3, s4⟩ := hf1
    obtain ⟨⟨u1, u2, u3⟩, ⟨u4, u5⟩, u6⟩ := ap
    simp only [List.nodup_cons, List.mem_cons, List.not_mem_nil, or_false, not_or, List.nodup_nil, and_true, not_false_eq_true]
    exact ⟨⟨p1, p2, p3, p4, p5, hmp⟩, ⟨u1, u2, u3, Ne.symm s1, Ne.symm r1⟩, ⟨u4, u5, Ne.symm s2, Ne.symm r2⟩, ⟨u6, Ne.symm s3, Ne.symm r3⟩, ⟨Ne.symm s4, Ne.symm r4⟩, Ne.symm r5⟩
  · have a := h.a1 t ht
    have b := hm.2 t ht
    have c := hp.2 t ht
    have e := hfb.2 t ht
    show fg t ∉ [m, d, kb, sb, wb, fb, pb]
    simp only [List.mem_cons, List.not_mem_nil, or_false, not_or] at a ⊢
    exact ⟨b, a.1, a.2.1, a.2.2.1, a.2.2.2, e, c⟩
end Go.Proofs.Ytpmjcinemabamaa

namespace Go.Proofs.Ytpmjcinemabamaa
open Go.RowKit Go.BigFrame
set_option linter.unusedVariables false
set_option linter.unusedSimpArgs false

/-- The document's device opened. -/
def ROpen (W0 : World) (m nt : Nat) (f : Nat → Int) (e : Ending) (W' : World) : Prop :=
  ∃ d kb sb wb fb c0 c1 c3 fg, e = .returned (.pointer (some ⟨d, 0, none⟩)) ∧ Dev3 W0 W' d kb sb wb c0 c1 (.slice (some ⟨fb, 0, none⟩) nt c3) nt m fg f
theorem row4 {W : World} {b : Nat} {k0 k1 k2 k3 : Value} {t : TypeId} (h : W.heap[b]? = some (.cells #[k0, k1, k2, k3] t (0, 0))) :
    W.cell? ⟨b, 0, none⟩ = some k0 ∧ W.cell? ⟨b, 1, none⟩ = some k1 ∧ W.cell? ⟨b, 2, none⟩ = some k2 ∧ W.cell? ⟨b, 3, none⟩ = some k3 ∧ ∀ j, W.frozen? ⟨b, j, none⟩ = false := by
  refine ⟨?_, ?_, ?_, ?_, fun j => ?_⟩
  all_goals first | (rw [cell_of_row _ _ _ _ _ _ h]; rfl) | (unfold World.frozen?; rw [h]; simp)
theorem info4 : (Try.prog.info? 4).map (fun i => (i.zero, i.size, i.bytes)) = some (some (.bool false), 1, 1) := by kernel_rfl
theorem info88 : (Try.prog.info? 88).map (fun i => (i.zero, i.size, i.bytes)) = some (some (.slice none 0 0), 1, 24) := by kernel_rfl
theorem dev3_start {W0 wr : World} {D m : Nat} {kv sv : Value} {f : Nat → Int} (hm : 0 < m) (h : HalfAt W0 wr D kv sv (.slice none 0 0) (.slice none 0 0) (8 * m) (8 * m) f) (fg : Nat → Nat) :
    ∃ kb sb c0 c1, Dev3 W0 ((wr.alloc (.cells (madeCells #[.int .i64 0] m) 3)).setCell ⟨D, 2, none⟩ (.slice (some ⟨wr.heap.size, 0, none⟩) m m)) D kb sb wr.heap.size c0 c1 (.slice none 0 0) 0 m fg f := by
  obtain ⟨kb, c0, c, rfl, b1, g1, _, _, x1⟩ := own_row h.kept (by omega)
  obtain ⟨sb, c1, c', rfl, b2, g2, _, _, x2⟩ := own_row h.seen (by omega)
  have hD := (Array.getElem?_eq_some_iff.1 h.row).1
  have l1 := (Array.getElem?_eq_some_iff.1 g1).1
  have l2 := (Array.getElem?_eq_some_iff.1 g2).1
  have s0 := h.below.size
  have n1 : kb ≠ D := fun e => h.n1 (by rw [e]; rfl)
  have n2 : sb ≠ D := fun e => h.n2 (by rw [e]; rfl)
  have n3 : kb ≠ sb := fun e => h.n3 kb rfl (by rw [e]; rfl)
  have k : ∀ g, g < wr.heap.size → g ≠ D → ((wr.alloc (.cells (madeCells #[.int .i64 0] m) 3)).setCell ⟨D, 2, none⟩ (.slice (some ⟨wr.heap.size, 0, none⟩) m m)).heap[g]? = wr.heap[g]? := fun g hg e => (heap_set_other e).trans (Below.heap_alloc _ _ _ hg)
  refine ⟨kb, sb, c0, c1, ?_, RowAt.keep ⟨c, 42, g1, fun j hj => by rw [x1 j (by omega)]; exact wordsL_get f _ j hj⟩ (k kb l1 n1), RowAt.keep ⟨c', 42, g2, fun j hj => by rw [x2 j (by omega)]; exact wordsL_get f _ j hj⟩ (k sb l2 n2), ⟨_, 3, (heap_set_other (by omega)).trans (heap_alloc_new wr _), fun j hj => made_get _ _ _ hj⟩, World.ownsRow_nil _ _ _ _, fun i hi => absurd hi (by omega), ?_, fun i hi => absurd hi (by omega), fun i hi => absurd hi (by omega), (fun g e => by cases e), ?_, fun i hi => absurd hi (by omega), ?_⟩
  · have := heap_set (j := 2) (.slice (some ⟨wr.heap.size, 0, none⟩) m m) ((Below.heap_alloc wr (.cells (madeCells #[.int .i64 0] m) 3) D hD).trans h.row)
    simpa using this
  · simp only [List.nodup_cons, List.mem_cons, List.not_mem_nil, or_false, not_or, List.nodup_nil, and_true, not_false_eq_true]
    exact ⟨⟨Ne.symm n1, Ne.symm n2, by omega⟩, ⟨n3, by omega⟩, by omega⟩
  · intro g hg
    simp only [List.mem_cons, List.not_mem_nil, or_false] at hg
    have := h.base
    rcases hg with rfl | rfl | rfl | rfl <;> omega
  · exact (h.below.alloc s0 _).setCell h.base _
set_option maxRecDepth 100000 in
set_option maxHeartbeats 4000000 in
theorem refOpen25 (a : Option Addr) (b off m cap nt : Nat) (ha : a = some ⟨b, off, none⟩) (hm0 : 0 < m) (hm1 : m ≤ 262144) (ht0 : 0 < nt) (ht1 : nt ≤ 64) (f : Nat → Int) (W0 : World) (hb : b < W0.heap.size) (hw : ∀ j, j < 8 * m → W0.cell? ⟨b, off + j, none⟩ = some (.int .u64 (f j))) :
    Calls Try.prog 25 #[.slice a (8 * m) cap, .int .i64 nt] W0 (ROpen W0 m nt f) := by
  subst ha
  obtain ⟨i42, hi, hz0, hz1, hz2⟩ := info_parts info42
  have HB := Lib.hid hb
  have HW := Lib.hid hw
  have HM := Lib.hid (And.intro hm0 hm1)
  clear hb hw
  obtain ⟨n, hn⟩ : ∃ n, n = 8 * m := ⟨_, rfl⟩
  have hn1 : n ≤ 2097152 := by omega
  have hn8 : ((n : Int)).tdiv 8 = (m : Int) := by rw [Int.tdiv_eq_ediv_of_nonneg (by omega)]; omega
  have hn9 : (n : Int) / 8 = (m : Int) := by omega
  rw [← hn] at HW ⊢
  have HN := Lib.hid hn
  clear hn
  go_enter Try.func25, Try.ntmps25
  go_wp2_with fail
  obtain ⟨D, hD⟩ : ∃ D, D = W0.heap.size := ⟨_, rfl⟩
  rw [← hD]
  have HD := Lib.hid hD
  clear hD
  go_loopw [6] (fun i wr => ∃ (k : Nat) (kv sv : Value), k ≤ n ∧ i = .int .i64 k ∧ Hid (HalfAt W0 wr D kv sv (.slice none 0 0) (.slice none 0 0) k k f)) (fun i _ => n - (intOf i).toNat)
  case atStart => exact ⟨0, _, _, Nat.zero_le _, rfl, Lib.hid ⟨by rw [HD.out]; exact heap_alloc_new _ _, World.ownsRow_nil _ _ _ _, World.ownsRow_nil _ _ _ _, by rw [HD.out]; exact Nat.le_refl _, (by intro e; cases e), (by intro e; cases e), (by intro g e; cases e), (Below.refl _ _).alloc (Nat.le_refl _) _⟩⟩
  case round =>
    obtain ⟨k, kv, sv, hk, rfl, HH⟩ := hrel
    by_cases hlt : k < n
    · have e1 : decide ((k : Int) < (n : Int)) = true := bool_yes (by omega)
      have i0 : (0 : Int) ≤ (k : Int) := by omega
      have i1 : (k : Int) < (n : Int) := by omega
      obtain ⟨ka, km, kc, rfl⟩ := own_slice HH.out.kept
      obtain ⟨sa, sm, sc, rfl⟩ := own_slice HH.out.seen
      obtain ⟨y0, y1, y2, y3, yf⟩ := row4 HH.out.row
      have z0 : wr.cell? ⟨b, off + k, none⟩ = some (.int .u64 (f k)) := (HH.out.below.cell (p := ⟨b, off + k, none⟩) HB.out).trans (HW.out k hlt)
      have HBW : Hid (W0.heap.size ≤ wr.heap.size) := Lib.hid HH.out.below.size
      have HDW : Hid (D < wr.heap.size) := Lib.hid (Array.getElem?_eq_some_iff.1 HH.out.row).1
      have HVK : Hid (f k = f k) := Lib.hid rfl
      have HBL0 : Hid (b < wr.heap.size) := Lib.hid (Nat.lt_of_lt_of_le HB.out HH.out.below.size)
      obtain ⟨v, hv⟩ : ∃ v, v = f k := ⟨_, rfl⟩
      rw [← hv] at z0
      have HV := Lib.hid hv
      clear hv HVK
      have p1 : wr.heap.size ≠ D := by have := HDW.out; omega
      have p2 : D ≠ wr.heap.size := Ne.symm p1
      have p3 : wr.heap.size ≠ b := by have := HBL0.out; omega
      have p4 : b ≠ wr.heap.size := Ne.symm p3
      have p5 : ∀ o, (wr.alloc o).cell? ⟨D, 0, none⟩ = some (.slice ka km kc) := fun o => (cell_of_heap (Below.heap_alloc wr o D HDW.out) 0).trans y0
      go_wp2_with fail
      go_region_law ((refine step_append_at rfl (.tmp 20) (.tmp 25) 22 rfl W0.heap.size 42 i42 _ 1 8 Try.underlying22 hi hz0 hz1 hz2 rfl (by decide) (.slice ka km kc) k _ rfl (by first | exact (HH.out.kept.alloc _).drew | exact HH.out.kept.drew.alloc _) ⟨wr.heap.size, 0, none⟩ 1 1 [.int .u64 v] rfl rfl (fun j u hj => by first | exact cell_alloc wr _ 42 j u hj) (by simp [Value.oneCell']) (by unfold maxLen; omega) (by omega) (by have := HBW.out; simp; omega) ?_; intro v' w1 ho hg hbl; obtain ⟨va, vm, vc, rfl⟩ := own_slice ho; have hk1 : w1.heap[D]? = wr.heap[D]? := (hg.block D (by have := HDW.out; simp; omega) (Ne.symm HH.out.n1)).trans (Below.heap_alloc _ _ _ (HDW.out)); have g0 : w1.cell? ⟨D, 0, none⟩ = some ((.slice ka km kc)) := (cell_of_heap hk1 0).trans y0; have g1 : w1.frozen? ⟨D, 0, none⟩ = false := (frozen_of_heap hk1 0).trans (yf 0); have gz : w1.cell? ⟨b, off + k, none⟩ = some (.int .u64 v) := (cell_of_heap ((hg.block b (by have := HBL0.out; simp; omega) (fun e => by have := (own_lt HH.out.kept e.symm).1; have := HB.out; omega)).trans (Below.heap_alloc _ _ _ (by have := HBL0.out; simp; omega))) _).trans z0; have HO := Lib.hid ho; have HG := Lib.hid hg; have HBL := Lib.hid hbl; clear ho hg hbl hk1))
      all_goals
        go_wp2_with fail
        have HMID := Lib.hid (HH.out.kept1 (w := (wr.alloc (.cells #[.int .u64 v] 42)).drew) (((Below.refl _ _).alloc (Nat.le_refl _) _).drew) (by rw [← HV.out]; exact HO.out) HG.out HBL.out)
        clear y0 y1 y2 y3 yf z0 g0 g1 gz p1 p2 p3 p4 p5 HO HG HBL HH HBW HDW HBL0
        obtain ⟨W2, hW2⟩ : ∃ W2, W2 = w1.setCell ⟨D, 0, none⟩ (.slice va vm vc) := ⟨_, rfl⟩
        rw [← hW2] at HMID ⊢
        clear hW2
        obtain ⟨y0, y1, y2, y3, yf⟩ := row4 HMID.out.row
        have z0 : W2.cell? ⟨b, off + k, none⟩ = some (.int .u64 v) := (HMID.out.below.cell (p := ⟨b, off + k, none⟩) HB.out).trans (by rw [HV.out]; exact HW.out k hlt)
        have HBW : Hid (W0.heap.size ≤ W2.heap.size) := Lib.hid HMID.out.below.size
        have HDW : Hid (D < W2.heap.size) := Lib.hid (Array.getElem?_eq_some_iff.1 HMID.out.row).1
        have HBL0 : Hid (b < W2.heap.size) := Lib.hid (Nat.lt_of_lt_of_le HB.out HMID.out.below.size)
        have p1 : W2.heap.size ≠ D := by have := HDW.out; omega
        have p2 : D ≠ W2.heap.size := Ne.symm p1
        have p3 : W2.heap.size ≠ b := by have := HBL0.out; omega
        have p4 : b ≠ W2.heap.size := Ne.symm p3
        have p5 : ∀ o, (W2.alloc o).cell? ⟨D, 1, none⟩ = some (.slice sa sm sc) := fun o => (cell_of_heap (Below.heap_alloc W2 o D HDW.out) 1).trans y1
        go_region_law ((refine step_append_at rfl (.tmp 33) (.tmp 38) 22 rfl W0.heap.size 42 i42 _ 1 8 Try.underlying22 hi hz0 hz1 hz2 rfl (by decide) (.slice sa sm sc) k _ rfl (by first | exact (HMID.out.seen.alloc _).drew | exact HMID.out.seen.drew.alloc _) ⟨W2.heap.size, 0, none⟩ 1 1 [.int .u64 v] rfl rfl (fun j u hj => by first | exact cell_alloc W2 _ 42 j u hj) (by simp [Value.oneCell']) (by unfold maxLen; omega) (by omega) (by have := HBW.out; simp; omega) ?_; intro v' w1 ho hg hbl; obtain ⟨va, vm, vc, rfl⟩ := own_slice ho; have hk1 : w1.heap[D]? = W2.heap[D]? := (hg.block D (by have := HDW.out; simp; omega) (Ne.symm HMID.out.n2)).trans (Below.heap_alloc _ _ _ (HDW.out)); have g0 : w1.cell? ⟨D, 1, none⟩ = some ((.slice sa sm sc)) := (cell_of_heap hk1 1).trans y1; have g1 : w1.frozen? ⟨D, 1, none⟩ = false := (frozen_of_heap hk1 1).trans (yf 1); have gz : w1.cell? ⟨b, off + k, none⟩ = some (.int .u64 v) := (cell_of_heap ((hg.block b (by have := HBL0.out; simp; omega) (fun e => by have := (own_lt HMID.out.seen e.symm).1; have := HB.out; omega)).trans (Below.heap_alloc _ _ _ (by have := HBL0.out; simp; omega))) _).trans z0; have HO := Lib.hid ho; have HG := Lib.hid hg; have HBL := Lib.hid hbl; clear ho hg hbl hk1))
      all_goals
        go_wp2_with fail
        have HFIN := Lib.hid (HMID.out.seen1 (w := (W2.alloc (.cells #[.int .u64 v] 42)).drew) (((Below.refl _ _).alloc (Nat.le_refl _) _).drew) (by rw [← HV.out]; exact HO.out) HG.out HBL.out)
        clear y0 y1 y2 y3 yf z0 g0 g1 gz p1 p2 p3 p4 p5
        go_roundw
        case rel => exact ⟨k + 1, _, _, by omega, by go_num, HFIN⟩
        case measure => simp [intOf]; omega
    · obtain rfl : k = n := by omega
      have e1 : decide ((k : Int) < (k : Int)) = false := by simp
      have mk1 := mk_row 37 3 _ _ 8 Try.underlying37 info3 rfl m (by omega) (by omega)
      have mk2 := mk_row 88 4 _ _ 1 Try.underlying88 info4 rfl m (by omega) (by omega)
      obtain ⟨y0, y1, y2, y3, yf⟩ := row4 HH.out.row
      have HDW : Hid (D < wr.heap.size) := Lib.hid (Array.getElem?_eq_some_iff.1 HH.out.row).1
      have p1 : wr.heap.size ≠ D := by have := HDW.out; omega
      have p2 : D ≠ wr.heap.size := Ne.symm p1
      have m0 : (0 : Int) ≤ (m : Int) := by omega
      have p7 : ∀ o, (wr.alloc o).cell? ⟨D, 2, none⟩ = some (.slice none 0 0) := fun o => (cell_of_heap (Below.heap_alloc wr o D HDW.out) 2).trans y2
      have p8 : ∀ o, (wr.alloc o).frozen? ⟨D, 2, none⟩ = false := fun o => (frozen_of_heap (Below.heap_alloc wr o D HDW.out) 2).trans (yf 2)
      have HST := Lib.hid (dev3_start (f := f) HM.out.1 (by rw [← HN.out]; exact HH.out) (fun _ => 0))
      go_wp2_with fail
      obtain ⟨kb, sb, c0, c1, hst⟩ := HST.out
      obtain ⟨wb, hwb⟩ : ∃ wb, wb = wr.heap.size := ⟨_, rfl⟩
      rw [← hwb] at hst ⊢
      obtain ⟨W3, hW3⟩ : ∃ W3, W3 = (wr.alloc (.cells (madeCells #[.int .i64 0] m) 3)).setCell ⟨D, 2, none⟩ (.slice (some ⟨wb, 0, none⟩) m m) := ⟨_, rfl⟩
      rw [← hW3] at hst ⊢
      have HS3 := Lib.hid hst
      clear hst hW3 hwb y0 y1 y2 y3 yf p1 p2 p7 p8 HST HH HDW mk1
      obtain ⟨i88, hi', hz0', hz1', hz2'⟩ := info_parts info88
      go_loopw [7] (fun i wr => ∃ (q : Nat) (fv : Value) (fg : Nat → Nat), q ≤ nt ∧ i = .int .i64 q ∧ Hid (Dev3 W0 wr D kb sb wb c0 c1 fv q m fg f)) (fun i _ => nt - (intOf i).toNat)
      case atStart => exact ⟨0, _, _, Nat.zero_le _, rfl, HS3⟩
      case round =>
        obtain ⟨q, fv, fg, hq, rfl, HQ⟩ := hrel
        obtain ⟨fa, fm, fc, rfl⟩ := own_slice HQ.out.fl
        by_cases hlt : q < nt
        · have e2 : decide ((q : Int) < (nt : Int)) = true := bool_yes (by omega)
          obtain ⟨y0, y1, y2, y3, yf⟩ := row4 HQ.out.row
          have HDW : Hid (D < wr.heap.size) := Lib.hid (Array.getElem?_eq_some_iff.1 HQ.out.row).1
          have HBW : Hid (W0.heap.size ≤ wr.heap.size) := Lib.hid HQ.out.below.size
          have p1 : wr.heap.size ≠ D := by have := HDW.out; omega
          have p2 : D ≠ wr.heap.size := Ne.symm p1
          have p5 : ∀ o, (wr.alloc o).cell? ⟨D, 3, none⟩ = some (.slice fa fm fc) := fun o => (cell_of_heap (Below.heap_alloc wr o D HDW.out) 3).trans y3
          have p6 : ∀ o o', ((wr.alloc o).alloc o').cell? ⟨D, 3, none⟩ = some (.slice fa fm fc) := fun o o' => (cell_of_heap ((Below.heap_alloc _ o' D (by have := HDW.out; simp; omega)).trans (Below.heap_alloc wr o D HDW.out)) 3).trans y3
          have HNF : Hid ((Value.slice fa fm fc).ownBlock ≠ some D) := Lib.hid fun e => (HQ.out.a3 D e).1 (by simp)
          have mw : IntKind.i64.wrap (m : Int) = (m : Int) := IntWalk.i64_in _ (by omega)
          go_wp2_with fail
          go_region_law ((refine step_append_at rfl (.tmp 58) (.tmp 63) 38 rfl W0.heap.size 88 i88 _ 1 24 Try.underlying38 hi' hz0' hz1' hz2' rfl (by decide) (.slice fa fm fc) q _ rfl (by first | exact ((HQ.out.fl.alloc _).alloc _).drew) ⟨wr.heap.size + 1, 0, none⟩ 1 1 [.slice (some ⟨wr.heap.size, 0, none⟩) m m] rfl rfl (fun j u hj => by have := cell_alloc (wr.alloc (.cells (madeCells #[.bool false] m) 4)) #[.slice (some ⟨wr.heap.size, 0, none⟩) m m] 88 j u hj; simpa using this) (by simp [Value.oneCell']) (by unfold maxLen; omega) (by omega) (by have := HBW.out; simp; omega) ?_; intro v' w1 ho hg hbl; obtain ⟨va, vm, vc, rfl⟩ := own_slice ho; have hk1 : w1.heap[D]? = wr.heap[D]? := (hg.block D (by have := HDW.out; simp; omega) (Ne.symm HNF.out)).trans ((Below.heap_alloc _ _ _ (by have := HDW.out; simp; omega)).trans (Below.heap_alloc _ _ _ HDW.out)); have g0 : w1.cell? ⟨D, 3, none⟩ = some (.slice fa fm fc) := (cell_of_heap hk1 3).trans y3; have g1 : w1.frozen? ⟨D, 3, none⟩ = false := (frozen_of_heap hk1 3).trans (yf 3); have HO := Lib.hid ho; have HG := Lib.hid hg; have HBL := Lib.hid hbl; clear ho hg hbl hk1))
          all_goals
            go_wp2_with fail
            have HFIN := Lib.hid (HQ.out.add (w := ((wr.alloc (.cells (madeCells #[.bool false] m) 4)).alloc (.cells #[.slice (some ⟨wr.heap.size, 0, none⟩) m m] 88)).drew) (q := wr.heap.size) ((((Below.refl _ _).alloc (Nat.le_refl _) _).alloc (by simp) _).drew) (Nat.le_refl _) ⟨_, 4, (two_new wr _ _).1, fun j hj => made_get _ _ _ hj⟩ HO.out HG.out HBL.out)
            clear y0 y1 y2 y3 yf g0 g1 p1 p2 p5 p6
            go_roundw
            case rel => exact ⟨q + 1, _, _, by omega, by go_num, HFIN⟩
            case measure => simp [intOf]; omega
        · obtain rfl : q = nt := by omega
          have e2 : decide ((q : Int) < (q : Int)) = false := by simp
          obtain ⟨fb, c3, c, hfv, -⟩ := own_row HQ.out.fl ht0
          rw [hfv] at HQ
          clear hfv
          go_wp2_with fail
          go_ret
          exact ⟨D, kb, sb, wb, fb, c0, c1, c3, fg, rfl, HQ.out⟩
end Go.Proofs.Ytpmjcinemabamaa

namespace Go.Proofs.Ytpmjcinemabamaa
open Go.RowKit Go.BigFrame
set_option linter.unusedVariables false
set_option linter.unusedSimpArgs false

theorem rpeek_no {M : Rv} {at_ : Int} (h : (M.peek at_).2 = false) : (M.peek at_).1 = 0 := by
  unfold Rv.peek peekV at *
  by_cases h0 : 0 ≤ at_ <;> by_cases h1 : at_ / 8 < (M.n : Int) <;> by_cases h2 : -1 - at_ < (M.np : Int) <;> simp [h0, h1, h2] at h ⊢
theorem rpeek_in {M : Rv} {at_ : Int} (h : (M.peek at_).2 = true) : (0 ≤ at_ ∧ at_.toNat < 8 * M.n) ∨ (¬ 0 ≤ at_ ∧ (-1 - at_).toNat < M.np ∧ at_ = -1 - ((-1 - at_).toNat : Int)) := by
  unfold Rv.peek peekV at h
  by_cases h0 : 0 ≤ at_
  · rw [if_pos h0] at h
    by_cases h1 : at_ / 8 < (M.n : Int)
    · exact Or.inl ⟨h0, by omega⟩
    · rw [if_neg h1] at h; cases h
  · rw [if_neg h0] at h
    by_cases h1 : -1 - at_ < (M.np : Int)
    · exact Or.inr ⟨h0, by omega, by omega⟩
    · rw [if_neg h1] at h; cases h
theorem refDo26_load (M : Rv) (t at_ old w : Int) (q0 : -9223372036854775808 ≤ at_) (q1 : at_ ≤ 9223372036854775807) (W : World) (h : RefAt W M) (hc : M.ck ≤ 1000000) :
    Calls Try.prog 26 #[.pointer (some ⟨M.m, 0, none⟩), .int .i64 1, .int .i64 t, .int .i64 at_, .int .u64 old, .int .u64 w] W (RAcc M (M.load t at_) W) := by
  unfold Rv.load Rv.did Rv.res
  cases hp : (M.peek at_).2 with
  | true =>
    have := refLoad_true M t at_ old w q0 q1 W h hc (M.peek at_).1 (Prod.ext rfl hp)
    simpa [hp] using this
  | false =>
    have e := rpeek_no hp
    have := refLoad_false M t at_ old w q0 q1 W h hc 0 (Prod.ext e hp)
    simpa [hp] using this
theorem refDo26_store (M : Rv) (t at_ old w : Int) (q0 : -9223372036854775808 ≤ at_) (q1 : at_ ≤ 9223372036854775807) (W : World) (h : RefAt W M) (hc : M.ck ≤ 1000000) :
    Calls Try.prog 26 #[.pointer (some ⟨M.m, 0, none⟩), .int .i64 2, .int .i64 t, .int .i64 at_, .int .u64 old, .int .u64 w] W (RAcc M (M.store t at_ w) W) := by
  unfold Rv.store Rv.did Rv.res
  cases hp : (M.peek at_).2 with
  | true =>
    rcases rpeek_in hp with ⟨h0, h1⟩ | ⟨h0, h1, h2⟩
    · obtain ⟨k, rfl⟩ := Int.eq_ofNat_of_zero_le h0
      have := refStore_seen M t old w k W h hc (M.peek (k : Int)).1 (Prod.ext rfl hp) h1
      simpa [hp, Rv.put] using this
    · obtain ⟨k, hk⟩ : ∃ k, k = (-1 - at_).toNat := ⟨_, rfl⟩
      rw [← hk] at h1 h2
      subst h2
      have := refStore_pass M t old w k W h hc (M.peek (-1 - (k : Int))).1 (Prod.ext rfl hp) h1
      have e : (-1 - (-1 - (k : Int))).toNat = k := by omega
      have h9 : ¬ ((k : Int) ≤ -1) := by omega
      simpa [hp, Rv.put, h9, e] using this
  | false =>
    have e := rpeek_no hp
    have := refStore_bad M t at_ old w q0 q1 W h hc 0 (Prod.ext e hp)
    simpa [hp] using this
theorem refDo26_swap (M : Rv) (t at_ old w : Int) (q0 : -9223372036854775808 ≤ at_) (q1 : at_ ≤ 9223372036854775807) (W : World) (h : RefAt W M) (hc : M.ck ≤ 1000000) :
    Calls Try.prog 26 #[.pointer (some ⟨M.m, 0, none⟩), .int .i64 3, .int .i64 t, .int .i64 at_, .int .u64 old, .int .u64 w] W (RAcc M (M.swap t at_ old w) W) := by
  unfold Rv.swap Rv.did Rv.res
  cases hp : (M.peek at_).2 with
  | true =>
    cases he : ((M.peek at_).1 == old) with
    | true =>
      rcases rpeek_in hp with ⟨h0, h1⟩ | ⟨h0, h1, h2⟩
      · obtain ⟨k, rfl⟩ := Int.eq_ofNat_of_zero_le h0
        have := refSwap_seen M t old w k W h hc (M.peek (k : Int)).1 (Prod.ext rfl hp) h1 he
        simpa [hp, he, Rv.put] using this
      · obtain ⟨k, hk⟩ : ∃ k, k = (-1 - at_).toNat := ⟨_, rfl⟩
        rw [← hk] at h1 h2
        subst h2
        have := refSwap_pass M t old w k W h hc (M.peek (-1 - (k : Int))).1 (Prod.ext rfl hp) h1 he
        have e : (-1 - (-1 - (k : Int))).toNat = k := by omega
        have h9 : ¬ ((k : Int) ≤ -1) := by omega
        simpa [hp, he, Rv.put, h9, e] using this
    | false =>
      have := refSwap_no M t at_ old w q0 q1 W h hc (M.peek at_).1 (Prod.ext rfl hp) he
      simpa [hp, he] using this
  | false =>
    have e := rpeek_no hp
    have := refSwap_bad M t at_ old w q0 q1 W h hc 0 (Prod.ext e hp)
    simpa [hp] using this
theorem refDo26_flush (M : Rv) (t at_ old w : Int) (q0 : -9223372036854775808 ≤ at_) (q1 : at_ ≤ 9223372036854775807) (W : World) (h : RefAt W M) (hc : M.ck ≤ 1000000) :
    Calls Try.prog 26 #[.pointer (some ⟨M.m, 0, none⟩), .int .i64 4, .int .i64 t, .int .i64 at_, .int .u64 old, .int .u64 w] W (RAcc M (M.flushM t at_) W) := by
  unfold Rv.flushM
  by_cases h0 : 0 ≤ at_
  · by_cases hE : M.flushE t (at_ / 8) = 0
    · rw [if_pos ⟨h0, hE⟩]
      exact refFlush_yes M t at_ old w q0 q1 W h hc _ _ rfl h0 hE
    · rw [if_neg (fun c => hE c.2)]
      exact refFlush_no M t at_ old w q0 q1 W h hc _ _ rfl h0 hE
  · rw [if_neg (fun c => h0 c.1)]
    exact refFlush_neg M t at_ old w q0 q1 W h hc _ _ rfl (by omega)
theorem refDo26_fence (M : Rv) (t at_ old w : Int) (q0 : -9223372036854775808 ≤ at_) (q1 : at_ ≤ 9223372036854775807) (W : World) (h : RefAt W M) (hc : M.ck ≤ 1000000) (hw : M.wm ≤ 999999) :
    Calls Try.prog 26 #[.pointer (some ⟨M.m, 0, none⟩), .int .i64 5, .int .i64 t, .int .i64 at_, .int .u64 old, .int .u64 w] W (RAcc M (M.fenceM t) W) := by
  unfold Rv.fenceM
  by_cases hE : threadE M.nt t = 0
  · rw [if_pos hE]
    have ht : 0 ≤ t ∧ t < M.nt := by unfold threadE at hE; split at hE; cases hE; omega
    obtain ⟨k, rfl⟩ := Int.eq_ofNat_of_zero_le ht.1
    exact refFence_yes M _ at_ old w q0 q1 W h hc _ _ rfl k (by omega) hw rfl
  · rw [if_neg hE]
    exact refFence_no M t at_ old w q0 q1 W h hc _ _ rfl hE
/-- What an access that is done again asks to be there. -/
def Acc.was (a : Acc) : Int := if a.dn then a.ol else 18446744073709551615 - a.ol
theorem refDo26 (M : Rv) (a : Acc) (ha : a.May) (hk : 1 ≤ a.ki ∧ a.ki ≤ 5) (W : World) (h : RefAt W M) (hc : M.ck ≤ 1000000) (hw : M.wm ≤ 999999) :
    Calls Try.prog 26 #[.pointer (some ⟨M.m, 0, none⟩), .int .i64 a.ki, .int .i64 a.th, .int .i64 a.pl, .int .u64 a.was, .int .u64 a.ne] W (RAcc M (M.acts a) W) := by
  obtain ⟨q0, q1, -, -⟩ := ha
  obtain ⟨ki, th, pl, ol, ne, dn⟩ := a
  simp only at hk q0 q1
  rcases (show ki = 1 ∨ ki = 2 ∨ ki = 3 ∨ ki = 4 ∨ ki = 5 by omega) with rfl | rfl | rfl | rfl | rfl
  · exact refDo26_load M th pl _ ne q0 q1 W h hc
  · exact refDo26_store M th pl _ ne q0 q1 W h hc
  · exact refDo26_swap M th pl _ ne q0 q1 W h hc
  · exact refDo26_flush M th pl _ ne q0 q1 W h hc
  · exact refDo26_fence M th pl _ ne q0 q1 W h hc hw
theorem racts_own (M : Rv) (a : Acc) : (M.acts a).own = M.own ∧ (M.acts a).m = M.m ∧ (M.acts a).wm ≤ M.wm + 1 ∧ (M.acts a).ck ≤ M.ck + 1 := by
  unfold Rv.acts
  have hp : ∀ x v, (M.put x v).own = M.own ∧ (M.put x v).m = M.m ∧ (M.put x v).wm = M.wm ∧ (M.put x v).ck = M.ck := fun x v => by unfold Rv.put; split <;> exact ⟨rfl, rfl, rfl, rfl⟩
  have hd : ∀ x nw pu, (M.did x nw pu).own = M.own ∧ (M.did x nw pu).m = M.m ∧ (M.did x nw pu).wm ≤ M.wm + 1 ∧ (M.did x nw pu).ck ≤ M.ck + 1 := fun x nw pu => by
    unfold Rv.did
    split
    · obtain ⟨a, b, c, d⟩ := hp x.pl nw
      exact ⟨a, b, by show (M.put x.pl nw).wm ≤ _; omega, by show (M.put x.pl nw).ck + 1 ≤ _; omega⟩
    · exact ⟨rfl, rfl, by show M.wm ≤ M.wm + 1; omega, by show M.ck + 1 ≤ M.ck + 1; omega⟩
  split
  · exact hd _ _ _
  split
  · exact hd _ _ _
  split
  · exact hd _ _ _
  split
  · unfold Rv.flushM; split
    · exact ⟨rfl, rfl, by show M.wm ≤ M.wm + 1; omega, by show M.ck + 1 ≤ M.ck + 1; omega⟩
    · exact ⟨rfl, rfl, by show M.wm ≤ M.wm + 1; omega, by show M.ck + 1 ≤ M.ck + 1; omega⟩
  split
  · unfold Rv.fenceM; split
    · exact ⟨rfl, rfl, by show M.wm + 1 ≤ M.wm + 1; omega, by show M.ck + 1 ≤ M.ck + 1; omega⟩
    · exact ⟨rfl, rfl, by show M.wm ≤ M.wm + 1; omega, by show M.ck + 1 ≤ M.ck + 1; omega⟩
  · exact ⟨rfl, rfl, by omega, by omega⟩
end Go.Proofs.Ytpmjcinemabamaa

namespace Go.Proofs.Ytpmjcinemabamaa
open Go.RowKit Go.BigFrame
set_option linter.unusedVariables false
set_option linter.unusedSimpArgs false

def RNew (f : Nat → Int) (n nt np : Nat) (W : World) (e : Ending) (W' : World) : Prop :=
  ∃ R : Rv, e = .returned (.pointer (some ⟨R.m, 0, none⟩)) ∧ RefAt W' R ∧ Init R f n nt np ∧ (∀ k, R.own k → W.heap.size ≤ k) ∧ Below W.heap.size W W' ∧ R.wm = 0
theorem rstart_own {m d kb sb wb fb pb n nt np c0 c1 c3 : Nat} {fg : Nat → Nat} {f : Nat → Int} {B : Nat} (h1 : ∀ g, g ∈ [m, d, kb, sb, wb, fb, pb] → B ≤ g) (h2 : ∀ t, t < nt → B ≤ fg t) : ∀ k, (Rv.start m d kb sb wb fb pb n nt np c0 c1 c3 fg f).own k → B ≤ k := by
  rintro k (hk | ⟨t, ht, e⟩)
  · exact h1 k hk
  · have := h2 t ht; have e : fg t = k := e; omega
theorem dev3_lt {W0 W : World} {d kb sb wb c0 c1 fb nt c3 m : Nat} {fg : Nat → Nat} {f : Nat → Int} (h : Dev3 W0 W d kb sb wb c0 c1 (.slice (some ⟨fb, 0, none⟩) nt c3) nt m fg f) : (∀ g, g ∈ [d, kb, sb, wb, fb] → g < W.heap.size ∧ W0.heap.size ≤ g) ∧ ∀ t, t < nt → fg t < W.heap.size ∧ W0.heap.size ≤ fg t := by
  refine ⟨fun g hg => ?_, fun t ht => ⟨(h.rf t ht).lt, h.bf t ht⟩⟩
  simp only [List.mem_cons, List.not_mem_nil, or_false] at hg
  have hb := h.base
  rcases hg with rfl | rfl | rfl | rfl | rfl
  · exact ⟨(Array.getElem?_eq_some_iff.1 h.row).1, hb _ (by simp)⟩
  · exact ⟨h.rk.lt, hb _ (by simp)⟩
  · exact ⟨h.rs.lt, hb _ (by simp)⟩
  · exact ⟨h.rw.lt, hb _ (by simp)⟩
  · have := own_lt h.fl (k := g) rfl; exact ⟨this.2, this.1⟩
/-- The last step: the memory's own block. -/
theorem new_last {W0 W W2 : World} {d kb sb wb fb c0 c1 c3 n nt np m pb : Nat} {fg : Nat → Nat} {f : Nat → Int} {B : World} (h : Dev3 W0 W d kb sb wb c0 c1 (.slice (some ⟨fb, 0, none⟩) nt c3) nt n fg f) (hB : B.heap.size ≤ W0.heap.size) (hb : Below W.heap.size W W2) (hbb : Below B.heap.size B W2)
    (hm : W.heap.size ≤ m) (hp : W.heap.size ≤ pb ∨ B.heap.size ≤ pb ∧ pb < W0.heap.size) (hmp : m ≠ pb)
    (hr : W2.heap[m]? = some (.cells #[.pointer (some ⟨d, 0, none⟩), .slice (some ⟨pb, 0, none⟩) np np, .int .i64 0, .int .i64 0, .int .i64 0, .int .i64 0, .int .i64 0, .int .u64 0, .int .u64 0, .bool false] 46 (0, 0))) (hpr : RowAt W2 pb np fun _ => .int .u64 0) (n0 : 0 < n) (n1 : n ≤ 262144) (t0 : 0 < nt) (t1 : nt ≤ 64) (p1 : np ≤ 262144) :
    RNew f n nt np B (.returned (.pointer (some ⟨m, 0, none⟩))) W2 := by
  obtain ⟨l1, l2⟩ := dev3_lt h
  have s0 := h.below.size
  refine ⟨Rv.start m d kb sb wb fb pb n nt np c0 c1 c3 fg f, rfl, ?_, ref_init _ _ _ _ _ _ _ _ _ _ _ _ _ _ _, rstart_own ?_ (fun t ht => by have := l2 t ht; omega), hbb, rfl⟩
  · refine ref_start h ?_ ⟨fun hg => by have := l1 m hg; omega, fun t ht => by have := l2 t ht; omega⟩ ⟨fun hg => by have := l1 pb hg; omega, fun t ht => by have := l2 t ht; omega⟩ hmp hr hpr n0 n1 t0 t1 p1
    rintro g (hg | ⟨t, ht, rfl⟩)
    · exact hb.block g (l1 g hg).1
    · exact hb.block _ (l2 t ht).1
  · intro g hg
    rcases List.mem_cons.1 hg with rfl | hg
    · omega
    · by_cases e : g = pb
      · omega
      · have : g ∈ [d, kb, sb, wb, fb] := by
          simp only [List.mem_cons, List.not_mem_nil, or_false] at hg ⊢
          omega
        have := l1 g this; omega
set_option maxRecDepth 100000 in
set_option maxHeartbeats 2000000 in
theorem refNew9 (b off m cap nt np : Nat) (hm0 : 0 < m) (hm1 : m ≤ 262144) (ht0 : 0 < nt) (ht1 : nt ≤ 64) (hp : np ≤ 262144) (f : Nat → Int) (W0 : World) (hb : b < W0.heap.size) (hw : ∀ j, j < 8 * m → W0.cell? ⟨b, off + j, none⟩ = some (.int .u64 (f j))) :
    Calls Try.prog 9 #[.slice (some ⟨b, off, none⟩) (8 * m) cap, .int .i64 nt, .int .i64 np] W0 (RNew f m nt np W0) := by
  have HO : Hid (∀ w, Below W0.heap.size W0 w → Calls Try.prog 25 #[.slice (some ⟨b, off, none⟩) (8 * m) cap, .int .i64 nt] w (ROpen w m nt f)) := Lib.hid fun w h => refOpen25 _ b off m cap nt rfl hm0 hm1 ht0 ht1 f w (Nat.lt_of_lt_of_le hb h.size) fun j hj => (h.cell (p := ⟨b, off + j, none⟩) hb).trans (hw j hj)
  have HB := Lib.hid (And.intro hm0 (And.intro hm1 (And.intro ht0 (And.intro ht1 hp))))
  have mk1 := mk_row 22 42 _ _ 8 Try.underlying22 info42 rfl np (by omega) (by omega)
  have i0 : (0 : Int) ≤ (np : Int) := by omega
  clear hb hw
  go_enter Try.func9, Try.ntmps9
  go_wp2_with fail
  go_region_with (go_at_call 25; refine (HO.out _ (by first | exact (Below.refl _ _).drew | exact ((Below.refl _ _).alloc (Nat.le_refl _) _).drew | exact (Below.refl _ _).drew.alloc (by simp) _)).mono ?_; rintro e w1 ⟨d, kb, sb, wb, fb, c0, c1, c3, fg, rfl, hd⟩; have HD := Lib.hid hd; clear hd)
  all_goals
    go_wp2_with fail
    go_ret
  · obtain ⟨h1, h2, h3, h4, h5⟩ := HB.out
    have z := HD.out.below.size
    refine new_last (W0 := W0.drew) (W := w1) (m := w1.heap.size + 1) (pb := w1.heap.size) HD.out (Nat.le_refl _) (((Below.refl _ _).alloc (Nat.le_refl _) _).alloc (by simp) _) (((((Below.refl _ W0).drew.trans HD.out.below).alloc z _).alloc (by simp at z ⊢; omega) _)) (by omega) (Or.inl (Nat.le_refl _)) (by omega) (two_new w1 _ _).2 ⟨_, 42, (two_new w1 _ _).1, fun k hk => made_get _ _ _ hk⟩ h1 h2 h3 h4 h5
  · obtain ⟨h1, h2, h3, h4, h5⟩ := HB.out
    have z := HD.out.below.size
    have zz : W0.heap.size + 1 ≤ w1.heap.size := by simp at z; omega
    have e0 : w1.heap[W0.heap.size]? = some (.cells (madeCells #[.int .u64 0] np) 42) := (HD.out.below.block W0.heap.size (by simp)).trans (heap_alloc_new W0 _)
    refine new_last (W0 := (W0.alloc (.cells (madeCells #[.int .u64 0] np) 42)).drew) (W := w1) (m := w1.heap.size) (pb := W0.heap.size) HD.out (by simp) ((Below.refl _ _).alloc (Nat.le_refl _) _) (((((Below.refl _ W0).alloc (Nat.le_refl _) _).drew.trans (HD.out.below.mono (by simp))).alloc (by omega) _)) (by omega) (Or.inr ⟨Nat.le_refl _, by simp⟩) (by omega) (heap_alloc_new w1 _) ⟨_, 42, (Below.heap_alloc w1 _ _ (by omega)).trans e0, fun k hk => made_get _ _ _ hk⟩ h1 h2 h3 h4 h5
end Go.Proofs.Ytpmjcinemabamaa

namespace Go.Proofs.Ytpmjcinemabamaa
open Go.RowKit Go.BigFrame
set_option linter.unusedVariables false
set_option linter.unusedSimpArgs false

/-- What a round of the document's run starts from. -/
structure RefIn (R0 : Rv) (l : Nat → Acc) (W wr : World) (k : Nat) (R : Rv) (r : Nat) : Prop where
  mem : RefAt wr R
  em : R.m = R0.m
  eo : R.own = R0.own
  run : R = (rrun R0 l k).1 ∧ r = (rrun R0 l k).2
  le : r ≤ k
  ck : R.ck ≤ R0.ck + k
  wm : R.wm ≤ R0.wm + k
  turn : Turn R0.own W wr
theorem ref_round {R0 : Rv} {l : Nat → Acc} {W wr w1 w2 w3 : World} {k : Nat} {R : Rv} {r : Nat} (h : RefIn R0 l W wr k R r) (hb : Below wr.heap.size wr w1) (h2 : RefAt w2 (R.acts (l k))) (ht : Turn R.own w1 w2) (h3 : Below w2.heap.size w2 w3) :
    RefIn R0 l W w3 (k + 1) (R.acts (l k)) (if r = k ∧ (1 ≤ (l k).ki ∧ (l k).ki ≤ 5) ∧ accB (R.acts (l k)).la (l k) = true then k + 1 else r) := by
  obtain ⟨a, b, c, d⟩ := racts_own R (l k)
  have hle := h.le
  have hck := h.ck
  have hwm := h.wm
  refine ⟨h2.below h3, b.trans h.em, a.trans h.eo, ⟨?_, ?_⟩, by split <;> omega, by omega, by omega, ?_⟩
  · rw [h.run.1]; rfl
  · show _ = if (rrun R0 l k).2 = k ∧ (1 ≤ (l k).ki ∧ (l k).ki ≤ 5) ∧ accB ((rrun R0 l k).1.acts (l k)).la (l k) = true then k + 1 else (rrun R0 l k).2
    rw [← h.run.1, ← h.run.2]
  · exact ((h.turn.trans (Turn.of_below hb) (fun _ _ h => h)).trans ht (fun q _ e => by rw [h.eo] at e; exact e)).trans (Turn.of_below h3) (fun _ _ h => h)
theorem racts_none (R : Rv) (a : Acc) (h : ¬ (1 ≤ a.ki ∧ a.ki ≤ 5)) : R.acts a = R := by
  unfold Rv.acts
  rw [if_neg (by omega), if_neg (by omega), if_neg (by omega), if_neg (by omega), if_neg (by omega)]
def RRun (R0 : Rv) (l : Nat → Acc) (len : Nat) (W : World) (e : Ending) (W' : World) : Prop :=
  e = .returned (.int .i64 (rrun R0 l len).2) ∧ RefAt W' (rrun R0 l len).1 ∧ (rrun R0 l len).1.m = R0.m ∧ (rrun R0 l len).1.own = R0.own ∧ Turn R0.own W W'
set_option maxRecDepth 100000 in
set_option maxHeartbeats 4000000 in
theorem refRun10 (R0 : Rv) (al : Option Addr) (len capl : Nat) (hl : len ≤ 100) (l : Nat → Acc) (W : World) (hR : RefAt W R0) (hc : R0.ck ≤ 900000) (hw : R0.wm ≤ 900000) (hA : AccsIn W al len l) (hd : 0 < len → ∀ b off, al = some ⟨b, off, none⟩ → ¬ R0.own b) :
    Calls Try.prog 10 #[.pointer (some ⟨R0.m, 0, none⟩), .slice al len capl] W (RRun R0 l len W) := by
  have HA := Lib.hid hA
  have HD := Lib.hid hd
  have HCW := Lib.hid (And.intro hc hw)
  have HS : Hid (RefIn R0 l W W 0 R0 0) := Lib.hid ⟨hR, rfl, rfl, ⟨rfl, rfl⟩, Nat.le_refl _, by omega, by omega, Turn.refl _ _⟩
  clear hR hA hd hc hw
  go_enter Try.func10, Try.ntmps10
  go_wp2_with fail
  go_loopw [5, 6] (fun rv i wr => ∃ (k r : Nat) (R : Rv), k ≤ len ∧ i = .int .i64 k ∧ rv = .int .i64 r ∧ Hid (RefIn R0 l W wr k R r)) (fun _ i _ => len - (intOf i).toNat)
  case atStart => exact ⟨0, 0, R0, Nat.zero_le _, rfl, rfl, HS⟩
  case round =>
    obtain ⟨k, r, R, hk, rfl, rfl, HR⟩ := hrel
    by_cases hlt : k < len
    · have e1 : decide ((k : Int) < (len : Int)) = true := bool_yes (by omega)
      have i0 : (0 : Int) ≤ (k : Int) := by omega
      have i1 : (k : Int) < (len : Int) := by omega
      obtain ⟨b, off, rfl, hbl, ha, hmay⟩ := HA.out k hlt
      have keep : ∀ o, wr.cell? ⟨b, o, none⟩ = W.cell? ⟨b, o, none⟩ := fun o => cell_of_heap (HR.out.turn.block b hbl (HD.out (by omega) b off rfl)) o
      obtain ⟨a0, a1, a2, a3, a4, a5⟩ := ha
      rw [← keep] at a0 a1 a2 a3 a4 a5
      clear keep
      have HRR := Lib.hid fun w1 w2 w3 hb h2 ht h3 => ref_round (w1 := w1) (w2 := w2) (w3 := w3) HR.out hb h2 ht h3
      have HLE := Lib.hid HR.out.le
      obtain ⟨x, hx⟩ : ∃ x, x = l k := ⟨_, rfl⟩
      rw [← hx] at a0 a1 a2 a3 a4 a5 hmay HRR
      have HX := Lib.hid hx
      obtain ⟨B, hB⟩ : ∃ B : Obj, B = .cells x.cells 44 := ⟨_, rfl⟩
      have HB1 : Hid (Below wr.heap.size wr (wr.alloc B)) := Lib.hid ((Below.refl _ _).alloc (Nat.le_refl _) _)
      have HM1 := Lib.hid (HR.out.mem.below HB1.out)
      have HQ0 : Hid ((wr.alloc B).heap[wr.heap.size]? = some (.cells x.cells 44 (0, 0))) := Lib.hid (by rw [heap_alloc_new wr B, hB])
      have HSZ : Hid (¬ R.own wr.heap.size) := Lib.hid (HR.out.mem.not_own (Nat.le_refl _))
      by_cases hki : 1 ≤ x.ki ∧ x.ki ≤ 5
      · have f1 : decide (x.ki < 1) = false := bool_no (by omega)
        have f2 : decide (5 < x.ki) = false := bool_no (by omega)
        have HDO := Lib.hid (refDo26 R x hmay hki (wr.alloc B) HM1.out (by have := HR.out.ck; have := HCW.out.1; omega) (by have := HR.out.wm; have := HCW.out.2; omega))
        rw [HR.out.em] at HDO
        have o0 := hmay.2.2.1
        have o1 := hmay.2.2.2
        have HKI := Lib.hid hki
        have hB2 := hB
        simp only [Acc.cells] at hB2
        unfold Acc.was at HDO
        clear hx hmay hB
        cases hdn : x.dn with
        | true =>
          have HDN := Lib.hid hdn
          rw [hdn] at a5 hB2 HDO
          simp only [if_true] at HDO
          obtain ⟨N, hN⟩ : ∃ N, N = R.acts x := ⟨_, rfl⟩
          rw [← hN] at HDO HRR
          obtain ⟨la, hla⟩ : ∃ la, la = N.la := ⟨_, rfl⟩
          unfold RAcc at HDO
          rw [← hla] at HDO HRR
          have qe := fun w => eql44 la x w
          obtain ⟨bb, hbb⟩ : ∃ bb, bb = accB la x := ⟨_, rfl⟩
          rw [← hbb] at qe HRR
          simp only [Acc.cells] at qe HDO
          rw [hdn] at qe
          subst hB2
          clear hdn hN hla hbb
          have HQ1 := HQ0
          clear HQ0
          go_wp2_with fail
          with_reducible refine HDO.out.mono ?_
          rintro e w4 ⟨rfl, hm4, ht4⟩
          have HM4 := Lib.hid hm4
          have HT4 := Lib.hid ht4
          have hq4 := (ht4.block wr.heap.size (by simp) HSZ.out).trans HQ1.out
          have HL4 : Hid (wr.heap.size < w4.heap.size) := Lib.hid (Array.getElem?_eq_some_iff.1 hq4).1
          obtain ⟨c0, c1, c2, c3, c4, c5, cf⟩ := row6 hq4
          rw [HDN.out] at c5
          have n1 : w4.heap.size ≠ wr.heap.size := by have := HL4.out; omega
          have n2 : wr.heap.size ≠ w4.heap.size := Ne.symm n1
          have d0 := fun o => (cell_of_heap (Below.heap_alloc w4 o wr.heap.size HL4.out) 0).trans c0
          have d1 := fun o => (cell_of_heap (Below.heap_alloc w4 o wr.heap.size HL4.out) 1).trans c1
          have d2 := fun o => (cell_of_heap (Below.heap_alloc w4 o wr.heap.size HL4.out) 2).trans c2
          have d3 := fun o => (cell_of_heap (Below.heap_alloc w4 o wr.heap.size HL4.out) 3).trans c3
          have d4 := fun o => (cell_of_heap (Below.heap_alloc w4 o wr.heap.size HL4.out) 4).trans c4
          have d5 := fun o => (cell_of_heap (Below.heap_alloc w4 o wr.heap.size HL4.out) 5).trans c5
          have HFIN : Hid (∀ w', Below w4.heap.size w4 w' → RefIn R0 l W w' (k + 1) N (if r = k ∧ (1 ≤ x.ki ∧ x.ki ≤ 5) ∧ bb = true then k + 1 else r)) := Lib.hid fun w' h => HRR.out _ _ _ HB1.out HM4.out HT4.out h
          clear hm4 ht4 hq4
          by_cases hrk : r = k
          · have g1 : ((r : Int) == (k : Int)) = true := by simp; omega
            have g2 : (r == k) = true := by simp; omega
            have hr9 : r ≤ 100 := by omega
            have HT : Hid (∀ w', Below w4.heap.size w4 w' → bb = true → RefIn R0 l W w' (k + 1) N (r + 1)) := Lib.hid fun w' h hb => by
              have := HFIN.out w' h; rw [if_pos ⟨hrk, HKI.out, hb⟩] at this; rw [hrk]; exact this
            have HF : Hid (∀ w', Below w4.heap.size w4 w' → bb = false → RefIn R0 l W w' (k + 1) N r) := Lib.hid fun w' h hb => by
              have := HFIN.out w' h; rw [if_neg (fun c => by rw [hb] at c; exact absurd c.2.2 (by simp))] at this; exact this
            clear hrk HFIN
            cases bb
            · go_wp2_with fail
              go_roundw
              case rel => exact ⟨k + 1, r, N, by omega, by go_num, rfl, Lib.hid (HF.out _ ((Below.refl _ _).alloc (Nat.le_refl _) _) trivial)⟩
              case measure => simp [intOf]; omega
            · go_wp2_with fail
              go_roundw
              case rel => exact ⟨k + 1, r + 1, N, by omega, by go_num, by go_num, Lib.hid (HT.out _ ((Below.refl _ _).alloc (Nat.le_refl _) _) trivial)⟩
              case measure => simp [intOf]; omega
          · have g1 : ((r : Int) == (k : Int)) = false := by simp; omega
            have g2 : (r == k) = false := by simp; omega
            have HF : Hid (∀ w', Below w4.heap.size w4 w' → RefIn R0 l W w' (k + 1) N r) := Lib.hid fun w' h => by
              have := HFIN.out w' h; rw [if_neg (fun c => hrk c.1)] at this; exact this
            clear hrk HFIN
            go_wp2_with fail
            go_roundw
            case rel => exact ⟨k + 1, r, N, by omega, by go_num, rfl, Lib.hid (HF.out _ ((Below.refl _ _).alloc (Nat.le_refl _) _))⟩
            case measure => simp [intOf]; omega
        | false =>
          have HDN := Lib.hid hdn
          rw [hdn] at a5 hB2 HDO
          simp only [Bool.false_eq_true, if_false] at HDO
          obtain ⟨N, hN⟩ : ∃ N, N = R.acts x := ⟨_, rfl⟩
          rw [← hN] at HDO HRR
          obtain ⟨la, hla⟩ : ∃ la, la = N.la := ⟨_, rfl⟩
          unfold RAcc at HDO
          rw [← hla] at HDO HRR
          have qe := fun w => eql44 la x w
          obtain ⟨bb, hbb⟩ : ∃ bb, bb = accB la x := ⟨_, rfl⟩
          rw [← hbb] at qe HRR
          simp only [Acc.cells] at qe HDO
          rw [hdn] at qe
          subst hB2
          clear hdn hN hla hbb
          have HQ1 := HQ0
          clear HQ0
          go_wp2_with fail
          with_reducible refine HDO.out.mono ?_
          rintro e w4 ⟨rfl, hm4, ht4⟩
          have HM4 := Lib.hid hm4
          have HT4 := Lib.hid ht4
          have hq4 := (ht4.block wr.heap.size (by simp) HSZ.out).trans HQ1.out
          have HL4 : Hid (wr.heap.size < w4.heap.size) := Lib.hid (Array.getElem?_eq_some_iff.1 hq4).1
          obtain ⟨c0, c1, c2, c3, c4, c5, cf⟩ := row6 hq4
          rw [HDN.out] at c5
          have n1 : w4.heap.size ≠ wr.heap.size := by have := HL4.out; omega
          have n2 : wr.heap.size ≠ w4.heap.size := Ne.symm n1
          have d0 := fun o => (cell_of_heap (Below.heap_alloc w4 o wr.heap.size HL4.out) 0).trans c0
          have d1 := fun o => (cell_of_heap (Below.heap_alloc w4 o wr.heap.size HL4.out) 1).trans c1
          have d2 := fun o => (cell_of_heap (Below.heap_alloc w4 o wr.heap.size HL4.out) 2).trans c2
          have d3 := fun o => (cell_of_heap (Below.heap_alloc w4 o wr.heap.size HL4.out) 3).trans c3
          have d4 := fun o => (cell_of_heap (Below.heap_alloc w4 o wr.heap.size HL4.out) 4).trans c4
          have d5 := fun o => (cell_of_heap (Below.heap_alloc w4 o wr.heap.size HL4.out) 5).trans c5
          have HFIN : Hid (∀ w', Below w4.heap.size w4 w' → RefIn R0 l W w' (k + 1) N (if r = k ∧ (1 ≤ x.ki ∧ x.ki ≤ 5) ∧ bb = true then k + 1 else r)) := Lib.hid fun w' h => HRR.out _ _ _ HB1.out HM4.out HT4.out h
          clear hm4 ht4 hq4
          by_cases hrk : r = k
          · have g1 : ((r : Int) == (k : Int)) = true := by simp; omega
            have g2 : (r == k) = true := by simp; omega
            have hr9 : r ≤ 100 := by omega
            have HT : Hid (∀ w', Below w4.heap.size w4 w' → bb = true → RefIn R0 l W w' (k + 1) N (r + 1)) := Lib.hid fun w' h hb => by
              have := HFIN.out w' h; rw [if_pos ⟨hrk, HKI.out, hb⟩] at this; rw [hrk]; exact this
            have HF : Hid (∀ w', Below w4.heap.size w4 w' → bb = false → RefIn R0 l W w' (k + 1) N r) := Lib.hid fun w' h hb => by
              have := HFIN.out w' h; rw [if_neg (fun c => by rw [hb] at c; exact absurd c.2.2 (by simp))] at this; exact this
            clear hrk HFIN
            cases bb
            · go_wp2_with fail
              go_roundw
              case rel => exact ⟨k + 1, r, N, by omega, by go_num, rfl, Lib.hid (HF.out _ ((Below.refl _ _).alloc (Nat.le_refl _) _) trivial)⟩
              case measure => simp [intOf]; omega
            · go_wp2_with fail
              go_roundw
              case rel => exact ⟨k + 1, r + 1, N, by omega, by go_num, by go_num, Lib.hid (HT.out _ ((Below.refl _ _).alloc (Nat.le_refl _) _) trivial)⟩
              case measure => simp [intOf]; omega
          · have g1 : ((r : Int) == (k : Int)) = false := by simp; omega
            have g2 : (r == k) = false := by simp; omega
            have HF : Hid (∀ w', Below w4.heap.size w4 w' → RefIn R0 l W w' (k + 1) N r) := Lib.hid fun w' h => by
              have := HFIN.out w' h; rw [if_neg (fun c => hrk c.1)] at this; exact this
            clear hrk HFIN
            go_wp2_with fail
            go_roundw
            case rel => exact ⟨k + 1, r, N, by omega, by go_num, rfl, Lib.hid (HF.out _ ((Below.refl _ _).alloc (Nat.le_refl _) _))⟩
            case measure => simp [intOf]; omega
      · have hN := racts_none R x hki
        have HFIN : Hid (∀ w', Below wr.heap.size wr w' → RefIn R0 l W w' (k + 1) R r) := Lib.hid fun w' h => by
          have := HRR.out wr wr w' (Below.refl _ _) (by rw [hN]; exact HR.out.mem) (Turn.refl _ _) h
          rw [hN, if_neg (fun c => hki c.2.1)] at this; exact this
        simp only [Acc.cells] at hB
        clear hx hmay hN HRR HB1 HM1 HQ0 HSZ hB
        rcases (show x.ki < 1 ∨ 5 < x.ki by omega) with h | h
        · have f1 : decide (x.ki < 1) = true := bool_yes h
          clear hki h
          go_wp2_with fail
          go_roundw
          case rel => exact ⟨k + 1, r, R, by omega, by go_num, rfl, Lib.hid (HFIN.out _ ((Below.refl _ _).alloc (Nat.le_refl _) _))⟩
          case measure => simp [intOf]; omega
        · have f1 : decide (x.ki < 1) = false := bool_no (by omega)
          have f2 : decide (5 < x.ki) = true := bool_yes h
          clear hki h
          go_wp2_with fail
          go_roundw
          case rel => exact ⟨k + 1, r, R, by omega, by go_num, rfl, Lib.hid (HFIN.out _ ((Below.refl _ _).alloc (Nat.le_refl _) _))⟩
          case measure => simp [intOf]; omega
    · obtain rfl : k = len := by omega
      have e1 : decide ((k : Int) < (k : Int)) = false := by simp
      go_wp2_with fail
      go_ret
      obtain ⟨h1, h2⟩ := HR.out.run
      exact ⟨by rw [← h2]; rfl, by rw [← h1]; exact HR.out.mem, by rw [← h1]; exact HR.out.em, by rw [← h1]; exact HR.out.eo, HR.out.turn⟩
end Go.Proofs.Ytpmjcinemabamaa

namespace Go.Proofs.Ytpmjcinemabamaa
open Go.RowKit Go.BigFrame
set_option linter.unusedVariables false
set_option linter.unusedSimpArgs false

/-- Accesses done again over words: whatever may be asked. -/
theorem run6_all (a : Option Addr) (n cap : Nat) (t np : Int) (al : Option Addr) (len capl : Nat) (hl : len ≤ 100) (f : Nat → Int) (l : Nat → Acc) (W : World) (hO : Calls Try.prog 18 #[.slice a n cap, .int .i64 t] W (OpenTo f n t W)) (hA : AccsIn W al len l) :
    Calls Try.prog 6 #[.slice a n cap, .int .i64 t, .int .i64 np, .slice al len capl] W (RunTo f n t np l len W) := by
  by_cases h0 : mayOpenE n t = 0
  · by_cases hp : np < 0 ∨ 262144 < np
    · exact run6_pass a n cap t np al len capl f l W hO h0 hp
    · obtain ⟨k, rfl⟩ := Int.eq_ofNat_of_zero_le (show 0 ≤ np by omega)
      exact run6_yes a n cap t k al len capl hl f l W hO h0 (by omega) hA
  · exact run6_no a n cap t np al len capl f l W hO h0
def exL : Nat → Acc := fun i => if i = 0 then ⟨2, 0, 3, 0, 5, true⟩ else ⟨1, 0, 3, 5, 0, true⟩
def exR : Rv := Rv.start 0 0 0 0 0 0 0 1 1 0 0 0 0 (fun _ => 0) (fun _ => 0)
theorem ex_run : (rrun exR exL 2).2 = 2 ∧ (rrun exR exL 2).1.seen 3 = 5 ∧ (rrun exR exL 2).1.n = 1 := ⟨rfl, rfl, rfl⟩
theorem ex_open (a : Option Addr) (b : Nat) (ha : a = some ⟨b, 0, none⟩) (w : World) (h : w.heap[b]? = some (.cells (madeCells #[.int .u64 0] 8) 42)) : Calls Try.prog 18 #[.slice a 8 8, .int .i64 1] w (OpenTo (fun _ => 0) 8 1 w) := by
  refine open18_yes a b 0 8 8 (fun _ => ha) (by omega) (by omega) 1 (fun _ => 0) w rfl (Array.getElem?_eq_some_iff.1 h).1 (fun j hj => ?_)
  rw [Nat.zero_add, cell_in h]
  exact made_get _ _ _ hj
def exCells : Array Value := #[.int .i64 2, .int .i64 0, .int .i64 3, .int .u64 0, .int .u64 5, .bool true, .int .i64 1, .int .i64 0, .int .i64 3, .int .u64 5, .int .u64 0, .bool true]
theorem ex_accs (b : Nat) (w : World) (h : w.heap[b]? = some (.cells exCells 44 (0, 0))) : AccsIn w (some ⟨b, 0, none⟩) 2 exL := by
  intro i hi
  refine ⟨b, 0, rfl, (Array.getElem?_eq_some_iff.1 h).1, ?_, ?_⟩
  · unfold AccIn
    rw [cell_in h, cell_in h, cell_in h, cell_in h, cell_in h, cell_in h]
    rcases (show i = 0 ∨ i = 1 by omega) with rfl | rfl <;> exact ⟨rfl, rfl, rfl, rfl, rfl, rfl⟩
  · rcases (show i = 0 ∨ i = 1 by omega) with rfl | rfl <;> simp [exL, Acc.May]
set_option maxRecDepth 100000 in
set_option maxHeartbeats 1000000 in
theorem awake5 (W : World) : Calls Try.prog 5 #[] W (Gives (.bool true) W) := by
  have mk1 : ∀ w : World, (Instr.makeSlice 22 (.int .i64 8) (.int .i64 8)).run Try.prog w = .ok (.slice (some ⟨w.heap.size, 0, none⟩) 8 8) (w.alloc (.cells (madeCells #[.int .u64 0] 8) 42)) := fun w => mk_row 22 42 _ _ 8 Try.underlying22 info42 rfl 8 (by omega) (by omega) w
  have HRUN : Hid (∀ wl wb w, w.heap[wl]? = some (.cells exCells 44 (0, 0)) → w.heap[wb]? = some (.cells (madeCells #[.int .u64 0] 8) 42) → Calls Try.prog 6 #[.slice (some ⟨wb, 0, none⟩) 8 8, .int .i64 1, .int .i64 0, .slice (some ⟨wl, 0, none⟩) 2 2] w
      (fun e w' => ∃ M : Mv, e = .returned (.tuple #[.pointer (some ⟨M.m, 0, none⟩), .int .i64 2, .int .i64 0]) ∧ MemAt w' M ∧ M.n = 1 ∧ M.seen 3 = 5 ∧ Below w.heap.size w w')) := Lib.hid fun wl wb w h1 h2 => by
    refine (run6_all (some ⟨wb, 0, none⟩) 8 8 1 0 _ 2 2 (by omega) (fun _ => 0) exL w (ex_open _ wb rfl w h2) (ex_accs wl w h1)).mono ?_
    rintro e w' ⟨hb, ⟨h, _⟩ | ⟨_, M, r, rfl, hm, _, hr, _⟩⟩
    · exact absurd rfl h
    · obtain ⟨x1, x2⟩ := hr exR (ref_init 0 0 0 0 0 0 0 1 1 0 0 0 0 (fun _ => 0) (fun _ => 0))
      obtain ⟨y1, y2, y3⟩ := ex_run
      rw [y1] at x2
      subst x2
      exact ⟨M, rfl, hm, x1.n.trans y3, (x1.seen 3 (by rw [x1.n, y3]; omega)).trans y2, hb⟩
  have HWD : Hid (∀ M w, MemAt w M → M.n = 1 → M.seen 3 = 5 → Calls Try.prog 8 #[.pointer (some ⟨M.m, 0, none⟩)] w (fun e w' => ∃ g c, e = .returned (.slice (some ⟨g, 0, none⟩) 8 c) ∧ Below w.heap.size w w' ∧ w'.cell? ⟨g, 3, none⟩ = some (.int .u64 5))) := Lib.hid fun M w hm hn hs => by
    refine (words8M M w hm).mono ?_
    rintro e w' ⟨g, c, rfl, hb, hr, _⟩
    rw [hn] at hr ⊢
    have := hr.cell (k := 3) (by omega)
    rw [hs] at this
    exact ⟨g, c, rfl, hb, this⟩
  go_enter Try.func5, Try.ntmps5
  go_wp2_with fail
  have q1 := (two_new W (.cells exCells 44) (.cells (madeCells #[.int .u64 0] 8) 42)).1
  have q2 := (two_new W (.cells exCells 44) (.cells (madeCells #[.int .u64 0] 8) 42)).2
  have HRR := Lib.hid (HRUN.out _ _ _ q1 q2)
  clear q1 q2 HRUN
  simp only [exCells] at HRR
  with_reducible refine HRR.out.mono ?_
  rintro e w1 ⟨M, rfl, hm, hn, hs, hb⟩
  have HB1 : Hid (Below W.heap.size W w1) := Lib.hid (((Below.refl _ _).alloc (Nat.le_refl _) _).alloc (by simp) _ |>.trans (hb.mono (by simp; omega)))
  have HW2 := Lib.hid (HWD.out M w1 hm hn hs)
  clear hm hn hs hb
  go_wp2_with fail
  with_reducible refine HW2.out.mono ?_
  rintro e w2 ⟨g, c, rfl, hb, hc⟩
  have HB2 : Hid (Below W.heap.size W w2) := Lib.hid (HB1.out.trans (hb.mono HB1.out.size))
  clear hb
  go_wp2_with fail
  go_ret
  exact ⟨rfl, HB2.out⟩
end Go.Proofs.Ytpmjcinemabamaa
