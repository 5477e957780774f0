/- The document's memory: any access; a memory made.
   The document's memory made; accesses done again on it.
   Layer 6 (layout): a config's layout; the head of a bucket.
   Layer 6: the words that pass away, by their names.
   Layer 6: words filled up to whole lines. -/
import Derived.Test.YtibelcmdfkgonaaGreatK21
import Derived.Test.YtibelcmdfkgonaaGreatK24
import Derived.Test.YtibelcmdfkgonaaGreatK5
import Derived.IntWalk
import Derived.Test.YtibelcmdfkgonaaGreatK9
import Derived.Deep.LoopGhost
namespace Go.Proofs.YtibelcmdfkgonaaGreat
open Go.RowKit Go.BigFrame
set_option linter.unusedVariables false
set_option linter.unusedSimpArgs false
theorem rpeek_no {M : Rv} {at_ : Int} (h : (M.peek at_).2 = false) : (M.peek at_).1 = 0 := by
  unfold Rv.peek peekV at *
  by_cases h0 : 0 ≤ at_ <;> by_cases h1 : at_ / 8 < (M.n : Int) <;> by_cases h2 : -1 - at_ < (M.np : Int) <;> simp [h0, h1, h2] at h ⊢
theorem rpeek_in {M : Rv} {at_ : Int} (h : (M.peek at_).2 = true) : (0 ≤ at_ ∧ at_.toNat < 8 * M.n) ∨ (¬ 0 ≤ at_ ∧ (-1 - at_).toNat < M.np ∧ at_ = -1 - ((-1 - at_).toNat : Int)) := by
  unfold Rv.peek peekV at h
  by_cases h0 : 0 ≤ at_
  · rw [if_pos h0] at h
    by_cases h1 : at_ / 8 < (M.n : Int)
    · exact Or.inl ⟨h0, by omega⟩
    · rw [if_neg h1] at h; cases h
  · rw [if_neg h0] at h
    by_cases h1 : -1 - at_ < (M.np : Int)
    · exact Or.inr ⟨h0, by omega, by omega⟩
    · rw [if_neg h1] at h; cases h
theorem refDo26_load (M : Rv) (t at_ old w : Int) (q0 : -9223372036854775808 ≤ at_) (q1 : at_ ≤ 9223372036854775807) (W : World) (h : RefAt W M) (hc : M.ck ≤ 1000000) :
    Calls Tryz.prog 65 #[.pointer (some ⟨M.m, 0, none⟩), .int .i64 1, .int .i64 t, .int .i64 at_, .int .u64 old, .int .u64 w] W (RAcc M (M.load t at_) W) := by
  unfold Rv.load Rv.did Rv.res
  cases hp : (M.peek at_).2 with
  | true =>
    have := refLoad_true M t at_ old w q0 q1 W h hc (M.peek at_).1 (Prod.ext rfl hp)
    simpa [hp] using this
  | false =>
    have e := rpeek_no hp
    have := refLoad_false M t at_ old w q0 q1 W h hc 0 (Prod.ext e hp)
    simpa [hp] using this
theorem refDo26_store (M : Rv) (t at_ old w : Int) (q0 : -9223372036854775808 ≤ at_) (q1 : at_ ≤ 9223372036854775807) (W : World) (h : RefAt W M) (hc : M.ck ≤ 1000000) :
    Calls Tryz.prog 65 #[.pointer (some ⟨M.m, 0, none⟩), .int .i64 2, .int .i64 t, .int .i64 at_, .int .u64 old, .int .u64 w] W (RAcc M (M.store t at_ w) W) := by
  unfold Rv.store Rv.did Rv.res
  cases hp : (M.peek at_).2 with
  | true =>
    rcases rpeek_in hp with ⟨h0, h1⟩ | ⟨h0, h1, h2⟩
    · obtain ⟨k, rfl⟩ := Int.eq_ofNat_of_zero_le h0
      have := refStore_seen M t old w k W h hc (M.peek (k : Int)).1 (Prod.ext rfl hp) h1
      simpa [hp, Rv.put] using this
    · obtain ⟨k, hk⟩ : ∃ k, k = (-1 - at_).toNat := ⟨_, rfl⟩
      rw [← hk] at h1 h2
      subst h2
      have := refStore_pass M t old w k W h hc (M.peek (-1 - (k : Int))).1 (Prod.ext rfl hp) h1
      have e : (-1 - (-1 - (k : Int))).toNat = k := by omega
      have h9 : ¬ ((k : Int) ≤ -1) := by omega
      simpa [hp, Rv.put, h9, e] using this
  | false =>
    have e := rpeek_no hp
    have := refStore_bad M t at_ old w q0 q1 W h hc 0 (Prod.ext e hp)
    simpa [hp] using this
theorem refDo26_swap (M : Rv) (t at_ old w : Int) (q0 : -9223372036854775808 ≤ at_) (q1 : at_ ≤ 9223372036854775807) (W : World) (h : RefAt W M) (hc : M.ck ≤ 1000000) :
    Calls Tryz.prog 65 #[.pointer (some ⟨M.m, 0, none⟩), .int .i64 3, .int .i64 t, .int .i64 at_, .int .u64 old, .int .u64 w] W (RAcc M (M.swap t at_ old w) W) := by
  unfold Rv.swap Rv.did Rv.res
  cases hp : (M.peek at_).2 with
  | true =>
    cases he : ((M.peek at_).1 == old) with
    | true =>
      rcases rpeek_in hp with ⟨h0, h1⟩ | ⟨h0, h1, h2⟩
      · obtain ⟨k, rfl⟩ := Int.eq_ofNat_of_zero_le h0
        have := refSwap_seen M t old w k W h hc (M.peek (k : Int)).1 (Prod.ext rfl hp) h1 he
        simpa [hp, he, Rv.put] using this
      · obtain ⟨k, hk⟩ : ∃ k, k = (-1 - at_).toNat := ⟨_, rfl⟩
        rw [← hk] at h1 h2
        subst h2
        have := refSwap_pass M t old w k W h hc (M.peek (-1 - (k : Int))).1 (Prod.ext rfl hp) h1 he
        have e : (-1 - (-1 - (k : Int))).toNat = k := by omega
        have h9 : ¬ ((k : Int) ≤ -1) := by omega
        simpa [hp, he, Rv.put, h9, e] using this
    | false =>
      have := refSwap_no M t at_ old w q0 q1 W h hc (M.peek at_).1 (Prod.ext rfl hp) he
      simpa [hp, he] using this
  | false =>
    have e := rpeek_no hp
    have := refSwap_bad M t at_ old w q0 q1 W h hc 0 (Prod.ext e hp)
    simpa [hp] using this
theorem refDo26_flush (M : Rv) (t at_ old w : Int) (q0 : -9223372036854775808 ≤ at_) (q1 : at_ ≤ 9223372036854775807) (W : World) (h : RefAt W M) (hc : M.ck ≤ 1000000) :
    Calls Tryz.prog 65 #[.pointer (some ⟨M.m, 0, none⟩), .int .i64 4, .int .i64 t, .int .i64 at_, .int .u64 old, .int .u64 w] W (RAcc M (M.flushM t at_) W) := by
  unfold Rv.flushM
  by_cases h0 : 0 ≤ at_
  · by_cases hE : M.flushE t (at_ / 8) = 0
    · rw [if_pos ⟨h0, hE⟩]
      exact refFlush_yes M t at_ old w q0 q1 W h hc _ _ rfl h0 hE
    · rw [if_neg (fun c => hE c.2)]
      exact refFlush_no M t at_ old w q0 q1 W h hc _ _ rfl h0 hE
  · rw [if_neg (fun c => h0 c.1)]
    exact refFlush_neg M t at_ old w q0 q1 W h hc _ _ rfl (by omega)
theorem refDo26_fence (M : Rv) (t at_ old w : Int) (q0 : -9223372036854775808 ≤ at_) (q1 : at_ ≤ 9223372036854775807) (W : World) (h : RefAt W M) (hc : M.ck ≤ 1000000) (hw : M.wm ≤ 999999) :
    Calls Tryz.prog 65 #[.pointer (some ⟨M.m, 0, none⟩), .int .i64 5, .int .i64 t, .int .i64 at_, .int .u64 old, .int .u64 w] W (RAcc M (M.fenceM t) W) := by
  unfold Rv.fenceM
  by_cases hE : threadE M.nt t = 0
  · rw [if_pos hE]
    have ht : 0 ≤ t ∧ t < M.nt := by unfold threadE at hE; split at hE; cases hE; omega
    obtain ⟨k, rfl⟩ := Int.eq_ofNat_of_zero_le ht.1
    exact refFence_yes M _ at_ old w q0 q1 W h hc _ _ rfl k (by omega) hw rfl
  · rw [if_neg hE]
    exact refFence_no M t at_ old w q0 q1 W h hc _ _ rfl hE
/-- What an access that is done again asks to be there. -/
def Acc.was (a : Acc) : Int := if a.dn then a.ol else 18446744073709551615 - a.ol
theorem refDo26 (M : Rv) (a : Acc) (ha : a.May) (hk : 1 ≤ a.ki ∧ a.ki ≤ 5) (W : World) (h : RefAt W M) (hc : M.ck ≤ 1000000) (hw : M.wm ≤ 999999) :
    Calls Tryz.prog 65 #[.pointer (some ⟨M.m, 0, none⟩), .int .i64 a.ki, .int .i64 a.th, .int .i64 a.pl, .int .u64 a.was, .int .u64 a.ne] W (RAcc M (M.acts a) W) := by
  obtain ⟨q0, q1, -, -⟩ := ha
  obtain ⟨ki, th, pl, ol, ne, dn⟩ := a
  simp only at hk q0 q1
  rcases (show ki = 1 ∨ ki = 2 ∨ ki = 3 ∨ ki = 4 ∨ ki = 5 by omega) with rfl | rfl | rfl | rfl | rfl
  · exact refDo26_load M th pl _ ne q0 q1 W h hc
  · exact refDo26_store M th pl _ ne q0 q1 W h hc
  · exact refDo26_swap M th pl _ ne q0 q1 W h hc
  · exact refDo26_flush M th pl _ ne q0 q1 W h hc
  · exact refDo26_fence M th pl _ ne q0 q1 W h hc hw
theorem racts_own (M : Rv) (a : Acc) : (M.acts a).own = M.own ∧ (M.acts a).m = M.m ∧ (M.acts a).wm ≤ M.wm + 1 ∧ (M.acts a).ck ≤ M.ck + 1 := by
  unfold Rv.acts
  have hp : ∀ x v, (M.put x v).own = M.own ∧ (M.put x v).m = M.m ∧ (M.put x v).wm = M.wm ∧ (M.put x v).ck = M.ck := fun x v => by unfold Rv.put; split <;> exact ⟨rfl, rfl, rfl, rfl⟩
  have hd : ∀ x nw pu, (M.did x nw pu).own = M.own ∧ (M.did x nw pu).m = M.m ∧ (M.did x nw pu).wm ≤ M.wm + 1 ∧ (M.did x nw pu).ck ≤ M.ck + 1 := fun x nw pu => by
    unfold Rv.did
    split
    · obtain ⟨a, b, c, d⟩ := hp x.pl nw
      exact ⟨a, b, by show (M.put x.pl nw).wm ≤ _; omega, by show (M.put x.pl nw).ck + 1 ≤ _; omega⟩
    · exact ⟨rfl, rfl, by show M.wm ≤ M.wm + 1; omega, by show M.ck + 1 ≤ M.ck + 1; omega⟩
  split
  · exact hd _ _ _
  split
  · exact hd _ _ _
  split
  · exact hd _ _ _
  split
  · unfold Rv.flushM; split
    · exact ⟨rfl, rfl, by show M.wm ≤ M.wm + 1; omega, by show M.ck + 1 ≤ M.ck + 1; omega⟩
    · exact ⟨rfl, rfl, by show M.wm ≤ M.wm + 1; omega, by show M.ck + 1 ≤ M.ck + 1; omega⟩
  split
  · unfold Rv.fenceM; split
    · exact ⟨rfl, rfl, by show M.wm + 1 ≤ M.wm + 1; omega, by show M.ck + 1 ≤ M.ck + 1; omega⟩
    · exact ⟨rfl, rfl, by show M.wm ≤ M.wm + 1; omega, by show M.ck + 1 ≤ M.ck + 1; omega⟩
  · exact ⟨rfl, rfl, by omega, by omega⟩
end Go.Proofs.YtibelcmdfkgonaaGreat

namespace Go.Proofs.YtibelcmdfkgonaaGreat
open Go.RowKit Go.BigFrame
set_option linter.unusedVariables false
set_option linter.unusedSimpArgs false
def RNew (f : Nat → Int) (n nt np : Nat) (W : World) (e : Ending) (W' : World) : Prop :=
  ∃ R : Rv, e = .returned (.pointer (some ⟨R.m, 0, none⟩)) ∧ RefAt W' R ∧ Init R f n nt np ∧ (∀ k, R.own k → W.heap.size ≤ k) ∧ Below W.heap.size W W' ∧ R.wm = 0
theorem rstart_own {m d kb sb wb fb pb n nt np c0 c1 c3 : Nat} {fg : Nat → Nat} {f : Nat → Int} {B : Nat} (h1 : ∀ g, g ∈ [m, d, kb, sb, wb, fb, pb] → B ≤ g) (h2 : ∀ t, t < nt → B ≤ fg t) : ∀ k, (Rv.start m d kb sb wb fb pb n nt np c0 c1 c3 fg f).own k → B ≤ k := by
  rintro k (hk | ⟨t, ht, e⟩)
  · exact h1 k hk
  · have := h2 t ht; have e : fg t = k := e; omega
theorem dev3_lt {W0 W : World} {d kb sb wb c0 c1 fb nt c3 m : Nat} {fg : Nat → Nat} {f : Nat → Int} (h : Dev3 W0 W d kb sb wb c0 c1 (.slice (some ⟨fb, 0, none⟩) nt c3) nt m fg f) : (∀ g, g ∈ [d, kb, sb, wb, fb] → g < W.heap.size ∧ W0.heap.size ≤ g) ∧ ∀ t, t < nt → fg t < W.heap.size ∧ W0.heap.size ≤ fg t := by
  refine ⟨fun g hg => ?_, fun t ht => ⟨(h.rf t ht).lt, h.bf t ht⟩⟩
  simp only [List.mem_cons, List.not_mem_nil, or_false] at hg
  have hb := h.base
  rcases hg with rfl | rfl | rfl | rfl | rfl
  · exact ⟨(Array.getElem?_eq_some_iff.1 h.row).1, hb _ (by simp)⟩
  · exact ⟨h.rk.lt, hb _ (by simp)⟩
  · exact ⟨h.rs.lt, hb _ (by simp)⟩
  · exact ⟨h.rw.lt, hb _ (by simp)⟩
  · have := own_lt h.fl (k := g) rfl; exact ⟨this.2, this.1⟩
/-- The last step: the memory's own block. -/
theorem new_last {W0 W W2 : World} {d kb sb wb fb c0 c1 c3 n nt np m pb : Nat} {fg : Nat → Nat} {f : Nat → Int} {B : World} (h : Dev3 W0 W d kb sb wb c0 c1 (.slice (some ⟨fb, 0, none⟩) nt c3) nt n fg f) (hB : B.heap.size ≤ W0.heap.size) (hb : Below W.heap.size W W2) (hbb : Below B.heap.size B W2)
    (hm : W.heap.size ≤ m) (hp : W.heap.size ≤ pb ∨ B.heap.size ≤ pb ∧ pb < W0.heap.size) (hmp : m ≠ pb)
    (hr : W2.heap[m]? = some (.cells #[.pointer (some ⟨d, 0, none⟩), .slice (some ⟨pb, 0, none⟩) np np, .int .i64 0, .int .i64 0, .int .i64 0, .int .i64 0, .int .i64 0, .int .u64 0, .int .u64 0, .bool false] 200 (0, 0))) (hpr : RowAt W2 pb np fun _ => .int .u64 0) (n0 : 0 < n) (n1 : n ≤ 262144) (t0 : 0 < nt) (t1 : nt ≤ 64) (p1 : np ≤ 262144) :
    RNew f n nt np B (.returned (.pointer (some ⟨m, 0, none⟩))) W2 := by
  obtain ⟨l1, l2⟩ := dev3_lt h
  have s0 := h.below.size
  refine ⟨Rv.start m d kb sb wb fb pb n nt np c0 c1 c3 fg f, rfl, ?_, ref_init _ _ _ _ _ _ _ _ _ _ _ _ _ _ _, rstart_own ?_ (fun t ht => by have := l2 t ht; omega), hbb, rfl⟩
  · refine ref_start h ?_ ⟨fun hg => by have := l1 m hg; omega, fun t ht => by have := l2 t ht; omega⟩ ⟨fun hg => by have := l1 pb hg; omega, fun t ht => by have := l2 t ht; omega⟩ hmp hr hpr n0 n1 t0 t1 p1
    rintro g (hg | ⟨t, ht, rfl⟩)
    · exact hb.block g (l1 g hg).1
    · exact hb.block _ (l2 t ht).1
  · intro g hg
    rcases List.mem_cons.1 hg with rfl | hg
    · omega
    · by_cases e : g = pb
      · omega
      · have : g ∈ [d, kb, sb, wb, fb] := by
          simp only [List.mem_cons, List.not_mem_nil, or_false] at hg ⊢
          omega
        have := l1 g this; omega
set_option maxRecDepth 100000 in
set_option maxHeartbeats 2000000 in
theorem refNew9 (b off m cap nt np : Nat) (hm0 : 0 < m) (hm1 : m ≤ 262144) (ht0 : 0 < nt) (ht1 : nt ≤ 64) (hp : np ≤ 262144) (f : Nat → Int) (W0 : World) (hb : b < W0.heap.size) (hw : ∀ j, j < 8 * m → W0.cell? ⟨b, off + j, none⟩ = some (.int .u64 (f j))) :
    Calls Tryz.prog 63 #[.slice (some ⟨b, off, none⟩) (8 * m) cap, .int .i64 nt, .int .i64 np] W0 (RNew f m nt np W0) := by
  have HO : Hid (∀ w, Below W0.heap.size W0 w → Calls Tryz.prog 126 #[.slice (some ⟨b, off, none⟩) (8 * m) cap, .int .i64 nt] w (ROpen w m nt f)) := Lib.hid fun w h => refOpen25 _ b off m cap nt rfl hm0 hm1 ht0 ht1 f w (Nat.lt_of_lt_of_le hb h.size) fun j hj => (h.cell (p := ⟨b, off + j, none⟩) hb).trans (hw j hj)
  have HB := Lib.hid (And.intro hm0 (And.intro hm1 (And.intro ht0 (And.intro ht1 hp))))
  have mk1 := mk_row 33 48 _ _ 8 Tryz.underlying33 info42 rfl np (by omega) (by omega)
  have i0 : (0 : Int) ≤ (np : Int) := by omega
  clear hb hw
  go_enter Tryz.func63, Tryz.ntmps63
  go_wp2_with fail
  go_region_with (go_at_call 126; refine (HO.out _ (by first | exact (Below.refl _ _).drew | exact ((Below.refl _ _).alloc (Nat.le_refl _) _).drew | exact (Below.refl _ _).drew.alloc (by simp) _)).mono ?_; rintro e w1 ⟨d, kb, sb, wb, fb, c0, c1, c3, fg, rfl, hd⟩; have HD := Lib.hid hd; clear hd)
  all_goals
    go_wp2_with fail
    go_ret
  · obtain ⟨h1, h2, h3, h4, h5⟩ := HB.out
    have z := HD.out.below.size
    refine new_last (W0 := W0.drew) (W := w1) (m := w1.heap.size + 1) (pb := w1.heap.size) HD.out (Nat.le_refl _) (((Below.refl _ _).alloc (Nat.le_refl _) _).alloc (by simp) _) (((((Below.refl _ W0).drew.trans HD.out.below).alloc z _).alloc (by simp at z ⊢; omega) _)) (by omega) (Or.inl (Nat.le_refl _)) (by omega) (two_new w1 _ _).2 ⟨_, _, (two_new w1 _ _).1, fun k hk => made_get _ _ _ hk⟩ h1 h2 h3 h4 h5
  · obtain ⟨h1, h2, h3, h4, h5⟩ := HB.out
    have z := HD.out.below.size
    have zz : W0.heap.size + 1 ≤ w1.heap.size := by simp at z; omega
    have e0 : w1.heap[W0.heap.size]? = some (.cells (madeCells #[.int .u64 0] np) 48) := (HD.out.below.block W0.heap.size (by simp)).trans (heap_alloc_new W0 _)
    refine new_last (W0 := (W0.alloc (.cells (madeCells #[.int .u64 0] np) 48)).drew) (W := w1) (m := w1.heap.size) (pb := W0.heap.size) HD.out (by simp) ((Below.refl _ _).alloc (Nat.le_refl _) _) (((((Below.refl _ W0).alloc (Nat.le_refl _) _).drew.trans (HD.out.below.mono (by simp))).alloc (by omega) _)) (by omega) (Or.inr ⟨Nat.le_refl _, by simp⟩) (by omega) (heap_alloc_new w1 _) ⟨_, _, (Below.heap_alloc w1 _ _ (by omega)).trans e0, fun k hk => made_get _ _ _ hk⟩ h1 h2 h3 h4 h5
end Go.Proofs.YtibelcmdfkgonaaGreat

namespace Go.Proofs.YtibelcmdfkgonaaGreat
open Go.RowKit Go.BigFrame
set_option linter.unusedVariables false
set_option linter.unusedSimpArgs false
/-- How many lines so many words take. -/
def linesI (n : Int) : Int := (n + 7) / 8
theorem linesOf121 (n : Int) (h0 : 0 ≤ n) (h1 : n ≤ 1000000) (w : World) : Calls Tryz.prog 121 #[.int .i64 n] w (Says (.int .i64 (linesI n)) w) := by
  have HC : Hid ((n + 8 - 1) / 8 = linesI n) := Lib.hid (by unfold linesI; omega)
  have HD : Hid ((n + 7) / 8 = linesI n) := Lib.hid rfl
  go_enter Tryz.func121, Tryz.ntmps121
  go_wp2_with fail
  go_ret
  exact ⟨ret_int (by first | exact HC.out | exact HD.out), rfl⟩
theorem cut120 (a n : Int) (b : Nat) (a0 : 0 ≤ a) (a1 : a ≤ 10000000) (n0 : 0 ≤ n) (n1 : n ≤ 10000000) (w : World) (h : w.cell? ⟨b, 0, none⟩ = some (.int .i64 a)) (hf : w.frozen? ⟨b, 0, none⟩ = false) :
    Calls Tryz.prog 120 #[.int .i64 n, .pointer (some ⟨b, 0, none⟩)] w fun e w' => e = .returned (.int .i64 a) ∧ w' = w.setCell ⟨b, 0, none⟩ (.int .i64 (a + n)) := by
  have HE : Hid (a + n - n = a) := Lib.hid (by omega)
  have hc := cell_set_at (.int .i64 (a + n)) h
  go_enter Tryz.func120, Tryz.ntmps120
  go_wp2_with fail
  go_ret
  exact ⟨ret_int (by first | rfl | exact HE.out | omega), rfl⟩
theorem But.below2 {p B : Nat} {w w' : World} (h : But p w w') (hp : B ≤ p) (hs : B ≤ w.heap.size) : Below B w w' := ⟨h.os, h.tape, h.output, h.size, fun k hk => h.block k (by omega) (by omega)⟩
theorem cut120p (a n : Int) (b : Nat) (a0 : 0 ≤ a) (a1 : a ≤ 10000000) (n0 : 0 ≤ n) (n1 : n ≤ 10000000) (w : World) (h : w.heap[b]? = some (.cells #[.int .i64 a] 3 (0, 0))) :
    Calls Tryz.prog 120 #[.int .i64 n, .pointer (some ⟨b, 0, none⟩)] w fun e w' => e = .returned (.int .i64 a) ∧ w'.heap[b]? = some (.cells #[.int .i64 (a + n)] 3 (0, 0)) ∧ But b w w' := by
  refine (cut120 a n b a0 a1 n0 n1 w (cell_row h 0 _ rfl) (free_row h 0)).mono ?_
  rintro e w' ⟨rfl, rfl⟩
  exact ⟨rfl, heap_set _ h, ⟨rfl, rfl, rfl, by simp [World.setCell], fun k _ hk => heap_set_other hk⟩⟩
def Cfg.lv (c : Cfg) : Lv :=
  { th := c.th, sl := c.sl, lo := c.lo, bu := c.bu, pt := 5 + linesI c.bu, pl := 5 + linesI c.bu + c.th, ls := linesI c.lo,
    ps := 5 + linesI c.bu + c.th + c.th * linesI c.lo, ln := 5 + linesI c.bu + c.th + c.th * linesI c.lo + c.sl }
theorem mul_bd (a b m n : Int) (a0 : 0 ≤ a) (a1 : a ≤ m) (b0 : 0 ≤ b) (b1 : b ≤ n) : 0 ≤ a * b ∧ a * b ≤ m * n :=
  ⟨Int.mul_nonneg a0 b0, Int.le_trans (Int.mul_le_mul_of_nonneg_right a1 b0) (Int.mul_le_mul_of_nonneg_left b1 (by omega))⟩
theorem Cfg.lv_ok (c : Cfg) (h : c.right) : c.lv.Ok := by
  obtain ⟨h1, h2, h3, h4, h5, h6, h7, h8⟩ := h
  have b0 : 0 ≤ linesI c.bu ∧ linesI c.bu ≤ 8 := by unfold linesI; omega
  have l0 : 0 ≤ linesI c.lo ∧ linesI c.lo ≤ 8 := by unfold linesI; omega
  have m := mul_bd c.th (linesI c.lo) 64 8 (by omega) h2 l0.1 l0.2
  unfold Cfg.lv
  constructor <;> simp only <;> omega
def OfTo (v : Lv) (W : World) (e : Ending) (W' : World) : Prop := ∃ l, e = .returned (.tuple #[.pointer (some ⟨l, 0, none⟩), .int .i64 0]) ∧ Below W.heap.size W W' ∧ W.heap.size ≤ l ∧ LayAt W' l v
set_option maxRecDepth 100000 in
set_option maxHeartbeats 1000000 in
theorem of58 (c : Cfg) (h : c.right) (w : World) : Calls Tryz.prog 58 #[.agg c.cells] w (OfTo c.lv w) := by
  have HR : Hid (∀ w, Calls Tryz.prog 89 #[.agg c.cells] w (BoolOn true w)) := Lib.hid fun w => by have := right_any c w; rw [bool_yes h] at this; exact this
  have HOK := Lib.hid (c.lv_ok h)
  obtain ⟨h1, h2, h3, h4, h5, h6, h7, h8⟩ := h
  have b0 : 0 ≤ linesI c.bu ∧ linesI c.bu ≤ 8 := by unfold linesI; omega
  have l0 : 0 ≤ linesI c.lo ∧ linesI c.lo ≤ 8 := by unfold linesI; omega
  have m := mul_bd c.th (linesI c.lo) 64 8 (by omega) h2 l0.1 l0.2
  have HB := Lib.hid fun w => linesOf121 c.bu (by omega) (by omega) w
  have HL := Lib.hid fun w => linesOf121 c.lo (by omega) (by omega) w
  unfold Cfg.lv at *
  obtain ⟨th, sl, lo, bu⟩ := c
  simp only [Cfg.cells] at *
  generalize linesI bu = nb at *
  generalize linesI lo = nl at *
  obtain ⟨b0, b1⟩ := b0
  obtain ⟨l0, l1⟩ := l0
  obtain ⟨m0, m1⟩ := m
  go_enter Tryz.func58, Tryz.ntmps58
  go_wp2_with fail
  refine (HR.out _).mono ?_
  rintro e w1 ⟨rfl, hb⟩
  have HB1 : Hid (Below w.heap.size w w1) := Lib.hid (((Below.refl _ _).alloc (Nat.le_refl _) _).trans (hb.mono (by simp)))
  have HS : Hid (w.heap.size < w1.heap.size) := Lib.hid (by have := hb.size; simp at this; omega)
  have HC : Hid (w1.heap[w.heap.size]? = some (.cells #[.int .i64 th, .int .i64 sl, .int .i64 lo, .int .i64 bu] 23)) := Lib.hid ((hb.block _ (by simp)).trans (heap_alloc_new w _))
  obtain ⟨c0, c1, c2, c3, cf⟩ := row_4 HC.out
  have hs := HS.out
  clear hb
  go_wp2_with fail
  refine (HB.out _).mono ?_
  rintro e w2 ⟨rfl, rfl⟩
  go_wp2_with fail
  refine (cut120 5 nb w1.heap.size (by omega) (by omega) b0 (by omega) _ (by simp) (by simp)).mono ?_
  rintro e w2 ⟨rfl, rfl⟩
  go_wp2_with fail
  refine region_tail 5 (by kernel_rfl) (by kernel_rfl) ?_
  simp only [List.take_succ_cons, List.take_zero, List.drop_succ_cons, List.drop_zero]
  still_step
  still_step
  still_step
  still_call (HL.out _)
  still_step
  refine wpStill_nil ?_
  go_wp2_with fail
  refine (cut120 (5 + nb) th w1.heap.size (by omega) (by omega) (by omega) (by omega) _ (by simp) (by simp)).mono ?_
  rintro e w2 ⟨rfl, rfl⟩
  go_wp2_with fail
  obtain ⟨W3, h3⟩ : ∃ W3, W3 = World.drew ((w1.alloc (.cells #[.int .i64 (5 + nb + th)] 3)).alloc (.cells #[.int .i64 th, .int .i64 sl, .int .i64 lo, .int .i64 bu, .int .i64 (5 + nb), .int .i64 0, .int .i64 nl, .int .i64 0, .int .i64 0] 207)) := ⟨_, rfl⟩
  rw [← h3]
  have e3 : W3.heap = ((w1.alloc (.cells #[.int .i64 (5 + nb + th)] 3)).alloc (.cells #[.int .i64 th, .int .i64 sl, .int .i64 lo, .int .i64 bu, .int .i64 (5 + nb), .int .i64 0, .int .i64 nl, .int .i64 0, .int .i64 0] 207)).heap := by rw [h3]; rfl
  have HA : Hid (W3.heap[w1.heap.size]? = some (.cells #[.int .i64 (5 + nb + th)] 3)) := Lib.hid (by rw [e3]; exact (two_new w1 _ _).1)
  have HL3 : Hid (W3.heap[w1.heap.size + 1]? = some (.cells #[.int .i64 th, .int .i64 sl, .int .i64 lo, .int .i64 bu, .int .i64 (5 + nb), .int .i64 0, .int .i64 nl, .int .i64 0, .int .i64 0] 207)) := Lib.hid (by rw [e3]; exact (two_new w1 _ _).2)
  have HC3 : Hid (W3.heap[w.heap.size]? = some (.cells #[.int .i64 th, .int .i64 sl, .int .i64 lo, .int .i64 bu] 23)) := Lib.hid (by rw [e3, Below.heap_alloc _ _ _ (by simp; omega), Below.heap_alloc _ _ _ hs]; exact HC.out)
  have HB3 : Hid (Below w.heap.size w W3) := Lib.hid (by rw [h3]; exact ((HB1.out.alloc HB1.out.size _).alloc (by have := HB1.out.size; simp; omega) _).drew)
  obtain ⟨A, hA⟩ : ∃ A, A = w1.heap.size := ⟨_, rfl⟩
  rw [← hA] at HA HL3 hs ⊢
  have hw : w.heap.size ≤ A := by omega
  have HWA : Hid (w.heap.size ≤ A) := Lib.hid hw
  clear h3 e3 c0 c1 c2 c3 cf HC HB1 HS hA
  obtain ⟨C, hC⟩ : ∃ C, C = w.heap.size := ⟨_, rfl⟩
  rw [← hC] at HC3 hs ⊢
  clear hC hw
  have q0 := cell_row HC3.out 0 _ rfl
  have q1 := cell_row HC3.out 1 _ rfl
  have q2 := cell_row HL3.out 2 _ rfl
  have q4 := cell_row HL3.out 4 _ rfl
  have q6 := cell_row HL3.out 6 _ rfl
  have q7 := cell_row HL3.out 7 _ rfl
  have q8 := cell_row HL3.out 8 _ rfl
  have qf := free_row HL3.out
  have hw2 : IntKind.i64.wrap (th * nl) = th * nl := IntWalk.i64_in _ (by omega)
  have hne : C ≠ A := by omega
  have hne2 : A ≠ C := by omega
  have HCUT := Lib.hid fun w h => cut120p (5 + nb + th) (th * nl) A (by omega) (by omega) m0 (by omega) w h
  have HAS : Hid (A + 1 < W3.heap.size) := Lib.hid (lt_row HL3.out)
  refine region_qd 1 8 (by kernel_rfl) (by kernel_rfl) (fun _ _ d _ _ h => by cases d <;> exact h) ?_
  simp only [List.take_succ_cons, List.take_zero, List.drop_succ_cons, List.drop_zero, Nat.reduceAdd]
  repeat (first | go_big_quiet_skip | (go_big_quiet_want; go_big_quiet_op; go_big_quiet_on))
  refine wpQuiet_nil ?_
  repeat (first | go_big_quiet_skip | (go_big_quiet_want; go_big_quiet_op; go_big_quiet_on))
  refine wpQuiet_nil ?_
  rintro _ ⟨k, rfl⟩
  go_wp2_with fail
  refine (HCUT.out _ (by exact HA.out)).mono ?_
  rintro e w2 ⟨rfl, ha2, hb2⟩
  have HA2 := Lib.hid ha2
  have HL4 := Lib.hid ((hb2.block (A + 1) HAS.out (by omega)).trans HL3.out)
  have HC4 := Lib.hid ((hb2.block C (by have := HAS.out; show C < W3.heap.size; omega) hne).trans HC3.out)
  have HB4 := Lib.hid ((drewN_below HB3.out k).trans (But.below2 hb2 HWA.out HB3.out.size))
  clear ha2 hb2 q0 q1 q2 q4 q6 q7 q8 qf hw2 HCUT HB3 HL3 HC3 HA
  have q1 := cell_row HC4.out 1 _ rfl
  have q2 := cell_row HL4.out 5 _ rfl
  have qf := free_row HL4.out
  go_wp2_with fail
  obtain ⟨W5, h5⟩ : ∃ W5, W5 = w2.setCell ⟨A + 1, 5, none⟩ (.int .i64 (5 + nb + th)) := ⟨_, rfl⟩
  rw [← h5]
  have HA5 : Hid (W5.heap[A]? = some (.cells #[.int .i64 (5 + nb + th + th * nl)] 3)) := Lib.hid (by rw [h5]; exact (heap_set_other (by omega)).trans HA2.out)
  have HL5 : Hid (W5.heap[A + 1]? = some (.cells #[.int .i64 th, .int .i64 sl, .int .i64 lo, .int .i64 bu, .int .i64 (5 + nb), .int .i64 (5 + nb + th), .int .i64 nl, .int .i64 0, .int .i64 0] 207)) := Lib.hid (by rw [h5]; exact heap_set _ HL4.out)
  have HB5 : Hid (Below w.heap.size w W5) := Lib.hid (by rw [h5]; exact HB4.out.setCell (by have := HWA.out; simp; omega) _)
  clear h5 q1 q2 qf HB4 HL4 HA2
  refine (cut120p (5 + nb + th + th * nl) sl A (by omega) (by omega) (by omega) (by omega) W5 HA5.out).mono ?_
  rintro e w6 ⟨rfl, ha6, hb6⟩
  have HA6 := Lib.hid ha6
  have HL6 := Lib.hid ((hb6.block (A + 1) (lt_row HL5.out) (by omega)).trans HL5.out)
  have HB6 := Lib.hid (HB5.out.trans (But.below2 hb6 HWA.out HB5.out.size))
  clear ha6 hb6 HB5 HL5 HA5
  have q0 := cell_row HA6.out 0 _ rfl
  have q7 := cell_row HL6.out 7 _ rfl
  have q8 := cell_row HL6.out 8 _ rfl
  have qf := free_row HL6.out
  go_wp2_with fail
  go_ret2
  refine ⟨A + 1, rfl, ?_, by have := HWA.out; omega, ⟨?_, HOK.out⟩⟩
  · exact (HB6.out.setCell (by have := HWA.out; simp; omega) _).setCell (by have := HWA.out; simp; omega) _
  · exact heap_set _ (heap_set _ HL6.out)

end Go.Proofs.YtibelcmdfkgonaaGreat

namespace Go.Proofs.YtibelcmdfkgonaaGreat
open Go.RowKit Go.BigFrame
set_option linter.unusedVariables false
set_option linter.unusedSimpArgs false
theorem info64 : (Tryz.prog.info? 64).map (fun i => (i.zero, i.size, i.bytes)) = some (some (.agg #[.int .i64 0, .int .i64 0, .int .i64 0]), 3, 24) := by kernel_rfl
/-- A word's name: its kind, and its numbers. -/
abbrev Nm := Int × Int × Int
def nmV (l : List Nm) : List Value := l.flatMap fun p => [.int .i64 p.1, .int .i64 p.2.1, .int .i64 p.2.2]
theorem nmV_snoc (l : List Nm) (a b d : Int) : nmV (l ++ [(a, b, d)]) = nmV l ++ #[Value.int .i64 a, .int .i64 b, .int .i64 d].toList := by simp [nmV]
theorem nmV_len (l : List Nm) : (nmV l).length = l.length * 3 := by
  induction l with
  | nil => rfl
  | cons a t ih => simp only [nmV, List.flatMap_cons, List.length_append, List.length_cons, List.length_nil] at *; rw [ih]; omega
theorem nmV_one (l : List Nm) : ∀ u ∈ nmV l, u.oneCell' = true := by
  intro u hu
  simp only [nmV, List.mem_flatMap, List.mem_cons, List.not_mem_nil, or_false] at hu
  obtain ⟨p, -, rfl | rfl | rfl⟩ := hu <;> rfl
/-- Words' names. -/
def WordsOf (n : Nat) (l : List Nm) (W : World) (e : Ending) (W' : World) : Prop := ∃ v, e = .returned v ∧ Below W.heap.size W W' ∧ W'.ownsRow W.heap.size 64 3 v n (nmV l)
structure NamesAt (W : World) (c : Array Value) (n : Nat) (l : List Nm) (v : Value) (wr : World) : Prop where
  below : Below W.heap.size W wr
  box : wr.heap[W.heap.size]? = some (.cells c 23 (0, 0))
  own : wr.ownsRow (W.heap.size + 1) 64 3 v n (nmV l)
theorem NamesAt.push {W wr w' : World} {c : Array Value} {n : Nat} {l : List Nm} {v v' : Value} (h : NamesAt W c n l v wr) (hv : ∀ k, v.ownBlock = some k → W.heap.size + 1 ≤ k) {a b d : Int}
    (ho : w'.ownsRow (W.heap.size + 1) 64 3 v' (n + 1) (nmV l ++ #[Value.int .i64 a, .int .i64 b, .int .i64 d].toList)) (hg : wr.grownBy w' v.ownBlock) (hb : ∀ B W0, Below B W0 wr → B ≤ W.heap.size + 1 → Below B W0 w') : NamesAt W c (n + 1) (l ++ [(a, b, d)]) v' w' :=
  ⟨hb _ _ h.below (by omega), (hg.block _ (lt_row h.box) (fun e => by have := hv _ e.symm; omega)).trans h.box, by rw [nmV_snoc]; exact ho⟩
theorem own_mono {w : World} {b b' : Nat} {e : TypeId} {size : Nat} {v : Value} {n : Nat} {xs : List Value} (h : w.ownsRow b e size v n xs) (hb : b' ≤ b) : w.ownsRow b' e size v n xs := by
  refine ⟨h.1, ?_⟩
  rcases h.2 with hn | ⟨g, cap, cur, hv, h2, rest⟩
  · exact .inl hn
  · exact .inr ⟨g, cap, cur, hv, Nat.le_trans hb h2, rest⟩
/-- So many names of a kind. -/
def kindL (kind : Int) (k : Nat) : List Nm := (List.range k).map fun (i : Nat) => (kind, (i : Int), 0)
theorem kindL_succ (kind : Int) (k : Nat) : kindL kind (k + 1) = kindL kind k ++ [(kind, (k : Int), 0)] := by simp [kindL, List.range_succ]
def passingL (th sl : Nat) : List Nm := [((14 : Int), (0 : Int), (0 : Int)), (15, 0, 0)] ++ kindL 16 th ++ kindL 17 sl
set_option maxRecDepth 100000 in
theorem passing60 (th sl : Nat) (lo' bu : Int) (h1 : th ≤ 64) (h2 : sl ≤ 65536) (W : World) :
    Calls Tryz.prog 60 #[.agg #[.int .i64 (th : Int), .int .i64 (sl : Int), .int .i64 lo', .int .i64 bu]] W (WordsOf (2 + th + sl) (passingL th sl) W) := by
  obtain ⟨i64, hi, hz0, hz1, hz2⟩ := info_parts info64
  obtain ⟨p0, hp0⟩ : ∃ p0 : List Nm, p0 = [((14 : Int), (0 : Int), (0 : Int)), (15, 0, 0)] := ⟨_, rfl⟩
  unfold passingL
  rw [← hp0]
  have HP0 := Lib.hid hp0
  clear hp0
  go_enter Tryz.func60, Tryz.ntmps60
  go_wp2_with fail
  obtain ⟨c, hc⟩ : ∃ c, c = #[Value.int .i64 (th : Int), Value.int .i64 (sl : Int), Value.int .i64 lo', Value.int .i64 bu] := ⟨_, rfl⟩
  have H0 : Hid (NamesAt W c (2 + 0) (p0 ++ kindL 16 0) (.slice (some ⟨W.heap.size + 1, 0, none⟩) 2 2) ((W.alloc (.cells #[.int .i64 (th : Int), .int .i64 (sl : Int), .int .i64 lo', .int .i64 bu] 23)).alloc (.cells #[.int .i64 14, .int .i64 0, .int .i64 0, .int .i64 15, .int .i64 0, .int .i64 0] 64))) := Lib.hid
    ⟨((Below.refl _ _).alloc (Nat.le_refl _) _).alloc (by simp) _, by rw [hc, Below.heap_alloc _ _ _ (by simp)]; exact heap_alloc_new _ _,
      by
        have e : nmV (p0 ++ kindL 16 0) = [.int .i64 14, .int .i64 0, .int .i64 0, .int .i64 15, .int .i64 0, .int .i64 0] := by rw [HP0.out]; rfl
        rw [e]
        exact ⟨rfl, .inr ⟨W.heap.size + 1, 2, #[.int .i64 14, .int .i64 0, .int .i64 0, .int .i64 15, .int .i64 0, .int .i64 0], rfl, Nat.le_refl _, by
          have := heap_alloc_new (W.alloc (.cells #[.int .i64 (th : Int), .int .i64 (sl : Int), .int .i64 lo', .int .i64 bu] 23)) (.cells #[.int .i64 14, .int .i64 0, .int .i64 0, .int .i64 15, .int .i64 0, .int .i64 0] 64)
          rw [World.size_alloc] at this; exact this, Nat.le_refl _, by unfold maxLen; omega, rfl, rfl⟩⟩⟩
  have HCC := Lib.hid hc
  clear hc
  go_loopw [3, 4] (fun v i wr => ∃ k : Nat, k ≤ th ∧ i = .int .i64 k ∧ Hid (NamesAt W c (2 + k) (p0 ++ kindL 16 k) v wr)) (fun _ i _ => th - (intOf i).toNat)
  case atStart => exact ⟨0, Nat.zero_le _, rfl, H0⟩
  case round =>
    obtain ⟨k, hk, rfl, HK⟩ := hrel
    have cb : wr.cell? ⟨W.heap.size, 0, none⟩ = some (.int .i64 (th : Int)) := by rw [cell_in HK.out.box, HCC.out]; rfl
    by_cases hlt : k < th
    · have d1 : decide ((k : Int) < (th : Int)) = true := bool_yes (by omega)
      obtain ⟨va, vc, rfl⟩ := own_slice_n HK.out.own
      have HO := Lib.hid HK.out.own
      have HSZ : Hid (W.heap.size + 1 ≤ wr.heap.size) := Lib.hid (lt_row HK.out.box)
      have HLT := Lib.hid hlt
      clear hlt
      obtain ⟨n0, hn0⟩ : ∃ n0, n0 = 2 + k := ⟨_, rfl⟩
      obtain ⟨l0, hl0⟩ : ∃ l0, l0 = p0 ++ kindL 16 k := ⟨_, rfl⟩
      rw [← hn0, ← hl0] at HO HK
      rw [← hn0]
      have HN0 := Lib.hid hn0
      have HL0 := Lib.hid hl0
      clear hn0 hl0
      go_wp2_with (at_builtin; refine wpList_push rfl _ _ 125 rfl (W.heap.size + 1) 64 i64 _ 3 24 Tryz.underlying125 hi hz0 hz1 hz2 rfl (by decide) wr HSZ.out (.slice va n0 vc) n0 (nmV l0) rfl HO.out #[.int .i64 16, .int .i64 (k : Int), .int .i64 0] 1 1 rfl rfl (by simp [Value.oneCell']) (by have := HN0.out; unfold maxLen; omega) (by have := HN0.out; omega) ?_; intro v' w' hown hgr hbel hne; have HP := Lib.hid (HK.out.push (fun q hq => (HO.out.lt q hq).1) hown hgr hbel); clear hown hgr hbel hne)
      go_roundw
      case rel => exact ⟨k + 1, by have := HLT.out; omega, by go_num, by have h := HP.out; rw [HN0.out, HL0.out, List.append_assoc, ← kindL_succ] at h; exact Lib.hid h⟩
      case measure => have := HLT.out; simp [intOf]; omega
    · obtain rfl : k = th := by omega
      have d1 : decide ((k : Int) < (k : Int)) = false := by simp
      go_wp2
      obtain ⟨m, hm⟩ : ∃ m, m = 2 + k := ⟨_, rfl⟩
      obtain ⟨p1, hp1⟩ : ∃ p1, p1 = p0 ++ kindL 16 k := ⟨_, rfl⟩
      have hM := HK.out
      rw [← hm, ← hp1, show p1 = p1 ++ kindL 17 0 by simp [kindL]] at hM
      have HM := Lib.hid hM
      clear hM
      have HMM := Lib.hid hm
      have HP1 := Lib.hid hp1
      rw [← hm]
      clear HK cb hm H0 hp1
      go_loopw [3, 5] (fun v i wr => ∃ q : Nat, q ≤ sl ∧ i = .int .i64 q ∧ Hid (NamesAt W c (m + q) (p1 ++ kindL 17 q) v wr)) (fun _ i _ => sl - (intOf i).toNat)
      case atStart => exact ⟨0, Nat.zero_le _, rfl, HM⟩
      case round =>
        obtain ⟨q, hq, rfl, HQ⟩ := hrel
        have cb : wr.cell? ⟨W.heap.size, 1, none⟩ = some (.int .i64 (sl : Int)) := by rw [cell_in HQ.out.box, HCC.out]; rfl
        by_cases hlt : q < sl
        · have d1 : decide ((q : Int) < (sl : Int)) = true := bool_yes (by omega)
          obtain ⟨va, vc, rfl⟩ := own_slice_n HQ.out.own
          have HO := Lib.hid HQ.out.own
          have HSZ : Hid (W.heap.size + 1 ≤ wr.heap.size) := Lib.hid (lt_row HQ.out.box)
          have HLT := Lib.hid hlt
          clear hlt
          obtain ⟨n0, hn0⟩ : ∃ n0, n0 = m + q := ⟨_, rfl⟩
          obtain ⟨l0, hl0⟩ : ∃ l0, l0 = p1 ++ kindL 17 q := ⟨_, rfl⟩
          rw [← hn0, ← hl0] at HO HQ
          rw [← hn0]
          have HN0 := Lib.hid hn0
          have HL0 := Lib.hid hl0
          clear hn0 hl0
          go_wp2_with (at_builtin; refine wpList_push rfl _ _ 125 rfl (W.heap.size + 1) 64 i64 _ 3 24 Tryz.underlying125 hi hz0 hz1 hz2 rfl (by decide) wr HSZ.out (.slice va n0 vc) n0 (nmV l0) rfl HO.out #[.int .i64 17, .int .i64 (q : Int), .int .i64 0] 1 1 rfl rfl (by simp [Value.oneCell']) (by have := HN0.out; have := HMM.out; have := HLT.out; unfold maxLen; omega) (by have := HN0.out; have := HMM.out; have := HLT.out; omega) ?_; intro v' w' hown hgr hbel hne; have HP := Lib.hid (HQ.out.push (fun q hq => (HO.out.lt q hq).1) hown hgr hbel); clear hown hgr hbel hne)
          go_roundw
          case rel => exact ⟨q + 1, by have := HLT.out; omega, by go_num, by have h := HP.out; rw [HN0.out, HL0.out, List.append_assoc, ← kindL_succ] at h; exact Lib.hid h⟩
          case measure => have := HLT.out; simp [intOf]; omega
        · obtain rfl : q = sl := by omega
          have d1 : decide ((q : Int) < (q : Int)) = false := by simp
          go_wp2
          go_ret
          exact ⟨_, rfl, HQ.out.below, by rw [← HMM.out, ← HP1.out]; exact own_mono HQ.out.own (Nat.le_succ _)⟩
end Go.Proofs.YtibelcmdfkgonaaGreat

namespace Go.Proofs.YtibelcmdfkgonaaGreat
open Go.RowKit Go.BigFrame
set_option linter.unusedVariables false
set_option linter.unusedSimpArgs false
def up8 (n : Nat) : Nat := (n + 7) / 8 * 8
def zerosL (k : Nat) : List Nm := List.replicate k (0, 0, 0)
theorem zerosL_succ (k : Nat) : zerosL (k + 1) = zerosL k ++ [(0, 0, 0)] := List.replicate_succ'
def fillL (n : Nat) (l : List Nm) : List Nm := l ++ zerosL (up8 n - n)
def FillTo (W : World) (c : Array Value) (n : Nat) (l : List Nm) (e : Ending) (w' : World) : Prop := ∃ v', e = .returned v' ∧ NamesAt W c (up8 n) (fillL n l) v' w'
set_option maxRecDepth 100000 in
theorem fill122 (W : World) (c : Array Value) (n : Nat) (hn : n ≤ 1000000) (l : List Nm) (v : Value) (w : World) (h : NamesAt W c n l v w) : Calls Tryz.prog 122 #[v] w (FillTo W c n l) := by
  obtain ⟨i64, hi, hz0, hz1, hz2⟩ := info_parts info64
  have H0 : Hid (NamesAt W c n (l ++ zerosL (n - n)) v w) := Lib.hid (by rw [Nat.sub_self, show zerosL 0 = [] from rfl, List.append_nil]; exact h)
  have HU : Hid (n ≤ up8 n ∧ up8 n ≤ 1000008 ∧ up8 n % 8 = 0 ∧ up8 n < n + 8) := Lib.hid (by unfold up8; omega)
  clear h
  unfold FillTo fillL
  generalize up8 n = u at *
  go_enter Tryz.func122, Tryz.ntmps122
  go_wp2_with fail
  go_loopg [0] (u - n) (fun g v wr => ∃ k : Nat, k + g = u ∧ n ≤ k ∧ Hid (NamesAt W c k (l ++ zerosL (k - n)) v wr))
  case atStart => exact ⟨n, by have := HU.out; omega, Nat.le_refl _, H0⟩
  case round =>
    obtain ⟨k, hk, hnk, HK⟩ := hrel
    obtain ⟨va, vc, rfl⟩ := own_slice_n HK.out.own
    have HO := Lib.hid HK.out.own
    have HSZ : Hid (W.heap.size + 1 ≤ wr.heap.size) := Lib.hid (lt_row HK.out.box)
    have HKU : Hid (k + gk = u ∧ n ≤ k) := Lib.hid ⟨hk, hnk⟩
    clear hk hnk
    obtain ⟨l0, hl0⟩ : ∃ l0, l0 = l ++ zerosL (k - n) := ⟨_, rfl⟩
    rw [← hl0] at HO HK
    have HL0 := Lib.hid hl0
    clear hl0
    by_cases hlt : k % 8 = 0
    · have d1 : ((k : Int) % 8 == 0) = true := by rw [beq_iff_eq]; omega
      have d2 : ((k : Int) % 8 != 0) = false := by simp [bne, d1]
      have HLT := Lib.hid hlt
      clear hlt
      go_wp2_with fail
      obtain rfl : k = u := by have := HKU.out; have := HU.out; have := HLT.out; omega
      go_ret
      exact ⟨_, rfl, by rw [← HL0.out]; exact HK.out⟩
    · have d1 : ((k : Int) % 8 == 0) = false := by rw [beq_eq_false_iff_ne]; omega
      have d2 : ((k : Int) % 8 != 0) = true := by simp [bne, d1]
      have HLT : Hid (k < u) := Lib.hid (by have := HKU.out; have := HU.out; omega)
      clear hlt
      go_wp2_with (at_builtin; refine wpList_push rfl _ _ 125 rfl (W.heap.size + 1) 64 i64 _ 3 24 Tryz.underlying125 hi hz0 hz1 hz2 rfl (by decide) wr HSZ.out (.slice va k vc) k (nmV l0) rfl HO.out #[.int .i64 0, .int .i64 0, .int .i64 0] 1 1 rfl rfl (by simp [Value.oneCell']) (by have := HLT.out; have := HU.out; unfold maxLen; omega) (by have := HLT.out; have := HU.out; omega) ?_; intro v' w' hown hgr hbel hne; have HP := Lib.hid (HK.out.push (fun q hq => (HO.out.lt q hq).1) hown hgr hbel); clear hown hgr hbel hne)
      go_roundg (gk - 1)
      case rel => exact ⟨k + 1, by have := HKU.out; have := HLT.out; omega, by have := HKU.out; omega, by have h := HP.out; rw [HL0.out, List.append_assoc, ← zerosL_succ, show k - n + 1 = k + 1 - n by have := HKU.out; omega] at h; exact Lib.hid h⟩
      case measure => have := HKU.out; have := HLT.out; omega
end Go.Proofs.YtibelcmdfkgonaaGreat
