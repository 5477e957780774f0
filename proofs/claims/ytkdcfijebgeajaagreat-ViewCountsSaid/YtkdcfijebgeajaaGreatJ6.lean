/- The document's device: flush, and what may not be.
   The document's device: fence.
   The document's device: fence, walked.
   The document's memory: an access, plain.
   Layers 4, 7: fence and flush as accesses. -/
import Derived.Test.YtkdcfijebgeajaaGreatJ5
import Derived.IntWalk
import Derived.Test.YtkdcfijebgeajaaGreatJ3
namespace Go.Proofs.YtkdcfijebgeajaaGreat
open Go.RowKit Go.BigFrame
set_option linter.unusedVariables false
set_option linter.unusedSimpArgs false
def Rv.flushE (M : Rv) (t l : Int) : Int := if threadE M.nt t = 0 then lineE M.n l else 1
def Rv.flushed (M : Rv) (t l : Int) : Rv := { M with fl := upd M.fl t.toNat (upd (M.fl t.toNat) l.toNat true) }
/-- It answers; the document's memory is as told; nothing else has turned. -/
def RDone (M M' : Rv) (v : Value) (W : World) (e : Ending) (W' : World) : Prop := e = .returned v ∧ RefAt W' M' ∧ Turn M.own W W'
theorem RefAt.set_fl {W : World} {M : Rv} (h : RefAt W M) {t : Nat} (ht : t < M.nt) (j : Nat) (v : Bool) :
    RefAt (W.setCell ⟨M.fg t, j, none⟩ (.bool v)) { M with fl := upd M.fl t (upd (M.fl t) j v) } := by
  have o : ∀ k, k ∈ M.blocks → (W.setCell ⟨M.fg t, j, none⟩ (.bool v)).heap[k]? = W.heap[k]? := fun k hk => heap_set_other fun e => h.alone t ht (e ▸ hk)
  exact { h with
    row := (o _ (by simp [Rv.blocks])).trans h.row
    dev := (o _ (by simp [Rv.blocks])).trans h.dev
    kept := h.kept.keep (o _ (by simp [Rv.blocks]))
    seen := h.seen.keep (o _ (by simp [Rv.blocks]))
    wr := h.wr.keep (o _ (by simp [Rv.blocks]))
    fb := h.fb.keep (o _ (by simp [Rv.blocks]))
    pass := h.pass.keep (o _ (by simp [Rv.blocks]))
    fl := fun t' ht' => by
      show RowAt _ (M.fg t') M.n fun k => .bool (upd M.fl t (upd (M.fl t) j v) t' k)
      by_cases e : t' = t
      · subst e
        rw [upd_at]
        have := (h.fl _ ht).set j (.bool v)
        simp only [upd_map]
        exact this
      · rw [upd_ne _ _ e]
        exact (h.fl t' ht').keep (heap_set_other (h.lone t' ht' t ht e)) }
theorem dev_cells {W : World} {b : Nat} {k0 k1 k2 k3 : Value} {t : TypeId} (h : W.heap[b]? = some (.cells #[k0, k1, k2, k3] t (0, 0))) :
    W.cell? ⟨b, 0, none⟩ = some k0 ∧ W.cell? ⟨b, 1, none⟩ = some k1 ∧ W.cell? ⟨b, 2, none⟩ = some k2 ∧ W.cell? ⟨b, 3, none⟩ = some k3 := by
  refine ⟨?_, ?_, ?_, ?_⟩ <;> (rw [cell_of_row _ _ _ _ _ _ h]; rfl)
set_option maxRecDepth 100000 in
theorem refDo44_flush (M : Rv) (t l : Int) (W : World) (h : RefAt W M) :
    Calls Tryz.prog 112 #[.pointer (some ⟨M.d, 0, none⟩), .int .i64 0, .int .i64 t, .int .i64 l] W (RDone M (if M.flushE t l = 0 then M.flushed t l else M) (.int .i64 (M.flushE t l)) W) := by
  obtain ⟨y0, y1, y2, y3⟩ := dev_cells h.dev
  have hn := h.n1
  have ht1 := h.t1
  have HH := Lib.hid h
  clear h
  unfold Rv.flushE threadE lineE
  by_cases h0 : t < 0
  · have d0 : decide (t < 0) = true := bool_yes h0
    rw [if_pos (show t < 0 ∨ (M.nt : Int) ≤ t from Or.inl h0), if_neg (by omega : ¬ ((1 : Int) = 0)), if_neg (by omega : ¬ ((1 : Int) = 0))]
    clear h0
    go_enter Tryz.func112, Tryz.ntmps112
    go_wp2_with fail
    go_ret
    exact ⟨rfl, HH.out, Turn.refl _ _⟩
  · have d0 : decide (t < 0) = false := bool_no h0
    by_cases h1 : (M.nt : Int) ≤ t
    · have d1 : decide ((M.nt : Int) ≤ t) = true := bool_yes h1
      rw [if_pos (show t < 0 ∨ (M.nt : Int) ≤ t from Or.inr h1), if_neg (by omega : ¬ ((1 : Int) = 0)), if_neg (by omega : ¬ ((1 : Int) = 0))]
      clear h0 h1
      go_enter Tryz.func112, Tryz.ntmps112
      go_wp2_with fail
      go_ret
      exact ⟨rfl, HH.out, Turn.refl _ _⟩
    · have d1 : decide ((M.nt : Int) ≤ t) = false := bool_no h1
      rw [if_neg (show ¬ (t < 0 ∨ (M.nt : Int) ≤ t) by omega)]
      simp only [if_true]
      by_cases h2 : l < 0
      · have d2 : decide (l < 0) = true := bool_yes h2
        rw [if_pos (show l < 0 ∨ (M.n : Int) ≤ l from Or.inl h2), if_neg (by omega : ¬ ((5 : Int) = 0))]
        clear h0 h1 h2
        go_enter Tryz.func112, Tryz.ntmps112
        go_wp2_with fail
        go_ret
        exact ⟨rfl, HH.out, Turn.refl _ _⟩
      · have d2 : decide (l < 0) = false := bool_no h2
        by_cases h3 : (M.n : Int) ≤ l
        · have d3 : decide ((M.n : Int) ≤ l) = true := bool_yes h3
          rw [if_pos (show l < 0 ∨ (M.n : Int) ≤ l from Or.inr h3), if_neg (by omega : ¬ ((5 : Int) = 0))]
          clear h0 h1 h2 h3
          go_enter Tryz.func112, Tryz.ntmps112
          go_wp2_with fail
          go_ret
          exact ⟨rfl, HH.out, Turn.refl _ _⟩
        · have d3 : decide ((M.n : Int) ≤ l) = false := bool_no h3
          rw [if_neg (show ¬ (l < 0 ∨ (M.n : Int) ≤ l) by omega)]
          simp only [if_true]
          obtain ⟨a, rfl⟩ := Int.eq_ofNat_of_zero_le (show 0 ≤ t by omega)
          obtain ⟨b, rfl⟩ := Int.eq_ofNat_of_zero_le (show 0 ≤ l by omega)
          have ha : a < M.nt := by omega
          have hb : b < M.n := by omega
          have HS := Lib.hid (HH.out.set_fl ha b true)
          have HO : Hid (M.own (M.fg a)) := Lib.hid (Or.inr ⟨a, ha, rfl⟩)
          have g1 := HH.out.fb.cell ha
          have g2 := (HH.out.fl a ha).cell hb
          have g3 := (HH.out.fl a ha).free b
          have i0 : (0 : Int) ≤ (a : Int) := by omega
          have i1 : (a : Int) < (M.nt : Int) := by omega
          have i2 : (0 : Int) ≤ (b : Int) := by omega
          have i3 : (b : Int) < (M.n : Int) := by omega
          have HE : Hid (M.flushed (a : Int) (b : Int) = { M with fl := upd M.fl a (upd (M.fl a) b true) }) := Lib.hid rfl
          generalize M.fl a b = u at *
          generalize M.fg a = g at *
          generalize M.fc a = c at *
          obtain ⟨N, hN⟩ : ∃ N, N = M.flushed (a : Int) (b : Int) := ⟨_, rfl⟩
          rw [← hN] at HE ⊢
          have HS2 : Hid (RefAt (W.setCell ⟨g, b, none⟩ (.bool true)) N) := Lib.hid (by rw [HE.out]; exact HS.out)
          clear ha hb h0 h1 h2 h3
          go_enter Tryz.func112, Tryz.ntmps112
          go_wp2_with fail
          go_ret
          exact ⟨rfl, HS2.out, (Turn.refl _ _).set (fun _ => HO.out) _ _⟩
set_option maxRecDepth 100000 in
theorem refDo44_fence_no (M : Rv) (t l : Int) (W : World) (h : RefAt W M) (hn : threadE M.nt t ≠ 0) :
    Calls Tryz.prog 112 #[.pointer (some ⟨M.d, 0, none⟩), .int .i64 1, .int .i64 t, .int .i64 l] W (RDone M M (.int .i64 1) W) := by
  obtain ⟨y0, y1, y2, y3⟩ := dev_cells h.dev
  have ht1 := h.t1
  have HH := Lib.hid h
  clear h
  unfold threadE at hn
  by_cases h0 : t < 0
  · have d0 : decide (t < 0) = true := bool_yes h0
    clear h0 hn
    go_enter Tryz.func112, Tryz.ntmps112
    go_wp2_with fail
    go_ret
    exact ⟨rfl, HH.out, Turn.refl _ _⟩
  · have d0 : decide (t < 0) = false := bool_no h0
    have h1 : (M.nt : Int) ≤ t := by
      rcases Int.lt_or_le t (M.nt : Int) with h | h
      · rw [if_neg (by omega)] at hn; exact absurd rfl hn
      · exact h
    have d1 : decide ((M.nt : Int) ≤ t) = true := bool_yes h1
    clear h0 h1 hn
    go_enter Tryz.func112, Tryz.ntmps112
    go_wp2_with fail
    go_ret
    exact ⟨rfl, HH.out, Turn.refl _ _⟩
end Go.Proofs.YtkdcfijebgeajaaGreat

namespace Go.Proofs.YtkdcfijebgeajaaGreat
open Go.RowKit Go.BigFrame
set_option linter.unusedVariables false
set_option linter.unusedSimpArgs false
theorem RefAt.set_kept {W : World} {M : Rv} (h : RefAt W M) (k : Nat) (v : Int) : RefAt (W.setCell ⟨M.kb, k, none⟩ (.int .u64 v)) { M with kept := upd M.kept k v } := by
  have n := h.ne
  exact { h with
    row := (heap_set_other n.mkb).trans h.row
    dev := (heap_set_other n.dk).trans h.dev
    kept := by
      have := h.kept.set k (.int .u64 v)
      simp only [upd_map]; exact this
    seen := h.seen.keep (heap_set_other (Ne.symm n.ks))
    wr := h.wr.keep (heap_set_other (Ne.symm n.kw))
    fb := h.fb.keep (heap_set_other (Ne.symm n.kf))
    pass := h.pass.keep (heap_set_other (Ne.symm n.kp))
    fl := fun t ht => (h.fl t ht).keep (heap_set_other fun e => h.alone t ht (by rw [e]; simp [Rv.blocks])) }
theorem RefAt.set_wr {W : World} {M : Rv} (h : RefAt W M) (k : Nat) (v : Int) (h0 : 0 ≤ v) (h1 : v ≤ M.wm) : RefAt (W.setCell ⟨M.wb, k, none⟩ (.int .i64 v)) { M with wr := upd M.wr k v } := by
  have n := h.ne
  exact { h with
    row := (heap_set_other n.mw).trans h.row
    dev := (heap_set_other n.dw).trans h.dev
    kept := h.kept.keep (heap_set_other n.kw)
    seen := h.seen.keep (heap_set_other n.sw)
    wr := by
      have := h.wr.set k (.int .i64 v)
      simp only [upd_map]; exact this
    fb := h.fb.keep (heap_set_other (Ne.symm n.wf))
    pass := h.pass.keep (heap_set_other (Ne.symm n.wp))
    fl := fun t ht => (h.fl t ht).keep (heap_set_other fun e => h.alone t ht (by rw [e]; simp [Rv.blocks]))
    wr0 := fun j hj => by
      show 0 ≤ upd M.wr k v j ∧ upd M.wr k v j ≤ M.wm
      by_cases e : j = k
      · rw [e, upd_at]; exact ⟨h0, h1⟩
      · rw [upd_ne _ _ e]; exact h.wr0 j hj }
/-- The first k lines that a thread flushes are written back. -/
def Rv.upto (M : Rv) (t k : Nat) : Rv := { M with kept := fun i => if i / 8 < k ∧ M.fl t (i / 8) = true then M.seen i else M.kept i, wr := fun j => if j < k ∧ M.fl t j = true then M.wr j + 1 else M.wr j, wm := M.wm + 1 }
/-- .. and j words of the next one. -/
def Rv.upto2 (M : Rv) (t k j : Nat) : Rv := { M.upto t k with kept := fun i => if i / 8 = k ∧ i % 8 < j then M.seen i else (M.upto t k).kept i }
theorem upto_0 {W : World} {M : Rv} (h : RefAt W M) (t : Nat) : RefAt W (M.upto t 0) := by
  exact { h with
    kept := h.kept.congr fun k _ => by simp [Rv.upto]
    wr := h.wr.congr fun k _ => by simp [Rv.upto]
    wr0 := fun k hk => by have := h.wr0 k hk; simp [Rv.upto]; omega }
theorem upto2_0 (M : Rv) (t k : Nat) : M.upto2 t k 0 = M.upto t k := by
  unfold Rv.upto2
  have : (fun i => if i / 8 = k ∧ i % 8 < 0 then M.seen i else (M.upto t k).kept i) = (M.upto t k).kept := by funext i; rw [if_neg (by omega)]
  rw [this]
theorem upto2_step (M : Rv) (t k j : Nat) (hj : j < 8) : { M.upto2 t k j with kept := upd (M.upto2 t k j).kept (8 * k + j) (M.seen (8 * k + j)) } = M.upto2 t k (j + 1) := by
  have : upd (M.upto2 t k j).kept (8 * k + j) (M.seen (8 * k + j)) = (M.upto2 t k (j + 1)).kept := by
    funext i
    show upd (fun i => if i / 8 = k ∧ i % 8 < j then M.seen i else (M.upto t k).kept i) (8 * k + j) (M.seen (8 * k + j)) i = if i / 8 = k ∧ i % 8 < j + 1 then M.seen i else (M.upto t k).kept i
    by_cases e : i = 8 * k + j
    · rw [e, upd_at, if_pos (by omega)]
    · rw [upd_ne _ _ e]
      by_cases c : i / 8 = k ∧ i % 8 < j
      · rw [if_pos c, if_pos (by omega)]
      · rw [if_neg c, if_neg (by omega)]
  rw [this]; rfl
theorem upto_yes (M : Rv) (t k : Nat) (h : M.fl t k = true) : { M.upto2 t k 8 with wr := upd (M.upto2 t k 8).wr k (M.wr k + 1) } = M.upto t (k + 1) := by
  have e1 : upd (M.upto2 t k 8).wr k (M.wr k + 1) = (M.upto t (k + 1)).wr := by
    funext i
    show upd (fun j => if j < k ∧ M.fl t j = true then M.wr j + 1 else M.wr j) k (M.wr k + 1) i = if i < k + 1 ∧ M.fl t i = true then M.wr i + 1 else M.wr i
    by_cases e : i = k
    · rw [e, upd_at, if_pos ⟨by omega, h⟩]
    · rw [upd_ne _ _ e]
      by_cases c : i < k ∧ M.fl t i = true
      · rw [if_pos c, if_pos ⟨by omega, c.2⟩]
      · rw [if_neg c, if_neg (fun c' => c ⟨by omega, c'.2⟩)]
  have e2 : (M.upto2 t k 8).kept = (M.upto t (k + 1)).kept := by
    funext i
    show (if i / 8 = k ∧ i % 8 < 8 then M.seen i else if i / 8 < k ∧ M.fl t (i / 8) = true then M.seen i else M.kept i) = if i / 8 < k + 1 ∧ M.fl t (i / 8) = true then M.seen i else M.kept i
    by_cases e : i / 8 = k
    · rw [if_pos ⟨e, by omega⟩, if_pos ⟨by omega, by rw [e]; exact h⟩]
    · rw [if_neg (fun c => e c.1)]
      by_cases c : i / 8 < k ∧ M.fl t (i / 8) = true
      · rw [if_pos c, if_pos ⟨by omega, c.2⟩]
      · rw [if_neg c, if_neg (fun c' => c ⟨by omega, c'.2⟩)]
  rw [e1]
  show ({ M.upto t k with kept := (M.upto2 t k 8).kept, wr := (M.upto t (k + 1)).wr } : Rv) = _
  rw [e2]; rfl
theorem upto_no (M : Rv) (t k : Nat) (h : M.fl t k = false) : M.upto t (k + 1) = M.upto t k := by
  have e1 : (M.upto t (k + 1)).wr = (M.upto t k).wr := by
    funext i
    show (if i < k + 1 ∧ M.fl t i = true then M.wr i + 1 else M.wr i) = if i < k ∧ M.fl t i = true then M.wr i + 1 else M.wr i
    by_cases e : i = k
    · rw [e, h]; simp
    · by_cases c : i < k ∧ M.fl t i = true
      · rw [if_pos c, if_pos ⟨by omega, c.2⟩]
      · rw [if_neg c, if_neg (fun c' => c ⟨by omega, c'.2⟩)]
  have e2 : (M.upto t (k + 1)).kept = (M.upto t k).kept := by
    funext i
    show (if i / 8 < k + 1 ∧ M.fl t (i / 8) = true then M.seen i else M.kept i) = if i / 8 < k ∧ M.fl t (i / 8) = true then M.seen i else M.kept i
    by_cases e : i / 8 = k
    · rw [e, h]; simp
    · by_cases c : i / 8 < k ∧ M.fl t (i / 8) = true
      · rw [if_pos c, if_pos ⟨by omega, c.2⟩]
      · rw [if_neg c, if_neg (fun c' => c ⟨by omega, c'.2⟩)]
  show ({ M with kept := (M.upto t (k + 1)).kept, wr := (M.upto t (k + 1)).wr, wm := M.wm + 1 } : Rv) = _
  rw [e1, e2]; rfl
/-- Of the first threads, and of the next one's first lines, what a thread flushed is none now. -/
def Rv.clears (M : Rv) (t a b : Nat) : Rv := { M with fl := fun x y => if x = t ∧ y < M.n ∧ (x < a ∨ x = a ∧ y < b) then false else M.fl x y }
theorem clears_0 (M : Rv) (t : Nat) : M.clears t 0 0 = M := by
  unfold Rv.clears
  have : (fun x y => if x = t ∧ y < M.n ∧ (x < 0 ∨ x = 0 ∧ y < 0) then false else M.fl x y) = M.fl := by funext x y; rw [if_neg (by omega)]
  rw [this]
theorem clears_next (M : Rv) (t a : Nat) : M.clears t a M.n = M.clears t (a + 1) 0 := by
  unfold Rv.clears
  have : (fun x y => if x = t ∧ y < M.n ∧ (x < a ∨ x = a ∧ y < M.n) then false else M.fl x y) = fun x y => if x = t ∧ y < M.n ∧ (x < a + 1 ∨ x = a + 1 ∧ y < 0) then false else M.fl x y := by
    funext x y
    by_cases c : x = t ∧ y < M.n ∧ (x < a ∨ x = a ∧ y < M.n)
    · rw [if_pos c, if_pos (by omega)]
    · rw [if_neg c, if_neg (by omega)]
  rw [this]
theorem clears_other (M : Rv) (t a b : Nat) (h : a ≠ t) : M.clears t a (b + 1) = M.clears t a b := by
  unfold Rv.clears
  have : (fun x y => if x = t ∧ y < M.n ∧ (x < a ∨ x = a ∧ y < b + 1) then false else M.fl x y) = fun x y => if x = t ∧ y < M.n ∧ (x < a ∨ x = a ∧ y < b) then false else M.fl x y := by
    funext x y
    by_cases c : x = t ∧ y < M.n ∧ (x < a ∨ x = a ∧ y < b + 1)
    · rw [if_pos c, if_pos (by omega)]
    · rw [if_neg c, if_neg (by omega)]
  rw [this]
theorem clears_one (M : Rv) (t b : Nat) (h : b < M.n) : { M.clears t t b with fl := upd (M.clears t t b).fl t (upd ((M.clears t t b).fl t) b false) } = M.clears t t (b + 1) := by
  have : upd (M.clears t t b).fl t (upd ((M.clears t t b).fl t) b false) = (M.clears t t (b + 1)).fl := by
    funext x y
    show upd (M.clears t t b).fl t (upd ((M.clears t t b).fl t) b false) x y = if x = t ∧ y < M.n ∧ (x < t ∨ x = t ∧ y < b + 1) then false else M.fl x y
    by_cases e : x = t
    · rw [e, upd_at]
      by_cases e' : y = b
      · rw [e', upd_at, if_pos (by omega)]
      · rw [upd_ne _ _ e']
        show (if t = t ∧ y < M.n ∧ (t < t ∨ t = t ∧ y < b) then false else M.fl t y) = _
        by_cases c : y < M.n ∧ y < b
        · rw [if_pos (by omega), if_pos (by omega)]
        · rw [if_neg (by omega), if_neg (by omega)]
    · rw [upd_ne _ _ e]
      show (if x = t ∧ y < M.n ∧ (x < t ∨ x = t ∧ y < b) then false else M.fl x y) = _
      rw [if_neg (by omega), if_neg (by omega)]
  rw [this]; rfl
/-- What a fence leaves. -/
def Rv.fenced (M : Rv) (t : Nat) : Rv := (M.upto t M.n).clears t M.nt 0
end Go.Proofs.YtkdcfijebgeajaaGreat

namespace Go.Proofs.YtkdcfijebgeajaaGreat
open Go.RowKit Go.BigFrame
set_option linter.unusedVariables false
set_option linter.unusedSimpArgs false
theorem Turn.drawn {F : Nat → Prop} {a w : World} (h : Turn F a w) (n : Nat) : Turn F a { w with drawn := n } := ⟨h.os, h.tape, h.output, h.size, h.block⟩
theorem RefAt.drew {w : World} {M : Rv} (h : RefAt w M) : RefAt w.drew M := h.keep fun _ _ => rfl
set_option maxRecDepth 100000 in
set_option maxHeartbeats 4000000 in
theorem refDo44_fence (M : Rv) (t : Nat) (ht : t < M.nt) (W : World) (h : RefAt W M) (hw : M.wm ≤ 999999) :
    Calls Tryz.prog 112 #[.pointer (some ⟨M.d, 0, none⟩), .int .i64 1, .int .i64 t, .int .i64 0] W (RDone M (M.fenced t) (.int .i64 0) W) := by
  obtain ⟨y0, y1, y2, y3⟩ := dev_cells h.dev
  have hn1 := h.n1
  have ht1 := h.t1
  have HH := Lib.hid h
  have HT := Lib.hid ht
  have i0 : (0 : Int) ≤ (t : Int) := by omega
  have i1 : (t : Int) < (M.nt : Int) := by omega
  have d0 : decide ((t : Int) < 0) = false := bool_no (by omega)
  have d1 : decide (M.nt ≤ t) = false := bool_no (by omega)
  have HWM := Lib.hid hw
  clear h ht hw
  go_enter Tryz.func112, Tryz.ntmps112
  go_wp2_with fail
  go_loopw [9] (fun i wr => ∃ k : Nat, k ≤ M.n ∧ i = .int .i64 k ∧ Hid (RefAt wr (M.upto t k) ∧ Turn M.own W wr)) (fun i _ => M.n - (intOf i).toNat)
  case atStart => exact ⟨0, Nat.zero_le _, rfl, Lib.hid ⟨upto_0 HH.out t, Turn.refl _ _⟩⟩
  case round =>
    obtain ⟨k, hk, rfl, HB⟩ := hrel
    obtain ⟨wo, rfl⟩ : ∃ wo : World, wo = wr := ⟨_, rfl⟩
    clear y0 y1 y2 y3
    obtain ⟨w0, w1, w2, w3⟩ := dev_cells HB.out.1.dev
    have y0 : wo.cell? ⟨M.d, 0, none⟩ = some (.slice (some ⟨M.kb, 0, none⟩) (8 * M.n) M.c0) := w0
    have y1 : wo.cell? ⟨M.d, 1, none⟩ = some (.slice (some ⟨M.sb, 0, none⟩) (8 * M.n) M.c1) := w1
    have y2 : wo.cell? ⟨M.d, 2, none⟩ = some (.slice (some ⟨M.wb, 0, none⟩) M.n M.c2) := w2
    have y3 : wo.cell? ⟨M.d, 3, none⟩ = some (.slice (some ⟨M.fb, 0, none⟩) M.nt M.c3) := w3
    clear w0 w1 w2 w3
    have j0 : (0 : Int) ≤ (k : Int) := by omega
    by_cases hlt : k < M.n
    · have j1 : (k : Int) < (M.n : Int) := by omega
      have j2 : decide ((k : Int) < (M.n : Int)) = true := bool_yes j1
      have g1 : wo.cell? ⟨M.fb, t, none⟩ = some (.slice (some ⟨M.fg t, 0, none⟩) M.n (M.fc t)) := HB.out.1.fb.cell HT.out
      have g2 : wo.cell? ⟨M.fg t, k, none⟩ = some (.bool (M.fl t k)) := (HB.out.1.fl t HT.out).cell hlt
      cases hf : M.fl t k with
      | false =>
        rw [hf] at g2
        have HE := Lib.hid (upto_no M t k hf)
        clear hf
        go_wp2_with fail
        go_roundw
        case rel => exact ⟨k + 1, by omega, by go_num, Lib.hid (by rw [HE.out]; exact HB.out)⟩
        case measure => simp [intOf]; omega
      | true =>
        rw [hf] at g2
        have HE := Lib.hid (upto_yes M t k hf)
        clear hf
        go_wp2_with fail
        go_loopw [10] (fun i wr => ∃ j : Nat, j ≤ 8 ∧ i = .int .i64 j ∧ Hid (RefAt wr (M.upto2 t k j) ∧ Turn M.own W wr)) (fun i _ => 8 - (intOf i).toNat)
        case atStart => exact ⟨0, Nat.zero_le _, rfl, Lib.hid ⟨by rw [upto2_0]; exact HB.out.1, HB.out.2⟩⟩
        case round =>
          obtain ⟨j, hj, rfl, HC⟩ := hrel
          clear y0 y1 y2 y3 g1 g2
          obtain ⟨w0, w1, w2, w3⟩ := dev_cells HC.out.1.dev
          have y0 : wr.cell? ⟨M.d, 0, none⟩ = some (.slice (some ⟨M.kb, 0, none⟩) (8 * M.n) M.c0) := w0
          have y1 : wr.cell? ⟨M.d, 1, none⟩ = some (.slice (some ⟨M.sb, 0, none⟩) (8 * M.n) M.c1) := w1
          have y2 : wr.cell? ⟨M.d, 2, none⟩ = some (.slice (some ⟨M.wb, 0, none⟩) M.n M.c2) := w2
          clear w0 w1 w2 w3
          by_cases hj8 : j < 8
          · have e2 : decide ((j : Int) < 8) = true := bool_yes (by omega)
            have z1 : wr.cell? ⟨M.sb, 8 * k + j, none⟩ = some (.int .u64 (M.seen (8 * k + j))) := HC.out.1.seen.cell (by show _ < 8 * M.n; omega)
            have z2 := HC.out.1.kept.cell (k := 8 * k + j) (by show _ < 8 * M.n; omega)
            have z2 : wr.cell? ⟨M.kb, 8 * k + j, none⟩ = some (.int .u64 ((M.upto2 t k j).kept (8 * k + j))) := z2
            have z3 : wr.frozen? ⟨M.kb, 8 * k + j, none⟩ = false := HC.out.1.kept.free _
            have HS := Lib.hid (HC.out.1.set_kept (8 * k + j) (M.seen (8 * k + j)))
            rw [upto2_step M t k j hj8] at HS
            generalize (M.upto2 t k j).kept (8 * k + j) = u at *
            generalize M.seen (8 * k + j) = v at *
            obtain ⟨q, hq⟩ : ∃ q, q = 8 * k + j := ⟨_, rfl⟩
            obtain ⟨N, hN⟩ : ∃ N, N = 8 * M.n := ⟨_, rfl⟩
            rw [← hq] at z1 z2 z3 HS
            rw [← hN] at y0 y1
            have m1 : IntKind.i64.wrap (8 * (k : Int)) = 8 * (k : Int) := IntWalk.i64_in _ (by omega)
            have m2 : IntKind.i64.wrap (8 * (k : Int) + (j : Int)) = (q : Int) := by rw [IntWalk.i64_in _ (by omega)]; omega
            have m3 : (0 : Int) ≤ (q : Int) := by omega
            have m4 : (q : Int) < (N : Int) := by omega
            have m5 : q < N := by omega
            clear hq hN
            go_wp2_with fail
            go_region
            go_wp2_with fail
            go_roundw
            case rel => exact ⟨j + 1, by omega, by go_num, Lib.hid ⟨HS.out.drew, ((HC.out.2.set (fun _ => Or.inl (by simp [Rv.blocks])) _ _).drawn _)⟩⟩
            case measure => simp [intOf]; omega
          · obtain rfl : j = 8 := by omega
            have e2 : decide (((8 : Nat) : Int) < 8) = false := by simp
            have z1 : wr.cell? ⟨M.wb, k, none⟩ = some (.int .i64 ((M.upto2 t k 8).wr k)) := HC.out.1.wr.cell hlt
            have z3 : wr.frozen? ⟨M.wb, k, none⟩ = false := HC.out.1.wr.free _
            have z4 : (M.upto2 t k 8).wr k = M.wr k := by show (if k < k ∧ M.fl t k = true then M.wr k + 1 else M.wr k) = M.wr k; rw [if_neg (by omega)]
            rw [z4] at z1
            have z5 := HH.out.wr0 k hlt
            have z6 := HWM.out
            have HS := Lib.hid (HC.out.1.set_wr k (M.wr k + 1) (by omega) (by show M.wr k + 1 ≤ M.wm + 1; omega))
            rw [HE.out] at HS
            generalize M.wr k = v at *
            have m1 : IntKind.i64.wrap (v + 1) = v + 1 := IntWalk.i64_in _ (by omega)
            go_wp2_with fail
            go_region
            go_wp2_with fail
            go_roundw
            case rel => exact ⟨k + 1, by omega, by go_num, Lib.hid ⟨HS.out.drew, ((HC.out.2.set (fun _ => Or.inl (by simp [Rv.blocks])) _ _).drawn _)⟩⟩
            case measure => simp [intOf]; omega
    · obtain rfl : k = M.n := by omega
      have j2 : decide ((M.n : Int) < (M.n : Int)) = false := by simp
      have HB1 : Hid (RefAt wo (M.upto t M.n) ∧ Turn M.own W wo) := HB
      clear HB
      obtain ⟨R, hR⟩ : ∃ R, R = M.upto t M.n := ⟨_, rfl⟩
      have HRn : Hid (R.n = M.n ∧ R.nt = M.nt ∧ R.d = M.d ∧ R.fb = M.fb ∧ R.fg = M.fg ∧ R.fc = M.fc ∧ R.own = M.own ∧ R.c2 = M.c2 ∧ R.wb = M.wb ∧ R.c3 = M.c3) := Lib.hid (by rw [hR]; exact ⟨rfl, rfl, rfl, rfl, rfl, rfl, rfl, rfl, rfl, rfl⟩)
      have HF : Hid (M.fenced t = R.clears t R.nt 0) := Lib.hid (by rw [hR]; rfl)
      rw [← hR] at HB1
      clear hR
      go_wp2_with fail
      go_loopw [11] (fun i wr => ∃ k : Nat, k ≤ M.nt ∧ i = .int .i64 k ∧ Hid (RefAt wr (R.clears t k 0) ∧ Turn M.own W wr)) (fun i _ => M.nt - (intOf i).toNat)
      case atStart => exact ⟨0, Nat.zero_le _, rfl, Lib.hid ⟨by rw [clears_0]; exact HB1.out.1, HB1.out.2⟩⟩
      case round =>
        obtain ⟨a, ha, rfl, HC⟩ := hrel
        obtain ⟨wb, rfl⟩ : ∃ wb : World, wb = wr := ⟨_, rfl⟩
        clear y0 y1 y2 y3
        obtain ⟨w0, w1, w2, w3⟩ := dev_cells HC.out.1.dev
        obtain ⟨r1, r2, r3, r4, r5, r6, r7, r8, r9, r10⟩ := HRn.out
        have y1 : wb.cell? ⟨M.d, 1, none⟩ = some (.slice (some ⟨R.sb, 0, none⟩) (8 * M.n) R.c1) := by rw [← r3, ← r1]; exact w1
        have y2 : wb.cell? ⟨M.d, 2, none⟩ = some (.slice (some ⟨M.wb, 0, none⟩) M.n M.c2) := by rw [← r3, ← r1, ← r8, ← r9]; exact w2
        have y3 : wb.cell? ⟨M.d, 3, none⟩ = some (.slice (some ⟨M.fb, 0, none⟩) M.nt M.c3) := by rw [← r3, ← r2, ← r4, ← r10]; exact w3
        clear w0 w1 w2 w3 r1 r2 r3 r4 r5 r6 r7 r8 r9 r10
        by_cases hlt2 : a < M.nt
        · have e2 : decide ((a : Int) < (M.nt : Int)) = true := bool_yes (by omega)
          go_wp2_with fail
          go_loopw [12] (fun i wr => ∃ b : Nat, b ≤ M.n ∧ i = .int .i64 b ∧ Hid (RefAt wr (R.clears t a b) ∧ Turn M.own W wr)) (fun i _ => M.n - (intOf i).toNat)
          case atStart => exact ⟨0, Nat.zero_le _, rfl, HC⟩
          case round =>
            obtain ⟨b, hb, rfl, HD⟩ := hrel
            clear y1 y2 y3
            obtain ⟨w0, w1, w2, w3⟩ := dev_cells HD.out.1.dev
            obtain ⟨r1, r2, r3, r4, r5, r6, r7, r8, r9, r10⟩ := HRn.out
            have y2 : wr.cell? ⟨M.d, 2, none⟩ = some (.slice (some ⟨M.wb, 0, none⟩) M.n M.c2) := by rw [← r3, ← r1, ← r8, ← r9]; exact w2
            have y3 : wr.cell? ⟨M.d, 3, none⟩ = some (.slice (some ⟨M.fb, 0, none⟩) M.nt M.c3) := by rw [← r3, ← r2, ← r4, ← r10]; exact w3
            by_cases hbn : b < M.n
            · have e3 : decide ((b : Int) < (M.n : Int)) = true := bool_yes (by omega)
              by_cases hat : a = t
              · subst hat
                have g1 : wr.cell? ⟨M.fb, a, none⟩ = some (.slice (some ⟨M.fg a, 0, none⟩) M.n (M.fc a)) := by
                  have := HD.out.1.fb.cell (k := a) (by show a < R.nt; rw [r2]; exact hlt2)
                  rw [← r4, ← r5, ← r1, ← r6]; exact this
                have g2 : wr.cell? ⟨M.fg a, b, none⟩ = some (.bool ((R.clears a a b).fl a b)) := by
                  have := (HD.out.1.fl a (by show a < R.nt; rw [r2]; exact hlt2)).cell (k := b) (by show b < R.n; rw [r1]; exact hbn)
                  rw [← r5]; exact this
                have g3 : wr.frozen? ⟨M.fg a, b, none⟩ = false := by
                  have := (HD.out.1.fl a (by show a < R.nt; rw [r2]; exact hlt2)).free b
                  rw [← r5]; exact this
                have HS := Lib.hid (HD.out.1.set_fl (t := a) (by show a < R.nt; rw [r2]; exact hlt2) b false)
                have HO : Hid (M.own (M.fg a)) := Lib.hid (Or.inr ⟨a, hlt2, rfl⟩)
                rw [clears_one R a b (by rw [r1]; exact hbn)] at HS
                have HS2 : Hid (RefAt (wr.setCell ⟨M.fg a, b, none⟩ (.bool false)) (R.clears a a (b + 1))) := Lib.hid (by rw [← r5]; exact HS.out)
                generalize (R.clears a a b).fl a b = u at *
                generalize M.fg a = g at *
                have f1 : ((a : Int) == (a : Int)) = true := by simp
                clear w0 w1 w2 w3 r1 r2 r3 r4 r5 r6 r7 r8 r9 r10 HS
                go_wp2_with fail
                go_roundw
                case rel => exact ⟨b + 1, by omega, by go_num, Lib.hid ⟨HS2.out, HD.out.2.set (fun _ => HO.out) _ _⟩⟩
                case measure => simp [intOf]; omega
              · have f1 : ((a : Int) == (t : Int)) = false := by simp; omega
                have HE := Lib.hid (clears_other R t a b hat)
                clear w0 w1 w2 w3 r1 r2 r3 r4 r5 r6 r7 r8 r9 r10
                go_wp2_with fail
                go_roundw
                case rel => exact ⟨b + 1, by omega, by go_num, Lib.hid (by rw [HE.out]; exact HD.out)⟩
                case measure => simp [intOf]; omega
            · obtain rfl : b = M.n := by omega
              have e3 : decide ((M.n : Int) < (M.n : Int)) = false := by simp
              have HE := Lib.hid (clears_next R t a)
              rw [r1] at HE
              clear w0 w1 w2 w3 r1 r2 r3 r4 r5 r6 r7 r8 r9 r10
              go_wp2_with fail
              go_roundw
              case rel => exact ⟨a + 1, by omega, by go_num, Lib.hid (by rw [← HE.out]; exact HD.out)⟩
              case measure => simp [intOf]; omega
        · obtain rfl : a = M.nt := by omega
          have e2 : decide ((M.nt : Int) < (M.nt : Int)) = false := by simp
          have HZ : Hid (RefAt wb (M.fenced t)) := Lib.hid (by rw [HF.out, HRn.out.2.1]; exact HC.out.1)
          go_wp2_with fail
          go_loop [13] (fun i => ∃ q : Nat, q ≤ 8 * M.n ∧ i = .int .i64 q) (fun i => 8 * M.n - (intOf i).toNat)
          case atStart => exact ⟨0, Nat.zero_le _, rfl⟩
          case round =>
            obtain ⟨q, hq, rfl⟩ := hrel
            obtain ⟨N, hN⟩ : ∃ N, N = 8 * M.n := ⟨_, rfl⟩
            rw [← hN] at y1 hq ⊢
            have hN2 : N ≤ 2097152 := by omega
            clear hN
            by_cases hqn : q < N
            · have e3 : decide ((q : Int) < (N : Int)) = true := bool_yes (by omega)
              go_wp2_with fail
              go_round
              case rel => exact ⟨q + 1, by omega, by go_num⟩
              case measure => simp [intOf]; omega
            · obtain rfl : q = N := by omega
              have e3 : decide ((q : Int) < (q : Int)) = false := by simp
              go_wp2_with fail
              go_ret
              exact ⟨rfl, HZ.out, HC.out.2⟩
end Go.Proofs.YtkdcfijebgeajaaGreat

namespace Go.Proofs.YtkdcfijebgeajaaGreat
open Go.RowKit Go.BigFrame
set_option linter.unusedVariables false
set_option linter.unusedSimpArgs false
def Rv.note (M : Rv) (x : Acc) (is : Bool) : Rv := { M with ck := M.ck + 1, bd := if is then M.bd else M.bd + 1, la := x }
def Rv.put (M : Rv) (at_ v : Int) : Rv := if 0 ≤ at_ then { M with seen := upd M.seen at_.toNat v } else { M with pass := upd M.pass (-1 - at_).toNat v }
theorem RefAt.note {W W' : World} {M : Rv} (h : RefAt W M) (x : Acc) (is : Bool)
    (hr : W'.heap[M.m]? = some (.cells #[.pointer (some ⟨M.d, 0, none⟩), .slice (some ⟨M.pb, 0, none⟩) M.np M.c4, .int .i64 (M.ck + 1), .int .i64 (if is then M.bd else M.bd + 1), .int .i64 x.ki, .int .i64 x.th, .int .i64 x.pl, .int .u64 x.ol, .int .u64 x.ne, .bool x.dn] 191 (0, 0)))
    (hb : ∀ k, M.own k → k ≠ M.m → W'.heap[k]? = W.heap[k]?) : RefAt W' (M.note x is) := by
  have n := h.ne
  have i : ∀ k, k ∈ M.blocks → M.own k := fun k hk => Or.inl hk
  exact { h with
    row := hr
    dev := (hb _ (i _ (by simp [Rv.blocks])) (Ne.symm n.md)).trans h.dev
    kept := h.kept.keep (hb _ (i _ (by simp [Rv.blocks])) (Ne.symm n.mkb))
    seen := h.seen.keep (hb _ (i _ (by simp [Rv.blocks])) (Ne.symm n.ms))
    wr := h.wr.keep (hb _ (i _ (by simp [Rv.blocks])) (Ne.symm n.mw))
    fb := h.fb.keep (hb _ (i _ (by simp [Rv.blocks])) (Ne.symm n.mf))
    pass := h.pass.keep (hb _ (i _ (by simp [Rv.blocks])) (Ne.symm n.mp))
    fl := fun t ht => (h.fl t ht).keep (hb _ (Or.inr ⟨t, ht, rfl⟩) fun e => h.alone t ht (by rw [e]; simp [Rv.blocks]))
    ck0 := by have := h.ck0; simp only [Rv.note]; omega
    bd0 := by have := h.bd0; simp only [Rv.note]; split <;> omega
    bd1 := by have := h.bd1; simp only [Rv.note]; split <;> omega }
theorem RefAt.set_seen {W : World} {M : Rv} (h : RefAt W M) (k : Nat) (v : Int) : RefAt (W.setCell ⟨M.sb, k, none⟩ (.int .u64 v)) { M with seen := upd M.seen k v } := by
  have n := h.ne
  exact { h with
    row := (heap_set_other n.ms).trans h.row
    dev := (heap_set_other n.ds).trans h.dev
    kept := h.kept.keep (heap_set_other n.ks)
    seen := by
      have := h.seen.set k (.int .u64 v)
      simp only [upd_map]; exact this
    wr := h.wr.keep (heap_set_other (Ne.symm n.sw))
    fb := h.fb.keep (heap_set_other (Ne.symm n.sf))
    pass := h.pass.keep (heap_set_other (Ne.symm n.sp))
    fl := fun t ht => (h.fl t ht).keep (heap_set_other fun e => h.alone t ht (by rw [e]; simp [Rv.blocks])) }
theorem RefAt.set_pass {W : World} {M : Rv} (h : RefAt W M) (k : Nat) (v : Int) : RefAt (W.setCell ⟨M.pb, k, none⟩ (.int .u64 v)) { M with pass := upd M.pass k v } := by
  have n := h.ne
  exact { h with
    row := (heap_set_other n.mp).trans h.row
    dev := (heap_set_other n.dp).trans h.dev
    kept := h.kept.keep (heap_set_other n.kp)
    seen := h.seen.keep (heap_set_other n.sp)
    wr := h.wr.keep (heap_set_other n.wp)
    fb := h.fb.keep (heap_set_other n.fp)
    pass := by
      have := h.pass.set k (.int .u64 v)
      simp only [upd_map]; exact this
    fl := fun t ht => (h.fl t ht).keep (heap_set_other fun e => h.alone t ht (by rw [e]; simp [Rv.blocks])) }
/-- Cells of one block put, one behind the other. -/
def puts (w : World) (b : Nat) : List (Nat × Value) → World
  | [] => w
  | (j, v) :: l => puts (w.setCell ⟨b, j, none⟩ v) b l
theorem puts_other {b g : Nat} (h : g ≠ b) : ∀ (l : List (Nat × Value)) (w : World), (puts w b l).heap[g]? = w.heap[g]?
  | [], _ => rfl
  | (j, v) :: l, w => by rw [puts, puts_other h l, heap_set_other h]
theorem puts_turn {F : Nat → Prop} {a : World} {b : Nat} (hb : b < a.heap.size → F b) : ∀ (l : List (Nat × Value)) (w : World), Turn F a w → Turn F a (puts w b l)
  | [], _, h => h
  | (j, v) :: l, w, h => puts_turn hb l _ (h.set hb j v)
def lastL (x : Acc) : List (Nat × Value) := [(4, .int .i64 x.ki), (5, .int .i64 x.th), (6, .int .i64 x.pl), (7, .int .u64 x.ol), (8, .int .u64 x.ne), (9, .bool x.dn)]
def resL (x : Acc) : List (Nat × Value) := [(0, .int .i64 x.ki), (1, .int .i64 x.th), (2, .int .i64 x.pl), (3, .int .u64 x.ol), (4, .int .u64 x.ne), (5, .bool x.dn)]
/-- What noting an access puts. -/
def noteW (w : World) (m b : Nat) (ck bd : Int) (x : Acc) (is : Bool) : World :=
  puts (puts w m ((2, .int .i64 (ck + 1)) :: (if is then [] else [(3, .int .i64 (bd + 1))]) ++ lastL x)) b (resL x)
theorem noteW_row {w : World} {M : Rv} (h : RefAt w M) (b : Nat) (hb : b ≠ M.m) (x : Acc) (is : Bool) :
    (noteW w M.m b M.ck M.bd x is).heap[M.m]? = some (.cells #[.pointer (some ⟨M.d, 0, none⟩), .slice (some ⟨M.pb, 0, none⟩) M.np M.c4, .int .i64 (M.ck + 1), .int .i64 (if is then M.bd else M.bd + 1), .int .i64 x.ki, .int .i64 x.th, .int .i64 x.pl, .int .u64 x.ol, .int .u64 x.ne, .bool x.dn] 191 (0, 0)) := by
  unfold noteW
  rw [puts_other (Ne.symm hb)]
  cases is with
  | true =>
    show (puts w M.m [(2, .int .i64 (M.ck + 1)), (4, .int .i64 x.ki), (5, .int .i64 x.th), (6, .int .i64 x.pl), (7, .int .u64 x.ol), (8, .int .u64 x.ne), (9, .bool x.dn)]).heap[M.m]? = _
    simp only [puts]
    have h2 := heap_set (j := 2) (.int .i64 (M.ck + 1)) h.row
    have h4 := heap_set (j := 4) (.int .i64 x.ki) h2
    have h5 := heap_set (j := 5) (.int .i64 x.th) h4
    have h6 := heap_set (j := 6) (.int .i64 x.pl) h5
    have h7 := heap_set (j := 7) (.int .u64 x.ol) h6
    have h8 := heap_set (j := 8) (.int .u64 x.ne) h7
    have h9 := heap_set (j := 9) (.bool x.dn) h8
    rw [h9]
    simp only [List.setIfInBounds_toArray, List.set_cons_succ, List.set_cons_zero]
    rfl
  | false =>
    show (puts w M.m [(2, .int .i64 (M.ck + 1)), (3, .int .i64 (M.bd + 1)), (4, .int .i64 x.ki), (5, .int .i64 x.th), (6, .int .i64 x.pl), (7, .int .u64 x.ol), (8, .int .u64 x.ne), (9, .bool x.dn)]).heap[M.m]? = _
    simp only [puts]
    have h2 := heap_set (j := 2) (.int .i64 (M.ck + 1)) h.row
    have h3 := heap_set (j := 3) (.int .i64 (M.bd + 1)) h2
    have h4 := heap_set (j := 4) (.int .i64 x.ki) h3
    have h5 := heap_set (j := 5) (.int .i64 x.th) h4
    have h6 := heap_set (j := 6) (.int .i64 x.pl) h5
    have h7 := heap_set (j := 7) (.int .u64 x.ol) h6
    have h8 := heap_set (j := 8) (.int .u64 x.ne) h7
    have h9 := heap_set (j := 9) (.bool x.dn) h8
    rw [h9]
    simp only [List.setIfInBounds_toArray, List.set_cons_succ, List.set_cons_zero]
    rfl
theorem noteW_res {w : World} {m b : Nat} {k0 k1 k2 k3 k4 k5 : Value} {t : TypeId} (hb : b ≠ m) (h : w.heap[b]? = some (.cells #[k0, k1, k2, k3, k4, k5] t (0, 0))) (ck bd : Int) (x : Acc) (is : Bool) : (noteW w m b ck bd x is).heap[b]? = some (.cells x.cells t (0, 0)) := by
  have h0 : (puts w m ((2, .int .i64 (ck + 1)) :: (if is then [] else [(3, .int .i64 (bd + 1))]) ++ lastL x)).heap[b]? = some (.cells #[k0, k1, k2, k3, k4, k5] t (0, 0)) := by rw [puts_other hb]; exact h
  unfold noteW
  generalize puts w m ((2, .int .i64 (ck + 1)) :: (if is then [] else [(3, .int .i64 (bd + 1))]) ++ lastL x) = w1 at *
  simp only [resL, puts]
  rw [six_row h0]
  rfl
/-- An access is noted, and handed back. -/
theorem noteW_done {W w : World} {M R : Rv} {b : Nat} (hR : RefAt w R) (hT : Turn M.own W w) (hm : M.m = R.m) (ho : R.own = M.own) (hb : W.heap.size ≤ b) (hM : RefAt W M) (x : Acc) (is : Bool) :
    RefAt (noteW w R.m b R.ck R.bd x is) (R.note x is) ∧ Turn M.own W (noteW w R.m b R.ck R.bd x is) := by
  have hmo : M.own R.m := by rw [← hm]; exact Or.inl (by simp [Rv.blocks])
  have hbm : b ≠ R.m := fun e => by have := hM.lt hmo; omega
  refine ⟨hR.note x is (noteW_row hR b hbm x is) fun k hk e => ?_, ?_⟩
  · have : k ≠ b := fun e' => by rw [ho] at hk; have := hM.lt hk; omega
    unfold noteW
    rw [puts_other this, puts_other e]
  · unfold noteW
    exact puts_turn (fun e => by omega) _ _ (puts_turn (fun _ => hmo) _ _ hT)
def Rv.res (M : Rv) (x : Acc) (pu : Bool) : Acc := if (M.peek x.pl).2 then ⟨x.ki, x.th, x.pl, (M.peek x.pl).1, x.ne, pu || x.ki == 1⟩ else x
def Rv.did (M : Rv) (x : Acc) (nw : Int) (pu : Bool) : Rv := (if (M.peek x.pl).2 && pu then M.put x.pl nw else M).note (M.res x pu) (M.peek x.pl).2
def Rv.load (M : Rv) (t at_ : Int) : Rv := M.did ⟨1, t, at_, 0, 0, false⟩ 0 false
def Rv.store (M : Rv) (t at_ w : Int) : Rv := M.did ⟨2, t, at_, 0, w, false⟩ w true
def Rv.swap (M : Rv) (t at_ old w : Int) : Rv := M.did ⟨3, t, at_, 0, w, false⟩ w ((M.peek at_).1 == old)
def Rv.flushM (M : Rv) (t at_ : Int) : Rv :=
  if 0 ≤ at_ ∧ M.flushE t (at_ / 8) = 0 then (M.flushed t (at_ / 8)).note ⟨4, t, at_, 0, 0, true⟩ true else M.note ⟨4, t, at_, 0, 0, false⟩ false
def Rv.fenceM (M : Rv) (t : Int) : Rv := if threadE M.nt t = 0 then (M.fenced t.toNat).note ⟨5, t, 0, 0, 0, true⟩ true else M.note ⟨5, t, 0, 0, 0, false⟩ false
/-- It answers an access; the document's memory is as told; nothing else has turned. -/
def RAcc (M M' : Rv) (W : World) (e : Ending) (W' : World) : Prop := e = .returned (.agg M'.la.cells) ∧ RefAt W' M' ∧ Turn M.own W W'
end Go.Proofs.YtkdcfijebgeajaaGreat

namespace Go.Proofs.YtkdcfijebgeajaaGreat
open Go.RowKit Go.BigFrame
set_option linter.unusedVariables false
set_option linter.unusedSimpArgs false
def Mv.taken (M : Mv) (t : Nat) : Mv := { M with fl := upd M.fl t [], fv := upd M.fv t (.slice none 0 0) }
/-- A thread's lines are written back. -/
def Mv.fenced (M : Mv) (t : Int) : Mv := (M.taken t.toNat).backs (M.fl t.toNat)
def FenceTo (M : Mv) (t : Int) (W : World) (e : Ending) (W' : World) : Prop :=
  e = .returned (.int .i64 (threadE M.nt t)) ∧ (threadE M.nt t ≠ 0 ∧ Into M M W W' ∨ threadE M.nt t = 0 ∧ Into M (M.fenced t) W W')
theorem fence58_no (M : Mv) (t : Int) (W : World) (h : MemAt W M) (hn : threadE M.nt t ≠ 0) :
    Calls Tryz.prog 351 #[.pointer (some ⟨M.d, 0, none⟩), .int .i64 t] W (FenceTo M t W) := by
  have HT := Lib.hid (thread74 M.d (some ⟨M.fb, 0, none⟩) M.nt M.c3 t W (by rw [cell_in h.dev]; rfl))
  have HM := Lib.hid h
  have HN := Lib.hid hn
  have e1 : threadE M.nt t = 1 := by unfold threadE at *; split at hn <;> simp_all
  have HE := Lib.hid e1
  rw [e1] at HT
  clear h hn e1
  go_enter Tryz.func351, Tryz.ntmps351
  go_wp2_with fail
  refine HT.out.mono ?_
  rintro e w ⟨rfl, hw⟩
  cases hw
  go_wp2_with fail
  go_ret
  exact ⟨by rw [HE.out]; rfl, Or.inl ⟨HN.out, Into.refl HM.out⟩⟩
theorem take77M (M : Mv) (t : Nat) (ht : t < M.nt) (W : World) (h : MemAt W M) :
    Calls Tryz.prog 227 #[.pointer (some ⟨M.fb, t, none⟩)] W fun e W' => e = .returned (M.fv t) ∧ Into M (M.taken t) W W' ∧ LstAt W' (M.fv t) (M.fl t) := by
  obtain ⟨a, n, c, hv⟩ := (h.fl t ht).slice
  have hc := h.fb.cell ht
  rw [hv] at hc
  refine (take77 M.fb t a n c W hc (h.fb.free t)).mono ?_
  rintro e W' ⟨rfl, rfl⟩
  refine ⟨by rw [hv], h.set_fl ht (v' := .slice none 0 0) (l' := []) (Turn.refl _ _) (Or.inl ⟨rfl, rfl⟩) (fun g hg => by cases hg) List.Pairwise.nil (fun x hx => by cases hx), ?_⟩
  exact (h.fl t ht).keep fun g hg => heap_set_other fun (e : g = M.fb) => h.alone t ht g hg (by rw [e]; simp [Mv.blocks])
theorem taken_free {W : World} {M : Mv} (h : MemAt W M) {t : Nat} (ht : t < M.nt) {g : Nat} (hg : (M.fv t).ownBlock = some g) : ¬ (M.taken t).own g := by
  rintro (hb | ⟨t', ht', e⟩)
  · exact h.alone t ht g hg hb
  · have e : (upd M.fv t (.slice none 0 0) t').ownBlock = some g := e
    by_cases c : t' = t
    · rw [c, upd_at] at e; cases e
    · rw [upd_ne _ _ c] at e; exact h.lone t ht t' ht' (Ne.symm c) g hg e
theorem LstAt.at {W : World} {v : Value} {l : List Int} (h : LstAt W v l) {k : Nat} (hk : k < l.length) : ∃ g cap, v = .slice (some ⟨g, 0, none⟩) l.length cap ∧ v.ownBlock = some g ∧ W.cell? ⟨g, k, none⟩ = some (.int .i64 (l.getD k 0)) := by
  rcases h with ⟨rfl, rfl⟩ | ⟨g, cap, c, rfl, h1, h2, h3, h4, h5, h6⟩
  · simp at hk
  · exact ⟨g, cap, rfl, rfl, by rw [cell_in h1]; exact h6 k hk⟩
theorem LstAt.len {W : World} {v : Value} {l : List Int} (h : LstAt W v l) : ∃ a cap, v = .slice a l.length cap := by
  rcases h with ⟨rfl, rfl⟩ | ⟨g, cap, c, rfl, _⟩
  · exact ⟨_, _, rfl⟩
  · exact ⟨_, _, rfl⟩
theorem take_succ_getD (l : List Int) (k : Nat) (hk : k < l.length) : l.take (k + 1) = l.take k ++ [l.getD k 0] := by
  rw [List.take_succ_eq_append_getElem hk, List.getD_eq_getElem?_getD, List.getElem?_eq_getElem hk]; rfl
theorem not_before (l : List Int) (hs : l.Pairwise (· < ·)) (k : Nat) (hk : k < l.length) : l.getD k 0 ∉ l.take k := by
  intro hm
  have h := take_succ_getD l k hk
  have hp : (l.take (k + 1)).Pairwise (· < ·) := hs.sublist (List.take_sublist _ _)
  rw [h, List.pairwise_append] at hp
  have := hp.2.2 _ hm (l.getD k 0) (by simp)
  omega
set_option maxRecDepth 100000 in
set_option maxHeartbeats 1000000 in
theorem fence58_yes (M : Mv) (t : Int) (W : World) (h : MemAt W M) (hw : M.wm ≤ 999999) (hn : threadE M.nt t = 0) :
    Calls Tryz.prog 351 #[.pointer (some ⟨M.d, 0, none⟩), .int .i64 t] W (FenceTo M t W) := by
  have HT := Lib.hid (thread74 M.d (some ⟨M.fb, 0, none⟩) M.nt M.c3 t W (by rw [cell_in h.dev]; rfl))
  have HN := Lib.hid hn
  rw [hn] at HT
  have a0 : 0 ≤ t ∧ t < M.nt := by unfold threadE at hn; split at hn; cases hn; omega
  obtain ⟨k0, rfl⟩ := Int.eq_ofNat_of_zero_le a0.1
  have b0 : (0 : Int) ≤ (k0 : Int) := by omega
  have b1 : (k0 : Int) < (M.nt : Int) := a0.2
  have ht : k0 < M.nt := by omega
  have HP := Lib.hid (take77M M k0 ht W h)
  have hd : W.cell? ⟨M.d, 3, none⟩ = some (.slice (some ⟨M.fb, 0, none⟩) M.nt M.c3) := by rw [cell_in h.dev]; rfl
  have HF : Hid (∀ g, (M.fv k0).ownBlock = some g → ¬ (M.taken k0).own g) := Lib.hid fun g hg => taken_free h ht hg
  have HI := Lib.hid (h.inn k0 ht)
  have HR := Lib.hid (h.rise k0 ht)
  have hll := h.fl_len ht
  have hn1 := h.n1
  obtain ⟨L, hL⟩ : ∃ L, L = M.fl k0 := ⟨_, rfl⟩
  obtain ⟨v, hv⟩ : ∃ v, v = M.fv k0 := ⟨_, rfl⟩
  obtain ⟨M0, hM0⟩ : ∃ M0, M0 = M.taken k0 := ⟨_, rfl⟩
  have HE : Hid (M.fenced (k0 : Int) = M0.backs L) := Lib.hid (by rw [hM0, hL]; rfl)
  have HNN : Hid (M0.n = M.n) := Lib.hid (by rw [hM0]; rfl)
  have HDD : Hid (M0.d = M.d) := Lib.hid (by rw [hM0]; rfl)
  have HWM : Hid (M0.wm = M.wm) := Lib.hid (by rw [hM0]; rfl)
  have hll' : L.length ≤ 262144 := by rw [hL]; omega
  rw [← hL, ← hv, ← hM0] at HP
  rw [← hv, ← hM0] at HF
  rw [← hL] at HI HR
  have HWW := Lib.hid hw
  clear h hn a0 hL hv hM0 hll hn1 hw ht
  go_enter Tryz.func351, Tryz.ntmps351
  go_wp2_with fail
  refine HT.out.mono ?_
  rintro e w ⟨rfl, hw⟩
  cases hw
  go_wp2_with fail
  refine HP.out.mono ?_
  rintro e W1 ⟨rfl, hi, hl⟩
  obtain ⟨a, cap, hv⟩ := hl.len
  subst hv
  have HI1 := Lib.hid hi
  have HL1 := Lib.hid hl
  clear hi hl
  go_wp2_with fail
  go_loopw [7, 22] (fun u i wr => ∃ k : Nat, k ≤ L.length ∧ i = .int .i64 k ∧ Hid (MemAt wr (M0.backs (L.take k)) ∧ Turn M0.own W1 wr)) (fun _ i _ => L.length - (intOf i).toNat)
  case atStart => exact ⟨0, Nat.zero_le _, rfl, Lib.hid ⟨by rw [List.take_zero]; exact backs_nil HI1.out.1, Turn.refl _ _⟩⟩
  case round =>
    obtain ⟨k, hk, rfl, HB⟩ := hrel
    by_cases hlt : k < L.length
    · obtain ⟨g, cap', e1, e2, hc⟩ := HL1.out.at hlt
      cases e1
      have hc' : wr.cell? ⟨g, k, none⟩ = some (.int .i64 (L.getD k 0)) := by
        rw [cell_of_heap (HB.out.2.block g (HL1.out.lt e2) (HF.out g e2))]; exact hc
      have hmem : L.getD k 0 ∈ L := by rw [List.getD_eq_getElem?_getD, List.getElem?_eq_getElem hlt]; exact List.getElem_mem _
      have hin := HI.out _ hmem
      have hnb := not_before L HR.out k hlt
      have hts := take_succ_getD L k hlt
      obtain ⟨x, hx⟩ : ∃ x, x = L.getD k 0 := ⟨_, rfl⟩
      rw [← hx] at hc' hin hnb hts
      clear hx hmem hc
      obtain ⟨q, rfl⟩ := Int.eq_ofNat_of_zero_le hin.1
      have HC : Hid (Calls Tryz.prog 132 #[.pointer (some ⟨M.d, 0, none⟩), .int .i64 q] wr (Done (M0.backs (L.take k)) (M0.backs (L.take (k + 1))) wr)) := Lib.hid (by
        rw [hts, ← backs_step _ _ _ hnb]
        have := back78M (M0.backs (L.take k)) q (by show q < M0.n; rw [HNN.out]; omega) wr HB.out.1 (by
          have e : (M0.backs (L.take k)).wr q = M0.wr q := by
            show (if (L.take k).contains (q : Int) then M0.wr q + 1 else M0.wr q) = M0.wr q
            rw [if_neg (by simpa using hnb)]
          rw [e]
          have := HI1.out.1.wr0 q (by rw [HNN.out]; omega)
          show M0.wr q < M0.wm + 1
          omega) (by show M0.wm + 1 ≤ 1000000; have := HWW.out; rw [HWM.out]; omega)
        have e : (M0.backs (L.take k)).d = M.d := HDD.out
        rw [e] at this
        exact this)
      have HS : Hid (Turn M0.own W1 wr) := Lib.hid HB.out.2
      have i0 : (0 : Int) ≤ (k : Int) := by omega
      have i1 : (k : Int) < (L.length : Int) := by omega
      have i2 : decide ((k : Int) < (L.length : Int)) = true := bool_yes i1
      clear hin hnb hts
      go_wp2_with fail
      refine HC.out.mono ?_
      rintro e w2 ⟨⟨u, rfl⟩, hm, ht⟩
      have HM2 := Lib.hid hm
      have HT2 : Hid (Turn M0.own W1 w2) := Lib.hid (HS.out.trans ht (fun _ _ h => h))
      clear hm ht
      go_wp2_with fail
      go_roundw
      case rel => exact ⟨k + 1, by omega, by go_num, Lib.hid ⟨HM2.out, HT2.out⟩⟩
      case measure => simp [intOf]; omega
    · obtain rfl : k = L.length := by omega
      have i2 : decide ((L.length : Int) < (L.length : Int)) = false := by simp
      go_wp2_with fail
      go_ret
      refine ⟨by rw [HN.out]; rfl, Or.inr ⟨HN.out, HI1.out.trans ?_⟩⟩
      rw [HE.out]
      have := HB.out
      rw [List.take_length] at this
      exact ⟨this.1, this.2, fun k hk => Or.inl hk⟩
theorem fence58 (M : Mv) (t : Int) (W : World) (h : MemAt W M) (hw : M.wm ≤ 999999) :
    Calls Tryz.prog 351 #[.pointer (some ⟨M.d, 0, none⟩), .int .i64 t] W (FenceTo M t W) := by
  by_cases hn : threadE M.nt t = 0
  · exact fence58_yes M t W h hw hn
  · exact fence58_no M t W h hn
end Go.Proofs.YtkdcfijebgeajaaGreat
