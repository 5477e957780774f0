/- The two memories alike, step by step. No program here.
   Layer 38: a memory at its start; what a run holds.
   Layers 3, 4, 38: what is seen, kept; words that are alike.
   Layer 7's law: a memory as the document has it.
   The document's device opened: plain parts.
   The document's device opened: its flush rows. No walk here. -/
import Derived.Test.YtibelcmdfkgonaaGreatK19
import Derived.Test.YtibelcmdfkgonaaGreatK18
import Derived.Deep.RegionHeld3
import Derived.IntWalk
namespace Go.Proofs.YtibelcmdfkgonaaGreat
open Go.RowKit Go.BigFrame
set_option linter.unusedVariables false
set_option linter.unusedSimpArgs false
structure Alike (M : Mv) (R : Rv) : Prop where
  n : M.n = R.n
  nt : M.nt = R.nt
  np : M.np = R.np
  seen : ∀ k, k < 8 * M.n → M.seen k = R.seen k
  kept : ∀ k, k < 8 * M.n → M.kept k = R.kept k
  pass : ∀ k, k < M.np → M.pass k = R.pass k
  fl : ∀ t, t < M.nt → ∀ j, j < M.n → (R.fl t j = true ↔ (j : Int) ∈ M.fl t)
  ck : M.ck = R.ck
  bd : M.bd = R.bd
  la : M.la = R.la
theorem Alike.peek {M : Mv} {R : Rv} (h : Alike M R) (at_ : Int) : M.peek at_ = R.peek at_ := by
  unfold Mv.peek Rv.peek peekV
  rw [← h.n, ← h.np]
  by_cases h0 : 0 ≤ at_
  · rw [if_pos h0, if_pos h0]
    by_cases h1 : at_ / 8 < (M.n : Int)
    · rw [if_pos h1, if_pos h1, h.seen _ (by omega)]
    · rw [if_neg h1, if_neg h1]
  · rw [if_neg h0, if_neg h0]
    by_cases h1 : -1 - at_ < (M.np : Int)
    · rw [if_pos h1, if_pos h1, h.pass _ (by omega)]
    · rw [if_neg h1, if_neg h1]
theorem Alike.note {M : Mv} {R : Rv} (h : Alike M R) (x : Acc) (is : Bool) : Alike (M.note x is) (R.note x is) :=
  { h with
    ck := by show M.ck + 1 = R.ck + 1; rw [h.ck]
    bd := by show (if is then M.bd else M.bd + 1) = (if is then R.bd else R.bd + 1); rw [h.bd]
    la := rfl }
theorem Alike.put {M : Mv} {R : Rv} (h : Alike M R) (at_ v : Int) : Alike (M.put at_ v) (R.put at_ v) := by
  unfold Mv.put Rv.put
  by_cases h0 : 0 ≤ at_
  · rw [if_pos h0, if_pos h0]
    refine { h with seen := fun k hk => ?_ }
    show upd M.seen at_.toNat v k = upd R.seen at_.toNat v k
    unfold upd
    split
    · rfl
    · exact h.seen k hk
  · rw [if_neg h0, if_neg h0]
    refine { h with pass := fun k hk => ?_ }
    show upd M.pass (-1 - at_).toNat v k = upd R.pass (-1 - at_).toNat v k
    unfold upd
    split
    · rfl
    · exact h.pass k hk
theorem Alike.did {M : Mv} {R : Rv} (h : Alike M R) (x : Acc) (nw : Int) (pu : Bool) : Alike (M.did x nw pu) (R.did x nw pu) := by
  unfold Mv.did Rv.did Mv.res Rv.res
  rw [h.peek]
  refine Alike.note ?_ _ _
  split
  · exact h.put _ _
  · exact h
theorem Alike.flushed {M : Mv} {R : Rv} (h : Alike M R) (t l : Int) (v : Value) (ht : 0 ≤ t ∧ t < M.nt) (hl : 0 ≤ l ∧ l < M.n) : Alike (M.flushed t l v) (R.flushed t l) := by
  obtain ⟨a, rfl⟩ := Int.eq_ofNat_of_zero_le ht.1
  obtain ⟨b, rfl⟩ := Int.eq_ofNat_of_zero_le hl.1
  exact { h with
    fl := fun x hx j hj => by
      show upd R.fl a (upd (R.fl a) b true) x j = true ↔ (j : Int) ∈ upd M.fl a (insS (M.fl a) b) x
      by_cases e : x = a
      · rw [e, upd_at, upd_at, insS_mem]
        by_cases e' : j = b
        · rw [e', upd_at]; simp
        · rw [upd_ne _ _ e', h.fl a (by omega) j hj]
          constructor
          · exact Or.inr
          · rintro (q | q)
            · omega
            · exact q
      · rw [upd_ne _ _ e, upd_ne _ _ e]; exact h.fl x hx j hj }
theorem Alike.flushE {M : Mv} {R : Rv} (h : Alike M R) (t l : Int) : M.flushE t l = R.flushE t l := by
  unfold Mv.flushE Rv.flushE; rw [h.n, h.nt]
theorem flushE_in {M : Mv} {t l : Int} (h : M.flushE t l = 0) : (0 ≤ t ∧ t < M.nt) ∧ (0 ≤ l ∧ l < M.n) := by
  unfold Mv.flushE threadE lineE at h
  by_cases h0 : t < 0 ∨ (M.nt : Int) ≤ t
  · rw [if_pos h0, if_neg (by omega)] at h; omega
  · rw [if_neg h0, if_pos rfl] at h
    by_cases h1 : l < 0 ∨ (M.n : Int) ≤ l
    · rw [if_pos h1] at h; omega
    · omega
theorem Alike.flushM {M : Mv} {R : Rv} (h : Alike M R) (t at_ : Int) (v : Value) : Alike (M.flushM t at_ v) (R.flushM t at_) := by
  unfold Mv.flushM Rv.flushM
  rw [← h.flushE]
  split
  · rename_i c
    obtain ⟨a, b⟩ := flushE_in c.2
    exact (h.flushed t (at_ / 8) v a b).note _ _
  · exact h.note _ _
theorem Alike.fenced {M : Mv} {R : Rv} (h : Alike M R) (t : Int) (ht : 0 ≤ t ∧ t < M.nt) : Alike (M.fenced t) (R.fenced t.toNat) := by
  obtain ⟨a, rfl⟩ := Int.eq_ofNat_of_zero_le ht.1
  have ha : a < M.nt := by omega
  show Alike ((M.taken a).backs (M.fl a)) (R.fenced a)
  exact { h with
    kept := fun i hi => by
      show (if (M.fl a).contains ((i / 8 : Nat) : Int) then M.seen i else M.kept i) = if i / 8 < R.n ∧ R.fl a (i / 8) = true then R.seen i else R.kept i
      have hi : i < 8 * M.n := hi
      have h8 : i / 8 < M.n := by omega
      have := h.fl a ha (i / 8) h8
      by_cases c : R.fl a (i / 8) = true
      · rw [if_pos (by simpa using this.1 c), if_pos ⟨by rw [← h.n]; exact h8, c⟩, h.seen i hi]
      · rw [if_neg (fun q => c (this.2 (by simpa using q))), if_neg (fun q => c q.2), h.kept i hi]
    fl := fun x hx j hj => by
      show (if x = a ∧ j < R.n ∧ (x < R.nt ∨ x = R.nt ∧ j < 0) then false else R.fl x j) = true ↔ (j : Int) ∈ upd M.fl a [] x
      have hx : x < M.nt := hx
      have hj : j < M.n := hj
      by_cases e : x = a
      · rw [if_pos ⟨e, by rw [← h.n]; exact hj, Or.inl (by rw [← h.nt]; exact hx)⟩, e, upd_at]; simp
      · rw [if_neg (fun q => e q.1), upd_ne _ _ e]; exact h.fl x hx j hj }
theorem Alike.fenceM {M : Mv} {R : Rv} (h : Alike M R) (t : Int) : Alike (M.fenceM t) (R.fenceM t) := by
  unfold Mv.fenceM Rv.fenceM
  rw [← h.nt]
  split
  · rename_i c
    refine (h.fenced t ?_).note _ _
    unfold threadE at c
    by_cases q : t < 0 ∨ (M.nt : Int) ≤ t
    · rw [if_pos q] at c; omega
    · omega
  · exact h.note _ _
def Rv.acts (M : Rv) (a : Acc) : Rv :=
  if a.ki = 1 then M.load a.th a.pl
  else if a.ki = 2 then M.store a.th a.pl a.ne
  else if a.ki = 3 then M.swap a.th a.pl (if a.dn then a.ol else 18446744073709551615 - a.ol) a.ne
  else if a.ki = 4 then M.flushM a.th a.pl
  else if a.ki = 5 then M.fenceM a.th
  else M
theorem Alike.acts {M : Mv} {R : Rv} (h : Alike M R) (a : Acc) (v : Value) : Alike (M.acts a v) (R.acts a) := by
  unfold Mv.acts Rv.acts
  split
  · exact h.did _ _ _
  · split
    · exact h.did _ _ _
    · split
      · unfold Mv.swap Rv.swap; rw [h.peek]; exact h.did _ _ _
      · split
        · exact h.flushM _ _ _
        · split
          · exact h.fenceM _
          · exact h
/-- Two accesses the same? -/
def accB (x y : Acc) : Bool := x.ki == y.ki && x.th == y.th && x.pl == y.pl && x.ol == y.ol && x.ne == y.ne && x.dn == y.dn
/-- The first k accesses done again: the memory, and how many are what they say. -/
def rrun (R : Rv) (l : Nat → Acc) : Nat → Rv × Nat
  | 0 => (R, 0)
  | k + 1 => ((rrun R l k).1.acts (l k), if (rrun R l k).2 = k ∧ (1 ≤ (l k).ki ∧ (l k).ki ≤ 5) ∧ accB ((rrun R l k).1.acts (l k)).la (l k) = true then k + 1 else (rrun R l k).2)
theorem rrun_le (R : Rv) (l : Nat → Acc) (k : Nat) : (rrun R l k).2 ≤ k := by
  induction k with
  | zero => exact Nat.le_refl _
  | succ k ih =>
    rw [rrun]
    show (if (rrun R l k).2 = k ∧ (1 ≤ (l k).ki ∧ (l k).ki ≤ 5) ∧ accB ((rrun R l k).1.acts (l k)).la (l k) = true then k + 1 else (rrun R l k).2) ≤ k + 1
    by_cases c : (rrun R l k).2 = k ∧ (1 ≤ (l k).ki ∧ (l k).ki ≤ 5) ∧ accB ((rrun R l k).1.acts (l k)).la (l k) = true
    · rw [if_pos c]; exact Nat.le_refl _
    · rw [if_neg c]; omega
theorem acts_ck (M : Mv) (a : Acc) (v : Value) : (M.acts a v).ck = M.ck + (if 1 ≤ a.ki ∧ a.ki ≤ 5 then 1 else 0) := by
  unfold Mv.acts
  have hd : ∀ x nw pu, (M.did x nw pu).ck = M.ck + 1 := fun x nw pu => by
    unfold Mv.did Mv.note
    show (if _ then _ else _ : Mv).ck + 1 = _
    split
    · rw [Mv.put_ck]
    · rfl
  by_cases h1 : a.ki = 1
  · rw [if_pos h1, if_pos (show 1 ≤ a.ki ∧ a.ki ≤ 5 by omega)]; exact hd _ _ _
  rw [if_neg h1]
  by_cases h2 : a.ki = 2
  · rw [if_pos h2, if_pos (show 1 ≤ a.ki ∧ a.ki ≤ 5 by omega)]; exact hd _ _ _
  rw [if_neg h2]
  by_cases h3 : a.ki = 3
  · rw [if_pos h3, if_pos (show 1 ≤ a.ki ∧ a.ki ≤ 5 by omega)]; exact hd _ _ _
  rw [if_neg h3]
  by_cases h4 : a.ki = 4
  · rw [if_pos h4, if_pos (by omega)]; unfold Mv.flushM; split <;> rfl
  rw [if_neg h4]
  by_cases h5 : a.ki = 5
  · rw [if_pos h5, if_pos (by omega)]; unfold Mv.fenceM; split <;> rfl
  rw [if_neg h5, if_neg (by omega)]; omega
theorem did_wm (M : Mv) (x : Acc) (nw : Int) (pu : Bool) : (M.did x nw pu).wm = M.wm ∧ (M.did x nw pu).m = M.m ∧ (M.did x nw pu).d = M.d := by
  unfold Mv.did Mv.note
  show (if _ then _ else _ : Mv).wm = _ ∧ (if _ then _ else _ : Mv).m = _ ∧ (if _ then _ else _ : Mv).d = _
  split
  · unfold Mv.put; split <;> exact ⟨rfl, rfl, rfl⟩
  · exact ⟨rfl, rfl, rfl⟩
theorem acts_wm (M : Mv) (a : Acc) (v : Value) : (M.acts a v).wm ≤ M.wm + 1 ∧ (M.acts a v).m = M.m ∧ (M.acts a v).d = M.d := by
  unfold Mv.acts
  have hd : ∀ x nw pu, (M.did x nw pu).wm ≤ M.wm + 1 ∧ (M.did x nw pu).m = M.m ∧ (M.did x nw pu).d = M.d := fun x nw pu => by
    obtain ⟨a, b, c⟩ := did_wm M x nw pu
    exact ⟨by omega, b, c⟩
  split
  · exact hd _ _ _
  split
  · exact hd _ _ _
  split
  · exact hd _ _ _
  split
  · unfold Mv.flushM; split
    · exact ⟨by show M.wm ≤ M.wm + 1; omega, rfl, rfl⟩
    · exact ⟨by show M.wm ≤ M.wm + 1; omega, rfl, rfl⟩
  split
  · unfold Mv.fenceM; split
    · exact ⟨by show M.wm + 1 ≤ M.wm + 1; omega, rfl, rfl⟩
    · exact ⟨by show M.wm ≤ M.wm + 1; omega, rfl, rfl⟩
  · exact ⟨by omega, rfl, rfl⟩
end Go.Proofs.YtibelcmdfkgonaaGreat

namespace Go.Proofs.YtibelcmdfkgonaaGreat
open Go.RowKit Go.BigFrame
set_option linter.unusedVariables false
set_option linter.unusedSimpArgs false
def Mv.start (m d kb sb wb fb pb n nt np c0 c1 : Nat) (f : Nat → Int) : Mv :=
  { m, d, kb, sb, wb, fb, pb, n, nt, np, c0, c1, c2 := n, c3 := nt, c4 := np, kept := f, seen := f, pass := fun _ => 0, wr := fun _ => 0, fl := fun _ => [], fv := fun _ => .slice none 0 0, ck := 0, bd := 0, la := ⟨0, 0, 0, 0, 0, false⟩, wm := 0 }
theorem mem_start {W W' : World} {B m d kb sb wb fb pb n nt np c0 c1 : Nat} {f : Nat → Int} (h : DevAt W B d kb sb wb fb n nt c0 c1 f) (hb : Below W.heap.size W W') (hm : W.heap.size ≤ m) (hp : W.heap.size ≤ pb) (hmp : m ≠ pb)
    (hr : MemRow W' m (.pointer (some ⟨d, 0, none⟩)) (.slice (some ⟨pb, 0, none⟩) np np) 0 0 ⟨0, 0, 0, 0, 0, false⟩) (hpr : RowAt W' pb np fun _ => .int .u64 0) (n0 : 0 < n) (n1 : n ≤ 262144) (t1 : nt ≤ 64) (p1 : np ≤ 262144) :
    MemAt W' (Mv.start m d kb sb wb fb pb n nt np c0 c1 f) ∧ ∀ k, (Mv.start m d kb sb wb fb pb n nt np c0 c1 f).own k → B ≤ k ∨ W.heap.size ≤ k := by
  have hd := (Array.getElem?_eq_some_iff.1 h.dev).1
  have l1 := h.rk.lt
  have l2 := h.rs.lt
  have l3 := h.rw.lt
  have l4 := h.rf.lt
  have ap := h.apart
  refine ⟨⟨hr, (hb.block d hd).trans h.dev, h.rk.keep (hb.block _ l1), h.rs.keep (hb.block _ l2), h.rw.keep (hb.block _ l3), h.rf.keep (hb.block _ l4), hpr, fun t _ => Or.inl ⟨rfl, rfl⟩, ?_, (fun t _ g hg => by cases hg), (fun t _ t' _ _ g hg => by cases hg), n0, n1, t1, p1, fun t _ => List.Pairwise.nil, (fun t _ x hx => by cases hx), Int.le_refl _, Int.le_refl _, Int.le_refl _, fun k _ => ⟨Int.le_refl _, Int.le_refl _⟩⟩, ?_⟩
  · simp only [List.nodup_cons, List.mem_cons, List.not_mem_nil, or_false, not_or, List.nodup_nil, and_true, not_false_eq_true] at ap
    simp only [Mv.blocks, Mv.start, List.nodup_cons, List.mem_cons, List.not_mem_nil, or_false, not_or, List.nodup_nil, and_true, not_false_eq_true]
    omega
  · rintro k (hk | ⟨t, _, e⟩)
    · have b := h.base
      simp only [Mv.blocks, Mv.start, List.mem_cons, List.not_mem_nil, or_false] at hk
      omega
    · cases e
/-- The document's memory at its start. -/
structure Init (R : Rv) (f : Nat → Int) (n nt np : Nat) : Prop where
  hn : R.n = n
  hnt : R.nt = nt
  hnp : R.np = np
  hkept : ∀ k, k < 8 * n → R.kept k = f k
  hseen : ∀ k, k < 8 * n → R.seen k = f k
  hpass : ∀ k, k < np → R.pass k = 0
  hfl : ∀ t, t < nt → ∀ j, j < n → R.fl t j = false
  hck : R.ck = 0
  hbd : R.bd = 0
  hla : R.la = ⟨0, 0, 0, 0, 0, false⟩
/-- A memory behind the first k accesses, and how many of them were what they say. -/
def RunAt (f : Nat → Int) (n nt np : Nat) (l : Nat → Acc) (k : Nat) (M : Mv) (r : Nat) : Prop := ∀ R, Init R f n nt np → Alike M (rrun R l k).1 ∧ r = (rrun R l k).2
theorem run_start (m d kb sb wb fb pb n nt np c0 c1 : Nat) (f : Nat → Int) (l : Nat → Acc) : RunAt f n nt np l 0 (Mv.start m d kb sb wb fb pb n nt np c0 c1 f) 0 := fun R h =>
  ⟨⟨h.hn.symm, h.hnt.symm, h.hnp.symm, fun k hk => (h.hseen k hk).symm, fun k hk => (h.hkept k hk).symm, fun k hk => (h.hpass k hk).symm, fun t ht j hj => by
    show R.fl t j = true ↔ (j : Int) ∈ ([] : List Int)
    rw [h.hfl t ht j hj]; simp, h.hck.symm, h.hbd.symm, h.hla.symm⟩, rfl⟩
theorem run_step {f : Nat → Int} {n nt np : Nat} {l : Nat → Acc} {k : Nat} {M : Mv} {r : Nat} (h : RunAt f n nt np l k M r) (v : Value) :
    RunAt f n nt np l (k + 1) (M.acts (l k) v) (if r = k ∧ (1 ≤ (l k).ki ∧ (l k).ki ≤ 5) ∧ accB (M.acts (l k) v).la (l k) = true then k + 1 else r) := fun R hR => by
  obtain ⟨h1, h2⟩ := h R hR
  have h3 := h1.acts (l k) v
  refine ⟨h3, ?_⟩
  rw [h3.la]
  show _ = if (rrun R l k).2 = k ∧ (1 ≤ (l k).ki ∧ (l k).ki ≤ 5) ∧ accB ((rrun R l k).1.acts (l k)).la (l k) = true then k + 1 else (rrun R l k).2
  rw [← h2]
theorem accB_iff (x y : Acc) : accB x y = true ↔ x = y := by
  obtain ⟨a, b, c, d, e, f⟩ := x
  obtain ⟨a', b', c', d', e', f'⟩ := y
  simp [accB]
  constructor
  · rintro ⟨⟨⟨⟨⟨h1, h2⟩, h3⟩, h4⟩, h5⟩, h6⟩; exact ⟨h1, h2, h3, h4, h5, h6⟩
  · rintro ⟨h1, h2, h3, h4, h5, h6⟩; exact ⟨⟨⟨⟨⟨h1, h2⟩, h3⟩, h4⟩, h5⟩, h6⟩
theorem eql44 (x y : Acc) (w : World) : (binOp .eql 134 (.agg x.cells) (.agg y.cells)).run Tryz.prog w = .ok (.bool (accB x y)) w := by
  simp only [Acc.cells]
  go_simp
  by_cases h : accB x y = true
  · have := (accB_iff x y).1 h
    subst this
    rw [h]; simp
  · rw [show accB x y = false by simpa using h]
    repeat' split
    all_goals first | rfl | (exfalso; apply h; rw [accB_iff]; obtain ⟨a, b, c, d, e, f⟩ := x; obtain ⟨a', b', c', d', e', f'⟩ := y; simp_all)
theorem neq44 (x y : Acc) (w : World) : (binOp .neq 134 (.agg x.cells) (.agg y.cells)).run Tryz.prog w = .ok (.bool (!accB x y)) w := by
  simp only [Acc.cells]
  go_simp
  by_cases h : accB x y = true
  · have := (accB_iff x y).1 h
    subst this
    rw [h]; simp
  · rw [show accB x y = false by simpa using h]
    repeat' split
    all_goals first | rfl | (exfalso; apply h; rw [accB_iff]; obtain ⟨a, b, c, d, e, f⟩ := x; obtain ⟨a', b', c', d', e', f'⟩ := y; simp_all)
/-- An access in memory. -/
def AccIn (W : World) (b o : Nat) (x : Acc) : Prop := W.cell? ⟨b, o, none⟩ = some (.int .i64 x.ki) ∧ W.cell? ⟨b, o + 1, none⟩ = some (.int .i64 x.th) ∧ W.cell? ⟨b, o + 2, none⟩ = some (.int .i64 x.pl) ∧ W.cell? ⟨b, o + 3, none⟩ = some (.int .u64 x.ol) ∧ W.cell? ⟨b, o + 4, none⟩ = some (.int .u64 x.ne) ∧ W.cell? ⟨b, o + 5, none⟩ = some (.bool x.dn)
/-- A list of accesses in memory. -/
def AccsIn (W : World) (a : Option Addr) (len : Nat) (c : Nat → Acc) : Prop := ∀ i, i < len → ∃ b off, a = some ⟨b, off, none⟩ ∧ b < W.heap.size ∧ AccIn W b (off + i * 6) (c i) ∧ (c i).May
theorem AccsIn.below {W W' : World} {a : Option Addr} {len : Nat} {c : Nat → Acc} (h : AccsIn W a len c) (hb : Below W.heap.size W W') : AccsIn W' a len c := fun i hi => by
  obtain ⟨b, off, e, hl, ⟨h0, h1, h2, h3, h4, h5⟩, hm⟩ := h i hi
  have k : ∀ o, W'.cell? ⟨b, o, none⟩ = W.cell? ⟨b, o, none⟩ := fun o => hb.cell (p := ⟨b, o, none⟩) hl
  exact ⟨b, off, e, Nat.lt_of_lt_of_le hl hb.size, ⟨(k _).trans h0, (k _).trans h1, (k _).trans h2, (k _).trans h3, (k _).trans h4, (k _).trans h5⟩, hm⟩
end Go.Proofs.YtibelcmdfkgonaaGreat

namespace Go.Proofs.YtibelcmdfkgonaaGreat
open Go.RowKit Go.BigFrame
set_option linter.unusedVariables false
set_option linter.unusedSimpArgs false
theorem row_of_own42 {w : World} {X n g cap : Nat} {f : Nat → Int} (h : w.ownsRow X 48 1 (.slice (some ⟨g, 0, none⟩) n cap) n (wordsL f n)) (hn : 0 < n) : RowAt w g n fun k => .int .u64 (f k) := by
  obtain ⟨g', cap', c, e1, hb, hg, hc1, hcs, hcc⟩ := own_row h hn
  cases e1
  exact ⟨c, _, hg, fun k hk => by rw [hcc k (by omega)]; exact wordsL_get f _ k hk⟩
/-- New words, told by their row. -/
def WordsTo (f : Nat → Int) (n : Nat) (W : World) (e : Ending) (W' : World) : Prop := ∃ g c, e = .returned (.slice (some ⟨g, 0, none⟩) n c) ∧ Below W.heap.size W W' ∧ RowAt W' g n (fun k => .int .u64 (f k)) ∧ W.heap.size ≤ g
theorem NewWords.to {f : Nat → Int} {n : Nat} {W W' : World} {e : Ending} (h : NewWords f n W e W') (hn : 0 < n) : WordsTo f n W e W' := by
  obtain ⟨v, rfl, hb, ho⟩ := h
  obtain ⟨g, cap, c, rfl, hg, -⟩ := own_row ho hn
  exact ⟨g, cap, rfl, hb, row_of_own42 ho hn, hg⟩
theorem seen24M (M : Mv) (W : World) (h : MemAt W M) : Calls Tryz.prog 12 #[.pointer (some ⟨M.d, 0, none⟩)] W (WordsTo M.seen (8 * M.n) W) := by
  have hd := (dev_cells h.dev).2.1
  have HW := Lib.hid ((words42 M.sb M.n M.c1 h.n1 M.seen W h.seen).mono fun e w hw => hw.to (by have := h.n0; omega))
  clear h
  generalize 8 * M.n = N at *
  go_enter Tryz.func12, Tryz.ntmps12
  go_wp2_with fail
  with_reducible refine HW.out.mono ?_
  rintro e w ⟨g, c, rfl, hb, hr, hg⟩
  have H := Lib.hid (And.intro hb (And.intro hr hg))
  clear hb hr hg
  go_wp2_with fail
  go_ret
  exact ⟨g, c, rfl, H.out.1, H.out.2⟩
theorem kept28M (M : Mv) (W : World) (h : MemAt W M) : Calls Tryz.prog 44 #[.pointer (some ⟨M.d, 0, none⟩)] W (WordsTo M.kept (8 * M.n) W) := by
  have hd := (dev_cells h.dev).1
  have HW := Lib.hid ((words42 M.kb M.n M.c0 h.n1 M.kept W h.kept).mono fun e w hw => hw.to (by have := h.n0; omega))
  clear h
  generalize 8 * M.n = N at *
  go_enter Tryz.func44, Tryz.ntmps44
  go_wp2_with fail
  with_reducible refine HW.out.mono ?_
  rintro e w ⟨g, c, rfl, hb, hr, hg⟩
  have H := Lib.hid (And.intro hb (And.intro hr hg))
  clear hb hr hg
  go_wp2_with fail
  go_ret
  exact ⟨g, c, rfl, H.out.1, H.out.2⟩
theorem same12M (g h n ca cb : Nat) (hn : n ≤ 2097152) (f f' : Nat → Int) (W : World) (h1 : RowAt W g n fun k => .int .u64 (f k)) (h2 : RowAt W h n fun k => .int .u64 (f' k)) (e : ∀ k, k < n → f k = f' k) :
    Calls Tryz.prog 20 #[.slice (some ⟨g, 0, none⟩) n ca, .slice (some ⟨h, 0, none⟩) n cb] W (Gives (.bool true) W) := by
  exact same12 _ _ n ca cb hn f W fun _ => ⟨g, h, rfl, rfl, h1.lt, h2.lt, fun j hj => ⟨h1.cell hj, by rw [e j hj]; exact h2.cell hj⟩⟩
theorem last22M (M : Mv) (W : World) (h : MemAt W M) : Calls Tryz.prog 118 #[.pointer (some ⟨M.m, 0, none⟩)] W (Gives (.agg M.la.cells) W) := by
  obtain ⟨_, _, _, _, y4, y5, y6, y7, y8, y9, _⟩ := row10 h.row
  exact last22 M.m _ _ _ _ _ _ W (h.lt (Or.inl (by simp [Mv.blocks]))) y4 y5 y6 y7 y8 y9
theorem clock20M (M : Mv) (W : World) (h : MemAt W M) : Calls Tryz.prog 14 #[.pointer (some ⟨M.m, 0, none⟩)] W (Says (.int .i64 M.ck) W) :=
  clock20 M.m M.ck W (row10 h.row).2.2.1
end Go.Proofs.YtibelcmdfkgonaaGreat

namespace Go.Proofs.YtibelcmdfkgonaaGreat
open Go.RowKit Go.BigFrame
set_option linter.unusedVariables false
set_option linter.unusedSimpArgs false
set_option maxRecDepth 100000 in
set_option maxHeartbeats 4000000 in
theorem same11 (M : Mv) (R : Rv) (W : World) (hM : MemAt W M) (hR : RefAt W R) (hA : Alike M R) :
    Calls Tryz.prog 51 #[.pointer (some ⟨M.m, 0, none⟩), .pointer (some ⟨R.m, 0, none⟩)] W (Gives (.bool true) W) := by
  obtain ⟨V, hV⟩ : ∃ V, V = W.heap.size := ⟨_, rfl⟩
  have le : ∀ {w : World}, Below V W w → V ≤ w.heap.size := fun h => by rw [hV]; exact h.size
  have M20 : Hid (∀ w, Below V W w → Calls Tryz.prog 14 #[.pointer (some ⟨M.m, 0, none⟩)] w (fun e w' => e = .returned (.int .i64 M.ck) ∧ Below V W w')) := Lib.hid fun w hw => (clock20M M w (hM.below (hV ▸ hw))).mono fun e w' ⟨h1, h2⟩ => ⟨h1, by rw [h2]; exact hw⟩
  have M27 : Hid (∀ w, Below V W w → Calls Tryz.prog 43 #[.pointer (some ⟨M.m, 0, none⟩)] w (fun e w' => e = .returned (.int .i64 M.bd) ∧ Below V W w')) := Lib.hid fun w hw => (bad27 M.m M.bd w (row10 (hM.below (hV ▸ hw)).row).2.2.2.1).mono fun e w' ⟨h1, h2⟩ => ⟨h1, by rw [h2]; exact hw⟩
  have M22 : Hid (∀ w, Below V W w → Calls Tryz.prog 118 #[.pointer (some ⟨M.m, 0, none⟩)] w (fun e w' => e = .returned (.agg M.la.cells) ∧ Below V W w')) := Lib.hid fun w hw => (last22M M w (hM.below (hV ▸ hw))).mono fun e w' ⟨h1, h2⟩ => ⟨h1, hw.trans (h2.mono (le hw))⟩
  have M23 : Hid (∀ w, Below V W w → Calls Tryz.prog 11 #[.pointer (some ⟨M.m, 0, none⟩)] w (fun e w' => e = .returned (.pointer (some ⟨M.d, 0, none⟩)) ∧ Below V W w')) := Lib.hid fun w hw => (device23 M.m M.d w (row10 (hM.below (hV ▸ hw)).row).1).mono fun e w' ⟨h1, h2⟩ => ⟨h1, by rw [h2]; exact hw⟩
  have M24 : Hid (∀ w, Below V W w → Calls Tryz.prog 12 #[.pointer (some ⟨M.d, 0, none⟩)] w (fun e w' => ∃ g c, e = .returned (.slice (some ⟨g, 0, none⟩) (8 * M.n) c) ∧ Below V W w' ∧ RowAt w' g (8 * M.n) (fun k => .int .u64 (M.seen k)))) := Lib.hid fun w hw => (seen24M M w (hM.below (hV ▸ hw))).mono fun e w' ⟨g, c, h1, h2, h3, _⟩ => ⟨g, c, h1, hw.trans (h2.mono (le hw)), h3⟩
  have M28 : Hid (∀ w, Below V W w → Calls Tryz.prog 44 #[.pointer (some ⟨M.d, 0, none⟩)] w (fun e w' => ∃ g c, e = .returned (.slice (some ⟨g, 0, none⟩) (8 * M.n) c) ∧ Below V W w' ∧ RowAt w' g (8 * M.n) (fun k => .int .u64 (M.kept k)))) := Lib.hid fun w hw => (kept28M M w (hM.below (hV ▸ hw))).mono fun e w' ⟨g, c, h1, h2, h3, _⟩ => ⟨g, c, h1, hw.trans (h2.mono (le hw)), h3⟩
  have M12s : Hid (∀ g c w, Below V W w → RowAt w g (8 * M.n) (fun k => .int .u64 (M.seen k)) → Calls Tryz.prog 20 #[.slice (some ⟨g, 0, none⟩) (8 * M.n) c, .slice (some ⟨R.sb, 0, none⟩) (8 * M.n) R.c1] w (fun e w' => e = .returned (.bool true) ∧ Below V W w')) := Lib.hid fun g c w hw h => by
    have hs := (hR.below (hV ▸ hw)).seen
    rw [← hA.n] at hs
    exact (same12M g R.sb _ c R.c1 (by have := hM.n1; omega) M.seen R.seen w h hs hA.seen).mono fun e w' ⟨h1, h2⟩ => ⟨h1, hw.trans (h2.mono (le hw))⟩
  have M12k : Hid (∀ g c w, Below V W w → RowAt w g (8 * M.n) (fun k => .int .u64 (M.kept k)) → Calls Tryz.prog 20 #[.slice (some ⟨g, 0, none⟩) (8 * M.n) c, .slice (some ⟨R.kb, 0, none⟩) (8 * M.n) R.c0] w (fun e w' => e = .returned (.bool true) ∧ Below V W w')) := Lib.hid fun g c w hw h => by
    have hs := (hR.below (hV ▸ hw)).kept
    rw [← hA.n] at hs
    exact (same12M g R.kb _ c R.c0 (by have := hM.n1; omega) M.kept R.kept w h hs hA.kept).mono fun e w' ⟨h1, h2⟩ => ⟨h1, hw.trans (h2.mono (le hw))⟩
  have M29 : Hid (∀ (i : Nat) w, i < M.np → Below V W w → Calls Tryz.prog 94 #[.pointer (some ⟨M.m, 0, none⟩), .int .i64 (-1 - (i : Int))] w (fun e w' => e = .returned (.tuple #[.int .u64 (R.pass i), .bool true]) ∧ Below V W w')) := Lib.hid fun i w hi hw => by
    have hp := hM.p1
    have := peekM M (-1 - (i : Int)) (by omega) (by omega) w (hM.below (hV ▸ hw))
    have e : M.peek (-1 - (i : Int)) = (R.pass i, true) := by
      unfold Mv.peek peekV
      rw [if_neg (by omega), if_pos (by omega), show (-1 - (-1 - (i : Int))).toNat = i by omega, hA.pass i hi]
    rw [e] at this
    exact this.mono fun e w' ⟨h1, h2, _⟩ => ⟨h1, hw.trans (h2.mono (le hw))⟩
  obtain ⟨x0, x1, x2, x3, x4, x5, x6, x7, x8, x9, -⟩ := row10 hR.row
  obtain ⟨y0, y1, -, -⟩ := dev_cells hR.dev
  rw [← hA.ck] at x2
  rw [← hA.bd] at x3
  rw [← hA.la] at x4 x5 x6 x7 x8 x9
  rw [← hA.n] at y0 y1
  rw [← hA.np] at x1
  have q44 := fun w => neq44 M.la M.la w
  have eA : accB M.la M.la = true := (accB_iff _ _).2 rfl
  rw [eA] at q44
  have HP : Hid (∀ i, i < M.np → W.cell? ⟨R.pb, i, none⟩ = some (.int .u64 (R.pass i)) ∧ R.pb < V) := Lib.hid fun i hi => ⟨hR.pass.cell (by rw [← hA.np]; exact hi), by rw [hV]; exact hR.pass.lt⟩
  have HRV : Hid (R.m < V ∧ R.d < V) := Lib.hid (by rw [hV]; exact ⟨hR.lt (Or.inl (by simp [Rv.blocks])), hR.lt (Or.inl (by simp [Rv.blocks]))⟩)
  have hp1 := hM.p1
  have hn1 := hM.n1
  have HV : Hid (Below V W W ∧ (∀ w, Below V W w → Below W.heap.size W w)) := Lib.hid ⟨Below.refl _ _, fun w h => hV ▸ h⟩
  clear hM hR hA hV eA le
  generalize M.la = la at *
  generalize M.ck = ck at *
  generalize M.bd = bd at *
  generalize M.seen = seen at *
  generalize M.kept = kept at *
  generalize R.pass = pass at *
  obtain ⟨N, hN⟩ : ∃ N, N = 8 * M.n := ⟨_, rfl⟩
  rw [← hN] at y0 y1 M24 M28 M12s M12k
  clear hN hn1
  obtain ⟨ki, th, pl, ol, ne, dn⟩ := la
  simp only [Acc.cells] at q44 M22
  generalize M.np = np at *
  generalize R.pb = pb at *
  generalize R.sb = sb at *
  generalize R.kb = kb at *
  generalize R.m = rm at *
  generalize R.d = rd at *
  generalize M.d = d at *
  generalize M.m = m at *
  go_enter Tryz.func51, Tryz.ntmps51
  go_wp2_with fail
  go_region_held3 (fun w' => w'.cell? ⟨rm, 0, none⟩ = some (.pointer (some ⟨rd, 0, none⟩)) ∧ w'.cell? ⟨rm, 2, none⟩ = some (.int .i64 ck) ∧ w'.cell? ⟨rm, 3, none⟩ = some (.int .i64 bd) ∧ w'.cell? ⟨rm, 4, none⟩ = some (.int .i64 ki) ∧ w'.cell? ⟨rm, 5, none⟩ = some (.int .i64 th) ∧ w'.cell? ⟨rm, 6, none⟩ = some (.int .i64 pl) ∧ w'.cell? ⟨rm, 7, none⟩ = some (.int .u64 ol) ∧ w'.cell? ⟨rm, 8, none⟩ = some (.int .u64 ne) ∧ w'.cell? ⟨rm, 9, none⟩ = some (.bool dn) ∧ w'.cell? ⟨rd, 0, none⟩ = some (.slice (some ⟨kb, 0, none⟩) N R.c0) ∧ w'.cell? ⟨rd, 1, none⟩ = some (.slice (some ⟨sb, 0, none⟩) N R.c1)) (go_keep) (first | (go_at_call 14; refine (M20.out _ (HV.out.1.drew)).mono ?_; rintro e w1 ⟨rfl, hb⟩; have q1 : ∀ o, w1.cell? ⟨rm, o, none⟩ = W.cell? ⟨rm, o, none⟩ := fun o => hb.cell (p := ⟨rm, o, none⟩) HRV.out.1; have q2 : ∀ o, w1.cell? ⟨rd, o, none⟩ = W.cell? ⟨rd, o, none⟩ := fun o => hb.cell (p := ⟨rd, o, none⟩) HRV.out.2; have HNOW := Lib.hid hb; clear hb) | (go_at_call 43; refine (M27.out _ HNOW.out).mono ?_; rintro e w2 ⟨rfl, hb⟩; have q1 : ∀ o, w2.cell? ⟨rm, o, none⟩ = W.cell? ⟨rm, o, none⟩ := fun o => hb.cell (p := ⟨rm, o, none⟩) HRV.out.1; have q2 : ∀ o, w2.cell? ⟨rd, o, none⟩ = W.cell? ⟨rd, o, none⟩ := fun o => hb.cell (p := ⟨rd, o, none⟩) HRV.out.2; have HNOW := Lib.hid hb; clear hb) | (go_at_call 118; refine (M22.out _ HNOW.out).mono ?_; rintro e w3 ⟨rfl, hb⟩; have q1 : ∀ o, w3.cell? ⟨rm, o, none⟩ = W.cell? ⟨rm, o, none⟩ := fun o => hb.cell (p := ⟨rm, o, none⟩) HRV.out.1; have q2 : ∀ o, w3.cell? ⟨rd, o, none⟩ = W.cell? ⟨rd, o, none⟩ := fun o => hb.cell (p := ⟨rd, o, none⟩) HRV.out.2; have HNOW := Lib.hid hb; clear hb) | (go_at_call 11; refine (M23.out _ HNOW.out).mono ?_; rintro e w4 ⟨rfl, hb⟩; have q1 : ∀ o, w4.cell? ⟨rm, o, none⟩ = W.cell? ⟨rm, o, none⟩ := fun o => hb.cell (p := ⟨rm, o, none⟩) HRV.out.1; have q2 : ∀ o, w4.cell? ⟨rd, o, none⟩ = W.cell? ⟨rd, o, none⟩ := fun o => hb.cell (p := ⟨rd, o, none⟩) HRV.out.2; have HNOW := Lib.hid hb; clear hb) | (go_at_call 12; refine (M24.out _ HNOW.out).mono ?_; rintro e w5 ⟨g, c, rfl, hb, hr⟩; have HRS := Lib.hid hr; clear hr; have q1 : ∀ o, w5.cell? ⟨rm, o, none⟩ = W.cell? ⟨rm, o, none⟩ := fun o => hb.cell (p := ⟨rm, o, none⟩) HRV.out.1; have q2 : ∀ o, w5.cell? ⟨rd, o, none⟩ = W.cell? ⟨rd, o, none⟩ := fun o => hb.cell (p := ⟨rd, o, none⟩) HRV.out.2; have HNOW := Lib.hid hb; clear hb) | (go_at_call 44; refine (M28.out _ HNOW.out).mono ?_; rintro e w6 ⟨g2, c2, rfl, hb, hr⟩; have HRK := Lib.hid hr; clear hr; have q1 : ∀ o, w6.cell? ⟨rm, o, none⟩ = W.cell? ⟨rm, o, none⟩ := fun o => hb.cell (p := ⟨rm, o, none⟩) HRV.out.1; have q2 : ∀ o, w6.cell? ⟨rd, o, none⟩ = W.cell? ⟨rd, o, none⟩ := fun o => hb.cell (p := ⟨rd, o, none⟩) HRV.out.2; have HNOW := Lib.hid hb; clear hb) | (go_at_call 20; (first | (with_reducible refine (M12s.out _ _ _ HNOW.out HRS.out).mono ?_) | (with_reducible refine (M12k.out _ _ _ HNOW.out HRK.out).mono ?_)); rintro e w7 ⟨rfl, hb⟩; have q1 : ∀ o, w7.cell? ⟨rm, o, none⟩ = W.cell? ⟨rm, o, none⟩ := fun o => hb.cell (p := ⟨rm, o, none⟩) HRV.out.1; have q2 : ∀ o, w7.cell? ⟨rd, o, none⟩ = W.cell? ⟨rd, o, none⟩ := fun o => hb.cell (p := ⟨rd, o, none⟩) HRV.out.2; have HNOW := Lib.hid hb; clear hb))
  go_wp2_with fail
  go_loopw [5] (fun i wr => ∃ k : Nat, k ≤ np ∧ i = .int .i64 k ∧ Hid (Below V W wr)) (fun i _ => np - (intOf i).toNat)
  case atStart => exact ⟨0, Nat.zero_le _, rfl, HNOW⟩
  case round =>
    obtain ⟨k, hk, rfl, HB⟩ := hrel
    have k0 : wr.cell? ⟨rm, 0, none⟩ = some (.pointer (some ⟨rd, 0, none⟩)) := (HB.out.cell (p := ⟨rm, 0, none⟩) HRV.out.1).trans x0
    have k1 : wr.cell? ⟨rm, 1, none⟩ = some (.slice (some ⟨pb, 0, none⟩) np R.c4) := (HB.out.cell (p := ⟨rm, 1, none⟩) HRV.out.1).trans x1
    by_cases hlt : k < np
    · have e1 : decide ((k : Int) < (np : Int)) = true := bool_yes (by omega)
      have i0 : (0 : Int) ≤ (k : Int) := by omega
      have i1 : (k : Int) < (np : Int) := by omega
      have i2 : wrap64 (-1 - (k : Int)) = -1 - (k : Int) := by unfold wrap64; omega
      have HC := Lib.hid (M29.out k wr hlt HB.out)
      have HPK := Lib.hid (HP.out k hlt)
      generalize pass k = v at *
      go_wp2_with fail
      with_reducible refine HC.out.mono ?_
      rintro e wq ⟨rfl, hb⟩
      have g1 : wq.cell? ⟨rm, 1, none⟩ = some (.slice (some ⟨pb, 0, none⟩) np R.c4) := (hb.cell (p := ⟨rm, 1, none⟩) HRV.out.1).trans x1
      have g2 : wq.cell? ⟨pb, k, none⟩ = some (.int .u64 v) := (hb.cell (p := ⟨pb, k, none⟩) HPK.out.2).trans HPK.out.1
      have HB2 := Lib.hid hb
      clear hb
      go_wp2_with fail
      go_roundw
      case rel => exact ⟨k + 1, by omega, by go_num, HB2⟩
      case measure => simp [intOf]; omega
    · obtain rfl : k = np := by omega
      have e1 : decide ((k : Int) < (k : Int)) = false := by simp
      go_wp2_with fail
      go_ret
      exact ⟨rfl, HV.out.2 _ HB.out⟩
end Go.Proofs.YtibelcmdfkgonaaGreat

namespace Go.Proofs.YtibelcmdfkgonaaGreat
open Go.RowKit Go.BigFrame
set_option linter.unusedVariables false
set_option linter.unusedSimpArgs false
/-- A device of the document's, half way: D is its block; k words are kept, j are seen. -/
structure HalfAt (W0 wr : World) (D : Nat) (kv sv wv fv : Value) (k j : Nat) (f : Nat → Int) : Prop where
  row : wr.heap[D]? = some (.cells #[kv, sv, wv, fv] 205 (0, 0))
  kept : wr.ownsRow W0.heap.size 48 1 kv k (wordsL f k)
  seen : wr.ownsRow W0.heap.size 48 1 sv j (wordsL f j)
  base : W0.heap.size ≤ D
  n1 : kv.ownBlock ≠ some D
  n2 : sv.ownBlock ≠ some D
  n3 : ∀ g, kv.ownBlock = some g → sv.ownBlock ≠ some g
  below : Below W0.heap.size W0 wr
theorem wordsL_snoc (f : Nat → Int) (k : Nat) : wordsL f (k + 1) = wordsL f k ++ [.int .u64 (f k)] := by
  unfold wordsL; rw [List.range_succ, List.map_append]; rfl
theorem HalfAt.kept1 {W0 wr w1 : World} {D : Nat} {kv sv wv fv v' : Value} {k j : Nat} {f : Nat → Int} (h : HalfAt W0 wr D kv sv wv fv k j f) {w : World} (hb : Below wr.heap.size wr w) (ho : w1.ownsRow W0.heap.size 48 1 v' (k + 1) (wordsL f k ++ [.int .u64 (f k)])) (hg : w.grownBy w1 kv.ownBlock)
    (hv : v'.ownBlock = kv.ownBlock ∨ v'.ownBlock = some w.heap.size) : HalfAt W0 (w1.setCell ⟨D, 0, none⟩ v') D v' sv wv fv (k + 1) j f := by
  have hD := (Array.getElem?_eq_some_iff.1 h.row).1
  have s1 := hb.size
  have s2 := hg.size
  have kA : ∀ g, g < wr.heap.size → kv.ownBlock ≠ some g → w1.heap[g]? = wr.heap[g]? := fun g hl e => (hg.block g (by omega) (Ne.symm e)).trans (hb.block g hl)
  have ns : ∀ g, sv.ownBlock = some g → kv.ownBlock ≠ some g := fun g a b => h.n3 g b a
  refine ⟨?_, own_keep1 (by rw [wordsL_snoc]; exact ho) fun g e => heap_set_other fun e2 => ?_, own_keep1 h.seen fun g e => (heap_set_other fun (e2 : g = D) => h.n2 (e2 ▸ e)).trans (kA g (own_lt h.seen e).2 (ns g e)), h.base, ?_, h.n2, fun g e => ?_, ?_⟩
  · have := heap_set (j := 0) v' ((kA D hD h.n1).trans h.row)
    simpa using this
  · subst e2
    rcases hv with q | q
    · exact h.n1 (by rw [← q]; exact e)
    · rw [q] at e; cases e; omega
  · intro e
    rcases hv with q | q
    · exact h.n1 (by rw [← q]; exact e)
    · rw [q] at e; cases e; omega
  · rcases hv with q | q
    · exact h.n3 g (by rw [← q]; exact e)
    · rw [q] at e; cases e
      intro e2
      have := (own_lt h.seen e2).2; omega
  · exact ((h.below.trans (hb.mono h.below.size)).grown hg (by have := h.below.size; omega) (fun q e => (own_lt h.kept e).1)).setCell h.base _
theorem HalfAt.seen1 {W0 wr w1 : World} {D : Nat} {kv sv wv fv v' : Value} {k j : Nat} {f : Nat → Int} (h : HalfAt W0 wr D kv sv wv fv k j f) {w : World} (hb : Below wr.heap.size wr w) (ho : w1.ownsRow W0.heap.size 48 1 v' (j + 1) (wordsL f j ++ [.int .u64 (f j)])) (hg : w.grownBy w1 sv.ownBlock)
    (hv : v'.ownBlock = sv.ownBlock ∨ v'.ownBlock = some w.heap.size) : HalfAt W0 (w1.setCell ⟨D, 1, none⟩ v') D kv v' wv fv k (j + 1) f := by
  have hD := (Array.getElem?_eq_some_iff.1 h.row).1
  have s1 := hb.size
  have s2 := hg.size
  have kA : ∀ g, g < wr.heap.size → sv.ownBlock ≠ some g → w1.heap[g]? = wr.heap[g]? := fun g hl e => (hg.block g (by omega) (Ne.symm e)).trans (hb.block g hl)
  refine ⟨?_, own_keep1 h.kept fun g e => (heap_set_other fun (e2 : g = D) => h.n1 (e2 ▸ e)).trans (kA g (own_lt h.kept e).2 (h.n3 g e)), own_keep1 (by rw [wordsL_snoc]; exact ho) fun g e => heap_set_other fun e2 => ?_, h.base, h.n1, ?_, fun g e => ?_, ?_⟩
  · have := heap_set (j := 1) v' ((kA D hD h.n2).trans h.row)
    simpa using this
  · subst e2
    rcases hv with q | q
    · exact h.n2 (by rw [← q]; exact e)
    · rw [q] at e; cases e; omega
  · intro e
    rcases hv with q | q
    · exact h.n2 (by rw [← q]; exact e)
    · rw [q] at e; cases e; omega
  · rcases hv with q | q
    · rw [q]; exact h.n3 g e
    · rw [q]; intro e2; cases e2
      have := (own_lt h.kept e).2; omega
  · exact ((h.below.trans (hb.mono h.below.size)).grown hg (by have := h.below.size; omega) (fun q e => (own_lt h.seen e).1)).setCell h.base _
end Go.Proofs.YtibelcmdfkgonaaGreat

namespace Go.Proofs.YtibelcmdfkgonaaGreat
open Go.RowKit Go.BigFrame
set_option linter.unusedVariables false
set_option linter.unusedSimpArgs false
def rowsL (fg : Nat → Nat) (m k : Nat) : List Value := (List.range k).map fun i => .slice (some ⟨fg i, 0, none⟩) m m
theorem rowsL_snoc (fg : Nat → Nat) (m k : Nat) : rowsL fg m (k + 1) = rowsL fg m k ++ [.slice (some ⟨fg k, 0, none⟩) m m] := by
  unfold rowsL; rw [List.range_succ, List.map_append]; rfl
theorem rowsL_upd (fg : Nat → Nat) (m k q : Nat) : rowsL (upd fg k q) m k = rowsL fg m k := by
  unfold rowsL
  apply List.map_congr_left
  intro i hi
  rw [upd_ne _ _ (by have := List.mem_range.1 hi; omega)]
theorem rowsL_get (fg : Nat → Nat) (m k i : Nat) (h : i < k) : (rowsL fg m k)[i]? = some (.slice (some ⟨fg i, 0, none⟩) m m) := by
  unfold rowsL; rw [List.getElem?_map, List.getElem?_range h]; rfl
/-- A device of the document's, all but its flush rows. -/
structure Dev3 (W0 wr : World) (D kb sb wb c0 c1 : Nat) (fv : Value) (k m : Nat) (fg : Nat → Nat) (f : Nat → Int) : Prop where
  row : wr.heap[D]? = some (.cells #[.slice (some ⟨kb, 0, none⟩) (8 * m) c0, .slice (some ⟨sb, 0, none⟩) (8 * m) c1, .slice (some ⟨wb, 0, none⟩) m m, fv] 205 (0, 0))
  rk : RowAt wr kb (8 * m) fun k => .int .u64 (f k)
  rs : RowAt wr sb (8 * m) fun k => .int .u64 (f k)
  rw : RowAt wr wb m fun _ => .int .i64 0
  fl : wr.ownsRow W0.heap.size 144 1 fv k (rowsL fg m k)
  rf : ∀ i, i < k → RowAt wr (fg i) m fun _ => .bool false
  ap : [D, kb, sb, wb].Nodup
  a1 : ∀ i, i < k → fg i ∉ [D, kb, sb, wb]
  a2 : ∀ i, i < k → ∀ j, j < k → i ≠ j → fg i ≠ fg j
  a3 : ∀ g, fv.ownBlock = some g → g ∉ [D, kb, sb, wb] ∧ ∀ i, i < k → fg i ≠ g
  base : ∀ g, g ∈ [D, kb, sb, wb] → W0.heap.size ≤ g
  bf : ∀ i, i < k → W0.heap.size ≤ fg i
  below : Below W0.heap.size W0 wr
theorem Dev3.add {W0 wr w1 : World} {D kb sb wb c0 c1 : Nat} {fv v' : Value} {k m : Nat} {fg : Nat → Nat} {f : Nat → Int} (h : Dev3 W0 wr D kb sb wb c0 c1 fv k m fg f) {w : World} {q : Nat} (hb : Below wr.heap.size wr w) (hq : wr.heap.size ≤ q) (hr : RowAt w q m fun _ => .bool false)
    (ho : w1.ownsRow W0.heap.size 144 1 v' (k + 1) (rowsL fg m k ++ [.slice (some ⟨q, 0, none⟩) m m])) (hg : w.grownBy w1 fv.ownBlock) (hv : v'.ownBlock = fv.ownBlock ∨ v'.ownBlock = some w.heap.size) :
    Dev3 W0 (w1.setCell ⟨D, 3, none⟩ v') D kb sb wb c0 c1 v' (k + 1) m (upd fg k q) f := by
  have s1 := hb.size
  have s2 := hg.size
  have lq := hr.lt
  have s0 := h.below.size
  have hD := (Array.getElem?_eq_some_iff.1 h.row).1
  have nf : ∀ g, g ∈ [D, kb, sb, wb] → fv.ownBlock ≠ some g := fun g hg e => (h.a3 g e).1 hg
  have nfg : ∀ i, i < k → fv.ownBlock ≠ some (fg i) := fun i hi e => (h.a3 _ e).2 i hi rfl
  have kA : ∀ g, g < wr.heap.size → fv.ownBlock ≠ some g → w1.heap[g]? = wr.heap[g]? := fun g hl e => (hg.block g (by omega) (Ne.symm e)).trans (hb.block g hl)
  have kB : ∀ g, g < wr.heap.size → fv.ownBlock ≠ some g → g ≠ D → (w1.setCell ⟨D, 3, none⟩ v').heap[g]? = wr.heap[g]? := fun g hl e e2 => (heap_set_other e2).trans (kA g hl e)
  have nq : fv.ownBlock ≠ some q := fun e => by have := (own_lt h.fl e).2; omega
  have hqD : q ≠ D := by omega
  have ap := h.ap
  simp only [List.nodup_cons, List.mem_cons, List.not_mem_nil, or_false, not_or, List.nodup_nil, and_true, not_false_eq_true] at ap
  have lt : ∀ g, g ∈ [D, kb, sb, wb] → g < wr.heap.size := fun g hg => by
    simp only [List.mem_cons, List.not_mem_nil, or_false] at hg
    rcases hg with rfl | rfl | rfl | rfl
    · exact hD
    · exact h.rk.lt
    · exact h.rs.lt
    · exact h.rw.lt
  have nv : ∀ g, g < wr.heap.size → fv.ownBlock ≠ some g → v'.ownBlock ≠ some g := fun g hl e e2 => by
    rcases hv with r | r
    · exact e (by rw [← r]; exact e2)
    · rw [r] at e2; cases e2; omega
  have nvq : v'.ownBlock ≠ some q := fun e => by
    rcases hv with r | r
    · exact nq (by rw [← r]; exact e)
    · rw [r] at e; cases e; omega
  refine ⟨?_, h.rk.keep (kB _ h.rk.lt (nf _ (by simp)) (by omega)), h.rs.keep (kB _ h.rs.lt (nf _ (by simp)) (by omega)), h.rw.keep (kB _ h.rw.lt (nf _ (by simp)) (by omega)), ?_, ?_, h.ap, ?_, ?_, ?_, h.base, ?_, ?_⟩
  · have := heap_set (j := 3) v' ((kA D hD (nf _ (by simp))).trans h.row)
    simpa using this
  · rw [rowsL_snoc, rowsL_upd, upd_at]
    exact own_keep1 ho fun g e => heap_set_other fun e2 => nv D hD (nf _ (by simp)) (e2 ▸ e)
  · intro i hi
    by_cases e : i = k
    · rw [e, upd_at]
      exact hr.keep ((heap_set_other hqD).trans (hg.block q lq (Ne.symm nq)))
    · rw [upd_ne _ _ e]
      have hi : i < k := by omega
      exact (h.rf i hi).keep (kB _ (h.rf i hi).lt (nfg i hi) (fun e => h.a1 i hi (by rw [e]; simp)))
  · intro i hi
    by_cases e : i = k
    · rw [e, upd_at]; intro hm; have := lt q hm; omega
    · rw [upd_ne _ _ e]; exact h.a1 i (by omega)
  · intro i hi j hj hij
    by_cases e : i = k
    · rw [e, upd_at, upd_ne _ _ (by omega)]
      have := (h.rf j (by omega)).lt; omega
    · rw [upd_ne _ _ e]
      by_cases e' : j = k
      · rw [e', upd_at]; have := (h.rf i (by omega)).lt; omega
      · rw [upd_ne _ _ e']; exact h.a2 i (by omega) j (by omega) hij
  · intro g e
    refine ⟨fun hm => nv g (lt g hm) (nf g hm) e, fun i hi => ?_⟩
    by_cases e' : i = k
    · rw [e', upd_at]; intro e2; exact nvq (e2 ▸ e)
    · rw [upd_ne _ _ e']
      have hi : i < k := by omega
      intro e2
      exact nv (fg i) (h.rf i hi).lt (nfg i hi) (e2 ▸ e)
  · intro i hi
    by_cases e : i = k
    · rw [e, upd_at]; omega
    · rw [upd_ne _ _ e]; exact h.bf i (by omega)
  · exact ((h.below.trans (hb.mono s0)).grown hg (by omega) (fun q e => (own_lt h.fl e).1)).setCell (h.base D (by simp)) _
/-- The document's memory at its start. -/
def Rv.start (m d kb sb wb fb pb n nt np c0 c1 c3 : Nat) (fg : Nat → Nat) (f : Nat → Int) : Rv :=
  { m, d, kb, sb, wb, fb, pb, n, nt, np, c0, c1, c2 := n, c3, c4 := np, fg, fc := fun _ => n, kept := f, seen := f, pass := fun _ => 0, wr := fun _ => 0, fl := fun _ _ => false, ck := 0, bd := 0, la := ⟨0, 0, 0, 0, 0, false⟩, wm := 0 }
theorem ref_init (m d kb sb wb fb pb n nt np c0 c1 c3 : Nat) (fg : Nat → Nat) (f : Nat → Int) : Init (Rv.start m d kb sb wb fb pb n nt np c0 c1 c3 fg f) f n nt np :=
  ⟨rfl, rfl, rfl, fun _ _ => rfl, fun _ _ => rfl, fun _ _ => rfl, fun _ _ _ _ => rfl, rfl, rfl, rfl⟩
theorem ref_start {W0 W W' : World} {m d kb sb wb fb pb n nt np c0 c1 c3 : Nat} {fg : Nat → Nat} {f : Nat → Int} (h : Dev3 W0 W d kb sb wb c0 c1 (.slice (some ⟨fb, 0, none⟩) nt c3) nt n fg f) (he : ∀ g, g ∈ [d, kb, sb, wb, fb] ∨ (∃ t, t < nt ∧ fg t = g) → W'.heap[g]? = W.heap[g]?)
    (hm : m ∉ [d, kb, sb, wb, fb] ∧ ∀ t, t < nt → fg t ≠ m) (hp : pb ∉ [d, kb, sb, wb, fb] ∧ ∀ t, t < nt → fg t ≠ pb) (hmp : m ≠ pb)
    (hr : W'.heap[m]? = some (.cells #[.pointer (some ⟨d, 0, none⟩), .slice (some ⟨pb, 0, none⟩) np np, .int .i64 0, .int .i64 0, .int .i64 0, .int .i64 0, .int .i64 0, .int .u64 0, .int .u64 0, .bool false] 200 (0, 0))) (hpr : RowAt W' pb np fun _ => .int .u64 0) (n0 : 0 < n) (n1 : n ≤ 262144) (t0 : 0 < nt) (t1 : nt ≤ 64) (p1 : np ≤ 262144) :
    RefAt W' (Rv.start m d kb sb wb fb pb n nt np c0 c1 c3 fg f) := by
  have hfb := h.a3 fb rfl
  have ap := h.ap
  obtain ⟨g', cap', c, e1, hb, hg, hc1, hcs, hcc⟩ := own_row h.fl t0
  cases e1
  simp only [List.nodup_cons, List.mem_cons, List.not_mem_nil, or_false, not_or, List.nodup_nil, and_true, not_false_eq_true] at ap
  have hm1 := hm.1
  have hp1 := hp.1
  have hf1 := hfb.1
  simp only [List.mem_cons, List.not_mem_nil, or_false, not_or] at hm1 hp1 hf1
  refine ⟨hr, (he d (Or.inl (by simp))).trans h.row, h.rk.keep (he kb (Or.inl (by simp))), h.rs.keep (he sb (Or.inl (by simp))), h.rw.keep (he wb (Or.inl (by simp))), ?_, hpr, fun t ht => (h.rf t ht).keep (he _ (Or.inr ⟨t, ht, rfl⟩)), ?_, fun t ht => ?_, h.a2, n0, n1, t1, p1, Int.le_refl _, Int.le_refl _, Int.le_refl _, fun k _ => ⟨Int.le_refl _, Int.le_refl _⟩⟩
  · exact ⟨c, _, (he fb (Or.inl (by simp))).trans hg, fun k hk => by rw [hcc k (by show k < nt * 1; have : k < nt := hk; omega)]; exact rowsL_get fg n nt k hk⟩
  · show [m, d, kb, sb, wb, fb, pb].Nodup
    obtain ⟨p1, p2, p3, p4, p5⟩ := hm1
    obtain ⟨r1, r2, r3, r4, r5⟩ := hp1
    obtain ⟨s1, s2, s3, s4⟩ := hf1
    obtain ⟨⟨u1, u2, u3⟩, ⟨u4, u5⟩, u6⟩ := ap
    simp only [List.nodup_cons, List.mem_cons, List.not_mem_nil, or_false, not_or, List.nodup_nil, and_true, not_false_eq_true]
    exact ⟨⟨p1, p2, p3, p4, p5, hmp⟩, ⟨u1, u2, u3, Ne.symm s1, Ne.symm r1⟩, ⟨u4, u5, Ne.symm s2, Ne.symm r2⟩, ⟨u6, Ne.symm s3, Ne.symm r3⟩, ⟨Ne.symm s4, Ne.symm r4⟩, Ne.symm r5⟩
  · have a := h.a1 t ht
    have b := hm.2 t ht
    have c := hp.2 t ht
    have e := hfb.2 t ht
    show fg t ∉ [m, d, kb, sb, wb, fb, pb]
    simp only [List.mem_cons, List.not_mem_nil, or_false, not_or] at a ⊢
    exact ⟨b, a.1, a.2.1, a.2.2.1, a.2.2.2, e, c⟩
end Go.Proofs.YtibelcmdfkgonaaGreat
