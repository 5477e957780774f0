/- Layers 7, 38: flush and fence as accesses; an access done again.
   Layer 38: an access done again.
   The two memories alike, step by step. No program here.
   Layer 38: a memory at its start; what a run holds.
   Layers 3, 4, 38: what is seen, kept; words that are alike.
   The document's device opened: plain parts.
   The document's device opened: its flush rows. No walk here. -/
import Derived.Test.YtkdcfijebgeajaaGreatJ6
import Derived.Test.YtkdcfijebgeajaaGreatJ5
namespace Go.Proofs.YtkdcfijebgeajaaGreat
open Go.RowKit Go.BigFrame
set_option linter.unusedVariables false
set_option linter.unusedSimpArgs false
def Mv.flushM (M : Mv) (t at_ : Int) (v : Value) : Mv :=
  if 0 ≤ at_ ∧ M.flushE t (at_ / 8) = 0 then (M.flushed t (at_ / 8) v).note ⟨4, t, at_, 0, 0, true⟩ true else M.note ⟨4, t, at_, 0, 0, false⟩ false
def Mv.fenceM (M : Mv) (t : Int) : Mv := if threadE M.nt t = 0 then (M.fenced t).note ⟨5, t, 0, 0, 0, true⟩ true else M.note ⟨5, t, 0, 0, 0, false⟩ false
/-- It ends; the memory turned into one of a kind. -/
def Ends (M : Mv) (f : Value → Mv) (W : World) (e : Ending) (W' : World) : Prop := (∃ x, e = .returned x) ∧ ∃ v, Into M (f v) W W'
theorem Into.note {M M' : Mv} {W W1 W2 : World} {x : Acc} {is : Bool} {e : Ending} (h : Into M M' W W1) (k : Done M' (M'.note x is) W1 e W2) : Into M (M'.note x is) W W2 :=
  h.trans ⟨k.2.1, k.2.2, fun i hi => Or.inl hi⟩
set_option maxRecDepth 100000 in
theorem flush40 (M : Mv) (t at_ : Int) (q1 : at_ ≤ 9223372036854775807) (W : World) (h : MemAt W M) (hc : M.ck ≤ 1000000) :
    Calls Tryz.prog 313 #[.pointer (some ⟨M.m, 0, none⟩), .int .i64 t, .int .i64 at_] W (Ends M (M.flushM t at_) W) := by
  by_cases h0 : at_ < 0
  · have d0 : decide (at_ < 0) = true := bool_yes h0
    have HL := Lib.hid (lineM M ⟨4, t, at_, 0, 0, false⟩ 5 W h hc)
    have HE : Hid (∀ v, M.flushM t at_ v = M.note ⟨4, t, at_, 0, 0, false⟩ false) := Lib.hid fun v => by unfold Mv.flushM; rw [if_neg (by omega)]
    have HM := Lib.hid h
    simp only [Acc.cells] at HL
    clear h h0
    go_enter Tryz.func313, Tryz.ntmps313
    go_wp2_with fail
    refine HL.out.mono ?_
    rintro e w ⟨⟨x, rfl⟩, hm, ht⟩
    have HI : Hid (Into M (M.note ⟨4, t, at_, 0, 0, false⟩ false) W w) := Lib.hid ⟨hm, ht, fun k hk => Or.inl hk⟩
    clear hm ht
    go_wp2_with fail
    go_end0
    exact ⟨⟨_, rfl⟩, .slice none 0 0, by rw [HE.out]; exact HI.out⟩
  · have d0 : decide (at_ < 0) = false := bool_no h0
    have e8 : at_.tdiv 8 = at_ / 8 := Int.tdiv_eq_ediv_of_nonneg (by omega)
    have hd : W.cell? ⟨M.m, 0, none⟩ = some (.pointer (some ⟨M.d, 0, none⟩)) := (row10 h.row).1
    obtain ⟨E, hE⟩ : ∃ E, E = M.flushE t (at_ / 8) := ⟨_, rfl⟩
    have HF := Lib.hid (flush57 M t (at_ / 8) W h)
    unfold FlushTo at HF
    rw [← hE] at HF
    have HX : Hid (∀ W1, (E ≠ 0 ∧ Into M M W W1 ∨ E = 0 ∧ ∃ v, Into M (M.flushed t (at_ / 8) v) W W1) → Calls Tryz.prog 349 #[.pointer (some ⟨M.m, 0, none⟩), .agg (Acc.cells ⟨4, t, at_, 0, 0, false⟩), .int .i64 E] W1 (Ends M (M.flushM t at_) W)) := Lib.hid fun W1 hw => by
      rcases hw with ⟨h1, hi⟩ | ⟨h1, v, hi⟩
      · have e0 : (E == 0) = false := by simpa using h1
        have := lineM M ⟨4, t, at_, 0, 0, false⟩ E W1 hi.1 hc
        refine this.mono ?_
        rintro e w hd
        refine ⟨hd.1, .slice none 0 0, ?_⟩
        unfold Mv.flushM
        rw [if_neg (by rw [← hE]; omega)]
        rw [e0] at hd
        exact hi.note hd
      · subst h1
        have := lineM (M.flushed t (at_ / 8) v) ⟨4, t, at_, 0, 0, false⟩ 0 W1 hi.1 hc
        refine this.mono ?_
        rintro e w hd
        refine ⟨hd.1, v, ?_⟩
        unfold Mv.flushM
        rw [if_pos ⟨by omega, hE.symm⟩]
        exact hi.note hd
    simp only [Acc.cells] at HX
    have q0 : 0 ≤ at_ := by omega
    clear h h0 hE
    generalize Mv.flushM M t at_ = N at *
    go_enter Tryz.func313, Tryz.ntmps313
    go_wp2_with fail
    with_reducible refine HF.out.mono ?_
    rintro e w ⟨rfl, hw⟩
    have HC := Lib.hid (HX.out w hw)
    clear hw HX
    go_wp2_with fail
    with_reducible refine HC.out.mono ?_
    rintro e w' hp
    obtain ⟨x, rfl⟩ := hp.1
    have HP := Lib.hid hp.2
    clear hp
    go_wp2_with fail
    go_end0
    exact ⟨⟨_, rfl⟩, HP.out⟩
set_option maxRecDepth 100000 in
theorem fence41 (M : Mv) (t : Int) (W : World) (h : MemAt W M) (hc : M.ck ≤ 1000000) (hw : M.wm ≤ 999999) :
    Calls Tryz.prog 314 #[.pointer (some ⟨M.m, 0, none⟩), .int .i64 t] W (Ends M (fun _ => M.fenceM t) W) := by
  have hd : W.cell? ⟨M.m, 0, none⟩ = some (.pointer (some ⟨M.d, 0, none⟩)) := (row10 h.row).1
  obtain ⟨E, hE⟩ : ∃ E, E = threadE M.nt t := ⟨_, rfl⟩
  have HF := Lib.hid (fence58 M t W h hw)
  unfold FenceTo at HF
  rw [← hE] at HF
  have HX : Hid (∀ W1, (E ≠ 0 ∧ Into M M W W1 ∨ E = 0 ∧ Into M (M.fenced t) W W1) → Calls Tryz.prog 349 #[.pointer (some ⟨M.m, 0, none⟩), .agg (Acc.cells ⟨5, t, 0, 0, 0, false⟩), .int .i64 E] W1 (Ends M (fun _ => M.fenceM t) W)) := Lib.hid fun W1 hw => by
    rcases hw with ⟨h1, hi⟩ | ⟨h1, hi⟩
    · have e0 : (E == 0) = false := by simpa using h1
      refine (lineM M ⟨5, t, 0, 0, 0, false⟩ E W1 hi.1 hc).mono ?_
      rintro e w hd
      refine ⟨hd.1, .slice none 0 0, ?_⟩
      unfold Mv.fenceM
      rw [if_neg (by rw [← hE]; exact h1)]
      rw [e0] at hd
      exact hi.note hd
    · subst h1
      refine (lineM (M.fenced t) ⟨5, t, 0, 0, 0, false⟩ 0 W1 hi.1 hc).mono ?_
      rintro e w hd
      refine ⟨hd.1, .slice none 0 0, ?_⟩
      unfold Mv.fenceM
      rw [if_pos hE.symm]
      exact hi.note hd
  simp only [Acc.cells] at HX
  clear h hE
  generalize Mv.fenceM M t = N at *
  go_enter Tryz.func314, Tryz.ntmps314
  go_wp2_with fail
  with_reducible refine HF.out.mono ?_
  rintro e w ⟨rfl, hw⟩
  have HC := Lib.hid (HX.out w hw)
  clear hw HX
  go_wp2_with fail
  with_reducible refine HC.out.mono ?_
  rintro e w' hp
  obtain ⟨x, rfl⟩ := hp.1
  have HP := Lib.hid hp.2
  clear hp
  go_wp2_with fail
  go_end0
  exact ⟨⟨_, rfl⟩, HP.out⟩
end Go.Proofs.YtkdcfijebgeajaaGreat

namespace Go.Proofs.YtkdcfijebgeajaaGreat
open Go.RowKit Go.BigFrame
set_option linter.unusedVariables false
set_option linter.unusedSimpArgs false
/-- An access done again. -/
def Mv.acts (M : Mv) (a : Acc) (v : Value) : Mv :=
  if a.ki = 1 then M.load a.th a.pl
  else if a.ki = 2 then M.store a.th a.pl a.ne
  else if a.ki = 3 then M.swap a.th a.pl (if a.dn then a.ol else 18446744073709551615 - a.ol) a.ne
  else if a.ki = 4 then M.flushM a.th a.pl v
  else if a.ki = 5 then M.fenceM a.th
  else M
theorem DoneV.ends {M M' : Mv} {v : Value} {W W' : World} {e : Ending} (h : DoneV M M' v W e W') (ho : ∀ k, M'.own k → M.own k) (u : Value) : Ends M (fun _ => M') W e W' :=
  ⟨⟨_, h.1⟩, u, h.2.1, h.2.2, fun k hk => Or.inl (ho k hk)⟩
theorem Done.ends {M M' : Mv} {W W' : World} {e : Ending} (h : Done M M' W e W') (ho : ∀ k, M'.own k → M.own k) (u : Value) : Ends M (fun _ => M') W e W' :=
  ⟨h.1, u, h.2.1, h.2.2, fun k hk => Or.inl (ho k hk)⟩
theorem Ends.from {M : Mv} {f : Value → Mv} {W W1 W' : World} {e : Ending} (hb : Below W.heap.size W W1) (h : Ends M f W1 e W') : Ends M f W e W' :=
  ⟨h.1, h.2.imp fun v hv => hv.of_below hb⟩
theorem load_own (M : Mv) (t a : Int) (k : Nat) (h : (M.load t a).own k) : M.own k := by unfold Mv.load at h; rw [Mv.did_own] at h; exact h
theorem store_own (M : Mv) (t a v : Int) (k : Nat) (h : (M.store t a v).own k) : M.own k := by unfold Mv.store at h; rw [Mv.did_own] at h; exact h
theorem swap_own (M : Mv) (t a o v : Int) (k : Nat) (h : (M.swap t a o v).own k) : M.own k := by unfold Mv.swap at h; rw [Mv.did_own] at h; exact h
/-- An access whose numbers may be. -/
def Acc.May (a : Acc) : Prop := -9223372036854775808 ≤ a.pl ∧ a.pl ≤ 9223372036854775807 ∧ 0 ≤ a.ol ∧ a.ol ≤ 18446744073709551615
theorem xor_ones (o : Int) (h0 : 0 ≤ o) (h1 : o ≤ 18446744073709551615) : bits .xor .u64 IntKind.u64.max o = 18446744073709551615 - o := by
  have e1 : BitVec.ofInt 64 IntKind.u64.max = BitVec.allOnes 64 := by decide
  have e2 : (BitVec.ofInt 64 o).toNat = o.toNat := by
    rw [BitVec.toNat_ofInt]; omega
  have e3 : (BitVec.allOnes 64 ^^^ BitVec.ofInt 64 o).toNat = 18446744073709551615 - o.toNat := by
    rw [BitVec.allOnes_xor, BitVec.toNat_not, e2]
  show IntKind.u64.wrap ((BitVec.ofInt 64 IntKind.u64.max ^^^ BitVec.ofInt 64 o).toNat : Int) = _
  rw [e1, e3]
  unfold IntKind.wrap
  simp [IntKind.bits, IntKind.signed]
  omega
end Go.Proofs.YtkdcfijebgeajaaGreat

namespace Go.Proofs.YtkdcfijebgeajaaGreat
open Go.RowKit Go.BigFrame
set_option linter.unusedVariables false
set_option linter.unusedSimpArgs false
structure Alike (M : Mv) (R : Rv) : Prop where
  n : M.n = R.n
  nt : M.nt = R.nt
  np : M.np = R.np
  seen : ∀ k, k < 8 * M.n → M.seen k = R.seen k
  kept : ∀ k, k < 8 * M.n → M.kept k = R.kept k
  pass : ∀ k, k < M.np → M.pass k = R.pass k
  fl : ∀ t, t < M.nt → ∀ j, j < M.n → (R.fl t j = true ↔ (j : Int) ∈ M.fl t)
  ck : M.ck = R.ck
  bd : M.bd = R.bd
  la : M.la = R.la
theorem Alike.peek {M : Mv} {R : Rv} (h : Alike M R) (at_ : Int) : M.peek at_ = R.peek at_ := by
  unfold Mv.peek Rv.peek peekV
  rw [← h.n, ← h.np]
  by_cases h0 : 0 ≤ at_
  · rw [if_pos h0, if_pos h0]
    by_cases h1 : at_ / 8 < (M.n : Int)
    · rw [if_pos h1, if_pos h1, h.seen _ (by omega)]
    · rw [if_neg h1, if_neg h1]
  · rw [if_neg h0, if_neg h0]
    by_cases h1 : -1 - at_ < (M.np : Int)
    · rw [if_pos h1, if_pos h1, h.pass _ (by omega)]
    · rw [if_neg h1, if_neg h1]
theorem Alike.note {M : Mv} {R : Rv} (h : Alike M R) (x : Acc) (is : Bool) : Alike (M.note x is) (R.note x is) :=
  { h with
    ck := by show M.ck + 1 = R.ck + 1; rw [h.ck]
    bd := by show (if is then M.bd else M.bd + 1) = (if is then R.bd else R.bd + 1); rw [h.bd]
    la := rfl }
theorem Alike.put {M : Mv} {R : Rv} (h : Alike M R) (at_ v : Int) : Alike (M.put at_ v) (R.put at_ v) := by
  unfold Mv.put Rv.put
  by_cases h0 : 0 ≤ at_
  · rw [if_pos h0, if_pos h0]
    refine { h with seen := fun k hk => ?_ }
    show upd M.seen at_.toNat v k = upd R.seen at_.toNat v k
    unfold upd
    split
    · rfl
    · exact h.seen k hk
  · rw [if_neg h0, if_neg h0]
    refine { h with pass := fun k hk => ?_ }
    show upd M.pass (-1 - at_).toNat v k = upd R.pass (-1 - at_).toNat v k
    unfold upd
    split
    · rfl
    · exact h.pass k hk
theorem Alike.did {M : Mv} {R : Rv} (h : Alike M R) (x : Acc) (nw : Int) (pu : Bool) : Alike (M.did x nw pu) (R.did x nw pu) := by
  unfold Mv.did Rv.did Mv.res Rv.res
  rw [h.peek]
  refine Alike.note ?_ _ _
  split
  · exact h.put _ _
  · exact h
theorem Alike.flushed {M : Mv} {R : Rv} (h : Alike M R) (t l : Int) (v : Value) (ht : 0 ≤ t ∧ t < M.nt) (hl : 0 ≤ l ∧ l < M.n) : Alike (M.flushed t l v) (R.flushed t l) := by
  obtain ⟨a, rfl⟩ := Int.eq_ofNat_of_zero_le ht.1
  obtain ⟨b, rfl⟩ := Int.eq_ofNat_of_zero_le hl.1
  exact { h with
    fl := fun x hx j hj => by
      show upd R.fl a (upd (R.fl a) b true) x j = true ↔ (j : Int) ∈ upd M.fl a (insS (M.fl a) b) x
      by_cases e : x = a
      · rw [e, upd_at, upd_at, insS_mem]
        by_cases e' : j = b
        · rw [e', upd_at]; simp
        · rw [upd_ne _ _ e', h.fl a (by omega) j hj]
          constructor
          · exact Or.inr
          · rintro (q | q)
            · omega
            · exact q
      · rw [upd_ne _ _ e, upd_ne _ _ e]; exact h.fl x hx j hj }
theorem Alike.flushE {M : Mv} {R : Rv} (h : Alike M R) (t l : Int) : M.flushE t l = R.flushE t l := by
  unfold Mv.flushE Rv.flushE; rw [h.n, h.nt]
theorem flushE_in {M : Mv} {t l : Int} (h : M.flushE t l = 0) : (0 ≤ t ∧ t < M.nt) ∧ (0 ≤ l ∧ l < M.n) := by
  unfold Mv.flushE threadE lineE at h
  by_cases h0 : t < 0 ∨ (M.nt : Int) ≤ t
  · rw [if_pos h0, if_neg (by omega)] at h; omega
  · rw [if_neg h0, if_pos rfl] at h
    by_cases h1 : l < 0 ∨ (M.n : Int) ≤ l
    · rw [if_pos h1] at h; omega
    · omega
theorem Alike.flushM {M : Mv} {R : Rv} (h : Alike M R) (t at_ : Int) (v : Value) : Alike (M.flushM t at_ v) (R.flushM t at_) := by
  unfold Mv.flushM Rv.flushM
  rw [← h.flushE]
  split
  · rename_i c
    obtain ⟨a, b⟩ := flushE_in c.2
    exact (h.flushed t (at_ / 8) v a b).note _ _
  · exact h.note _ _
theorem Alike.fenced {M : Mv} {R : Rv} (h : Alike M R) (t : Int) (ht : 0 ≤ t ∧ t < M.nt) : Alike (M.fenced t) (R.fenced t.toNat) := by
  obtain ⟨a, rfl⟩ := Int.eq_ofNat_of_zero_le ht.1
  have ha : a < M.nt := by omega
  show Alike ((M.taken a).backs (M.fl a)) (R.fenced a)
  exact { h with
    kept := fun i hi => by
      show (if (M.fl a).contains ((i / 8 : Nat) : Int) then M.seen i else M.kept i) = if i / 8 < R.n ∧ R.fl a (i / 8) = true then R.seen i else R.kept i
      have hi : i < 8 * M.n := hi
      have h8 : i / 8 < M.n := by omega
      have := h.fl a ha (i / 8) h8
      by_cases c : R.fl a (i / 8) = true
      · rw [if_pos (by simpa using this.1 c), if_pos ⟨by rw [← h.n]; exact h8, c⟩, h.seen i hi]
      · rw [if_neg (fun q => c (this.2 (by simpa using q))), if_neg (fun q => c q.2), h.kept i hi]
    fl := fun x hx j hj => by
      show (if x = a ∧ j < R.n ∧ (x < R.nt ∨ x = R.nt ∧ j < 0) then false else R.fl x j) = true ↔ (j : Int) ∈ upd M.fl a [] x
      have hx : x < M.nt := hx
      have hj : j < M.n := hj
      by_cases e : x = a
      · rw [if_pos ⟨e, by rw [← h.n]; exact hj, Or.inl (by rw [← h.nt]; exact hx)⟩, e, upd_at]; simp
      · rw [if_neg (fun q => e q.1), upd_ne _ _ e]; exact h.fl x hx j hj }
theorem Alike.fenceM {M : Mv} {R : Rv} (h : Alike M R) (t : Int) : Alike (M.fenceM t) (R.fenceM t) := by
  unfold Mv.fenceM Rv.fenceM
  rw [← h.nt]
  split
  · rename_i c
    refine (h.fenced t ?_).note _ _
    unfold threadE at c
    by_cases q : t < 0 ∨ (M.nt : Int) ≤ t
    · rw [if_pos q] at c; omega
    · omega
  · exact h.note _ _
def Rv.acts (M : Rv) (a : Acc) : Rv :=
  if a.ki = 1 then M.load a.th a.pl
  else if a.ki = 2 then M.store a.th a.pl a.ne
  else if a.ki = 3 then M.swap a.th a.pl (if a.dn then a.ol else 18446744073709551615 - a.ol) a.ne
  else if a.ki = 4 then M.flushM a.th a.pl
  else if a.ki = 5 then M.fenceM a.th
  else M
theorem Alike.acts {M : Mv} {R : Rv} (h : Alike M R) (a : Acc) (v : Value) : Alike (M.acts a v) (R.acts a) := by
  unfold Mv.acts Rv.acts
  split
  · exact h.did _ _ _
  · split
    · exact h.did _ _ _
    · split
      · unfold Mv.swap Rv.swap; rw [h.peek]; exact h.did _ _ _
      · split
        · exact h.flushM _ _ _
        · split
          · exact h.fenceM _
          · exact h
/-- Two accesses the same? -/
def accB (x y : Acc) : Bool := x.ki == y.ki && x.th == y.th && x.pl == y.pl && x.ol == y.ol && x.ne == y.ne && x.dn == y.dn
/-- The first k accesses done again: the memory, and how many are what they say. -/
def rrun (R : Rv) (l : Nat → Acc) : Nat → Rv × Nat
  | 0 => (R, 0)
  | k + 1 => ((rrun R l k).1.acts (l k), if (rrun R l k).2 = k ∧ (1 ≤ (l k).ki ∧ (l k).ki ≤ 5) ∧ accB ((rrun R l k).1.acts (l k)).la (l k) = true then k + 1 else (rrun R l k).2)
theorem rrun_le (R : Rv) (l : Nat → Acc) (k : Nat) : (rrun R l k).2 ≤ k := by
  induction k with
  | zero => exact Nat.le_refl _
  | succ k ih =>
    rw [rrun]
    show (if (rrun R l k).2 = k ∧ (1 ≤ (l k).ki ∧ (l k).ki ≤ 5) ∧ accB ((rrun R l k).1.acts (l k)).la (l k) = true then k + 1 else (rrun R l k).2) ≤ k + 1
    by_cases c : (rrun R l k).2 = k ∧ (1 ≤ (l k).ki ∧ (l k).ki ≤ 5) ∧ accB ((rrun R l k).1.acts (l k)).la (l k) = true
    · rw [if_pos c]; exact Nat.le_refl _
    · rw [if_neg c]; omega
theorem acts_ck (M : Mv) (a : Acc) (v : Value) : (M.acts a v).ck = M.ck + (if 1 ≤ a.ki ∧ a.ki ≤ 5 then 1 else 0) := by
  unfold Mv.acts
  have hd : ∀ x nw pu, (M.did x nw pu).ck = M.ck + 1 := fun x nw pu => by
    unfold Mv.did Mv.note
    show (if _ then _ else _ : Mv).ck + 1 = _
    split
    · rw [Mv.put_ck]
    · rfl
  by_cases h1 : a.ki = 1
  · rw [if_pos h1, if_pos (show 1 ≤ a.ki ∧ a.ki ≤ 5 by omega)]; exact hd _ _ _
  rw [if_neg h1]
  by_cases h2 : a.ki = 2
  · rw [if_pos h2, if_pos (show 1 ≤ a.ki ∧ a.ki ≤ 5 by omega)]; exact hd _ _ _
  rw [if_neg h2]
  by_cases h3 : a.ki = 3
  · rw [if_pos h3, if_pos (show 1 ≤ a.ki ∧ a.ki ≤ 5 by omega)]; exact hd _ _ _
  rw [if_neg h3]
  by_cases h4 : a.ki = 4
  · rw [if_pos h4, if_pos (by omega)]; unfold Mv.flushM; split <;> rfl
  rw [if_neg h4]
  by_cases h5 : a.ki = 5
  · rw [if_pos h5, if_pos (by omega)]; unfold Mv.fenceM; split <;> rfl
  rw [if_neg h5, if_neg (by omega)]; omega
theorem did_wm (M : Mv) (x : Acc) (nw : Int) (pu : Bool) : (M.did x nw pu).wm = M.wm ∧ (M.did x nw pu).m = M.m ∧ (M.did x nw pu).d = M.d := by
  unfold Mv.did Mv.note
  show (if _ then _ else _ : Mv).wm = _ ∧ (if _ then _ else _ : Mv).m = _ ∧ (if _ then _ else _ : Mv).d = _
  split
  · unfold Mv.put; split <;> exact ⟨rfl, rfl, rfl⟩
  · exact ⟨rfl, rfl, rfl⟩
theorem acts_wm (M : Mv) (a : Acc) (v : Value) : (M.acts a v).wm ≤ M.wm + 1 ∧ (M.acts a v).m = M.m ∧ (M.acts a v).d = M.d := by
  unfold Mv.acts
  have hd : ∀ x nw pu, (M.did x nw pu).wm ≤ M.wm + 1 ∧ (M.did x nw pu).m = M.m ∧ (M.did x nw pu).d = M.d := fun x nw pu => by
    obtain ⟨a, b, c⟩ := did_wm M x nw pu
    exact ⟨by omega, b, c⟩
  split
  · exact hd _ _ _
  split
  · exact hd _ _ _
  split
  · exact hd _ _ _
  split
  · unfold Mv.flushM; split
    · exact ⟨by show M.wm ≤ M.wm + 1; omega, rfl, rfl⟩
    · exact ⟨by show M.wm ≤ M.wm + 1; omega, rfl, rfl⟩
  split
  · unfold Mv.fenceM; split
    · exact ⟨by show M.wm + 1 ≤ M.wm + 1; omega, rfl, rfl⟩
    · exact ⟨by show M.wm ≤ M.wm + 1; omega, rfl, rfl⟩
  · exact ⟨by omega, rfl, rfl⟩
end Go.Proofs.YtkdcfijebgeajaaGreat

namespace Go.Proofs.YtkdcfijebgeajaaGreat
open Go.RowKit Go.BigFrame
set_option linter.unusedVariables false
set_option linter.unusedSimpArgs false
def Mv.start (m d kb sb wb fb pb n nt np c0 c1 : Nat) (f : Nat → Int) : Mv :=
  { m, d, kb, sb, wb, fb, pb, n, nt, np, c0, c1, c2 := n, c3 := nt, c4 := np, kept := f, seen := f, pass := fun _ => 0, wr := fun _ => 0, fl := fun _ => [], fv := fun _ => .slice none 0 0, ck := 0, bd := 0, la := ⟨0, 0, 0, 0, 0, false⟩, wm := 0 }
theorem mem_start {W W' : World} {B m d kb sb wb fb pb n nt np c0 c1 : Nat} {f : Nat → Int} (h : DevAt W B d kb sb wb fb n nt c0 c1 f) (hb : Below W.heap.size W W') (hm : W.heap.size ≤ m) (hp : W.heap.size ≤ pb) (hmp : m ≠ pb)
    (hr : MemRow W' m (.pointer (some ⟨d, 0, none⟩)) (.slice (some ⟨pb, 0, none⟩) np np) 0 0 ⟨0, 0, 0, 0, 0, false⟩) (hpr : RowAt W' pb np fun _ => .int .u64 0) (n0 : 0 < n) (n1 : n ≤ 262144) (t1 : nt ≤ 64) (p1 : np ≤ 262144) :
    MemAt W' (Mv.start m d kb sb wb fb pb n nt np c0 c1 f) ∧ ∀ k, (Mv.start m d kb sb wb fb pb n nt np c0 c1 f).own k → B ≤ k ∨ W.heap.size ≤ k := by
  have hd := (Array.getElem?_eq_some_iff.1 h.dev).1
  have l1 := h.rk.lt
  have l2 := h.rs.lt
  have l3 := h.rw.lt
  have l4 := h.rf.lt
  have ap := h.apart
  refine ⟨⟨hr, (hb.block d hd).trans h.dev, h.rk.keep (hb.block _ l1), h.rs.keep (hb.block _ l2), h.rw.keep (hb.block _ l3), h.rf.keep (hb.block _ l4), hpr, fun t _ => Or.inl ⟨rfl, rfl⟩, ?_, (fun t _ g hg => by cases hg), (fun t _ t' _ _ g hg => by cases hg), n0, n1, t1, p1, fun t _ => List.Pairwise.nil, (fun t _ x hx => by cases hx), Int.le_refl _, Int.le_refl _, Int.le_refl _, fun k _ => ⟨Int.le_refl _, Int.le_refl _⟩⟩, ?_⟩
  · simp only [List.nodup_cons, List.mem_cons, List.not_mem_nil, or_false, not_or, List.nodup_nil, and_true, not_false_eq_true] at ap
    simp only [Mv.blocks, Mv.start, List.nodup_cons, List.mem_cons, List.not_mem_nil, or_false, not_or, List.nodup_nil, and_true, not_false_eq_true]
    omega
  · rintro k (hk | ⟨t, _, e⟩)
    · have b := h.base
      simp only [Mv.blocks, Mv.start, List.mem_cons, List.not_mem_nil, or_false] at hk
      omega
    · cases e
/-- The document's memory at its start. -/
structure Init (R : Rv) (f : Nat → Int) (n nt np : Nat) : Prop where
  hn : R.n = n
  hnt : R.nt = nt
  hnp : R.np = np
  hkept : ∀ k, k < 8 * n → R.kept k = f k
  hseen : ∀ k, k < 8 * n → R.seen k = f k
  hpass : ∀ k, k < np → R.pass k = 0
  hfl : ∀ t, t < nt → ∀ j, j < n → R.fl t j = false
  hck : R.ck = 0
  hbd : R.bd = 0
  hla : R.la = ⟨0, 0, 0, 0, 0, false⟩
/-- A memory behind the first k accesses, and how many of them were what they say. -/
def RunAt (f : Nat → Int) (n nt np : Nat) (l : Nat → Acc) (k : Nat) (M : Mv) (r : Nat) : Prop := ∀ R, Init R f n nt np → Alike M (rrun R l k).1 ∧ r = (rrun R l k).2
theorem run_start (m d kb sb wb fb pb n nt np c0 c1 : Nat) (f : Nat → Int) (l : Nat → Acc) : RunAt f n nt np l 0 (Mv.start m d kb sb wb fb pb n nt np c0 c1 f) 0 := fun R h =>
  ⟨⟨h.hn.symm, h.hnt.symm, h.hnp.symm, fun k hk => (h.hseen k hk).symm, fun k hk => (h.hkept k hk).symm, fun k hk => (h.hpass k hk).symm, fun t ht j hj => by
    show R.fl t j = true ↔ (j : Int) ∈ ([] : List Int)
    rw [h.hfl t ht j hj]; simp, h.hck.symm, h.hbd.symm, h.hla.symm⟩, rfl⟩
theorem run_step {f : Nat → Int} {n nt np : Nat} {l : Nat → Acc} {k : Nat} {M : Mv} {r : Nat} (h : RunAt f n nt np l k M r) (v : Value) :
    RunAt f n nt np l (k + 1) (M.acts (l k) v) (if r = k ∧ (1 ≤ (l k).ki ∧ (l k).ki ≤ 5) ∧ accB (M.acts (l k) v).la (l k) = true then k + 1 else r) := fun R hR => by
  obtain ⟨h1, h2⟩ := h R hR
  have h3 := h1.acts (l k) v
  refine ⟨h3, ?_⟩
  rw [h3.la]
  show _ = if (rrun R l k).2 = k ∧ (1 ≤ (l k).ki ∧ (l k).ki ≤ 5) ∧ accB ((rrun R l k).1.acts (l k)).la (l k) = true then k + 1 else (rrun R l k).2
  rw [← h2]
theorem accB_iff (x y : Acc) : accB x y = true ↔ x = y := by
  obtain ⟨a, b, c, d, e, f⟩ := x
  obtain ⟨a', b', c', d', e', f'⟩ := y
  simp [accB]
  constructor
  · rintro ⟨⟨⟨⟨⟨h1, h2⟩, h3⟩, h4⟩, h5⟩, h6⟩; exact ⟨h1, h2, h3, h4, h5, h6⟩
  · rintro ⟨h1, h2, h3, h4, h5, h6⟩; exact ⟨⟨⟨⟨⟨h1, h2⟩, h3⟩, h4⟩, h5⟩, h6⟩
theorem eql44 (x y : Acc) (w : World) : (binOp .eql 109 (.agg x.cells) (.agg y.cells)).run Tryz.prog w = .ok (.bool (accB x y)) w := by
  simp only [Acc.cells]
  go_simp
  by_cases h : accB x y = true
  · have := (accB_iff x y).1 h
    subst this
    rw [h]; simp
  · rw [show accB x y = false by simpa using h]
    repeat' split
    all_goals first | rfl | (exfalso; apply h; rw [accB_iff]; obtain ⟨a, b, c, d, e, f⟩ := x; obtain ⟨a', b', c', d', e', f'⟩ := y; simp_all)
theorem neq44 (x y : Acc) (w : World) : (binOp .neq 109 (.agg x.cells) (.agg y.cells)).run Tryz.prog w = .ok (.bool (!accB x y)) w := by
  simp only [Acc.cells]
  go_simp
  by_cases h : accB x y = true
  · have := (accB_iff x y).1 h
    subst this
    rw [h]; simp
  · rw [show accB x y = false by simpa using h]
    repeat' split
    all_goals first | rfl | (exfalso; apply h; rw [accB_iff]; obtain ⟨a, b, c, d, e, f⟩ := x; obtain ⟨a', b', c', d', e', f'⟩ := y; simp_all)
/-- An access in memory. -/
def AccIn (W : World) (b o : Nat) (x : Acc) : Prop := W.cell? ⟨b, o, none⟩ = some (.int .i64 x.ki) ∧ W.cell? ⟨b, o + 1, none⟩ = some (.int .i64 x.th) ∧ W.cell? ⟨b, o + 2, none⟩ = some (.int .i64 x.pl) ∧ W.cell? ⟨b, o + 3, none⟩ = some (.int .u64 x.ol) ∧ W.cell? ⟨b, o + 4, none⟩ = some (.int .u64 x.ne) ∧ W.cell? ⟨b, o + 5, none⟩ = some (.bool x.dn)
/-- A list of accesses in memory. -/
def AccsIn (W : World) (a : Option Addr) (len : Nat) (c : Nat → Acc) : Prop := ∀ i, i < len → ∃ b off, a = some ⟨b, off, none⟩ ∧ b < W.heap.size ∧ AccIn W b (off + i * 6) (c i) ∧ (c i).May
theorem AccsIn.below {W W' : World} {a : Option Addr} {len : Nat} {c : Nat → Acc} (h : AccsIn W a len c) (hb : Below W.heap.size W W') : AccsIn W' a len c := fun i hi => by
  obtain ⟨b, off, e, hl, ⟨h0, h1, h2, h3, h4, h5⟩, hm⟩ := h i hi
  have k : ∀ o, W'.cell? ⟨b, o, none⟩ = W.cell? ⟨b, o, none⟩ := fun o => hb.cell (p := ⟨b, o, none⟩) hl
  exact ⟨b, off, e, Nat.lt_of_lt_of_le hl hb.size, ⟨(k _).trans h0, (k _).trans h1, (k _).trans h2, (k _).trans h3, (k _).trans h4, (k _).trans h5⟩, hm⟩
end Go.Proofs.YtkdcfijebgeajaaGreat

namespace Go.Proofs.YtkdcfijebgeajaaGreat
open Go.RowKit Go.BigFrame
set_option linter.unusedVariables false
set_option linter.unusedSimpArgs false
theorem row_of_own42 {w : World} {X n g cap : Nat} {f : Nat → Int} (h : w.ownsRow X 105 1 (.slice (some ⟨g, 0, none⟩) n cap) n (wordsL f n)) (hn : 0 < n) : RowAt w g n fun k => .int .u64 (f k) := by
  obtain ⟨g', cap', c, e1, hb, hg, hc1, hcs, hcc⟩ := own_row h hn
  cases e1
  exact ⟨c, _, hg, fun k hk => by rw [hcc k (by omega)]; exact wordsL_get f _ k hk⟩
/-- New words, told by their row. -/
def WordsTo (f : Nat → Int) (n : Nat) (W : World) (e : Ending) (W' : World) : Prop := ∃ g c, e = .returned (.slice (some ⟨g, 0, none⟩) n c) ∧ Below W.heap.size W W' ∧ RowAt W' g n (fun k => .int .u64 (f k)) ∧ W.heap.size ≤ g
theorem NewWords.to {f : Nat → Int} {n : Nat} {W W' : World} {e : Ending} (h : NewWords f n W e W') (hn : 0 < n) : WordsTo f n W e W' := by
  obtain ⟨v, rfl, hb, ho⟩ := h
  obtain ⟨g, cap, c, rfl, hg, -⟩ := own_row ho hn
  exact ⟨g, cap, rfl, hb, row_of_own42 ho hn, hg⟩
theorem seen24M (M : Mv) (W : World) (h : MemAt W M) : Calls Tryz.prog 48 #[.pointer (some ⟨M.d, 0, none⟩)] W (WordsTo M.seen (8 * M.n) W) := by
  have hd := (dev_cells h.dev).2.1
  have HW := Lib.hid ((words42 M.sb M.n M.c1 h.n1 M.seen W h.seen).mono fun e w hw => hw.to (by have := h.n0; omega))
  clear h
  generalize 8 * M.n = N at *
  go_enter Tryz.func48, Tryz.ntmps48
  go_wp2_with fail
  with_reducible refine HW.out.mono ?_
  rintro e w ⟨g, c, rfl, hb, hr, hg⟩
  have H := Lib.hid (And.intro hb (And.intro hr hg))
  clear hb hr hg
  go_wp2_with fail
  go_ret
  exact ⟨g, c, rfl, H.out.1, H.out.2⟩
theorem kept28M (M : Mv) (W : World) (h : MemAt W M) : Calls Tryz.prog 31 #[.pointer (some ⟨M.d, 0, none⟩)] W (WordsTo M.kept (8 * M.n) W) := by
  have hd := (dev_cells h.dev).1
  have HW := Lib.hid ((words42 M.kb M.n M.c0 h.n1 M.kept W h.kept).mono fun e w hw => hw.to (by have := h.n0; omega))
  clear h
  generalize 8 * M.n = N at *
  go_enter Tryz.func31, Tryz.ntmps31
  go_wp2_with fail
  with_reducible refine HW.out.mono ?_
  rintro e w ⟨g, c, rfl, hb, hr, hg⟩
  have H := Lib.hid (And.intro hb (And.intro hr hg))
  clear hb hr hg
  go_wp2_with fail
  go_ret
  exact ⟨g, c, rfl, H.out.1, H.out.2⟩
theorem same12M (g h n ca cb : Nat) (hn : n ≤ 2097152) (f f' : Nat → Int) (W : World) (h1 : RowAt W g n fun k => .int .u64 (f k)) (h2 : RowAt W h n fun k => .int .u64 (f' k)) (e : ∀ k, k < n → f k = f' k) :
    Calls Tryz.prog 29 #[.slice (some ⟨g, 0, none⟩) n ca, .slice (some ⟨h, 0, none⟩) n cb] W (Gives (.bool true) W) := by
  exact same12 _ _ n ca cb hn f W fun _ => ⟨g, h, rfl, rfl, h1.lt, h2.lt, fun j hj => ⟨h1.cell hj, by rw [e j hj]; exact h2.cell hj⟩⟩
theorem clock20M (M : Mv) (W : World) (h : MemAt W M) : Calls Tryz.prog 130 #[.pointer (some ⟨M.m, 0, none⟩)] W (Says (.int .i64 M.ck) W) :=
  clock20 M.m M.ck W (row10 h.row).2.2.1
end Go.Proofs.YtkdcfijebgeajaaGreat

namespace Go.Proofs.YtkdcfijebgeajaaGreat
open Go.RowKit Go.BigFrame
set_option linter.unusedVariables false
set_option linter.unusedSimpArgs false
/-- A device of the document's, half way: D is its block; k words are kept, j are seen. -/
structure HalfAt (W0 wr : World) (D : Nat) (kv sv wv fv : Value) (k j : Nat) (f : Nat → Int) : Prop where
  row : wr.heap[D]? = some (.cells #[kv, sv, wv, fv] 198 (0, 0))
  kept : wr.ownsRow W0.heap.size 105 1 kv k (wordsL f k)
  seen : wr.ownsRow W0.heap.size 105 1 sv j (wordsL f j)
  base : W0.heap.size ≤ D
  n1 : kv.ownBlock ≠ some D
  n2 : sv.ownBlock ≠ some D
  n3 : ∀ g, kv.ownBlock = some g → sv.ownBlock ≠ some g
  below : Below W0.heap.size W0 wr
theorem wordsL_snoc (f : Nat → Int) (k : Nat) : wordsL f (k + 1) = wordsL f k ++ [.int .u64 (f k)] := by
  unfold wordsL; rw [List.range_succ, List.map_append]; rfl
theorem HalfAt.kept1 {W0 wr w1 : World} {D : Nat} {kv sv wv fv v' : Value} {k j : Nat} {f : Nat → Int} (h : HalfAt W0 wr D kv sv wv fv k j f) {w : World} (hb : Below wr.heap.size wr w) (ho : w1.ownsRow W0.heap.size 105 1 v' (k + 1) (wordsL f k ++ [.int .u64 (f k)])) (hg : w.grownBy w1 kv.ownBlock)
    (hv : v'.ownBlock = kv.ownBlock ∨ v'.ownBlock = some w.heap.size) : HalfAt W0 (w1.setCell ⟨D, 0, none⟩ v') D v' sv wv fv (k + 1) j f := by
  have hD := (Array.getElem?_eq_some_iff.1 h.row).1
  have s1 := hb.size
  have s2 := hg.size
  have kA : ∀ g, g < wr.heap.size → kv.ownBlock ≠ some g → w1.heap[g]? = wr.heap[g]? := fun g hl e => (hg.block g (by omega) (Ne.symm e)).trans (hb.block g hl)
  have ns : ∀ g, sv.ownBlock = some g → kv.ownBlock ≠ some g := fun g a b => h.n3 g b a
  refine ⟨?_, own_keep1 (by rw [wordsL_snoc]; exact ho) fun g e => heap_set_other fun e2 => ?_, own_keep1 h.seen fun g e => (heap_set_other fun (e2 : g = D) => h.n2 (e2 ▸ e)).trans (kA g (own_lt h.seen e).2 (ns g e)), h.base, ?_, h.n2, fun g e => ?_, ?_⟩
  · have := heap_set (j := 0) v' ((kA D hD h.n1).trans h.row)
    simpa using this
  · subst e2
    rcases hv with q | q
    · exact h.n1 (by rw [← q]; exact e)
    · rw [q] at e; cases e; omega
  · intro e
    rcases hv with q | q
    · exact h.n1 (by rw [← q]; exact e)
    · rw [q] at e; cases e; omega
  · rcases hv with q | q
    · exact h.n3 g (by rw [← q]; exact e)
    · rw [q] at e; cases e
      intro e2
      have := (own_lt h.seen e2).2; omega
  · exact ((h.below.trans (hb.mono h.below.size)).grown hg (by have := h.below.size; omega) (fun q e => (own_lt h.kept e).1)).setCell h.base _
theorem HalfAt.seen1 {W0 wr w1 : World} {D : Nat} {kv sv wv fv v' : Value} {k j : Nat} {f : Nat → Int} (h : HalfAt W0 wr D kv sv wv fv k j f) {w : World} (hb : Below wr.heap.size wr w) (ho : w1.ownsRow W0.heap.size 105 1 v' (j + 1) (wordsL f j ++ [.int .u64 (f j)])) (hg : w.grownBy w1 sv.ownBlock)
    (hv : v'.ownBlock = sv.ownBlock ∨ v'.ownBlock = some w.heap.size) : HalfAt W0 (w1.setCell ⟨D, 1, none⟩ v') D kv v' wv fv k (j + 1) f := by
  have hD := (Array.getElem?_eq_some_iff.1 h.row).1
  have s1 := hb.size
  have s2 := hg.size
  have kA : ∀ g, g < wr.heap.size → sv.ownBlock ≠ some g → w1.heap[g]? = wr.heap[g]? := fun g hl e => (hg.block g (by omega) (Ne.symm e)).trans (hb.block g hl)
  refine ⟨?_, own_keep1 h.kept fun g e => (heap_set_other fun (e2 : g = D) => h.n1 (e2 ▸ e)).trans (kA g (own_lt h.kept e).2 (h.n3 g e)), own_keep1 (by rw [wordsL_snoc]; exact ho) fun g e => heap_set_other fun e2 => ?_, h.base, h.n1, ?_, fun g e => ?_, ?_⟩
  · have := heap_set (j := 1) v' ((kA D hD h.n2).trans h.row)
    simpa using this
  · subst e2
    rcases hv with q | q
    · exact h.n2 (by rw [← q]; exact e)
    · rw [q] at e; cases e; omega
  · intro e
    rcases hv with q | q
    · exact h.n2 (by rw [← q]; exact e)
    · rw [q] at e; cases e; omega
  · rcases hv with q | q
    · rw [q]; exact h.n3 g e
    · rw [q]; intro e2; cases e2
      have := (own_lt h.kept e).2; omega
  · exact ((h.below.trans (hb.mono h.below.size)).grown hg (by have := h.below.size; omega) (fun q e => (own_lt h.seen e).1)).setCell h.base _
end Go.Proofs.YtkdcfijebgeajaaGreat

namespace Go.Proofs.YtkdcfijebgeajaaGreat
open Go.RowKit Go.BigFrame
set_option linter.unusedVariables false
set_option linter.unusedSimpArgs false
def rowsL (fg : Nat → Nat) (m k : Nat) : List Value := (List.range k).map fun i => .slice (some ⟨fg i, 0, none⟩) m m
theorem rowsL_snoc (fg : Nat → Nat) (m k : Nat) : rowsL fg m (k + 1) = rowsL fg m k ++ [.slice (some ⟨fg k, 0, none⟩) m m] := by
  unfold rowsL; rw [List.range_succ, List.map_append]; rfl
theorem rowsL_upd (fg : Nat → Nat) (m k q : Nat) : rowsL (upd fg k q) m k = rowsL fg m k := by
  unfold rowsL
  apply List.map_congr_left
  intro i hi
  rw [upd_ne _ _ (by have := List.mem_range.1 hi; omega)]
theorem rowsL_get (fg : Nat → Nat) (m k i : Nat) (h : i < k) : (rowsL fg m k)[i]? = some (.slice (some ⟨fg i, 0, none⟩) m m) := by
  unfold rowsL; rw [List.getElem?_map, List.getElem?_range h]; rfl
/-- A device of the document's, all but its flush rows. -/
structure Dev3 (W0 wr : World) (D kb sb wb c0 c1 : Nat) (fv : Value) (k m : Nat) (fg : Nat → Nat) (f : Nat → Int) : Prop where
  row : wr.heap[D]? = some (.cells #[.slice (some ⟨kb, 0, none⟩) (8 * m) c0, .slice (some ⟨sb, 0, none⟩) (8 * m) c1, .slice (some ⟨wb, 0, none⟩) m m, fv] 198 (0, 0))
  rk : RowAt wr kb (8 * m) fun k => .int .u64 (f k)
  rs : RowAt wr sb (8 * m) fun k => .int .u64 (f k)
  rw : RowAt wr wb m fun _ => .int .i64 0
  fl : wr.ownsRow W0.heap.size 254 1 fv k (rowsL fg m k)
  rf : ∀ i, i < k → RowAt wr (fg i) m fun _ => .bool false
  ap : [D, kb, sb, wb].Nodup
  a1 : ∀ i, i < k → fg i ∉ [D, kb, sb, wb]
  a2 : ∀ i, i < k → ∀ j, j < k → i ≠ j → fg i ≠ fg j
  a3 : ∀ g, fv.ownBlock = some g → g ∉ [D, kb, sb, wb] ∧ ∀ i, i < k → fg i ≠ g
  base : ∀ g, g ∈ [D, kb, sb, wb] → W0.heap.size ≤ g
  bf : ∀ i, i < k → W0.heap.size ≤ fg i
  below : Below W0.heap.size W0 wr
theorem Dev3.add {W0 wr w1 : World} {D kb sb wb c0 c1 : Nat} {fv v' : Value} {k m : Nat} {fg : Nat → Nat} {f : Nat → Int} (h : Dev3 W0 wr D kb sb wb c0 c1 fv k m fg f) {w : World} {q : Nat} (hb : Below wr.heap.size wr w) (hq : wr.heap.size ≤ q) (hr : RowAt w q m fun _ => .bool false)
    (ho : w1.ownsRow W0.heap.size 254 1 v' (k + 1) (rowsL fg m k ++ [.slice (some ⟨q, 0, none⟩) m m])) (hg : w.grownBy w1 fv.ownBlock) (hv : v'.ownBlock = fv.ownBlock ∨ v'.ownBlock = some w.heap.size) :
    Dev3 W0 (w1.setCell ⟨D, 3, none⟩ v') D kb sb wb c0 c1 v' (k + 1) m (upd fg k q) f := by
  have s1 := hb.size
  have s2 := hg.size
  have lq := hr.lt
  have s0 := h.below.size
  have hD := (Array.getElem?_eq_some_iff.1 h.row).1
  have nf : ∀ g, g ∈ [D, kb, sb, wb] → fv.ownBlock ≠ some g := fun g hg e => (h.a3 g e).1 hg
  have nfg : ∀ i, i < k → fv.ownBlock ≠ some (fg i) := fun i hi e => (h.a3 _ e).2 i hi rfl
  have kA : ∀ g, g < wr.heap.size → fv.ownBlock ≠ some g → w1.heap[g]? = wr.heap[g]? := fun g hl e => (hg.block g (by omega) (Ne.symm e)).trans (hb.block g hl)
  have kB : ∀ g, g < wr.heap.size → fv.ownBlock ≠ some g → g ≠ D → (w1.setCell ⟨D, 3, none⟩ v').heap[g]? = wr.heap[g]? := fun g hl e e2 => (heap_set_other e2).trans (kA g hl e)
  have nq : fv.ownBlock ≠ some q := fun e => by have := (own_lt h.fl e).2; omega
  have hqD : q ≠ D := by omega
  have ap := h.ap
  simp only [List.nodup_cons, List.mem_cons, List.not_mem_nil, or_false, not_or, List.nodup_nil, and_true, not_false_eq_true] at ap
  have lt : ∀ g, g ∈ [D, kb, sb, wb] → g < wr.heap.size := fun g hg => by
    simp only [List.mem_cons, List.not_mem_nil, or_false] at hg
    rcases hg with rfl | rfl | rfl | rfl
    · exact hD
    · exact h.rk.lt
    · exact h.rs.lt
    · exact h.rw.lt
  have nv : ∀ g, g < wr.heap.size → fv.ownBlock ≠ some g → v'.ownBlock ≠ some g := fun g hl e e2 => by
    rcases hv with r | r
    · exact e (by rw [← r]; exact e2)
    · rw [r] at e2; cases e2; omega
  have nvq : v'.ownBlock ≠ some q := fun e => by
    rcases hv with r | r
    · exact nq (by rw [← r]; exact e)
    · rw [r] at e; cases e; omega
  refine ⟨?_, h.rk.keep (kB _ h.rk.lt (nf _ (by simp)) (by omega)), h.rs.keep (kB _ h.rs.lt (nf _ (by simp)) (by omega)), h.rw.keep (kB _ h.rw.lt (nf _ (by simp)) (by omega)), ?_, ?_, h.ap, ?_, ?_, ?_, h.base, ?_, ?_⟩
  · have := heap_set (j := 3) v' ((kA D hD (nf _ (by simp))).trans h.row)
    simpa using this
  · rw [rowsL_snoc, rowsL_upd, upd_at]
    exact own_keep1 ho fun g e => heap_set_other fun e2 => nv D hD (nf _ (by simp)) (e2 ▸ e)
  · intro i hi
    by_cases e : i = k
    · rw [e, upd_at]
      exact hr.keep ((heap_set_other hqD).trans (hg.block q lq (Ne.symm nq)))
    · rw [upd_ne _ _ e]
      have hi : i < k := by omega
      exact (h.rf i hi).keep (kB _ (h.rf i hi).lt (nfg i hi) (fun e => h.a1 i hi (by rw [e]; simp)))
  · intro i hi
    by_cases e : i = k
    · rw [e, upd_at]; intro hm; have := lt q hm; omega
    · rw [upd_ne _ _ e]; exact h.a1 i (by omega)
  · intro i hi j hj hij
    by_cases e : i = k
    · rw [e, upd_at, upd_ne _ _ (by omega)]
      have := (h.rf j (by omega)).lt; omega
    · rw [upd_ne _ _ e]
      by_cases e' : j = k
      · rw [e', upd_at]; have := (h.rf i (by omega)).lt; omega
      · rw [upd_ne _ _ e']; exact h.a2 i (by omega) j (by omega) hij
  · intro g e
    refine ⟨fun hm => nv g (lt g hm) (nf g hm) e, fun i hi => ?_⟩
    by_cases e' : i = k
    · rw [e', upd_at]; intro e2; exact nvq (e2 ▸ e)
    · rw [upd_ne _ _ e']
      have hi : i < k := by omega
      intro e2
      exact nv (fg i) (h.rf i hi).lt (nfg i hi) (e2 ▸ e)
  · intro i hi
    by_cases e : i = k
    · rw [e, upd_at]; omega
    · rw [upd_ne _ _ e]; exact h.bf i (by omega)
  · exact ((h.below.trans (hb.mono s0)).grown hg (by omega) (fun q e => (own_lt h.fl e).1)).setCell (h.base D (by simp)) _
/-- The document's memory at its start. -/
def Rv.start (m d kb sb wb fb pb n nt np c0 c1 c3 : Nat) (fg : Nat → Nat) (f : Nat → Int) : Rv :=
  { m, d, kb, sb, wb, fb, pb, n, nt, np, c0, c1, c2 := n, c3, c4 := np, fg, fc := fun _ => n, kept := f, seen := f, pass := fun _ => 0, wr := fun _ => 0, fl := fun _ _ => false, ck := 0, bd := 0, la := ⟨0, 0, 0, 0, 0, false⟩, wm := 0 }
theorem ref_init (m d kb sb wb fb pb n nt np c0 c1 c3 : Nat) (fg : Nat → Nat) (f : Nat → Int) : Init (Rv.start m d kb sb wb fb pb n nt np c0 c1 c3 fg f) f n nt np :=
  ⟨rfl, rfl, rfl, fun _ _ => rfl, fun _ _ => rfl, fun _ _ => rfl, fun _ _ _ _ => rfl, rfl, rfl, rfl⟩
theorem ref_start {W0 W W' : World} {m d kb sb wb fb pb n nt np c0 c1 c3 : Nat} {fg : Nat → Nat} {f : Nat → Int} (h : Dev3 W0 W d kb sb wb c0 c1 (.slice (some ⟨fb, 0, none⟩) nt c3) nt n fg f) (he : ∀ g, g ∈ [d, kb, sb, wb, fb] ∨ (∃ t, t < nt ∧ fg t = g) → W'.heap[g]? = W.heap[g]?)
    (hm : m ∉ [d, kb, sb, wb, fb] ∧ ∀ t, t < nt → fg t ≠ m) (hp : pb ∉ [d, kb, sb, wb, fb] ∧ ∀ t, t < nt → fg t ≠ pb) (hmp : m ≠ pb)
    (hr : W'.heap[m]? = some (.cells #[.pointer (some ⟨d, 0, none⟩), .slice (some ⟨pb, 0, none⟩) np np, .int .i64 0, .int .i64 0, .int .i64 0, .int .i64 0, .int .i64 0, .int .u64 0, .int .u64 0, .bool false] 191 (0, 0))) (hpr : RowAt W' pb np fun _ => .int .u64 0) (n0 : 0 < n) (n1 : n ≤ 262144) (t0 : 0 < nt) (t1 : nt ≤ 64) (p1 : np ≤ 262144) :
    RefAt W' (Rv.start m d kb sb wb fb pb n nt np c0 c1 c3 fg f) := by
  have hfb := h.a3 fb rfl
  have ap := h.ap
  obtain ⟨g', cap', c, e1, hb, hg, hc1, hcs, hcc⟩ := own_row h.fl t0
  cases e1
  simp only [List.nodup_cons, List.mem_cons, List.not_mem_nil, or_false, not_or, List.nodup_nil, and_true, not_false_eq_true] at ap
  have hm1 := hm.1
  have hp1 := hp.1
  have hf1 := hfb.1
  simp only [List.mem_cons, List.not_mem_nil, or_false, not_or] at hm1 hp1 hf1
  refine ⟨hr, (he d (Or.inl (by simp))).trans h.row, h.rk.keep (he kb (Or.inl (by simp))), h.rs.keep (he sb (Or.inl (by simp))), h.rw.keep (he wb (Or.inl (by simp))), ?_, hpr, fun t ht => (h.rf t ht).keep (he _ (Or.inr ⟨t, ht, rfl⟩)), ?_, fun t ht => ?_, h.a2, n0, n1, t1, p1, Int.le_refl _, Int.le_refl _, Int.le_refl _, fun k _ => ⟨Int.le_refl _, Int.le_refl _⟩⟩
  · exact ⟨c, _, (he fb (Or.inl (by simp))).trans hg, fun k hk => by rw [hcc k (by show k < nt * 1; have : k < nt := hk; omega)]; exact rowsL_get fg n nt k hk⟩
  · show [m, d, kb, sb, wb, fb, pb].Nodup
    obtain ⟨p1, p2, p3, p4, p5⟩ := hm1
    obtain ⟨r1, r2, r3, r4, r5⟩ := hp1
    obtain ⟨s1, s2, s3, s4⟩ := hf1
    obtain ⟨⟨u1, u2, u3⟩, ⟨u4, u5⟩, u6⟩ := ap
    simp only [List.nodup_cons, List.mem_cons, List.not_mem_nil, or_false, not_or, List.nodup_nil, and_true, not_false_eq_true]
    exact ⟨⟨p1, p2, p3, p4, p5, hmp⟩, ⟨u1, u2, u3, Ne.symm s1, Ne.symm r1⟩, ⟨u4, u5, Ne.symm s2, Ne.symm r2⟩, ⟨u6, Ne.symm s3, Ne.symm r3⟩, ⟨Ne.symm s4, Ne.symm r4⟩, Ne.symm r5⟩
  · have a := h.a1 t ht
    have b := hm.2 t ht
    have c := hp.2 t ht
    have e := hfb.2 t ht
    show fg t ∉ [m, d, kb, sb, wb, fb, pb]
    simp only [List.mem_cons, List.not_mem_nil, or_false, not_or] at a ⊢
    exact ⟨b, a.1, a.2.1, a.2.2.1, a.2.2.2, e, c⟩
end Go.Proofs.YtkdcfijebgeajaaGreat
