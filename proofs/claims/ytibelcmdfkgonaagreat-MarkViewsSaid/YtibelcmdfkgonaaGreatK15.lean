/- Layer 20 (mark): a step (its ways printed by g16.py).
   Layer 3: the law of Cut's range over the parts.
   The range over an iterator function, for any iterator that keeps its word. No walk here.
   Layer 16 (hash): the iterator over the heads of all lists. -/
import Derived.Test.YtibelcmdfkgonaaGreatK14
import Derived.Test.YtibelcmdfkgonaaGreatK8
import Derived.Test.YtibelcmdfkgonaaGreatK9
import Derived.Shelf.Abstract
import Derived.Test.YtibelcmdfkgonaaGreatK4
import Derived.Test.YtibelcmdfkgonaaGreatK7
namespace Go.Proofs.YtibelcmdfkgonaaGreat
open Go.RowKit Go.BigFrame
set_option linter.unusedVariables false
set_option linter.unusedSimpArgs false
theorem done18 (K : Mk) (w : World) (h : MkAt w K) : Calls Tryz.prog 18 #[.pointer (some ⟨K.x, 0, none⟩)] w (Says (.bool ((K.s.pc : Int) == 4)) w) := by
  have q2 := cell_row h.row 2 _ rfl
  clear h
  go_enter Tryz.func18, Tryz.ntmps18
  go_wp2_with fail
  go_ret
  exact ⟨rfl, rfl⟩
theorem corrupt19 (K : Mk) (w : World) (h : MkAt w K) : Calls Tryz.prog 19 #[.pointer (some ⟨K.x, 0, none⟩)] w (Says (.bool K.s.corrupt) w) := by
  have q6 := cell_row h.row 6 _ rfl
  clear h
  go_enter Tryz.func19, Tryz.ntmps19
  go_wp2_with fail
  go_ret
  exact ⟨rfl, rfl⟩
/-- A memory behind some loads. -/
structure Moved (M M' : Mv) (c : Nat) : Prop where
  own : M'.own = M.own
  seen : M'.seen = M.seen
  n : M'.n = M.n
  m : M'.m = M.m
  d : M'.d = M.d
  ck : M'.ck = M.ck + c
theorem Moved.refl (M : Mv) : Moved M M 0 := ⟨rfl, rfl, rfl, rfl, rfl, by show M.ck = M.ck + 0; omega⟩
theorem Moved.trans {A B D : Mv} {a b : Nat} (h : Moved A B a) (k : Moved B D b) : Moved A D (a + b) :=
  ⟨k.own.trans h.own, k.seen.trans h.seen, k.n.trans h.n, k.m.trans h.m, k.d.trans h.d, by have := h.ck; have := k.ck; omega⟩
theorem load_moved (M : Mv) (t at_ : Int) : Moved M (M.load t at_) 1 := by
  have e : ∀ x nw, (M.did x nw false) = M.note (M.res x false) (M.peek x.pl).2 := fun x nw => by unfold Mv.did; rw [Bool.and_false]; rfl
  unfold Mv.load
  rw [e]
  exact ⟨rfl, rfl, rfl, rfl, rfl, rfl⟩
theorem peek_seen (M : Mv) (a : Nat) (h : a < 8 * M.n) : M.peek (a : Int) = (M.seen a, true) := by
  unfold Mv.peek peekV
  rw [if_pos (by omega)]
  have h1 : (a : Int) / 8 < (M.n : Int) := by omega
  simp [h1]
/-- What a mark and a memory have in common: nothing but the layout's places. -/
structure Sees (g : Gd) (M : Mv) (K : Mk) : Prop where
  fits : Fits g K
  w : ∀ k, k < 8 * M.n → M.seen k = (g.w k : Int) ∧ g.w k < 18446744073709551616
  hd : ∀ i, i < K.nh → K.hd i < 8 * M.n ∧ g.heads[i]? = some (K.hd i)
  at_ : (g.at_ : Int) = K.v.ps
  pl : ∀ s, s < K.S → (g.at_ + s) * 8 + 3 < 8 * M.n
  apart : ∀ k, M.own k → ¬ K.own k ∧ k ≠ K.l
theorem slot_place {v : Lv} {a S s : Nat} (j : Nat) (hs : s < S) (hS : (S : Int) = v.sl) (ha : (a : Int) = v.ps) : v.slot (s : Int) (j : Int) = (((a + s) * 8 + j : Nat) : Int) := by
  unfold Lv.slot Lv.word hasB
  rw [if_pos (by simp; omega)]
  omega
/-- A step done. -/
def StepTo (M : Mv) (K : Mk) (s' : MS) (c : Nat) (W : World) (e : Ending) (W' : World) : Prop :=
  e = .returned (.bool (decide (s'.pc = 4))) ∧ Turn (fun k => M.own k ∨ K.own k) W W' ∧ (∃ M', MemAt W' M' ∧ Moved M M' c) ∧
    ∃ hv nv, MkAt W' { K with s := s', hv := hv, nv := nv } ∧ (∀ k, hv.ownBlock = some k → K.hv.ownBlock = some k ∨ W.heap.size ≤ k) ∧ (∀ k, nv.ownBlock = some k → K.nv.ownBlock = some k ∨ W.heap.size ≤ k)
theorem step_of {M M2 : Mv} {K : Mk} {s' : MS} {W W1 W' : World} {e : Ending} (h : MkAt W K) (hM2 : MemAt W1 M2) (hmv : Moved M M2 1) (ht : Turn M.own W W1) (hto : MkTo K s' W1 e W') (hap : ∀ k, M.own k → ¬ K.own k ∧ k ≠ K.l) (u : Ending) (hu : u = .returned (.bool (decide (s'.pc = 4)))) : StepTo M K s' 1 W u W' := by
  obtain ⟨_, t2, hv, nv, h2, b1, b2⟩ := hto
  refine ⟨hu, (ht.mono fun _ _ h => .inl h).trans (t2.mono fun _ _ h => .inr h) (fun _ _ h => h), ⟨M2, hM2.turn t2 (fun k hk => (hap k (by rw [← hmv.own]; exact hk)).1), hmv⟩, hv, nv, h2, fun k hk => ?_, fun k hk => ?_⟩
  · rcases b1 k hk with h1 | h1
    · exact .inl h1
    · exact .inr (Nat.le_trans ht.size h1)
  · rcases b2 k hk with h1 | h1
    · exact .inl h1
    · exact .inr (Nat.le_trans ht.size h1)
theorem bool_dec (a : Nat) : (((a : Nat) : Int) == 4) = decide (a = 4) := by
  by_cases h : a = 4
  · subst h; rfl
  · rw [bool_no h, beq_eq_false_iff_ne]; omega
theorem step_done (M : Mv) (K : Mk) (g : Gd) (hpc : K.s.pc = 4) (w : World) (hM : MemAt w M) (h : MkAt w K) : Calls Tryz.prog 15 #[.pointer (some ⟨K.x, 0, none⟩), .pointer (some ⟨M.m, 0, none⟩)] w (StepTo M K (K.s.step g) 0 w) := by
  have HD := Lib.hid (done18 K w h)
  have HS : Hid (K.s.step g = K.s) := Lib.hid (by unfold MS.step; rw [if_pos hpc])
  have HPC := Lib.hid hpc
  have HH := Lib.hid h
  have HM := Lib.hid hM
  rw [show ((K.s.pc : Int) == 4) = true by rw [hpc]; rfl] at HD
  clear h hM hpc
  go_enter Tryz.func15, Tryz.ntmps15
  go_wp2_with fail
  refine HD.out.mono ?_
  rintro e w1 ⟨rfl, rfl⟩
  go_wp2_with fail
  go_ret
  rw [HS.out]
  refine ⟨by rw [bool_yes HPC.out]; rfl, Turn.of_below (Below.refl _ _), ⟨M, HM.out, Moved.refl _⟩, K.hv, K.nv, HH.out, fun _ h => .inl h, fun _ h => .inl h⟩

set_option maxRecDepth 100000 in
theorem step_head (M : Mv) (K : Mk) (g : Gd) (hs : Sees g M K) (hpc : K.s.pc = 0) (hS : K.S ≤ 100000) (hlen : K.s.heads.length ≤ 1000000) (hlen2 : K.s.nodes.length ≤ 1000000) (hck : M.ck ≤ 1000000) (w : World) (hM : MemAt w M) (h : MkAt w K) : Calls Tryz.prog 15 #[.pointer (some ⟨K.x, 0, none⟩), .pointer (some ⟨M.m, 0, none⟩)] w (StepTo M K (K.s.step g) 1 w) := by
  have HD := Lib.hid (done18 K w h)
  have hl : K.s.list < K.nh := h.lip (by omega)
  have hnh := h.nh1
  have hh := hs.hd K.s.list hl
  have hst : K.s.step g = K.s.head g (g.w (K.hd K.s.list)) := by unfold MS.step; rw [if_neg (by omega), if_pos hpc, hh.2]; rfl
  have hn := hh.1
  have ql := h.ways.cell hl
  obtain ⟨a, ha⟩ : ∃ a, a = K.hd K.s.list := ⟨_, rfl⟩
  rw [← ha] at hst hn ql
  clear ha
  have hwa := hs.w a hn
  have n1 := hM.n1
  have HLD : Hid (∀ w, MemAt w M → Calls Tryz.prog 73 #[.pointer (some ⟨M.m, 0, none⟩), .int .i64 K.t, .int .i64 (a : Int)] w (DoneV M (M.load K.t (a : Int)) (.int .u64 (g.w a : Int)) w)) := Lib.hid fun w hw => by
    have := load37 M K.t (a : Int) (by omega) (by omega) w hw hck
    rw [peek_seen M a hn, hwa.1] at this; exact this
  have HC := Lib.hid fun w h => head_at g K hs.fits (g.w a) hwa.2 hl hS hlen w h
  have HAP := Lib.hid hs.apart
  have HST := Lib.hid hst
  have HH := Lib.hid h
  have HM := Lib.hid hM
  have q0 := cell_row h.row 0 _ rfl
  have q1 := cell_row h.row 1 _ rfl
  have q2 := cell_row h.row 2 _ rfl
  have q3 := cell_row h.row 3 _ rfl
  have q4 := cell_row h.row 4 _ rfl
  have q9 := cell_row h.row 9 _ rfl
  have ep : (K.s.pc : Int) = 0 := by omega
  rw [ep] at q2
  rw [show ((K.s.pc : Int) == 4) = false by rw [hpc]; rfl] at HD
  have i0 : (0 : Int) ≤ (K.s.list : Int) := by omega
  have i1 : (K.s.list : Int) < (K.nh : Int) := by omega
  have i2 : (K.nh : Int) ≤ 1000 := by omega
  clear h hM hst hs hwa hpc ep hn n1 hlen hlen2 hck hh
  go_enter Tryz.func15, Tryz.ntmps15
  go_wp2_with fail
  refine HD.out.mono ?_
  rintro e w1 ⟨rfl, rfl⟩
  go_wp2_with fail
  refine region_qd 1 15 (by kernel_rfl) (by kernel_rfl) (fun _ _ d _ _ h => by cases d <;> exact h) ?_
  simp only [List.take_succ_cons, List.take_zero, List.drop_succ_cons, List.drop_zero, Nat.reduceAdd]
  repeat (first | go_big_quiet_skip | (go_big_quiet_want; go_big_quiet_op; go_big_quiet_on))
  refine wpQuiet_nil ?_
  repeat (first | go_big_quiet_skip | (go_big_quiet_want; go_big_quiet_op; first | go_big_quiet_on))
  refine wpQuiet_nil ?_
  rintro _ ⟨k, rfl⟩
  go_wp2_with fail
  refine (HLD.out _ (by exact HM.out.keep fun _ _ => rfl)).mono ?_
  rintro e w2 ⟨rfl, hm2, ht2⟩
  have HM2 := Lib.hid hm2
  have HT2 : Hid (Turn M.own w1 w2) := Lib.hid (Turn.trans (F := M.own) (G := M.own) (y := w1.drewN k) ⟨rfl, rfl, rfl, Nat.le_refl _, fun _ _ _ => rfl⟩ ht2 (fun _ _ h => h))
  have HH2 := Lib.hid (HH.out.turn HT2.out (fun k hk ho => by rcases hk with hk | hk; exact (HAP.out k ho).1 hk; exact (HAP.out k ho).2 hk))
  clear hm2 ht2 q0 q1 q2 q3 q4 q9
  go_wp2_with fail
  refine (HC.out _ HH2.out).mono ?_
  rintro e w3 hto
  have H3 := Lib.hid hto
  obtain ⟨⟨u, rfl⟩, -, hv, nv, hmk, -, -⟩ := hto
  have q2 := cell_row hmk.row 2 _ rfl
  clear hmk
  go_wp2_with fail
  go_ret
  rw [HST.out]
  exact step_of HH.out HM2.out (load_moved M _ _) HT2.out H3.out HAP.out _ (ret_bool (bool_dec _))
set_option maxRecDepth 100000 in
theorem step_keyed (M : Mv) (K : Mk) (g : Gd) (hs : Sees g M K) (hpc : K.s.pc = 1) (hS : K.S ≤ 100000) (hlen : K.s.heads.length ≤ 1000000) (hlen2 : K.s.nodes.length ≤ 1000000) (hck : M.ck ≤ 1000000) (w : World) (hM : MemAt w M) (h : MkAt w K) : Calls Tryz.prog 15 #[.pointer (some ⟨K.x, 0, none⟩), .pointer (some ⟨M.m, 0, none⟩)] w (StepTo M K (K.s.step g) 1 w) := by
  have HD := Lib.hid (done18 K w h)
  have hl : K.s.list < K.nh := h.lip (by omega)
  have hnh := h.nh1
  have hsl := h.sl (by omega) (by omega)
  have hpl := hs.pl (K.s.slot - 1) (by omega)
  have hst : K.s.step g = K.s.keyed g (g.w ((g.at_ + (K.s.slot - 1)) * 8 + 1)) := by unfold MS.step; rw [if_neg (by omega), if_neg (by omega), if_pos hpc]; rfl
  have hn : (g.at_ + (K.s.slot - 1)) * 8 + 1 < 8 * M.n := by omega
  have hpv : K.v.slot ((K.s.slot : Int) - 1) 1 = (((g.at_ + (K.s.slot - 1)) * 8 + 1 : Nat) : Int) := by
    have := slot_place (v := K.v) (a := g.at_) (S := K.S) (s := K.s.slot - 1) 1 (by omega) h.hS hs.at_
    rw [show (((K.s.slot - 1 : Nat)) : Int) = (K.s.slot : Int) - 1 by omega] at this; exact this
  have HK : Hid (∀ n, Calls Tryz.prog 75 #[.pointer (some ⟨K.l, 0, none⟩), .int .i64 ((K.s.slot : Int) - 1)] (w.drewN n) (Drew (.int .i64 (((g.at_ + (K.s.slot - 1)) * 8 + 1 : Nat) : Int)) (w.drewN n))) := Lib.hid fun n => by rw [← hpv]; exact key75 K.l K.v _ _ (h.lay.keep rfl)
  obtain ⟨a, ha⟩ : ∃ a, a = (g.at_ + (K.s.slot - 1)) * 8 + 1 := ⟨_, rfl⟩
  rw [← ha] at hst hn HK
  clear ha
  have hwa := hs.w a hn
  have n1 := hM.n1
  have HLD : Hid (∀ w, MemAt w M → Calls Tryz.prog 73 #[.pointer (some ⟨M.m, 0, none⟩), .int .i64 K.t, .int .i64 (a : Int)] w (DoneV M (M.load K.t (a : Int)) (.int .u64 (g.w a : Int)) w)) := Lib.hid fun w hw => by
    have := load37 M K.t (a : Int) (by omega) (by omega) w hw hck
    rw [peek_seen M a hn, hwa.1] at this; exact this
  have HC := Lib.hid fun w h => keyed_at g K hs.fits (g.w a) hwa.2 hl hsl w h
  have HAP := Lib.hid hs.apart
  have HST := Lib.hid hst
  have HH := Lib.hid h
  have HM := Lib.hid hM
  have q0 := cell_row h.row 0 _ rfl
  have q1 := cell_row h.row 1 _ rfl
  have q2 := cell_row h.row 2 _ rfl
  have q3 := cell_row h.row 3 _ rfl
  have q4 := cell_row h.row 4 _ rfl
  have q9 := cell_row h.row 9 _ rfl
  have ep : (K.s.pc : Int) = 1 := by omega
  rw [ep] at q2
  rw [show ((K.s.pc : Int) == 4) = false by rw [hpc]; rfl] at HD
  have i0 : (0 : Int) ≤ (K.s.list : Int) := by omega
  have i1 : (K.s.list : Int) < (K.nh : Int) := by omega
  have i2 : (K.nh : Int) ≤ 1000 := by omega
  clear h hM hst hs hwa hpc ep hn n1 hlen hlen2 hck hsl hpl hpv
  go_enter Tryz.func15, Tryz.ntmps15
  go_wp2_with fail
  refine HD.out.mono ?_
  rintro e w1 ⟨rfl, rfl⟩
  go_wp2_with fail
  refine region_qd 1 14 (by kernel_rfl) (by kernel_rfl) (fun _ _ d _ _ h => by cases d <;> exact h) ?_
  simp only [List.take_succ_cons, List.take_zero, List.drop_succ_cons, List.drop_zero, Nat.reduceAdd]
  repeat (first | go_big_quiet_skip | (go_big_quiet_want; go_big_quiet_op; go_big_quiet_on))
  refine wpQuiet_nil ?_
  repeat (first | go_big_quiet_skip | (go_big_quiet_want; go_big_quiet_op; first | go_big_quiet_on | go_big_quiet_call ((go_at_call 75; exact Calls.quiet_of (HK.out _)))))
  refine wpQuiet_nil ?_
  rintro _ ⟨k, rfl⟩
  go_wp2_with fail
  refine (HLD.out _ (by exact HM.out.keep fun _ _ => rfl)).mono ?_
  rintro e w2 ⟨rfl, hm2, ht2⟩
  have HM2 := Lib.hid hm2
  have HT2 : Hid (Turn M.own w1 w2) := Lib.hid (Turn.trans (F := M.own) (G := M.own) (y := w1.drewN k) ⟨rfl, rfl, rfl, Nat.le_refl _, fun _ _ _ => rfl⟩ ht2 (fun _ _ h => h))
  have HH2 := Lib.hid (HH.out.turn HT2.out (fun k hk ho => by rcases hk with hk | hk; exact (HAP.out k ho).1 hk; exact (HAP.out k ho).2 hk))
  clear hm2 ht2 q0 q1 q2 q3 q4 q9
  go_wp2_with fail
  refine (HC.out _ HH2.out).mono ?_
  rintro e w3 hto
  have H3 := Lib.hid hto
  obtain ⟨⟨u, rfl⟩, -, hv, nv, hmk, -, -⟩ := hto
  have q2 := cell_row hmk.row 2 _ rfl
  clear hmk
  go_wp2_with fail
  go_ret
  rw [HST.out]
  exact step_of HH.out HM2.out (load_moved M _ _) HT2.out H3.out HAP.out _ (ret_bool (bool_dec _))
set_option maxRecDepth 100000 in
theorem step_valued (M : Mv) (K : Mk) (g : Gd) (hs : Sees g M K) (hpc : K.s.pc = 2) (hS : K.S ≤ 100000) (hlen : K.s.heads.length ≤ 1000000) (hlen2 : K.s.nodes.length ≤ 1000000) (hck : M.ck ≤ 1000000) (w : World) (hM : MemAt w M) (h : MkAt w K) : Calls Tryz.prog 15 #[.pointer (some ⟨K.x, 0, none⟩), .pointer (some ⟨M.m, 0, none⟩)] w (StepTo M K (K.s.step g) 1 w) := by
  have HD := Lib.hid (done18 K w h)
  have hl : K.s.list < K.nh := h.lip (by omega)
  have hnh := h.nh1
  have hsl := h.sl (by omega) (by omega)
  have hpl := hs.pl (K.s.slot - 1) (by omega)
  have hst : K.s.step g = K.s.valued (g.w ((g.at_ + (K.s.slot - 1)) * 8 + 2)) := by unfold MS.step; rw [if_neg (by omega), if_neg (by omega), if_neg (by omega), if_pos hpc]; rfl
  have hn : (g.at_ + (K.s.slot - 1)) * 8 + 2 < 8 * M.n := by omega
  have hpv : K.v.slot ((K.s.slot : Int) - 1) 2 = (((g.at_ + (K.s.slot - 1)) * 8 + 2 : Nat) : Int) := by
    have := slot_place (v := K.v) (a := g.at_) (S := K.S) (s := K.s.slot - 1) 2 (by omega) h.hS hs.at_
    rw [show (((K.s.slot - 1 : Nat)) : Int) = (K.s.slot : Int) - 1 by omega] at this; exact this
  have HK : Hid (∀ n, Calls Tryz.prog 77 #[.pointer (some ⟨K.l, 0, none⟩), .int .i64 ((K.s.slot : Int) - 1)] (w.drewN n) (Drew (.int .i64 (((g.at_ + (K.s.slot - 1)) * 8 + 2 : Nat) : Int)) (w.drewN n))) := Lib.hid fun n => by rw [← hpv]; exact val77 K.l K.v _ _ (h.lay.keep rfl)
  obtain ⟨a, ha⟩ : ∃ a, a = (g.at_ + (K.s.slot - 1)) * 8 + 2 := ⟨_, rfl⟩
  rw [← ha] at hst hn HK
  clear ha
  have hwa := hs.w a hn
  have n1 := hM.n1
  have HLD : Hid (∀ w, MemAt w M → Calls Tryz.prog 73 #[.pointer (some ⟨M.m, 0, none⟩), .int .i64 K.t, .int .i64 (a : Int)] w (DoneV M (M.load K.t (a : Int)) (.int .u64 (g.w a : Int)) w)) := Lib.hid fun w hw => by
    have := load37 M K.t (a : Int) (by omega) (by omega) w hw hck
    rw [peek_seen M a hn, hwa.1] at this; exact this
  have HC := Lib.hid fun w h => valued_at K (g.w a) hwa.2 hl hsl w h
  have HAP := Lib.hid hs.apart
  have HST := Lib.hid hst
  have HH := Lib.hid h
  have HM := Lib.hid hM
  have q0 := cell_row h.row 0 _ rfl
  have q1 := cell_row h.row 1 _ rfl
  have q2 := cell_row h.row 2 _ rfl
  have q3 := cell_row h.row 3 _ rfl
  have q4 := cell_row h.row 4 _ rfl
  have q9 := cell_row h.row 9 _ rfl
  have ep : (K.s.pc : Int) = 2 := by omega
  rw [ep] at q2
  rw [show ((K.s.pc : Int) == 4) = false by rw [hpc]; rfl] at HD
  have i0 : (0 : Int) ≤ (K.s.list : Int) := by omega
  have i1 : (K.s.list : Int) < (K.nh : Int) := by omega
  have i2 : (K.nh : Int) ≤ 1000 := by omega
  clear h hM hst hs hwa hpc ep hn n1 hlen hlen2 hck hsl hpl hpv
  go_enter Tryz.func15, Tryz.ntmps15
  go_wp2_with fail
  refine HD.out.mono ?_
  rintro e w1 ⟨rfl, rfl⟩
  go_wp2_with fail
  refine region_qd 1 14 (by kernel_rfl) (by kernel_rfl) (fun _ _ d _ _ h => by cases d <;> exact h) ?_
  simp only [List.take_succ_cons, List.take_zero, List.drop_succ_cons, List.drop_zero, Nat.reduceAdd]
  repeat (first | go_big_quiet_skip | (go_big_quiet_want; go_big_quiet_op; go_big_quiet_on))
  refine wpQuiet_nil ?_
  repeat (first | go_big_quiet_skip | (go_big_quiet_want; go_big_quiet_op; first | go_big_quiet_on | go_big_quiet_call ((go_at_call 77; exact Calls.quiet_of (HK.out _)))))
  refine wpQuiet_nil ?_
  rintro _ ⟨k, rfl⟩
  go_wp2_with fail
  refine (HLD.out _ (by exact HM.out.keep fun _ _ => rfl)).mono ?_
  rintro e w2 ⟨rfl, hm2, ht2⟩
  have HM2 := Lib.hid hm2
  have HT2 : Hid (Turn M.own w1 w2) := Lib.hid (Turn.trans (F := M.own) (G := M.own) (y := w1.drewN k) ⟨rfl, rfl, rfl, Nat.le_refl _, fun _ _ _ => rfl⟩ ht2 (fun _ _ h => h))
  have HH2 := Lib.hid (HH.out.turn HT2.out (fun k hk ho => by rcases hk with hk | hk; exact (HAP.out k ho).1 hk; exact (HAP.out k ho).2 hk))
  clear hm2 ht2 q0 q1 q2 q3 q4 q9
  go_wp2_with fail
  refine (HC.out _ HH2.out).mono ?_
  rintro e w3 hto
  have H3 := Lib.hid hto
  obtain ⟨⟨u, rfl⟩, -, hv, nv, hmk, -, -⟩ := hto
  have q2 := cell_row hmk.row 2 _ rfl
  clear hmk
  go_wp2_with fail
  go_ret
  rw [HST.out]
  exact step_of HH.out HM2.out (load_moved M _ _) HT2.out H3.out HAP.out _ (ret_bool (bool_dec _))
set_option maxRecDepth 100000 in
theorem step_linked (M : Mv) (K : Mk) (g : Gd) (hs : Sees g M K) (hpc : K.s.pc = 3) (hS : K.S ≤ 100000) (hlen : K.s.heads.length ≤ 1000000) (hlen2 : K.s.nodes.length ≤ 1000000) (hck : M.ck ≤ 1000000) (w : World) (hM : MemAt w M) (h : MkAt w K) : Calls Tryz.prog 15 #[.pointer (some ⟨K.x, 0, none⟩), .pointer (some ⟨M.m, 0, none⟩)] w (StepTo M K (K.s.step g) 1 w) := by
  have HD := Lib.hid (done18 K w h)
  have hl : K.s.list < K.nh := h.lip (by omega)
  have hnh := h.nh1
  have hsl := h.sl (by omega) (by omega)
  have hpl := hs.pl (K.s.slot - 1) (by omega)
  have hst : K.s.step g = K.s.linked g (g.w ((g.at_ + (K.s.slot - 1)) * 8 + 3)) := by unfold MS.step; rw [if_neg (by omega), if_neg (by omega), if_neg (by omega), if_neg (by omega)]; rfl
  have hn : (g.at_ + (K.s.slot - 1)) * 8 + 3 < 8 * M.n := by omega
  have hpv : K.v.slot ((K.s.slot : Int) - 1) 3 = (((g.at_ + (K.s.slot - 1)) * 8 + 3 : Nat) : Int) := by
    have := slot_place (v := K.v) (a := g.at_) (S := K.S) (s := K.s.slot - 1) 3 (by omega) h.hS hs.at_
    rw [show (((K.s.slot - 1 : Nat)) : Int) = (K.s.slot : Int) - 1 by omega] at this; exact this
  have HK : Hid (∀ n, Calls Tryz.prog 79 #[.pointer (some ⟨K.l, 0, none⟩), .int .i64 ((K.s.slot : Int) - 1)] (w.drewN n) (Drew (.int .i64 (((g.at_ + (K.s.slot - 1)) * 8 + 3 : Nat) : Int)) (w.drewN n))) := Lib.hid fun n => by rw [← hpv]; exact next79 K.l K.v _ _ (h.lay.keep rfl)
  obtain ⟨a, ha⟩ : ∃ a, a = (g.at_ + (K.s.slot - 1)) * 8 + 3 := ⟨_, rfl⟩
  rw [← ha] at hst hn HK
  clear ha
  have hwa := hs.w a hn
  have n1 := hM.n1
  have HLD : Hid (∀ w, MemAt w M → Calls Tryz.prog 73 #[.pointer (some ⟨M.m, 0, none⟩), .int .i64 K.t, .int .i64 (a : Int)] w (DoneV M (M.load K.t (a : Int)) (.int .u64 (g.w a : Int)) w)) := Lib.hid fun w hw => by
    have := load37 M K.t (a : Int) (by omega) (by omega) w hw hck
    rw [peek_seen M a hn, hwa.1] at this; exact this
  have HC := Lib.hid fun w h => linked_at g K hs.fits (g.w a) hwa.2 hl hS hlen2 hsl.1 w h
  have HAP := Lib.hid hs.apart
  have HST := Lib.hid hst
  have HH := Lib.hid h
  have HM := Lib.hid hM
  have q0 := cell_row h.row 0 _ rfl
  have q1 := cell_row h.row 1 _ rfl
  have q2 := cell_row h.row 2 _ rfl
  have q3 := cell_row h.row 3 _ rfl
  have q4 := cell_row h.row 4 _ rfl
  have q9 := cell_row h.row 9 _ rfl
  have ep : (K.s.pc : Int) = 3 := by omega
  rw [ep] at q2
  rw [show ((K.s.pc : Int) == 4) = false by rw [hpc]; rfl] at HD
  have i0 : (0 : Int) ≤ (K.s.list : Int) := by omega
  have i1 : (K.s.list : Int) < (K.nh : Int) := by omega
  have i2 : (K.nh : Int) ≤ 1000 := by omega
  clear h hM hst hs hwa hpc ep hn n1 hlen hlen2 hck hsl hpl hpv
  go_enter Tryz.func15, Tryz.ntmps15
  go_wp2_with fail
  refine HD.out.mono ?_
  rintro e w1 ⟨rfl, rfl⟩
  go_wp2_with fail
  refine region_qd 1 14 (by kernel_rfl) (by kernel_rfl) (fun _ _ d _ _ h => by cases d <;> exact h) ?_
  simp only [List.take_succ_cons, List.take_zero, List.drop_succ_cons, List.drop_zero, Nat.reduceAdd]
  repeat (first | go_big_quiet_skip | (go_big_quiet_want; go_big_quiet_op; go_big_quiet_on))
  refine wpQuiet_nil ?_
  repeat (first | go_big_quiet_skip | (go_big_quiet_want; go_big_quiet_op; first | go_big_quiet_on | go_big_quiet_call ((go_at_call 79; exact Calls.quiet_of (HK.out _)))))
  refine wpQuiet_nil ?_
  rintro _ ⟨k, rfl⟩
  go_wp2_with fail
  refine (HLD.out _ (by exact HM.out.keep fun _ _ => rfl)).mono ?_
  rintro e w2 ⟨rfl, hm2, ht2⟩
  have HM2 := Lib.hid hm2
  have HT2 : Hid (Turn M.own w1 w2) := Lib.hid (Turn.trans (F := M.own) (G := M.own) (y := w1.drewN k) ⟨rfl, rfl, rfl, Nat.le_refl _, fun _ _ _ => rfl⟩ ht2 (fun _ _ h => h))
  have HH2 := Lib.hid (HH.out.turn HT2.out (fun k hk ho => by rcases hk with hk | hk; exact (HAP.out k ho).1 hk; exact (HAP.out k ho).2 hk))
  clear hm2 ht2 q0 q1 q2 q3 q4 q9
  go_wp2_with fail
  refine (HC.out _ HH2.out).mono ?_
  rintro e w3 hto
  have H3 := Lib.hid hto
  obtain ⟨⟨u, rfl⟩, -, hv, nv, hmk, -, -⟩ := hto
  have q2 := cell_row hmk.row 2 _ rfl
  clear hmk
  go_wp2_with fail
  go_ret
  rw [HST.out]
  exact step_of HH.out HM2.out (load_moved M _ _) HT2.out H3.out HAP.out _ (ret_bool (bool_dec _))
theorem step_at (M : Mv) (K : Mk) (g : Gd) (hs : Sees g M K) (hpc : K.s.pc ≤ 4) (hS : K.S ≤ 100000) (hlen : K.s.heads.length ≤ 1000000) (hlen2 : K.s.nodes.length ≤ 1000000) (hck : M.ck ≤ 1000000) (w : World) (hM : MemAt w M) (h : MkAt w K) : Calls Tryz.prog 15 #[.pointer (some ⟨K.x, 0, none⟩), .pointer (some ⟨M.m, 0, none⟩)] w (StepTo M K (K.s.step g) (if K.s.pc = 4 then 0 else 1) w) := by
  by_cases h4 : K.s.pc = 4
  · rw [if_pos h4]; exact step_done M K g h4 w hM h
  rw [if_neg h4]
  by_cases h0 : K.s.pc = 0
  · exact step_head M K g hs h0 hS hlen hlen2 hck w hM h
  by_cases h1 : K.s.pc = 1
  · exact step_keyed M K g hs h1 hS hlen hlen2 hck w hM h
  by_cases h2 : K.s.pc = 2
  · exact step_valued M K g hs h2 hS hlen hlen2 hck w hM h
  · exact step_linked M K g hs (by omega) hS hlen hlen2 hck w hM h

end Go.Proofs.YtibelcmdfkgonaaGreat

namespace Go.Proofs.YtibelcmdfkgonaaGreat
open Go.RowKit Go.BigFrame
set_option linter.unusedVariables false
set_option linter.unusedSimpArgs false
/-- Left off its end. -/
def Ended (R : World → Prop) : Exit → Act → World → Prop
  | .normal, _, w => R w
  | _, _, _ => False
theorem range71 {assign body : Code} {Q : Exit → Act → World → Prop} {a : Act} {g : Operand} {w0 w : World} {po b2 b3 b off n cap : Nat} {f : Nat → Int} (hn : n ≤ cap) (hc : cap ≤ 9223372036854775807) (n1 : po ≠ b2) (n2 : b2 ≠ b3)
    (hg : a.eval g = .func (.func 288) #[] #[.pointer (some ⟨b2, 0, none⟩), .pointer (some ⟨b3, 0, none⟩)])
    (h0 : CutAt w0 w po b2 b3 b off n cap f 0 0)
    (hassign : ∀ (l : Nat) (v : Value) (W : World) (K : Act → World → Prop), K { tmps := (a.tmps.setIfInBounds 15 v).setIfInBounds 6 v, defers := [] } W →
      assign.wpIn (Fence.wide.inRound l) 7 Tryz.prog (Exit.then K (fun _ _ _ => False)) { tmps := a.tmps.setIfInBounds 15 v, defers := [] } W)
    (hbody : ∀ (l k : Nat) (W : World), 8 * (k + 1) ≤ n → CutAt w0 W po b2 b3 b off n cap f k k →
      body.wpIn (Fence.wide.inRound l) 7 Tryz.prog (Ended fun W' => CutAt w0 W' po b2 b3 b off n cap f k (k + 1) ∧ Stays W W') { tmps := (a.tmps.setIfInBounds 15 (.slice (some ⟨b, off + 8 * k, none⟩) 8 8)).setIfInBounds 6 (.slice (some ⟨b, off + 8 * k, none⟩) 8 8), defers := [] } W)
    (hdone : ∀ (D : Nat) (W : World), w0.heap.size ≤ D → CutAt w0 W po b2 b3 b off n cap f (n / 8) (n / 8) → W.heap[D]? = some (.deferred (some [])) → Q .normal { a with defers := { target := .collected D, args := #[] } :: a.defers } W) :
    (Code.rangeFunc g #[15] assign body).wpIn Fence.wide 9 Tryz.prog Q a w := by
  refine wpIn_rangeFunc ?_
  intro fn hfn
  obtain ⟨rec, hrec⟩ : ∃ rec : LoopState → Option Code → Loop, rec = fun st pe => { state := st, pending := pe, fn, tmps := a.tmps, params := #[15], assign, body, defers := w.heap.size } := ⟨_, rfl⟩
  obtain ⟨W1, hW1⟩ : ∃ W1, (w.alloc (.deferred (some []))).alloc (.loop (rec .ready none)) = W1 := ⟨_, rfl⟩
  have hsw := h0.below.size
  have hL1 : W1.heap[w.heap.size + 1]? = some (.loop (rec .ready none)) := by
    rw [← hW1]; have := World.alloc_heap_new (w.alloc (.deferred (some []))) (.loop (rec .ready none)); rwa [World.size_alloc] at this
  have hK1 : W1.heap[w.heap.size]? = some (.deferred (some [])) := by
    rw [← hW1]; exact (Below.heap_alloc _ _ _ (by simp)).trans (World.alloc_heap_new w _)
  have hI1 : CutAt w0 W1 po b2 b3 b off n cap f 0 0 := h0.grow (by rw [← hW1]; exact ((Below.refl _ w).alloc (Nat.le_refl _) _).alloc (by simp) _)
  refine ⟨w.heap.size + 1, [{ target := .collected w.heap.size, args := #[] }], W1, { target := .fn (.func 288) #[.pointer (some ⟨b2, 0, none⟩), .pointer (some ⟨b3, 0, none⟩)], args := #[.func (.yield (w.heap.size + 1)) #[] #[]] }, W1, 288,
    #[.func (.yield (w.heap.size + 1)) #[] #[]] ++ #[.pointer (some ⟨b2, 0, none⟩), .pointer (some ⟨b3, 0, none⟩)], W1, ?_, ?_, ?_, ?_, fun _ => by omega, ?_⟩
  · rw [← hW1, hrec]; exact run_enterLoop_outer _ _ _ _ _
  · simp only [resolve, hg]
    simp [go_sem]
  · intro f' hf'; simp [Target.leads] at hf'; subst hf'; trivial
  · have eg : ∀ args w, (callFunc 288 args).run Tryz.prog w = .ok (.enter 288 args) w := enters_at Tryz.func288 (by kernel_rfl) rfl
    simp [invoke, go_sem, eg]
  · have K : ∀ (k j : Nat), World → Prop := fun _ _ _ => True
    refine (iter71 8 (w.heap.size + 1) b2 b3 b off n cap n2 (by omega) hn hc
      (fun k W => CutAt w0 W po b2 b3 b off n cap f k k ∧ W.heap[w.heap.size + 1]? = some (.loop (rec .ready none)) ∧ W.heap[w.heap.size]? = some (.deferred (some [])))
      (fun k W => CutAt w0 W po b2 b3 b off n cap f k (k + 1) ∧ W.heap[w.heap.size + 1]? = some (.loop (rec .ready none)) ∧ W.heap[w.heap.size]? = some (.deferred (some [])))
      (fun k W h => h.1.parts) (fun k W h => h.1.parts) ?_ ?_ W1 ⟨hI1, hL1, hK1⟩).mono ?_
    · rintro k W hk ⟨hi, hl, hkk⟩
      have hlt : w.heap.size + 1 < W.heap.size := (Array.getElem?_eq_some_iff.1 hl).1
      have hy : (Instr.yield (w.heap.size + 1) #[.slice (some ⟨b, off + 8 * k, none⟩) 8 8]).run Tryz.prog W = .ok (.round (w.heap.size + 1) fn (a.tmps.setIfInBounds 15 (.slice (some ⟨b, off + 8 * k, none⟩) 8 8)) assign body) W := by
        refine (run_yield (P := Tryz.prog) (args := #[.slice (some ⟨b, off + 8 * k, none⟩) 8 8]) hl (by rw [hrec]; rfl)).trans ?_
        rw [hrec]
        simp
      refine ⟨fn, _, assign, body, hy, roundIn_of_wpIn hfn (hassign _ _ W _ ⟨_, run_beginRound hl (by rw [hrec]), ?_⟩)⟩
      have hl2 : (W.putObj (w.heap.size + 1) (.loop { rec .ready none with state := .busy })).heap[w.heap.size + 1]? = some (.loop { rec .ready none with state := .busy }) := World.putObj_heap_same hlt
      have hk2 : (W.putObj (w.heap.size + 1) (.loop { rec .ready none with state := .busy })).heap[w.heap.size]? = some (.deferred (some [])) := (World.putObj_heap_other (by omega)).trans hkk
      refine wpIn_mono (hbody _ k _ hk (hi.put hl rfl (by omega) _)) ?_
      rintro e a3 W3 hp
      cases e with
      | normal =>
        obtain ⟨hi3, hs3⟩ := hp
        have hl3 := hs3 _ _ hl2 rfl
        have hk3 := hs3 _ _ hk2 rfl
        have hend := run_endRound (P := Tryz.prog) none hl3
        refine ⟨_, _, hend, rfl, hi3.put hl3 rfl (by omega) _, ?_, (World.putObj_heap_other (by omega)).trans hk3⟩
        rw [World.putObj_heap_same (Array.getElem?_eq_some_iff.1 hl3).1, hrec]
        rfl
      | _ => exact hp.elim
    · rintro k W A hk ⟨hi, hl, hkk⟩ hA
      obtain ⟨A0, -, c2, -, -⟩ := hi.parts
      have hs := stays_set (v := .slice A (n - 8 * (k + 1)) (cap - 8 * (k + 1))) c2 0
      exact ⟨hi.next n1 n2 hA, hs _ _ hl rfl, hs _ _ hkk rfl⟩
    · rintro e W2 ⟨⟨v, rfl⟩, hi, hl, hk⟩
      exact ⟨none, _, by have := run_endLoop (P := Tryz.prog) hl (by rw [hrec]; simp); rw [hrec] at this; exact this, hdone _ _ hsw (hi.put hl rfl (by omega) _) ((World.putObj_heap_other (by omega)).trans hk)⟩
theorem parts50 (v : Value) (hv : ∃ a m c, v = .slice a m c) (n : Int) (w : World) : Calls Tryz.prog 219 #[v, .int .i64 n] w fun e w' =>
    e = .returned (.func (.func 288) #[] #[.pointer (some ⟨w.heap.size, 0, none⟩), .pointer (some ⟨w.heap.size + 1, 0, none⟩)]) ∧ w' = (w.alloc (.cells #[v] 33)).alloc (.cells #[.int .i64 n] 3) := by
  obtain ⟨a, m, c, rfl⟩ := hv
  have hmf : ∀ (fn : Fn) (first cap : Array Value) (w : World), (Instr.makeFunc fn first cap).run Tryz.prog w = .ok (.func fn first cap) w := fun _ _ _ _ => rfl
  go_enter Tryz.func219, Tryz.ntmps219
  go_wp2_with fail
  go_ret
  exact ⟨rfl, rfl⟩
end Go.Proofs.YtibelcmdfkgonaaGreat

namespace Go.Proofs.YtibelcmdfkgonaaGreat
open Go.RowKit Go.BigFrame
set_option linter.unusedVariables false
set_option linter.unusedSimpArgs false
/-- A loop's record, or a block of deferred calls. -/
def Walks (o : Obj) : Prop := (∃ r, o = .loop r) ∨ ∃ d, o = .deferred d
/-- Records of loops and deferred calls lie as they lay. -/
def StaysL (W W' : World) : Prop := ∀ (k : Nat) (o : Obj), W.heap[k]? = some o → Walks o → W'.heap[k]? = some o
theorem StaysL.refl (W : World) : StaysL W W := fun _ _ h _ => h
theorem StaysL.trans {A B C : World} (h : StaysL A B) (k : StaysL B C) : StaysL A C := fun q o a b => k q o (h q o a b) b
theorem staysL_of {W W' : World} (h : Stays W W') : StaysL W W' := fun k o h1 h2 => h k o h1 (by rcases h2 with ⟨r, rfl⟩ | ⟨r, rfl⟩ <;> rfl)
theorem staysL_below {W W' : World} (h : Below W.heap.size W W') : StaysL W W' := fun k o hk _ => (h.block k (lt_row hk)).trans hk
theorem staysL_set {W : World} {p : Nat} {c : Array Value} {t : TypeId} {f : Nat × Nat} (h : W.heap[p]? = some (.cells c t f)) (j : Nat) (v : Value) : StaysL W (W.setCell ⟨p, j, none⟩ v) := fun k o hk hw => by
  have hne : k ≠ p := fun e => by subst e; rw [h] at hk; cases hk; rcases hw with ⟨r, e⟩ | ⟨r, e⟩ <;> cases e
  exact (heap_set_other hne).trans hk
/-- Nothing but records of loops, from B on, has turned; new blocks. -/
structure LoopOnly (B : Nat) (W W' : World) : Prop where
  os : W'.os = W.os
  tape : W'.tape = W.tape
  output : W'.output = W.output
  size : W.heap.size ≤ W'.heap.size
  block : ∀ b o, W.heap[b]? = some o → (b < B ∨ ¬ ∃ r, o = .loop r) → W'.heap[b]? = some o
theorem LoopOnly.cells {B : Nat} {W W' : World} (h : LoopOnly B W W') {b : Nat} {c : Array Value} {t : TypeId} {f : Nat × Nat} (hb : W.heap[b]? = some (.cells c t f)) : W'.heap[b]? = some (.cells c t f) :=
  h.block b _ hb (.inr (by rintro ⟨r, e⟩; cases e))
theorem LoopOnly.of_below {B : Nat} {W W' : World} (h : Below W.heap.size W W') : LoopOnly B W W' := ⟨h.os, h.tape, h.output, h.size, fun b o hb _ => (h.block b (lt_row hb)).trans hb⟩
theorem LoopOnly.put {B : Nat} {W : World} {i : Nat} {r : Loop} (h : W.heap[i]? = some (.loop r)) (hB : B ≤ i) (o : Obj) : LoopOnly B W (W.putObj i o) :=
  ⟨rfl, rfl, rfl, by simp [World.putObj], fun b o' hb hn => by
    have hne : b ≠ i := fun e => by
      subst e; rw [h] at hb; cases hb
      rcases hn with hn | hn
      · omega
      · exact hn ⟨r, rfl⟩
    exact (World.putObj_heap_other hne).trans hb⟩
theorem LoopOnly.below {B : Nat} {a W W' : World} (h : LoopOnly B W W') (k : Below B a W) (hB : B ≤ W.heap.size) : Below B a W' :=
  ⟨h.os.trans k.os, h.tape.trans k.tape, h.output.trans k.output, Nat.le_trans k.size h.size, fun b hb => by
    rw [← k.block b hb]
    have hlt : b < W.heap.size := by omega
    have hs : W.heap[b]? = some (W.heap[b]'hlt) := by simp [hlt]
    rw [hs]; exact h.block b _ hs (.inl hb)⟩
/-- The values of a round's parameters laid. -/
def laid (ps : Array Tmp) (vs : Array Value) (t : Array Value) : Array Value := (ps.zip vs).foldl (fun t (p, v) => t.setIfInBounds p v) t
/-- THE RANGE: an iterator (F, its captured values) that yields N times, the k-th time args k, and keeps the records of loops; JH k: what holds ahead of the k-th round, JY k: when it is yielded, JA k: behind the body. -/
theorem range_gen {P : Program} {assign body : Code} {Q : Exit → Act → World → Prop} {a : Act} {g : Operand} {w : World} {F : Nat} {caps : Array Value} {ps : Array Tmp} {N : Nat} {args : Nat → Array Value} (JH JY JA : Nat → World → Prop) (T : Nat → Array Value)
    (eg : ∀ args w, (callFunc F args).run P w = .ok (.enter F args) w) (hps : ∀ k, k < N → ps.size = (args k).size)
    (hg : a.eval g = .func (.func F) #[] caps) (h0 : JH 0 w)
    (stH : ∀ k W W', LoopOnly w.heap.size W W' → JH k W → JH k W') (stY : ∀ k W W', LoopOnly w.heap.size W W' → JY k W → JY k W') (stA : ∀ k W W', LoopOnly w.heap.size W W' → JA k W → JA k W')
    (hit : ∀ (l : Nat) (R : World → Prop), (∀ W W', StaysL W W' → R W → R W') →
      (∀ k W, k < N → JY k W → R W → YieldAt Fence.wide 7 P l (args k) W fun e W' => e = .returned (.bool true) ∧ JA k W' ∧ R W') →
      ∀ W, JH 0 W → R W → CallsIn Fence.wide 8 P F (#[.func (.yield l) #[] #[]] ++ caps) W fun e W' => (∃ v, e = .returned v) ∧ JH N W' ∧ R W')
    (hassign : ∀ (l k : Nat) (W : World) (K : Act → World → Prop), k < N → K { tmps := T k, defers := [] } W → assign.wpIn (Fence.wide.inRound l) 7 P (Exit.then K (fun _ _ _ => False)) { tmps := laid ps (args k) a.tmps, defers := [] } W)
    (hbody : ∀ (l k : Nat) (W : World), k < N → JY k W → body.wpIn (Fence.wide.inRound l) 7 P (Ended fun W' => JA k W' ∧ StaysL W W') { tmps := T k, defers := [] } W)
    (hdone : ∀ (D : Nat) (W : World), w.heap.size ≤ D → JH N W → W.heap[D]? = some (.deferred (some [])) → Q .normal { a with defers := { target := .collected D, args := #[] } :: a.defers } W) :
    (Code.rangeFunc g ps assign body).wpIn Fence.wide 9 P Q a w := by
  refine wpIn_rangeFunc ?_
  intro fn hfn
  obtain ⟨rec, hrec⟩ : ∃ rec : LoopState → Option Code → Loop, rec = fun st pe => { state := st, pending := pe, fn, tmps := a.tmps, params := ps, assign, body, defers := w.heap.size } := ⟨_, rfl⟩
  obtain ⟨W1, hW1⟩ : ∃ W1, (w.alloc (.deferred (some []))).alloc (.loop (rec .ready none)) = W1 := ⟨_, rfl⟩
  have hL1 : W1.heap[w.heap.size + 1]? = some (.loop (rec .ready none)) := by
    rw [← hW1]; have := World.alloc_heap_new (w.alloc (.deferred (some []))) (.loop (rec .ready none)); rwa [World.size_alloc] at this
  have hK1 : W1.heap[w.heap.size]? = some (.deferred (some [])) := by
    rw [← hW1]; exact (Below.heap_alloc _ _ _ (by simp)).trans (World.alloc_heap_new w _)
  have hI1 : JH 0 W1 := stH 0 w W1 (LoopOnly.of_below (by rw [← hW1]; exact ((Below.refl _ w).alloc (Nat.le_refl _) _).alloc (by simp) _)) h0
  refine ⟨w.heap.size + 1, [{ target := .collected w.heap.size, args := #[] }], W1, { target := .fn (.func F) caps, args := #[.func (.yield (w.heap.size + 1)) #[] #[]] }, W1, F,
    #[.func (.yield (w.heap.size + 1)) #[] #[]] ++ caps, W1, ?_, ?_, ?_, ?_, fun _ => by omega, ?_⟩
  · rw [← hW1, hrec]; exact run_enterLoop_outer _ _ _ _ _
  · simp only [resolve, hg]
    simp [go_sem]
  · intro f' hf'; simp [Target.leads] at hf'; subst hf'; trivial
  · simp [invoke, go_sem, eg]
  · refine (hit (w.heap.size + 1) (fun W => W.heap[w.heap.size + 1]? = some (.loop (rec .ready none)) ∧ W.heap[w.heap.size]? = some (.deferred (some []))) ?_ ?_ W1 hI1 ⟨hL1, hK1⟩).mono ?_
    · rintro W W' hs ⟨h1, h2⟩
      exact ⟨hs _ _ h1 (.inl ⟨_, rfl⟩), hs _ _ h2 (.inr ⟨_, rfl⟩)⟩
    · rintro k W hk hj ⟨hl, hkk⟩
      have hlt : w.heap.size + 1 < W.heap.size := (Array.getElem?_eq_some_iff.1 hl).1
      have hy : (Instr.yield (w.heap.size + 1) (args k)).run P W = .ok (.round (w.heap.size + 1) fn (laid ps (args k) a.tmps) assign body) W := by
        refine (run_yield (P := P) (args := args k) hl (by rw [hrec]; exact (hps k hk).symm)).trans ?_
        rw [hrec]
        rfl
      refine ⟨fn, _, assign, body, hy, roundIn_of_wpIn hfn (hassign _ k W _ hk ⟨_, run_beginRound hl (by rw [hrec]), ?_⟩)⟩
      have hl2 : (W.putObj (w.heap.size + 1) (.loop { rec .ready none with state := .busy })).heap[w.heap.size + 1]? = some (.loop { rec .ready none with state := .busy }) := World.putObj_heap_same hlt
      have hk2 : (W.putObj (w.heap.size + 1) (.loop { rec .ready none with state := .busy })).heap[w.heap.size]? = some (.deferred (some [])) := (World.putObj_heap_other (by omega)).trans hkk
      refine wpIn_mono (hbody _ k _ hk (stY k _ _ (LoopOnly.put hl (by omega) _) hj)) ?_
      rintro e a3 W3 hp
      cases e with
      | normal =>
        obtain ⟨hi3, hs3⟩ := hp
        have hl3 := hs3 _ _ hl2 (.inl ⟨_, rfl⟩)
        have hk3 := hs3 _ _ hk2 (.inr ⟨_, rfl⟩)
        have hend := run_endRound (P := P) none hl3
        refine ⟨_, _, hend, rfl, stA k _ _ (LoopOnly.put hl3 (by omega) _) hi3, ?_, (World.putObj_heap_other (by omega)).trans hk3⟩
        rw [World.putObj_heap_same (Array.getElem?_eq_some_iff.1 hl3).1, hrec]
        rfl
      | _ => exact hp.elim
    · rintro e W2 ⟨⟨v, rfl⟩, hi, hl, hk⟩
      exact ⟨none, _, by have := run_endLoop (P := P) hl (by rw [hrec]; simp); rw [hrec] at this; exact this, hdone _ _ (Nat.le_refl _) (stH N _ _ (LoopOnly.put hl (by omega) _) hi) ((World.putObj_heap_other (by omega)).trans hk)⟩
end Go.Proofs.YtibelcmdfkgonaaGreat

namespace Go.Proofs.YtibelcmdfkgonaaGreat
open Go.RowKit Go.BigFrame
set_option linter.unusedVariables false
set_option linter.unusedSimpArgs false
/-- What is yielded. -/
def headsArg : Nat → Array Value
  | 0 => #[.int .i64 32, .bool false]
  | k + 1 => #[.int .i64 (40 + (k : Int)), .bool true]
set_option maxRecDepth 100000 in
theorem iter132 (y b bu : Nat) (v : Lv) (hbu : (bu : Int) = v.bu) (hbu1 : bu ≤ 64) (J : Nat → World → Prop) (stB : ∀ k W W', Below W.heap.size W W' → J k W → J k W')
    (hJ : ∀ k W, J k W → W.cell? ⟨b, 0, none⟩ = some (.pointer (some ⟨y, 0, none⟩)) ∧ LayAt W y v) (l : Nat) (R : World → Prop) (hR : ∀ W W', StaysL W W' → R W → R W')
    (hY : ∀ k W, k < bu + 1 → J k W → R W → YieldAt Fence.wide 7 Tryz.prog l (headsArg k) W fun e W' => e = .returned (.bool true) ∧ J (k + 1) W' ∧ R W') (W : World) (h0 : J 0 W) (r0 : R W) :
    CallsIn Fence.wide 8 Tryz.prog 132 #[.func (.yield l) #[] #[], .pointer (some ⟨b, 0, none⟩)] W fun e W' => (∃ v, e = .returned v) ∧ J (bu + 1) W' ∧ R W' := by
  have HJ := Lib.hid hJ
  have HY := Lib.hid hY
  have HB : Hid (∀ k W W', Below W.heap.size W W' → J k W → R W → J k W' ∧ R W') := Lib.hid fun k W W' hb h1 h2 => ⟨stB k W W' hb h1, hR W W' (staysL_below hb) h2⟩
  have HSET := Lib.hid fun w => set133 y w
  have HCON := Lib.hid fun w h => config70 y v w h
  have HBUC : Hid (∀ k : Nat, k < bu → ∀ w, LayAt w y v → Calls Tryz.prog 134 #[.pointer (some ⟨y, 0, none⟩), .int .i64 (k : Int)] w (Gives (.int .i64 (40 + (k : Int))) w)) := Lib.hid fun k hk w h => by
    have := bucket134 y v (k : Int) w h
    unfold Lv.bucket hasB at this
    rw [if_pos (by simp; omega)] at this; exact this
  have HBU := Lib.hid hbu
  have hfl := fun (a b c d : Value) (w : World) => fld23_3 a b c d w
  obtain ⟨fn, tmps, assign, body, hy, hR0⟩ := hY 0 W (by omega) h0 r0
  have HR0 := Lib.hid hR0
  have q := (hJ 0 W h0).1
  obtain ⟨th, sl, lo', vb, pt, pl, ls, ps, ln⟩ := v
  simp only at *
  obtain rfl : vb = (bu : Int) := hbu.symm
  clear hJ hY h0 r0 hR stB hbu hR0
  refine callsIn_of_wp Tryz.func132 rfl trivial ?_ rfl
  simp only [Tryz.ntmps132, List.size_toArray, List.length_cons, List.length_nil, Nat.reduceAdd, Nat.reduceSub, Array.replicate_succ, Array.replicate_zero, List.push_toArray, List.append_toArray, List.nil_append, List.cons_append]
  unfold headsArg at hy
  gi_wp2_with (first | (refine ⟨trivial, ?_⟩; gi_at_call 133; refine (callsIn_wide.2 (HSET.out _)).mono ?_; rintro e w' ⟨rfl, rfl⟩))
  refine HR0.out.mono ?_
  rintro e W1 ⟨rfl, hj, hr⟩
  have H1 := Lib.hid (And.intro hj hr)
  have q1 := (HJ.out 1 W1 hj).1
  have HL1 := Lib.hid (HJ.out 1 W1 hj).2
  clear hj hr hy q HR0
  gi_wp2_with (first | (refine ⟨trivial, ?_⟩; gi_at_call 70; refine (callsIn_wide.2 (HCON.out _ HL1.out)).mono ?_; rintro e w2 ⟨rfl, hb⟩; have H2 := Lib.hid (HB.out 1 W1 w2 hb H1.out.1 H1.out.2); clear hb q1))
  gi_loopw [16] (fun i wr => ∃ k : Nat, k ≤ bu ∧ i = .int .i64 k ∧ Hid (J (k + 1) wr ∧ R wr)) (fun i _ => bu - (intOf i).toNat)
  case atStart => exact ⟨0, Nat.zero_le _, rfl, H2⟩
  case round =>
    obtain ⟨k, hk, rfl, HK⟩ := hrel
    by_cases hlt : k < bu
    · have d1 : decide ((k : Int) < (bu : Int)) = true := bool_yes (by omega)
      have d2 : decide (k < bu) = true := bool_yes hlt
      have HLT := Lib.hid hlt
      have qk := (HJ.out (k + 1) wr HK.out.1).1
      have HLk := Lib.hid (HJ.out (k + 1) wr HK.out.1).2
      gi_wp2_with (first | (refine ⟨trivial, ?_⟩; gi_at_call 134; refine (callsIn_wide.2 (HBUC.out k HLT.out _ HLk.out)).mono ?_; rintro e w3 ⟨rfl, hb⟩; have H3 := Lib.hid (HB.out (k + 1) wr w3 hb HK.out.1 HK.out.2); obtain ⟨fn3, tmps3, assign3, body3, hy3, hR3⟩ := HY.out (k + 1) w3 (by have := HLT.out; omega) H3.out.1 H3.out.2; have HR3 := Lib.hid hR3; unfold headsArg at hy3; clear hb qk hR3))
      refine HR3.out.mono ?_
      rintro e W4 ⟨rfl, hj, hr⟩
      have H4 := Lib.hid (And.intro hj hr)
      clear hj hr hy3 HR3
      gi_wp2
      go_roundw
      case rel => exact ⟨k + 1, by omega, by go_num, H4⟩
      case measure => simp [intOf]; omega
    · obtain rfl : k = bu := by omega
      have d1 : decide ((k : Int) < (k : Int)) = false := by simp
      gi_wp2
      go_end0
      exact ⟨⟨_, rfl⟩, HK.out.1, HK.out.2⟩
end Go.Proofs.YtibelcmdfkgonaaGreat
