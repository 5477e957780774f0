/- The document's memory: an access, plain.
   The document's memory: an access, walked.
   The document's memory: an access that puts a word, walked.
   The document's memory: flush and fence as accesses, walked. -/
import Derived.Test.YtpmjcinemabamaaK4
import Derived.Test.YtpmjcinemabamaaK2
namespace Go.Proofs.Ytpmjcinemabamaa
open Go.RowKit Go.BigFrame
set_option linter.unusedVariables false
set_option linter.unusedSimpArgs false


def Rv.note (M : Rv) (x : Acc) (is : Bool) : Rv := { M with ck := M.ck + 1, bd := if is then M.bd else M.bd + 1, la := x }
def Rv.put (M : Rv) (at_ v : Int) : Rv := if 0 ≤ at_ then { M with seen := upd M.seen at_.toNat v } else { M with pass := upd M.pass (-1 - at_).toNat v }
theorem RefAt.note {W W' : World} {M : Rv} (h : RefAt W M) (x : Acc) (is : Bool)
    (hr : W'.heap[M.m]? = some (.cells #[.pointer (some ⟨M.d, 0, none⟩), .slice (some ⟨M.pb, 0, none⟩) M.np M.c4, .int .i64 (M.ck + 1), .int .i64 (if is then M.bd else M.bd + 1), .int .i64 x.ki, .int .i64 x.th, .int .i64 x.pl, .int .u64 x.ol, .int .u64 x.ne, .bool x.dn] 46 (0, 0)))
    (hb : ∀ k, M.own k → k ≠ M.m → W'.heap[k]? = W.heap[k]?) : RefAt W' (M.note x is) := by
  have n := h.ne
  have i : ∀ k, k ∈ M.blocks → M.own k := fun k hk => Or.inl hk
  exact { h with
    row := hr
    dev := (hb _ (i _ (by simp [Rv.blocks])) (Ne.symm n.md)).trans h.dev
    kept := h.kept.keep (hb _ (i _ (by simp [Rv.blocks])) (Ne.symm n.mkb))
    seen := h.seen.keep (hb _ (i _ (by simp [Rv.blocks])) (Ne.symm n.ms))
    wr := h.wr.keep (hb _ (i _ (by simp [Rv.blocks])) (Ne.symm n.mw))
    fb := h.fb.keep (hb _ (i _ (by simp [Rv.blocks])) (Ne.symm n.mf))
    pass := h.pass.keep (hb _ (i _ (by simp [Rv.blocks])) (Ne.symm n.mp))
    fl := fun t ht => (h.fl t ht).keep (hb _ (Or.inr ⟨t, ht, rfl⟩) fun e => h.alone t ht (by rw [e]; simp [Rv.blocks]))
    ck0 := by have := h.ck0; simp only [Rv.note]; omega
    bd0 := by have := h.bd0; simp only [Rv.note]; split <;> omega
    bd1 := by have := h.bd1; simp only [Rv.note]; split <;> omega }
theorem RefAt.set_seen {W : World} {M : Rv} (h : RefAt W M) (k : Nat) (v : Int) : RefAt (W.setCell ⟨M.sb, k, none⟩ (.int .u64 v)) { M with seen := upd M.seen k v } := by
  have n := h.ne
  exact { h with
    row := (heap_set_other n.ms).trans h.row
    dev := (heap_set_other n.ds).trans h.dev
    kept := h.kept.keep (heap_set_other n.ks)
    seen := by
      have := h.seen.set k (.int .u64 v)
      simp only [upd_map]; exact this
    wr := h.wr.keep (heap_set_other (Ne.symm n.sw))
    fb := h.fb.keep (heap_set_other (Ne.symm n.sf))
    pass := h.pass.keep (heap_set_other (Ne.symm n.sp))
    fl := fun t ht => (h.fl t ht).keep (heap_set_other fun e => h.alone t ht (by rw [e]; simp [Rv.blocks])) }
theorem RefAt.set_pass {W : World} {M : Rv} (h : RefAt W M) (k : Nat) (v : Int) : RefAt (W.setCell ⟨M.pb, k, none⟩ (.int .u64 v)) { M with pass := upd M.pass k v } := by
  have n := h.ne
  exact { h with
    row := (heap_set_other n.mp).trans h.row
    dev := (heap_set_other n.dp).trans h.dev
    kept := h.kept.keep (heap_set_other n.kp)
    seen := h.seen.keep (heap_set_other n.sp)
    wr := h.wr.keep (heap_set_other n.wp)
    fb := h.fb.keep (heap_set_other n.fp)
    pass := by
      have := h.pass.set k (.int .u64 v)
      simp only [upd_map]; exact this
    fl := fun t ht => (h.fl t ht).keep (heap_set_other fun e => h.alone t ht (by rw [e]; simp [Rv.blocks])) }
/-- Cells of one block put, one behind the other. -/
def puts (w : World) (b : Nat) : List (Nat × Value) → World
  | [] => w
  | (j, v) :: l => puts (w.setCell ⟨b, j, none⟩ v) b l
theorem puts_other {b g : Nat} (h : g ≠ b) : ∀ (l : List (Nat × Value)) (w : World), (puts w b l).heap[g]? = w.heap[g]?
  | [], _ => rfl
  | (j, v) :: l, w => by rw [puts, puts_other h l, heap_set_other h]
theorem puts_turn {F : Nat → Prop} {a : World} {b : Nat} (hb : b < a.heap.size → F b) : ∀ (l : List (Nat × Value)) (w : World), Turn F a w → Turn F a (puts w b l)
  | [], _, h => h
  | (j, v) :: l, w, h => puts_turn hb l _ (h.set hb j v)
def lastL (x : Acc) : List (Nat × Value) := [(4, .int .i64 x.ki), (5, .int .i64 x.th), (6, .int .i64 x.pl), (7, .int .u64 x.ol), (8, .int .u64 x.ne), (9, .bool x.dn)]
def resL (x : Acc) : List (Nat × Value) := [(0, .int .i64 x.ki), (1, .int .i64 x.th), (2, .int .i64 x.pl), (3, .int .u64 x.ol), (4, .int .u64 x.ne), (5, .bool x.dn)]
/-- What noting an access puts. -/
def noteW (w : World) (m b : Nat) (ck bd : Int) (x : Acc) (is : Bool) : World :=
  puts (puts w m ((2, .int .i64 (ck + 1)) :: (if is then [] else [(3, .int .i64 (bd + 1))]) ++ lastL x)) b (resL x)
theorem noteW_row {w : World} {M : Rv} (h : RefAt w M) (b : Nat) (hb : b ≠ M.m) (x : Acc) (is : Bool) :
    (noteW w M.m b M.ck M.bd x is).heap[M.m]? = some (.cells #[.pointer (some ⟨M.d, 0, none⟩), .slice (some ⟨M.pb, 0, none⟩) M.np M.c4, .int .i64 (M.ck + 1), .int .i64 (if is then M.bd else M.bd + 1), .int .i64 x.ki, .int .i64 x.th, .int .i64 x.pl, .int .u64 x.ol, .int .u64 x.ne, .bool x.dn] 46 (0, 0)) := by
  unfold noteW
  rw [puts_other (Ne.symm hb)]
  cases is with
  | true =>
    show (puts w M.m [(2, .int .i64 (M.ck + 1)), (4, .int .i64 x.ki), (5, .int .i64 x.th), (6, .int .i64 x.pl), (7, .int .u64 x.ol), (8, .int .u64 x.ne), (9, .bool x.dn)]).heap[M.m]? = _
    simp only [puts]
    have h2 := heap_set (j := 2) (.int .i64 (M.ck + 1)) h.row
    have h4 := heap_set (j := 4) (.int .i64 x.ki) h2
    have h5 := heap_set (j := 5) (.int .i64 x.th) h4
    have h6 := heap_set (j := 6) (.int .i64 x.pl) h5
    have h7 := heap_set (j := 7) (.int .u64 x.ol) h6
    have h8 := heap_set (j := 8) (.int .u64 x.ne) h7
    have h9 := heap_set (j := 9) (.bool x.dn) h8
    rw [h9]
    simp only [List.setIfInBounds_toArray, List.set_cons_succ, List.set_cons_zero]
    rfl
  | false =>
    show (puts w M.m [(2, .int .i64 (M.ck + 1)), (3, .int .i64 (M.bd + 1)), (4, .int .i64 x.ki), (5, .int .i64 x.th), (6, .int .i64 x.pl), (7, .int .u64 x.ol), (8, .int .u64 x.ne), (9, .bool x.dn)]).heap[M.m]? = _
    simp only [puts]
    have h2 := heap_set (j := 2) (.int .i64 (M.ck + 1)) h.row
    have h3 := heap_set (j := 3) (.int .i64 (M.bd + 1)) h2
    have h4 := heap_set (j := 4) (.int .i64 x.ki) h3
    have h5 := heap_set (j := 5) (.int .i64 x.th) h4
    have h6 := heap_set (j := 6) (.int .i64 x.pl) h5
    have h7 := heap_set (j := 7) (.int .u64 x.ol) h6
    have h8 := heap_set (j := 8) (.int .u64 x.ne) h7
    have h9 := heap_set (j := 9) (.bool x.dn) h8
    rw [h9]
    simp only [List.setIfInBounds_toArray, List.set_cons_succ, List.set_cons_zero]
    rfl
theorem noteW_res {w : World} {m b : Nat} {k0 k1 k2 k3 k4 k5 : Value} {t : TypeId} (hb : b ≠ m) (h : w.heap[b]? = some (.cells #[k0, k1, k2, k3, k4, k5] t (0, 0))) (ck bd : Int) (x : Acc) (is : Bool) : (noteW w m b ck bd x is).heap[b]? = some (.cells x.cells t (0, 0)) := by
  have h0 : (puts w m ((2, .int .i64 (ck + 1)) :: (if is then [] else [(3, .int .i64 (bd + 1))]) ++ lastL x)).heap[b]? = some (.cells #[k0, k1, k2, k3, k4, k5] t (0, 0)) := by rw [puts_other hb]; exact h
  unfold noteW
  generalize puts w m ((2, .int .i64 (ck + 1)) :: (if is then [] else [(3, .int .i64 (bd + 1))]) ++ lastL x) = w1 at *
  simp only [resL, puts]
  rw [six_row h0]
  rfl
/-- An access is noted, and handed back. -/
theorem noteW_done {W w : World} {M R : Rv} {b : Nat} (hR : RefAt w R) (hT : Turn M.own W w) (hm : M.m = R.m) (ho : R.own = M.own) (hb : W.heap.size ≤ b) (hM : RefAt W M) (x : Acc) (is : Bool) :
    RefAt (noteW w R.m b R.ck R.bd x is) (R.note x is) ∧ Turn M.own W (noteW w R.m b R.ck R.bd x is) := by
  have hmo : M.own R.m := by rw [← hm]; exact Or.inl (by simp [Rv.blocks])
  have hbm : b ≠ R.m := fun e => by have := hM.lt hmo; omega
  refine ⟨hR.note x is (noteW_row hR b hbm x is) fun k hk e => ?_, ?_⟩
  · have : k ≠ b := fun e' => by rw [ho] at hk; have := hM.lt hk; omega
    unfold noteW
    rw [puts_other this, puts_other e]
  · unfold noteW
    exact puts_turn (fun e => by omega) _ _ (puts_turn (fun _ => hmo) _ _ hT)
def Rv.res (M : Rv) (x : Acc) (pu : Bool) : Acc := if (M.peek x.pl).2 then ⟨x.ki, x.th, x.pl, (M.peek x.pl).1, x.ne, pu || x.ki == 1⟩ else x
def Rv.did (M : Rv) (x : Acc) (nw : Int) (pu : Bool) : Rv := (if (M.peek x.pl).2 && pu then M.put x.pl nw else M).note (M.res x pu) (M.peek x.pl).2
def Rv.load (M : Rv) (t at_ : Int) : Rv := M.did ⟨1, t, at_, 0, 0, false⟩ 0 false
def Rv.store (M : Rv) (t at_ w : Int) : Rv := M.did ⟨2, t, at_, 0, w, false⟩ w true
def Rv.swap (M : Rv) (t at_ old w : Int) : Rv := M.did ⟨3, t, at_, 0, w, false⟩ w ((M.peek at_).1 == old)
def Rv.flushM (M : Rv) (t at_ : Int) : Rv :=
  if 0 ≤ at_ ∧ M.flushE t (at_ / 8) = 0 then (M.flushed t (at_ / 8)).note ⟨4, t, at_, 0, 0, true⟩ true else M.note ⟨4, t, at_, 0, 0, false⟩ false
def Rv.fenceM (M : Rv) (t : Int) : Rv := if threadE M.nt t = 0 then (M.fenced t.toNat).note ⟨5, t, 0, 0, 0, true⟩ true else M.note ⟨5, t, 0, 0, 0, false⟩ false
/-- It answers an access; the document's memory is as told; nothing else has turned. -/
def RAcc (M M' : Rv) (W : World) (e : Ending) (W' : World) : Prop := e = .returned (.agg M'.la.cells) ∧ RefAt W' M' ∧ Turn M.own W W'
end Go.Proofs.Ytpmjcinemabamaa

namespace Go.Proofs.Ytpmjcinemabamaa
open Go.RowKit Go.BigFrame
set_option linter.unusedVariables false
set_option linter.unusedSimpArgs false

theorem refPeekH (M : Rv) (at_ : Int) (q0 : -9223372036854775808 ≤ at_) (q1 : at_ ≤ 9223372036854775807) (o : Int) (is : Bool) (ho : M.peek at_ = (o, is)) : ∀ w, RefAt w M → Calls Try.prog 43 #[.pointer (some ⟨M.m, 0, none⟩), .int .i64 at_] w (Tells (.tuple #[.int .u64 o, .bool is]) w) := fun w hw => by
  have := refPeek43 M at_ q0 q1 w hw; rw [ho] at this; exact this

set_option maxRecDepth 100000 in
set_option maxHeartbeats 1000000 in
theorem refLoad_true (M : Rv) (t at_ old w : Int) (q0 : -9223372036854775808 ≤ at_) (q1 : at_ ≤ 9223372036854775807) (W : World) (h : RefAt W M) (hc : M.ck ≤ 1000000) (o : Int) (hp : M.peek at_ = (o, true)) :
    Calls Try.prog 26 #[.pointer (some ⟨M.m, 0, none⟩), .int .i64 1, .int .i64 t, .int .i64 at_, .int .u64 old, .int .u64 w] W (RAcc M (M.note ⟨1, t, at_, o, 0, true⟩ true) W) := by
  have HP := Lib.hid (refPeekH M at_ q0 q1 o true hp)
  have HM := Lib.hid h
  have hlt := h.lt (k := M.m) (Or.inl (by simp [Rv.blocks]))
  have n1 : W.heap.size ≠ M.m := by omega
  have n2 : W.heap.size + 1 ≠ M.m := by omega
  have n3 : M.m ≠ W.heap.size := by omega
  have n4 : M.m ≠ W.heap.size + 1 := by omega
  have b0 := h.ck0
  have b1 := h.bd0
  have b2 := h.bd1
  clear h hp hlt
  go_enter Try.func26, Try.ntmps26
  go_wp2_with fail
  with_reducible refine (HP.out _ (HM.out.below (((Below.refl _ _).alloc (Nat.le_refl _) _).alloc (by simp) _))).mono ?_
  rintro e w2 ⟨rfl, hb, hh⟩
  obtain ⟨rz, ra⟩ := two_news hh
  have HB : Hid (Below W.heap.size W w2) := Lib.hid ((((Below.refl _ _).alloc (Nat.le_refl _) _).alloc (by simp) _).trans (hb.mono (by simp; omega)))
  have HS : Hid (W.heap.size + 1 < w2.heap.size) := Lib.hid (by rw [hh]; simp)
  have HM2 := Lib.hid (HM.out.below HB.out)
  obtain ⟨a0, a1, a2, a3, a4, a5, af⟩ := row6 ra
  obtain ⟨z0, z1, z2, z3, z4, z5, zf⟩ := row6 rz
  obtain ⟨m0, m1, m2, m3, m4, m5, m6, m7, m8, m9, mf⟩ := row10 HM2.out.row
  have HZ := Lib.hid rz
  clear hb hh ra rz m0 m1
  go_wp2_with fail
  have hA : ∀ k, M.own k → k ≠ W.heap.size + 1 := fun k hk e => HM.out.not_own (by omega) (e ▸ hk)
  have hR : RefAt ((w2.setCell ⟨W.heap.size + 1, 3, none⟩ (.int .u64 o)).setCell ⟨W.heap.size + 1, 5, none⟩ (.bool true)) M := HM2.out.keep fun k hk => by rw [heap_set_other (hA k hk), heap_set_other (hA k hk)]
  have hT : Turn M.own W ((w2.setCell ⟨W.heap.size + 1, 3, none⟩ (.int .u64 o)).setCell ⟨W.heap.size + 1, 5, none⟩ (.bool true)) := ((Turn.of_below HB.out).set (fun e => absurd e (by omega)) _ _).set (fun e => absurd e (by omega)) _ _
  have hZ := (heap_set_other (j := 5) (v := .bool true) (show W.heap.size ≠ W.heap.size + 1 by omega)).trans ((heap_set_other (j := 3) (v := .int .u64 o) (show W.heap.size ≠ W.heap.size + 1 by omega)).trans HZ.out)
  obtain ⟨f1, f2⟩ := noteW_done hR hT rfl rfl (Nat.le_refl W.heap.size) HM.out ⟨1, t, at_, o, 0, true⟩ true
  refine bodyPost_ret (v := .agg (Acc.cells ⟨1, t, at_, o, 0, true⟩)) ?_ rfl ?_
  · exact results_acc rfl rfl (noteW_res n1 hZ M.ck M.bd ⟨1, t, at_, o, 0, true⟩ true)
  · exact ⟨rfl, f1, f2⟩

set_option maxRecDepth 100000 in
set_option maxHeartbeats 1000000 in
theorem refLoad_false (M : Rv) (t at_ old w : Int) (q0 : -9223372036854775808 ≤ at_) (q1 : at_ ≤ 9223372036854775807) (W : World) (h : RefAt W M) (hc : M.ck ≤ 1000000) (o : Int) (hp : M.peek at_ = (o, false)) :
    Calls Try.prog 26 #[.pointer (some ⟨M.m, 0, none⟩), .int .i64 1, .int .i64 t, .int .i64 at_, .int .u64 old, .int .u64 w] W (RAcc M (M.note ⟨1, t, at_, o, 0, false⟩ false) W) := by
  have HP := Lib.hid (refPeekH M at_ q0 q1 o false hp)
  have HM := Lib.hid h
  have hlt := h.lt (k := M.m) (Or.inl (by simp [Rv.blocks]))
  have n1 : W.heap.size ≠ M.m := by omega
  have n2 : W.heap.size + 1 ≠ M.m := by omega
  have n3 : M.m ≠ W.heap.size := by omega
  have n4 : M.m ≠ W.heap.size + 1 := by omega
  have b0 := h.ck0
  have b1 := h.bd0
  have b2 := h.bd1
  clear h hp hlt
  go_enter Try.func26, Try.ntmps26
  go_wp2_with fail
  with_reducible refine (HP.out _ (HM.out.below (((Below.refl _ _).alloc (Nat.le_refl _) _).alloc (by simp) _))).mono ?_
  rintro e w2 ⟨rfl, hb, hh⟩
  obtain ⟨rz, ra⟩ := two_news hh
  have HB : Hid (Below W.heap.size W w2) := Lib.hid ((((Below.refl _ _).alloc (Nat.le_refl _) _).alloc (by simp) _).trans (hb.mono (by simp; omega)))
  have HS : Hid (W.heap.size + 1 < w2.heap.size) := Lib.hid (by rw [hh]; simp)
  have HM2 := Lib.hid (HM.out.below HB.out)
  obtain ⟨a0, a1, a2, a3, a4, a5, af⟩ := row6 ra
  obtain ⟨z0, z1, z2, z3, z4, z5, zf⟩ := row6 rz
  obtain ⟨m0, m1, m2, m3, m4, m5, m6, m7, m8, m9, mf⟩ := row10 HM2.out.row
  have HZ := Lib.hid rz
  clear hb hh ra rz m0 m1
  go_wp2_with fail
  have hA : ∀ k, M.own k → k ≠ W.heap.size + 1 := fun k hk e => HM.out.not_own (by omega) (e ▸ hk)
  have hR : RefAt ((w2.setCell ⟨W.heap.size + 1, 3, none⟩ (.int .u64 o)).setCell ⟨W.heap.size + 1, 5, none⟩ (.bool false)) M := HM2.out.keep fun k hk => by rw [heap_set_other (hA k hk), heap_set_other (hA k hk)]
  have hT : Turn M.own W ((w2.setCell ⟨W.heap.size + 1, 3, none⟩ (.int .u64 o)).setCell ⟨W.heap.size + 1, 5, none⟩ (.bool false)) := ((Turn.of_below HB.out).set (fun e => absurd e (by omega)) _ _).set (fun e => absurd e (by omega)) _ _
  have hZ := (heap_set_other (j := 5) (v := .bool false) (show W.heap.size ≠ W.heap.size + 1 by omega)).trans ((heap_set_other (j := 3) (v := .int .u64 o) (show W.heap.size ≠ W.heap.size + 1 by omega)).trans HZ.out)
  obtain ⟨f1, f2⟩ := noteW_done hR hT rfl rfl (Nat.le_refl W.heap.size) HM.out ⟨1, t, at_, o, 0, false⟩ false
  refine bodyPost_ret (v := .agg (Acc.cells ⟨1, t, at_, o, 0, false⟩)) ?_ rfl ?_
  · exact results_acc rfl rfl (noteW_res n1 hZ M.ck M.bd ⟨1, t, at_, o, 0, false⟩ false)
  · exact ⟨rfl, f1, f2⟩

set_option maxRecDepth 100000 in
set_option maxHeartbeats 1000000 in
theorem refStore_bad (M : Rv) (t at_ old w : Int) (q0 : -9223372036854775808 ≤ at_) (q1 : at_ ≤ 9223372036854775807) (W : World) (h : RefAt W M) (hc : M.ck ≤ 1000000) (o : Int) (hp : M.peek at_ = (o, false)) :
    Calls Try.prog 26 #[.pointer (some ⟨M.m, 0, none⟩), .int .i64 2, .int .i64 t, .int .i64 at_, .int .u64 old, .int .u64 w] W (RAcc M (M.note ⟨2, t, at_, o, w, false⟩ false) W) := by
  have HP := Lib.hid (refPeekH M at_ q0 q1 o false hp)
  have HM := Lib.hid h
  have hlt := h.lt (k := M.m) (Or.inl (by simp [Rv.blocks]))
  have n1 : W.heap.size ≠ M.m := by omega
  have n2 : W.heap.size + 1 ≠ M.m := by omega
  have n3 : M.m ≠ W.heap.size := by omega
  have n4 : M.m ≠ W.heap.size + 1 := by omega
  have b0 := h.ck0
  have b1 := h.bd0
  have b2 := h.bd1
  have HO : Hid (∀ k, M.own k → M.own k) := Lib.hid fun _ h => h
  clear h hp hlt
  go_enter Try.func26, Try.ntmps26
  go_wp2_with fail
  with_reducible refine (HP.out _ (HM.out.below (((Below.refl _ _).alloc (Nat.le_refl _) _).alloc (by simp) _))).mono ?_
  rintro e w2 ⟨rfl, hb, hh⟩
  obtain ⟨rz, ra⟩ := two_news hh
  have HB : Hid (Below W.heap.size W w2) := Lib.hid ((((Below.refl _ _).alloc (Nat.le_refl _) _).alloc (by simp) _).trans (hb.mono (by simp; omega)))
  have HS : Hid (W.heap.size + 1 < w2.heap.size) := Lib.hid (by rw [hh]; simp)
  have HM2 := Lib.hid (HM.out.below HB.out)
  obtain ⟨a0, a1, a2, a3, a4, a5, af⟩ := row6 ra
  obtain ⟨z0, z1, z2, z3, z4, z5, zf⟩ := row6 rz
  obtain ⟨m0, m1, m2, m3, m4, m5, m6, m7, m8, m9, mf⟩ := row10 HM2.out.row
  have HZ := Lib.hid rz
  clear hb hh ra rz m0 m1
  go_wp2_with fail
  have hA : ∀ k, Rv.own M k → k ≠ W.heap.size + 1 := fun k hk e => HM.out.not_own (by omega) (e ▸ (HO.out k hk))
  have hR1 : RefAt (((w2.setCell ⟨W.heap.size + 1, 3, none⟩ (.int .u64 o)).setCell ⟨W.heap.size + 1, 5, none⟩ (.bool false)).setCell ⟨W.heap.size + 1, 4, none⟩ (.int .u64 w)) M := HM2.out.keep fun k hk => by rw [heap_set_other (hA k hk), heap_set_other (hA k hk), heap_set_other (hA k hk)]
  have hT1 : Turn M.own W (((w2.setCell ⟨W.heap.size + 1, 3, none⟩ (.int .u64 o)).setCell ⟨W.heap.size + 1, 5, none⟩ (.bool false)).setCell ⟨W.heap.size + 1, 4, none⟩ (.int .u64 w)) := ((((Turn.of_below HB.out).set (fun e => absurd e (by omega)) _ _).set (fun e => absurd e (by omega)) _ _).set (fun e => absurd e (by omega)) _ _)
  have hZ1 := ((heap_set_other (j := 4) (v := .int .u64 w) (show W.heap.size ≠ W.heap.size + 1 by omega)).trans ((heap_set_other (j := 5) (v := .bool false) (show W.heap.size ≠ W.heap.size + 1 by omega)).trans ((heap_set_other (j := 3) (v := .int .u64 o) (show W.heap.size ≠ W.heap.size + 1 by omega)).trans HZ.out)))
  obtain ⟨f1, f2⟩ := noteW_done hR1 hT1 rfl rfl (Nat.le_refl W.heap.size) HM.out ⟨2, t, at_, o, w, false⟩ false
  refine bodyPost_ret (v := .agg (Acc.cells ⟨2, t, at_, o, w, false⟩)) ?_ rfl ?_
  · exact results_acc rfl rfl (noteW_res n1 hZ1 M.ck M.bd ⟨2, t, at_, o, w, false⟩ false)
  · exact ⟨rfl, f1, f2⟩

set_option maxRecDepth 100000 in
set_option maxHeartbeats 1000000 in
theorem refSwap_bad (M : Rv) (t at_ old w : Int) (q0 : -9223372036854775808 ≤ at_) (q1 : at_ ≤ 9223372036854775807) (W : World) (h : RefAt W M) (hc : M.ck ≤ 1000000) (o : Int) (hp : M.peek at_ = (o, false)) :
    Calls Try.prog 26 #[.pointer (some ⟨M.m, 0, none⟩), .int .i64 3, .int .i64 t, .int .i64 at_, .int .u64 old, .int .u64 w] W (RAcc M (M.note ⟨3, t, at_, o, w, false⟩ false) W) := by
  have HP := Lib.hid (refPeekH M at_ q0 q1 o false hp)
  have HM := Lib.hid h
  have hlt := h.lt (k := M.m) (Or.inl (by simp [Rv.blocks]))
  have n1 : W.heap.size ≠ M.m := by omega
  have n2 : W.heap.size + 1 ≠ M.m := by omega
  have n3 : M.m ≠ W.heap.size := by omega
  have n4 : M.m ≠ W.heap.size + 1 := by omega
  have b0 := h.ck0
  have b1 := h.bd0
  have b2 := h.bd1
  have HO : Hid (∀ k, M.own k → M.own k) := Lib.hid fun _ h => h
  clear h hp hlt
  go_enter Try.func26, Try.ntmps26
  go_wp2_with fail
  with_reducible refine (HP.out _ (HM.out.below (((Below.refl _ _).alloc (Nat.le_refl _) _).alloc (by simp) _))).mono ?_
  rintro e w2 ⟨rfl, hb, hh⟩
  obtain ⟨rz, ra⟩ := two_news hh
  have HB : Hid (Below W.heap.size W w2) := Lib.hid ((((Below.refl _ _).alloc (Nat.le_refl _) _).alloc (by simp) _).trans (hb.mono (by simp; omega)))
  have HS : Hid (W.heap.size + 1 < w2.heap.size) := Lib.hid (by rw [hh]; simp)
  have HM2 := Lib.hid (HM.out.below HB.out)
  obtain ⟨a0, a1, a2, a3, a4, a5, af⟩ := row6 ra
  obtain ⟨z0, z1, z2, z3, z4, z5, zf⟩ := row6 rz
  obtain ⟨m0, m1, m2, m3, m4, m5, m6, m7, m8, m9, mf⟩ := row10 HM2.out.row
  have HZ := Lib.hid rz
  clear hb hh ra rz m0 m1
  go_wp2_with fail
  have hA : ∀ k, Rv.own M k → k ≠ W.heap.size + 1 := fun k hk e => HM.out.not_own (by omega) (e ▸ (HO.out k hk))
  have hR1 : RefAt (((w2.setCell ⟨W.heap.size + 1, 3, none⟩ (.int .u64 o)).setCell ⟨W.heap.size + 1, 5, none⟩ (.bool false)).setCell ⟨W.heap.size + 1, 4, none⟩ (.int .u64 w)) M := HM2.out.keep fun k hk => by rw [heap_set_other (hA k hk), heap_set_other (hA k hk), heap_set_other (hA k hk)]
  have hT1 : Turn M.own W (((w2.setCell ⟨W.heap.size + 1, 3, none⟩ (.int .u64 o)).setCell ⟨W.heap.size + 1, 5, none⟩ (.bool false)).setCell ⟨W.heap.size + 1, 4, none⟩ (.int .u64 w)) := ((((Turn.of_below HB.out).set (fun e => absurd e (by omega)) _ _).set (fun e => absurd e (by omega)) _ _).set (fun e => absurd e (by omega)) _ _)
  have hZ1 := ((heap_set_other (j := 4) (v := .int .u64 w) (show W.heap.size ≠ W.heap.size + 1 by omega)).trans ((heap_set_other (j := 5) (v := .bool false) (show W.heap.size ≠ W.heap.size + 1 by omega)).trans ((heap_set_other (j := 3) (v := .int .u64 o) (show W.heap.size ≠ W.heap.size + 1 by omega)).trans HZ.out)))
  obtain ⟨f1, f2⟩ := noteW_done hR1 hT1 rfl rfl (Nat.le_refl W.heap.size) HM.out ⟨3, t, at_, o, w, false⟩ false
  refine bodyPost_ret (v := .agg (Acc.cells ⟨3, t, at_, o, w, false⟩)) ?_ rfl ?_
  · exact results_acc rfl rfl (noteW_res n1 hZ1 M.ck M.bd ⟨3, t, at_, o, w, false⟩ false)
  · exact ⟨rfl, f1, f2⟩

set_option maxRecDepth 100000 in
set_option maxHeartbeats 1000000 in
theorem refSwap_no (M : Rv) (t at_ old w : Int) (q0 : -9223372036854775808 ≤ at_) (q1 : at_ ≤ 9223372036854775807) (W : World) (h : RefAt W M) (hc : M.ck ≤ 1000000) (o : Int) (hp : M.peek at_ = (o, true)) (hne : (o == old) = false) :
    Calls Try.prog 26 #[.pointer (some ⟨M.m, 0, none⟩), .int .i64 3, .int .i64 t, .int .i64 at_, .int .u64 old, .int .u64 w] W (RAcc M (M.note ⟨3, t, at_, o, w, false⟩ true) W) := by
  have HP := Lib.hid (refPeekH M at_ q0 q1 o true hp)
  have HM := Lib.hid h
  have hlt := h.lt (k := M.m) (Or.inl (by simp [Rv.blocks]))
  have n1 : W.heap.size ≠ M.m := by omega
  have n2 : W.heap.size + 1 ≠ M.m := by omega
  have n3 : M.m ≠ W.heap.size := by omega
  have n4 : M.m ≠ W.heap.size + 1 := by omega
  have b0 := h.ck0
  have b1 := h.bd0
  have b2 := h.bd1
  have HO : Hid (∀ k, M.own k → M.own k) := Lib.hid fun _ h => h
  clear h hp hlt
  go_enter Try.func26, Try.ntmps26
  go_wp2_with fail
  with_reducible refine (HP.out _ (HM.out.below (((Below.refl _ _).alloc (Nat.le_refl _) _).alloc (by simp) _))).mono ?_
  rintro e w2 ⟨rfl, hb, hh⟩
  obtain ⟨rz, ra⟩ := two_news hh
  have HB : Hid (Below W.heap.size W w2) := Lib.hid ((((Below.refl _ _).alloc (Nat.le_refl _) _).alloc (by simp) _).trans (hb.mono (by simp; omega)))
  have HS : Hid (W.heap.size + 1 < w2.heap.size) := Lib.hid (by rw [hh]; simp)
  have HM2 := Lib.hid (HM.out.below HB.out)
  obtain ⟨a0, a1, a2, a3, a4, a5, af⟩ := row6 ra
  obtain ⟨z0, z1, z2, z3, z4, z5, zf⟩ := row6 rz
  obtain ⟨m0, m1, m2, m3, m4, m5, m6, m7, m8, m9, mf⟩ := row10 HM2.out.row
  have HZ := Lib.hid rz
  clear hb hh ra rz m0 m1
  go_wp2_with fail
  have hA : ∀ k, Rv.own M k → k ≠ W.heap.size + 1 := fun k hk e => HM.out.not_own (by omega) (e ▸ (HO.out k hk))
  have hR1 : RefAt (((w2.setCell ⟨W.heap.size + 1, 3, none⟩ (.int .u64 o)).setCell ⟨W.heap.size + 1, 5, none⟩ (.bool false)).setCell ⟨W.heap.size + 1, 4, none⟩ (.int .u64 w)) M := HM2.out.keep fun k hk => by rw [heap_set_other (hA k hk), heap_set_other (hA k hk), heap_set_other (hA k hk)]
  have hT1 : Turn M.own W (((w2.setCell ⟨W.heap.size + 1, 3, none⟩ (.int .u64 o)).setCell ⟨W.heap.size + 1, 5, none⟩ (.bool false)).setCell ⟨W.heap.size + 1, 4, none⟩ (.int .u64 w)) := ((((Turn.of_below HB.out).set (fun e => absurd e (by omega)) _ _).set (fun e => absurd e (by omega)) _ _).set (fun e => absurd e (by omega)) _ _)
  have hZ1 := ((heap_set_other (j := 4) (v := .int .u64 w) (show W.heap.size ≠ W.heap.size + 1 by omega)).trans ((heap_set_other (j := 5) (v := .bool false) (show W.heap.size ≠ W.heap.size + 1 by omega)).trans ((heap_set_other (j := 3) (v := .int .u64 o) (show W.heap.size ≠ W.heap.size + 1 by omega)).trans HZ.out)))
  obtain ⟨f1, f2⟩ := noteW_done hR1 hT1 rfl rfl (Nat.le_refl W.heap.size) HM.out ⟨3, t, at_, o, w, false⟩ true
  refine bodyPost_ret (v := .agg (Acc.cells ⟨3, t, at_, o, w, false⟩)) ?_ rfl ?_
  · exact results_acc rfl rfl (noteW_res n1 hZ1 M.ck M.bd ⟨3, t, at_, o, w, false⟩ true)
  · exact ⟨rfl, f1, f2⟩
end Go.Proofs.Ytpmjcinemabamaa

namespace Go.Proofs.Ytpmjcinemabamaa
open Go.RowKit Go.BigFrame
set_option linter.unusedVariables false
set_option linter.unusedSimpArgs false

set_option maxRecDepth 100000 in
set_option maxHeartbeats 1000000 in
theorem refStore_seen (M : Rv) (t old w : Int) (k : Nat) (W : World) (h : RefAt W M) (hc : M.ck ≤ 1000000) (o : Int) (hp : M.peek (k : Int) = (o, true)) (hk : k < 8 * M.n) :
    Calls Try.prog 26 #[.pointer (some ⟨M.m, 0, none⟩), .int .i64 2, .int .i64 t, .int .i64 (k : Int), .int .u64 old, .int .u64 w] W (RAcc M (({ M with seen := upd M.seen k w } : Rv).note ⟨2, t, (k : Int), o, w, true⟩ true) W) := by
  have HP := Lib.hid (refPeekH M (k : Int) (by have := h.n1; have := h.p1; omega) (by have := h.n1; have := h.p1; omega) o true hp)
  have HM := Lib.hid h
  have hlt := h.lt (k := M.m) (Or.inl (by simp [Rv.blocks]))
  have n1 : W.heap.size ≠ M.m := by omega
  have n2 : W.heap.size + 1 ≠ M.m := by omega
  have n3 : M.m ≠ W.heap.size := by omega
  have n4 : M.m ≠ W.heap.size + 1 := by omega
  have b0 := h.ck0
  have b1 := h.bd0
  have b2 := h.bd1
  have HO : Hid (∀ k, M.own k → M.own k) := Lib.hid fun _ h => h
  have HK := Lib.hid hk
  have n5 : W.heap.size ≠ M.sb := fun e => by have := h.seen.lt; omega
  have n6 : W.heap.size + 1 ≠ M.sb := fun e => by have := h.seen.lt; omega
  have n7 : M.m ≠ M.sb := h.ne.ms
  have n8 : W.heap.size + 1 ≠ M.d := fun e => by have := h.lt (k := M.d) (Or.inl (by simp [Rv.blocks])); omega
  have i0 : (0 : Int) ≤ (k : Int) := by omega
  have dd : decide ((0 : Int) ≤ (k : Int)) = true := bool_yes (by omega)
  have de : decide ((k : Int) < 0) = false := bool_no (by omega)
  have hn1 := h.n1
  have hp1 := h.p1
  clear hk
  clear h hp hlt
  go_enter Try.func26, Try.ntmps26
  go_wp2_with fail
  with_reducible refine (HP.out _ (HM.out.below (((Below.refl _ _).alloc (Nat.le_refl _) _).alloc (by simp) _))).mono ?_
  rintro e w2 ⟨rfl, hb, hh⟩
  obtain ⟨rz, ra⟩ := two_news hh
  have HB : Hid (Below W.heap.size W w2) := Lib.hid ((((Below.refl _ _).alloc (Nat.le_refl _) _).alloc (by simp) _).trans (hb.mono (by simp; omega)))
  have HS : Hid (W.heap.size + 1 < w2.heap.size) := Lib.hid (by rw [hh]; simp)
  have HM2 := Lib.hid (HM.out.below HB.out)
  obtain ⟨a0, a1, a2, a3, a4, a5, af⟩ := row6 ra
  obtain ⟨z0, z1, z2, z3, z4, z5, zf⟩ := row6 rz
  obtain ⟨m0, m1, m2, m3, m4, m5, m6, m7, m8, m9, mf⟩ := row10 HM2.out.row
  have HZ := Lib.hid rz
  have y1 := (dev_cells HM2.out.dev).2.1
  have y2 := HM2.out.seen.cell HK.out
  have y3 := HM2.out.seen.free k
  have i1 : (k : Int) < ((8 * M.n : Nat) : Int) := by have := HK.out; omega
  generalize M.seen k = u at *
  obtain ⟨NN, hNN⟩ : ∃ NN, NN = 8 * M.n := ⟨_, rfl⟩
  rw [← hNN] at y1 i1
  have hN2 : NN ≤ 2097152 := by omega
  clear hb hh ra rz m1 hNN
  go_wp2_with fail
  have hA : ∀ k, Rv.own M k → k ≠ W.heap.size + 1 := fun k hk e => HM.out.not_own (by omega) (e ▸ (HO.out k hk))
  have hR1 : RefAt (((w2.setCell ⟨W.heap.size + 1, 3, none⟩ (.int .u64 o)).setCell ⟨W.heap.size + 1, 5, none⟩ (.bool true)).setCell ⟨W.heap.size + 1, 4, none⟩ (.int .u64 w)) M := HM2.out.keep fun k hk => by rw [heap_set_other (hA k hk), heap_set_other (hA k hk), heap_set_other (hA k hk)]
  have hT1 : Turn M.own W (((w2.setCell ⟨W.heap.size + 1, 3, none⟩ (.int .u64 o)).setCell ⟨W.heap.size + 1, 5, none⟩ (.bool true)).setCell ⟨W.heap.size + 1, 4, none⟩ (.int .u64 w)) := ((((Turn.of_below HB.out).set (fun e => absurd e (by omega)) _ _).set (fun e => absurd e (by omega)) _ _).set (fun e => absurd e (by omega)) _ _)
  have hZ1 := ((heap_set_other (j := 4) (v := .int .u64 w) (show W.heap.size ≠ W.heap.size + 1 by omega)).trans ((heap_set_other (j := 5) (v := .bool true) (show W.heap.size ≠ W.heap.size + 1 by omega)).trans ((heap_set_other (j := 3) (v := .int .u64 o) (show W.heap.size ≠ W.heap.size + 1 by omega)).trans HZ.out)))
  have hR2 := hR1.set_seen k w
  have hT2 := hT1.set (b := M.sb) (fun _ => Or.inl (by simp [Rv.blocks])) k (.int .u64 w)
  have hZ2 := (heap_set_other (j := k) (v := .int .u64 w) n5).trans hZ1
  obtain ⟨f1, f2⟩ := noteW_done hR2 hT2 rfl rfl (Nat.le_refl W.heap.size) HM.out ⟨2, t, (k : Int), o, w, true⟩ true
  refine bodyPost_ret (v := .agg (Acc.cells ⟨2, t, (k : Int), o, w, true⟩)) ?_ rfl ?_
  · exact results_acc rfl rfl (noteW_res n1 hZ2 M.ck M.bd ⟨2, t, (k : Int), o, w, true⟩ true)
  · exact ⟨rfl, f1, f2⟩

set_option maxRecDepth 100000 in
set_option maxHeartbeats 1000000 in
theorem refStore_pass (M : Rv) (t old w : Int) (k : Nat) (W : World) (h : RefAt W M) (hc : M.ck ≤ 1000000) (o : Int) (hp : M.peek (-1 - (k : Int)) = (o, true)) (hk : k < M.np) :
    Calls Try.prog 26 #[.pointer (some ⟨M.m, 0, none⟩), .int .i64 2, .int .i64 t, .int .i64 (-1 - (k : Int)), .int .u64 old, .int .u64 w] W (RAcc M (({ M with pass := upd M.pass k w } : Rv).note ⟨2, t, (-1 - (k : Int)), o, w, true⟩ true) W) := by
  have HP := Lib.hid (refPeekH M (-1 - (k : Int)) (by have := h.n1; have := h.p1; omega) (by have := h.n1; have := h.p1; omega) o true hp)
  have HM := Lib.hid h
  have hlt := h.lt (k := M.m) (Or.inl (by simp [Rv.blocks]))
  have n1 : W.heap.size ≠ M.m := by omega
  have n2 : W.heap.size + 1 ≠ M.m := by omega
  have n3 : M.m ≠ W.heap.size := by omega
  have n4 : M.m ≠ W.heap.size + 1 := by omega
  have b0 := h.ck0
  have b1 := h.bd0
  have b2 := h.bd1
  have HO : Hid (∀ k, M.own k → M.own k) := Lib.hid fun _ h => h
  have HK := Lib.hid hk
  have n5 : W.heap.size ≠ M.pb := fun e => by have := h.pass.lt; omega
  have n6 : W.heap.size + 1 ≠ M.pb := fun e => by have := h.pass.lt; omega
  have n7 : M.m ≠ M.pb := h.ne.mp
  have n8 : W.heap.size + 1 ≠ M.d := fun e => by have := h.lt (k := M.d) (Or.inl (by simp [Rv.blocks])); omega
  have i0 : (0 : Int) ≤ (k : Int) := by omega
  have dd : decide ((0 : Int) ≤ -1 - (k : Int)) = false := bool_no (by omega)
  have de : decide (-1 - (k : Int) < 0) = true := bool_yes (by omega)
  have df : (-1 - (-1 - (k : Int)) : Int) = (k : Int) := by omega
  have hn1 := h.n1
  have hp1 := h.p1
  clear hk
  clear h hp hlt
  go_enter Try.func26, Try.ntmps26
  go_wp2_with fail
  with_reducible refine (HP.out _ (HM.out.below (((Below.refl _ _).alloc (Nat.le_refl _) _).alloc (by simp) _))).mono ?_
  rintro e w2 ⟨rfl, hb, hh⟩
  obtain ⟨rz, ra⟩ := two_news hh
  have HB : Hid (Below W.heap.size W w2) := Lib.hid ((((Below.refl _ _).alloc (Nat.le_refl _) _).alloc (by simp) _).trans (hb.mono (by simp; omega)))
  have HS : Hid (W.heap.size + 1 < w2.heap.size) := Lib.hid (by rw [hh]; simp)
  have HM2 := Lib.hid (HM.out.below HB.out)
  obtain ⟨a0, a1, a2, a3, a4, a5, af⟩ := row6 ra
  obtain ⟨z0, z1, z2, z3, z4, z5, zf⟩ := row6 rz
  obtain ⟨m0, m1, m2, m3, m4, m5, m6, m7, m8, m9, mf⟩ := row10 HM2.out.row
  have HZ := Lib.hid rz
  have y2 := HM2.out.pass.cell HK.out
  have y3 := HM2.out.pass.free k
  have i1 : (k : Int) < (M.np : Int) := by have := HK.out; omega
  generalize M.pass k = u at *
  clear hb hh ra rz m0
  go_wp2_with fail
  have hA : ∀ k, Rv.own M k → k ≠ W.heap.size + 1 := fun k hk e => HM.out.not_own (by omega) (e ▸ (HO.out k hk))
  have hR1 : RefAt (((w2.setCell ⟨W.heap.size + 1, 3, none⟩ (.int .u64 o)).setCell ⟨W.heap.size + 1, 5, none⟩ (.bool true)).setCell ⟨W.heap.size + 1, 4, none⟩ (.int .u64 w)) M := HM2.out.keep fun k hk => by rw [heap_set_other (hA k hk), heap_set_other (hA k hk), heap_set_other (hA k hk)]
  have hT1 : Turn M.own W (((w2.setCell ⟨W.heap.size + 1, 3, none⟩ (.int .u64 o)).setCell ⟨W.heap.size + 1, 5, none⟩ (.bool true)).setCell ⟨W.heap.size + 1, 4, none⟩ (.int .u64 w)) := ((((Turn.of_below HB.out).set (fun e => absurd e (by omega)) _ _).set (fun e => absurd e (by omega)) _ _).set (fun e => absurd e (by omega)) _ _)
  have hZ1 := ((heap_set_other (j := 4) (v := .int .u64 w) (show W.heap.size ≠ W.heap.size + 1 by omega)).trans ((heap_set_other (j := 5) (v := .bool true) (show W.heap.size ≠ W.heap.size + 1 by omega)).trans ((heap_set_other (j := 3) (v := .int .u64 o) (show W.heap.size ≠ W.heap.size + 1 by omega)).trans HZ.out)))
  have hR2 := hR1.set_pass k w
  have hT2 := hT1.set (b := M.pb) (fun _ => Or.inl (by simp [Rv.blocks])) k (.int .u64 w)
  have hZ2 := (heap_set_other (j := k) (v := .int .u64 w) n5).trans hZ1
  obtain ⟨f1, f2⟩ := noteW_done hR2 hT2 rfl rfl (Nat.le_refl W.heap.size) HM.out ⟨2, t, (-1 - (k : Int)), o, w, true⟩ true
  refine bodyPost_ret (v := .agg (Acc.cells ⟨2, t, (-1 - (k : Int)), o, w, true⟩)) ?_ rfl ?_
  · exact results_acc rfl rfl (noteW_res n1 hZ2 M.ck M.bd ⟨2, t, (-1 - (k : Int)), o, w, true⟩ true)
  · exact ⟨rfl, f1, f2⟩

set_option maxRecDepth 100000 in
set_option maxHeartbeats 1000000 in
theorem refSwap_seen (M : Rv) (t old w : Int) (k : Nat) (W : World) (h : RefAt W M) (hc : M.ck ≤ 1000000) (o : Int) (hp : M.peek (k : Int) = (o, true)) (hk : k < 8 * M.n) (hne : (o == old) = true) :
    Calls Try.prog 26 #[.pointer (some ⟨M.m, 0, none⟩), .int .i64 3, .int .i64 t, .int .i64 (k : Int), .int .u64 old, .int .u64 w] W (RAcc M (({ M with seen := upd M.seen k w } : Rv).note ⟨3, t, (k : Int), o, w, true⟩ true) W) := by
  have HP := Lib.hid (refPeekH M (k : Int) (by have := h.n1; have := h.p1; omega) (by have := h.n1; have := h.p1; omega) o true hp)
  have HM := Lib.hid h
  have hlt := h.lt (k := M.m) (Or.inl (by simp [Rv.blocks]))
  have n1 : W.heap.size ≠ M.m := by omega
  have n2 : W.heap.size + 1 ≠ M.m := by omega
  have n3 : M.m ≠ W.heap.size := by omega
  have n4 : M.m ≠ W.heap.size + 1 := by omega
  have b0 := h.ck0
  have b1 := h.bd0
  have b2 := h.bd1
  have HO : Hid (∀ k, M.own k → M.own k) := Lib.hid fun _ h => h
  have HK := Lib.hid hk
  have n5 : W.heap.size ≠ M.sb := fun e => by have := h.seen.lt; omega
  have n6 : W.heap.size + 1 ≠ M.sb := fun e => by have := h.seen.lt; omega
  have n7 : M.m ≠ M.sb := h.ne.ms
  have n8 : W.heap.size + 1 ≠ M.d := fun e => by have := h.lt (k := M.d) (Or.inl (by simp [Rv.blocks])); omega
  have i0 : (0 : Int) ≤ (k : Int) := by omega
  have dd : decide ((0 : Int) ≤ (k : Int)) = true := bool_yes (by omega)
  have de : decide ((k : Int) < 0) = false := bool_no (by omega)
  have hn1 := h.n1
  have hp1 := h.p1
  clear hk
  clear h hp hlt
  go_enter Try.func26, Try.ntmps26
  go_wp2_with fail
  with_reducible refine (HP.out _ (HM.out.below (((Below.refl _ _).alloc (Nat.le_refl _) _).alloc (by simp) _))).mono ?_
  rintro e w2 ⟨rfl, hb, hh⟩
  obtain ⟨rz, ra⟩ := two_news hh
  have HB : Hid (Below W.heap.size W w2) := Lib.hid ((((Below.refl _ _).alloc (Nat.le_refl _) _).alloc (by simp) _).trans (hb.mono (by simp; omega)))
  have HS : Hid (W.heap.size + 1 < w2.heap.size) := Lib.hid (by rw [hh]; simp)
  have HM2 := Lib.hid (HM.out.below HB.out)
  obtain ⟨a0, a1, a2, a3, a4, a5, af⟩ := row6 ra
  obtain ⟨z0, z1, z2, z3, z4, z5, zf⟩ := row6 rz
  obtain ⟨m0, m1, m2, m3, m4, m5, m6, m7, m8, m9, mf⟩ := row10 HM2.out.row
  have HZ := Lib.hid rz
  have y1 := (dev_cells HM2.out.dev).2.1
  have y2 := HM2.out.seen.cell HK.out
  have y3 := HM2.out.seen.free k
  have i1 : (k : Int) < ((8 * M.n : Nat) : Int) := by have := HK.out; omega
  generalize M.seen k = u at *
  obtain ⟨NN, hNN⟩ : ∃ NN, NN = 8 * M.n := ⟨_, rfl⟩
  rw [← hNN] at y1 i1
  have hN2 : NN ≤ 2097152 := by omega
  clear hb hh ra rz m1 hNN
  go_wp2_with fail
  have hA : ∀ k, Rv.own M k → k ≠ W.heap.size + 1 := fun k hk e => HM.out.not_own (by omega) (e ▸ (HO.out k hk))
  have hR1 : RefAt (((w2.setCell ⟨W.heap.size + 1, 3, none⟩ (.int .u64 o)).setCell ⟨W.heap.size + 1, 5, none⟩ (.bool true)).setCell ⟨W.heap.size + 1, 4, none⟩ (.int .u64 w)) M := HM2.out.keep fun k hk => by rw [heap_set_other (hA k hk), heap_set_other (hA k hk), heap_set_other (hA k hk)]
  have hT1 : Turn M.own W (((w2.setCell ⟨W.heap.size + 1, 3, none⟩ (.int .u64 o)).setCell ⟨W.heap.size + 1, 5, none⟩ (.bool true)).setCell ⟨W.heap.size + 1, 4, none⟩ (.int .u64 w)) := ((((Turn.of_below HB.out).set (fun e => absurd e (by omega)) _ _).set (fun e => absurd e (by omega)) _ _).set (fun e => absurd e (by omega)) _ _)
  have hZ1 := ((heap_set_other (j := 4) (v := .int .u64 w) (show W.heap.size ≠ W.heap.size + 1 by omega)).trans ((heap_set_other (j := 5) (v := .bool true) (show W.heap.size ≠ W.heap.size + 1 by omega)).trans ((heap_set_other (j := 3) (v := .int .u64 o) (show W.heap.size ≠ W.heap.size + 1 by omega)).trans HZ.out)))
  have hR2 := hR1.set_seen k w
  have hT2 := hT1.set (b := M.sb) (fun _ => Or.inl (by simp [Rv.blocks])) k (.int .u64 w)
  have hZ2 := (heap_set_other (j := k) (v := .int .u64 w) n5).trans hZ1
  obtain ⟨f1, f2⟩ := noteW_done hR2 hT2 rfl rfl (Nat.le_refl W.heap.size) HM.out ⟨3, t, (k : Int), o, w, true⟩ true
  refine bodyPost_ret (v := .agg (Acc.cells ⟨3, t, (k : Int), o, w, true⟩)) ?_ rfl ?_
  · exact results_acc rfl rfl (noteW_res n1 hZ2 M.ck M.bd ⟨3, t, (k : Int), o, w, true⟩ true)
  · exact ⟨rfl, f1, f2⟩

set_option maxRecDepth 100000 in
set_option maxHeartbeats 1000000 in
theorem refSwap_pass (M : Rv) (t old w : Int) (k : Nat) (W : World) (h : RefAt W M) (hc : M.ck ≤ 1000000) (o : Int) (hp : M.peek (-1 - (k : Int)) = (o, true)) (hk : k < M.np) (hne : (o == old) = true) :
    Calls Try.prog 26 #[.pointer (some ⟨M.m, 0, none⟩), .int .i64 3, .int .i64 t, .int .i64 (-1 - (k : Int)), .int .u64 old, .int .u64 w] W (RAcc M (({ M with pass := upd M.pass k w } : Rv).note ⟨3, t, (-1 - (k : Int)), o, w, true⟩ true) W) := by
  have HP := Lib.hid (refPeekH M (-1 - (k : Int)) (by have := h.n1; have := h.p1; omega) (by have := h.n1; have := h.p1; omega) o true hp)
  have HM := Lib.hid h
  have hlt := h.lt (k := M.m) (Or.inl (by simp [Rv.blocks]))
  have n1 : W.heap.size ≠ M.m := by omega
  have n2 : W.heap.size + 1 ≠ M.m := by omega
  have n3 : M.m ≠ W.heap.size := by omega
  have n4 : M.m ≠ W.heap.size + 1 := by omega
  have b0 := h.ck0
  have b1 := h.bd0
  have b2 := h.bd1
  have HO : Hid (∀ k, M.own k → M.own k) := Lib.hid fun _ h => h
  have HK := Lib.hid hk
  have n5 : W.heap.size ≠ M.pb := fun e => by have := h.pass.lt; omega
  have n6 : W.heap.size + 1 ≠ M.pb := fun e => by have := h.pass.lt; omega
  have n7 : M.m ≠ M.pb := h.ne.mp
  have n8 : W.heap.size + 1 ≠ M.d := fun e => by have := h.lt (k := M.d) (Or.inl (by simp [Rv.blocks])); omega
  have i0 : (0 : Int) ≤ (k : Int) := by omega
  have dd : decide ((0 : Int) ≤ -1 - (k : Int)) = false := bool_no (by omega)
  have de : decide (-1 - (k : Int) < 0) = true := bool_yes (by omega)
  have df : (-1 - (-1 - (k : Int)) : Int) = (k : Int) := by omega
  have hn1 := h.n1
  have hp1 := h.p1
  clear hk
  clear h hp hlt
  go_enter Try.func26, Try.ntmps26
  go_wp2_with fail
  with_reducible refine (HP.out _ (HM.out.below (((Below.refl _ _).alloc (Nat.le_refl _) _).alloc (by simp) _))).mono ?_
  rintro e w2 ⟨rfl, hb, hh⟩
  obtain ⟨rz, ra⟩ := two_news hh
  have HB : Hid (Below W.heap.size W w2) := Lib.hid ((((Below.refl _ _).alloc (Nat.le_refl _) _).alloc (by simp) _).trans (hb.mono (by simp; omega)))
  have HS : Hid (W.heap.size + 1 < w2.heap.size) := Lib.hid (by rw [hh]; simp)
  have HM2 := Lib.hid (HM.out.below HB.out)
  obtain ⟨a0, a1, a2, a3, a4, a5, af⟩ := row6 ra
  obtain ⟨z0, z1, z2, z3, z4, z5, zf⟩ := row6 rz
  obtain ⟨m0, m1, m2, m3, m4, m5, m6, m7, m8, m9, mf⟩ := row10 HM2.out.row
  have HZ := Lib.hid rz
  have y2 := HM2.out.pass.cell HK.out
  have y3 := HM2.out.pass.free k
  have i1 : (k : Int) < (M.np : Int) := by have := HK.out; omega
  generalize M.pass k = u at *
  clear hb hh ra rz m0
  go_wp2_with fail
  have hA : ∀ k, Rv.own M k → k ≠ W.heap.size + 1 := fun k hk e => HM.out.not_own (by omega) (e ▸ (HO.out k hk))
  have hR1 : RefAt (((w2.setCell ⟨W.heap.size + 1, 3, none⟩ (.int .u64 o)).setCell ⟨W.heap.size + 1, 5, none⟩ (.bool true)).setCell ⟨W.heap.size + 1, 4, none⟩ (.int .u64 w)) M := HM2.out.keep fun k hk => by rw [heap_set_other (hA k hk), heap_set_other (hA k hk), heap_set_other (hA k hk)]
  have hT1 : Turn M.own W (((w2.setCell ⟨W.heap.size + 1, 3, none⟩ (.int .u64 o)).setCell ⟨W.heap.size + 1, 5, none⟩ (.bool true)).setCell ⟨W.heap.size + 1, 4, none⟩ (.int .u64 w)) := ((((Turn.of_below HB.out).set (fun e => absurd e (by omega)) _ _).set (fun e => absurd e (by omega)) _ _).set (fun e => absurd e (by omega)) _ _)
  have hZ1 := ((heap_set_other (j := 4) (v := .int .u64 w) (show W.heap.size ≠ W.heap.size + 1 by omega)).trans ((heap_set_other (j := 5) (v := .bool true) (show W.heap.size ≠ W.heap.size + 1 by omega)).trans ((heap_set_other (j := 3) (v := .int .u64 o) (show W.heap.size ≠ W.heap.size + 1 by omega)).trans HZ.out)))
  have hR2 := hR1.set_pass k w
  have hT2 := hT1.set (b := M.pb) (fun _ => Or.inl (by simp [Rv.blocks])) k (.int .u64 w)
  have hZ2 := (heap_set_other (j := k) (v := .int .u64 w) n5).trans hZ1
  obtain ⟨f1, f2⟩ := noteW_done hR2 hT2 rfl rfl (Nat.le_refl W.heap.size) HM.out ⟨3, t, (-1 - (k : Int)), o, w, true⟩ true
  refine bodyPost_ret (v := .agg (Acc.cells ⟨3, t, (-1 - (k : Int)), o, w, true⟩)) ?_ rfl ?_
  · exact results_acc rfl rfl (noteW_res n1 hZ2 M.ck M.bd ⟨3, t, (-1 - (k : Int)), o, w, true⟩ true)
  · exact ⟨rfl, f1, f2⟩
end Go.Proofs.Ytpmjcinemabamaa

namespace Go.Proofs.Ytpmjcinemabamaa
open Go.RowKit Go.BigFrame
set_option linter.unusedVariables false
set_option linter.unusedSimpArgs false

set_option maxRecDepth 100000 in
set_option maxHeartbeats 1000000 in
theorem refFlush_neg (M : Rv) (t at_ old w : Int) (q0 : -9223372036854775808 ≤ at_) (q1 : at_ ≤ 9223372036854775807) (W : World) (h : RefAt W M) (hc : M.ck ≤ 1000000) (o : Int) (b : Bool) (hp : M.peek at_ = (o, b)) (hneg : at_ < 0) :
    Calls Try.prog 26 #[.pointer (some ⟨M.m, 0, none⟩), .int .i64 4, .int .i64 t, .int .i64 at_, .int .u64 old, .int .u64 w] W (RAcc M (M.note ⟨4, t, at_, 0, 0, false⟩ false) W) := by
  have HP := Lib.hid (refPeekH M at_ q0 q1 o b hp)
  have HM := Lib.hid h
  have hlt := h.lt (k := M.m) (Or.inl (by simp [Rv.blocks]))
  have n1 : W.heap.size ≠ M.m := by omega
  have n2 : W.heap.size + 1 ≠ M.m := by omega
  have n3 : M.m ≠ W.heap.size := by omega
  have n4 : M.m ≠ W.heap.size + 1 := by omega
  have b0 := h.ck0
  have b1 := h.bd0
  have b2 := h.bd1
  have HO : Hid (∀ k, M.own k → M.own k) := Lib.hid fun _ h => h
  have d0 : decide (0 ≤ at_) = false := bool_no (by omega)
  clear h hp hlt
  go_enter Try.func26, Try.ntmps26
  go_wp2_with fail
  with_reducible refine (HP.out _ (HM.out.below (((Below.refl _ _).alloc (Nat.le_refl _) _).alloc (by simp) _))).mono ?_
  rintro e w2 ⟨rfl, hb, hh⟩
  obtain ⟨rz, ra⟩ := two_news hh
  have HB : Hid (Below W.heap.size W w2) := Lib.hid ((((Below.refl _ _).alloc (Nat.le_refl _) _).alloc (by simp) _).trans (hb.mono (by simp; omega)))
  have HS : Hid (W.heap.size + 1 < w2.heap.size) := Lib.hid (by rw [hh]; simp)
  have HM2 := Lib.hid (HM.out.below HB.out)
  obtain ⟨a0, a1, a2, a3, a4, a5, af⟩ := row6 ra
  obtain ⟨z0, z1, z2, z3, z4, z5, zf⟩ := row6 rz
  obtain ⟨m0, m1, m2, m3, m4, m5, m6, m7, m8, m9, mf⟩ := row10 HM2.out.row
  have HZ := Lib.hid rz
  clear hb hh ra rz m0 m1
  go_wp2_with fail
  have hA : ∀ k, Rv.own M k → k ≠ W.heap.size + 1 := fun k hk e => HM.out.not_own (by omega) (e ▸ (HO.out k hk))
  have hR1 : RefAt (w2.setCell ⟨W.heap.size + 1, 5, none⟩ (.bool false)) M := HM2.out.keep fun k hk => by rw [heap_set_other (hA k hk)]
  have hT1 : Turn M.own W (w2.setCell ⟨W.heap.size + 1, 5, none⟩ (.bool false)) := ((Turn.of_below HB.out).set (fun e => absurd e (by omega)) _ _)
  have hZ1 := ((heap_set_other (j := 5) (v := .bool false) (show W.heap.size ≠ W.heap.size + 1 by omega)).trans HZ.out)
  obtain ⟨f1, f2⟩ := noteW_done hR1 hT1 rfl rfl (Nat.le_refl W.heap.size) HM.out ⟨4, t, at_, 0, 0, false⟩ false
  refine bodyPost_ret (v := .agg (Acc.cells ⟨4, t, at_, 0, 0, false⟩)) ?_ rfl ?_
  · exact results_acc rfl rfl (noteW_res n1 hZ1 M.ck M.bd ⟨4, t, at_, 0, 0, false⟩ false)
  · exact ⟨rfl, f1, f2⟩

set_option maxRecDepth 100000 in
set_option maxHeartbeats 1000000 in
theorem refFlush_yes (M : Rv) (t at_ old w : Int) (q0 : -9223372036854775808 ≤ at_) (q1 : at_ ≤ 9223372036854775807) (W : World) (h : RefAt W M) (hc : M.ck ≤ 1000000) (o : Int) (b : Bool) (hp : M.peek at_ = (o, b)) (q2 : 0 ≤ at_) (hE : M.flushE t (at_ / 8) = 0) :
    Calls Try.prog 26 #[.pointer (some ⟨M.m, 0, none⟩), .int .i64 4, .int .i64 t, .int .i64 at_, .int .u64 old, .int .u64 w] W (RAcc M ((M.flushed t (at_ / 8)).note ⟨4, t, at_, 0, 0, true⟩ true) W) := by
  have HP := Lib.hid (refPeekH M at_ q0 q1 o b hp)
  have HM := Lib.hid h
  have hlt := h.lt (k := M.m) (Or.inl (by simp [Rv.blocks]))
  have n1 : W.heap.size ≠ M.m := by omega
  have n2 : W.heap.size + 1 ≠ M.m := by omega
  have n3 : M.m ≠ W.heap.size := by omega
  have n4 : M.m ≠ W.heap.size + 1 := by omega
  have b0 := h.ck0
  have b1 := h.bd0
  have b2 := h.bd1
  have HO : Hid (∀ k, Rv.own (M.flushed t (at_ / 8)) k → M.own k) := Lib.hid fun _ h => h
  have d0 : decide (0 ≤ at_) = true := bool_yes q2
  have e8 : at_.tdiv 8 = at_ / 8 := Int.tdiv_eq_ediv_of_nonneg q2
  have HC : Hid (∀ w, RefAt w M → Calls Try.prog 44 #[.pointer (some ⟨M.d, 0, none⟩), .int .i64 0, .int .i64 t, .int .i64 (at_ / 8)] w (RDone M (M.flushed t (at_ / 8)) (.int .i64 0) w)) := Lib.hid fun w hw => by
    have := refDo44_flush M t (at_ / 8) w hw
    rw [if_pos hE, hE] at this; exact this
  clear hE
  clear h hp hlt
  go_enter Try.func26, Try.ntmps26
  go_wp2_with fail
  with_reducible refine (HP.out _ (HM.out.below (((Below.refl _ _).alloc (Nat.le_refl _) _).alloc (by simp) _))).mono ?_
  rintro e w2 ⟨rfl, hb, hh⟩
  obtain ⟨rz, ra⟩ := two_news hh
  have HB : Hid (Below W.heap.size W w2) := Lib.hid ((((Below.refl _ _).alloc (Nat.le_refl _) _).alloc (by simp) _).trans (hb.mono (by simp; omega)))
  have HS : Hid (W.heap.size + 1 < w2.heap.size) := Lib.hid (by rw [hh]; simp)
  have HM2 := Lib.hid (HM.out.below HB.out)
  obtain ⟨a0, a1, a2, a3, a4, a5, af⟩ := row6 ra
  obtain ⟨z0, z1, z2, z3, z4, z5, zf⟩ := row6 rz
  obtain ⟨m0, m1, m2, m3, m4, m5, m6, m7, m8, m9, mf⟩ := row10 HM2.out.row
  have HZ := Lib.hid rz
  have HA2 := Lib.hid ra
  clear hb hh ra rz m1
  go_wp2_with fail
  with_reducible refine (HC.out w2 HM2.out).mono ?_
  rintro e w5 ⟨rfl, hr5, ht5⟩
  have HR5 : Hid (RefAt w5 (M.flushed t (at_ / 8))) := Lib.hid hr5
  have hrow : w5.heap[M.m]? = some (.cells #[.pointer (some ⟨M.d, 0, none⟩), .slice (some ⟨M.pb, 0, none⟩) M.np M.c4, .int .i64 M.ck, .int .i64 M.bd, .int .i64 M.la.ki, .int .i64 M.la.th, .int .i64 M.la.pl, .int .u64 M.la.ol, .int .u64 M.la.ne, .bool M.la.dn] 46 (0, 0)) := HR5.out.row
  have ra := (ht5.block (W.heap.size + 1) (by have := HS.out; omega) (HM.out.not_own (by omega))).trans HA2.out
  have rz := (ht5.block W.heap.size (by have := HS.out; omega) (HM.out.not_own (by omega))).trans HZ.out
  have HT5 : Hid (Turn M.own W w5) := Lib.hid ((Turn.of_below HB.out).trans ht5 (fun _ _ h => h))
  clear a0 a1 a2 a3 a4 a5 af z0 z1 z2 z3 z4 z5 zf m0 m2 m3 m4 m5 m6 m7 m8 m9 mf hr5 ht5
  obtain ⟨a0, a1, a2, a3, a4, a5, af⟩ := row6 ra
  obtain ⟨z0, z1, z2, z3, z4, z5, zf⟩ := row6 rz
  obtain ⟨m0, m1, m2, m3, m4, m5, m6, m7, m8, m9, mf⟩ := row10 hrow
  have HZ5 := Lib.hid rz
  clear ra rz hrow m0 m1
  go_wp2_with fail
  have hA : ∀ k, Rv.own (M.flushed t (at_ / 8)) k → k ≠ W.heap.size + 1 := fun k hk e => HM.out.not_own (by omega) (e ▸ (HO.out k hk))
  have hR1 : RefAt (w5.setCell ⟨W.heap.size + 1, 5, none⟩ (.bool true)) (M.flushed t (at_ / 8)) := HR5.out.keep fun k hk => by rw [heap_set_other (hA k hk)]
  have hT1 : Turn M.own W (w5.setCell ⟨W.heap.size + 1, 5, none⟩ (.bool true)) := (HT5.out.set (fun e => absurd e (by omega)) _ _)
  have hZ1 := ((heap_set_other (j := 5) (v := .bool true) (show W.heap.size ≠ W.heap.size + 1 by omega)).trans HZ5.out)
  obtain ⟨f1, f2⟩ := noteW_done hR1 hT1 rfl rfl (Nat.le_refl W.heap.size) HM.out ⟨4, t, at_, 0, 0, true⟩ true
  refine bodyPost_ret (v := .agg (Acc.cells ⟨4, t, at_, 0, 0, true⟩)) ?_ rfl ?_
  · exact results_acc rfl rfl (noteW_res n1 hZ1 M.ck M.bd ⟨4, t, at_, 0, 0, true⟩ true)
  · exact ⟨rfl, f1, f2⟩

set_option maxRecDepth 100000 in
set_option maxHeartbeats 1000000 in
theorem refFlush_no (M : Rv) (t at_ old w : Int) (q0 : -9223372036854775808 ≤ at_) (q1 : at_ ≤ 9223372036854775807) (W : World) (h : RefAt W M) (hc : M.ck ≤ 1000000) (o : Int) (b : Bool) (hp : M.peek at_ = (o, b)) (q2 : 0 ≤ at_) (hE : M.flushE t (at_ / 8) ≠ 0) :
    Calls Try.prog 26 #[.pointer (some ⟨M.m, 0, none⟩), .int .i64 4, .int .i64 t, .int .i64 at_, .int .u64 old, .int .u64 w] W (RAcc M (M.note ⟨4, t, at_, 0, 0, false⟩ false) W) := by
  have HP := Lib.hid (refPeekH M at_ q0 q1 o b hp)
  have HM := Lib.hid h
  have hlt := h.lt (k := M.m) (Or.inl (by simp [Rv.blocks]))
  have n1 : W.heap.size ≠ M.m := by omega
  have n2 : W.heap.size + 1 ≠ M.m := by omega
  have n3 : M.m ≠ W.heap.size := by omega
  have n4 : M.m ≠ W.heap.size + 1 := by omega
  have b0 := h.ck0
  have b1 := h.bd0
  have b2 := h.bd1
  have HO : Hid (∀ k, Rv.own M k → M.own k) := Lib.hid fun _ h => h
  have d0 : decide (0 ≤ at_) = true := bool_yes q2
  have e8 : at_.tdiv 8 = at_ / 8 := Int.tdiv_eq_ediv_of_nonneg q2
  obtain ⟨E, hE2⟩ : ∃ E, E = M.flushE t (at_ / 8) := ⟨_, rfl⟩
  rw [← hE2] at hE
  have HC : Hid (∀ w, RefAt w M → Calls Try.prog 44 #[.pointer (some ⟨M.d, 0, none⟩), .int .i64 0, .int .i64 t, .int .i64 (at_ / 8)] w (RDone M M (.int .i64 E) w)) := Lib.hid fun w hw => by
    have := refDo44_flush M t (at_ / 8) w hw
    rw [← hE2, if_neg hE] at this; exact this
  have e0 : (E == 0) = false := by simpa using hE
  clear hE hE2
  clear h hp hlt
  go_enter Try.func26, Try.ntmps26
  go_wp2_with fail
  with_reducible refine (HP.out _ (HM.out.below (((Below.refl _ _).alloc (Nat.le_refl _) _).alloc (by simp) _))).mono ?_
  rintro e w2 ⟨rfl, hb, hh⟩
  obtain ⟨rz, ra⟩ := two_news hh
  have HB : Hid (Below W.heap.size W w2) := Lib.hid ((((Below.refl _ _).alloc (Nat.le_refl _) _).alloc (by simp) _).trans (hb.mono (by simp; omega)))
  have HS : Hid (W.heap.size + 1 < w2.heap.size) := Lib.hid (by rw [hh]; simp)
  have HM2 := Lib.hid (HM.out.below HB.out)
  obtain ⟨a0, a1, a2, a3, a4, a5, af⟩ := row6 ra
  obtain ⟨z0, z1, z2, z3, z4, z5, zf⟩ := row6 rz
  obtain ⟨m0, m1, m2, m3, m4, m5, m6, m7, m8, m9, mf⟩ := row10 HM2.out.row
  have HZ := Lib.hid rz
  have HA2 := Lib.hid ra
  clear hb hh ra rz m1
  go_wp2_with fail
  with_reducible refine (HC.out w2 HM2.out).mono ?_
  rintro e w5 ⟨rfl, hr5, ht5⟩
  have HR5 : Hid (RefAt w5 M) := Lib.hid hr5
  have hrow : w5.heap[M.m]? = some (.cells #[.pointer (some ⟨M.d, 0, none⟩), .slice (some ⟨M.pb, 0, none⟩) M.np M.c4, .int .i64 M.ck, .int .i64 M.bd, .int .i64 M.la.ki, .int .i64 M.la.th, .int .i64 M.la.pl, .int .u64 M.la.ol, .int .u64 M.la.ne, .bool M.la.dn] 46 (0, 0)) := HR5.out.row
  have ra := (ht5.block (W.heap.size + 1) (by have := HS.out; omega) (HM.out.not_own (by omega))).trans HA2.out
  have rz := (ht5.block W.heap.size (by have := HS.out; omega) (HM.out.not_own (by omega))).trans HZ.out
  have HT5 : Hid (Turn M.own W w5) := Lib.hid ((Turn.of_below HB.out).trans ht5 (fun _ _ h => h))
  clear a0 a1 a2 a3 a4 a5 af z0 z1 z2 z3 z4 z5 zf m0 m2 m3 m4 m5 m6 m7 m8 m9 mf hr5 ht5
  obtain ⟨a0, a1, a2, a3, a4, a5, af⟩ := row6 ra
  obtain ⟨z0, z1, z2, z3, z4, z5, zf⟩ := row6 rz
  obtain ⟨m0, m1, m2, m3, m4, m5, m6, m7, m8, m9, mf⟩ := row10 hrow
  have HZ5 := Lib.hid rz
  clear ra rz hrow m0 m1
  go_wp2_with fail
  have hA : ∀ k, Rv.own M k → k ≠ W.heap.size + 1 := fun k hk e => HM.out.not_own (by omega) (e ▸ (HO.out k hk))
  have hR1 : RefAt (w5.setCell ⟨W.heap.size + 1, 5, none⟩ (.bool false)) M := HR5.out.keep fun k hk => by rw [heap_set_other (hA k hk)]
  have hT1 : Turn M.own W (w5.setCell ⟨W.heap.size + 1, 5, none⟩ (.bool false)) := (HT5.out.set (fun e => absurd e (by omega)) _ _)
  have hZ1 := ((heap_set_other (j := 5) (v := .bool false) (show W.heap.size ≠ W.heap.size + 1 by omega)).trans HZ5.out)
  obtain ⟨f1, f2⟩ := noteW_done hR1 hT1 rfl rfl (Nat.le_refl W.heap.size) HM.out ⟨4, t, at_, 0, 0, false⟩ false
  refine bodyPost_ret (v := .agg (Acc.cells ⟨4, t, at_, 0, 0, false⟩)) ?_ rfl ?_
  · exact results_acc rfl rfl (noteW_res n1 hZ1 M.ck M.bd ⟨4, t, at_, 0, 0, false⟩ false)
  · exact ⟨rfl, f1, f2⟩

set_option maxRecDepth 100000 in
set_option maxHeartbeats 1000000 in
theorem refFence_yes (M : Rv) (t at_ old w : Int) (q0 : -9223372036854775808 ≤ at_) (q1 : at_ ≤ 9223372036854775807) (W : World) (h : RefAt W M) (hc : M.ck ≤ 1000000) (o : Int) (b : Bool) (hp : M.peek at_ = (o, b)) (k : Nat) (hk : k < M.nt) (hw : M.wm ≤ 999999) (htk : t = (k : Int)) :
    Calls Try.prog 26 #[.pointer (some ⟨M.m, 0, none⟩), .int .i64 5, .int .i64 t, .int .i64 at_, .int .u64 old, .int .u64 w] W (RAcc M ((M.fenced k).note ⟨5, (k : Int), 0, 0, 0, true⟩ true) W) := by
  have HP := Lib.hid (refPeekH M at_ q0 q1 o b hp)
  have HM := Lib.hid h
  have hlt := h.lt (k := M.m) (Or.inl (by simp [Rv.blocks]))
  have n1 : W.heap.size ≠ M.m := by omega
  have n2 : W.heap.size + 1 ≠ M.m := by omega
  have n3 : M.m ≠ W.heap.size := by omega
  have n4 : M.m ≠ W.heap.size + 1 := by omega
  have b0 := h.ck0
  have b1 := h.bd0
  have b2 := h.bd1
  have HO : Hid (∀ k, Rv.own (M.fenced k) k → M.own k) := Lib.hid fun _ h => h
  subst htk
  have n8 : W.heap.size + 1 ≠ M.d := fun e => by have := h.lt (k := M.d) (Or.inl (by simp [Rv.blocks])); omega
  have HC : Hid (∀ w, RefAt w M → Calls Try.prog 44 #[.pointer (some ⟨M.d, 0, none⟩), .int .i64 1, .int .i64 k, .int .i64 0] w (RDone M (M.fenced k) (.int .i64 0) w)) := Lib.hid fun w h => refDo44_fence M k hk w h hw
  clear hk hw
  clear h hp hlt
  go_enter Try.func26, Try.ntmps26
  go_wp2_with fail
  with_reducible refine (HP.out _ (HM.out.below (((Below.refl _ _).alloc (Nat.le_refl _) _).alloc (by simp) _))).mono ?_
  rintro e w2 ⟨rfl, hb, hh⟩
  obtain ⟨rz, ra⟩ := two_news hh
  have HB : Hid (Below W.heap.size W w2) := Lib.hid ((((Below.refl _ _).alloc (Nat.le_refl _) _).alloc (by simp) _).trans (hb.mono (by simp; omega)))
  have HS : Hid (W.heap.size + 1 < w2.heap.size) := Lib.hid (by rw [hh]; simp)
  have HM2 := Lib.hid (HM.out.below HB.out)
  obtain ⟨a0, a1, a2, a3, a4, a5, af⟩ := row6 ra
  obtain ⟨z0, z1, z2, z3, z4, z5, zf⟩ := row6 rz
  obtain ⟨m0, m1, m2, m3, m4, m5, m6, m7, m8, m9, mf⟩ := row10 HM2.out.row
  have HZ := Lib.hid rz
  have HA2 := Lib.hid ra
  clear hb hh ra rz m1
  go_wp2_with fail
  have hq : RefAt (w2.setCell ⟨W.heap.size + 1, 2, none⟩ (.int .i64 0)) M := HM2.out.keep fun k hk => heap_set_other fun e => HM.out.not_own (by omega) (e ▸ hk)
  with_reducible refine (HC.out _ hq).mono ?_
  rintro e w5 ⟨rfl, hr5, ht5⟩
  have HR5 : Hid (RefAt w5 (M.fenced k)) := Lib.hid hr5
  have hrow : w5.heap[M.m]? = some (.cells #[.pointer (some ⟨M.d, 0, none⟩), .slice (some ⟨M.pb, 0, none⟩) M.np M.c4, .int .i64 M.ck, .int .i64 M.bd, .int .i64 M.la.ki, .int .i64 M.la.th, .int .i64 M.la.pl, .int .u64 M.la.ol, .int .u64 M.la.ne, .bool M.la.dn] 46 (0, 0)) := HR5.out.row
  have ra := (ht5.block (W.heap.size + 1) (by have := HS.out; simp [World.setCell]; omega) (HM.out.not_own (by omega))).trans (heap_set (j := 2) (.int .i64 0) HA2.out)
  have rz := (ht5.block W.heap.size (by have := HS.out; simp [World.setCell]; omega) (HM.out.not_own (by omega))).trans ((heap_set_other (j := 2) (v := .int .i64 0) (show W.heap.size ≠ W.heap.size + 1 by omega)).trans HZ.out)
  simp only [List.setIfInBounds_toArray, List.set_cons_succ, List.set_cons_zero] at ra
  have HT5 : Hid (Turn M.own W w5) := Lib.hid (((Turn.of_below HB.out).set (fun e => absurd e (by omega)) _ _).trans ht5 (fun _ _ h => h))
  clear a0 a1 a2 a3 a4 a5 af z0 z1 z2 z3 z4 z5 zf m0 m2 m3 m4 m5 m6 m7 m8 m9 mf hr5 ht5
  obtain ⟨a0, a1, a2, a3, a4, a5, af⟩ := row6 ra
  obtain ⟨z0, z1, z2, z3, z4, z5, zf⟩ := row6 rz
  obtain ⟨m0, m1, m2, m3, m4, m5, m6, m7, m8, m9, mf⟩ := row10 hrow
  have HZ5 := Lib.hid rz
  clear ra rz hrow m0 m1
  go_wp2_with fail
  have hA : ∀ k, Rv.own (M.fenced k) k → k ≠ W.heap.size + 1 := fun k hk e => HM.out.not_own (by omega) (e ▸ (HO.out k hk))
  have hR1 : RefAt (w5.setCell ⟨W.heap.size + 1, 5, none⟩ (.bool true)) (M.fenced k) := HR5.out.keep fun k hk => by rw [heap_set_other (hA k hk)]
  have hT1 : Turn M.own W (w5.setCell ⟨W.heap.size + 1, 5, none⟩ (.bool true)) := (HT5.out.set (fun e => absurd e (by omega)) _ _)
  have hZ1 := ((heap_set_other (j := 5) (v := .bool true) (show W.heap.size ≠ W.heap.size + 1 by omega)).trans HZ5.out)
  obtain ⟨f1, f2⟩ := noteW_done hR1 hT1 rfl rfl (Nat.le_refl W.heap.size) HM.out ⟨5, (k : Int), 0, 0, 0, true⟩ true
  refine bodyPost_ret (v := .agg (Acc.cells ⟨5, (k : Int), 0, 0, 0, true⟩)) ?_ rfl ?_
  · exact results_acc rfl rfl (noteW_res n1 hZ1 M.ck M.bd ⟨5, (k : Int), 0, 0, 0, true⟩ true)
  · exact ⟨rfl, f1, f2⟩

set_option maxRecDepth 100000 in
set_option maxHeartbeats 1000000 in
theorem refFence_no (M : Rv) (t at_ old w : Int) (q0 : -9223372036854775808 ≤ at_) (q1 : at_ ≤ 9223372036854775807) (W : World) (h : RefAt W M) (hc : M.ck ≤ 1000000) (o : Int) (b : Bool) (hp : M.peek at_ = (o, b)) (hE : threadE M.nt t ≠ 0) :
    Calls Try.prog 26 #[.pointer (some ⟨M.m, 0, none⟩), .int .i64 5, .int .i64 t, .int .i64 at_, .int .u64 old, .int .u64 w] W (RAcc M (M.note ⟨5, t, 0, 0, 0, false⟩ false) W) := by
  have HP := Lib.hid (refPeekH M at_ q0 q1 o b hp)
  have HM := Lib.hid h
  have hlt := h.lt (k := M.m) (Or.inl (by simp [Rv.blocks]))
  have n1 : W.heap.size ≠ M.m := by omega
  have n2 : W.heap.size + 1 ≠ M.m := by omega
  have n3 : M.m ≠ W.heap.size := by omega
  have n4 : M.m ≠ W.heap.size + 1 := by omega
  have b0 := h.ck0
  have b1 := h.bd0
  have b2 := h.bd1
  have HO : Hid (∀ k, Rv.own M k → M.own k) := Lib.hid fun _ h => h
  have n8 : W.heap.size + 1 ≠ M.d := fun e => by have := h.lt (k := M.d) (Or.inl (by simp [Rv.blocks])); omega
  have HC : Hid (∀ w, RefAt w M → Calls Try.prog 44 #[.pointer (some ⟨M.d, 0, none⟩), .int .i64 1, .int .i64 t, .int .i64 0] w (RDone M M (.int .i64 1) w)) := Lib.hid fun w h => refDo44_fence_no M t 0 w h hE
  clear hE
  clear h hp hlt
  go_enter Try.func26, Try.ntmps26
  go_wp2_with fail
  with_reducible refine (HP.out _ (HM.out.below (((Below.refl _ _).alloc (Nat.le_refl _) _).alloc (by simp) _))).mono ?_
  rintro e w2 ⟨rfl, hb, hh⟩
  obtain ⟨rz, ra⟩ := two_news hh
  have HB : Hid (Below W.heap.size W w2) := Lib.hid ((((Below.refl _ _).alloc (Nat.le_refl _) _).alloc (by simp) _).trans (hb.mono (by simp; omega)))
  have HS : Hid (W.heap.size + 1 < w2.heap.size) := Lib.hid (by rw [hh]; simp)
  have HM2 := Lib.hid (HM.out.below HB.out)
  obtain ⟨a0, a1, a2, a3, a4, a5, af⟩ := row6 ra
  obtain ⟨z0, z1, z2, z3, z4, z5, zf⟩ := row6 rz
  obtain ⟨m0, m1, m2, m3, m4, m5, m6, m7, m8, m9, mf⟩ := row10 HM2.out.row
  have HZ := Lib.hid rz
  have HA2 := Lib.hid ra
  clear hb hh ra rz m1
  go_wp2_with fail
  have hq : RefAt (w2.setCell ⟨W.heap.size + 1, 2, none⟩ (.int .i64 0)) M := HM2.out.keep fun k hk => heap_set_other fun e => HM.out.not_own (by omega) (e ▸ hk)
  with_reducible refine (HC.out _ hq).mono ?_
  rintro e w5 ⟨rfl, hr5, ht5⟩
  have HR5 : Hid (RefAt w5 M) := Lib.hid hr5
  have hrow : w5.heap[M.m]? = some (.cells #[.pointer (some ⟨M.d, 0, none⟩), .slice (some ⟨M.pb, 0, none⟩) M.np M.c4, .int .i64 M.ck, .int .i64 M.bd, .int .i64 M.la.ki, .int .i64 M.la.th, .int .i64 M.la.pl, .int .u64 M.la.ol, .int .u64 M.la.ne, .bool M.la.dn] 46 (0, 0)) := HR5.out.row
  have ra := (ht5.block (W.heap.size + 1) (by have := HS.out; simp [World.setCell]; omega) (HM.out.not_own (by omega))).trans (heap_set (j := 2) (.int .i64 0) HA2.out)
  have rz := (ht5.block W.heap.size (by have := HS.out; simp [World.setCell]; omega) (HM.out.not_own (by omega))).trans ((heap_set_other (j := 2) (v := .int .i64 0) (show W.heap.size ≠ W.heap.size + 1 by omega)).trans HZ.out)
  simp only [List.setIfInBounds_toArray, List.set_cons_succ, List.set_cons_zero] at ra
  have HT5 : Hid (Turn M.own W w5) := Lib.hid (((Turn.of_below HB.out).set (fun e => absurd e (by omega)) _ _).trans ht5 (fun _ _ h => h))
  clear a0 a1 a2 a3 a4 a5 af z0 z1 z2 z3 z4 z5 zf m0 m2 m3 m4 m5 m6 m7 m8 m9 mf hr5 ht5
  obtain ⟨a0, a1, a2, a3, a4, a5, af⟩ := row6 ra
  obtain ⟨z0, z1, z2, z3, z4, z5, zf⟩ := row6 rz
  obtain ⟨m0, m1, m2, m3, m4, m5, m6, m7, m8, m9, mf⟩ := row10 hrow
  have HZ5 := Lib.hid rz
  clear ra rz hrow m0 m1
  go_wp2_with fail
  have hA : ∀ k, Rv.own M k → k ≠ W.heap.size + 1 := fun k hk e => HM.out.not_own (by omega) (e ▸ (HO.out k hk))
  have hR1 : RefAt (w5.setCell ⟨W.heap.size + 1, 5, none⟩ (.bool false)) M := HR5.out.keep fun k hk => by rw [heap_set_other (hA k hk)]
  have hT1 : Turn M.own W (w5.setCell ⟨W.heap.size + 1, 5, none⟩ (.bool false)) := (HT5.out.set (fun e => absurd e (by omega)) _ _)
  have hZ1 := ((heap_set_other (j := 5) (v := .bool false) (show W.heap.size ≠ W.heap.size + 1 by omega)).trans HZ5.out)
  obtain ⟨f1, f2⟩ := noteW_done hR1 hT1 rfl rfl (Nat.le_refl W.heap.size) HM.out ⟨5, t, 0, 0, 0, false⟩ false
  refine bodyPost_ret (v := .agg (Acc.cells ⟨5, t, 0, 0, 0, false⟩)) ?_ rfl ?_
  · exact results_acc rfl rfl (noteW_res n1 hZ1 M.ck M.bd ⟨5, t, 0, 0, 0, false⟩ false)
  · exact ⟨rfl, f1, f2⟩
end Go.Proofs.Ytpmjcinemabamaa
