/- The document's memory: flush and fence as accesses, walked.
   The document's memory: any access; a memory made.
   The document's memory made; accesses done again on it. -/
import Derived.Test.YtkdcfijebgeajaaGreatJ8
namespace Go.Proofs.YtkdcfijebgeajaaGreat
open Go.RowKit Go.BigFrame
set_option linter.unusedVariables false
set_option linter.unusedSimpArgs false
set_option maxRecDepth 100000 in
set_option maxHeartbeats 1000000 in
theorem refFlush_neg (M : Rv) (t at_ old w : Int) (q0 : -9223372036854775808 ≤ at_) (q1 : at_ ≤ 9223372036854775807) (W : World) (h : RefAt W M) (hc : M.ck ≤ 1000000) (o : Int) (b : Bool) (hp : M.peek at_ = (o, b)) (hneg : at_ < 0) :
    Calls Tryz.prog 55 #[.pointer (some ⟨M.m, 0, none⟩), .int .i64 4, .int .i64 t, .int .i64 at_, .int .u64 old, .int .u64 w] W (RAcc M (M.note ⟨4, t, at_, 0, 0, false⟩ false) W) := by
  have HP := Lib.hid (refPeekH M at_ q0 q1 o b hp)
  have HM := Lib.hid h
  have hlt := h.lt (k := M.m) (Or.inl (by simp [Rv.blocks]))
  have n1 : W.heap.size ≠ M.m := by omega
  have n2 : W.heap.size + 1 ≠ M.m := by omega
  have n3 : M.m ≠ W.heap.size := by omega
  have n4 : M.m ≠ W.heap.size + 1 := by omega
  have b0 := h.ck0
  have b1 := h.bd0
  have b2 := h.bd1
  have HO : Hid (∀ k, M.own k → M.own k) := Lib.hid fun _ h => h
  have d0 : decide (0 ≤ at_) = false := bool_no (by omega)
  clear h hp hlt
  go_enter Tryz.func55, Tryz.ntmps55
  go_wp2_with fail
  with_reducible refine (HP.out _ (HM.out.below (((Below.refl _ _).alloc (Nat.le_refl _) _).alloc (by simp) _))).mono ?_
  rintro e w2 ⟨rfl, hb, hh⟩
  obtain ⟨rz, ra⟩ := two_news hh
  have HB : Hid (Below W.heap.size W w2) := Lib.hid ((((Below.refl _ _).alloc (Nat.le_refl _) _).alloc (by simp) _).trans (hb.mono (by simp; omega)))
  have HS : Hid (W.heap.size + 1 < w2.heap.size) := Lib.hid (by rw [hh]; simp)
  have HM2 := Lib.hid (HM.out.below HB.out)
  obtain ⟨a0, a1, a2, a3, a4, a5, af⟩ := row6 ra
  obtain ⟨z0, z1, z2, z3, z4, z5, zf⟩ := row6 rz
  obtain ⟨m0, m1, m2, m3, m4, m5, m6, m7, m8, m9, mf⟩ := row10 HM2.out.row
  have HZ := Lib.hid rz
  clear hb hh ra rz m0 m1
  go_wp2_with fail
  have hA : ∀ k, Rv.own M k → k ≠ W.heap.size + 1 := fun k hk e => HM.out.not_own (by omega) (e ▸ (HO.out k hk))
  have hR1 : RefAt (w2.setCell ⟨W.heap.size + 1, 5, none⟩ (.bool false)) M := HM2.out.keep fun k hk => by rw [heap_set_other (hA k hk)]
  have hT1 : Turn M.own W (w2.setCell ⟨W.heap.size + 1, 5, none⟩ (.bool false)) := ((Turn.of_below HB.out).set (fun e => absurd e (by omega)) _ _)
  have hZ1 := ((heap_set_other (j := 5) (v := .bool false) (show W.heap.size ≠ W.heap.size + 1 by omega)).trans HZ.out)
  obtain ⟨f1, f2⟩ := noteW_done hR1 hT1 rfl rfl (Nat.le_refl W.heap.size) HM.out ⟨4, t, at_, 0, 0, false⟩ false
  refine bodyPost_ret (v := .agg (Acc.cells ⟨4, t, at_, 0, 0, false⟩)) ?_ rfl ?_
  · exact results_acc rfl rfl (noteW_res n1 hZ1 M.ck M.bd ⟨4, t, at_, 0, 0, false⟩ false)
  · exact ⟨rfl, f1, f2⟩
set_option maxRecDepth 100000 in
set_option maxHeartbeats 1000000 in
theorem refFlush_yes (M : Rv) (t at_ old w : Int) (q0 : -9223372036854775808 ≤ at_) (q1 : at_ ≤ 9223372036854775807) (W : World) (h : RefAt W M) (hc : M.ck ≤ 1000000) (o : Int) (b : Bool) (hp : M.peek at_ = (o, b)) (q2 : 0 ≤ at_) (hE : M.flushE t (at_ / 8) = 0) :
    Calls Tryz.prog 55 #[.pointer (some ⟨M.m, 0, none⟩), .int .i64 4, .int .i64 t, .int .i64 at_, .int .u64 old, .int .u64 w] W (RAcc M ((M.flushed t (at_ / 8)).note ⟨4, t, at_, 0, 0, true⟩ true) W) := by
  have HP := Lib.hid (refPeekH M at_ q0 q1 o b hp)
  have HM := Lib.hid h
  have hlt := h.lt (k := M.m) (Or.inl (by simp [Rv.blocks]))
  have n1 : W.heap.size ≠ M.m := by omega
  have n2 : W.heap.size + 1 ≠ M.m := by omega
  have n3 : M.m ≠ W.heap.size := by omega
  have n4 : M.m ≠ W.heap.size + 1 := by omega
  have b0 := h.ck0
  have b1 := h.bd0
  have b2 := h.bd1
  have HO : Hid (∀ k, Rv.own (M.flushed t (at_ / 8)) k → M.own k) := Lib.hid fun _ h => h
  have d0 : decide (0 ≤ at_) = true := bool_yes q2
  have e8 : at_.tdiv 8 = at_ / 8 := Int.tdiv_eq_ediv_of_nonneg q2
  have HC : Hid (∀ w, RefAt w M → Calls Tryz.prog 112 #[.pointer (some ⟨M.d, 0, none⟩), .int .i64 0, .int .i64 t, .int .i64 (at_ / 8)] w (RDone M (M.flushed t (at_ / 8)) (.int .i64 0) w)) := Lib.hid fun w hw => by
    have := refDo44_flush M t (at_ / 8) w hw
    rw [if_pos hE, hE] at this; exact this
  clear hE
  clear h hp hlt
  go_enter Tryz.func55, Tryz.ntmps55
  go_wp2_with fail
  with_reducible refine (HP.out _ (HM.out.below (((Below.refl _ _).alloc (Nat.le_refl _) _).alloc (by simp) _))).mono ?_
  rintro e w2 ⟨rfl, hb, hh⟩
  obtain ⟨rz, ra⟩ := two_news hh
  have HB : Hid (Below W.heap.size W w2) := Lib.hid ((((Below.refl _ _).alloc (Nat.le_refl _) _).alloc (by simp) _).trans (hb.mono (by simp; omega)))
  have HS : Hid (W.heap.size + 1 < w2.heap.size) := Lib.hid (by rw [hh]; simp)
  have HM2 := Lib.hid (HM.out.below HB.out)
  obtain ⟨a0, a1, a2, a3, a4, a5, af⟩ := row6 ra
  obtain ⟨z0, z1, z2, z3, z4, z5, zf⟩ := row6 rz
  obtain ⟨m0, m1, m2, m3, m4, m5, m6, m7, m8, m9, mf⟩ := row10 HM2.out.row
  have HZ := Lib.hid rz
  have HA2 := Lib.hid ra
  clear hb hh ra rz m1
  go_wp2_with fail
  with_reducible refine (HC.out w2 HM2.out).mono ?_
  rintro e w5 ⟨rfl, hr5, ht5⟩
  have HR5 : Hid (RefAt w5 (M.flushed t (at_ / 8))) := Lib.hid hr5
  have hrow : w5.heap[M.m]? = some (.cells #[.pointer (some ⟨M.d, 0, none⟩), .slice (some ⟨M.pb, 0, none⟩) M.np M.c4, .int .i64 M.ck, .int .i64 M.bd, .int .i64 M.la.ki, .int .i64 M.la.th, .int .i64 M.la.pl, .int .u64 M.la.ol, .int .u64 M.la.ne, .bool M.la.dn] 191 (0, 0)) := HR5.out.row
  have ra := (ht5.block (W.heap.size + 1) (by have := HS.out; omega) (HM.out.not_own (by omega))).trans HA2.out
  have rz := (ht5.block W.heap.size (by have := HS.out; omega) (HM.out.not_own (by omega))).trans HZ.out
  have HT5 : Hid (Turn M.own W w5) := Lib.hid ((Turn.of_below HB.out).trans ht5 (fun _ _ h => h))
  clear a0 a1 a2 a3 a4 a5 af z0 z1 z2 z3 z4 z5 zf m0 m2 m3 m4 m5 m6 m7 m8 m9 mf hr5 ht5
  obtain ⟨a0, a1, a2, a3, a4, a5, af⟩ := row6 ra
  obtain ⟨z0, z1, z2, z3, z4, z5, zf⟩ := row6 rz
  obtain ⟨m0, m1, m2, m3, m4, m5, m6, m7, m8, m9, mf⟩ := row10 hrow
  have HZ5 := Lib.hid rz
  clear ra rz hrow m0 m1
  go_wp2_with fail
  have hA : ∀ k, Rv.own (M.flushed t (at_ / 8)) k → k ≠ W.heap.size + 1 := fun k hk e => HM.out.not_own (by omega) (e ▸ (HO.out k hk))
  have hR1 : RefAt (w5.setCell ⟨W.heap.size + 1, 5, none⟩ (.bool true)) (M.flushed t (at_ / 8)) := HR5.out.keep fun k hk => by rw [heap_set_other (hA k hk)]
  have hT1 : Turn M.own W (w5.setCell ⟨W.heap.size + 1, 5, none⟩ (.bool true)) := (HT5.out.set (fun e => absurd e (by omega)) _ _)
  have hZ1 := ((heap_set_other (j := 5) (v := .bool true) (show W.heap.size ≠ W.heap.size + 1 by omega)).trans HZ5.out)
  obtain ⟨f1, f2⟩ := noteW_done hR1 hT1 rfl rfl (Nat.le_refl W.heap.size) HM.out ⟨4, t, at_, 0, 0, true⟩ true
  refine bodyPost_ret (v := .agg (Acc.cells ⟨4, t, at_, 0, 0, true⟩)) ?_ rfl ?_
  · exact results_acc rfl rfl (noteW_res n1 hZ1 M.ck M.bd ⟨4, t, at_, 0, 0, true⟩ true)
  · exact ⟨rfl, f1, f2⟩
set_option maxRecDepth 100000 in
set_option maxHeartbeats 1000000 in
theorem refFlush_no (M : Rv) (t at_ old w : Int) (q0 : -9223372036854775808 ≤ at_) (q1 : at_ ≤ 9223372036854775807) (W : World) (h : RefAt W M) (hc : M.ck ≤ 1000000) (o : Int) (b : Bool) (hp : M.peek at_ = (o, b)) (q2 : 0 ≤ at_) (hE : M.flushE t (at_ / 8) ≠ 0) :
    Calls Tryz.prog 55 #[.pointer (some ⟨M.m, 0, none⟩), .int .i64 4, .int .i64 t, .int .i64 at_, .int .u64 old, .int .u64 w] W (RAcc M (M.note ⟨4, t, at_, 0, 0, false⟩ false) W) := by
  have HP := Lib.hid (refPeekH M at_ q0 q1 o b hp)
  have HM := Lib.hid h
  have hlt := h.lt (k := M.m) (Or.inl (by simp [Rv.blocks]))
  have n1 : W.heap.size ≠ M.m := by omega
  have n2 : W.heap.size + 1 ≠ M.m := by omega
  have n3 : M.m ≠ W.heap.size := by omega
  have n4 : M.m ≠ W.heap.size + 1 := by omega
  have b0 := h.ck0
  have b1 := h.bd0
  have b2 := h.bd1
  have HO : Hid (∀ k, Rv.own M k → M.own k) := Lib.hid fun _ h => h
  have d0 : decide (0 ≤ at_) = true := bool_yes q2
  have e8 : at_.tdiv 8 = at_ / 8 := Int.tdiv_eq_ediv_of_nonneg q2
  obtain ⟨E, hE2⟩ : ∃ E, E = M.flushE t (at_ / 8) := ⟨_, rfl⟩
  rw [← hE2] at hE
  have HC : Hid (∀ w, RefAt w M → Calls Tryz.prog 112 #[.pointer (some ⟨M.d, 0, none⟩), .int .i64 0, .int .i64 t, .int .i64 (at_ / 8)] w (RDone M M (.int .i64 E) w)) := Lib.hid fun w hw => by
    have := refDo44_flush M t (at_ / 8) w hw
    rw [← hE2, if_neg hE] at this; exact this
  have e0 : (E == 0) = false := by simpa using hE
  clear hE hE2
  clear h hp hlt
  go_enter Tryz.func55, Tryz.ntmps55
  go_wp2_with fail
  with_reducible refine (HP.out _ (HM.out.below (((Below.refl _ _).alloc (Nat.le_refl _) _).alloc (by simp) _))).mono ?_
  rintro e w2 ⟨rfl, hb, hh⟩
  obtain ⟨rz, ra⟩ := two_news hh
  have HB : Hid (Below W.heap.size W w2) := Lib.hid ((((Below.refl _ _).alloc (Nat.le_refl _) _).alloc (by simp) _).trans (hb.mono (by simp; omega)))
  have HS : Hid (W.heap.size + 1 < w2.heap.size) := Lib.hid (by rw [hh]; simp)
  have HM2 := Lib.hid (HM.out.below HB.out)
  obtain ⟨a0, a1, a2, a3, a4, a5, af⟩ := row6 ra
  obtain ⟨z0, z1, z2, z3, z4, z5, zf⟩ := row6 rz
  obtain ⟨m0, m1, m2, m3, m4, m5, m6, m7, m8, m9, mf⟩ := row10 HM2.out.row
  have HZ := Lib.hid rz
  have HA2 := Lib.hid ra
  clear hb hh ra rz m1
  go_wp2_with fail
  with_reducible refine (HC.out w2 HM2.out).mono ?_
  rintro e w5 ⟨rfl, hr5, ht5⟩
  have HR5 : Hid (RefAt w5 M) := Lib.hid hr5
  have hrow : w5.heap[M.m]? = some (.cells #[.pointer (some ⟨M.d, 0, none⟩), .slice (some ⟨M.pb, 0, none⟩) M.np M.c4, .int .i64 M.ck, .int .i64 M.bd, .int .i64 M.la.ki, .int .i64 M.la.th, .int .i64 M.la.pl, .int .u64 M.la.ol, .int .u64 M.la.ne, .bool M.la.dn] 191 (0, 0)) := HR5.out.row
  have ra := (ht5.block (W.heap.size + 1) (by have := HS.out; omega) (HM.out.not_own (by omega))).trans HA2.out
  have rz := (ht5.block W.heap.size (by have := HS.out; omega) (HM.out.not_own (by omega))).trans HZ.out
  have HT5 : Hid (Turn M.own W w5) := Lib.hid ((Turn.of_below HB.out).trans ht5 (fun _ _ h => h))
  clear a0 a1 a2 a3 a4 a5 af z0 z1 z2 z3 z4 z5 zf m0 m2 m3 m4 m5 m6 m7 m8 m9 mf hr5 ht5
  obtain ⟨a0, a1, a2, a3, a4, a5, af⟩ := row6 ra
  obtain ⟨z0, z1, z2, z3, z4, z5, zf⟩ := row6 rz
  obtain ⟨m0, m1, m2, m3, m4, m5, m6, m7, m8, m9, mf⟩ := row10 hrow
  have HZ5 := Lib.hid rz
  clear ra rz hrow m0 m1
  go_wp2_with fail
  have hA : ∀ k, Rv.own M k → k ≠ W.heap.size + 1 := fun k hk e => HM.out.not_own (by omega) (e ▸ (HO.out k hk))
  have hR1 : RefAt (w5.setCell ⟨W.heap.size + 1, 5, none⟩ (.bool false)) M := HR5.out.keep fun k hk => by rw [heap_set_other (hA k hk)]
  have hT1 : Turn M.own W (w5.setCell ⟨W.heap.size + 1, 5, none⟩ (.bool false)) := (HT5.out.set (fun e => absurd e (by omega)) _ _)
  have hZ1 := ((heap_set_other (j := 5) (v := .bool false) (show W.heap.size ≠ W.heap.size + 1 by omega)).trans HZ5.out)
  obtain ⟨f1, f2⟩ := noteW_done hR1 hT1 rfl rfl (Nat.le_refl W.heap.size) HM.out ⟨4, t, at_, 0, 0, false⟩ false
  refine bodyPost_ret (v := .agg (Acc.cells ⟨4, t, at_, 0, 0, false⟩)) ?_ rfl ?_
  · exact results_acc rfl rfl (noteW_res n1 hZ1 M.ck M.bd ⟨4, t, at_, 0, 0, false⟩ false)
  · exact ⟨rfl, f1, f2⟩
set_option maxRecDepth 100000 in
set_option maxHeartbeats 1000000 in
theorem refFence_yes (M : Rv) (t at_ old w : Int) (q0 : -9223372036854775808 ≤ at_) (q1 : at_ ≤ 9223372036854775807) (W : World) (h : RefAt W M) (hc : M.ck ≤ 1000000) (o : Int) (b : Bool) (hp : M.peek at_ = (o, b)) (k : Nat) (hk : k < M.nt) (hw : M.wm ≤ 999999) (htk : t = (k : Int)) :
    Calls Tryz.prog 55 #[.pointer (some ⟨M.m, 0, none⟩), .int .i64 5, .int .i64 t, .int .i64 at_, .int .u64 old, .int .u64 w] W (RAcc M ((M.fenced k).note ⟨5, (k : Int), 0, 0, 0, true⟩ true) W) := by
  have HP := Lib.hid (refPeekH M at_ q0 q1 o b hp)
  have HM := Lib.hid h
  have hlt := h.lt (k := M.m) (Or.inl (by simp [Rv.blocks]))
  have n1 : W.heap.size ≠ M.m := by omega
  have n2 : W.heap.size + 1 ≠ M.m := by omega
  have n3 : M.m ≠ W.heap.size := by omega
  have n4 : M.m ≠ W.heap.size + 1 := by omega
  have b0 := h.ck0
  have b1 := h.bd0
  have b2 := h.bd1
  have HO : Hid (∀ k, Rv.own (M.fenced k) k → M.own k) := Lib.hid fun _ h => h
  subst htk
  have n8 : W.heap.size + 1 ≠ M.d := fun e => by have := h.lt (k := M.d) (Or.inl (by simp [Rv.blocks])); omega
  have HC : Hid (∀ w, RefAt w M → Calls Tryz.prog 112 #[.pointer (some ⟨M.d, 0, none⟩), .int .i64 1, .int .i64 k, .int .i64 0] w (RDone M (M.fenced k) (.int .i64 0) w)) := Lib.hid fun w h => refDo44_fence M k hk w h hw
  clear hk hw
  clear h hp hlt
  go_enter Tryz.func55, Tryz.ntmps55
  go_wp2_with fail
  with_reducible refine (HP.out _ (HM.out.below (((Below.refl _ _).alloc (Nat.le_refl _) _).alloc (by simp) _))).mono ?_
  rintro e w2 ⟨rfl, hb, hh⟩
  obtain ⟨rz, ra⟩ := two_news hh
  have HB : Hid (Below W.heap.size W w2) := Lib.hid ((((Below.refl _ _).alloc (Nat.le_refl _) _).alloc (by simp) _).trans (hb.mono (by simp; omega)))
  have HS : Hid (W.heap.size + 1 < w2.heap.size) := Lib.hid (by rw [hh]; simp)
  have HM2 := Lib.hid (HM.out.below HB.out)
  obtain ⟨a0, a1, a2, a3, a4, a5, af⟩ := row6 ra
  obtain ⟨z0, z1, z2, z3, z4, z5, zf⟩ := row6 rz
  obtain ⟨m0, m1, m2, m3, m4, m5, m6, m7, m8, m9, mf⟩ := row10 HM2.out.row
  have HZ := Lib.hid rz
  have HA2 := Lib.hid ra
  clear hb hh ra rz m1
  go_wp2_with fail
  have hq : RefAt (w2.setCell ⟨W.heap.size + 1, 2, none⟩ (.int .i64 0)) M := HM2.out.keep fun k hk => heap_set_other fun e => HM.out.not_own (by omega) (e ▸ hk)
  with_reducible refine (HC.out _ hq).mono ?_
  rintro e w5 ⟨rfl, hr5, ht5⟩
  have HR5 : Hid (RefAt w5 (M.fenced k)) := Lib.hid hr5
  have hrow : w5.heap[M.m]? = some (.cells #[.pointer (some ⟨M.d, 0, none⟩), .slice (some ⟨M.pb, 0, none⟩) M.np M.c4, .int .i64 M.ck, .int .i64 M.bd, .int .i64 M.la.ki, .int .i64 M.la.th, .int .i64 M.la.pl, .int .u64 M.la.ol, .int .u64 M.la.ne, .bool M.la.dn] 191 (0, 0)) := HR5.out.row
  have ra := (ht5.block (W.heap.size + 1) (by have := HS.out; simp [World.setCell]; omega) (HM.out.not_own (by omega))).trans (heap_set (j := 2) (.int .i64 0) HA2.out)
  have rz := (ht5.block W.heap.size (by have := HS.out; simp [World.setCell]; omega) (HM.out.not_own (by omega))).trans ((heap_set_other (j := 2) (v := .int .i64 0) (show W.heap.size ≠ W.heap.size + 1 by omega)).trans HZ.out)
  simp only [List.setIfInBounds_toArray, List.set_cons_succ, List.set_cons_zero] at ra
  have HT5 : Hid (Turn M.own W w5) := Lib.hid (((Turn.of_below HB.out).set (fun e => absurd e (by omega)) _ _).trans ht5 (fun _ _ h => h))
  clear a0 a1 a2 a3 a4 a5 af z0 z1 z2 z3 z4 z5 zf m0 m2 m3 m4 m5 m6 m7 m8 m9 mf hr5 ht5
  obtain ⟨a0, a1, a2, a3, a4, a5, af⟩ := row6 ra
  obtain ⟨z0, z1, z2, z3, z4, z5, zf⟩ := row6 rz
  obtain ⟨m0, m1, m2, m3, m4, m5, m6, m7, m8, m9, mf⟩ := row10 hrow
  have HZ5 := Lib.hid rz
  clear ra rz hrow m0 m1
  go_wp2_with fail
  have hA : ∀ k, Rv.own (M.fenced k) k → k ≠ W.heap.size + 1 := fun k hk e => HM.out.not_own (by omega) (e ▸ (HO.out k hk))
  have hR1 : RefAt (w5.setCell ⟨W.heap.size + 1, 5, none⟩ (.bool true)) (M.fenced k) := HR5.out.keep fun k hk => by rw [heap_set_other (hA k hk)]
  have hT1 : Turn M.own W (w5.setCell ⟨W.heap.size + 1, 5, none⟩ (.bool true)) := (HT5.out.set (fun e => absurd e (by omega)) _ _)
  have hZ1 := ((heap_set_other (j := 5) (v := .bool true) (show W.heap.size ≠ W.heap.size + 1 by omega)).trans HZ5.out)
  obtain ⟨f1, f2⟩ := noteW_done hR1 hT1 rfl rfl (Nat.le_refl W.heap.size) HM.out ⟨5, (k : Int), 0, 0, 0, true⟩ true
  refine bodyPost_ret (v := .agg (Acc.cells ⟨5, (k : Int), 0, 0, 0, true⟩)) ?_ rfl ?_
  · exact results_acc rfl rfl (noteW_res n1 hZ1 M.ck M.bd ⟨5, (k : Int), 0, 0, 0, true⟩ true)
  · exact ⟨rfl, f1, f2⟩
set_option maxRecDepth 100000 in
set_option maxHeartbeats 1000000 in
theorem refFence_no (M : Rv) (t at_ old w : Int) (q0 : -9223372036854775808 ≤ at_) (q1 : at_ ≤ 9223372036854775807) (W : World) (h : RefAt W M) (hc : M.ck ≤ 1000000) (o : Int) (b : Bool) (hp : M.peek at_ = (o, b)) (hE : threadE M.nt t ≠ 0) :
    Calls Tryz.prog 55 #[.pointer (some ⟨M.m, 0, none⟩), .int .i64 5, .int .i64 t, .int .i64 at_, .int .u64 old, .int .u64 w] W (RAcc M (M.note ⟨5, t, 0, 0, 0, false⟩ false) W) := by
  have HP := Lib.hid (refPeekH M at_ q0 q1 o b hp)
  have HM := Lib.hid h
  have hlt := h.lt (k := M.m) (Or.inl (by simp [Rv.blocks]))
  have n1 : W.heap.size ≠ M.m := by omega
  have n2 : W.heap.size + 1 ≠ M.m := by omega
  have n3 : M.m ≠ W.heap.size := by omega
  have n4 : M.m ≠ W.heap.size + 1 := by omega
  have b0 := h.ck0
  have b1 := h.bd0
  have b2 := h.bd1
  have HO : Hid (∀ k, Rv.own M k → M.own k) := Lib.hid fun _ h => h
  have n8 : W.heap.size + 1 ≠ M.d := fun e => by have := h.lt (k := M.d) (Or.inl (by simp [Rv.blocks])); omega
  have HC : Hid (∀ w, RefAt w M → Calls Tryz.prog 112 #[.pointer (some ⟨M.d, 0, none⟩), .int .i64 1, .int .i64 t, .int .i64 0] w (RDone M M (.int .i64 1) w)) := Lib.hid fun w h => refDo44_fence_no M t 0 w h hE
  clear hE
  clear h hp hlt
  go_enter Tryz.func55, Tryz.ntmps55
  go_wp2_with fail
  with_reducible refine (HP.out _ (HM.out.below (((Below.refl _ _).alloc (Nat.le_refl _) _).alloc (by simp) _))).mono ?_
  rintro e w2 ⟨rfl, hb, hh⟩
  obtain ⟨rz, ra⟩ := two_news hh
  have HB : Hid (Below W.heap.size W w2) := Lib.hid ((((Below.refl _ _).alloc (Nat.le_refl _) _).alloc (by simp) _).trans (hb.mono (by simp; omega)))
  have HS : Hid (W.heap.size + 1 < w2.heap.size) := Lib.hid (by rw [hh]; simp)
  have HM2 := Lib.hid (HM.out.below HB.out)
  obtain ⟨a0, a1, a2, a3, a4, a5, af⟩ := row6 ra
  obtain ⟨z0, z1, z2, z3, z4, z5, zf⟩ := row6 rz
  obtain ⟨m0, m1, m2, m3, m4, m5, m6, m7, m8, m9, mf⟩ := row10 HM2.out.row
  have HZ := Lib.hid rz
  have HA2 := Lib.hid ra
  clear hb hh ra rz m1
  go_wp2_with fail
  have hq : RefAt (w2.setCell ⟨W.heap.size + 1, 2, none⟩ (.int .i64 0)) M := HM2.out.keep fun k hk => heap_set_other fun e => HM.out.not_own (by omega) (e ▸ hk)
  with_reducible refine (HC.out _ hq).mono ?_
  rintro e w5 ⟨rfl, hr5, ht5⟩
  have HR5 : Hid (RefAt w5 M) := Lib.hid hr5
  have hrow : w5.heap[M.m]? = some (.cells #[.pointer (some ⟨M.d, 0, none⟩), .slice (some ⟨M.pb, 0, none⟩) M.np M.c4, .int .i64 M.ck, .int .i64 M.bd, .int .i64 M.la.ki, .int .i64 M.la.th, .int .i64 M.la.pl, .int .u64 M.la.ol, .int .u64 M.la.ne, .bool M.la.dn] 191 (0, 0)) := HR5.out.row
  have ra := (ht5.block (W.heap.size + 1) (by have := HS.out; simp [World.setCell]; omega) (HM.out.not_own (by omega))).trans (heap_set (j := 2) (.int .i64 0) HA2.out)
  have rz := (ht5.block W.heap.size (by have := HS.out; simp [World.setCell]; omega) (HM.out.not_own (by omega))).trans ((heap_set_other (j := 2) (v := .int .i64 0) (show W.heap.size ≠ W.heap.size + 1 by omega)).trans HZ.out)
  simp only [List.setIfInBounds_toArray, List.set_cons_succ, List.set_cons_zero] at ra
  have HT5 : Hid (Turn M.own W w5) := Lib.hid (((Turn.of_below HB.out).set (fun e => absurd e (by omega)) _ _).trans ht5 (fun _ _ h => h))
  clear a0 a1 a2 a3 a4 a5 af z0 z1 z2 z3 z4 z5 zf m0 m2 m3 m4 m5 m6 m7 m8 m9 mf hr5 ht5
  obtain ⟨a0, a1, a2, a3, a4, a5, af⟩ := row6 ra
  obtain ⟨z0, z1, z2, z3, z4, z5, zf⟩ := row6 rz
  obtain ⟨m0, m1, m2, m3, m4, m5, m6, m7, m8, m9, mf⟩ := row10 hrow
  have HZ5 := Lib.hid rz
  clear ra rz hrow m0 m1
  go_wp2_with fail
  have hA : ∀ k, Rv.own M k → k ≠ W.heap.size + 1 := fun k hk e => HM.out.not_own (by omega) (e ▸ (HO.out k hk))
  have hR1 : RefAt (w5.setCell ⟨W.heap.size + 1, 5, none⟩ (.bool false)) M := HR5.out.keep fun k hk => by rw [heap_set_other (hA k hk)]
  have hT1 : Turn M.own W (w5.setCell ⟨W.heap.size + 1, 5, none⟩ (.bool false)) := (HT5.out.set (fun e => absurd e (by omega)) _ _)
  have hZ1 := ((heap_set_other (j := 5) (v := .bool false) (show W.heap.size ≠ W.heap.size + 1 by omega)).trans HZ5.out)
  obtain ⟨f1, f2⟩ := noteW_done hR1 hT1 rfl rfl (Nat.le_refl W.heap.size) HM.out ⟨5, t, 0, 0, 0, false⟩ false
  refine bodyPost_ret (v := .agg (Acc.cells ⟨5, t, 0, 0, 0, false⟩)) ?_ rfl ?_
  · exact results_acc rfl rfl (noteW_res n1 hZ1 M.ck M.bd ⟨5, t, 0, 0, 0, false⟩ false)
  · exact ⟨rfl, f1, f2⟩
end Go.Proofs.YtkdcfijebgeajaaGreat

namespace Go.Proofs.YtkdcfijebgeajaaGreat
open Go.RowKit Go.BigFrame
set_option linter.unusedVariables false
set_option linter.unusedSimpArgs false
theorem rpeek_no {M : Rv} {at_ : Int} (h : (M.peek at_).2 = false) : (M.peek at_).1 = 0 := by
  unfold Rv.peek peekV at *
  by_cases h0 : 0 ≤ at_ <;> by_cases h1 : at_ / 8 < (M.n : Int) <;> by_cases h2 : -1 - at_ < (M.np : Int) <;> simp [h0, h1, h2] at h ⊢
theorem rpeek_in {M : Rv} {at_ : Int} (h : (M.peek at_).2 = true) : (0 ≤ at_ ∧ at_.toNat < 8 * M.n) ∨ (¬ 0 ≤ at_ ∧ (-1 - at_).toNat < M.np ∧ at_ = -1 - ((-1 - at_).toNat : Int)) := by
  unfold Rv.peek peekV at h
  by_cases h0 : 0 ≤ at_
  · rw [if_pos h0] at h
    by_cases h1 : at_ / 8 < (M.n : Int)
    · exact Or.inl ⟨h0, by omega⟩
    · rw [if_neg h1] at h; cases h
  · rw [if_neg h0] at h
    by_cases h1 : -1 - at_ < (M.np : Int)
    · exact Or.inr ⟨h0, by omega, by omega⟩
    · rw [if_neg h1] at h; cases h
theorem refDo26_load (M : Rv) (t at_ old w : Int) (q0 : -9223372036854775808 ≤ at_) (q1 : at_ ≤ 9223372036854775807) (W : World) (h : RefAt W M) (hc : M.ck ≤ 1000000) :
    Calls Tryz.prog 55 #[.pointer (some ⟨M.m, 0, none⟩), .int .i64 1, .int .i64 t, .int .i64 at_, .int .u64 old, .int .u64 w] W (RAcc M (M.load t at_) W) := by
  unfold Rv.load Rv.did Rv.res
  cases hp : (M.peek at_).2 with
  | true =>
    have := refLoad_true M t at_ old w q0 q1 W h hc (M.peek at_).1 (Prod.ext rfl hp)
    simpa [hp] using this
  | false =>
    have e := rpeek_no hp
    have := refLoad_false M t at_ old w q0 q1 W h hc 0 (Prod.ext e hp)
    simpa [hp] using this
theorem refDo26_store (M : Rv) (t at_ old w : Int) (q0 : -9223372036854775808 ≤ at_) (q1 : at_ ≤ 9223372036854775807) (W : World) (h : RefAt W M) (hc : M.ck ≤ 1000000) :
    Calls Tryz.prog 55 #[.pointer (some ⟨M.m, 0, none⟩), .int .i64 2, .int .i64 t, .int .i64 at_, .int .u64 old, .int .u64 w] W (RAcc M (M.store t at_ w) W) := by
  unfold Rv.store Rv.did Rv.res
  cases hp : (M.peek at_).2 with
  | true =>
    rcases rpeek_in hp with ⟨h0, h1⟩ | ⟨h0, h1, h2⟩
    · obtain ⟨k, rfl⟩ := Int.eq_ofNat_of_zero_le h0
      have := refStore_seen M t old w k W h hc (M.peek (k : Int)).1 (Prod.ext rfl hp) h1
      simpa [hp, Rv.put] using this
    · obtain ⟨k, hk⟩ : ∃ k, k = (-1 - at_).toNat := ⟨_, rfl⟩
      rw [← hk] at h1 h2
      subst h2
      have := refStore_pass M t old w k W h hc (M.peek (-1 - (k : Int))).1 (Prod.ext rfl hp) h1
      have e : (-1 - (-1 - (k : Int))).toNat = k := by omega
      have h9 : ¬ ((k : Int) ≤ -1) := by omega
      simpa [hp, Rv.put, h9, e] using this
  | false =>
    have e := rpeek_no hp
    have := refStore_bad M t at_ old w q0 q1 W h hc 0 (Prod.ext e hp)
    simpa [hp] using this
theorem refDo26_swap (M : Rv) (t at_ old w : Int) (q0 : -9223372036854775808 ≤ at_) (q1 : at_ ≤ 9223372036854775807) (W : World) (h : RefAt W M) (hc : M.ck ≤ 1000000) :
    Calls Tryz.prog 55 #[.pointer (some ⟨M.m, 0, none⟩), .int .i64 3, .int .i64 t, .int .i64 at_, .int .u64 old, .int .u64 w] W (RAcc M (M.swap t at_ old w) W) := by
  unfold Rv.swap Rv.did Rv.res
  cases hp : (M.peek at_).2 with
  | true =>
    cases he : ((M.peek at_).1 == old) with
    | true =>
      rcases rpeek_in hp with ⟨h0, h1⟩ | ⟨h0, h1, h2⟩
      · obtain ⟨k, rfl⟩ := Int.eq_ofNat_of_zero_le h0
        have := refSwap_seen M t old w k W h hc (M.peek (k : Int)).1 (Prod.ext rfl hp) h1 he
        simpa [hp, he, Rv.put] using this
      · obtain ⟨k, hk⟩ : ∃ k, k = (-1 - at_).toNat := ⟨_, rfl⟩
        rw [← hk] at h1 h2
        subst h2
        have := refSwap_pass M t old w k W h hc (M.peek (-1 - (k : Int))).1 (Prod.ext rfl hp) h1 he
        have e : (-1 - (-1 - (k : Int))).toNat = k := by omega
        have h9 : ¬ ((k : Int) ≤ -1) := by omega
        simpa [hp, he, Rv.put, h9, e] using this
    | false =>
      have := refSwap_no M t at_ old w q0 q1 W h hc (M.peek at_).1 (Prod.ext rfl hp) he
      simpa [hp, he] using this
  | false =>
    have e := rpeek_no hp
    have := refSwap_bad M t at_ old w q0 q1 W h hc 0 (Prod.ext e hp)
    simpa [hp] using this
theorem refDo26_flush (M : Rv) (t at_ old w : Int) (q0 : -9223372036854775808 ≤ at_) (q1 : at_ ≤ 9223372036854775807) (W : World) (h : RefAt W M) (hc : M.ck ≤ 1000000) :
    Calls Tryz.prog 55 #[.pointer (some ⟨M.m, 0, none⟩), .int .i64 4, .int .i64 t, .int .i64 at_, .int .u64 old, .int .u64 w] W (RAcc M (M.flushM t at_) W) := by
  unfold Rv.flushM
  by_cases h0 : 0 ≤ at_
  · by_cases hE : M.flushE t (at_ / 8) = 0
    · rw [if_pos ⟨h0, hE⟩]
      exact refFlush_yes M t at_ old w q0 q1 W h hc _ _ rfl h0 hE
    · rw [if_neg (fun c => hE c.2)]
      exact refFlush_no M t at_ old w q0 q1 W h hc _ _ rfl h0 hE
  · rw [if_neg (fun c => h0 c.1)]
    exact refFlush_neg M t at_ old w q0 q1 W h hc _ _ rfl (by omega)
theorem refDo26_fence (M : Rv) (t at_ old w : Int) (q0 : -9223372036854775808 ≤ at_) (q1 : at_ ≤ 9223372036854775807) (W : World) (h : RefAt W M) (hc : M.ck ≤ 1000000) (hw : M.wm ≤ 999999) :
    Calls Tryz.prog 55 #[.pointer (some ⟨M.m, 0, none⟩), .int .i64 5, .int .i64 t, .int .i64 at_, .int .u64 old, .int .u64 w] W (RAcc M (M.fenceM t) W) := by
  unfold Rv.fenceM
  by_cases hE : threadE M.nt t = 0
  · rw [if_pos hE]
    have ht : 0 ≤ t ∧ t < M.nt := by unfold threadE at hE; split at hE; cases hE; omega
    obtain ⟨k, rfl⟩ := Int.eq_ofNat_of_zero_le ht.1
    exact refFence_yes M _ at_ old w q0 q1 W h hc _ _ rfl k (by omega) hw rfl
  · rw [if_neg hE]
    exact refFence_no M t at_ old w q0 q1 W h hc _ _ rfl hE
/-- What an access that is done again asks to be there. -/
def Acc.was (a : Acc) : Int := if a.dn then a.ol else 18446744073709551615 - a.ol
theorem refDo26 (M : Rv) (a : Acc) (ha : a.May) (hk : 1 ≤ a.ki ∧ a.ki ≤ 5) (W : World) (h : RefAt W M) (hc : M.ck ≤ 1000000) (hw : M.wm ≤ 999999) :
    Calls Tryz.prog 55 #[.pointer (some ⟨M.m, 0, none⟩), .int .i64 a.ki, .int .i64 a.th, .int .i64 a.pl, .int .u64 a.was, .int .u64 a.ne] W (RAcc M (M.acts a) W) := by
  obtain ⟨q0, q1, -, -⟩ := ha
  obtain ⟨ki, th, pl, ol, ne, dn⟩ := a
  simp only at hk q0 q1
  rcases (show ki = 1 ∨ ki = 2 ∨ ki = 3 ∨ ki = 4 ∨ ki = 5 by omega) with rfl | rfl | rfl | rfl | rfl
  · exact refDo26_load M th pl _ ne q0 q1 W h hc
  · exact refDo26_store M th pl _ ne q0 q1 W h hc
  · exact refDo26_swap M th pl _ ne q0 q1 W h hc
  · exact refDo26_flush M th pl _ ne q0 q1 W h hc
  · exact refDo26_fence M th pl _ ne q0 q1 W h hc hw
theorem racts_own (M : Rv) (a : Acc) : (M.acts a).own = M.own ∧ (M.acts a).m = M.m ∧ (M.acts a).wm ≤ M.wm + 1 ∧ (M.acts a).ck ≤ M.ck + 1 := by
  unfold Rv.acts
  have hp : ∀ x v, (M.put x v).own = M.own ∧ (M.put x v).m = M.m ∧ (M.put x v).wm = M.wm ∧ (M.put x v).ck = M.ck := fun x v => by unfold Rv.put; split <;> exact ⟨rfl, rfl, rfl, rfl⟩
  have hd : ∀ x nw pu, (M.did x nw pu).own = M.own ∧ (M.did x nw pu).m = M.m ∧ (M.did x nw pu).wm ≤ M.wm + 1 ∧ (M.did x nw pu).ck ≤ M.ck + 1 := fun x nw pu => by
    unfold Rv.did
    split
    · obtain ⟨a, b, c, d⟩ := hp x.pl nw
      exact ⟨a, b, by show (M.put x.pl nw).wm ≤ _; omega, by show (M.put x.pl nw).ck + 1 ≤ _; omega⟩
    · exact ⟨rfl, rfl, by show M.wm ≤ M.wm + 1; omega, by show M.ck + 1 ≤ M.ck + 1; omega⟩
  split
  · exact hd _ _ _
  split
  · exact hd _ _ _
  split
  · exact hd _ _ _
  split
  · unfold Rv.flushM; split
    · exact ⟨rfl, rfl, by show M.wm ≤ M.wm + 1; omega, by show M.ck + 1 ≤ M.ck + 1; omega⟩
    · exact ⟨rfl, rfl, by show M.wm ≤ M.wm + 1; omega, by show M.ck + 1 ≤ M.ck + 1; omega⟩
  split
  · unfold Rv.fenceM; split
    · exact ⟨rfl, rfl, by show M.wm + 1 ≤ M.wm + 1; omega, by show M.ck + 1 ≤ M.ck + 1; omega⟩
    · exact ⟨rfl, rfl, by show M.wm ≤ M.wm + 1; omega, by show M.ck + 1 ≤ M.ck + 1; omega⟩
  · exact ⟨rfl, rfl, by omega, by omega⟩
end Go.Proofs.YtkdcfijebgeajaaGreat

namespace Go.Proofs.YtkdcfijebgeajaaGreat
open Go.RowKit Go.BigFrame
set_option linter.unusedVariables false
set_option linter.unusedSimpArgs false
def RNew (f : Nat → Int) (n nt np : Nat) (W : World) (e : Ending) (W' : World) : Prop :=
  ∃ R : Rv, e = .returned (.pointer (some ⟨R.m, 0, none⟩)) ∧ RefAt W' R ∧ Init R f n nt np ∧ (∀ k, R.own k → W.heap.size ≤ k) ∧ Below W.heap.size W W' ∧ R.wm = 0
theorem rstart_own {m d kb sb wb fb pb n nt np c0 c1 c3 : Nat} {fg : Nat → Nat} {f : Nat → Int} {B : Nat} (h1 : ∀ g, g ∈ [m, d, kb, sb, wb, fb, pb] → B ≤ g) (h2 : ∀ t, t < nt → B ≤ fg t) : ∀ k, (Rv.start m d kb sb wb fb pb n nt np c0 c1 c3 fg f).own k → B ≤ k := by
  rintro k (hk | ⟨t, ht, e⟩)
  · exact h1 k hk
  · have := h2 t ht; have e : fg t = k := e; omega
theorem dev3_lt {W0 W : World} {d kb sb wb c0 c1 fb nt c3 m : Nat} {fg : Nat → Nat} {f : Nat → Int} (h : Dev3 W0 W d kb sb wb c0 c1 (.slice (some ⟨fb, 0, none⟩) nt c3) nt m fg f) : (∀ g, g ∈ [d, kb, sb, wb, fb] → g < W.heap.size ∧ W0.heap.size ≤ g) ∧ ∀ t, t < nt → fg t < W.heap.size ∧ W0.heap.size ≤ fg t := by
  refine ⟨fun g hg => ?_, fun t ht => ⟨(h.rf t ht).lt, h.bf t ht⟩⟩
  simp only [List.mem_cons, List.not_mem_nil, or_false] at hg
  have hb := h.base
  rcases hg with rfl | rfl | rfl | rfl | rfl
  · exact ⟨(Array.getElem?_eq_some_iff.1 h.row).1, hb _ (by simp)⟩
  · exact ⟨h.rk.lt, hb _ (by simp)⟩
  · exact ⟨h.rs.lt, hb _ (by simp)⟩
  · exact ⟨h.rw.lt, hb _ (by simp)⟩
  · have := own_lt h.fl (k := g) rfl; exact ⟨this.2, this.1⟩
/-- The last step: the memory's own block. -/
theorem new_last {W0 W W2 : World} {d kb sb wb fb c0 c1 c3 n nt np m pb : Nat} {fg : Nat → Nat} {f : Nat → Int} {B : World} (h : Dev3 W0 W d kb sb wb c0 c1 (.slice (some ⟨fb, 0, none⟩) nt c3) nt n fg f) (hB : B.heap.size ≤ W0.heap.size) (hb : Below W.heap.size W W2) (hbb : Below B.heap.size B W2)
    (hm : W.heap.size ≤ m) (hp : W.heap.size ≤ pb ∨ B.heap.size ≤ pb ∧ pb < W0.heap.size) (hmp : m ≠ pb)
    (hr : W2.heap[m]? = some (.cells #[.pointer (some ⟨d, 0, none⟩), .slice (some ⟨pb, 0, none⟩) np np, .int .i64 0, .int .i64 0, .int .i64 0, .int .i64 0, .int .i64 0, .int .u64 0, .int .u64 0, .bool false] 191 (0, 0))) (hpr : RowAt W2 pb np fun _ => .int .u64 0) (n0 : 0 < n) (n1 : n ≤ 262144) (t0 : 0 < nt) (t1 : nt ≤ 64) (p1 : np ≤ 262144) :
    RNew f n nt np B (.returned (.pointer (some ⟨m, 0, none⟩))) W2 := by
  obtain ⟨l1, l2⟩ := dev3_lt h
  have s0 := h.below.size
  refine ⟨Rv.start m d kb sb wb fb pb n nt np c0 c1 c3 fg f, rfl, ?_, ref_init _ _ _ _ _ _ _ _ _ _ _ _ _ _ _, rstart_own ?_ (fun t ht => by have := l2 t ht; omega), hbb, rfl⟩
  · refine ref_start h ?_ ⟨fun hg => by have := l1 m hg; omega, fun t ht => by have := l2 t ht; omega⟩ ⟨fun hg => by have := l1 pb hg; omega, fun t ht => by have := l2 t ht; omega⟩ hmp hr hpr n0 n1 t0 t1 p1
    rintro g (hg | ⟨t, ht, rfl⟩)
    · exact hb.block g (l1 g hg).1
    · exact hb.block _ (l2 t ht).1
  · intro g hg
    rcases List.mem_cons.1 hg with rfl | hg
    · omega
    · by_cases e : g = pb
      · omega
      · have : g ∈ [d, kb, sb, wb, fb] := by
          simp only [List.mem_cons, List.not_mem_nil, or_false] at hg ⊢
          omega
        have := l1 g this; omega
set_option maxRecDepth 100000 in
set_option maxHeartbeats 2000000 in
theorem refNew9 (b off m cap nt np : Nat) (hm0 : 0 < m) (hm1 : m ≤ 262144) (ht0 : 0 < nt) (ht1 : nt ≤ 64) (hp : np ≤ 262144) (f : Nat → Int) (W0 : World) (hb : b < W0.heap.size) (hw : ∀ j, j < 8 * m → W0.cell? ⟨b, off + j, none⟩ = some (.int .u64 (f j))) :
    Calls Tryz.prog 53 #[.slice (some ⟨b, off, none⟩) (8 * m) cap, .int .i64 nt, .int .i64 np] W0 (RNew f m nt np W0) := by
  have HO : Hid (∀ w, Below W0.heap.size W0 w → Calls Tryz.prog 108 #[.slice (some ⟨b, off, none⟩) (8 * m) cap, .int .i64 nt] w (ROpen w m nt f)) := Lib.hid fun w h => refOpen25 _ b off m cap nt rfl hm0 hm1 ht0 ht1 f w (Nat.lt_of_lt_of_le hb h.size) fun j hj => (h.cell (p := ⟨b, off + j, none⟩) hb).trans (hw j hj)
  have HB := Lib.hid (And.intro hm0 (And.intro hm1 (And.intro ht0 (And.intro ht1 hp))))
  have mk1 := mk_row 24 105 _ _ 8 Tryz.underlying24 info42 rfl np (by omega) (by omega)
  have i0 : (0 : Int) ≤ (np : Int) := by omega
  clear hb hw
  go_enter Tryz.func53, Tryz.ntmps53
  go_wp2_with fail
  go_region_with (go_at_call 108; refine (HO.out _ (by first | exact (Below.refl _ _).drew | exact ((Below.refl _ _).alloc (Nat.le_refl _) _).drew | exact (Below.refl _ _).drew.alloc (by simp) _)).mono ?_; rintro e w1 ⟨d, kb, sb, wb, fb, c0, c1, c3, fg, rfl, hd⟩; have HD := Lib.hid hd; clear hd)
  all_goals
    go_wp2_with fail
    go_ret
  · obtain ⟨h1, h2, h3, h4, h5⟩ := HB.out
    have z := HD.out.below.size
    refine new_last (W0 := W0.drew) (W := w1) (m := w1.heap.size + 1) (pb := w1.heap.size) HD.out (Nat.le_refl _) (((Below.refl _ _).alloc (Nat.le_refl _) _).alloc (by simp) _) (((((Below.refl _ W0).drew.trans HD.out.below).alloc z _).alloc (by simp at z ⊢; omega) _)) (by omega) (Or.inl (Nat.le_refl _)) (by omega) (two_new w1 _ _).2 ⟨_, _, (two_new w1 _ _).1, fun k hk => made_get _ _ _ hk⟩ h1 h2 h3 h4 h5
  · obtain ⟨h1, h2, h3, h4, h5⟩ := HB.out
    have z := HD.out.below.size
    have zz : W0.heap.size + 1 ≤ w1.heap.size := by simp at z; omega
    have e0 : w1.heap[W0.heap.size]? = some (.cells (madeCells #[.int .u64 0] np) 105) := (HD.out.below.block W0.heap.size (by simp)).trans (heap_alloc_new W0 _)
    refine new_last (W0 := (W0.alloc (.cells (madeCells #[.int .u64 0] np) 105)).drew) (W := w1) (m := w1.heap.size) (pb := W0.heap.size) HD.out (by simp) ((Below.refl _ _).alloc (Nat.le_refl _) _) (((((Below.refl _ W0).alloc (Nat.le_refl _) _).drew.trans (HD.out.below.mono (by simp))).alloc (by omega) _)) (by omega) (Or.inr ⟨Nat.le_refl _, by simp⟩) (by omega) (heap_alloc_new w1 _) ⟨_, _, (Below.heap_alloc w1 _ _ (by omega)).trans e0, fun k hk => made_get _ _ _ hk⟩ h1 h2 h3 h4 h5
end Go.Proofs.YtkdcfijebgeajaaGreat
