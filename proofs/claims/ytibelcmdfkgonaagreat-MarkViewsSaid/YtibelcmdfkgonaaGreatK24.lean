/- The document's memory: flush and fence as accesses, walked. -/
import Derived.Test.YtibelcmdfkgonaaGreatK23
namespace Go.Proofs.YtibelcmdfkgonaaGreat
open Go.RowKit Go.BigFrame
set_option linter.unusedVariables false
set_option linter.unusedSimpArgs false
set_option maxRecDepth 100000 in
set_option maxHeartbeats 1000000 in
theorem refFlush_neg (M : Rv) (t at_ old w : Int) (q0 : -9223372036854775808 ≤ at_) (q1 : at_ ≤ 9223372036854775807) (W : World) (h : RefAt W M) (hc : M.ck ≤ 1000000) (o : Int) (b : Bool) (hp : M.peek at_ = (o, b)) (hneg : at_ < 0) :
    Calls Tryz.prog 65 #[.pointer (some ⟨M.m, 0, none⟩), .int .i64 4, .int .i64 t, .int .i64 at_, .int .u64 old, .int .u64 w] W (RAcc M (M.note ⟨4, t, at_, 0, 0, false⟩ false) W) := by
  have HP := Lib.hid (refPeekH M at_ q0 q1 o b hp)
  have HM := Lib.hid h
  have hlt := h.lt (k := M.m) (Or.inl (by simp [Rv.blocks]))
  have n1 : W.heap.size ≠ M.m := by omega
  have n2 : W.heap.size + 1 ≠ M.m := by omega
  have n3 : M.m ≠ W.heap.size := by omega
  have n4 : M.m ≠ W.heap.size + 1 := by omega
  have b0 := h.ck0
  have b1 := h.bd0
  have b2 := h.bd1
  have HO : Hid (∀ k, M.own k → M.own k) := Lib.hid fun _ h => h
  have d0 : decide (0 ≤ at_) = false := bool_no (by omega)
  clear h hp hlt
  go_enter Tryz.func65, Tryz.ntmps65
  go_wp2_with fail
  with_reducible refine (HP.out _ (HM.out.below (((Below.refl _ _).alloc (Nat.le_refl _) _).alloc (by simp) _))).mono ?_
  rintro e w2 ⟨rfl, hb, hh⟩
  obtain ⟨rz, ra⟩ := two_news hh
  have HB : Hid (Below W.heap.size W w2) := Lib.hid ((((Below.refl _ _).alloc (Nat.le_refl _) _).alloc (by simp) _).trans (hb.mono (by simp; omega)))
  have HS : Hid (W.heap.size + 1 < w2.heap.size) := Lib.hid (by rw [hh]; simp)
  have HM2 := Lib.hid (HM.out.below HB.out)
  obtain ⟨a0, a1, a2, a3, a4, a5, af⟩ := row6 ra
  obtain ⟨z0, z1, z2, z3, z4, z5, zf⟩ := row6 rz
  obtain ⟨m0, m1, m2, m3, m4, m5, m6, m7, m8, m9, mf⟩ := row10 HM2.out.row
  have HZ := Lib.hid rz
  clear hb hh ra rz m0 m1
  go_wp2_with fail
  have hA : ∀ k, Rv.own M k → k ≠ W.heap.size + 1 := fun k hk e => HM.out.not_own (by omega) (e ▸ (HO.out k hk))
  have hR1 : RefAt (w2.setCell ⟨W.heap.size + 1, 5, none⟩ (.bool false)) M := HM2.out.keep fun k hk => by rw [heap_set_other (hA k hk)]
  have hT1 : Turn M.own W (w2.setCell ⟨W.heap.size + 1, 5, none⟩ (.bool false)) := ((Turn.of_below HB.out).set (fun e => absurd e (by omega)) _ _)
  have hZ1 := ((heap_set_other (j := 5) (v := .bool false) (show W.heap.size ≠ W.heap.size + 1 by omega)).trans HZ.out)
  obtain ⟨f1, f2⟩ := noteW_done hR1 hT1 rfl rfl (Nat.le_refl W.heap.size) HM.out ⟨4, t, at_, 0, 0, false⟩ false
  refine bodyPost_ret (v := .agg (Acc.cells ⟨4, t, at_, 0, 0, false⟩)) ?_ rfl ?_
  · exact results_acc rfl rfl (noteW_res n1 hZ1 M.ck M.bd ⟨4, t, at_, 0, 0, false⟩ false)
  · exact ⟨rfl, f1, f2⟩
set_option maxRecDepth 100000 in
set_option maxHeartbeats 1000000 in
theorem refFlush_yes (M : Rv) (t at_ old w : Int) (q0 : -9223372036854775808 ≤ at_) (q1 : at_ ≤ 9223372036854775807) (W : World) (h : RefAt W M) (hc : M.ck ≤ 1000000) (o : Int) (b : Bool) (hp : M.peek at_ = (o, b)) (q2 : 0 ≤ at_) (hE : M.flushE t (at_ / 8) = 0) :
    Calls Tryz.prog 65 #[.pointer (some ⟨M.m, 0, none⟩), .int .i64 4, .int .i64 t, .int .i64 at_, .int .u64 old, .int .u64 w] W (RAcc M ((M.flushed t (at_ / 8)).note ⟨4, t, at_, 0, 0, true⟩ true) W) := by
  have HP := Lib.hid (refPeekH M at_ q0 q1 o b hp)
  have HM := Lib.hid h
  have hlt := h.lt (k := M.m) (Or.inl (by simp [Rv.blocks]))
  have n1 : W.heap.size ≠ M.m := by omega
  have n2 : W.heap.size + 1 ≠ M.m := by omega
  have n3 : M.m ≠ W.heap.size := by omega
  have n4 : M.m ≠ W.heap.size + 1 := by omega
  have b0 := h.ck0
  have b1 := h.bd0
  have b2 := h.bd1
  have HO : Hid (∀ k, Rv.own (M.flushed t (at_ / 8)) k → M.own k) := Lib.hid fun _ h => h
  have d0 : decide (0 ≤ at_) = true := bool_yes q2
  have e8 : at_.tdiv 8 = at_ / 8 := Int.tdiv_eq_ediv_of_nonneg q2
  have HC : Hid (∀ w, RefAt w M → Calls Tryz.prog 116 #[.pointer (some ⟨M.d, 0, none⟩), .int .i64 0, .int .i64 t, .int .i64 (at_ / 8)] w (RDone M (M.flushed t (at_ / 8)) (.int .i64 0) w)) := Lib.hid fun w hw => by
    have := refDo44_flush M t (at_ / 8) w hw
    rw [if_pos hE, hE] at this; exact this
  clear hE
  clear h hp hlt
  go_enter Tryz.func65, Tryz.ntmps65
  go_wp2_with fail
  with_reducible refine (HP.out _ (HM.out.below (((Below.refl _ _).alloc (Nat.le_refl _) _).alloc (by simp) _))).mono ?_
  rintro e w2 ⟨rfl, hb, hh⟩
  obtain ⟨rz, ra⟩ := two_news hh
  have HB : Hid (Below W.heap.size W w2) := Lib.hid ((((Below.refl _ _).alloc (Nat.le_refl _) _).alloc (by simp) _).trans (hb.mono (by simp; omega)))
  have HS : Hid (W.heap.size + 1 < w2.heap.size) := Lib.hid (by rw [hh]; simp)
  have HM2 := Lib.hid (HM.out.below HB.out)
  obtain ⟨a0, a1, a2, a3, a4, a5, af⟩ := row6 ra
  obtain ⟨z0, z1, z2, z3, z4, z5, zf⟩ := row6 rz
  obtain ⟨m0, m1, m2, m3, m4, m5, m6, m7, m8, m9, mf⟩ := row10 HM2.out.row
  have HZ := Lib.hid rz
  have HA2 := Lib.hid ra
  clear hb hh ra rz m1
  go_wp2_with fail
  with_reducible refine (HC.out w2 HM2.out).mono ?_
  rintro e w5 ⟨rfl, hr5, ht5⟩
  have HR5 : Hid (RefAt w5 (M.flushed t (at_ / 8))) := Lib.hid hr5
  have hrow : w5.heap[M.m]? = some (.cells #[.pointer (some ⟨M.d, 0, none⟩), .slice (some ⟨M.pb, 0, none⟩) M.np M.c4, .int .i64 M.ck, .int .i64 M.bd, .int .i64 M.la.ki, .int .i64 M.la.th, .int .i64 M.la.pl, .int .u64 M.la.ol, .int .u64 M.la.ne, .bool M.la.dn] 200 (0, 0)) := HR5.out.row
  have ra := (ht5.block (W.heap.size + 1) (by have := HS.out; omega) (HM.out.not_own (by omega))).trans HA2.out
  have rz := (ht5.block W.heap.size (by have := HS.out; omega) (HM.out.not_own (by omega))).trans HZ.out
  have HT5 : Hid (Turn M.own W w5) := Lib.hid ((Turn.of_below HB.out).trans ht5 (fun _ _ h => h))
  clear a0 a1 a2 a3 a4 a5 af z0 z1 z2 z3 z4 z5 zf m0 m2 m3 m4 m5 m6 m7 m8 m9 mf hr5 ht5
  obtain ⟨a0, a1, a2, a3, a4, a5, af⟩ := row6 ra
  obtain ⟨z0, z1, z2, z3, z4, z5, zf⟩ := row6 rz
  obtain ⟨m0, m1, m2, m3, m4, m5, m6, m7, m8, m9, mf⟩ := row10 hrow
  have HZ5 := Lib.hid rz
  clear ra rz hrow m0 m1
  go_wp2_with fail
  have hA : ∀ k, Rv.own (M.flushed t (at_ / 8)) k → k ≠ W.heap.size + 1 := fun k hk e => HM.out.not_own (by omega) (e ▸ (HO.out k hk))
  have hR1 : RefAt (w5.setCell ⟨W.heap.size + 1, 5, none⟩ (.bool true)) (M.flushed t (at_ / 8)) := HR5.out.keep fun k hk => by rw [heap_set_other (hA k hk)]
  have hT1 : Turn M.own W (w5.setCell ⟨W.heap.size + 1, 5, none⟩ (.bool true)) := (HT5.out.set (fun e => absurd e (by omega)) _ _)
  have hZ1 := ((heap_set_other (j := 5) (v := .bool true) (show W.heap.size ≠ W.heap.size + 1 by omega)).trans HZ5.out)
  obtain ⟨f1, f2⟩ := noteW_done hR1 hT1 rfl rfl (Nat.le_refl W.heap.size) HM.out ⟨4, t, at_, 0, 0, true⟩ true
  refine bodyPost_ret (v := .agg (Acc.cells ⟨4, t, at_, 0, 0, true⟩)) ?_ rfl ?_
  · exact results_acc rfl rfl (noteW_res n1 hZ1 M.ck M.bd ⟨4, t, at_, 0, 0, true⟩ true)
  · exact ⟨rfl, f1, f2⟩
set_option maxRecDepth 100000 in
set_option maxHeartbeats 1000000 in
theorem refFlush_no (M : Rv) (t at_ old w : Int) (q0 : -9223372036854775808 ≤ at_) (q1 : at_ ≤ 9223372036854775807) (W : World) (h : RefAt W M) (hc : M.ck ≤ 1000000) (o : Int) (b : Bool) (hp : M.peek at_ = (o, b)) (q2 : 0 ≤ at_) (hE : M.flushE t (at_ / 8) ≠ 0) :
    Calls Tryz.prog 65 #[.pointer (some ⟨M.m, 0, none⟩), .int .i64 4, .int .i64 t, .int .i64 at_, .int .u64 old, .int .u64 w] W (RAcc M (M.note ⟨4, t, at_, 0, 0, false⟩ false) W) := by
  have HP := Lib.hid (refPeekH M at_ q0 q1 o b hp)
  have HM := Lib.hid h
  have hlt := h.lt (k := M.m) (Or.inl (by simp [Rv.blocks]))
  have n1 : W.heap.size ≠ M.m := by omega
  have n2 : W.heap.size + 1 ≠ M.m := by omega
  have n3 : M.m ≠ W.heap.size := by omega
  have n4 : M.m ≠ W.heap.size + 1 := by omega
  have b0 := h.ck0
  have b1 := h.bd0
  have b2 := h.bd1
  have HO : Hid (∀ k, Rv.own M k → M.own k) := Lib.hid fun _ h => h
  have d0 : decide (0 ≤ at_) = true := bool_yes q2
  have e8 : at_.tdiv 8 = at_ / 8 := Int.tdiv_eq_ediv_of_nonneg q2
  obtain ⟨E, hE2⟩ : ∃ E, E = M.flushE t (at_ / 8) := ⟨_, rfl⟩
  rw [← hE2] at hE
  have HC : Hid (∀ w, RefAt w M → Calls Tryz.prog 116 #[.pointer (some ⟨M.d, 0, none⟩), .int .i64 0, .int .i64 t, .int .i64 (at_ / 8)] w (RDone M M (.int .i64 E) w)) := Lib.hid fun w hw => by
    have := refDo44_flush M t (at_ / 8) w hw
    rw [← hE2, if_neg hE] at this; exact this
  have e0 : (E == 0) = false := by simpa using hE
  clear hE hE2
  clear h hp hlt
  go_enter Tryz.func65, Tryz.ntmps65
  go_wp2_with fail
  with_reducible refine (HP.out _ (HM.out.below (((Below.refl _ _).alloc (Nat.le_refl _) _).alloc (by simp) _))).mono ?_
  rintro e w2 ⟨rfl, hb, hh⟩
  obtain ⟨rz, ra⟩ := two_news hh
  have HB : Hid (Below W.heap.size W w2) := Lib.hid ((((Below.refl _ _).alloc (Nat.le_refl _) _).alloc (by simp) _).trans (hb.mono (by simp; omega)))
  have HS : Hid (W.heap.size + 1 < w2.heap.size) := Lib.hid (by rw [hh]; simp)
  have HM2 := Lib.hid (HM.out.below HB.out)
  obtain ⟨a0, a1, a2, a3, a4, a5, af⟩ := row6 ra
  obtain ⟨z0, z1, z2, z3, z4, z5, zf⟩ := row6 rz
  obtain ⟨m0, m1, m2, m3, m4, m5, m6, m7, m8, m9, mf⟩ := row10 HM2.out.row
  have HZ := Lib.hid rz
  have HA2 := Lib.hid ra
  clear hb hh ra rz m1
  go_wp2_with fail
  with_reducible refine (HC.out w2 HM2.out).mono ?_
  rintro e w5 ⟨rfl, hr5, ht5⟩
  have HR5 : Hid (RefAt w5 M) := Lib.hid hr5
  have hrow : w5.heap[M.m]? = some (.cells #[.pointer (some ⟨M.d, 0, none⟩), .slice (some ⟨M.pb, 0, none⟩) M.np M.c4, .int .i64 M.ck, .int .i64 M.bd, .int .i64 M.la.ki, .int .i64 M.la.th, .int .i64 M.la.pl, .int .u64 M.la.ol, .int .u64 M.la.ne, .bool M.la.dn] 200 (0, 0)) := HR5.out.row
  have ra := (ht5.block (W.heap.size + 1) (by have := HS.out; omega) (HM.out.not_own (by omega))).trans HA2.out
  have rz := (ht5.block W.heap.size (by have := HS.out; omega) (HM.out.not_own (by omega))).trans HZ.out
  have HT5 : Hid (Turn M.own W w5) := Lib.hid ((Turn.of_below HB.out).trans ht5 (fun _ _ h => h))
  clear a0 a1 a2 a3 a4 a5 af z0 z1 z2 z3 z4 z5 zf m0 m2 m3 m4 m5 m6 m7 m8 m9 mf hr5 ht5
  obtain ⟨a0, a1, a2, a3, a4, a5, af⟩ := row6 ra
  obtain ⟨z0, z1, z2, z3, z4, z5, zf⟩ := row6 rz
  obtain ⟨m0, m1, m2, m3, m4, m5, m6, m7, m8, m9, mf⟩ := row10 hrow
  have HZ5 := Lib.hid rz
  clear ra rz hrow m0 m1
  go_wp2_with fail
  have hA : ∀ k, Rv.own M k → k ≠ W.heap.size + 1 := fun k hk e => HM.out.not_own (by omega) (e ▸ (HO.out k hk))
  have hR1 : RefAt (w5.setCell ⟨W.heap.size + 1, 5, none⟩ (.bool false)) M := HR5.out.keep fun k hk => by rw [heap_set_other (hA k hk)]
  have hT1 : Turn M.own W (w5.setCell ⟨W.heap.size + 1, 5, none⟩ (.bool false)) := (HT5.out.set (fun e => absurd e (by omega)) _ _)
  have hZ1 := ((heap_set_other (j := 5) (v := .bool false) (show W.heap.size ≠ W.heap.size + 1 by omega)).trans HZ5.out)
  obtain ⟨f1, f2⟩ := noteW_done hR1 hT1 rfl rfl (Nat.le_refl W.heap.size) HM.out ⟨4, t, at_, 0, 0, false⟩ false
  refine bodyPost_ret (v := .agg (Acc.cells ⟨4, t, at_, 0, 0, false⟩)) ?_ rfl ?_
  · exact results_acc rfl rfl (noteW_res n1 hZ1 M.ck M.bd ⟨4, t, at_, 0, 0, false⟩ false)
  · exact ⟨rfl, f1, f2⟩
set_option maxRecDepth 100000 in
set_option maxHeartbeats 1000000 in
theorem refFence_yes (M : Rv) (t at_ old w : Int) (q0 : -9223372036854775808 ≤ at_) (q1 : at_ ≤ 9223372036854775807) (W : World) (h : RefAt W M) (hc : M.ck ≤ 1000000) (o : Int) (b : Bool) (hp : M.peek at_ = (o, b)) (k : Nat) (hk : k < M.nt) (hw : M.wm ≤ 999999) (htk : t = (k : Int)) :
    Calls Tryz.prog 65 #[.pointer (some ⟨M.m, 0, none⟩), .int .i64 5, .int .i64 t, .int .i64 at_, .int .u64 old, .int .u64 w] W (RAcc M ((M.fenced k).note ⟨5, (k : Int), 0, 0, 0, true⟩ true) W) := by
  have HP := Lib.hid (refPeekH M at_ q0 q1 o b hp)
  have HM := Lib.hid h
  have hlt := h.lt (k := M.m) (Or.inl (by simp [Rv.blocks]))
  have n1 : W.heap.size ≠ M.m := by omega
  have n2 : W.heap.size + 1 ≠ M.m := by omega
  have n3 : M.m ≠ W.heap.size := by omega
  have n4 : M.m ≠ W.heap.size + 1 := by omega
  have b0 := h.ck0
  have b1 := h.bd0
  have b2 := h.bd1
  have HO : Hid (∀ k, Rv.own (M.fenced k) k → M.own k) := Lib.hid fun _ h => h
  subst htk
  have n8 : W.heap.size + 1 ≠ M.d := fun e => by have := h.lt (k := M.d) (Or.inl (by simp [Rv.blocks])); omega
  have HC : Hid (∀ w, RefAt w M → Calls Tryz.prog 116 #[.pointer (some ⟨M.d, 0, none⟩), .int .i64 1, .int .i64 k, .int .i64 0] w (RDone M (M.fenced k) (.int .i64 0) w)) := Lib.hid fun w h => refDo44_fence M k hk w h hw
  clear hk hw
  clear h hp hlt
  go_enter Tryz.func65, Tryz.ntmps65
  go_wp2_with fail
  with_reducible refine (HP.out _ (HM.out.below (((Below.refl _ _).alloc (Nat.le_refl _) _).alloc (by simp) _))).mono ?_
  rintro e w2 ⟨rfl, hb, hh⟩
  obtain ⟨rz, ra⟩ := two_news hh
  have HB : Hid (Below W.heap.size W w2) := Lib.hid ((((Below.refl _ _).alloc (Nat.le_refl _) _).alloc (by simp) _).trans (hb.mono (by simp; omega)))
  have HS : Hid (W.heap.size + 1 < w2.heap.size) := Lib.hid (by rw [hh]; simp)
  have HM2 := Lib.hid (HM.out.below HB.out)
  obtain ⟨a0, a1, a2, a3, a4, a5, af⟩ := row6 ra
  obtain ⟨z0, z1, z2, z3, z4, z5, zf⟩ := row6 rz
  obtain ⟨m0, m1, m2, m3, m4, m5, m6, m7, m8, m9, mf⟩ := row10 HM2.out.row
  have HZ := Lib.hid rz
  have HA2 := Lib.hid ra
  clear hb hh ra rz m1
  go_wp2_with fail
  have hq : RefAt (w2.setCell ⟨W.heap.size + 1, 2, none⟩ (.int .i64 0)) M := HM2.out.keep fun k hk => heap_set_other fun e => HM.out.not_own (by omega) (e ▸ hk)
  with_reducible refine (HC.out _ hq).mono ?_
  rintro e w5 ⟨rfl, hr5, ht5⟩
  have HR5 : Hid (RefAt w5 (M.fenced k)) := Lib.hid hr5
  have hrow : w5.heap[M.m]? = some (.cells #[.pointer (some ⟨M.d, 0, none⟩), .slice (some ⟨M.pb, 0, none⟩) M.np M.c4, .int .i64 M.ck, .int .i64 M.bd, .int .i64 M.la.ki, .int .i64 M.la.th, .int .i64 M.la.pl, .int .u64 M.la.ol, .int .u64 M.la.ne, .bool M.la.dn] 200 (0, 0)) := HR5.out.row
  have ra := (ht5.block (W.heap.size + 1) (by have := HS.out; simp [World.setCell]; omega) (HM.out.not_own (by omega))).trans (heap_set (j := 2) (.int .i64 0) HA2.out)
  have rz := (ht5.block W.heap.size (by have := HS.out; simp [World.setCell]; omega) (HM.out.not_own (by omega))).trans ((heap_set_other (j := 2) (v := .int .i64 0) (show W.heap.size ≠ W.heap.size + 1 by omega)).trans HZ.out)
  simp only [List.setIfInBounds_toArray, List.set_cons_succ, List.set_cons_zero] at ra
  have HT5 : Hid (Turn M.own W w5) := Lib.hid (((Turn.of_below HB.out).set (fun e => absurd e (by omega)) _ _).trans ht5 (fun _ _ h => h))
  clear a0 a1 a2 a3 a4 a5 af z0 z1 z2 z3 z4 z5 zf m0 m2 m3 m4 m5 m6 m7 m8 m9 mf hr5 ht5
  obtain ⟨a0, a1, a2, a3, a4, a5, af⟩ := row6 ra
  obtain ⟨z0, z1, z2, z3, z4, z5, zf⟩ := row6 rz
  obtain ⟨m0, m1, m2, m3, m4, m5, m6, m7, m8, m9, mf⟩ := row10 hrow
  have HZ5 := Lib.hid rz
  clear ra rz hrow m0 m1
  go_wp2_with fail
  have hA : ∀ k, Rv.own (M.fenced k) k → k ≠ W.heap.size + 1 := fun k hk e => HM.out.not_own (by omega) (e ▸ (HO.out k hk))
  have hR1 : RefAt (w5.setCell ⟨W.heap.size + 1, 5, none⟩ (.bool true)) (M.fenced k) := HR5.out.keep fun k hk => by rw [heap_set_other (hA k hk)]
  have hT1 : Turn M.own W (w5.setCell ⟨W.heap.size + 1, 5, none⟩ (.bool true)) := (HT5.out.set (fun e => absurd e (by omega)) _ _)
  have hZ1 := ((heap_set_other (j := 5) (v := .bool true) (show W.heap.size ≠ W.heap.size + 1 by omega)).trans HZ5.out)
  obtain ⟨f1, f2⟩ := noteW_done hR1 hT1 rfl rfl (Nat.le_refl W.heap.size) HM.out ⟨5, (k : Int), 0, 0, 0, true⟩ true
  refine bodyPost_ret (v := .agg (Acc.cells ⟨5, (k : Int), 0, 0, 0, true⟩)) ?_ rfl ?_
  · exact results_acc rfl rfl (noteW_res n1 hZ1 M.ck M.bd ⟨5, (k : Int), 0, 0, 0, true⟩ true)
  · exact ⟨rfl, f1, f2⟩
set_option maxRecDepth 100000 in
set_option maxHeartbeats 1000000 in
theorem refFence_no (M : Rv) (t at_ old w : Int) (q0 : -9223372036854775808 ≤ at_) (q1 : at_ ≤ 9223372036854775807) (W : World) (h : RefAt W M) (hc : M.ck ≤ 1000000) (o : Int) (b : Bool) (hp : M.peek at_ = (o, b)) (hE : threadE M.nt t ≠ 0) :
    Calls Tryz.prog 65 #[.pointer (some ⟨M.m, 0, none⟩), .int .i64 5, .int .i64 t, .int .i64 at_, .int .u64 old, .int .u64 w] W (RAcc M (M.note ⟨5, t, 0, 0, 0, false⟩ false) W) := by
  have HP := Lib.hid (refPeekH M at_ q0 q1 o b hp)
  have HM := Lib.hid h
  have hlt := h.lt (k := M.m) (Or.inl (by simp [Rv.blocks]))
  have n1 : W.heap.size ≠ M.m := by omega
  have n2 : W.heap.size + 1 ≠ M.m := by omega
  have n3 : M.m ≠ W.heap.size := by omega
  have n4 : M.m ≠ W.heap.size + 1 := by omega
  have b0 := h.ck0
  have b1 := h.bd0
  have b2 := h.bd1
  have HO : Hid (∀ k, Rv.own M k → M.own k) := Lib.hid fun _ h => h
  have n8 : W.heap.size + 1 ≠ M.d := fun e => by have := h.lt (k := M.d) (Or.inl (by simp [Rv.blocks])); omega
  have HC : Hid (∀ w, RefAt w M → Calls Tryz.prog 116 #[.pointer (some ⟨M.d, 0, none⟩), .int .i64 1, .int .i64 t, .int .i64 0] w (RDone M M (.int .i64 1) w)) := Lib.hid fun w h => refDo44_fence_no M t 0 w h hE
  clear hE
  clear h hp hlt
  go_enter Tryz.func65, Tryz.ntmps65
  go_wp2_with fail
  with_reducible refine (HP.out _ (HM.out.below (((Below.refl _ _).alloc (Nat.le_refl _) _).alloc (by simp) _))).mono ?_
  rintro e w2 ⟨rfl, hb, hh⟩
  obtain ⟨rz, ra⟩ := two_news hh
  have HB : Hid (Below W.heap.size W w2) := Lib.hid ((((Below.refl _ _).alloc (Nat.le_refl _) _).alloc (by simp) _).trans (hb.mono (by simp; omega)))
  have HS : Hid (W.heap.size + 1 < w2.heap.size) := Lib.hid (by rw [hh]; simp)
  have HM2 := Lib.hid (HM.out.below HB.out)
  obtain ⟨a0, a1, a2, a3, a4, a5, af⟩ := row6 ra
  obtain ⟨z0, z1, z2, z3, z4, z5, zf⟩ := row6 rz
  obtain ⟨m0, m1, m2, m3, m4, m5, m6, m7, m8, m9, mf⟩ := row10 HM2.out.row
  have HZ := Lib.hid rz
  have HA2 := Lib.hid ra
  clear hb hh ra rz m1
  go_wp2_with fail
  have hq : RefAt (w2.setCell ⟨W.heap.size + 1, 2, none⟩ (.int .i64 0)) M := HM2.out.keep fun k hk => heap_set_other fun e => HM.out.not_own (by omega) (e ▸ hk)
  with_reducible refine (HC.out _ hq).mono ?_
  rintro e w5 ⟨rfl, hr5, ht5⟩
  have HR5 : Hid (RefAt w5 M) := Lib.hid hr5
  have hrow : w5.heap[M.m]? = some (.cells #[.pointer (some ⟨M.d, 0, none⟩), .slice (some ⟨M.pb, 0, none⟩) M.np M.c4, .int .i64 M.ck, .int .i64 M.bd, .int .i64 M.la.ki, .int .i64 M.la.th, .int .i64 M.la.pl, .int .u64 M.la.ol, .int .u64 M.la.ne, .bool M.la.dn] 200 (0, 0)) := HR5.out.row
  have ra := (ht5.block (W.heap.size + 1) (by have := HS.out; simp [World.setCell]; omega) (HM.out.not_own (by omega))).trans (heap_set (j := 2) (.int .i64 0) HA2.out)
  have rz := (ht5.block W.heap.size (by have := HS.out; simp [World.setCell]; omega) (HM.out.not_own (by omega))).trans ((heap_set_other (j := 2) (v := .int .i64 0) (show W.heap.size ≠ W.heap.size + 1 by omega)).trans HZ.out)
  simp only [List.setIfInBounds_toArray, List.set_cons_succ, List.set_cons_zero] at ra
  have HT5 : Hid (Turn M.own W w5) := Lib.hid (((Turn.of_below HB.out).set (fun e => absurd e (by omega)) _ _).trans ht5 (fun _ _ h => h))
  clear a0 a1 a2 a3 a4 a5 af z0 z1 z2 z3 z4 z5 zf m0 m2 m3 m4 m5 m6 m7 m8 m9 mf hr5 ht5
  obtain ⟨a0, a1, a2, a3, a4, a5, af⟩ := row6 ra
  obtain ⟨z0, z1, z2, z3, z4, z5, zf⟩ := row6 rz
  obtain ⟨m0, m1, m2, m3, m4, m5, m6, m7, m8, m9, mf⟩ := row10 hrow
  have HZ5 := Lib.hid rz
  clear ra rz hrow m0 m1
  go_wp2_with fail
  have hA : ∀ k, Rv.own M k → k ≠ W.heap.size + 1 := fun k hk e => HM.out.not_own (by omega) (e ▸ (HO.out k hk))
  have hR1 : RefAt (w5.setCell ⟨W.heap.size + 1, 5, none⟩ (.bool false)) M := HR5.out.keep fun k hk => by rw [heap_set_other (hA k hk)]
  have hT1 : Turn M.own W (w5.setCell ⟨W.heap.size + 1, 5, none⟩ (.bool false)) := (HT5.out.set (fun e => absurd e (by omega)) _ _)
  have hZ1 := ((heap_set_other (j := 5) (v := .bool false) (show W.heap.size ≠ W.heap.size + 1 by omega)).trans HZ5.out)
  obtain ⟨f1, f2⟩ := noteW_done hR1 hT1 rfl rfl (Nat.le_refl W.heap.size) HM.out ⟨5, t, 0, 0, 0, false⟩ false
  refine bodyPost_ret (v := .agg (Acc.cells ⟨5, t, 0, 0, 0, false⟩)) ?_ rfl ?_
  · exact results_acc rfl rfl (noteW_res n1 hZ1 M.ck M.bd ⟨5, t, 0, 0, 0, false⟩ false)
  · exact ⟨rfl, f1, f2⟩
end Go.Proofs.YtibelcmdfkgonaaGreat
