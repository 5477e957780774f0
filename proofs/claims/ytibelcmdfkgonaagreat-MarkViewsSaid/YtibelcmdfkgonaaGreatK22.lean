/- The document's memory: an access, walked. -/
import Derived.Test.YtibelcmdfkgonaaGreatK19
namespace Go.Proofs.YtibelcmdfkgonaaGreat
open Go.RowKit Go.BigFrame
set_option linter.unusedVariables false
set_option linter.unusedSimpArgs false
theorem refPeekH (M : Rv) (at_ : Int) (q0 : -9223372036854775808 ≤ at_) (q1 : at_ ≤ 9223372036854775807) (o : Int) (is : Bool) (ho : M.peek at_ = (o, is)) : ∀ w, RefAt w M → Calls Tryz.prog 129 #[.pointer (some ⟨M.m, 0, none⟩), .int .i64 at_] w (Tells (.tuple #[.int .u64 o, .bool is]) w) := fun w hw => by
  have := refPeek43 M at_ q0 q1 w hw; rw [ho] at this; exact this
set_option maxRecDepth 100000 in
set_option maxHeartbeats 1000000 in
theorem refLoad_true (M : Rv) (t at_ old w : Int) (q0 : -9223372036854775808 ≤ at_) (q1 : at_ ≤ 9223372036854775807) (W : World) (h : RefAt W M) (hc : M.ck ≤ 1000000) (o : Int) (hp : M.peek at_ = (o, true)) :
    Calls Tryz.prog 65 #[.pointer (some ⟨M.m, 0, none⟩), .int .i64 1, .int .i64 t, .int .i64 at_, .int .u64 old, .int .u64 w] W (RAcc M (M.note ⟨1, t, at_, o, 0, true⟩ true) W) := by
  have HP := Lib.hid (refPeekH M at_ q0 q1 o true hp)
  have HM := Lib.hid h
  have hlt := h.lt (k := M.m) (Or.inl (by simp [Rv.blocks]))
  have n1 : W.heap.size ≠ M.m := by omega
  have n2 : W.heap.size + 1 ≠ M.m := by omega
  have n3 : M.m ≠ W.heap.size := by omega
  have n4 : M.m ≠ W.heap.size + 1 := by omega
  have b0 := h.ck0
  have b1 := h.bd0
  have b2 := h.bd1
  clear h hp hlt
  go_enter Tryz.func65, Tryz.ntmps65
  go_wp2_with fail
  with_reducible refine (HP.out _ (HM.out.below (((Below.refl _ _).alloc (Nat.le_refl _) _).alloc (by simp) _))).mono ?_
  rintro e w2 ⟨rfl, hb, hh⟩
  obtain ⟨rz, ra⟩ := two_news hh
  have HB : Hid (Below W.heap.size W w2) := Lib.hid ((((Below.refl _ _).alloc (Nat.le_refl _) _).alloc (by simp) _).trans (hb.mono (by simp; omega)))
  have HS : Hid (W.heap.size + 1 < w2.heap.size) := Lib.hid (by rw [hh]; simp)
  have HM2 := Lib.hid (HM.out.below HB.out)
  obtain ⟨a0, a1, a2, a3, a4, a5, af⟩ := row6 ra
  obtain ⟨z0, z1, z2, z3, z4, z5, zf⟩ := row6 rz
  obtain ⟨m0, m1, m2, m3, m4, m5, m6, m7, m8, m9, mf⟩ := row10 HM2.out.row
  have HZ := Lib.hid rz
  clear hb hh ra rz m0 m1
  go_wp2_with fail
  have hA : ∀ k, M.own k → k ≠ W.heap.size + 1 := fun k hk e => HM.out.not_own (by omega) (e ▸ hk)
  have hR : RefAt ((w2.setCell ⟨W.heap.size + 1, 3, none⟩ (.int .u64 o)).setCell ⟨W.heap.size + 1, 5, none⟩ (.bool true)) M := HM2.out.keep fun k hk => by rw [heap_set_other (hA k hk), heap_set_other (hA k hk)]
  have hT : Turn M.own W ((w2.setCell ⟨W.heap.size + 1, 3, none⟩ (.int .u64 o)).setCell ⟨W.heap.size + 1, 5, none⟩ (.bool true)) := ((Turn.of_below HB.out).set (fun e => absurd e (by omega)) _ _).set (fun e => absurd e (by omega)) _ _
  have hZ := (heap_set_other (j := 5) (v := .bool true) (show W.heap.size ≠ W.heap.size + 1 by omega)).trans ((heap_set_other (j := 3) (v := .int .u64 o) (show W.heap.size ≠ W.heap.size + 1 by omega)).trans HZ.out)
  obtain ⟨f1, f2⟩ := noteW_done hR hT rfl rfl (Nat.le_refl W.heap.size) HM.out ⟨1, t, at_, o, 0, true⟩ true
  refine bodyPost_ret (v := .agg (Acc.cells ⟨1, t, at_, o, 0, true⟩)) ?_ rfl ?_
  · exact results_acc rfl rfl (noteW_res n1 hZ M.ck M.bd ⟨1, t, at_, o, 0, true⟩ true)
  · exact ⟨rfl, f1, f2⟩
set_option maxRecDepth 100000 in
set_option maxHeartbeats 1000000 in
theorem refLoad_false (M : Rv) (t at_ old w : Int) (q0 : -9223372036854775808 ≤ at_) (q1 : at_ ≤ 9223372036854775807) (W : World) (h : RefAt W M) (hc : M.ck ≤ 1000000) (o : Int) (hp : M.peek at_ = (o, false)) :
    Calls Tryz.prog 65 #[.pointer (some ⟨M.m, 0, none⟩), .int .i64 1, .int .i64 t, .int .i64 at_, .int .u64 old, .int .u64 w] W (RAcc M (M.note ⟨1, t, at_, o, 0, false⟩ false) W) := by
  have HP := Lib.hid (refPeekH M at_ q0 q1 o false hp)
  have HM := Lib.hid h
  have hlt := h.lt (k := M.m) (Or.inl (by simp [Rv.blocks]))
  have n1 : W.heap.size ≠ M.m := by omega
  have n2 : W.heap.size + 1 ≠ M.m := by omega
  have n3 : M.m ≠ W.heap.size := by omega
  have n4 : M.m ≠ W.heap.size + 1 := by omega
  have b0 := h.ck0
  have b1 := h.bd0
  have b2 := h.bd1
  clear h hp hlt
  go_enter Tryz.func65, Tryz.ntmps65
  go_wp2_with fail
  with_reducible refine (HP.out _ (HM.out.below (((Below.refl _ _).alloc (Nat.le_refl _) _).alloc (by simp) _))).mono ?_
  rintro e w2 ⟨rfl, hb, hh⟩
  obtain ⟨rz, ra⟩ := two_news hh
  have HB : Hid (Below W.heap.size W w2) := Lib.hid ((((Below.refl _ _).alloc (Nat.le_refl _) _).alloc (by simp) _).trans (hb.mono (by simp; omega)))
  have HS : Hid (W.heap.size + 1 < w2.heap.size) := Lib.hid (by rw [hh]; simp)
  have HM2 := Lib.hid (HM.out.below HB.out)
  obtain ⟨a0, a1, a2, a3, a4, a5, af⟩ := row6 ra
  obtain ⟨z0, z1, z2, z3, z4, z5, zf⟩ := row6 rz
  obtain ⟨m0, m1, m2, m3, m4, m5, m6, m7, m8, m9, mf⟩ := row10 HM2.out.row
  have HZ := Lib.hid rz
  clear hb hh ra rz m0 m1
  go_wp2_with fail
  have hA : ∀ k, M.own k → k ≠ W.heap.size + 1 := fun k hk e => HM.out.not_own (by omega) (e ▸ hk)
  have hR : RefAt ((w2.setCell ⟨W.heap.size + 1, 3, none⟩ (.int .u64 o)).setCell ⟨W.heap.size + 1, 5, none⟩ (.bool false)) M := HM2.out.keep fun k hk => by rw [heap_set_other (hA k hk), heap_set_other (hA k hk)]
  have hT : Turn M.own W ((w2.setCell ⟨W.heap.size + 1, 3, none⟩ (.int .u64 o)).setCell ⟨W.heap.size + 1, 5, none⟩ (.bool false)) := ((Turn.of_below HB.out).set (fun e => absurd e (by omega)) _ _).set (fun e => absurd e (by omega)) _ _
  have hZ := (heap_set_other (j := 5) (v := .bool false) (show W.heap.size ≠ W.heap.size + 1 by omega)).trans ((heap_set_other (j := 3) (v := .int .u64 o) (show W.heap.size ≠ W.heap.size + 1 by omega)).trans HZ.out)
  obtain ⟨f1, f2⟩ := noteW_done hR hT rfl rfl (Nat.le_refl W.heap.size) HM.out ⟨1, t, at_, o, 0, false⟩ false
  refine bodyPost_ret (v := .agg (Acc.cells ⟨1, t, at_, o, 0, false⟩)) ?_ rfl ?_
  · exact results_acc rfl rfl (noteW_res n1 hZ M.ck M.bd ⟨1, t, at_, o, 0, false⟩ false)
  · exact ⟨rfl, f1, f2⟩
set_option maxRecDepth 100000 in
set_option maxHeartbeats 1000000 in
theorem refStore_bad (M : Rv) (t at_ old w : Int) (q0 : -9223372036854775808 ≤ at_) (q1 : at_ ≤ 9223372036854775807) (W : World) (h : RefAt W M) (hc : M.ck ≤ 1000000) (o : Int) (hp : M.peek at_ = (o, false)) :
    Calls Tryz.prog 65 #[.pointer (some ⟨M.m, 0, none⟩), .int .i64 2, .int .i64 t, .int .i64 at_, .int .u64 old, .int .u64 w] W (RAcc M (M.note ⟨2, t, at_, o, w, false⟩ false) W) := by
  have HP := Lib.hid (refPeekH M at_ q0 q1 o false hp)
  have HM := Lib.hid h
  have hlt := h.lt (k := M.m) (Or.inl (by simp [Rv.blocks]))
  have n1 : W.heap.size ≠ M.m := by omega
  have n2 : W.heap.size + 1 ≠ M.m := by omega
  have n3 : M.m ≠ W.heap.size := by omega
  have n4 : M.m ≠ W.heap.size + 1 := by omega
  have b0 := h.ck0
  have b1 := h.bd0
  have b2 := h.bd1
  have HO : Hid (∀ k, M.own k → M.own k) := Lib.hid fun _ h => h
  clear h hp hlt
  go_enter Tryz.func65, Tryz.ntmps65
  go_wp2_with fail
  with_reducible refine (HP.out _ (HM.out.below (((Below.refl _ _).alloc (Nat.le_refl _) _).alloc (by simp) _))).mono ?_
  rintro e w2 ⟨rfl, hb, hh⟩
  obtain ⟨rz, ra⟩ := two_news hh
  have HB : Hid (Below W.heap.size W w2) := Lib.hid ((((Below.refl _ _).alloc (Nat.le_refl _) _).alloc (by simp) _).trans (hb.mono (by simp; omega)))
  have HS : Hid (W.heap.size + 1 < w2.heap.size) := Lib.hid (by rw [hh]; simp)
  have HM2 := Lib.hid (HM.out.below HB.out)
  obtain ⟨a0, a1, a2, a3, a4, a5, af⟩ := row6 ra
  obtain ⟨z0, z1, z2, z3, z4, z5, zf⟩ := row6 rz
  obtain ⟨m0, m1, m2, m3, m4, m5, m6, m7, m8, m9, mf⟩ := row10 HM2.out.row
  have HZ := Lib.hid rz
  clear hb hh ra rz m0 m1
  go_wp2_with fail
  have hA : ∀ k, Rv.own M k → k ≠ W.heap.size + 1 := fun k hk e => HM.out.not_own (by omega) (e ▸ (HO.out k hk))
  have hR1 : RefAt (((w2.setCell ⟨W.heap.size + 1, 3, none⟩ (.int .u64 o)).setCell ⟨W.heap.size + 1, 5, none⟩ (.bool false)).setCell ⟨W.heap.size + 1, 4, none⟩ (.int .u64 w)) M := HM2.out.keep fun k hk => by rw [heap_set_other (hA k hk), heap_set_other (hA k hk), heap_set_other (hA k hk)]
  have hT1 : Turn M.own W (((w2.setCell ⟨W.heap.size + 1, 3, none⟩ (.int .u64 o)).setCell ⟨W.heap.size + 1, 5, none⟩ (.bool false)).setCell ⟨W.heap.size + 1, 4, none⟩ (.int .u64 w)) := ((((Turn.of_below HB.out).set (fun e => absurd e (by omega)) _ _).set (fun e => absurd e (by omega)) _ _).set (fun e => absurd e (by omega)) _ _)
  have hZ1 := ((heap_set_other (j := 4) (v := .int .u64 w) (show W.heap.size ≠ W.heap.size + 1 by omega)).trans ((heap_set_other (j := 5) (v := .bool false) (show W.heap.size ≠ W.heap.size + 1 by omega)).trans ((heap_set_other (j := 3) (v := .int .u64 o) (show W.heap.size ≠ W.heap.size + 1 by omega)).trans HZ.out)))
  obtain ⟨f1, f2⟩ := noteW_done hR1 hT1 rfl rfl (Nat.le_refl W.heap.size) HM.out ⟨2, t, at_, o, w, false⟩ false
  refine bodyPost_ret (v := .agg (Acc.cells ⟨2, t, at_, o, w, false⟩)) ?_ rfl ?_
  · exact results_acc rfl rfl (noteW_res n1 hZ1 M.ck M.bd ⟨2, t, at_, o, w, false⟩ false)
  · exact ⟨rfl, f1, f2⟩
set_option maxRecDepth 100000 in
set_option maxHeartbeats 1000000 in
theorem refSwap_bad (M : Rv) (t at_ old w : Int) (q0 : -9223372036854775808 ≤ at_) (q1 : at_ ≤ 9223372036854775807) (W : World) (h : RefAt W M) (hc : M.ck ≤ 1000000) (o : Int) (hp : M.peek at_ = (o, false)) :
    Calls Tryz.prog 65 #[.pointer (some ⟨M.m, 0, none⟩), .int .i64 3, .int .i64 t, .int .i64 at_, .int .u64 old, .int .u64 w] W (RAcc M (M.note ⟨3, t, at_, o, w, false⟩ false) W) := by
  have HP := Lib.hid (refPeekH M at_ q0 q1 o false hp)
  have HM := Lib.hid h
  have hlt := h.lt (k := M.m) (Or.inl (by simp [Rv.blocks]))
  have n1 : W.heap.size ≠ M.m := by omega
  have n2 : W.heap.size + 1 ≠ M.m := by omega
  have n3 : M.m ≠ W.heap.size := by omega
  have n4 : M.m ≠ W.heap.size + 1 := by omega
  have b0 := h.ck0
  have b1 := h.bd0
  have b2 := h.bd1
  have HO : Hid (∀ k, M.own k → M.own k) := Lib.hid fun _ h => h
  clear h hp hlt
  go_enter Tryz.func65, Tryz.ntmps65
  go_wp2_with fail
  with_reducible refine (HP.out _ (HM.out.below (((Below.refl _ _).alloc (Nat.le_refl _) _).alloc (by simp) _))).mono ?_
  rintro e w2 ⟨rfl, hb, hh⟩
  obtain ⟨rz, ra⟩ := two_news hh
  have HB : Hid (Below W.heap.size W w2) := Lib.hid ((((Below.refl _ _).alloc (Nat.le_refl _) _).alloc (by simp) _).trans (hb.mono (by simp; omega)))
  have HS : Hid (W.heap.size + 1 < w2.heap.size) := Lib.hid (by rw [hh]; simp)
  have HM2 := Lib.hid (HM.out.below HB.out)
  obtain ⟨a0, a1, a2, a3, a4, a5, af⟩ := row6 ra
  obtain ⟨z0, z1, z2, z3, z4, z5, zf⟩ := row6 rz
  obtain ⟨m0, m1, m2, m3, m4, m5, m6, m7, m8, m9, mf⟩ := row10 HM2.out.row
  have HZ := Lib.hid rz
  clear hb hh ra rz m0 m1
  go_wp2_with fail
  have hA : ∀ k, Rv.own M k → k ≠ W.heap.size + 1 := fun k hk e => HM.out.not_own (by omega) (e ▸ (HO.out k hk))
  have hR1 : RefAt (((w2.setCell ⟨W.heap.size + 1, 3, none⟩ (.int .u64 o)).setCell ⟨W.heap.size + 1, 5, none⟩ (.bool false)).setCell ⟨W.heap.size + 1, 4, none⟩ (.int .u64 w)) M := HM2.out.keep fun k hk => by rw [heap_set_other (hA k hk), heap_set_other (hA k hk), heap_set_other (hA k hk)]
  have hT1 : Turn M.own W (((w2.setCell ⟨W.heap.size + 1, 3, none⟩ (.int .u64 o)).setCell ⟨W.heap.size + 1, 5, none⟩ (.bool false)).setCell ⟨W.heap.size + 1, 4, none⟩ (.int .u64 w)) := ((((Turn.of_below HB.out).set (fun e => absurd e (by omega)) _ _).set (fun e => absurd e (by omega)) _ _).set (fun e => absurd e (by omega)) _ _)
  have hZ1 := ((heap_set_other (j := 4) (v := .int .u64 w) (show W.heap.size ≠ W.heap.size + 1 by omega)).trans ((heap_set_other (j := 5) (v := .bool false) (show W.heap.size ≠ W.heap.size + 1 by omega)).trans ((heap_set_other (j := 3) (v := .int .u64 o) (show W.heap.size ≠ W.heap.size + 1 by omega)).trans HZ.out)))
  obtain ⟨f1, f2⟩ := noteW_done hR1 hT1 rfl rfl (Nat.le_refl W.heap.size) HM.out ⟨3, t, at_, o, w, false⟩ false
  refine bodyPost_ret (v := .agg (Acc.cells ⟨3, t, at_, o, w, false⟩)) ?_ rfl ?_
  · exact results_acc rfl rfl (noteW_res n1 hZ1 M.ck M.bd ⟨3, t, at_, o, w, false⟩ false)
  · exact ⟨rfl, f1, f2⟩
set_option maxRecDepth 100000 in
set_option maxHeartbeats 1000000 in
theorem refSwap_no (M : Rv) (t at_ old w : Int) (q0 : -9223372036854775808 ≤ at_) (q1 : at_ ≤ 9223372036854775807) (W : World) (h : RefAt W M) (hc : M.ck ≤ 1000000) (o : Int) (hp : M.peek at_ = (o, true)) (hne : (o == old) = false) :
    Calls Tryz.prog 65 #[.pointer (some ⟨M.m, 0, none⟩), .int .i64 3, .int .i64 t, .int .i64 at_, .int .u64 old, .int .u64 w] W (RAcc M (M.note ⟨3, t, at_, o, w, false⟩ true) W) := by
  have HP := Lib.hid (refPeekH M at_ q0 q1 o true hp)
  have HM := Lib.hid h
  have hlt := h.lt (k := M.m) (Or.inl (by simp [Rv.blocks]))
  have n1 : W.heap.size ≠ M.m := by omega
  have n2 : W.heap.size + 1 ≠ M.m := by omega
  have n3 : M.m ≠ W.heap.size := by omega
  have n4 : M.m ≠ W.heap.size + 1 := by omega
  have b0 := h.ck0
  have b1 := h.bd0
  have b2 := h.bd1
  have HO : Hid (∀ k, M.own k → M.own k) := Lib.hid fun _ h => h
  clear h hp hlt
  go_enter Tryz.func65, Tryz.ntmps65
  go_wp2_with fail
  with_reducible refine (HP.out _ (HM.out.below (((Below.refl _ _).alloc (Nat.le_refl _) _).alloc (by simp) _))).mono ?_
  rintro e w2 ⟨rfl, hb, hh⟩
  obtain ⟨rz, ra⟩ := two_news hh
  have HB : Hid (Below W.heap.size W w2) := Lib.hid ((((Below.refl _ _).alloc (Nat.le_refl _) _).alloc (by simp) _).trans (hb.mono (by simp; omega)))
  have HS : Hid (W.heap.size + 1 < w2.heap.size) := Lib.hid (by rw [hh]; simp)
  have HM2 := Lib.hid (HM.out.below HB.out)
  obtain ⟨a0, a1, a2, a3, a4, a5, af⟩ := row6 ra
  obtain ⟨z0, z1, z2, z3, z4, z5, zf⟩ := row6 rz
  obtain ⟨m0, m1, m2, m3, m4, m5, m6, m7, m8, m9, mf⟩ := row10 HM2.out.row
  have HZ := Lib.hid rz
  clear hb hh ra rz m0 m1
  go_wp2_with fail
  have hA : ∀ k, Rv.own M k → k ≠ W.heap.size + 1 := fun k hk e => HM.out.not_own (by omega) (e ▸ (HO.out k hk))
  have hR1 : RefAt (((w2.setCell ⟨W.heap.size + 1, 3, none⟩ (.int .u64 o)).setCell ⟨W.heap.size + 1, 5, none⟩ (.bool false)).setCell ⟨W.heap.size + 1, 4, none⟩ (.int .u64 w)) M := HM2.out.keep fun k hk => by rw [heap_set_other (hA k hk), heap_set_other (hA k hk), heap_set_other (hA k hk)]
  have hT1 : Turn M.own W (((w2.setCell ⟨W.heap.size + 1, 3, none⟩ (.int .u64 o)).setCell ⟨W.heap.size + 1, 5, none⟩ (.bool false)).setCell ⟨W.heap.size + 1, 4, none⟩ (.int .u64 w)) := ((((Turn.of_below HB.out).set (fun e => absurd e (by omega)) _ _).set (fun e => absurd e (by omega)) _ _).set (fun e => absurd e (by omega)) _ _)
  have hZ1 := ((heap_set_other (j := 4) (v := .int .u64 w) (show W.heap.size ≠ W.heap.size + 1 by omega)).trans ((heap_set_other (j := 5) (v := .bool false) (show W.heap.size ≠ W.heap.size + 1 by omega)).trans ((heap_set_other (j := 3) (v := .int .u64 o) (show W.heap.size ≠ W.heap.size + 1 by omega)).trans HZ.out)))
  obtain ⟨f1, f2⟩ := noteW_done hR1 hT1 rfl rfl (Nat.le_refl W.heap.size) HM.out ⟨3, t, at_, o, w, false⟩ true
  refine bodyPost_ret (v := .agg (Acc.cells ⟨3, t, at_, o, w, false⟩)) ?_ rfl ?_
  · exact results_acc rfl rfl (noteW_res n1 hZ1 M.ck M.bd ⟨3, t, at_, o, w, false⟩ true)
  · exact ⟨rfl, f1, f2⟩
end Go.Proofs.YtibelcmdfkgonaaGreat
