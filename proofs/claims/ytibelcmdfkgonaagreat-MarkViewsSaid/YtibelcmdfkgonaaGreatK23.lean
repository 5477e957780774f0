/- The document's memory: an access that puts a word, walked. -/
import Derived.Test.YtibelcmdfkgonaaGreatK22
namespace Go.Proofs.YtibelcmdfkgonaaGreat
open Go.RowKit Go.BigFrame
set_option linter.unusedVariables false
set_option linter.unusedSimpArgs false
set_option maxRecDepth 100000 in
set_option maxHeartbeats 1000000 in
theorem refStore_seen (M : Rv) (t old w : Int) (k : Nat) (W : World) (h : RefAt W M) (hc : M.ck ≤ 1000000) (o : Int) (hp : M.peek (k : Int) = (o, true)) (hk : k < 8 * M.n) :
    Calls Tryz.prog 65 #[.pointer (some ⟨M.m, 0, none⟩), .int .i64 2, .int .i64 t, .int .i64 (k : Int), .int .u64 old, .int .u64 w] W (RAcc M (({ M with seen := upd M.seen k w } : Rv).note ⟨2, t, (k : Int), o, w, true⟩ true) W) := by
  have HP := Lib.hid (refPeekH M (k : Int) (by have := h.n1; have := h.p1; omega) (by have := h.n1; have := h.p1; omega) o true hp)
  have HM := Lib.hid h
  have hlt := h.lt (k := M.m) (Or.inl (by simp [Rv.blocks]))
  have n1 : W.heap.size ≠ M.m := by omega
  have n2 : W.heap.size + 1 ≠ M.m := by omega
  have n3 : M.m ≠ W.heap.size := by omega
  have n4 : M.m ≠ W.heap.size + 1 := by omega
  have b0 := h.ck0
  have b1 := h.bd0
  have b2 := h.bd1
  have HO : Hid (∀ k, M.own k → M.own k) := Lib.hid fun _ h => h
  have HK := Lib.hid hk
  have n5 : W.heap.size ≠ M.sb := fun e => by have := h.seen.lt; omega
  have n6 : W.heap.size + 1 ≠ M.sb := fun e => by have := h.seen.lt; omega
  have n7 : M.m ≠ M.sb := h.ne.ms
  have n8 : W.heap.size + 1 ≠ M.d := fun e => by have := h.lt (k := M.d) (Or.inl (by simp [Rv.blocks])); omega
  have i0 : (0 : Int) ≤ (k : Int) := by omega
  have dd : decide ((0 : Int) ≤ (k : Int)) = true := bool_yes (by omega)
  have de : decide ((k : Int) < 0) = false := bool_no (by omega)
  have hn1 := h.n1
  have hp1 := h.p1
  clear hk
  clear h hp hlt
  go_enter Tryz.func65, Tryz.ntmps65
  go_wp2_with fail
  with_reducible refine (HP.out _ (HM.out.below (((Below.refl _ _).alloc (Nat.le_refl _) _).alloc (by simp) _))).mono ?_
  rintro e w2 ⟨rfl, hb, hh⟩
  obtain ⟨rz, ra⟩ := two_news hh
  have HB : Hid (Below W.heap.size W w2) := Lib.hid ((((Below.refl _ _).alloc (Nat.le_refl _) _).alloc (by simp) _).trans (hb.mono (by simp; omega)))
  have HS : Hid (W.heap.size + 1 < w2.heap.size) := Lib.hid (by rw [hh]; simp)
  have HM2 := Lib.hid (HM.out.below HB.out)
  obtain ⟨a0, a1, a2, a3, a4, a5, af⟩ := row6 ra
  obtain ⟨z0, z1, z2, z3, z4, z5, zf⟩ := row6 rz
  obtain ⟨m0, m1, m2, m3, m4, m5, m6, m7, m8, m9, mf⟩ := row10 HM2.out.row
  have HZ := Lib.hid rz
  have y1 := (dev_cells HM2.out.dev).2.1
  have y2 := HM2.out.seen.cell HK.out
  have y3 := HM2.out.seen.free k
  have i1 : (k : Int) < ((8 * M.n : Nat) : Int) := by have := HK.out; omega
  generalize M.seen k = u at *
  obtain ⟨NN, hNN⟩ : ∃ NN, NN = 8 * M.n := ⟨_, rfl⟩
  rw [← hNN] at y1 i1
  have hN2 : NN ≤ 2097152 := by omega
  clear hb hh ra rz m1 hNN
  go_wp2_with fail
  have hA : ∀ k, Rv.own M k → k ≠ W.heap.size + 1 := fun k hk e => HM.out.not_own (by omega) (e ▸ (HO.out k hk))
  have hR1 : RefAt (((w2.setCell ⟨W.heap.size + 1, 3, none⟩ (.int .u64 o)).setCell ⟨W.heap.size + 1, 5, none⟩ (.bool true)).setCell ⟨W.heap.size + 1, 4, none⟩ (.int .u64 w)) M := HM2.out.keep fun k hk => by rw [heap_set_other (hA k hk), heap_set_other (hA k hk), heap_set_other (hA k hk)]
  have hT1 : Turn M.own W (((w2.setCell ⟨W.heap.size + 1, 3, none⟩ (.int .u64 o)).setCell ⟨W.heap.size + 1, 5, none⟩ (.bool true)).setCell ⟨W.heap.size + 1, 4, none⟩ (.int .u64 w)) := ((((Turn.of_below HB.out).set (fun e => absurd e (by omega)) _ _).set (fun e => absurd e (by omega)) _ _).set (fun e => absurd e (by omega)) _ _)
  have hZ1 := ((heap_set_other (j := 4) (v := .int .u64 w) (show W.heap.size ≠ W.heap.size + 1 by omega)).trans ((heap_set_other (j := 5) (v := .bool true) (show W.heap.size ≠ W.heap.size + 1 by omega)).trans ((heap_set_other (j := 3) (v := .int .u64 o) (show W.heap.size ≠ W.heap.size + 1 by omega)).trans HZ.out)))
  have hR2 := hR1.set_seen k w
  have hT2 := hT1.set (b := M.sb) (fun _ => Or.inl (by simp [Rv.blocks])) k (.int .u64 w)
  have hZ2 := (heap_set_other (j := k) (v := .int .u64 w) n5).trans hZ1
  obtain ⟨f1, f2⟩ := noteW_done hR2 hT2 rfl rfl (Nat.le_refl W.heap.size) HM.out ⟨2, t, (k : Int), o, w, true⟩ true
  refine bodyPost_ret (v := .agg (Acc.cells ⟨2, t, (k : Int), o, w, true⟩)) ?_ rfl ?_
  · exact results_acc rfl rfl (noteW_res n1 hZ2 M.ck M.bd ⟨2, t, (k : Int), o, w, true⟩ true)
  · exact ⟨rfl, f1, f2⟩
set_option maxRecDepth 100000 in
set_option maxHeartbeats 1000000 in
theorem refStore_pass (M : Rv) (t old w : Int) (k : Nat) (W : World) (h : RefAt W M) (hc : M.ck ≤ 1000000) (o : Int) (hp : M.peek (-1 - (k : Int)) = (o, true)) (hk : k < M.np) :
    Calls Tryz.prog 65 #[.pointer (some ⟨M.m, 0, none⟩), .int .i64 2, .int .i64 t, .int .i64 (-1 - (k : Int)), .int .u64 old, .int .u64 w] W (RAcc M (({ M with pass := upd M.pass k w } : Rv).note ⟨2, t, (-1 - (k : Int)), o, w, true⟩ true) W) := by
  have HP := Lib.hid (refPeekH M (-1 - (k : Int)) (by have := h.n1; have := h.p1; omega) (by have := h.n1; have := h.p1; omega) o true hp)
  have HM := Lib.hid h
  have hlt := h.lt (k := M.m) (Or.inl (by simp [Rv.blocks]))
  have n1 : W.heap.size ≠ M.m := by omega
  have n2 : W.heap.size + 1 ≠ M.m := by omega
  have n3 : M.m ≠ W.heap.size := by omega
  have n4 : M.m ≠ W.heap.size + 1 := by omega
  have b0 := h.ck0
  have b1 := h.bd0
  have b2 := h.bd1
  have HO : Hid (∀ k, M.own k → M.own k) := Lib.hid fun _ h => h
  have HK := Lib.hid hk
  have n5 : W.heap.size ≠ M.pb := fun e => by have := h.pass.lt; omega
  have n6 : W.heap.size + 1 ≠ M.pb := fun e => by have := h.pass.lt; omega
  have n7 : M.m ≠ M.pb := h.ne.mp
  have n8 : W.heap.size + 1 ≠ M.d := fun e => by have := h.lt (k := M.d) (Or.inl (by simp [Rv.blocks])); omega
  have i0 : (0 : Int) ≤ (k : Int) := by omega
  have dd : decide ((0 : Int) ≤ -1 - (k : Int)) = false := bool_no (by omega)
  have de : decide (-1 - (k : Int) < 0) = true := bool_yes (by omega)
  have df : (-1 - (-1 - (k : Int)) : Int) = (k : Int) := by omega
  have hn1 := h.n1
  have hp1 := h.p1
  clear hk
  clear h hp hlt
  go_enter Tryz.func65, Tryz.ntmps65
  go_wp2_with fail
  with_reducible refine (HP.out _ (HM.out.below (((Below.refl _ _).alloc (Nat.le_refl _) _).alloc (by simp) _))).mono ?_
  rintro e w2 ⟨rfl, hb, hh⟩
  obtain ⟨rz, ra⟩ := two_news hh
  have HB : Hid (Below W.heap.size W w2) := Lib.hid ((((Below.refl _ _).alloc (Nat.le_refl _) _).alloc (by simp) _).trans (hb.mono (by simp; omega)))
  have HS : Hid (W.heap.size + 1 < w2.heap.size) := Lib.hid (by rw [hh]; simp)
  have HM2 := Lib.hid (HM.out.below HB.out)
  obtain ⟨a0, a1, a2, a3, a4, a5, af⟩ := row6 ra
  obtain ⟨z0, z1, z2, z3, z4, z5, zf⟩ := row6 rz
  obtain ⟨m0, m1, m2, m3, m4, m5, m6, m7, m8, m9, mf⟩ := row10 HM2.out.row
  have HZ := Lib.hid rz
  have y2 := HM2.out.pass.cell HK.out
  have y3 := HM2.out.pass.free k
  have i1 : (k : Int) < (M.np : Int) := by have := HK.out; omega
  generalize M.pass k = u at *
  clear hb hh ra rz m0
  go_wp2_with fail
  have hA : ∀ k, Rv.own M k → k ≠ W.heap.size + 1 := fun k hk e => HM.out.not_own (by omega) (e ▸ (HO.out k hk))
  have hR1 : RefAt (((w2.setCell ⟨W.heap.size + 1, 3, none⟩ (.int .u64 o)).setCell ⟨W.heap.size + 1, 5, none⟩ (.bool true)).setCell ⟨W.heap.size + 1, 4, none⟩ (.int .u64 w)) M := HM2.out.keep fun k hk => by rw [heap_set_other (hA k hk), heap_set_other (hA k hk), heap_set_other (hA k hk)]
  have hT1 : Turn M.own W (((w2.setCell ⟨W.heap.size + 1, 3, none⟩ (.int .u64 o)).setCell ⟨W.heap.size + 1, 5, none⟩ (.bool true)).setCell ⟨W.heap.size + 1, 4, none⟩ (.int .u64 w)) := ((((Turn.of_below HB.out).set (fun e => absurd e (by omega)) _ _).set (fun e => absurd e (by omega)) _ _).set (fun e => absurd e (by omega)) _ _)
  have hZ1 := ((heap_set_other (j := 4) (v := .int .u64 w) (show W.heap.size ≠ W.heap.size + 1 by omega)).trans ((heap_set_other (j := 5) (v := .bool true) (show W.heap.size ≠ W.heap.size + 1 by omega)).trans ((heap_set_other (j := 3) (v := .int .u64 o) (show W.heap.size ≠ W.heap.size + 1 by omega)).trans HZ.out)))
  have hR2 := hR1.set_pass k w
  have hT2 := hT1.set (b := M.pb) (fun _ => Or.inl (by simp [Rv.blocks])) k (.int .u64 w)
  have hZ2 := (heap_set_other (j := k) (v := .int .u64 w) n5).trans hZ1
  obtain ⟨f1, f2⟩ := noteW_done hR2 hT2 rfl rfl (Nat.le_refl W.heap.size) HM.out ⟨2, t, (-1 - (k : Int)), o, w, true⟩ true
  refine bodyPost_ret (v := .agg (Acc.cells ⟨2, t, (-1 - (k : Int)), o, w, true⟩)) ?_ rfl ?_
  · exact results_acc rfl rfl (noteW_res n1 hZ2 M.ck M.bd ⟨2, t, (-1 - (k : Int)), o, w, true⟩ true)
  · exact ⟨rfl, f1, f2⟩
set_option maxRecDepth 100000 in
set_option maxHeartbeats 1000000 in
theorem refSwap_seen (M : Rv) (t old w : Int) (k : Nat) (W : World) (h : RefAt W M) (hc : M.ck ≤ 1000000) (o : Int) (hp : M.peek (k : Int) = (o, true)) (hk : k < 8 * M.n) (hne : (o == old) = true) :
    Calls Tryz.prog 65 #[.pointer (some ⟨M.m, 0, none⟩), .int .i64 3, .int .i64 t, .int .i64 (k : Int), .int .u64 old, .int .u64 w] W (RAcc M (({ M with seen := upd M.seen k w } : Rv).note ⟨3, t, (k : Int), o, w, true⟩ true) W) := by
  have HP := Lib.hid (refPeekH M (k : Int) (by have := h.n1; have := h.p1; omega) (by have := h.n1; have := h.p1; omega) o true hp)
  have HM := Lib.hid h
  have hlt := h.lt (k := M.m) (Or.inl (by simp [Rv.blocks]))
  have n1 : W.heap.size ≠ M.m := by omega
  have n2 : W.heap.size + 1 ≠ M.m := by omega
  have n3 : M.m ≠ W.heap.size := by omega
  have n4 : M.m ≠ W.heap.size + 1 := by omega
  have b0 := h.ck0
  have b1 := h.bd0
  have b2 := h.bd1
  have HO : Hid (∀ k, M.own k → M.own k) := Lib.hid fun _ h => h
  have HK := Lib.hid hk
  have n5 : W.heap.size ≠ M.sb := fun e => by have := h.seen.lt; omega
  have n6 : W.heap.size + 1 ≠ M.sb := fun e => by have := h.seen.lt; omega
  have n7 : M.m ≠ M.sb := h.ne.ms
  have n8 : W.heap.size + 1 ≠ M.d := fun e => by have := h.lt (k := M.d) (Or.inl (by simp [Rv.blocks])); omega
  have i0 : (0 : Int) ≤ (k : Int) := by omega
  have dd : decide ((0 : Int) ≤ (k : Int)) = true := bool_yes (by omega)
  have de : decide ((k : Int) < 0) = false := bool_no (by omega)
  have hn1 := h.n1
  have hp1 := h.p1
  clear hk
  clear h hp hlt
  go_enter Tryz.func65, Tryz.ntmps65
  go_wp2_with fail
  with_reducible refine (HP.out _ (HM.out.below (((Below.refl _ _).alloc (Nat.le_refl _) _).alloc (by simp) _))).mono ?_
  rintro e w2 ⟨rfl, hb, hh⟩
  obtain ⟨rz, ra⟩ := two_news hh
  have HB : Hid (Below W.heap.size W w2) := Lib.hid ((((Below.refl _ _).alloc (Nat.le_refl _) _).alloc (by simp) _).trans (hb.mono (by simp; omega)))
  have HS : Hid (W.heap.size + 1 < w2.heap.size) := Lib.hid (by rw [hh]; simp)
  have HM2 := Lib.hid (HM.out.below HB.out)
  obtain ⟨a0, a1, a2, a3, a4, a5, af⟩ := row6 ra
  obtain ⟨z0, z1, z2, z3, z4, z5, zf⟩ := row6 rz
  obtain ⟨m0, m1, m2, m3, m4, m5, m6, m7, m8, m9, mf⟩ := row10 HM2.out.row
  have HZ := Lib.hid rz
  have y1 := (dev_cells HM2.out.dev).2.1
  have y2 := HM2.out.seen.cell HK.out
  have y3 := HM2.out.seen.free k
  have i1 : (k : Int) < ((8 * M.n : Nat) : Int) := by have := HK.out; omega
  generalize M.seen k = u at *
  obtain ⟨NN, hNN⟩ : ∃ NN, NN = 8 * M.n := ⟨_, rfl⟩
  rw [← hNN] at y1 i1
  have hN2 : NN ≤ 2097152 := by omega
  clear hb hh ra rz m1 hNN
  go_wp2_with fail
  have hA : ∀ k, Rv.own M k → k ≠ W.heap.size + 1 := fun k hk e => HM.out.not_own (by omega) (e ▸ (HO.out k hk))
  have hR1 : RefAt (((w2.setCell ⟨W.heap.size + 1, 3, none⟩ (.int .u64 o)).setCell ⟨W.heap.size + 1, 5, none⟩ (.bool true)).setCell ⟨W.heap.size + 1, 4, none⟩ (.int .u64 w)) M := HM2.out.keep fun k hk => by rw [heap_set_other (hA k hk), heap_set_other (hA k hk), heap_set_other (hA k hk)]
  have hT1 : Turn M.own W (((w2.setCell ⟨W.heap.size + 1, 3, none⟩ (.int .u64 o)).setCell ⟨W.heap.size + 1, 5, none⟩ (.bool true)).setCell ⟨W.heap.size + 1, 4, none⟩ (.int .u64 w)) := ((((Turn.of_below HB.out).set (fun e => absurd e (by omega)) _ _).set (fun e => absurd e (by omega)) _ _).set (fun e => absurd e (by omega)) _ _)
  have hZ1 := ((heap_set_other (j := 4) (v := .int .u64 w) (show W.heap.size ≠ W.heap.size + 1 by omega)).trans ((heap_set_other (j := 5) (v := .bool true) (show W.heap.size ≠ W.heap.size + 1 by omega)).trans ((heap_set_other (j := 3) (v := .int .u64 o) (show W.heap.size ≠ W.heap.size + 1 by omega)).trans HZ.out)))
  have hR2 := hR1.set_seen k w
  have hT2 := hT1.set (b := M.sb) (fun _ => Or.inl (by simp [Rv.blocks])) k (.int .u64 w)
  have hZ2 := (heap_set_other (j := k) (v := .int .u64 w) n5).trans hZ1
  obtain ⟨f1, f2⟩ := noteW_done hR2 hT2 rfl rfl (Nat.le_refl W.heap.size) HM.out ⟨3, t, (k : Int), o, w, true⟩ true
  refine bodyPost_ret (v := .agg (Acc.cells ⟨3, t, (k : Int), o, w, true⟩)) ?_ rfl ?_
  · exact results_acc rfl rfl (noteW_res n1 hZ2 M.ck M.bd ⟨3, t, (k : Int), o, w, true⟩ true)
  · exact ⟨rfl, f1, f2⟩
set_option maxRecDepth 100000 in
set_option maxHeartbeats 1000000 in
theorem refSwap_pass (M : Rv) (t old w : Int) (k : Nat) (W : World) (h : RefAt W M) (hc : M.ck ≤ 1000000) (o : Int) (hp : M.peek (-1 - (k : Int)) = (o, true)) (hk : k < M.np) (hne : (o == old) = true) :
    Calls Tryz.prog 65 #[.pointer (some ⟨M.m, 0, none⟩), .int .i64 3, .int .i64 t, .int .i64 (-1 - (k : Int)), .int .u64 old, .int .u64 w] W (RAcc M (({ M with pass := upd M.pass k w } : Rv).note ⟨3, t, (-1 - (k : Int)), o, w, true⟩ true) W) := by
  have HP := Lib.hid (refPeekH M (-1 - (k : Int)) (by have := h.n1; have := h.p1; omega) (by have := h.n1; have := h.p1; omega) o true hp)
  have HM := Lib.hid h
  have hlt := h.lt (k := M.m) (Or.inl (by simp [Rv.blocks]))
  have n1 : W.heap.size ≠ M.m := by omega
  have n2 : W.heap.size + 1 ≠ M.m := by omega
  have n3 : M.m ≠ W.heap.size := by omega
  have n4 : M.m ≠ W.heap.size + 1 := by omega
  have b0 := h.ck0
  have b1 := h.bd0
  have b2 := h.bd1
  have HO : Hid (∀ k, M.own k → M.own k) := Lib.hid fun _ h => h
  have HK := Lib.hid hk
  have n5 : W.heap.size ≠ M.pb := fun e => by have := h.pass.lt; omega
  have n6 : W.heap.size + 1 ≠ M.pb := fun e => by have := h.pass.lt; omega
  have n7 : M.m ≠ M.pb := h.ne.mp
  have n8 : W.heap.size + 1 ≠ M.d := fun e => by have := h.lt (k := M.d) (Or.inl (by simp [Rv.blocks])); omega
  have i0 : (0 : Int) ≤ (k : Int) := by omega
  have dd : decide ((0 : Int) ≤ -1 - (k : Int)) = false := bool_no (by omega)
  have de : decide (-1 - (k : Int) < 0) = true := bool_yes (by omega)
  have df : (-1 - (-1 - (k : Int)) : Int) = (k : Int) := by omega
  have hn1 := h.n1
  have hp1 := h.p1
  clear hk
  clear h hp hlt
  go_enter Tryz.func65, Tryz.ntmps65
  go_wp2_with fail
  with_reducible refine (HP.out _ (HM.out.below (((Below.refl _ _).alloc (Nat.le_refl _) _).alloc (by simp) _))).mono ?_
  rintro e w2 ⟨rfl, hb, hh⟩
  obtain ⟨rz, ra⟩ := two_news hh
  have HB : Hid (Below W.heap.size W w2) := Lib.hid ((((Below.refl _ _).alloc (Nat.le_refl _) _).alloc (by simp) _).trans (hb.mono (by simp; omega)))
  have HS : Hid (W.heap.size + 1 < w2.heap.size) := Lib.hid (by rw [hh]; simp)
  have HM2 := Lib.hid (HM.out.below HB.out)
  obtain ⟨a0, a1, a2, a3, a4, a5, af⟩ := row6 ra
  obtain ⟨z0, z1, z2, z3, z4, z5, zf⟩ := row6 rz
  obtain ⟨m0, m1, m2, m3, m4, m5, m6, m7, m8, m9, mf⟩ := row10 HM2.out.row
  have HZ := Lib.hid rz
  have y2 := HM2.out.pass.cell HK.out
  have y3 := HM2.out.pass.free k
  have i1 : (k : Int) < (M.np : Int) := by have := HK.out; omega
  generalize M.pass k = u at *
  clear hb hh ra rz m0
  go_wp2_with fail
  have hA : ∀ k, Rv.own M k → k ≠ W.heap.size + 1 := fun k hk e => HM.out.not_own (by omega) (e ▸ (HO.out k hk))
  have hR1 : RefAt (((w2.setCell ⟨W.heap.size + 1, 3, none⟩ (.int .u64 o)).setCell ⟨W.heap.size + 1, 5, none⟩ (.bool true)).setCell ⟨W.heap.size + 1, 4, none⟩ (.int .u64 w)) M := HM2.out.keep fun k hk => by rw [heap_set_other (hA k hk), heap_set_other (hA k hk), heap_set_other (hA k hk)]
  have hT1 : Turn M.own W (((w2.setCell ⟨W.heap.size + 1, 3, none⟩ (.int .u64 o)).setCell ⟨W.heap.size + 1, 5, none⟩ (.bool true)).setCell ⟨W.heap.size + 1, 4, none⟩ (.int .u64 w)) := ((((Turn.of_below HB.out).set (fun e => absurd e (by omega)) _ _).set (fun e => absurd e (by omega)) _ _).set (fun e => absurd e (by omega)) _ _)
  have hZ1 := ((heap_set_other (j := 4) (v := .int .u64 w) (show W.heap.size ≠ W.heap.size + 1 by omega)).trans ((heap_set_other (j := 5) (v := .bool true) (show W.heap.size ≠ W.heap.size + 1 by omega)).trans ((heap_set_other (j := 3) (v := .int .u64 o) (show W.heap.size ≠ W.heap.size + 1 by omega)).trans HZ.out)))
  have hR2 := hR1.set_pass k w
  have hT2 := hT1.set (b := M.pb) (fun _ => Or.inl (by simp [Rv.blocks])) k (.int .u64 w)
  have hZ2 := (heap_set_other (j := k) (v := .int .u64 w) n5).trans hZ1
  obtain ⟨f1, f2⟩ := noteW_done hR2 hT2 rfl rfl (Nat.le_refl W.heap.size) HM.out ⟨3, t, (-1 - (k : Int)), o, w, true⟩ true
  refine bodyPost_ret (v := .agg (Acc.cells ⟨3, t, (-1 - (k : Int)), o, w, true⟩)) ?_ rfl ?_
  · exact results_acc rfl rfl (noteW_res n1 hZ2 M.ck M.bd ⟨3, t, (-1 - (k : Int)), o, w, true⟩ true)
  · exact ⟨rfl, f1, f2⟩
end Go.Proofs.YtibelcmdfkgonaaGreat
