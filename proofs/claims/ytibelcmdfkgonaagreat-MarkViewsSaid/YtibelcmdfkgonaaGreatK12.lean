/- Layer 20 (mark): behind a head (its ways printed by g13.py). -/
import Derived.Test.YtibelcmdfkgonaaGreatK10
import Derived.Test.YtibelcmdfkgonaaGreatK11
namespace Go.Proofs.YtibelcmdfkgonaaGreat
open Go.RowKit Go.BigFrame
set_option linter.unusedVariables false
set_option linter.unusedSimpArgs false
theorem info48 : (Tryz.prog.info? 48).map (fun i => (i.zero, i.size, i.bytes)) = some (some (.int .u64 0), 1, 8) := by kernel_rfl
def MS.begun (s : MS) (x : Nat) : MS := { s with heads := s.heads ++ [x], first := true, above := false, free := false }
theorem headsV_snoc (hs : List Nat) (x : Nat) : headsV (hs ++ [x]) = headsV hs ++ [.int .u64 (x : Int)] := by simp [headsV]
/-- What head holds behind its first two lines. -/
structure HeadSt (K : Mk) (x : Nat) (W W1 : World) (hv1 : Value) : Prop where
  mat : MkAt W1 { K with s := K.s.begun x, hv := hv1, nv := K.nv }
  turn : Turn K.own W W1
  bh : ∀ k, hv1.ownBlock = some k → K.hv.ownBlock = some k ∨ W.heap.size ≤ k
theorem head_st {K : Mk} {x : Nat} {W w' : World} {v' : Value} (h : MkAt W K) (o : Obj) (hown : w'.ownsRow 0 48 1 v' (K.s.heads.length + 1) (headsV K.s.heads ++ [.int .u64 (x : Int)])) (hgr : (W.alloc o).grownBy w' K.hv.ownBlock)
    (hat : v'.ownBlock = K.hv.ownBlock ∨ v'.ownBlock = some (W.heap.size + 1)) :
    w'.heap[K.x]? = some (.cells K.cells 149 (0, 0)) ∧ ∀ W1, W1 = ((((w'.setCell ⟨K.x, 7, none⟩ v').setCell ⟨K.x, 10, none⟩ (.bool true)).setCell ⟨K.x, 11, none⟩ (.bool false)).setCell ⟨K.x, 13, none⟩ (.bool false)) → HeadSt K x W W1 v' := by
  have lx := lt_row h.row
  have hk : ∀ k, k < W.heap.size → K.hv.ownBlock ≠ some k → w'.heap[k]? = W.heap[k]? := fun k hk hn =>
    (hgr.block k (by simp; omega) (fun e => hn e.symm)).trans (Below.heap_alloc _ _ _ hk)
  have hrow := (hk K.x lx h.hx.1).trans h.row
  refine ⟨hrow, fun W1 hW1 => ?_⟩
  subst hW1
  have hs : ∀ k, k ≠ K.x → ((((w'.setCell ⟨K.x, 7, none⟩ v').setCell ⟨K.x, 10, none⟩ (.bool true)).setCell ⟨K.x, 11, none⟩ (.bool false)).setCell ⟨K.x, 13, none⟩ (.bool false)).heap[k]? = w'.heap[k]? := fun k hk => by
    rw [heap_set_other hk, heap_set_other hk, heap_set_other hk, heap_set_other hk]
  have bh : ∀ k, v'.ownBlock = some k → K.hv.ownBlock = some k ∨ W.heap.size ≤ k := fun k hk => by
    rcases hat with e | e
    · exact .inl (e ▸ hk)
    · rw [e] at hk; cases hk; exact .inr (by omega)
  have vx : v'.ownBlock ≠ some K.x := fun e => by rcases bh _ e with h1 | h1; exact h.hx.1 h1; omega
  refine ⟨?_, ?_, bh⟩
  · refine h.renew v' K.nv (K.s.begun x) ?_ ?_ ?_ ?_ bh (fun k hk => .inl hk) ?_ rfl h.li h.lip h.sl h.ky h.vl
    · exact heap_set _ (heap_set _ (heap_set _ (heap_set _ hrow)))
    · exact fun k hk' n1 n2 n3 => (hs k n1).trans (hk k hk' n2)
    · show World.ownsRow _ 0 48 1 v' (K.s.heads ++ [x]).length (headsV (K.s.heads ++ [x]))
      rw [headsV_snoc, List.length_append]
      exact own_keep' hown fun k hk => hs k fun e => vx (e ▸ hk)
    · show World.ownsRow _ 0 50 4 K.nv K.s.nodes.length (nodesV K.s.nodes)
      exact own_keep' h.nodes fun k hk' => (hs k fun e => h.nx.1 (e ▸ hk')).trans (hk k (h.nodes.lt k hk').2 fun e => h.hn k e hk')
    · exact fun k hk' hk2 => by
        rcases bh k hk' with h1 | h1
        · exact h.hn k h1 hk2
        · have := (h.nodes.lt k hk2).2; omega
  · have t1 : Turn K.own W w' := ⟨hgr.os, hgr.tape, hgr.output, Nat.le_trans (by simp) hgr.size, fun k hk' hn => hk k hk' fun e => hn (.inr (.inr (.inr (.inl e))))⟩
    exact (((t1.set (fun _ => .inl rfl) _ _).set (fun _ => .inl rfl) _ _).set (fun _ => .inl rfl) _ _).set (fun _ => .inl rfl) _ _
/-- fail, at a mark. -/
theorem fail_at (K : Mk) (w : World) (h : MkAt w K) : Calls Tryz.prog 137 #[.pointer (some ⟨K.x, 0, none⟩)] w (MkTo K K.s.fail w) :=
  (fail137 K.x _ _ _ _ _ _ _ _ _ _ _ _ _ _ _ w h.row).mono fun e w' hr =>
    h.to_row K.s.fail hr rfl rfl rfl h.li (fun e => absurd rfl e) (fun _ e => absurd e no43) h.ky h.vl
theorem pair15 {W : World} {x : Nat} {K : Mk} (h : W.heap[x]? = some (.cells K.cells 149 (0, 0))) :
    W.cell? ⟨x, 4, none⟩ = some (.int .i64 (K.s.list : Int)) ∧ W.cell? ⟨x, 7, none⟩ = some K.hv ∧ W.cell? ⟨x, 10, none⟩ = some (.bool K.s.first) ∧ W.cell? ⟨x, 11, none⟩ = some (.bool K.s.above) ∧ W.cell? ⟨x, 13, none⟩ = some (.bool K.s.free) ∧ ∀ j, W.frozen? ⟨x, j, none⟩ = false :=
  ⟨cell_row h 4 _ rfl, cell_row h 7 _ rfl, cell_row h 10 _ rfl, cell_row h 11 _ rfl, cell_row h 13 _ rfl, free_row h⟩

set_option maxRecDepth 100000 in
theorem head72_wrong (g : Gd) (K : Mk) (hf : Fits g K) (x : Nat) (hx : x < 18446744073709551616) (hpc : K.s.list < K.nh) (hS : K.S ≤ 100000) (hlen : K.s.heads.length ≤ 1000000) (hr : ¬ rightL K.S g.T x) (w : World) (h : MkAt w K) :
    Calls Tryz.prog 72 #[.pointer (some ⟨K.x, 0, none⟩), .int .u64 (x : Int)] w (MkTo K (K.s.head g x) w) := by
  obtain ⟨i48, hinf, hz0, hz1, hz2⟩ := info_parts info48
  have HM := Lib.hid h
  have HST : Hid (∀ o w' v', w'.ownsRow 0 48 1 v' (K.s.heads.length + 1) (headsV K.s.heads ++ [.int .u64 (x : Int)]) → (w.alloc o).grownBy w' K.hv.ownBlock → (v'.ownBlock = K.hv.ownBlock ∨ v'.ownBlock = some (w.heap.size + 1)) →
    w'.heap[K.x]? = some (.cells K.cells 149 (0, 0)) ∧ ∀ W1, W1 = ((((w'.setCell ⟨K.x, 7, none⟩ v').setCell ⟨K.x, 10, none⟩ (.bool true)).setCell ⟨K.x, 11, none⟩ (.bool false)).setCell ⟨K.x, 13, none⟩ (.bool false)) → HeadSt K x w W1 v') := Lib.hid fun o w' v' h1 h2 h3 => head_st h o h1 h2 h3
  have HR : Hid (∀ hv1 W1, MkAt W1 { K with s := K.s.begun x, hv := hv1, nv := K.nv } → Calls Tryz.prog 135 #[.pointer (some ⟨K.x, 0, none⟩), .int .u64 (x : Int)] W1 (Gives (.bool (decide (rightL K.S g.T x))) W1)) := Lib.hid fun hv1 W1 h1 => right135 { K with s := K.s.begun x, hv := hv1, nv := K.nv } x g.T hx hf.T W1 h1
  have HBY : Hid (∀ w, Calls Tryz.prog 95 #[.int .u64 (x : Int)] w (Gives (.int .i64 ((hi x : Int) - 1)) w)) := Lib.hid fun w => by rw [← by_hi]; exact by95 _ (by unfold U64; omega) w
  have HTO : Hid (∀ w, Calls Tryz.prog 136 #[.int .u64 (x : Int)] w (Gives (.int .i64 ((lo x : Int) - 1)) w)) := Lib.hid fun w => by rw [← to_lo]; exact to136 _ (by unfold U64; omega) w
  have HOWN := Lib.hid h.heads
  have HLEN := Lib.hid hlen
  have hbad : ¬ rightL g.S g.T x ∨ hi x ≠ 0 ∨ (K.s.list = 0 ∧ lo x = 0) := .inl (by rw [hf.S]; exact hr)
  have HEQ : Hid (K.s.head g x = (K.s.begun x).fail) := Lib.hid (by unfold MS.head; rw [if_pos hbad]; rfl)
  rw [bool_no hr] at HR
  clear hbad hr
  obtain ⟨z4, z7, z10, z11, z13, zf⟩ := pair15 h.row
  clear h hlen
  go_enter Tryz.func72, Tryz.ntmps72
  go_wp2_with (at_builtin; refine wpList_push_at rfl _ _ 33 rfl 48 i48 (.int .u64 0) 1 8 Tryz.underlying33 hinf hz0 hz1 hz2 rfl (by decide) w K.hv K.s.heads.length (headsV K.s.heads) rfl HOWN.out #[.int .u64 (x : Int)] 1 1 rfl rfl (by simp [Value.oneCell']) (by have := HLEN.out; unfold maxLen; omega) (by have := HLEN.out; omega) ?_; intro v' w' hown hgr hat; obtain ⟨va, vm, vc, rfl⟩ := own_slice hown; have HP := Lib.hid (HST.out _ w' _ hown hgr hat); clear hown hgr hat z4 z7 z10 z11 z13 zf; obtain ⟨z4, z7, z10, z11, z13, zf⟩ := pair15 HP.out.1)
  go_wp2_with fail
  obtain ⟨W1, hW1⟩ : ∃ W1, W1 = ((((w'.setCell ⟨K.x, 7, none⟩ (.slice va vm vc)).setCell ⟨K.x, 10, none⟩ (.bool true)).setCell ⟨K.x, 11, none⟩ (.bool false)).setCell ⟨K.x, 13, none⟩ (.bool false)) := ⟨_, rfl⟩
  rw [← hW1]
  have HS1 := Lib.hid (HP.out.2 W1 hW1)
  clear hW1 HP HST z4 z7 z10 z11 z13 zf HOWN
  refine (HR.out _ _ HS1.out.mat).mono ?_
  rintro e w2 ⟨rfl, hb⟩
  have HM2 := Lib.hid (HS1.out.mat.below hb)
  have HT2 := Lib.hid (HS1.out.turn.trans (Turn.of_below (F := K.own) hb) (fun _ _ h => h))
  have HBH := Lib.hid HS1.out.bh
  clear hb HS1
  have HF := Lib.hid fun v1 w h => fail_at { K with s := K.s.begun x, hv := v1, nv := K.nv } w h
  go_wp2_with fail
  refine (HF.out _ _ HM2.out).mono ?_
  rintro e w9 hto
  have H9 := Lib.hid (MkTo.after HM.out HT2.out HBH.out (fun _ hk => .inl hk) hto)
  obtain ⟨⟨u, rfl⟩, -⟩ := hto
  go_wp2_with fail
  go_end0
  rw [HEQ.out]
  exact ⟨⟨_, rfl⟩, H9.out.2⟩
set_option maxRecDepth 100000 in
theorem head72_by (g : Gd) (K : Mk) (hf : Fits g K) (x : Nat) (hx : x < 18446744073709551616) (hpc : K.s.list < K.nh) (hS : K.S ≤ 100000) (hlen : K.s.heads.length ≤ 1000000) (hr : rightL K.S g.T x) (hh : hi x ≠ 0) (w : World) (h : MkAt w K) :
    Calls Tryz.prog 72 #[.pointer (some ⟨K.x, 0, none⟩), .int .u64 (x : Int)] w (MkTo K (K.s.head g x) w) := by
  obtain ⟨i48, hinf, hz0, hz1, hz2⟩ := info_parts info48
  have HM := Lib.hid h
  have HST : Hid (∀ o w' v', w'.ownsRow 0 48 1 v' (K.s.heads.length + 1) (headsV K.s.heads ++ [.int .u64 (x : Int)]) → (w.alloc o).grownBy w' K.hv.ownBlock → (v'.ownBlock = K.hv.ownBlock ∨ v'.ownBlock = some (w.heap.size + 1)) →
    w'.heap[K.x]? = some (.cells K.cells 149 (0, 0)) ∧ ∀ W1, W1 = ((((w'.setCell ⟨K.x, 7, none⟩ v').setCell ⟨K.x, 10, none⟩ (.bool true)).setCell ⟨K.x, 11, none⟩ (.bool false)).setCell ⟨K.x, 13, none⟩ (.bool false)) → HeadSt K x w W1 v') := Lib.hid fun o w' v' h1 h2 h3 => head_st h o h1 h2 h3
  have HR : Hid (∀ hv1 W1, MkAt W1 { K with s := K.s.begun x, hv := hv1, nv := K.nv } → Calls Tryz.prog 135 #[.pointer (some ⟨K.x, 0, none⟩), .int .u64 (x : Int)] W1 (Gives (.bool (decide (rightL K.S g.T x))) W1)) := Lib.hid fun hv1 W1 h1 => right135 { K with s := K.s.begun x, hv := hv1, nv := K.nv } x g.T hx hf.T W1 h1
  have HBY : Hid (∀ w, Calls Tryz.prog 95 #[.int .u64 (x : Int)] w (Gives (.int .i64 ((hi x : Int) - 1)) w)) := Lib.hid fun w => by rw [← by_hi]; exact by95 _ (by unfold U64; omega) w
  have HTO : Hid (∀ w, Calls Tryz.prog 136 #[.int .u64 (x : Int)] w (Gives (.int .i64 ((lo x : Int) - 1)) w)) := Lib.hid fun w => by rw [← to_lo]; exact to136 _ (by unfold U64; omega) w
  have HOWN := Lib.hid h.heads
  have HLEN := Lib.hid hlen
  have hbad : ¬ rightL g.S g.T x ∨ hi x ≠ 0 ∨ (K.s.list = 0 ∧ lo x = 0) := .inr (.inl hh)
  have HEQ : Hid (K.s.head g x = (K.s.begun x).fail) := Lib.hid (by unfold MS.head; rw [if_pos hbad]; rfl)
  rw [bool_yes hr] at HR
  have eb : (((hi x : Int) - 1) != -1) = true := by rw [bne_iff_ne]; omega
  generalize (hi x : Int) - 1 = hb at *
  clear hbad hr hh
  obtain ⟨z4, z7, z10, z11, z13, zf⟩ := pair15 h.row
  clear h hlen
  go_enter Tryz.func72, Tryz.ntmps72
  go_wp2_with (at_builtin; refine wpList_push_at rfl _ _ 33 rfl 48 i48 (.int .u64 0) 1 8 Tryz.underlying33 hinf hz0 hz1 hz2 rfl (by decide) w K.hv K.s.heads.length (headsV K.s.heads) rfl HOWN.out #[.int .u64 (x : Int)] 1 1 rfl rfl (by simp [Value.oneCell']) (by have := HLEN.out; unfold maxLen; omega) (by have := HLEN.out; omega) ?_; intro v' w' hown hgr hat; obtain ⟨va, vm, vc, rfl⟩ := own_slice hown; have HP := Lib.hid (HST.out _ w' _ hown hgr hat); clear hown hgr hat z4 z7 z10 z11 z13 zf; obtain ⟨z4, z7, z10, z11, z13, zf⟩ := pair15 HP.out.1)
  go_wp2_with fail
  obtain ⟨W1, hW1⟩ : ∃ W1, W1 = ((((w'.setCell ⟨K.x, 7, none⟩ (.slice va vm vc)).setCell ⟨K.x, 10, none⟩ (.bool true)).setCell ⟨K.x, 11, none⟩ (.bool false)).setCell ⟨K.x, 13, none⟩ (.bool false)) := ⟨_, rfl⟩
  rw [← hW1]
  have HS1 := Lib.hid (HP.out.2 W1 hW1)
  clear hW1 HP HST z4 z7 z10 z11 z13 zf HOWN
  refine (HR.out _ _ HS1.out.mat).mono ?_
  rintro e w2 ⟨rfl, hb⟩
  have HM2 := Lib.hid (HS1.out.mat.below hb)
  have HT2 := Lib.hid (HS1.out.turn.trans (Turn.of_below (F := K.own) hb) (fun _ _ h => h))
  have HBH := Lib.hid HS1.out.bh
  clear hb HS1
  go_wp2_with fail
  refine (HBY.out _).mono ?_
  rintro e w3 ⟨rfl, hb⟩
  have HM3 := Lib.hid (HM2.out.below hb)
  have HT3 := Lib.hid (HT2.out.trans (Turn.of_below (F := K.own) hb) (fun _ _ h => h))
  obtain ⟨z4, z7, z10, z11, z13, zf⟩ := pair15 HM3.out.row
  change w3.cell? _ = some (.int .i64 (K.s.list : Int)) at z4
  clear hb
  have HF := Lib.hid fun v1 w h => fail_at { K with s := K.s.begun x, hv := v1, nv := K.nv } w h
  go_wp2_with fail
  refine (HF.out _ _ HM3.out).mono ?_
  rintro e w9 hto
  have H9 := Lib.hid (MkTo.after HM.out HT3.out HBH.out (fun _ hk => .inl hk) hto)
  obtain ⟨⟨u, rfl⟩, -⟩ := hto
  go_wp2_with fail
  go_end0
  rw [HEQ.out]
  exact ⟨⟨_, rfl⟩, H9.out.2⟩
set_option maxRecDepth 100000 in
theorem head72_none (g : Gd) (K : Mk) (hf : Fits g K) (x : Nat) (hx : x < 18446744073709551616) (hpc : K.s.list < K.nh) (hS : K.S ≤ 100000) (hlen : K.s.heads.length ≤ 1000000) (hr : rightL K.S g.T x) (hh : hi x = 0) (hl0 : K.s.list = 0) (ho : lo x = 0) (w : World) (h : MkAt w K) :
    Calls Tryz.prog 72 #[.pointer (some ⟨K.x, 0, none⟩), .int .u64 (x : Int)] w (MkTo K (K.s.head g x) w) := by
  obtain ⟨i48, hinf, hz0, hz1, hz2⟩ := info_parts info48
  have HM := Lib.hid h
  have HST : Hid (∀ o w' v', w'.ownsRow 0 48 1 v' (K.s.heads.length + 1) (headsV K.s.heads ++ [.int .u64 (x : Int)]) → (w.alloc o).grownBy w' K.hv.ownBlock → (v'.ownBlock = K.hv.ownBlock ∨ v'.ownBlock = some (w.heap.size + 1)) →
    w'.heap[K.x]? = some (.cells K.cells 149 (0, 0)) ∧ ∀ W1, W1 = ((((w'.setCell ⟨K.x, 7, none⟩ v').setCell ⟨K.x, 10, none⟩ (.bool true)).setCell ⟨K.x, 11, none⟩ (.bool false)).setCell ⟨K.x, 13, none⟩ (.bool false)) → HeadSt K x w W1 v') := Lib.hid fun o w' v' h1 h2 h3 => head_st h o h1 h2 h3
  have HR : Hid (∀ hv1 W1, MkAt W1 { K with s := K.s.begun x, hv := hv1, nv := K.nv } → Calls Tryz.prog 135 #[.pointer (some ⟨K.x, 0, none⟩), .int .u64 (x : Int)] W1 (Gives (.bool (decide (rightL K.S g.T x))) W1)) := Lib.hid fun hv1 W1 h1 => right135 { K with s := K.s.begun x, hv := hv1, nv := K.nv } x g.T hx hf.T W1 h1
  have HBY : Hid (∀ w, Calls Tryz.prog 95 #[.int .u64 (x : Int)] w (Gives (.int .i64 ((hi x : Int) - 1)) w)) := Lib.hid fun w => by rw [← by_hi]; exact by95 _ (by unfold U64; omega) w
  have HTO : Hid (∀ w, Calls Tryz.prog 136 #[.int .u64 (x : Int)] w (Gives (.int .i64 ((lo x : Int) - 1)) w)) := Lib.hid fun w => by rw [← to_lo]; exact to136 _ (by unfold U64; omega) w
  have HOWN := Lib.hid h.heads
  have HLEN := Lib.hid hlen
  have hbad : ¬ rightL g.S g.T x ∨ hi x ≠ 0 ∨ (K.s.list = 0 ∧ lo x = 0) := .inr (.inr ⟨hl0, ho⟩)
  have HEQ : Hid (K.s.head g x = (K.s.begun x).fail) := Lib.hid (by unfold MS.head; rw [if_pos hbad]; rfl)
  rw [bool_yes hr] at HR
  have eb : (((hi x : Int) - 1) != -1) = false := by rw [hh]; rfl
  have et : (((lo x : Int) - 1) == -1) = true := by rw [ho]; rfl
  have el : ((K.s.list : Int) == 0) = true := by rw [hl0]; rfl
  generalize (hi x : Int) - 1 = hb at *
  generalize (lo x : Int) - 1 = lb at *
  clear hbad hr hh hl0 ho
  obtain ⟨z4, z7, z10, z11, z13, zf⟩ := pair15 h.row
  clear h hlen
  go_enter Tryz.func72, Tryz.ntmps72
  go_wp2_with (at_builtin; refine wpList_push_at rfl _ _ 33 rfl 48 i48 (.int .u64 0) 1 8 Tryz.underlying33 hinf hz0 hz1 hz2 rfl (by decide) w K.hv K.s.heads.length (headsV K.s.heads) rfl HOWN.out #[.int .u64 (x : Int)] 1 1 rfl rfl (by simp [Value.oneCell']) (by have := HLEN.out; unfold maxLen; omega) (by have := HLEN.out; omega) ?_; intro v' w' hown hgr hat; obtain ⟨va, vm, vc, rfl⟩ := own_slice hown; have HP := Lib.hid (HST.out _ w' _ hown hgr hat); clear hown hgr hat z4 z7 z10 z11 z13 zf; obtain ⟨z4, z7, z10, z11, z13, zf⟩ := pair15 HP.out.1)
  go_wp2_with fail
  obtain ⟨W1, hW1⟩ : ∃ W1, W1 = ((((w'.setCell ⟨K.x, 7, none⟩ (.slice va vm vc)).setCell ⟨K.x, 10, none⟩ (.bool true)).setCell ⟨K.x, 11, none⟩ (.bool false)).setCell ⟨K.x, 13, none⟩ (.bool false)) := ⟨_, rfl⟩
  rw [← hW1]
  have HS1 := Lib.hid (HP.out.2 W1 hW1)
  clear hW1 HP HST z4 z7 z10 z11 z13 zf HOWN
  refine (HR.out _ _ HS1.out.mat).mono ?_
  rintro e w2 ⟨rfl, hb⟩
  have HM2 := Lib.hid (HS1.out.mat.below hb)
  have HT2 := Lib.hid (HS1.out.turn.trans (Turn.of_below (F := K.own) hb) (fun _ _ h => h))
  have HBH := Lib.hid HS1.out.bh
  clear hb HS1
  go_wp2_with fail
  refine (HBY.out _).mono ?_
  rintro e w3 ⟨rfl, hb⟩
  have HM3 := Lib.hid (HM2.out.below hb)
  have HT3 := Lib.hid (HT2.out.trans (Turn.of_below (F := K.own) hb) (fun _ _ h => h))
  obtain ⟨z4, z7, z10, z11, z13, zf⟩ := pair15 HM3.out.row
  change w3.cell? _ = some (.int .i64 (K.s.list : Int)) at z4
  clear hb
  go_wp2_with fail
  refine (HTO.out _).mono ?_
  rintro e w4 ⟨rfl, hb⟩
  have HM4 := Lib.hid (HM3.out.below hb)
  have HT4 := Lib.hid (HT3.out.trans (Turn.of_below (F := K.own) hb) (fun _ _ h => h))
  clear hb z4 z7 z10 z11 z13 zf
  have HF := Lib.hid fun v1 w h => fail_at { K with s := K.s.begun x, hv := v1, nv := K.nv } w h
  go_wp2_with fail
  refine (HF.out _ _ HM4.out).mono ?_
  rintro e w9 hto
  have H9 := Lib.hid (MkTo.after HM.out HT4.out HBH.out (fun _ hk => .inl hk) hto)
  obtain ⟨⟨u, rfl⟩, -⟩ := hto
  go_wp2_with fail
  go_end0
  rw [HEQ.out]
  exact ⟨⟨_, rfl⟩, H9.out.2⟩
set_option maxRecDepth 100000 in
theorem head72_q (g : Gd) (K : Mk) (hf : Fits g K) (x : Nat) (hx : x < 18446744073709551616) (hpc : K.s.list < K.nh) (hS : K.S ≤ 100000) (hlen : K.s.heads.length ≤ 1000000) (hr : rightL K.S g.T x) (hh : hi x = 0) (hl0 : K.s.list = 0) (ho : lo x ≠ 0) (w : World) (h : MkAt w K) :
    Calls Tryz.prog 72 #[.pointer (some ⟨K.x, 0, none⟩), .int .u64 (x : Int)] w (MkTo K (K.s.head g x) w) := by
  obtain ⟨i48, hinf, hz0, hz1, hz2⟩ := info_parts info48
  have HM := Lib.hid h
  have HST : Hid (∀ o w' v', w'.ownsRow 0 48 1 v' (K.s.heads.length + 1) (headsV K.s.heads ++ [.int .u64 (x : Int)]) → (w.alloc o).grownBy w' K.hv.ownBlock → (v'.ownBlock = K.hv.ownBlock ∨ v'.ownBlock = some (w.heap.size + 1)) →
    w'.heap[K.x]? = some (.cells K.cells 149 (0, 0)) ∧ ∀ W1, W1 = ((((w'.setCell ⟨K.x, 7, none⟩ v').setCell ⟨K.x, 10, none⟩ (.bool true)).setCell ⟨K.x, 11, none⟩ (.bool false)).setCell ⟨K.x, 13, none⟩ (.bool false)) → HeadSt K x w W1 v') := Lib.hid fun o w' v' h1 h2 h3 => head_st h o h1 h2 h3
  have HR : Hid (∀ hv1 W1, MkAt W1 { K with s := K.s.begun x, hv := hv1, nv := K.nv } → Calls Tryz.prog 135 #[.pointer (some ⟨K.x, 0, none⟩), .int .u64 (x : Int)] W1 (Gives (.bool (decide (rightL K.S g.T x))) W1)) := Lib.hid fun hv1 W1 h1 => right135 { K with s := K.s.begun x, hv := hv1, nv := K.nv } x g.T hx hf.T W1 h1
  have HBY : Hid (∀ w, Calls Tryz.prog 95 #[.int .u64 (x : Int)] w (Gives (.int .i64 ((hi x : Int) - 1)) w)) := Lib.hid fun w => by rw [← by_hi]; exact by95 _ (by unfold U64; omega) w
  have HTO : Hid (∀ w, Calls Tryz.prog 136 #[.int .u64 (x : Int)] w (Gives (.int .i64 ((lo x : Int) - 1)) w)) := Lib.hid fun w => by rw [← to_lo]; exact to136 _ (by unfold U64; omega) w
  have HOWN := Lib.hid h.heads
  have HLEN := Lib.hid hlen
  have hok : ¬ (¬ rightL g.S g.T x ∨ hi x ≠ 0 ∨ (K.s.list = 0 ∧ lo x = 0)) := by rintro (e | e | e); exact e (by rw [hf.S]; exact hr); exact e hh; exact ho e.2
  have HEQ : Hid (K.s.head g x = (K.s.begun x).goOn g x) := Lib.hid (by unfold MS.head; rw [if_neg hok]; rfl)
  have HLO := Lib.hid hr.2.1
  rw [bool_yes hr] at HR
  have eb : (((hi x : Int) - 1) != -1) = false := by rw [hh]; rfl
  have et : (((lo x : Int) - 1) == -1) = false := by rw [beq_eq_false_iff_ne]; omega
  have el : ((K.s.list : Int) == 0) = true := by rw [hl0]; rfl
  generalize (hi x : Int) - 1 = hb at *
  generalize (lo x : Int) - 1 = lb at *
  clear hok hr hh hl0 ho
  obtain ⟨z4, z7, z10, z11, z13, zf⟩ := pair15 h.row
  clear h hlen
  go_enter Tryz.func72, Tryz.ntmps72
  go_wp2_with (at_builtin; refine wpList_push_at rfl _ _ 33 rfl 48 i48 (.int .u64 0) 1 8 Tryz.underlying33 hinf hz0 hz1 hz2 rfl (by decide) w K.hv K.s.heads.length (headsV K.s.heads) rfl HOWN.out #[.int .u64 (x : Int)] 1 1 rfl rfl (by simp [Value.oneCell']) (by have := HLEN.out; unfold maxLen; omega) (by have := HLEN.out; omega) ?_; intro v' w' hown hgr hat; obtain ⟨va, vm, vc, rfl⟩ := own_slice hown; have HP := Lib.hid (HST.out _ w' _ hown hgr hat); clear hown hgr hat z4 z7 z10 z11 z13 zf; obtain ⟨z4, z7, z10, z11, z13, zf⟩ := pair15 HP.out.1)
  go_wp2_with fail
  obtain ⟨W1, hW1⟩ : ∃ W1, W1 = ((((w'.setCell ⟨K.x, 7, none⟩ (.slice va vm vc)).setCell ⟨K.x, 10, none⟩ (.bool true)).setCell ⟨K.x, 11, none⟩ (.bool false)).setCell ⟨K.x, 13, none⟩ (.bool false)) := ⟨_, rfl⟩
  rw [← hW1]
  have HS1 := Lib.hid (HP.out.2 W1 hW1)
  clear hW1 HP HST z4 z7 z10 z11 z13 zf HOWN
  refine (HR.out _ _ HS1.out.mat).mono ?_
  rintro e w2 ⟨rfl, hb⟩
  have HM2 := Lib.hid (HS1.out.mat.below hb)
  have HT2 := Lib.hid (HS1.out.turn.trans (Turn.of_below (F := K.own) hb) (fun _ _ h => h))
  have HBH := Lib.hid HS1.out.bh
  clear hb HS1
  go_wp2_with fail
  refine (HBY.out _).mono ?_
  rintro e w3 ⟨rfl, hb⟩
  have HM3 := Lib.hid (HM2.out.below hb)
  have HT3 := Lib.hid (HT2.out.trans (Turn.of_below (F := K.own) hb) (fun _ _ h => h))
  obtain ⟨z4, z7, z10, z11, z13, zf⟩ := pair15 HM3.out.row
  change w3.cell? _ = some (.int .i64 (K.s.list : Int)) at z4
  clear hb
  go_wp2_with fail
  refine (HTO.out _).mono ?_
  rintro e w4 ⟨rfl, hb⟩
  have HM4 := Lib.hid (HM3.out.below hb)
  have HT4 := Lib.hid (HT3.out.trans (Turn.of_below (F := K.own) hb) (fun _ _ h => h))
  clear hb z4 z7 z10 z11 z13 zf
  have HG := Lib.hid fun v1 w h => goOn_at g { K with s := K.s.begun x, hv := v1, nv := K.nv } ⟨hf.S, hf.T, hf.nh, hf.bu1, hf.bu⟩ x hx HLO.out hpc hS w h
  go_wp2_with fail
  refine (HG.out _ _ HM4.out).mono ?_
  rintro e w9 hto
  have H9 := Lib.hid (MkTo.after HM.out HT4.out HBH.out (fun _ hk => .inl hk) hto)
  obtain ⟨⟨u, rfl⟩, -⟩ := hto
  go_wp2_with fail
  go_end0
  rw [HEQ.out]
  exact ⟨⟨_, rfl⟩, H9.out.2⟩
set_option maxRecDepth 100000 in
theorem head72_l (g : Gd) (K : Mk) (hf : Fits g K) (x : Nat) (hx : x < 18446744073709551616) (hpc : K.s.list < K.nh) (hS : K.S ≤ 100000) (hlen : K.s.heads.length ≤ 1000000) (hr : rightL K.S g.T x) (hh : hi x = 0) (hl0 : K.s.list ≠ 0) (w : World) (h : MkAt w K) :
    Calls Tryz.prog 72 #[.pointer (some ⟨K.x, 0, none⟩), .int .u64 (x : Int)] w (MkTo K (K.s.head g x) w) := by
  obtain ⟨i48, hinf, hz0, hz1, hz2⟩ := info_parts info48
  have HM := Lib.hid h
  have HST : Hid (∀ o w' v', w'.ownsRow 0 48 1 v' (K.s.heads.length + 1) (headsV K.s.heads ++ [.int .u64 (x : Int)]) → (w.alloc o).grownBy w' K.hv.ownBlock → (v'.ownBlock = K.hv.ownBlock ∨ v'.ownBlock = some (w.heap.size + 1)) →
    w'.heap[K.x]? = some (.cells K.cells 149 (0, 0)) ∧ ∀ W1, W1 = ((((w'.setCell ⟨K.x, 7, none⟩ v').setCell ⟨K.x, 10, none⟩ (.bool true)).setCell ⟨K.x, 11, none⟩ (.bool false)).setCell ⟨K.x, 13, none⟩ (.bool false)) → HeadSt K x w W1 v') := Lib.hid fun o w' v' h1 h2 h3 => head_st h o h1 h2 h3
  have HR : Hid (∀ hv1 W1, MkAt W1 { K with s := K.s.begun x, hv := hv1, nv := K.nv } → Calls Tryz.prog 135 #[.pointer (some ⟨K.x, 0, none⟩), .int .u64 (x : Int)] W1 (Gives (.bool (decide (rightL K.S g.T x))) W1)) := Lib.hid fun hv1 W1 h1 => right135 { K with s := K.s.begun x, hv := hv1, nv := K.nv } x g.T hx hf.T W1 h1
  have HBY : Hid (∀ w, Calls Tryz.prog 95 #[.int .u64 (x : Int)] w (Gives (.int .i64 ((hi x : Int) - 1)) w)) := Lib.hid fun w => by rw [← by_hi]; exact by95 _ (by unfold U64; omega) w
  have HTO : Hid (∀ w, Calls Tryz.prog 136 #[.int .u64 (x : Int)] w (Gives (.int .i64 ((lo x : Int) - 1)) w)) := Lib.hid fun w => by rw [← to_lo]; exact to136 _ (by unfold U64; omega) w
  have HOWN := Lib.hid h.heads
  have HLEN := Lib.hid hlen
  have hok : ¬ (¬ rightL g.S g.T x ∨ hi x ≠ 0 ∨ (K.s.list = 0 ∧ lo x = 0)) := by rintro (e | e | e); exact e (by rw [hf.S]; exact hr); exact e hh; exact hl0 e.1
  have HEQ : Hid (K.s.head g x = (K.s.begun x).goOn g x) := Lib.hid (by unfold MS.head; rw [if_neg hok]; rfl)
  have HLO := Lib.hid hr.2.1
  rw [bool_yes hr] at HR
  have eb : (((hi x : Int) - 1) != -1) = false := by rw [hh]; rfl
  have el : ((K.s.list : Int) == 0) = false := by rw [beq_eq_false_iff_ne]; omega
  generalize (hi x : Int) - 1 = hb at *
  clear hok hr hh hl0
  obtain ⟨z4, z7, z10, z11, z13, zf⟩ := pair15 h.row
  clear h hlen
  go_enter Tryz.func72, Tryz.ntmps72
  go_wp2_with (at_builtin; refine wpList_push_at rfl _ _ 33 rfl 48 i48 (.int .u64 0) 1 8 Tryz.underlying33 hinf hz0 hz1 hz2 rfl (by decide) w K.hv K.s.heads.length (headsV K.s.heads) rfl HOWN.out #[.int .u64 (x : Int)] 1 1 rfl rfl (by simp [Value.oneCell']) (by have := HLEN.out; unfold maxLen; omega) (by have := HLEN.out; omega) ?_; intro v' w' hown hgr hat; obtain ⟨va, vm, vc, rfl⟩ := own_slice hown; have HP := Lib.hid (HST.out _ w' _ hown hgr hat); clear hown hgr hat z4 z7 z10 z11 z13 zf; obtain ⟨z4, z7, z10, z11, z13, zf⟩ := pair15 HP.out.1)
  go_wp2_with fail
  obtain ⟨W1, hW1⟩ : ∃ W1, W1 = ((((w'.setCell ⟨K.x, 7, none⟩ (.slice va vm vc)).setCell ⟨K.x, 10, none⟩ (.bool true)).setCell ⟨K.x, 11, none⟩ (.bool false)).setCell ⟨K.x, 13, none⟩ (.bool false)) := ⟨_, rfl⟩
  rw [← hW1]
  have HS1 := Lib.hid (HP.out.2 W1 hW1)
  clear hW1 HP HST z4 z7 z10 z11 z13 zf HOWN
  refine (HR.out _ _ HS1.out.mat).mono ?_
  rintro e w2 ⟨rfl, hb⟩
  have HM2 := Lib.hid (HS1.out.mat.below hb)
  have HT2 := Lib.hid (HS1.out.turn.trans (Turn.of_below (F := K.own) hb) (fun _ _ h => h))
  have HBH := Lib.hid HS1.out.bh
  clear hb HS1
  go_wp2_with fail
  refine (HBY.out _).mono ?_
  rintro e w3 ⟨rfl, hb⟩
  have HM3 := Lib.hid (HM2.out.below hb)
  have HT3 := Lib.hid (HT2.out.trans (Turn.of_below (F := K.own) hb) (fun _ _ h => h))
  obtain ⟨z4, z7, z10, z11, z13, zf⟩ := pair15 HM3.out.row
  change w3.cell? _ = some (.int .i64 (K.s.list : Int)) at z4
  clear hb
  have HG := Lib.hid fun v1 w h => goOn_at g { K with s := K.s.begun x, hv := v1, nv := K.nv } ⟨hf.S, hf.T, hf.nh, hf.bu1, hf.bu⟩ x hx HLO.out hpc hS w h
  go_wp2_with fail
  refine (HG.out _ _ HM3.out).mono ?_
  rintro e w9 hto
  have H9 := Lib.hid (MkTo.after HM.out HT3.out HBH.out (fun _ hk => .inl hk) hto)
  obtain ⟨⟨u, rfl⟩, -⟩ := hto
  go_wp2_with fail
  go_end0
  rw [HEQ.out]
  exact ⟨⟨_, rfl⟩, H9.out.2⟩
theorem head_at (g : Gd) (K : Mk) (hf : Fits g K) (x : Nat) (hx : x < 18446744073709551616) (hpc : K.s.list < K.nh) (hS : K.S ≤ 100000) (hlen : K.s.heads.length ≤ 1000000) (w : World) (h : MkAt w K) :
    Calls Tryz.prog 72 #[.pointer (some ⟨K.x, 0, none⟩), .int .u64 (x : Int)] w (MkTo K (K.s.head g x) w) := by
  by_cases hr : rightL K.S g.T x
  · by_cases hh : hi x = 0
    · by_cases hl0 : K.s.list = 0
      · by_cases ho : lo x = 0
        · exact head72_none g K hf x hx hpc hS hlen hr hh hl0 ho w h
        · exact head72_q g K hf x hx hpc hS hlen hr hh hl0 ho w h
      · exact head72_l g K hf x hx hpc hS hlen hr hh hl0 w h
    · exact head72_by g K hf x hx hpc hS hlen hr hh w h
  · exact head72_wrong g K hf x hx hpc hS hlen hr w h

end Go.Proofs.YtibelcmdfkgonaaGreat
