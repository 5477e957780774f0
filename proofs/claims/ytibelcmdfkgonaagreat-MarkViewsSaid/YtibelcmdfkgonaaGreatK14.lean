/- Layer 20 (mark): behind a slot's link (its ways printed by g14.py).
   Layer 20 (mark): behind a key, a value. No walk here. -/
import Derived.Test.YtibelcmdfkgonaaGreatK12
import Derived.Test.YtibelcmdfkgonaaGreatK13
namespace Go.Proofs.YtibelcmdfkgonaaGreat
open Go.RowKit Go.BigFrame
set_option linter.unusedVariables false
set_option linter.unusedSimpArgs false
theorem info50 : (Tryz.prog.info? 50).map (fun i => (i.zero, i.size, i.bytes)) = some (some (.agg #[.int .i64 0, .int .i64 0, .int .u64 0, .int .u64 0]), 4, 32) := by kernel_rfl
def MS.noded (s : MS) (x : Nat) : MS := { s with nodes := s.nodes ++ [⟨s.slot - 1, s.list, x, s.val⟩], free := decide (hi x = 0), first := false }
def nodeV (s : MS) (x : Nat) : List Value := [.int .i64 ((s.slot : Int) - 1), .int .i64 (s.list : Int), .int .u64 (x : Int), .int .u64 (s.val : Int)]
theorem nodesV_snoc (s : MS) (x : Nat) (h : 1 ≤ s.slot) : nodesV (s.noded x).nodes = nodesV s.nodes ++ nodeV s x := by
  have e : (((s.slot - 1 : Nat) : Int)) = (s.slot : Int) - 1 := by omega
  simp [nodesV, MS.noded, nodeV, e]
theorem nodesV_len (ns : List Node) : (nodesV ns).length = ns.length * 4 := by
  induction ns with
  | nil => rfl
  | cons a t ih =>
    have : nodesV (a :: t) = [.int .i64 (a.slot : Int), .int .i64 (a.list : Int), .int .u64 (a.link : Int), .int .u64 (a.val : Int)] ++ nodesV t := rfl
    rw [this, List.length_append, ih]; simp; omega
structure NodeSt (K : Mk) (x : Nat) (W W1 : World) (nv1 : Value) : Prop where
  mat : MkAt W1 { K with s := K.s.noded x, hv := K.hv, nv := nv1 }
  turn : Turn K.own W W1
  bn : ∀ k, nv1.ownBlock = some k → K.nv.ownBlock = some k ∨ W.heap.size ≤ k
theorem node_st {K : Mk} {x : Nat} {W w' : World} {v' : Value} (h : MkAt W K) (hsl : 1 ≤ K.s.slot) (o : Obj) (hown : w'.ownsRow 0 50 4 v' (K.s.nodes.length + 1) (nodesV K.s.nodes ++ nodeV K.s x)) (hgr : (W.alloc o).grownBy w' K.nv.ownBlock)
    (hat : v'.ownBlock = K.nv.ownBlock ∨ v'.ownBlock = some (W.heap.size + 1)) :
    w'.heap[K.x]? = some (.cells K.cells 149 (0, 0)) ∧ ∀ W1, W1 = (((w'.setCell ⟨K.x, 8, none⟩ v').setCell ⟨K.x, 13, none⟩ (.bool (decide (hi x = 0)))).setCell ⟨K.x, 10, none⟩ (.bool false)) → NodeSt K x W W1 v' := by
  have lx := lt_row h.row
  have hk : ∀ k, k < W.heap.size → K.nv.ownBlock ≠ some k → w'.heap[k]? = W.heap[k]? := fun k hk hn =>
    (hgr.block k (by simp; omega) (fun e => hn e.symm)).trans (Below.heap_alloc _ _ _ hk)
  have hrow := (hk K.x lx h.nx.1).trans h.row
  refine ⟨hrow, fun W1 hW1 => ?_⟩
  subst hW1
  have hs : ∀ k, k ≠ K.x → (((w'.setCell ⟨K.x, 8, none⟩ v').setCell ⟨K.x, 13, none⟩ (.bool (decide (hi x = 0)))).setCell ⟨K.x, 10, none⟩ (.bool false)).heap[k]? = w'.heap[k]? := fun k hk => by
    rw [heap_set_other hk, heap_set_other hk, heap_set_other hk]
  have bn : ∀ k, v'.ownBlock = some k → K.nv.ownBlock = some k ∨ W.heap.size ≤ k := fun k hk => by
    rcases hat with e | e
    · exact .inl (e ▸ hk)
    · rw [e] at hk; cases hk; exact .inr (by omega)
  have vx : v'.ownBlock ≠ some K.x := fun e => by rcases bn _ e with h1 | h1; exact h.nx.1 h1; omega
  refine ⟨?_, ?_, bn⟩
  · refine h.renew K.hv v' (K.s.noded x) ?_ ?_ ?_ ?_ (fun k hk => .inl hk) bn ?_ rfl h.li h.lip h.sl h.ky h.vl
    · exact heap_set _ (heap_set _ (heap_set _ hrow))
    · exact fun k hk' n1 n2 n3 => (hs k n1).trans (hk k hk' n3)
    · show World.ownsRow _ 0 48 1 K.hv K.s.heads.length (headsV K.s.heads)
      exact own_keep' h.heads fun k hk' => (hs k fun e => h.hx.1 (e ▸ hk')).trans (hk k (h.heads.lt k hk').2 fun e => h.hn k hk' e)
    · rw [nodesV_snoc _ _ hsl]
      show World.ownsRow _ 0 50 4 v' (K.s.nodes ++ [_]).length _
      rw [List.length_append]
      exact own_keep' hown fun k hk => hs k fun e => vx (e ▸ hk)
    · exact fun k hk' hk2 => by
        rcases bn k hk2 with h1 | h1
        · exact h.hn k hk' h1
        · have := (h.heads.lt k hk').2; omega
  · have t1 : Turn K.own W w' := ⟨hgr.os, hgr.tape, hgr.output, Nat.le_trans (by simp) hgr.size, fun k hk' hn => hk k hk' fun e => hn (.inr (.inr (.inr (.inr e))))⟩
    exact ((t1.set (fun _ => .inl rfl) _ _).set (fun _ => .inl rfl) _ _).set (fun _ => .inl rfl) _ _
theorem MkAt.drewN {W : World} {K : Mk} (h : MkAt W K) (n : Nat) : MkAt (W.drewN n) K := h.keep fun _ _ => rfl
theorem pair15b {W : World} {x : Nat} {K : Mk} (h : W.heap[x]? = some (.cells K.cells 149 (0, 0))) :
    W.cell? ⟨x, 8, none⟩ = some K.nv ∧ W.cell? ⟨x, 9, none⟩ = some (.int .i64 ((K.s.slot : Int) - 1)) ∧ W.cell? ⟨x, 14, none⟩ = some (.int .u64 (K.s.val : Int)) :=
  ⟨cell_row h 8 _ rfl, cell_row h 9 _ rfl, cell_row h 14 _ rfl⟩

set_option maxRecDepth 100000 in
theorem linked78_wrong (g : Gd) (K : Mk) (hf : Fits g K) (x : Nat) (hx : x < 18446744073709551616) (hpc : K.s.list < K.nh) (hS : K.S ≤ 100000) (hlen : K.s.nodes.length ≤ 1000000) (hsl : 1 ≤ K.s.slot) (hr : ¬ rightL K.S g.T x) (w : World) (h : MkAt w K) :
    Calls Tryz.prog 78 #[.pointer (some ⟨K.x, 0, none⟩), .int .u64 (x : Int)] w (MkTo K (K.s.linked g x) w) := by
  have HM := Lib.hid h
  have HR : Hid (∀ W1, MkAt W1 K → Calls Tryz.prog 135 #[.pointer (some ⟨K.x, 0, none⟩), .int .u64 (x : Int)] W1 (Gives (.bool (decide (rightL K.S g.T x))) W1)) := Lib.hid fun W1 h1 => right135 K x g.T hx hf.T W1 h1
  have HBY : Hid (∀ w, Calls Tryz.prog 95 #[.int .u64 (x : Int)] w (Gives (.int .i64 ((hi x : Int) - 1)) w)) := Lib.hid fun w => by rw [← by_hi]; exact by95 _ (by unfold U64; omega) w
  have hbad : ¬ rightL g.S g.T x ∨ (K.s.list = 0 ∧ K.s.free = true ∧ hi x ≠ 0) := .inl (by rw [hf.S]; exact hr)
  have HEQ : Hid (K.s.linked g x = K.s.fail) := Lib.hid (by unfold MS.linked; rw [if_pos hbad]; try rfl)
  have eb : (((hi x : Int) - 1) == -1) = decide (hi x = 0) := by
    by_cases e : hi x = 0
    · rw [e]; rfl
    · rw [bool_no e, beq_eq_false_iff_ne]; omega
  have HFR0 : Hid (decide (hi x = 0) = decide (hi x = 0)) := Lib.hid rfl
  generalize hfr : decide (hi x = 0) = fr at eb
  have HFR := Lib.hid hfr
  generalize (hi x : Int) - 1 = hb at *
  rw [bool_no hr] at HR
  clear hbad hr hfr
  clear h
  go_enter Tryz.func78, Tryz.ntmps78
  go_wp2_with fail
  refine (HBY.out _).mono ?_
  rintro e w1 ⟨rfl, hb⟩
  have HM1 := Lib.hid (HM.out.below hb)
  have HT1 := Lib.hid (Turn.of_below (F := K.own) hb)
  clear hb
  go_wp2_with fail
  refine (HR.out _ HM1.out).mono ?_
  rintro e w2 ⟨rfl, hb⟩
  have HM2 := Lib.hid (HM1.out.below hb)
  have HT2 := Lib.hid (HT1.out.trans (Turn.of_below (F := K.own) hb) (fun _ _ h => h))
  obtain ⟨z4, z7, z10, z11, z13, zf⟩ := pair15 HM2.out.row
  obtain ⟨z8, z9, z14⟩ := pair15b HM2.out.row
  clear hb HR
  have HF := Lib.hid fun w h => fail_at K w h
  go_wp2_with fail
  refine (HF.out _ HM2.out).mono ?_
  rintro e w9 hto
  have H9 := Lib.hid (MkTo.after HM.out HT2.out (fun _ hk => .inl hk) (fun _ hk => .inl hk) (show MkTo { K with s := K.s, hv := K.hv, nv := K.nv } K.s.fail w2 e w9 from hto))
  obtain ⟨⟨u, rfl⟩, -⟩ := hto
  clear z4 z7 z8 z9 z10 z11 z13 z14 zf
  go_wp2_with fail
  go_end0
  rw [HEQ.out]
  exact ⟨⟨_, rfl⟩, H9.out.2⟩
set_option maxRecDepth 100000 in
theorem linked78_taken (g : Gd) (K : Mk) (hf : Fits g K) (x : Nat) (hx : x < 18446744073709551616) (hpc : K.s.list < K.nh) (hS : K.S ≤ 100000) (hlen : K.s.nodes.length ≤ 1000000) (hsl : 1 ≤ K.s.slot) (hr : rightL K.S g.T x) (hl0 : K.s.list = 0) (hfree : K.s.free = true) (hh : hi x ≠ 0) (w : World) (h : MkAt w K) :
    Calls Tryz.prog 78 #[.pointer (some ⟨K.x, 0, none⟩), .int .u64 (x : Int)] w (MkTo K (K.s.linked g x) w) := by
  have HM := Lib.hid h
  have HR : Hid (∀ W1, MkAt W1 K → Calls Tryz.prog 135 #[.pointer (some ⟨K.x, 0, none⟩), .int .u64 (x : Int)] W1 (Gives (.bool (decide (rightL K.S g.T x))) W1)) := Lib.hid fun W1 h1 => right135 K x g.T hx hf.T W1 h1
  have HBY : Hid (∀ w, Calls Tryz.prog 95 #[.int .u64 (x : Int)] w (Gives (.int .i64 ((hi x : Int) - 1)) w)) := Lib.hid fun w => by rw [← by_hi]; exact by95 _ (by unfold U64; omega) w
  have hbad : ¬ rightL g.S g.T x ∨ (K.s.list = 0 ∧ K.s.free = true ∧ hi x ≠ 0) := .inr ⟨hl0, hfree, hh⟩
  have HEQ : Hid (K.s.linked g x = K.s.fail) := Lib.hid (by unfold MS.linked; rw [if_pos hbad]; try rfl)
  have eb : (((hi x : Int) - 1) == -1) = decide (hi x = 0) := by
    by_cases e : hi x = 0
    · rw [e]; rfl
    · rw [bool_no e, beq_eq_false_iff_ne]; omega
  have HFR0 : Hid (decide (hi x = 0) = decide (hi x = 0)) := Lib.hid rfl
  generalize hfr : decide (hi x = 0) = fr at eb
  have HFR := Lib.hid hfr
  generalize (hi x : Int) - 1 = hb at *
  obtain rfl : fr = false := by rw [← hfr]; exact bool_no hh
  have el : ((K.s.list : Int) == 0) = true := by rw [hl0]; rfl
  rw [bool_yes hr] at HR
  have HFREE := Lib.hid hfree
  clear hbad hr hfr hl0 hfree hh
  clear h
  go_enter Tryz.func78, Tryz.ntmps78
  go_wp2_with fail
  refine (HBY.out _).mono ?_
  rintro e w1 ⟨rfl, hb⟩
  have HM1 := Lib.hid (HM.out.below hb)
  have HT1 := Lib.hid (Turn.of_below (F := K.own) hb)
  clear hb
  go_wp2_with fail
  refine (HR.out _ HM1.out).mono ?_
  rintro e w2 ⟨rfl, hb⟩
  have HM2 := Lib.hid (HM1.out.below hb)
  have HT2 := Lib.hid (HT1.out.trans (Turn.of_below (F := K.own) hb) (fun _ _ h => h))
  obtain ⟨z4, z7, z10, z11, z13, zf⟩ := pair15 HM2.out.row
  obtain ⟨z8, z9, z14⟩ := pair15b HM2.out.row
  clear hb HR
  rw [HFREE.out] at z13
  have HF := Lib.hid fun w h => fail_at K w h
  go_wp2_with fail
  refine (HF.out _ HM2.out).mono ?_
  rintro e w9 hto
  have H9 := Lib.hid (MkTo.after HM.out HT2.out (fun _ hk => .inl hk) (fun _ hk => .inl hk) (show MkTo { K with s := K.s, hv := K.hv, nv := K.nv } K.s.fail w2 e w9 from hto))
  obtain ⟨⟨u, rfl⟩, -⟩ := hto
  clear z4 z7 z8 z9 z10 z11 z13 z14 zf
  go_wp2_with fail
  go_end0
  rw [HEQ.out]
  exact ⟨⟨_, rfl⟩, H9.out.2⟩
set_option maxRecDepth 100000 in
theorem linked78_list (g : Gd) (K : Mk) (hf : Fits g K) (x : Nat) (hx : x < 18446744073709551616) (hpc : K.s.list < K.nh) (hS : K.S ≤ 100000) (hlen : K.s.nodes.length ≤ 1000000) (hsl : 1 ≤ K.s.slot) (hr : rightL K.S g.T x) (hl0 : K.s.list ≠ 0) (w : World) (h : MkAt w K) :
    Calls Tryz.prog 78 #[.pointer (some ⟨K.x, 0, none⟩), .int .u64 (x : Int)] w (MkTo K (K.s.linked g x) w) := by
  have HM := Lib.hid h
  have HR : Hid (∀ W1, MkAt W1 K → Calls Tryz.prog 135 #[.pointer (some ⟨K.x, 0, none⟩), .int .u64 (x : Int)] W1 (Gives (.bool (decide (rightL K.S g.T x))) W1)) := Lib.hid fun W1 h1 => right135 K x g.T hx hf.T W1 h1
  have HBY : Hid (∀ w, Calls Tryz.prog 95 #[.int .u64 (x : Int)] w (Gives (.int .i64 ((hi x : Int) - 1)) w)) := Lib.hid fun w => by rw [← by_hi]; exact by95 _ (by unfold U64; omega) w
  have hok : ¬ (¬ rightL g.S g.T x ∨ (K.s.list = 0 ∧ K.s.free = true ∧ hi x ≠ 0)) := by rintro (e | e); exact e (by rw [hf.S]; exact hr); exact hl0 e.1
  have HEQ : Hid (K.s.linked g x = (K.s.noded x).goOn g x) := Lib.hid (by unfold MS.linked; rw [if_neg hok]; try rfl)
  have eb : (((hi x : Int) - 1) == -1) = decide (hi x = 0) := by
    by_cases e : hi x = 0
    · rw [e]; rfl
    · rw [bool_no e, beq_eq_false_iff_ne]; omega
  have HFR0 : Hid (decide (hi x = 0) = decide (hi x = 0)) := Lib.hid rfl
  generalize hfr : decide (hi x = 0) = fr at eb
  have HFR := Lib.hid hfr
  generalize (hi x : Int) - 1 = hb at *
  have HLO := Lib.hid hr.2.1
  have el : ((K.s.list : Int) == 0) = false := by rw [beq_eq_false_iff_ne]; omega
  rw [bool_yes hr] at HR
  clear hok hr hfr hl0
  clear h
  go_enter Tryz.func78, Tryz.ntmps78
  go_wp2_with fail
  refine (HBY.out _).mono ?_
  rintro e w1 ⟨rfl, hb⟩
  have HM1 := Lib.hid (HM.out.below hb)
  have HT1 := Lib.hid (Turn.of_below (F := K.own) hb)
  clear hb
  go_wp2_with fail
  refine (HR.out _ HM1.out).mono ?_
  rintro e w2 ⟨rfl, hb⟩
  have HM2 := Lib.hid (HM1.out.below hb)
  have HT2 := Lib.hid (HT1.out.trans (Turn.of_below (F := K.own) hb) (fun _ _ h => h))
  obtain ⟨z4, z7, z10, z11, z13, zf⟩ := pair15 HM2.out.row
  obtain ⟨z8, z9, z14⟩ := pair15b HM2.out.row
  clear hb HR
  have HLEN := Lib.hid hlen
  have HSL := Lib.hid hsl
  have HST : Hid (∀ W, MkAt W K → ∀ o w' v', w'.ownsRow 0 50 4 v' (K.s.nodes.length + 1) (nodesV K.s.nodes ++ nodeV K.s x) → (W.alloc o).grownBy w' K.nv.ownBlock → (v'.ownBlock = K.nv.ownBlock ∨ v'.ownBlock = some (W.heap.size + 1)) →
    w'.heap[K.x]? = some (.cells K.cells 149 (0, 0)) ∧ ∀ W1, W1 = (((w'.setCell ⟨K.x, 8, none⟩ v').setCell ⟨K.x, 13, none⟩ (.bool fr)).setCell ⟨K.x, 10, none⟩ (.bool false)) → NodeSt K x W W1 v') := Lib.hid fun W hW o w' v' h1 h2 h3 => by
    have := node_st (x := x) hW HSL.out o h1 h2 h3
    rw [HFR.out] at this; exact this
  have HG := Lib.hid fun v1 w h => goOn_at g { K with s := K.s.noded x, hv := K.hv, nv := v1 } ⟨hf.S, hf.T, hf.nh, hf.bu1, hf.bu⟩ x hx HLO.out hpc hS w h
  obtain ⟨i50, hinf, hz0, hz1, hz2⟩ := info_parts info50
  clear hlen hsl
  have HX := Lib.hid (lt_row HM2.out.row)
  have c4 : ∀ y : Over w2.heap.size w2, y.w.cell? ⟨K.x, 4, none⟩ = some (.int .i64 (K.s.list : Int)) := fun y => (y.below.cell (p := ⟨K.x, 4, none⟩) HX.out).trans z4
  have c8 : ∀ y : Over w2.heap.size w2, y.w.cell? ⟨K.x, 8, none⟩ = some K.nv := fun y => (y.below.cell (p := ⟨K.x, 8, none⟩) HX.out).trans z8
  have c9 : ∀ y : Over w2.heap.size w2, y.w.cell? ⟨K.x, 9, none⟩ = some (.int .i64 ((K.s.slot : Int) - 1)) := fun y => (y.below.cell (p := ⟨K.x, 9, none⟩) HX.out).trans z9
  have c14 : ∀ y : Over w2.heap.size w2, y.w.cell? ⟨K.x, 14, none⟩ = some (.int .u64 (K.s.val : Int)) := fun y => (y.below.cell (p := ⟨K.x, 14, none⟩) HX.out).trans z14
  go_wp2_with fail
  clear z4 z7 z8 z9 z10 z11 z13 z14 zf
  refine region_qao w2.heap.size w2 1 4 14 (by kernel_rfl) (by kernel_rfl) (fun _ _ d _ _ h => by cases d <;> exact h) (Below.refl _ _) ?_
  simp only [List.take_succ_cons, List.take_zero, List.drop_succ_cons, List.drop_zero, Nat.reduceAdd]
  repeat (first | go_big_quiet_skip | (go_big_quiet_want; go_big_quiet_op; go_big_quiet_on))
  refine wpQuiet_nil ?_
  repeat (first | go_big_quiet_skip | (go_big_quiet_want; go_big_quiet_op; go_big_quiet_on))
  refine wpQuiet_nil ?_
  repeat (first | go_big_quiet_skip | (go_big_quiet_want; go_big_quiet_op; go_big_quiet_on))
  refine wpQuiet_nil ?_
  intro y
  clear c4 c8 c9 c14
  have HM3 := Lib.hid (HM2.out.below y.below)
  have HT3 := Lib.hid (HT2.out.trans (Turn.of_below (F := K.own) y.below) (fun _ _ h => h))
  have HOWN := Lib.hid HM3.out.nodes
  have HYB := Lib.hid y.below
  have HON : Hid (∀ o, ∃ y' : Over w2.heap.size w2, y.w.alloc o = y'.w) := Lib.hid fun o => ⟨y.on _ ((Below.refl _ _).alloc y.below.size _), rfl⟩
  generalize y.w = w3 at *
  go_wp2_with fail

  refine ⟨HON.out _, ?_⟩
  go_wp2_with (at_builtin; refine wpList_push_at rfl _ _ 45 rfl 50 i50 _ 4 32 Tryz.underlying45 hinf hz0 hz1 hz2 rfl (by decide) w3 K.nv K.s.nodes.length (nodesV K.s.nodes) rfl HOWN.out #[.int .i64 ((K.s.slot : Int) - 1), .int .i64 (K.s.list : Int), .int .u64 (x : Int), .int .u64 (K.s.val : Int)] 1 1 rfl rfl (by simp [Value.oneCell']) (by have := HLEN.out; unfold maxLen; omega) (by have := HLEN.out; omega) ?_; intro v' w' hown hgr hat; obtain ⟨va, vm, vc, rfl⟩ := own_slice hown; have HP := Lib.hid (HST.out w3 HM3.out _ w' _ hown hgr hat); clear hown hgr hat; obtain ⟨z4, z7, z10, z11, z13, zf⟩ := pair15 HP.out.1; obtain ⟨z8, z9, z14⟩ := pair15b HP.out.1)
  go_wp2_with fail
  obtain ⟨W1, hW1⟩ : ∃ W1, W1 = (((w'.setCell ⟨K.x, 8, none⟩ (.slice va vm vc)).setCell ⟨K.x, 13, none⟩ (.bool fr)).setCell ⟨K.x, 10, none⟩ (.bool false)) := ⟨_, rfl⟩
  rw [← hW1]
  have HS1 := Lib.hid (HP.out.2 W1 hW1)
  have HT4 := Lib.hid (HT3.out.trans HS1.out.turn (fun _ _ h => h))
  have HSZ := Lib.hid HT3.out.size
  clear hW1 HP HST z4 z7 z8 z9 z10 z11 z13 z14 zf HOWN
  refine (HG.out _ _ HS1.out.mat).mono ?_
  rintro e w9 hto
  have H9 := Lib.hid (MkTo.after HM.out HT4.out (fun _ hk => .inl hk) (fun k hk => (HS1.out.bn k hk).imp id fun h1 => Nat.le_trans HSZ.out h1) hto)
  obtain ⟨⟨u, rfl⟩, -⟩ := hto
  go_wp2_with fail
  go_end0
  rw [HEQ.out]
  exact ⟨⟨_, rfl⟩, H9.out.2⟩
set_option maxRecDepth 100000 in
theorem linked78_live (g : Gd) (K : Mk) (hf : Fits g K) (x : Nat) (hx : x < 18446744073709551616) (hpc : K.s.list < K.nh) (hS : K.S ≤ 100000) (hlen : K.s.nodes.length ≤ 1000000) (hsl : 1 ≤ K.s.slot) (hr : rightL K.S g.T x) (hl0 : K.s.list = 0) (hfree : K.s.free = false) (w : World) (h : MkAt w K) :
    Calls Tryz.prog 78 #[.pointer (some ⟨K.x, 0, none⟩), .int .u64 (x : Int)] w (MkTo K (K.s.linked g x) w) := by
  have HM := Lib.hid h
  have HR : Hid (∀ W1, MkAt W1 K → Calls Tryz.prog 135 #[.pointer (some ⟨K.x, 0, none⟩), .int .u64 (x : Int)] W1 (Gives (.bool (decide (rightL K.S g.T x))) W1)) := Lib.hid fun W1 h1 => right135 K x g.T hx hf.T W1 h1
  have HBY : Hid (∀ w, Calls Tryz.prog 95 #[.int .u64 (x : Int)] w (Gives (.int .i64 ((hi x : Int) - 1)) w)) := Lib.hid fun w => by rw [← by_hi]; exact by95 _ (by unfold U64; omega) w
  have hok : ¬ (¬ rightL g.S g.T x ∨ (K.s.list = 0 ∧ K.s.free = true ∧ hi x ≠ 0)) := by rintro (e | e); exact e (by rw [hf.S]; exact hr); rw [hfree] at e; exact absurd e.2.1 (by decide)
  have HEQ : Hid (K.s.linked g x = (K.s.noded x).goOn g x) := Lib.hid (by unfold MS.linked; rw [if_neg hok]; try rfl)
  have eb : (((hi x : Int) - 1) == -1) = decide (hi x = 0) := by
    by_cases e : hi x = 0
    · rw [e]; rfl
    · rw [bool_no e, beq_eq_false_iff_ne]; omega
  have HFR0 : Hid (decide (hi x = 0) = decide (hi x = 0)) := Lib.hid rfl
  generalize hfr : decide (hi x = 0) = fr at eb
  have HFR := Lib.hid hfr
  generalize (hi x : Int) - 1 = hb at *
  have HLO := Lib.hid hr.2.1
  have el : ((K.s.list : Int) == 0) = true := by rw [hl0]; rfl
  rw [bool_yes hr] at HR
  have HFREE := Lib.hid hfree
  clear hok hr hfr hl0 hfree
  clear h
  go_enter Tryz.func78, Tryz.ntmps78
  go_wp2_with fail
  refine (HBY.out _).mono ?_
  rintro e w1 ⟨rfl, hb⟩
  have HM1 := Lib.hid (HM.out.below hb)
  have HT1 := Lib.hid (Turn.of_below (F := K.own) hb)
  clear hb
  go_wp2_with fail
  refine (HR.out _ HM1.out).mono ?_
  rintro e w2 ⟨rfl, hb⟩
  have HM2 := Lib.hid (HM1.out.below hb)
  have HT2 := Lib.hid (HT1.out.trans (Turn.of_below (F := K.own) hb) (fun _ _ h => h))
  obtain ⟨z4, z7, z10, z11, z13, zf⟩ := pair15 HM2.out.row
  obtain ⟨z8, z9, z14⟩ := pair15b HM2.out.row
  clear hb HR
  rw [HFREE.out] at z13
  have HLEN := Lib.hid hlen
  have HSL := Lib.hid hsl
  have HST : Hid (∀ W, MkAt W K → ∀ o w' v', w'.ownsRow 0 50 4 v' (K.s.nodes.length + 1) (nodesV K.s.nodes ++ nodeV K.s x) → (W.alloc o).grownBy w' K.nv.ownBlock → (v'.ownBlock = K.nv.ownBlock ∨ v'.ownBlock = some (W.heap.size + 1)) →
    w'.heap[K.x]? = some (.cells K.cells 149 (0, 0)) ∧ ∀ W1, W1 = (((w'.setCell ⟨K.x, 8, none⟩ v').setCell ⟨K.x, 13, none⟩ (.bool fr)).setCell ⟨K.x, 10, none⟩ (.bool false)) → NodeSt K x W W1 v') := Lib.hid fun W hW o w' v' h1 h2 h3 => by
    have := node_st (x := x) hW HSL.out o h1 h2 h3
    rw [HFR.out] at this; exact this
  have HG := Lib.hid fun v1 w h => goOn_at g { K with s := K.s.noded x, hv := K.hv, nv := v1 } ⟨hf.S, hf.T, hf.nh, hf.bu1, hf.bu⟩ x hx HLO.out hpc hS w h
  obtain ⟨i50, hinf, hz0, hz1, hz2⟩ := info_parts info50
  clear hlen hsl
  have HX := Lib.hid (lt_row HM2.out.row)
  have c4 : ∀ y : Over w2.heap.size w2, y.w.cell? ⟨K.x, 4, none⟩ = some (.int .i64 (K.s.list : Int)) := fun y => (y.below.cell (p := ⟨K.x, 4, none⟩) HX.out).trans z4
  have c8 : ∀ y : Over w2.heap.size w2, y.w.cell? ⟨K.x, 8, none⟩ = some K.nv := fun y => (y.below.cell (p := ⟨K.x, 8, none⟩) HX.out).trans z8
  have c9 : ∀ y : Over w2.heap.size w2, y.w.cell? ⟨K.x, 9, none⟩ = some (.int .i64 ((K.s.slot : Int) - 1)) := fun y => (y.below.cell (p := ⟨K.x, 9, none⟩) HX.out).trans z9
  have c14 : ∀ y : Over w2.heap.size w2, y.w.cell? ⟨K.x, 14, none⟩ = some (.int .u64 (K.s.val : Int)) := fun y => (y.below.cell (p := ⟨K.x, 14, none⟩) HX.out).trans z14
  go_wp2_with fail
  clear z4 z7 z8 z9 z10 z11 z13 z14 zf
  refine region_qao w2.heap.size w2 1 4 14 (by kernel_rfl) (by kernel_rfl) (fun _ _ d _ _ h => by cases d <;> exact h) (Below.refl _ _) ?_
  simp only [List.take_succ_cons, List.take_zero, List.drop_succ_cons, List.drop_zero, Nat.reduceAdd]
  repeat (first | go_big_quiet_skip | (go_big_quiet_want; go_big_quiet_op; go_big_quiet_on))
  refine wpQuiet_nil ?_
  repeat (first | go_big_quiet_skip | (go_big_quiet_want; go_big_quiet_op; go_big_quiet_on))
  refine wpQuiet_nil ?_
  repeat (first | go_big_quiet_skip | (go_big_quiet_want; go_big_quiet_op; go_big_quiet_on))
  refine wpQuiet_nil ?_
  intro y
  clear c4 c8 c9 c14
  have HM3 := Lib.hid (HM2.out.below y.below)
  have HT3 := Lib.hid (HT2.out.trans (Turn.of_below (F := K.own) y.below) (fun _ _ h => h))
  have HOWN := Lib.hid HM3.out.nodes
  have HYB := Lib.hid y.below
  have HON : Hid (∀ o, ∃ y' : Over w2.heap.size w2, y.w.alloc o = y'.w) := Lib.hid fun o => ⟨y.on _ ((Below.refl _ _).alloc y.below.size _), rfl⟩
  generalize y.w = w3 at *
  go_wp2_with fail

  refine ⟨HON.out _, ?_⟩
  go_wp2_with (at_builtin; refine wpList_push_at rfl _ _ 45 rfl 50 i50 _ 4 32 Tryz.underlying45 hinf hz0 hz1 hz2 rfl (by decide) w3 K.nv K.s.nodes.length (nodesV K.s.nodes) rfl HOWN.out #[.int .i64 ((K.s.slot : Int) - 1), .int .i64 (K.s.list : Int), .int .u64 (x : Int), .int .u64 (K.s.val : Int)] 1 1 rfl rfl (by simp [Value.oneCell']) (by have := HLEN.out; unfold maxLen; omega) (by have := HLEN.out; omega) ?_; intro v' w' hown hgr hat; obtain ⟨va, vm, vc, rfl⟩ := own_slice hown; have HP := Lib.hid (HST.out w3 HM3.out _ w' _ hown hgr hat); clear hown hgr hat; obtain ⟨z4, z7, z10, z11, z13, zf⟩ := pair15 HP.out.1; obtain ⟨z8, z9, z14⟩ := pair15b HP.out.1)
  go_wp2_with fail
  obtain ⟨W1, hW1⟩ : ∃ W1, W1 = (((w'.setCell ⟨K.x, 8, none⟩ (.slice va vm vc)).setCell ⟨K.x, 13, none⟩ (.bool fr)).setCell ⟨K.x, 10, none⟩ (.bool false)) := ⟨_, rfl⟩
  rw [← hW1]
  have HS1 := Lib.hid (HP.out.2 W1 hW1)
  have HT4 := Lib.hid (HT3.out.trans HS1.out.turn (fun _ _ h => h))
  have HSZ := Lib.hid HT3.out.size
  clear hW1 HP HST z4 z7 z8 z9 z10 z11 z13 z14 zf HOWN
  refine (HG.out _ _ HS1.out.mat).mono ?_
  rintro e w9 hto
  have H9 := Lib.hid (MkTo.after HM.out HT4.out (fun _ hk => .inl hk) (fun k hk => (HS1.out.bn k hk).imp id fun h1 => Nat.le_trans HSZ.out h1) hto)
  obtain ⟨⟨u, rfl⟩, -⟩ := hto
  go_wp2_with fail
  go_end0
  rw [HEQ.out]
  exact ⟨⟨_, rfl⟩, H9.out.2⟩
set_option maxRecDepth 100000 in
theorem linked78_free (g : Gd) (K : Mk) (hf : Fits g K) (x : Nat) (hx : x < 18446744073709551616) (hpc : K.s.list < K.nh) (hS : K.S ≤ 100000) (hlen : K.s.nodes.length ≤ 1000000) (hsl : 1 ≤ K.s.slot) (hr : rightL K.S g.T x) (hl0 : K.s.list = 0) (hfree : K.s.free = true) (hh : hi x = 0) (w : World) (h : MkAt w K) :
    Calls Tryz.prog 78 #[.pointer (some ⟨K.x, 0, none⟩), .int .u64 (x : Int)] w (MkTo K (K.s.linked g x) w) := by
  have HM := Lib.hid h
  have HR : Hid (∀ W1, MkAt W1 K → Calls Tryz.prog 135 #[.pointer (some ⟨K.x, 0, none⟩), .int .u64 (x : Int)] W1 (Gives (.bool (decide (rightL K.S g.T x))) W1)) := Lib.hid fun W1 h1 => right135 K x g.T hx hf.T W1 h1
  have HBY : Hid (∀ w, Calls Tryz.prog 95 #[.int .u64 (x : Int)] w (Gives (.int .i64 ((hi x : Int) - 1)) w)) := Lib.hid fun w => by rw [← by_hi]; exact by95 _ (by unfold U64; omega) w
  have hok : ¬ (¬ rightL g.S g.T x ∨ (K.s.list = 0 ∧ K.s.free = true ∧ hi x ≠ 0)) := by rintro (e | e); exact e (by rw [hf.S]; exact hr); exact e.2.2 hh
  have HEQ : Hid (K.s.linked g x = (K.s.noded x).goOn g x) := Lib.hid (by unfold MS.linked; rw [if_neg hok]; try rfl)
  have eb : (((hi x : Int) - 1) == -1) = decide (hi x = 0) := by
    by_cases e : hi x = 0
    · rw [e]; rfl
    · rw [bool_no e, beq_eq_false_iff_ne]; omega
  have HFR0 : Hid (decide (hi x = 0) = decide (hi x = 0)) := Lib.hid rfl
  generalize hfr : decide (hi x = 0) = fr at eb
  have HFR := Lib.hid hfr
  generalize (hi x : Int) - 1 = hb at *
  obtain rfl : fr = true := by rw [← hfr]; exact bool_yes hh
  have HLO := Lib.hid hr.2.1
  have el : ((K.s.list : Int) == 0) = true := by rw [hl0]; rfl
  rw [bool_yes hr] at HR
  have HFREE := Lib.hid hfree
  clear hok hr hfr hl0 hfree hh
  clear h
  go_enter Tryz.func78, Tryz.ntmps78
  go_wp2_with fail
  refine (HBY.out _).mono ?_
  rintro e w1 ⟨rfl, hb⟩
  have HM1 := Lib.hid (HM.out.below hb)
  have HT1 := Lib.hid (Turn.of_below (F := K.own) hb)
  clear hb
  go_wp2_with fail
  refine (HR.out _ HM1.out).mono ?_
  rintro e w2 ⟨rfl, hb⟩
  have HM2 := Lib.hid (HM1.out.below hb)
  have HT2 := Lib.hid (HT1.out.trans (Turn.of_below (F := K.own) hb) (fun _ _ h => h))
  obtain ⟨z4, z7, z10, z11, z13, zf⟩ := pair15 HM2.out.row
  obtain ⟨z8, z9, z14⟩ := pair15b HM2.out.row
  clear hb HR
  rw [HFREE.out] at z13
  have HLEN := Lib.hid hlen
  have HSL := Lib.hid hsl
  have HST : Hid (∀ W, MkAt W K → ∀ o w' v', w'.ownsRow 0 50 4 v' (K.s.nodes.length + 1) (nodesV K.s.nodes ++ nodeV K.s x) → (W.alloc o).grownBy w' K.nv.ownBlock → (v'.ownBlock = K.nv.ownBlock ∨ v'.ownBlock = some (W.heap.size + 1)) →
    w'.heap[K.x]? = some (.cells K.cells 149 (0, 0)) ∧ ∀ W1, W1 = (((w'.setCell ⟨K.x, 8, none⟩ v').setCell ⟨K.x, 13, none⟩ (.bool true)).setCell ⟨K.x, 10, none⟩ (.bool false)) → NodeSt K x W W1 v') := Lib.hid fun W hW o w' v' h1 h2 h3 => by
    have := node_st (x := x) hW HSL.out o h1 h2 h3
    rw [HFR.out] at this; exact this
  have HG := Lib.hid fun v1 w h => goOn_at g { K with s := K.s.noded x, hv := K.hv, nv := v1 } ⟨hf.S, hf.T, hf.nh, hf.bu1, hf.bu⟩ x hx HLO.out hpc hS w h
  obtain ⟨i50, hinf, hz0, hz1, hz2⟩ := info_parts info50
  clear hlen hsl
  have HX := Lib.hid (lt_row HM2.out.row)
  have c4 : ∀ y : Over w2.heap.size w2, y.w.cell? ⟨K.x, 4, none⟩ = some (.int .i64 (K.s.list : Int)) := fun y => (y.below.cell (p := ⟨K.x, 4, none⟩) HX.out).trans z4
  have c8 : ∀ y : Over w2.heap.size w2, y.w.cell? ⟨K.x, 8, none⟩ = some K.nv := fun y => (y.below.cell (p := ⟨K.x, 8, none⟩) HX.out).trans z8
  have c9 : ∀ y : Over w2.heap.size w2, y.w.cell? ⟨K.x, 9, none⟩ = some (.int .i64 ((K.s.slot : Int) - 1)) := fun y => (y.below.cell (p := ⟨K.x, 9, none⟩) HX.out).trans z9
  have c14 : ∀ y : Over w2.heap.size w2, y.w.cell? ⟨K.x, 14, none⟩ = some (.int .u64 (K.s.val : Int)) := fun y => (y.below.cell (p := ⟨K.x, 14, none⟩) HX.out).trans z14
  go_wp2_with fail
  clear z4 z7 z8 z9 z10 z11 z13 z14 zf
  refine region_qao w2.heap.size w2 1 4 14 (by kernel_rfl) (by kernel_rfl) (fun _ _ d _ _ h => by cases d <;> exact h) (Below.refl _ _) ?_
  simp only [List.take_succ_cons, List.take_zero, List.drop_succ_cons, List.drop_zero, Nat.reduceAdd]
  repeat (first | go_big_quiet_skip | (go_big_quiet_want; go_big_quiet_op; go_big_quiet_on))
  refine wpQuiet_nil ?_
  repeat (first | go_big_quiet_skip | (go_big_quiet_want; go_big_quiet_op; go_big_quiet_on))
  refine wpQuiet_nil ?_
  repeat (first | go_big_quiet_skip | (go_big_quiet_want; go_big_quiet_op; go_big_quiet_on))
  refine wpQuiet_nil ?_
  intro y
  clear c4 c8 c9 c14
  have HM3 := Lib.hid (HM2.out.below y.below)
  have HT3 := Lib.hid (HT2.out.trans (Turn.of_below (F := K.own) y.below) (fun _ _ h => h))
  have HOWN := Lib.hid HM3.out.nodes
  have HYB := Lib.hid y.below
  have HON : Hid (∀ o, ∃ y' : Over w2.heap.size w2, y.w.alloc o = y'.w) := Lib.hid fun o => ⟨y.on _ ((Below.refl _ _).alloc y.below.size _), rfl⟩
  generalize y.w = w3 at *
  go_wp2_with fail

  refine ⟨HON.out _, ?_⟩
  go_wp2_with (at_builtin; refine wpList_push_at rfl _ _ 45 rfl 50 i50 _ 4 32 Tryz.underlying45 hinf hz0 hz1 hz2 rfl (by decide) w3 K.nv K.s.nodes.length (nodesV K.s.nodes) rfl HOWN.out #[.int .i64 ((K.s.slot : Int) - 1), .int .i64 (K.s.list : Int), .int .u64 (x : Int), .int .u64 (K.s.val : Int)] 1 1 rfl rfl (by simp [Value.oneCell']) (by have := HLEN.out; unfold maxLen; omega) (by have := HLEN.out; omega) ?_; intro v' w' hown hgr hat; obtain ⟨va, vm, vc, rfl⟩ := own_slice hown; have HP := Lib.hid (HST.out w3 HM3.out _ w' _ hown hgr hat); clear hown hgr hat; obtain ⟨z4, z7, z10, z11, z13, zf⟩ := pair15 HP.out.1; obtain ⟨z8, z9, z14⟩ := pair15b HP.out.1)
  go_wp2_with fail
  obtain ⟨W1, hW1⟩ : ∃ W1, W1 = (((w'.setCell ⟨K.x, 8, none⟩ (.slice va vm vc)).setCell ⟨K.x, 13, none⟩ (.bool true)).setCell ⟨K.x, 10, none⟩ (.bool false)) := ⟨_, rfl⟩
  rw [← hW1]
  have HS1 := Lib.hid (HP.out.2 W1 hW1)
  have HT4 := Lib.hid (HT3.out.trans HS1.out.turn (fun _ _ h => h))
  have HSZ := Lib.hid HT3.out.size
  clear hW1 HP HST z4 z7 z8 z9 z10 z11 z13 z14 zf HOWN
  refine (HG.out _ _ HS1.out.mat).mono ?_
  rintro e w9 hto
  have H9 := Lib.hid (MkTo.after HM.out HT4.out (fun _ hk => .inl hk) (fun k hk => (HS1.out.bn k hk).imp id fun h1 => Nat.le_trans HSZ.out h1) hto)
  obtain ⟨⟨u, rfl⟩, -⟩ := hto
  go_wp2_with fail
  go_end0
  rw [HEQ.out]
  exact ⟨⟨_, rfl⟩, H9.out.2⟩
theorem linked_at (g : Gd) (K : Mk) (hf : Fits g K) (x : Nat) (hx : x < 18446744073709551616) (hpc : K.s.list < K.nh) (hS : K.S ≤ 100000) (hlen : K.s.nodes.length ≤ 1000000) (hsl : 1 ≤ K.s.slot) (w : World) (h : MkAt w K) :
    Calls Tryz.prog 78 #[.pointer (some ⟨K.x, 0, none⟩), .int .u64 (x : Int)] w (MkTo K (K.s.linked g x) w) := by
  by_cases hr : rightL K.S g.T x
  · by_cases hl0 : K.s.list = 0
    · cases hfree : K.s.free with
      | false => exact linked78_live g K hf x hx hpc hS hlen hsl hr hl0 hfree w h
      | true =>
        by_cases hh : hi x = 0
        · exact linked78_free g K hf x hx hpc hS hlen hsl hr hl0 hfree hh w h
        · exact linked78_taken g K hf x hx hpc hS hlen hsl hr hl0 hfree hh w h
    · exact linked78_list g K hf x hx hpc hS hlen hsl hr hl0 w h
  · exact linked78_wrong g K hf x hx hpc hS hlen hsl hr w h

end Go.Proofs.YtibelcmdfkgonaaGreat

namespace Go.Proofs.YtibelcmdfkgonaaGreat
open Go.RowKit Go.BigFrame
set_option linter.unusedVariables false
set_option linter.unusedSimpArgs false
theorem valued_at (K : Mk) (v : Nat) (hv : v < 18446744073709551616) (hl : K.s.list < K.nh) (hsl : 1 ≤ K.s.slot ∧ K.s.slot ≤ K.S) (w : World) (h : MkAt w K) :
    Calls Tryz.prog 76 #[.pointer (some ⟨K.x, 0, none⟩), .int .u64 (v : Int)] w (MkTo K (K.s.valued v) w) := by
  by_cases h0 : v / 4294967296 = 0
  · have hs : K.s.valued v = { K.s with val := v, pc := 3 } := by unfold MS.valued; rw [if_neg (fun e => e h0)]
    rw [hs]
    refine (valued76_ok K.x _ _ _ _ _ _ _ _ _ _ _ _ _ _ _ (v : Int) (by omega) w h.row).mono fun e w' hr => ?_
    exact h.to_row _ hr rfl rfl rfl h.li (fun _ => hl) (fun _ _ => hsl) h.ky hv
  · have hs : K.s.valued v = K.s.fail := by unfold MS.valued; rw [if_pos h0]
    rw [hs]
    refine (valued76_bad K.x _ _ _ _ _ _ _ _ _ _ _ _ _ _ _ (v : Int) (by omega) w h.row).mono fun e w' hr => ?_
    exact h.to_row _ hr rfl rfl rfl h.li (fun e => absurd rfl e) (fun _ e => absurd e no43) h.ky h.vl
theorem keyed_at (g : Gd) (K : Mk) (hf : Fits g K) (k : Nat) (hk : k < 18446744073709551616) (hl : K.s.list < K.nh) (hsl : 1 ≤ K.s.slot ∧ K.s.slot ≤ K.S) (w : World) (h : MkAt w K) :
    Calls Tryz.prog 74 #[.pointer (some ⟨K.x, 0, none⟩), .int .u64 (k : Int)] w (MkTo K (K.s.keyed g k) w) := by
  have hU : U64 (k : Int) := by unfold U64; omega
  have hxl : K.x ≠ K.l := fun e => h.lo (.inl e.symm)
  have hnh := h.nh1
  have l0 : (0 : Int) ≤ (K.s.list : Int) := by omega
  have l1 : (K.s.list : Int) ≤ 1000 := by omega
  have bad : ∀ e w', RowTo K.x ({ K with s := K.s.fail } : Mk).cells w e w' → MkTo K K.s.fail w e w' := fun e w' hr => h.to_row _ hr rfl rfl rfl h.li (fun e => absurd rfl e) (fun _ e => absurd e no43) h.ky h.vl
  have good : ∀ e w', RowTo K.x ({ K with s := { K.s with key := k, above := true, pc := 2 } } : Mk).cells w e w' → MkTo K { K.s with key := k, above := true, pc := 2 } w e w' := fun e w' hr => h.to_row _ hr rfl rfl rfl h.li (fun _ => hl) (fun _ _ => hsl) hk h.vl
  by_cases hA : k / 4294967296 ≠ 0
  · rw [show K.s.keyed g k = K.s.fail by unfold MS.keyed; rw [if_pos (.inl hA)]]
    by_cases h2 : 2 ≤ K.s.list
    · exact (keyed74_bad4 K.x K.l K.v _ _ _ _ _ _ _ _ _ _ _ (K.s.list : Int) (K.s.key : Int) (k : Int) K.s.above l0 l1 hU hf.bu1 (by omega) (by omega) w h.row h.lay hxl).mono bad
    · exact (keyed74_bad0 K.x K.l K.v _ _ _ _ _ _ _ _ _ _ _ (K.s.list : Int) (K.s.key : Int) (k : Int) K.s.above l0 l1 hU hf.bu1 (by omega) (by omega) w h.row h.lay hxl).mono bad
  · have hA0 : k / 4294967296 = 0 := by omega
    have hbk := hf.bu k (by omega)
    by_cases hB : K.s.above = true ∧ k ≤ K.s.key
    · rw [show K.s.keyed g k = K.s.fail by unfold MS.keyed; rw [if_pos (.inr (.inl hB))]]
      by_cases h2 : 2 ≤ K.s.list
      · exact (keyed74_bad5 K.x K.l K.v _ _ _ _ _ _ _ _ _ _ _ (K.s.list : Int) (K.s.key : Int) (k : Int) K.s.above l0 l1 hU hf.bu1 (by omega) hB.1 (by omega) (by omega) w h.row h.lay hxl).mono bad
      · exact (keyed74_bad1 K.x K.l K.v _ _ _ _ _ _ _ _ _ _ _ (K.s.list : Int) (K.s.key : Int) (k : Int) K.s.above l0 l1 hU hf.bu1 (by omega) hB.1 (by omega) (by omega) w h.row h.lay hxl).mono bad
    · by_cases h2 : 2 ≤ K.s.list
      · by_cases hot : g.bucket k ≠ K.s.list - 2
        · rw [show K.s.keyed g k = K.s.fail by unfold MS.keyed; rw [if_pos (.inr (.inr ⟨h2, hot⟩))]]
          cases hab : K.s.above with
          | false => exact (keyed74_bad8 K.x K.l K.v _ _ _ _ _ _ _ _ _ _ _ (K.s.list : Int) (K.s.key : Int) (k : Int) K.s.above l0 l1 hU hf.bu1 (by omega) hab (by omega) (by omega) w h.row h.lay hxl).mono bad
          | true => exact (keyed74_bad9 K.x K.l K.v _ _ _ _ _ _ _ _ _ _ _ (K.s.list : Int) (K.s.key : Int) (k : Int) K.s.above l0 l1 hU hf.bu1 (by omega) hab (fun e => hB ⟨hab, by omega⟩) (by omega) (by omega) w h.row h.lay hxl).mono bad
        · have hot' : g.bucket k = K.s.list - 2 := Decidable.byContradiction hot
          rw [show K.s.keyed g k = { K.s with key := k, above := true, pc := 2 } by unfold MS.keyed; rw [if_neg (by rintro (e | e | e); exact hA e; exact hB e; exact hot e.2)]]
          cases hab : K.s.above with
          | false => exact (keyed74_ok6 K.x K.l K.v _ _ _ _ _ _ _ _ _ _ _ (K.s.list : Int) (K.s.key : Int) (k : Int) K.s.above l0 l1 hU hf.bu1 (by omega) hab (by omega) (by omega) w h.row h.lay hxl).mono good
          | true => exact (keyed74_ok7 K.x K.l K.v _ _ _ _ _ _ _ _ _ _ _ (K.s.list : Int) (K.s.key : Int) (k : Int) K.s.above l0 l1 hU hf.bu1 (by omega) hab (fun e => hB ⟨hab, by omega⟩) (by omega) (by omega) w h.row h.lay hxl).mono good
      · rw [show K.s.keyed g k = { K.s with key := k, above := true, pc := 2 } by unfold MS.keyed; rw [if_neg (by rintro (e | e | e); exact hA e; exact hB e; exact h2 e.1)]]
        cases hab : K.s.above with
        | false => exact (keyed74_ok2 K.x K.l K.v _ _ _ _ _ _ _ _ _ _ _ (K.s.list : Int) (K.s.key : Int) (k : Int) K.s.above l0 l1 hU hf.bu1 (by omega) hab (by omega) w h.row h.lay hxl).mono good
        | true => exact (keyed74_ok3 K.x K.l K.v _ _ _ _ _ _ _ _ _ _ _ (K.s.list : Int) (K.s.key : Int) (k : Int) K.s.above l0 l1 hU hf.bu1 (by omega) hab (fun e => hB ⟨hab, by omega⟩) (by omega) w h.row h.lay hxl).mono good

end Go.Proofs.YtibelcmdfkgonaaGreat
