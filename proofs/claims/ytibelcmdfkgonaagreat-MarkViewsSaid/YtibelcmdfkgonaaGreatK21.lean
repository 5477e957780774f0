/- The document's device opened, walked. -/
import Derived.Test.YtibelcmdfkgonaaGreatK20
import Derived.Deep.RegionLaw
namespace Go.Proofs.YtibelcmdfkgonaaGreat
open Go.RowKit Go.BigFrame
set_option linter.unusedVariables false
set_option linter.unusedSimpArgs false
/-- The document's device opened. -/
def ROpen (W0 : World) (m nt : Nat) (f : Nat → Int) (e : Ending) (W' : World) : Prop :=
  ∃ d kb sb wb fb c0 c1 c3 fg, e = .returned (.pointer (some ⟨d, 0, none⟩)) ∧ Dev3 W0 W' d kb sb wb c0 c1 (.slice (some ⟨fb, 0, none⟩) nt c3) nt m fg f
theorem row4 {W : World} {b : Nat} {k0 k1 k2 k3 : Value} {t : TypeId} (h : W.heap[b]? = some (.cells #[k0, k1, k2, k3] t (0, 0))) :
    W.cell? ⟨b, 0, none⟩ = some k0 ∧ W.cell? ⟨b, 1, none⟩ = some k1 ∧ W.cell? ⟨b, 2, none⟩ = some k2 ∧ W.cell? ⟨b, 3, none⟩ = some k3 ∧ ∀ j, W.frozen? ⟨b, j, none⟩ = false := by
  refine ⟨?_, ?_, ?_, ?_, fun j => ?_⟩
  all_goals first | (rw [cell_of_row _ _ _ _ _ _ h]; rfl) | (unfold World.frozen?; rw [h]; simp)
theorem info4 : (Tryz.prog.info? 4).map (fun i => (i.zero, i.size, i.bytes)) = some (some (.bool false), 1, 1) := by kernel_rfl
theorem info88 : (Tryz.prog.info? 144).map (fun i => (i.zero, i.size, i.bytes)) = some (some (.slice none 0 0), 1, 24) := by kernel_rfl
theorem dev3_start {W0 wr : World} {D m : Nat} {kv sv : Value} {f : Nat → Int} (hm : 0 < m) (h : HalfAt W0 wr D kv sv (.slice none 0 0) (.slice none 0 0) (8 * m) (8 * m) f) (fg : Nat → Nat) :
    ∃ kb sb c0 c1, Dev3 W0 ((wr.alloc (.cells (madeCells #[.int .i64 0] m) 3)).setCell ⟨D, 2, none⟩ (.slice (some ⟨wr.heap.size, 0, none⟩) m m)) D kb sb wr.heap.size c0 c1 (.slice none 0 0) 0 m fg f := by
  obtain ⟨kb, c0, c, rfl, b1, g1, _, _, x1⟩ := own_row h.kept (by omega)
  obtain ⟨sb, c1, c', rfl, b2, g2, _, _, x2⟩ := own_row h.seen (by omega)
  have hD := (Array.getElem?_eq_some_iff.1 h.row).1
  have l1 := (Array.getElem?_eq_some_iff.1 g1).1
  have l2 := (Array.getElem?_eq_some_iff.1 g2).1
  have s0 := h.below.size
  have n1 : kb ≠ D := fun e => h.n1 (by rw [e]; rfl)
  have n2 : sb ≠ D := fun e => h.n2 (by rw [e]; rfl)
  have n3 : kb ≠ sb := fun e => h.n3 kb rfl (by rw [e]; rfl)
  have k : ∀ g, g < wr.heap.size → g ≠ D → ((wr.alloc (.cells (madeCells #[.int .i64 0] m) 3)).setCell ⟨D, 2, none⟩ (.slice (some ⟨wr.heap.size, 0, none⟩) m m)).heap[g]? = wr.heap[g]? := fun g hg e => (heap_set_other e).trans (Below.heap_alloc _ _ _ hg)
  refine ⟨kb, sb, c0, c1, ?_, RowAt.keep ⟨c, _, g1, fun j hj => by rw [x1 j (by omega)]; exact wordsL_get f _ j hj⟩ (k kb l1 n1), RowAt.keep ⟨c', _, g2, fun j hj => by rw [x2 j (by omega)]; exact wordsL_get f _ j hj⟩ (k sb l2 n2), ⟨_, _, (heap_set_other (by omega)).trans (heap_alloc_new wr _), fun j hj => made_get _ _ _ hj⟩, World.ownsRow_nil _ _ _ _, fun i hi => absurd hi (by omega), ?_, fun i hi => absurd hi (by omega), fun i hi => absurd hi (by omega), (fun g e => by cases e), ?_, fun i hi => absurd hi (by omega), ?_⟩
  · have := heap_set (j := 2) (.slice (some ⟨wr.heap.size, 0, none⟩) m m) ((Below.heap_alloc wr (.cells (madeCells #[.int .i64 0] m) 3) D hD).trans h.row)
    simpa using this
  · simp only [List.nodup_cons, List.mem_cons, List.not_mem_nil, or_false, not_or, List.nodup_nil, and_true, not_false_eq_true]
    exact ⟨⟨Ne.symm n1, Ne.symm n2, by omega⟩, ⟨n3, by omega⟩, by omega⟩
  · intro g hg
    simp only [List.mem_cons, List.not_mem_nil, or_false] at hg
    have := h.base
    rcases hg with rfl | rfl | rfl | rfl <;> omega
  · exact (h.below.alloc s0 _).setCell h.base _
set_option maxRecDepth 100000 in
set_option maxHeartbeats 4000000 in
theorem refOpen25 (a : Option Addr) (b off m cap nt : Nat) (ha : a = some ⟨b, off, none⟩) (hm0 : 0 < m) (hm1 : m ≤ 262144) (ht0 : 0 < nt) (ht1 : nt ≤ 64) (f : Nat → Int) (W0 : World) (hb : b < W0.heap.size) (hw : ∀ j, j < 8 * m → W0.cell? ⟨b, off + j, none⟩ = some (.int .u64 (f j))) :
    Calls Tryz.prog 126 #[.slice a (8 * m) cap, .int .i64 nt] W0 (ROpen W0 m nt f) := by
  subst ha
  obtain ⟨i42, hi, hz0, hz1, hz2⟩ := info_parts info42
  have HB := Lib.hid hb
  have HW := Lib.hid hw
  have HM := Lib.hid (And.intro hm0 hm1)
  clear hb hw
  obtain ⟨n, hn⟩ : ∃ n, n = 8 * m := ⟨_, rfl⟩
  have hn1 : n ≤ 2097152 := by omega
  have hn8 : ((n : Int)).tdiv 8 = (m : Int) := by rw [Int.tdiv_eq_ediv_of_nonneg (by omega)]; omega
  have hn9 : (n : Int) / 8 = (m : Int) := by omega
  rw [← hn] at HW ⊢
  have HN := Lib.hid hn
  clear hn
  go_enter Tryz.func126, Tryz.ntmps126
  go_wp2_with fail
  obtain ⟨D, hD⟩ : ∃ D, D = W0.heap.size := ⟨_, rfl⟩
  rw [← hD]
  have HD := Lib.hid hD
  clear hD
  go_loopw [6] (fun i wr => ∃ (k : Nat) (kv sv : Value), k ≤ n ∧ i = .int .i64 k ∧ Hid (HalfAt W0 wr D kv sv (.slice none 0 0) (.slice none 0 0) k k f)) (fun i _ => n - (intOf i).toNat)
  case atStart => exact ⟨0, _, _, Nat.zero_le _, rfl, Lib.hid ⟨by rw [HD.out]; exact heap_alloc_new _ _, World.ownsRow_nil _ _ _ _, World.ownsRow_nil _ _ _ _, by rw [HD.out]; exact Nat.le_refl _, (by intro e; cases e), (by intro e; cases e), (by intro g e; cases e), (Below.refl _ _).alloc (Nat.le_refl _) _⟩⟩
  case round =>
    obtain ⟨k, kv, sv, hk, rfl, HH⟩ := hrel
    by_cases hlt : k < n
    · have e1 : decide ((k : Int) < (n : Int)) = true := bool_yes (by omega)
      have i0 : (0 : Int) ≤ (k : Int) := by omega
      have i1 : (k : Int) < (n : Int) := by omega
      obtain ⟨ka, km, kc, rfl⟩ := own_slice HH.out.kept
      obtain ⟨sa, sm, sc, rfl⟩ := own_slice HH.out.seen
      obtain ⟨y0, y1, y2, y3, yf⟩ := row4 HH.out.row
      have z0 : wr.cell? ⟨b, off + k, none⟩ = some (.int .u64 (f k)) := (HH.out.below.cell (p := ⟨b, off + k, none⟩) HB.out).trans (HW.out k hlt)
      have HBW : Hid (W0.heap.size ≤ wr.heap.size) := Lib.hid HH.out.below.size
      have HDW : Hid (D < wr.heap.size) := Lib.hid (Array.getElem?_eq_some_iff.1 HH.out.row).1
      have HVK : Hid (f k = f k) := Lib.hid rfl
      have HBL0 : Hid (b < wr.heap.size) := Lib.hid (Nat.lt_of_lt_of_le HB.out HH.out.below.size)
      obtain ⟨v, hv⟩ : ∃ v, v = f k := ⟨_, rfl⟩
      rw [← hv] at z0
      have HV := Lib.hid hv
      clear hv HVK
      have p1 : wr.heap.size ≠ D := by have := HDW.out; omega
      have p2 : D ≠ wr.heap.size := Ne.symm p1
      have p3 : wr.heap.size ≠ b := by have := HBL0.out; omega
      have p4 : b ≠ wr.heap.size := Ne.symm p3
      have p5 : ∀ o, (wr.alloc o).cell? ⟨D, 0, none⟩ = some (.slice ka km kc) := fun o => (cell_of_heap (Below.heap_alloc wr o D HDW.out) 0).trans y0
      go_wp2_with fail
      go_region_law ((refine step_append_at rfl (.tmp 20) (.tmp 25) 33 rfl W0.heap.size 48 i42 _ 1 8 Tryz.underlying33 hi hz0 hz1 hz2 rfl (by decide) (.slice ka km kc) k _ rfl (by first | exact (HH.out.kept.alloc _).drew | exact HH.out.kept.drew.alloc _) ⟨wr.heap.size, 0, none⟩ 1 1 [.int .u64 v] rfl rfl (fun j u hj => by first | exact cell_alloc wr _ _ j u hj) (by simp [Value.oneCell']) (by unfold maxLen; omega) (by omega) (by have := HBW.out; simp; omega) ?_; intro v' w1 ho hg hbl; obtain ⟨va, vm, vc, rfl⟩ := own_slice ho; have hk1 : w1.heap[D]? = wr.heap[D]? := (hg.block D (by have := HDW.out; simp; omega) (Ne.symm HH.out.n1)).trans (Below.heap_alloc _ _ _ (HDW.out)); have g0 : w1.cell? ⟨D, 0, none⟩ = some ((.slice ka km kc)) := (cell_of_heap hk1 0).trans y0; have g1 : w1.frozen? ⟨D, 0, none⟩ = false := (frozen_of_heap hk1 0).trans (yf 0); have gz : w1.cell? ⟨b, off + k, none⟩ = some (.int .u64 v) := (cell_of_heap ((hg.block b (by have := HBL0.out; simp; omega) (fun e => by have := (own_lt HH.out.kept e.symm).1; have := HB.out; omega)).trans (Below.heap_alloc _ _ _ (by have := HBL0.out; simp; omega))) _).trans z0; have HO := Lib.hid ho; have HG := Lib.hid hg; have HBL := Lib.hid hbl; clear ho hg hbl hk1))
      all_goals
        go_wp2_with fail
        have HMID := Lib.hid (HH.out.kept1 (w := (wr.alloc (.cells #[.int .u64 v] 48)).drew) (((Below.refl _ _).alloc (Nat.le_refl _) _).drew) (by rw [← HV.out]; exact HO.out) HG.out HBL.out)
        clear y0 y1 y2 y3 yf z0 g0 g1 gz p1 p2 p3 p4 p5 HO HG HBL HH HBW HDW HBL0
        obtain ⟨W2, hW2⟩ : ∃ W2, W2 = w1.setCell ⟨D, 0, none⟩ (.slice va vm vc) := ⟨_, rfl⟩
        rw [← hW2] at HMID ⊢
        clear hW2
        obtain ⟨y0, y1, y2, y3, yf⟩ := row4 HMID.out.row
        have z0 : W2.cell? ⟨b, off + k, none⟩ = some (.int .u64 v) := (HMID.out.below.cell (p := ⟨b, off + k, none⟩) HB.out).trans (by rw [HV.out]; exact HW.out k hlt)
        have HBW : Hid (W0.heap.size ≤ W2.heap.size) := Lib.hid HMID.out.below.size
        have HDW : Hid (D < W2.heap.size) := Lib.hid (Array.getElem?_eq_some_iff.1 HMID.out.row).1
        have HBL0 : Hid (b < W2.heap.size) := Lib.hid (Nat.lt_of_lt_of_le HB.out HMID.out.below.size)
        have p1 : W2.heap.size ≠ D := by have := HDW.out; omega
        have p2 : D ≠ W2.heap.size := Ne.symm p1
        have p3 : W2.heap.size ≠ b := by have := HBL0.out; omega
        have p4 : b ≠ W2.heap.size := Ne.symm p3
        have p5 : ∀ o, (W2.alloc o).cell? ⟨D, 1, none⟩ = some (.slice sa sm sc) := fun o => (cell_of_heap (Below.heap_alloc W2 o D HDW.out) 1).trans y1
        go_region_law ((refine step_append_at rfl (.tmp 33) (.tmp 38) 33 rfl W0.heap.size 48 i42 _ 1 8 Tryz.underlying33 hi hz0 hz1 hz2 rfl (by decide) (.slice sa sm sc) k _ rfl (by first | exact (HMID.out.seen.alloc _).drew | exact HMID.out.seen.drew.alloc _) ⟨W2.heap.size, 0, none⟩ 1 1 [.int .u64 v] rfl rfl (fun j u hj => by first | exact cell_alloc W2 _ _ j u hj) (by simp [Value.oneCell']) (by unfold maxLen; omega) (by omega) (by have := HBW.out; simp; omega) ?_; intro v' w1 ho hg hbl; obtain ⟨va, vm, vc, rfl⟩ := own_slice ho; have hk1 : w1.heap[D]? = W2.heap[D]? := (hg.block D (by have := HDW.out; simp; omega) (Ne.symm HMID.out.n2)).trans (Below.heap_alloc _ _ _ (HDW.out)); have g0 : w1.cell? ⟨D, 1, none⟩ = some ((.slice sa sm sc)) := (cell_of_heap hk1 1).trans y1; have g1 : w1.frozen? ⟨D, 1, none⟩ = false := (frozen_of_heap hk1 1).trans (yf 1); have gz : w1.cell? ⟨b, off + k, none⟩ = some (.int .u64 v) := (cell_of_heap ((hg.block b (by have := HBL0.out; simp; omega) (fun e => by have := (own_lt HMID.out.seen e.symm).1; have := HB.out; omega)).trans (Below.heap_alloc _ _ _ (by have := HBL0.out; simp; omega))) _).trans z0; have HO := Lib.hid ho; have HG := Lib.hid hg; have HBL := Lib.hid hbl; clear ho hg hbl hk1))
      all_goals
        go_wp2_with fail
        have HFIN := Lib.hid (HMID.out.seen1 (w := (W2.alloc (.cells #[.int .u64 v] 48)).drew) (((Below.refl _ _).alloc (Nat.le_refl _) _).drew) (by rw [← HV.out]; exact HO.out) HG.out HBL.out)
        clear y0 y1 y2 y3 yf z0 g0 g1 gz p1 p2 p3 p4 p5
        go_roundw
        case rel => exact ⟨k + 1, _, _, by omega, by go_num, HFIN⟩
        case measure => simp [intOf]; omega
    · obtain rfl : k = n := by omega
      have e1 : decide ((k : Int) < (k : Int)) = false := by simp
      have mk1 := mk_row 84 3 _ _ 8 Tryz.underlying84 info3 rfl m (by omega) (by omega)
      have mk2 := mk_row 144 4 _ _ 1 Tryz.underlying144 info4 rfl m (by omega) (by omega)
      obtain ⟨y0, y1, y2, y3, yf⟩ := row4 HH.out.row
      have HDW : Hid (D < wr.heap.size) := Lib.hid (Array.getElem?_eq_some_iff.1 HH.out.row).1
      have p1 : wr.heap.size ≠ D := by have := HDW.out; omega
      have p2 : D ≠ wr.heap.size := Ne.symm p1
      have m0 : (0 : Int) ≤ (m : Int) := by omega
      have p7 : ∀ o, (wr.alloc o).cell? ⟨D, 2, none⟩ = some (.slice none 0 0) := fun o => (cell_of_heap (Below.heap_alloc wr o D HDW.out) 2).trans y2
      have p8 : ∀ o, (wr.alloc o).frozen? ⟨D, 2, none⟩ = false := fun o => (frozen_of_heap (Below.heap_alloc wr o D HDW.out) 2).trans (yf 2)
      have HST := Lib.hid (dev3_start (f := f) HM.out.1 (by rw [← HN.out]; exact HH.out) (fun _ => 0))
      go_wp2_with fail
      obtain ⟨kb, sb, c0, c1, hst⟩ := HST.out
      obtain ⟨wb, hwb⟩ : ∃ wb, wb = wr.heap.size := ⟨_, rfl⟩
      rw [← hwb] at hst ⊢
      obtain ⟨W3, hW3⟩ : ∃ W3, W3 = (wr.alloc (.cells (madeCells #[.int .i64 0] m) 3)).setCell ⟨D, 2, none⟩ (.slice (some ⟨wb, 0, none⟩) m m) := ⟨_, rfl⟩
      rw [← hW3] at hst ⊢
      have HS3 := Lib.hid hst
      clear hst hW3 hwb y0 y1 y2 y3 yf p1 p2 p7 p8 HST HH HDW mk1
      obtain ⟨i88, hi', hz0', hz1', hz2'⟩ := info_parts info88
      go_loopw [7] (fun i wr => ∃ (q : Nat) (fv : Value) (fg : Nat → Nat), q ≤ nt ∧ i = .int .i64 q ∧ Hid (Dev3 W0 wr D kb sb wb c0 c1 fv q m fg f)) (fun i _ => nt - (intOf i).toNat)
      case atStart => exact ⟨0, _, _, Nat.zero_le _, rfl, HS3⟩
      case round =>
        obtain ⟨q, fv, fg, hq, rfl, HQ⟩ := hrel
        obtain ⟨fa, fm, fc, rfl⟩ := own_slice HQ.out.fl
        by_cases hlt : q < nt
        · have e2 : decide ((q : Int) < (nt : Int)) = true := bool_yes (by omega)
          obtain ⟨y0, y1, y2, y3, yf⟩ := row4 HQ.out.row
          have HDW : Hid (D < wr.heap.size) := Lib.hid (Array.getElem?_eq_some_iff.1 HQ.out.row).1
          have HBW : Hid (W0.heap.size ≤ wr.heap.size) := Lib.hid HQ.out.below.size
          have p1 : wr.heap.size ≠ D := by have := HDW.out; omega
          have p2 : D ≠ wr.heap.size := Ne.symm p1
          have p5 : ∀ o, (wr.alloc o).cell? ⟨D, 3, none⟩ = some (.slice fa fm fc) := fun o => (cell_of_heap (Below.heap_alloc wr o D HDW.out) 3).trans y3
          have p6 : ∀ o o', ((wr.alloc o).alloc o').cell? ⟨D, 3, none⟩ = some (.slice fa fm fc) := fun o o' => (cell_of_heap ((Below.heap_alloc _ o' D (by have := HDW.out; simp; omega)).trans (Below.heap_alloc wr o D HDW.out)) 3).trans y3
          have HNF : Hid ((Value.slice fa fm fc).ownBlock ≠ some D) := Lib.hid fun e => (HQ.out.a3 D e).1 (by simp)
          have mw : IntKind.i64.wrap (m : Int) = (m : Int) := IntWalk.i64_in _ (by omega)
          go_wp2_with fail
          go_region_law ((refine step_append_at rfl (.tmp 58) (.tmp 63) 203 rfl W0.heap.size 144 i88 _ 1 24 Tryz.underlying203 hi' hz0' hz1' hz2' rfl (by decide) (.slice fa fm fc) q _ rfl (by first | exact ((HQ.out.fl.alloc _).alloc _).drew) ⟨wr.heap.size + 1, 0, none⟩ 1 1 [.slice (some ⟨wr.heap.size, 0, none⟩) m m] rfl rfl (fun j u hj => by have := cell_alloc (wr.alloc (.cells (madeCells #[.bool false] m) 4)) #[.slice (some ⟨wr.heap.size, 0, none⟩) m m] 144 j u hj; simpa using this) (by simp [Value.oneCell']) (by unfold maxLen; omega) (by omega) (by have := HBW.out; simp; omega) ?_; intro v' w1 ho hg hbl; obtain ⟨va, vm, vc, rfl⟩ := own_slice ho; have hk1 : w1.heap[D]? = wr.heap[D]? := (hg.block D (by have := HDW.out; simp; omega) (Ne.symm HNF.out)).trans ((Below.heap_alloc _ _ _ (by have := HDW.out; simp; omega)).trans (Below.heap_alloc _ _ _ HDW.out)); have g0 : w1.cell? ⟨D, 3, none⟩ = some (.slice fa fm fc) := (cell_of_heap hk1 3).trans y3; have g1 : w1.frozen? ⟨D, 3, none⟩ = false := (frozen_of_heap hk1 3).trans (yf 3); have HO := Lib.hid ho; have HG := Lib.hid hg; have HBL := Lib.hid hbl; clear ho hg hbl hk1))
          all_goals
            go_wp2_with fail
            have HFIN := Lib.hid (HQ.out.add (w := ((wr.alloc (.cells (madeCells #[.bool false] m) 4)).alloc (.cells #[.slice (some ⟨wr.heap.size, 0, none⟩) m m] 144)).drew) (q := wr.heap.size) ((((Below.refl _ _).alloc (Nat.le_refl _) _).alloc (by simp) _).drew) (Nat.le_refl _) ⟨_, 4, (two_new wr _ _).1, fun j hj => made_get _ _ _ hj⟩ HO.out HG.out HBL.out)
            clear y0 y1 y2 y3 yf g0 g1 p1 p2 p5 p6
            go_roundw
            case rel => exact ⟨q + 1, _, _, by omega, by go_num, HFIN⟩
            case measure => simp [intOf]; omega
        · obtain rfl : q = nt := by omega
          have e2 : decide ((q : Int) < (q : Int)) = false := by simp
          obtain ⟨fb, c3, c, hfv, -⟩ := own_row HQ.out.fl ht0
          rw [hfv] at HQ
          clear hfv
          go_wp2_with fail
          go_ret
          exact ⟨D, kb, sb, wb, fb, c0, c1, c3, fg, rfl, HQ.out⟩
end Go.Proofs.YtibelcmdfkgonaaGreat
