/- Walk of wear.Add. -/
import Derived.Test.YtfjddkjfkgdihaaW3
import Derived.Test.YtfjddkjfkgdihaaW4
import Derived.Deep.RegionHeld3
import Derived.Deep.RegionLaw
import Derived.Laws.CopyOwn
import Derived.Deep.Cut
import Derived.Deep.CutRange
namespace Go.Proofs.Ytfjddkjfkgdihaa
open Go.RowKit Go.BigFrame
set_option linter.unusedVariables false

def TallyTo (F : Nat → Int) (n : Nat) (T : Nat → Int) (w : World) (e : Ending) (w' : World) : Prop :=
  ∃ a cap, e = .returned (tallyV F a n cap) ∧ Below w.heap.size w w' ∧ ListAt w' a n T
theorem CountTo.tally {F : Nat → Int} {n : Nat} {T : Nat → Int} {w : World} {e : Ending} {w' : World} (h : CountTo F n T w e w') : TallyTo F n T w e w' := by
  obtain ⟨g, rfl, hb, h1, h2, hc⟩ := h
  exact ⟨_, _, rfl, hb, fun j hj => ⟨g, 0, rfl, h2, by rw [Nat.zero_add]; exact hc j hj⟩⟩
def tallyC (F : Nat → Int) (v : Value) : Array Value := #[.int .i64 (F 0), .int .i64 (F 1), .int .i64 (F 2), .int .i64 (F 3), .int .i64 (F 4), .int .i64 (F 5), .int .i64 (F 6), .int .i64 (F 7), .int .i64 (F 8), v]
theorem tally_cells {w : World} {B : Nat} {F : Nat → Int} {v : Value} (h : w.heap[B]? = some (.cells (tallyC F v) 53 (0, 0))) :
    w.cell? ⟨B, 0, none⟩ = some (.int .i64 (F 0)) ∧ w.cell? ⟨B, 1, none⟩ = some (.int .i64 (F 1)) ∧ w.cell? ⟨B, 2, none⟩ = some (.int .i64 (F 2)) ∧ w.cell? ⟨B, 3, none⟩ = some (.int .i64 (F 3)) ∧ w.cell? ⟨B, 4, none⟩ = some (.int .i64 (F 4)) ∧ w.cell? ⟨B, 5, none⟩ = some (.int .i64 (F 5)) ∧ w.cell? ⟨B, 6, none⟩ = some (.int .i64 (F 6)) ∧ w.cell? ⟨B, 7, none⟩ = some (.int .i64 (F 7)) ∧ w.cell? ⟨B, 8, none⟩ = some (.int .i64 (F 8)) ∧ w.cell? ⟨B, 9, none⟩ = some v ∧ ∀ j, w.frozen? ⟨B, j, none⟩ = false := by
  refine ⟨?_, ?_, ?_, ?_, ?_, ?_, ?_, ?_, ?_, ?_, fun j => ?_⟩
  all_goals first | (rw [cell_of_row _ _ _ _ _ _ h]; rfl) | (unfold World.frozen?; rw [h]; simp)

theorem setRow_but (w : World) (q : Nat) (cs : Array Value) : But q q w (w.setRow q cs) :=
  ⟨rfl, rfl, rfl, by simp [World.setRow], fun k hk h1 h2 => setRow_other w q k cs h1⟩
theorem step_copy_tally {ops : Array Oper} {o : Oper} {a : Act} {w : World} {K : Act → World → Prop} {Q : Exit → Act → World → Prop} {E : Prop} (hgd : o.guard = none) (d s : Operand)
    (ho : o.op = .call { callee := .builtin .copy, args := #[d, s], argTypes := #[37, 37] }) (q g c1 c2 : Nat) (hd : a.eval d = .slice (some ⟨q, 0, none⟩) 6 c1) (hs : a.eval s = .slice (some ⟨g, 0, none⟩) 6 c2)
    (G X : Nat → Int) (sl : Value) (hq : w.heap[q]? = some (.cells (tallyC G sl) 53 (0, 0))) (hx : ∀ j, j < 6 → w.cell? ⟨g, j, none⟩ = some (.int .i64 (X j)))
    (h : ∀ w', But q q w w' → w'.heap[q]? = some (.cells (tallyC (fun j => if j < 6 then X j else G j) sl) 53 (0, 0)) → K (a.put o.dst (goInt 6)) w') :
    if Region.wanted o (yielded ops a.tmps) = true then Oper.wp Try.prog o a w K Q else E := by
  have hw : Region.wanted o (yielded ops a.tmps) = true := by simp [Region.wanted, hgd]
  rw [if_pos hw]
  have hrun := run_copy_row (P := Try.prog) w 37 37 o.type 3 q 0 6 c1 ⟨g, 0, none⟩ 6 c2 (tallyC G sl) 53 [.int .i64 (X 0), .int .i64 (X 1), .int .i64 (X 2), .int .i64 (X 3), .int .i64 (X 4), .int .i64 (X 5)] Try.underlying37 (by kernel_rfl) hq rfl (fun j v hj => by
    rw [Addr.add_lit, Nat.zero_add]
    rcases (show j = 0 ∨ j = 1 ∨ j = 2 ∨ j = 3 ∨ j = 4 ∨ j = 5 ∨ 6 ≤ j by omega) with rfl | rfl | rfl | rfl | rfl | rfl | h6
    · rw [hx 0 (by decide)]; exact hj
    · rw [hx 1 (by decide)]; exact hj
    · rw [hx 2 (by decide)]; exact hj
    · rw [hx 3 (by decide)]; exact hj
    · rw [hx 4 (by decide)]; exact hj
    · rw [hx 5 (by decide)]; exact hj
    · rw [List.getElem?_eq_none (by simpa using h6)] at hj; cases hj) (by simp [tallyC]) (by simp [Value.oneCell'])
  unfold Oper.wp
  simp [execOp, ho, resolve, invoke, builtin, hd, hs, hrun, Result.andThen]
  refine h _ (setRow_but w q _) ?_
  rw [setRow_heap w q _ _ _ _ hq]
  simp [tallyC]

def AddMid (F1 F2 : Nat → Int) (a1 a2 : Option Addr) (n c1 c2 : Nat) (T1 T2 : Nat → Int) (w : World) (p : Nat) (W : World) (v5 : Value) (wr : World) : Prop :=
  ∃ q g, v5 = .pointer (some ⟨q, 0, none⟩) ∧ Below W.heap.size W wr ∧ W.heap.size ≤ q ∧ W.heap.size ≤ g ∧ q ≠ g ∧ wr.heap[q]? = some (.cells (tallyC (fun j => if j < 6 then 0 else F1 j + F2 j) (.slice (some ⟨g, 0, none⟩) n n)) 53 (0, 0)) ∧ OwnInts wr g n (fun j => T1 j + T2 j)

theorem list_of_tally {W w' : World} {p : Nat} {F : Nat → Int} {v : Value} (h : W.heap[p]? = some (.cells (tallyC F v) 53 (0, 0))) (hb : Below W.heap.size W w') (hp : p < W.heap.size) : ListAt w' (some ⟨p, 0, none⟩) 6 F := fun j hj => by
  have h2 := (hb.block p hp).trans h
  refine ⟨p, 0, rfl, (Array.getElem?_eq_some_iff.1 h2).1, ?_⟩
  rw [Nat.zero_add, cell_of_row _ _ _ _ _ _ h2]
  rcases (show j = 0 ∨ j = 1 ∨ j = 2 ∨ j = 3 ∨ j = 4 ∨ j = 5 by omega) with rfl | rfl | rfl | rfl | rfl | rfl <;> rfl
theorem mid1 {F1 F2 : Nat → Int} {a1 a2 : Option Addr} {n c1 c2 : Nat} {T1 T2 : Nat → Int} {w : World} {p : Nat} {W w1 : World} {g : Nat} (h : Below W.heap.size W w1) (hg : W.drew.heap.size ≤ g) (ho : OwnInts w1 g n (fun j => T1 j + T2 j)) :
    AddMid F1 F2 a1 a2 n c1 c2 T1 T2 w p W (.pointer (some ⟨w1.heap.size, 0, none⟩)) (w1.alloc (.cells #[.int .i64 0, .int .i64 0, .int .i64 0, .int .i64 0, .int .i64 0, .int .i64 0, .int .i64 (F1 6 + F2 6), .int .i64 (F1 7 + F2 7), .int .i64 (F1 8 + F2 8), .slice (some ⟨g, 0, none⟩) n n] 53)) := by
  refine ⟨w1.heap.size, g, rfl, h.alloc h.size _, h.size, hg, by have := ho.lt; omega, ?_, ho.alloc _⟩
  rw [heap_alloc_new]; simp [tallyC]
theorem mid2 {F1 F2 : Nat → Int} {a1 a2 : Option Addr} {n c1 c2 : Nat} {T1 T2 : Nat → Int} {w : World} {p : Nat} {W w1 : World} {o : Obj} {g : Nat} (h : Below W.heap.size W w1) (hg : (W.alloc o).drew.heap.size ≤ g) (ho : OwnInts w1 g n (fun j => T1 j + T2 j)) (hz : w1.heap[W.heap.size]? = some (.cells zTally 53 (0, 0))) :
    AddMid F1 F2 a1 a2 n c1 c2 T1 T2 w p W (.pointer (some ⟨W.heap.size, 0, none⟩)) ((((((((((w1.setCell ⟨W.heap.size, 0, none⟩ (.int .i64 0)).setCell ⟨W.heap.size, 1, none⟩ (.int .i64 0)).setCell ⟨W.heap.size, 2, none⟩ (.int .i64 0)).setCell ⟨W.heap.size, 3, none⟩ (.int .i64 0)).setCell ⟨W.heap.size, 4, none⟩ (.int .i64 0)).setCell ⟨W.heap.size, 5, none⟩ (.int .i64 0)).setCell ⟨W.heap.size, 6, none⟩ (.int .i64 (F1 6 + F2 6))).setCell ⟨W.heap.size, 7, none⟩ (.int .i64 (F1 7 + F2 7))).setCell ⟨W.heap.size, 8, none⟩ (.int .i64 (F1 8 + F2 8))).setCell ⟨W.heap.size, 9, none⟩ (.slice (some ⟨g, 0, none⟩) n n)) := by
  have hs : W.heap.size < w1.heap.size := (Array.getElem?_eq_some_iff.1 hz).1
  have hg : W.heap.size + 1 ≤ g := by simpa using hg
  refine ⟨W.heap.size, g, rfl, ?_, Nat.le_refl _, by omega, by omega, ?_, ?_⟩
  · exact ((((((((((h.setCell (Nat.le_refl _) _).setCell (Nat.le_refl _) _).setCell (Nat.le_refl _) _).setCell (Nat.le_refl _) _).setCell (Nat.le_refl _) _).setCell (Nat.le_refl _) _).setCell (Nat.le_refl _) _).setCell (Nat.le_refl _) _).setCell (Nat.le_refl _) _).setCell (Nat.le_refl _) _)
  · simp [World.setCell, Array.getElem?_modify, hz, zTally, tallyC]
  · refine ho.keep (by simp) ?_
    iterate 10 rw [heap_setCell_ne _ _ _ _ (by simp; omega)]

set_option maxRecDepth 100000 in
set_option maxHeartbeats 1000000 in
theorem add_any (F1 F2 : Nat → Int) (a1 a2 : Option Addr) (n c1 c2 : Nat) (T1 T2 : Nat → Int) (w : World) (hn : n ≤ 64) (h1 : ListAt w a1 n T1) (h2 : ListAt w a2 n T2) (b1 : ∀ j, j < n → 0 ≤ T1 j ∧ T1 j ≤ 1000) (b2 : ∀ j, j < n → 0 ≤ T2 j ∧ T2 j ≤ 1000)
    (f1 : ∀ j, j < 9 → 0 ≤ F1 j ∧ F1 j ≤ 1000) (f2 : ∀ j, j < 9 → 0 ≤ F2 j ∧ F2 j ≤ 1000) :
    Calls Try.prog 34 #[tallyV F1 a1 n c1, tallyV F2 a2 n c2] w (TallyTo (fun j => F1 j + F2 j) n (fun j => T1 j + T2 j) w) := by
  have H1 := Lib.hid h1
  have H2 := Lib.hid h2
  have HB1 := Lib.hid b1
  have HB2 := Lib.hid b2
  have HF1 := Lib.hid f1
  have HF2 := Lib.hid f2
  clear h1 h2 b1 b2 f1 f2
  unfold tallyV
  go_enter Try.func34, Try.ntmps34
  go_wp2_with fail
  obtain ⟨W, hW⟩ : ∃ W, W = ((w.alloc (.cells (tallyC F1 (.slice a1 n c1)) 53)).alloc (.cells (tallyC F2 (.slice a2 n c2)) 53)).alloc (.cells zTally 53) := ⟨_, rfl⟩
  obtain ⟨p, hp⟩ : ∃ p, p = w.heap.size := ⟨_, rfl⟩
  have HBW : Hid (Below w.heap.size w W) := Lib.hid (by rw [hW]; exact (((Below.refl _ _).alloc (Nat.le_refl _) _).alloc (by simp) _).alloc (by simp; omega) _)
  have HA1 : Hid (W.heap[p]? = some (.cells (tallyC F1 (.slice a1 n c1)) 53 (0, 0))) := Lib.hid (by
    rw [hW, hp, Below.heap_alloc _ _ _ (by simp; omega), Below.heap_alloc _ _ _ (by simp), heap_alloc_new])
  have HA2 : Hid (W.heap[p + 1]? = some (.cells (tallyC F2 (.slice a2 n c2)) 53 (0, 0))) := Lib.hid (by
    rw [hW, hp, Below.heap_alloc _ _ _ (by simp)]
    have := heap_alloc_new (w.alloc (.cells (tallyC F1 (.slice a1 n c1)) 53)) (.cells (tallyC F2 (.slice a2 n c2)) 53)
    simpa using this)
  have HA3 : Hid (W.heap[p + 1 + 1]? = some (.cells zTally 53 (0, 0))) := Lib.hid (by
    rw [hW, hp]
    have := heap_alloc_new ((w.alloc (.cells (tallyC F1 (.slice a1 n c1)) 53)).alloc (.cells (tallyC F2 (.slice a2 n c2)) 53)) (.cells zTally 53)
    simpa using this)
  have HS : Hid (W.heap.size = p + 3) := Lib.hid (by rw [hW, hp]; simp)
  simp only [tallyC, zTally] at hW
  rw [← hW, ← hp]
  have HP := Lib.hid hp
  clear hW hp
  obtain ⟨x0, x1, x2, x3, x4, x5, x6, x7, x8, x9, xz⟩ := tally_cells HA1.out
  obtain ⟨y0, y1, y2, y3, y4, y5, y6, y7, y8, y9, yz⟩ := tally_cells HA2.out
  obtain ⟨l6, u6⟩ := HF1.out 6 (by decide)
  obtain ⟨l7, u7⟩ := HF1.out 7 (by decide)
  obtain ⟨l8, u8⟩ := HF1.out 8 (by decide)
  obtain ⟨m6, v6⟩ := HF2.out 6 (by decide)
  obtain ⟨m7, v7⟩ := HF2.out 7 (by decide)
  obtain ⟨m8, v8⟩ := HF2.out 8 (by decide)
  have w6 : IntKind.i64.wrap (F1 6 + F2 6) = F1 6 + F2 6 := IntWalk.i64_in _ (by omega)
  have w7 : IntKind.i64.wrap (F1 7 + F2 7) = F1 7 + F2 7 := IntWalk.i64_in _ (by omega)
  have w8 : IntKind.i64.wrap (F1 8 + F2 8) = F1 8 + F2 8 := IntWalk.i64_in _ (by omega)
  have HSUM : Hid (∀ w', Below w.heap.size w w' → Calls Try.prog 58 #[.slice a1 n c1, .slice a2 n c2] w' (SumsTo n (fun j => T1 j + T2 j) w')) := Lib.hid fun w' hb => sums_any a1 a2 n c1 c2 T1 T2 w' hn (H1.out.below hb) (H2.out.below hb) HB1.out HB2.out
  have HWS : Hid (w.heap.size ≤ W.heap.size) := Lib.hid HBW.out.size
  go_cut [5] from 6 (fun v5 wr => AddMid F1 F2 a1 a2 n c1 c2 T1 T2 w p W v5 wr)
  case first =>
    go_region_held3 (fun w' => w'.cell? ⟨p, 6, none⟩ = some (.int .i64 (F1 6)) ∧ w'.cell? ⟨p, 7, none⟩ = some (.int .i64 (F1 7)) ∧ w'.cell? ⟨p, 8, none⟩ = some (.int .i64 (F1 8)) ∧ w'.cell? ⟨p, 9, none⟩ = some (.slice a1 n c1) ∧ w'.cell? ⟨p + 1, 6, none⟩ = some (.int .i64 (F2 6)) ∧ w'.cell? ⟨p + 1, 7, none⟩ = some (.int .i64 (F2 7)) ∧ w'.cell? ⟨p + 1, 8, none⟩ = some (.int .i64 (F2 8)) ∧ w'.cell? ⟨p + 1, 9, none⟩ = some (.slice a2 n c2)) (go_keep) (first | (go_at_call 58; refine (HSUM.out _ (by first | exact HBW.out.drew | exact (HBW.out.alloc HWS.out _).drew)).mono ?_; rintro e w1 ⟨g, rfl, hb1, hg1, ho1⟩; have hbb : Below W.heap.size W w1 := (by first | exact ((Below.refl _ _).drew).trans hb1 | exact (((Below.refl _ _).alloc (Nat.le_refl _) _).drew).trans (hb1.mono (by simp))); have q1 : ∀ o, w1.cell? ⟨p, o, none⟩ = W.cell? ⟨p, o, none⟩ := fun o => hbb.cell (p := ⟨p, o, none⟩) (by have := HS.out; simp; omega); have q2 : ∀ o, w1.cell? ⟨p + 1, o, none⟩ = W.cell? ⟨p + 1, o, none⟩ := fun o => hbb.cell (p := ⟨p + 1, o, none⟩) (by have := HS.out; simp; omega); have n1 : w1.heap.size ≠ p := (by have := HS.out; have := hbb.size; omega); have n2 : w1.heap.size ≠ p + 1 := (by have := HS.out; have := hbb.size; omega); have n3 : W.heap.size ≠ p := (by have := HS.out; omega); have n4 : W.heap.size ≠ p + 1 := (by have := HS.out; omega); (try (have hz : w1.heap[W.heap.size]? = some (.cells zTally 53 (0, 0)) := (by rw [hb1.block _ (by simp)]; exact heap_alloc_new W _); obtain ⟨z0, z1, z2, z3, z4, z5, z6, z7, z8, z9, zz⟩ := ztally_cells hz; have HZ := Lib.hid hz; clear hz)); have HB1' := Lib.hid hb1; have HBB := Lib.hid hbb; have HG1 := Lib.hid hg1; have HO1 := Lib.hid ho1; clear hb1 hg1 ho1 hbb))
    all_goals
      go_wp2
      go_meet
      case rel =>
        clear w6 w7 w8
        first
          | with_reducible exact mid1 HBB.out HG1.out HO1.out
          | with_reducible exact mid2 HBB.out HG1.out HO1.out HZ.out
  case rest =>
    obtain ⟨W1, rfl⟩ : ∃ x, x = wc := ⟨_, rfl⟩
    clear w6 w7 w8 x0 x1 x2 x3 x4 x5 x6 x7 x8 x9 y0 y1 y2 y3 y4 y5 y6 y7 y8 y9
    obtain ⟨q, g, rfl, hb, hq, hg, hqg, hqc, hog⟩ := hcut
    have HBB := Lib.hid hb
    have HQ := Lib.hid hq
    have HG := Lib.hid hg
    have HQC := Lib.hid hqc
    have HOG := Lib.hid hog
    have HQG := Lib.hid hqg
    clear hb hq hg hqc hog hqg
    have HSUM2 : Hid (∀ w', Below W.heap.size W w' → Calls Try.prog 58 #[.slice (some ⟨p, 0, none⟩) 6 6, .slice (some ⟨p + 1, 0, none⟩) 6 6] w' (SumsTo 6 (fun j => F1 j + F2 j) w')) := Lib.hid fun w' hb =>
      sums_any (some ⟨p, 0, none⟩) (some ⟨p + 1, 0, none⟩) 6 6 6 F1 F2 w' (by decide) (list_of_tally HA1.out hb (by have := HS.out; omega)) (list_of_tally HA2.out hb (by have := HS.out; omega)) (fun j hj => HF1.out j (by omega)) (fun j hj => HF2.out j (by omega))
    go_upto_region 2 with fail
    go_region_law (first | (refine step_copy_tally rfl (.tmp 28) (.tmp 33) rfl q g2 6 6 rfl rfl _ (fun j => F1 j + F2 j) _ HQ2.out HO2.out.cell ?_; intro w3 hb3 hq3) | (go_simp; go_at_call 58; refine (HSUM2.out _ HBB.out.drew).mono ?_; rintro e w2 ⟨g2, rfl, hb2, hg2, ho2⟩; have HQ2 := Lib.hid ((hb2.block q (Array.getElem?_eq_some_iff.1 HQC.out).1).trans HQC.out); have HO2 := Lib.hid ho2; have HG2 := Lib.hid hg2; have HB2' := Lib.hid hb2; clear hb2 hg2 ho2))
    all_goals
      have HQ3 : Hid (w3.heap[q]? = some (.cells (tallyC (fun j => F1 j + F2 j) (.slice (some ⟨g, 0, none⟩) n n)) 53 (0, 0))) := Lib.hid hq3
      have HR : Hid (w3.heap[p + 1 + 1]? = some (.cells zTally 53 (0, 0))) := Lib.hid (by
        have e1 := HS.out; have e2 := HQ.out; have e3 := HBB.out.size
        rw [hb3.block _ (by have := HB2'.out.size; simp at this; omega) (by omega) (by omega), HB2'.out.block _ (by simp; omega)]
        exact (HBB.out.block _ (by omega)).trans HA3.out)
      have HOG3 : Hid (OwnInts w3 g n (fun j => T1 j + T2 j)) := Lib.hid (by
        have e := HOG.out.lt
        refine HOG.out.keep (Nat.le_trans HB2'.out.size hb3.size) ?_
        rw [hb3.block g (Nat.lt_of_lt_of_le e HB2'.out.size) (Ne.symm HQG.out) (Ne.symm HQG.out)]
        exact HB2'.out.block g e)
      have HB3 : Hid (Below w.heap.size w w3) := Lib.hid (by
        have e1 := HQ.out; have e2 := HWS.out; have e3 := HBB.out.size; have e4 := HB2'.out.size
        have e5 : W1.drew.heap.size = W1.heap.size := rfl
        exact But.below (HBW.out.trans ((HBB.out.mono HWS.out).trans ((((Below.refl _ _).drew).trans HB2'.out).mono (by omega)))) hb3 (by omega) (by omega) (by omega))
      have HPP : Hid (w.heap.size ≤ p + 1 + 1) := Lib.hid (by have := HP.out; omega)
      have HGP : Hid (g ≠ p + 1 + 1) := Lib.hid (by have := HG.out; have := HS.out; omega)
      obtain ⟨x0, x1, x2, x3, x4, x5, x6, x7, x8, x9, -⟩ := tally_cells HQ3.out
      obtain ⟨r0, r1, r2, r3, r4, r5, r6, r7, r8, r9, rz⟩ := ztally_cells HR.out
      have hqp : q ≠ p + 1 + 1 := by have := HQ.out; have := HS.out; omega
      clear hb3 hq3
      go_wp2_with fail
      refine bodyPost_ret (v := tallyV (fun j => F1 j + F2 j) (some ⟨g, 0, none⟩) n n) (by simp [results, Try.results34, go_sem, tallyV, r0, r1, r2, r3, r4, r5, r6, r7, r8, r9]) rfl ?_
      refine ⟨_, _, rfl, ?_, ?_⟩
      · exact ((((((((((HB3.out.setCell HPP.out _).setCell HPP.out _).setCell HPP.out _).setCell HPP.out _).setCell HPP.out _).setCell HPP.out _).setCell HPP.out _).setCell HPP.out _).setCell HPP.out _).setCell HPP.out _)
      · intro j hj
        refine ⟨g, 0, rfl, by simp; exact HOG3.out.lt, ?_⟩
        iterate 10 rw [cell_of_heap (heap_setCell_ne _ _ _ _ HGP.out)]
        rw [Nat.zero_add]
        exact HOG3.out.cell j hj
end Go.Proofs.Ytfjddkjfkgdihaa
