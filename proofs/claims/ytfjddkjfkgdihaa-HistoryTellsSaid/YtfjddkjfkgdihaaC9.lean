/- The page's example of layer 24. -/
import Derived.Test.YtfjddkjfkgdihaaC8
namespace Go.Proofs.Ytfjddkjfkgdihaa
open Go.RowKit Go.BigFrame
set_option linter.unusedVariables false

def exC : Nat → CallD
  | 0 => ⟨0, 3, 0, 0, 1, 0, 1, 5, 4, false, false⟩
  | 1 => ⟨1, 3, 0, 0, 1, 0, 3, 9, 7, false, false⟩
  | _ => ⟨0, 3, 0, 0, 1, 0, 5, 9, 8, false, false⟩
def exCells : Array Value := #[.int .i64 0, .int .i64 3, .int .u32 0, .int .u32 0, .int .i64 1, .int .u32 0, .int .i64 1, .int .i64 5, .int .i64 4, .bool false, .bool false,
  .int .i64 1, .int .i64 3, .int .u32 0, .int .u32 0, .int .i64 1, .int .u32 0, .int .i64 3, .int .i64 9, .int .i64 7, .bool false, .bool false,
  .int .i64 0, .int .i64 3, .int .u32 0, .int .u32 0, .int .i64 1, .int .u32 0, .int .i64 5, .int .i64 9, .int .i64 8, .bool false, .bool false]
theorem exC_at {w : World} {G : Nat} {t : TypeId} (h : w.heap[G]? = some (.cells exCells t)) (i : Nat) (hi : i < 3) : CallAt w G (0 + i * 11) (exC i) := by
  have e : ∀ j, w.cell? ⟨G, j, none⟩ = exCells[j]? := fun j => cell_of_row w G j exCells t (0, 0) h
  unfold CallAt
  simp only [e]
  match i, hi with
  | 0, _ => exact ⟨rfl, rfl, rfl, rfl, rfl, rfl, rfl, rfl, rfl, rfl, rfl⟩
  | 1, _ => exact ⟨rfl, rfl, rfl, rfl, rfl, rfl, rfl, rfl, rfl, rfl, rfl⟩
  | 2, _ => exact ⟨rfl, rfl, rfl, rfl, rfl, rfl, rfl, rfl, rfl, rfl, rfl⟩
theorem exC_over : ovTo exC 3 3 = [(0, 1), (1, 2)] := by decide
theorem exC_right : rightTo exC 3 = true := by decide
theorem exC_ahead : (exC 0).aheadB (exC 2) = true := by decide

/-- An owned slice that is not empty, written out. -/
theorem own_form {w : World} {base : Nat} {e : TypeId} {size : Nat} {v : Value} {n : Nat} {xs : List Value} (h : w.ownsRow base e size v n xs) (hn : 0 < n) :
    ∃ g cap, v = .slice (some ⟨g, 0, none⟩) n cap ∧ n ≤ cap ∧ cap ≤ maxLen ∧ base ≤ g ∧ g < w.heap.size ∧ ∀ j, j < n * size → w.cell? ⟨g, j, none⟩ = xs[j]? := by
  rcases h.2 with ⟨rfl, h0⟩ | ⟨g, cap, cur, rfl, hb, hg, hnc, hcm, hcs, htake⟩
  · omega
  · exact ⟨g, cap, rfl, hnc, hcm, hb, (Array.getElem?_eq_some_iff.1 hg).1, fun j hj => World.ownsRow.cellAt (h := ⟨h.1, .inr ⟨g, cap, cur, rfl, hb, hg, hnc, hcm, hcs, htake⟩⟩) j hj⟩

set_option maxRecDepth 100000 in
set_option maxHeartbeats 4000000 in
theorem awake24_any (w : World) : Calls Try.prog 37 #[] w (BoolOn true w) := by
  have HA := Lib.hid fun w => ahead_any (exC 0) (exC 2) w
  rw [exC_ahead] at HA
  simp only [CallD.cells, exC] at HA
  go_enter Try.func37, Try.ntmps37
  go_wp2_with fail
  obtain ⟨W, hW⟩ : ∃ W, W = (((w.alloc (.cells #[.int .i64 1, .int .u32 0] 63)).alloc (.cells #[.int .i64 3, .int .u32 0, .int .u32 0] 27)).alloc (.cells exCells 65)) := ⟨_, rfl⟩
  have hG : W.heap[w.heap.size + 1 + 1]? = some (.cells exCells 65) := by
    rw [hW]
    have := heap_alloc_new ((w.alloc (.cells #[.int .i64 1, .int .u32 0] 63)).alloc (.cells #[.int .i64 3, .int .u32 0, .int .u32 0] 27)) (.cells exCells 65)
    simpa using this
  have hB : Below w.heap.size w W := by
    rw [hW]
    exact (((Below.refl _ _).alloc (Nat.le_refl _) _).alloc (by simp) _).alloc (by simp; omega) _
  unfold exCells at hW
  rw [← hW]
  clear hW
  have HG := Lib.hid hG
  have HB := Lib.hid hB
  have hlt := (Array.getElem?_eq_some_iff.1 hG).1
  clear hG hB
  obtain ⟨G, hGG⟩ : ∃ G, G = w.heap.size + 1 + 1 := ⟨_, rfl⟩
  rw [← hGG] at HG hlt ⊢
  clear hGG
  have HC : Hid (∀ i, i < 3 → CallAt W G (0 + i * 11) (exC i)) := Lib.hid fun i hi => exC_at HG.out i hi
  refine (overlaps_any G 0 3 3 exC W (by decide) hlt HC.out).mono ?_
  rintro e w2 ⟨v, rfl, hbel, hown⟩
  rw [exC_over] at hown
  obtain ⟨g, cap, rfl, hnc, hcm, hbg, hg, hcell⟩ := own_form hown (by decide)
  have c0 := hcell 0 (by decide)
  have c1 := hcell 1 (by decide)
  have c2 := hcell 2 (by decide)
  have c3 := hcell 3 (by decide)
  simp only [pairs, List.flatMap_cons, List.flatMap_nil, List.append_nil, List.cons_append, List.nil_append, List.getElem?_cons_zero, List.getElem?_cons_succ, Int.natCast_zero, Int.natCast_one] at c0 c1 c2 c3
  have c3' : w2.cell? ⟨g, 3, none⟩ = some (.int .i64 2) := c3
  simp only [List.length_cons, List.length_nil, Nat.zero_add, Nat.reduceAdd] at hnc ⊢
  have HBEL := Lib.hid hbel
  unfold maxLen at hcm
  clear hown hbel hcell
  have HX : Hid (∀ x : Over w2.heap.size w2, ∀ i, i < 3 → CallAt x.w G (i * 11) (exC i)) := Lib.hid fun x i hi => by
    have := (HC.out i hi).of (w' := x.w) fun o => (HBEL.out.trans (x.below.mono HBEL.out.size)).cell (p := ⟨G, o, none⟩) hlt
    rwa [Nat.zero_add] at this
  have HRI : Hid (∀ x : Over w2.heap.size w2, Calls Try.prog 40 #[.slice (some ⟨G, 0, none⟩) 3 3] x.w (BoolOn true x.w)) := Lib.hid fun x => by
    have h := right_any G 0 3 3 exC x.w (by decide) (Nat.lt_of_lt_of_le hlt (HBEL.out.trans (x.below.mono HBEL.out.size)).size) (fun i hi => by rw [Nat.zero_add]; exact HX.out x i hi)
    rwa [exC_right] at h
  have f0 := fun (x : Over w2.heap.size w2) => (x.below.cell (p := ⟨g, 0, none⟩) hg).trans c0
  have f1 := fun (x : Over w2.heap.size w2) => (x.below.cell (p := ⟨g, 1, none⟩) hg).trans c1
  have f2 := fun (x : Over w2.heap.size w2) => (x.below.cell (p := ⟨g, 2, none⟩) hg).trans c2
  have f3 := fun (x : Over w2.heap.size w2) => (x.below.cell (p := ⟨g, 3, none⟩) hg).trans c3'
  have d0_0 := fun x => (HX.out x 0 (by decide)).1
  have d0_1 := fun x => (HX.out x 0 (by decide)).2.1
  have d0_2 := fun x => (HX.out x 0 (by decide)).2.2.1
  have d0_3 := fun x => (HX.out x 0 (by decide)).2.2.2.1
  have d0_4 := fun x => (HX.out x 0 (by decide)).2.2.2.2.1
  have d0_5 := fun x => (HX.out x 0 (by decide)).2.2.2.2.2.1
  have d0_6 := fun x => (HX.out x 0 (by decide)).2.2.2.2.2.2.1
  have d0_7 := fun x => (HX.out x 0 (by decide)).2.2.2.2.2.2.2.1
  have d0_8 := fun x => (HX.out x 0 (by decide)).2.2.2.2.2.2.2.2.1
  have d0_9 := fun x => (HX.out x 0 (by decide)).2.2.2.2.2.2.2.2.2.1
  have d0_10 := fun x => (HX.out x 0 (by decide)).2.2.2.2.2.2.2.2.2.2
  have d2_0 := fun x => (HX.out x 2 (by decide)).1
  have d2_1 := fun x => (HX.out x 2 (by decide)).2.1
  have d2_2 := fun x => (HX.out x 2 (by decide)).2.2.1
  have d2_3 := fun x => (HX.out x 2 (by decide)).2.2.2.1
  have d2_4 := fun x => (HX.out x 2 (by decide)).2.2.2.2.1
  have d2_5 := fun x => (HX.out x 2 (by decide)).2.2.2.2.2.1
  have d2_6 := fun x => (HX.out x 2 (by decide)).2.2.2.2.2.2.1
  have d2_7 := fun x => (HX.out x 2 (by decide)).2.2.2.2.2.2.2.1
  have d2_8 := fun x => (HX.out x 2 (by decide)).2.2.2.2.2.2.2.2.1
  have d2_9 := fun x => (HX.out x 2 (by decide)).2.2.2.2.2.2.2.2.2.1
  have d2_10 := fun x => (HX.out x 2 (by decide)).2.2.2.2.2.2.2.2.2.2
  simp only [exC, Nat.zero_mul, Nat.zero_add, Nat.reduceMul, Nat.reduceAdd] at d0_0 d0_1 d0_2 d0_3 d0_4 d0_5 d0_6 d0_7 d0_8 d0_9 d0_10 d2_0 d2_1 d2_2 d2_3 d2_4 d2_5 d2_6 d2_7 d2_8 d2_9 d2_10
  clear c0 c1 c2 c3 c3'
  have q1 : ∀ w : World, (binOp .eql 71 (.agg #[.int .i64 0, .int .i64 1]) (.agg #[.int .i64 0, .int .i64 1])).run Try.prog w = .ok (.bool true) w := fun w => by kernel_rfl
  have q2 : ∀ w : World, (binOp .eql 71 (.agg #[.int .i64 1, .int .i64 2]) (.agg #[.int .i64 1, .int .i64 2])).run Try.prog w = .ok (.bool true) w := fun w => by kernel_rfl
  go_wp2_with fail
  refine region_quiet_of (fun x : Over w2.heap.size w2 => x.w) (by kernel_rfl) (by kernel_rfl) (Over.first _ _) (Over.first_w _ _) ?_
  repeat (first | go_big_quiet_skip | (go_big_quiet_want; go_big_quiet_op; first | go_big_quiet_on | go_big_quiet_call ((rename_i x; first | (go_at_call 40; refine (HRI.out x).mono ?_; rintro e w' ⟨rfl, hb⟩; exact ⟨rfl, x.on w' (hb.mono x.below.size), rfl⟩) | (go_at_call 42; refine (HA.out _).mono ?_; rintro e w' ⟨rfl, hb⟩; exact ⟨rfl, x.on w' (hb.mono x.below.size), rfl⟩)))))
  refine wpQuiet_nil ?_
  rintro _ ⟨x, rfl⟩
  go_wp2
  go_ret
  exact ⟨rfl, HB.out.trans ((HBEL.out.trans (x.below.mono HBEL.out.size)).mono HB.out.size)⟩
end Go.Proofs.Ytfjddkjfkgdihaa
