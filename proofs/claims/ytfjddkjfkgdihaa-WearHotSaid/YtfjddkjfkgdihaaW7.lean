/- Walks of the statement's same and of layer 33's worked example. -/
import Derived.Test.YtfjddkjfkgdihaaW6
import Derived.Laws.StructEq
namespace Go.Proofs.Ytfjddkjfkgdihaa
open Go.RowKit Go.BigFrame
set_option linter.unusedVariables false
set_option linter.unusedSimpArgs false

theorem neq51 (i0 i1 i2 i3 i4 i5 : Int) (w : World) : (binOp .neq 51 (.agg #[.int .i64 i0, .int .i64 i1, .int .i64 i2, .int .i64 i3, .int .i64 i4, .int .i64 i5]) (.agg #[.int .i64 i0, .int .i64 i1, .int .i64 i2, .int .i64 i3, .int .i64 i4, .int .i64 i5])).run Try.prog w = .ok (.bool false) w := by
  obtain ⟨t3, hi, -⟩ := info_parts info3
  have hc : Try.prog.cellsOf 3 = 1 := by kernel_rfl
  have hk : Try.prog.plainKey 3 = true := by kernel_rfl
  have hp : ∀ (xs : Array Value) (j : Nat) (v : Value) (w : World), xs[j]? = some v → (part 3 xs j).run Try.prog w = .ok v w := fun xs j v w h => run_part_plain w hk h
  have h0 := hp #[.int .i64 i0, .int .i64 i1, .int .i64 i2, .int .i64 i3, .int .i64 i4, .int .i64 i5] 0 _ w rfl
  have h1 := hp #[.int .i64 i0, .int .i64 i1, .int .i64 i2, .int .i64 i3, .int .i64 i4, .int .i64 i5] 1 _ w rfl
  have h2 := hp #[.int .i64 i0, .int .i64 i1, .int .i64 i2, .int .i64 i3, .int .i64 i4, .int .i64 i5] 2 _ w rfl
  have h3 := hp #[.int .i64 i0, .int .i64 i1, .int .i64 i2, .int .i64 i3, .int .i64 i4, .int .i64 i5] 3 _ w rfl
  have h4 := hp #[.int .i64 i0, .int .i64 i1, .int .i64 i2, .int .i64 i3, .int .i64 i4, .int .i64 i5] 4 _ w rfl
  have h5 := hp #[.int .i64 i0, .int .i64 i1, .int .i64 i2, .int .i64 i3, .int .i64 i4, .int .i64 i5] 5 _ w rfl
  have hr : List.range 6 = [0, 1, 2, 3, 4, 5] := rfl
  have he := fun a => run_equalIn_int (P := Try.prog) w 9998 3 .i64 .i64 a a Try.underlying3
  rw [run_neq_struct, run_equalIn_array w 9999 _ _ Try.underlying51 hi, hc, hr]
  simp [Op.eqItems, h0, h1, h2, h3, h4, h5, he]

theorem tally_cells57 {w : World} {B : Nat} {F : Nat → Int} {v : Value} (h : w.heap[B]? = some (.cells (tallyC F v) 57 (0, 0))) :
    w.cell? ⟨B, 0, none⟩ = some (.int .i64 (F 0)) ∧ w.cell? ⟨B, 1, none⟩ = some (.int .i64 (F 1)) ∧ w.cell? ⟨B, 2, none⟩ = some (.int .i64 (F 2)) ∧ w.cell? ⟨B, 3, none⟩ = some (.int .i64 (F 3)) ∧ w.cell? ⟨B, 4, none⟩ = some (.int .i64 (F 4)) ∧ w.cell? ⟨B, 5, none⟩ = some (.int .i64 (F 5)) ∧ w.cell? ⟨B, 6, none⟩ = some (.int .i64 (F 6)) ∧ w.cell? ⟨B, 7, none⟩ = some (.int .i64 (F 7)) ∧ w.cell? ⟨B, 8, none⟩ = some (.int .i64 (F 8)) ∧ w.cell? ⟨B, 9, none⟩ = some v ∧ ∀ j, w.frozen? ⟨B, j, none⟩ = false := by
  refine ⟨?_, ?_, ?_, ?_, ?_, ?_, ?_, ?_, ?_, ?_, fun j => ?_⟩
  all_goals first | (rw [cell_of_row _ _ _ _ _ _ h]; rfl) | (unfold World.frozen?; rw [h]; simp)

def TrueOn (w : World) (e : Ending) (w' : World) : Prop := e = .returned (.bool true) ∧ Below w.heap.size w w'

set_option maxRecDepth 100000 in
set_option maxHeartbeats 4000000 in
theorem same_any (F : Nat → Int) (a1 a2 : Option Addr) (n c1 c2 : Nat) (T : Nat → Int) (w : World) (hn : n ≤ 64) (h1 : ListAt w a1 n T) (h2 : ListAt w a2 n T) :
    Calls Try.prog 35 #[tallyV F a1 n c1, tallyV F a2 n c2] w (TrueOn w) := by
  have H1 := Lib.hid h1
  have H2 := Lib.hid h2
  have hneq := fun w => neq51 (F 0) (F 1) (F 2) (F 3) (F 4) (F 5) w
  clear h1 h2
  unfold tallyV
  go_enter Try.func35, Try.ntmps35
  go_upto_region 1 with fail
  obtain ⟨W, hW⟩ : ∃ W, W = (w.alloc (.cells (tallyC F (.slice a1 n c1)) 53)).alloc (.cells (tallyC F (.slice a2 n c2)) 57) := ⟨_, rfl⟩
  obtain ⟨p, hp⟩ : ∃ p, p = w.heap.size := ⟨_, rfl⟩
  have HBW : Hid (Below p w W) := Lib.hid (by rw [hW, hp]; exact ((Below.refl _ _).alloc (Nat.le_refl _) _).alloc (by simp) _)
  have HA1 : Hid (W.heap[p]? = some (.cells (tallyC F (.slice a1 n c1)) 53 (0, 0))) := Lib.hid (by
    rw [hW, hp, Below.heap_alloc _ _ _ (by simp), heap_alloc_new])
  have HA2 : Hid (W.heap[p + 1]? = some (.cells (tallyC F (.slice a2 n c2)) 57 (0, 0))) := Lib.hid (by
    rw [hW, hp]
    have := heap_alloc_new (w.alloc (.cells (tallyC F (.slice a1 n c1)) 53)) (.cells (tallyC F (.slice a2 n c2)) 57)
    simpa using this)
  simp only [tallyC] at hW
  rw [← hW, ← hp]
  have HP := Lib.hid hp
  clear hW hp
  obtain ⟨x0, x1, x2, x3, x4, x5, x6, x7, x8, x9, xz⟩ := tally_cells HA1.out
  obtain ⟨y0, y1, y2, y3, y4, y5, y6, y7, y8, y9, yz⟩ := tally_cells57 HA2.out
  go_wp2_with fail
  clear x0 x1 x2 x3 x4 x5 x6 x7 x8 y0 y1 y2 y3 y4 y5 y6 y7 y8
  have HX := Lib.hid x9
  have HY := Lib.hid y9
  clear x9 y9 xz yz hneq
  go_loopw [5] (fun i wr => ∃ k : Nat, k ≤ n ∧ i = .int .i64 k ∧ ∃ q, wr = W.drewN q) (fun i _ => n - (intOf i).toNat)
  case atStart => exact ⟨0, Nat.zero_le _, rfl, 0, rfl⟩
  case round =>
    obtain ⟨k, hk, rfl, q, rfl⟩ := hrel
    have x9 := HX.out
    have y9 := HY.out
    by_cases hkn : k < n
    · obtain ⟨b1, o1, rfl, hb1, hc1⟩ := H1.out k hkn
      obtain ⟨b2, o2, rfl, hb2, hc2⟩ := H2.out k hkn
      have d1 : W.cell? ⟨b1, o1 + k, none⟩ = some (.int .i64 (T k)) := (HBW.out.cell (p := ⟨b1, o1 + k, none⟩) (by rw [HP.out]; exact hb1)).trans hc1
      have d2 : W.cell? ⟨b2, o2 + k, none⟩ = some (.int .i64 (T k)) := (HBW.out.cell (p := ⟨b2, o2 + k, none⟩) (by rw [HP.out]; exact hb2)).trans hc2
      clear hc1 hc2 hb1 hb2
      have k0 : (0 : Int) ≤ (k : Int) := by omega
      have k1 : (k : Int) < (n : Int) := by omega
      generalize T k = z at *
      go_wp2_with fail
      go_quiet (fail)
      go_wp2_with fail
      go_roundw
      case rel => exact ⟨k + 1, by omega, by go_num, _, rfl⟩
      case measure => simp [intOf]; omega
    · obtain rfl : k = n := by omega
      go_wp2_with fail
      go_ret
      exact ⟨rfl, by rw [← HP.out]; exact HBW.out.trans ⟨rfl, rfl, rfl, Nat.le_refl _, fun _ _ => rfl⟩⟩

def exA : Nat → AccD
  | 0 => ⟨1, 0, 3, 0, 0, true⟩
  | _ => ⟨3, 1, -2, 0, 0, false⟩
def exACells : Array Value := #[.int .i64 1, .int .i64 0, .int .i64 3, .int .u64 0, .int .u64 0, .bool true, .int .i64 3, .int .i64 1, .int .i64 (-2), .int .u64 0, .int .u64 0, .bool false]
theorem exA_at {w : World} {B : Nat} (h : w.heap[B]? = some (.cells exACells 50 (0, 0))) : AccsAt w (some ⟨B, 0, none⟩) 2 2 exA := by
  refine ⟨Nat.le_refl _, by decide, fun i hi => ⟨B, 0, rfl, (Array.getElem?_eq_some_iff.1 h).1, ?_⟩⟩
  rcases (show i = 0 ∨ i = 1 by omega) with rfl | rfl <;> refine ⟨?_, ?_, ?_, ?_, ?_, ?_⟩ <;> rw [cell_of_row _ _ _ _ _ _ h] <;> rfl

set_option maxRecDepth 100000 in
set_option maxHeartbeats 4000000 in
theorem awake33_any (w : World) : Calls Try.prog 32 #[] w (TrueOn w) := by
  have heq : ∀ w : World, (binOp .eql 51 (.agg #[.int .i64 0, .int .i64 1, .int .i64 0, .int .i64 1, .int .i64 0, .int .i64 0]) (.agg #[.int .i64 0, .int .i64 1, .int .i64 0, .int .i64 1, .int .i64 0, .int .i64 0])).run Try.prog w = .ok (.bool true) w := fun w => by kernel_rfl
  go_enter Try.func32, Try.ntmps32
  go_wp2_with fail
  obtain ⟨W, hW⟩ : ∃ W, W = w.alloc (.cells exACells 50) := ⟨_, rfl⟩
  obtain ⟨p, hp⟩ : ∃ p, p = w.heap.size := ⟨_, rfl⟩
  have HBW : Hid (Below p w W) := Lib.hid (by rw [hW, hp]; exact (Below.refl _ _).alloc (Nat.le_refl _) _)
  have HA : Hid (AccsAt W (some ⟨p, 0, none⟩) 2 2 exA) := Lib.hid (exA_at (by rw [hW, hp, heap_alloc_new]))
  have HWS : Hid (p ≤ W.heap.size) := Lib.hid (by rw [hW, hp]; simp)
  simp only [exACells] at hW
  rw [← hW, ← hp]
  have HP := Lib.hid hp
  clear hW hp
  have HC := Lib.hid (count_any (some ⟨p, 0, none⟩) 2 2 exA 2 2 (by decide) W HA.out (by decide))
  refine HC.out.mono ?_
  rintro e w1 ⟨g, rfl, hb, hg1, hg2, hc⟩
  have t0 : w1.cell? ⟨g, 0, none⟩ = some (.int .i64 1) := hc 0 (by decide)
  have t1 : w1.cell? ⟨g, 1, none⟩ = some (.int .i64 1) := hc 1 (by decide)
  have HB := Lib.hid (HBW.out.trans (hb.mono HWS.out))
  have F0 : ((cnt (fun x => x.hit 0) exA 2 : Nat) : Int) = 0 := by decide
  have F1 : ((cnt (fun x => x.hit 1) exA 2 : Nat) : Int) = 1 := by decide
  have F2 : ((cnt (fun x => x.hit 2) exA 2 : Nat) : Int) = 0 := by decide
  have F3 : ((cnt (fun x => x.hit 3) exA 2 : Nat) : Int) = 1 := by decide
  have F4 : ((cnt (fun x => x.hit 4) exA 2 : Nat) : Int) = 0 := by decide
  have F5 : ((cnt (fun x => x.hit 5) exA 2 : Nat) : Int) = 0 := by decide
  have F6 : ((cnt (fun x => x.hit 6) exA 2 : Nat) : Int) = 1 := by decide
  have F7 : ((cnt (fun x => x.hit 7) exA 2 : Nat) : Int) = 1 := by decide
  have F8 : ((cnt (fun x => x.hit 8) exA 2 : Nat) : Int) = 1 := by decide
  have hgn : w1.heap.size ≠ g := by omega
  have HS1 : Hid (p ≤ w1.heap.size) := Lib.hid (Nat.le_trans HWS.out hb.size)
  simp only [tallyV, F0, F1, F2, F3, F4, F5, F6, F7, F8]
  clear hb hg1 hc F0 F1 F2 F3 F4 F5 F6 F7 F8
  go_wp2
  go_ret
  exact ⟨rfl, by rw [← HP.out]; exact HB.out.alloc HS1.out _⟩
end Go.Proofs.Ytfjddkjfkgdihaa
