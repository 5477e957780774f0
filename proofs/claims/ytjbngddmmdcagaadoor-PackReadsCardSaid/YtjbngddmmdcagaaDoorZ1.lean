/- Layer 3: lines of noughts. -/
import Derived.Test.YtjbngddmmdcagaaDoorY3
import Derived.Test.YtjbngddmmdcagaaDoorS2
import Derived.Test.YtjbngddmmdcagaaDoorShelf
import Derived.Laws.IdiomCopy
namespace Go.Proofs.YtjbngddmmdcagaaDoor
open Go.RowKit Go.BigFrame
set_option linter.unusedVariables false
set_option linter.unusedSimpArgs false

theorem made_get (v : Value) (n j : Nat) (hj : j < n) : (madeCells #[v] n)[j]? = some v := by
  rw [← Array.getElem?_toList, toList_madeCells_one]; simp [hj]
theorem info58 : (Tryd.prog.info? 58).map (fun i => (i.zero, i.size, i.bytes)) = some (some (.agg #[.int .u64 0, .int .u64 0, .int .u64 0, .int .u64 0, .int .u64 0, .int .u64 0, .int .u64 0, .int .u64 0]), 8, 64) := by kernel_rfl
theorem zero_set {W : World} {g N : Nat} (h : Wds W g N fun _ => 0) (j : Nat) : Wds (W.setCell ⟨g, j, none⟩ (.int .u64 0)) g N fun _ => 0 :=
  RowAt.congr (RowAt.set h j (.int .u64 0)) fun k _ => by unfold upd; split <;> rfl
theorem zero_sets {g N : Nat} : ∀ (n o : Nat) (W0 W : World), Wds W g N (fun _ => 0) → But g W0 W → Wds (W.setCells g o (List.replicate n (.int .u64 0))) g N (fun _ => 0) ∧ But g W0 (W.setCells g o (List.replicate n (.int .u64 0)))
  | 0, o, W0, W, h, hb => ⟨h, hb⟩
  | n + 1, o, W0, W, h, hb => by
    rw [List.replicate_succ, World.setCells]
    exact zero_sets n (o + 1) W0 _ (zero_set h o) (hb.set o _)
theorem copy58 (w : World) (ty : TypeId) (g o dLen dCap sLen sCap k N : Nat) (hk : Nat.min sLen dLen = k) (h : Wds w g N fun _ => 0) (h1 : 8 * k ≤ N) (h2 : o + 8 * k ≤ N) (b so : Nat) (hs : ∀ j, j < 8 * k → w.cell? ⟨b, so + j, none⟩ = some (.int .u64 0)) :
    (Builtin.copy_ #[40, 40] ty #[.slice (some ⟨g, o, none⟩) dLen dCap, .slice (some ⟨b, so, none⟩) sLen sCap]).run Tryd.prog w = .ok (goInt k) (w.setCells g o (List.replicate (8 * k) (.int .u64 0))) := by
  obtain ⟨i, hi, hz0, hz1, hz2⟩ := info_parts info58
  have hl := run_loadCells_list (P := Tryd.prog) w ⟨b, so, none⟩ (List.replicate (8 * k) (.int .u64 0)) (fun j v hj => by
    rw [List.getElem?_replicate] at hj
    split at hj
    · cases hj
      rw [Addr.add_lit]; exact hs j (by assumption)
    · cases hj)
  rw [List.length_replicate] at hl
  have hst := run_storeCells_cells (P := Tryd.prog) g o (List.replicate (8 * k) (.int .u64 0)) 0 w
    (fun j hj => by rw [List.length_replicate] at hj; rw [Nat.add_zero, h.cell (by omega)]; rfl) (fun j hj => by rw [Nat.add_zero]; exact RowAt.free h _) (fun u hu => by rw [List.eq_of_mem_replicate hu]; rfl)
  simp only [Nat.add_zero] at hst
  have h8 : k * 8 = 8 * k := Nat.mul_comm _ _
  simp [Builtin.copy_, run_underlying Tryd.underlying40, Builtin.lenOf, Builtin.firstCells, sizeOf, typeInfo, hi, hz1, hk, hl, hst, h8]
def Z8 : Array Value := #[.int .u64 0, .int .u64 0, .int .u64 0, .int .u64 0, .int .u64 0, .int .u64 0, .int .u64 0, .int .u64 0]
theorem mk58 (c : Nat) (hc : c ≤ 262144) (w : World) : (Instr.makeSlice 40 (.int .i64 c) (.int .i64 c)).run Tryd.prog w = .ok (.slice (some ⟨w.heap.size, 0, none⟩) c c) (w.alloc (.cells (madeCells Z8 (8 * c)) 58)) := by
  obtain ⟨i, hi, hz0, hz1, hz2⟩ := info_parts info58
  have := run_make (P := Tryd.prog) w 40 58 i _ Tryd.underlying40 hi hz0 .i64 .i64 c c (by omega) (Int.le_refl _) (by rw [hz2]; omega) (by omega)
  rw [this, hz1, Int.toNat_natCast, Nat.mul_comm c 8]
  rfl
theorem made_zero (n j : Nat) (h : j < n) : (madeCells Z8 n)[j]? = some (.int .u64 0) := by
  have h8 : j % 8 < 8 := Nat.mod_lt _ (by decide)
  have e : ∀ q, q < 8 → Z8[q]! = Value.int .u64 0 := fun q hq => by
    rcases q with _ | _ | _ | _ | _ | _ | _ | _ | q <;> first | rfl | omega
  unfold madeCells
  rw [Array.getElem?_map, Array.getElem?_range]
  simp [h]
  exact e _ h8
theorem mul50 (z1 z2 : Int) (c : Nat) (e1 : z1 = 1) (e2 : z2 = (c : Int)) (hc : c ≤ 262144) (w : World) : Calls Tryd.prog 50 #[.int .u64 z1, .int .u64 z2] w (Says (.tuple #[.int .u64 0, .int .u64 (c : Int)]) w) := by
  subst e1; subst e2
  have h := Tryd.bits_Mul 1 c (by decide) (by omega) w
  rw [Nat.one_mul, Nat.div_eq_of_lt (show c < 18446744073709551616 by omega), Nat.mod_eq_of_lt (show c < 18446744073709551616 by omega)] at h
  exact h
set_option maxRecDepth 100000 in
set_option maxHeartbeats 4000000 in
theorem repeat45 (c : Nat) (h1 : 1 ≤ c) (hc : c ≤ 262144) (b cp : Nat) (w : World) (h : ∀ j, j < 8 → w.cell? ⟨b, j, none⟩ = some (.int .u64 0)) (hb : b < w.heap.size) :
    Calls Tryd.prog 45 #[.slice (some ⟨b, 0, none⟩) 1 cp, .int .i64 c] w fun e w' => ∃ g, e = .returned (.slice (some ⟨g, 0, none⟩) c c) ∧ Below w.heap.size w w' ∧ w.heap.size ≤ g ∧ Wds w' g (8 * c) fun _ => 0 := by
  have d0 : decide ((c : Int) < 0) = false := bool_no (by omega)
  have d9 : decide ((9223372036854775807 : Int) < (c : Int)) = false := bool_no (by omega)
  have HM : Hid (∀ z1 z2 : Int, z1 = 1 → z2 = (c : Int) → Calls Tryd.prog 50 #[.int .u64 z1, .int .u64 z2] w (Says (.tuple #[.int .u64 0, .int .u64 (c : Int)]) w)) := Lib.hid fun z1 z2 e1 e2 => mul50 z1 z2 c e1 e2 hc w
  unfold Says at HM
  have m1 := mk58 c hc w
  obtain ⟨W1, hW1⟩ : ∃ W1, W1 = w.alloc (.cells (madeCells Z8 (8 * c)) 58) := ⟨_, rfl⟩
  obtain ⟨g, hg⟩ : ∃ g, g = w.heap.size := ⟨_, rfl⟩
  rw [← hW1, ← hg] at m1
  have HZ1 : Hid (Wds W1 g (8 * c) fun _ => 0) := Lib.hid ⟨madeCells Z8 (8 * c), 58, by rw [hW1, hg]; exact heap_alloc_new w _, fun k hk => made_zero (8 * c) k hk⟩
  have HB1 : Hid (Below w.heap.size w W1) := Lib.hid (by rw [hW1]; exact (Below.refl _ w).alloc (Nat.le_refl _) _)
  have m2 := copy58 W1 3 g 0 c c 1 cp 1 (8 * c) (Nat.min_eq_left h1) HZ1.out (by omega) (by omega) b 0 (fun j hj => by rw [Nat.zero_add, HB1.out.cell (p := ⟨b, j, none⟩) hb]; exact h j (by omega))
  obtain ⟨W2, hW2⟩ : ∃ W2, W2 = W1.setCells g 0 (List.replicate (8 * 1) (.int .u64 0)) := ⟨_, rfl⟩
  have hz2 := zero_sets (8 * 1) 0 W1 W1 HZ1.out (But.refl _ _)
  rw [← hW2] at m2 hz2
  have HZ2 := Lib.hid hz2
  have HG := Lib.hid hg
  clear hW1 hW2 hz2 hg h
  go_enter Tryd.func45, Tryd.ntmps45
  go_wp2_with (go_at_call 50; (with_reducible refine (HM.out _ _ ?_ ?_).mono ?_); (exact rfl); (exact rfl); rintro e w1 ⟨rfl, hw⟩; cases hw)
  clear m1 m2
  go_loopw [8] (fun v wr => ∃ k : Nat, 1 ≤ k ∧ k ≤ c ∧ v = .int .i64 k ∧ Hid (Wds wr g (8 * c) fun _ => 0) ∧ Hid (But g W1 wr)) (fun v _ => c - (intOf v).toNat)
  case atStart => exact ⟨1, by omega, h1, rfl, HZ2.out.1, HZ2.out.2⟩
  case round =>
    obtain ⟨k, hk1, hk, rfl, HX, HBU⟩ := hrel
    by_cases hlt : k < c
    · have d2 : decide ((k : Int) < (c : Int)) = true := bool_yes (by omega)
      obtain ⟨q, hq⟩ : ∃ q, q = Nat.min k (c - k) := ⟨_, rfl⟩
      have hq1 : 1 ≤ q ∧ q ≤ k ∧ k + q ≤ c := by rw [hq]; simp only [Nat.min_def]; split <;> omega
      have m3 := copy58 wr.drew 3 g (k * 8) (c - k) (c - k) k c q (8 * c) hq.symm (HX.out.keep rfl) (by omega) (by omega) g 0 (fun j hj => by rw [Nat.zero_add]; exact HX.out.cell (by omega))
      obtain ⟨W3, hW3⟩ : ∃ W3, W3 = wr.drew.setCells g (k * 8) (List.replicate (8 * q) (.int .u64 0)) := ⟨_, rfl⟩
      have hz3 := zero_sets (8 * q) (k * 8) W1 wr.drew (HX.out.keep rfl) (HBU.out.trans (But.of_below (Below.refl _ wr).drew))
      rw [← hW3] at m3 hz3
      have HZ3 := Lib.hid hz3
      have ek : ((c : Int) - (k : Int)) = ((c - k : Nat) : Int) := by omega
      have ew : IntKind.i64.wrap ((k : Int) + (q : Int)) = ((k + q : Nat) : Int) := by rw [IntKind.wrap_i64]; omega
      have ei : (0 : Int) ≤ (k : Int) := by omega
      have eh : (k : Int) ≤ (c : Int) := by omega
      clear hz3 hW3 hq
      go_wp2_with fail
      go_region
      go_wp2_with fail
      go_roundw
      case rel => exact ⟨k + q, by omega, by omega, by go_num, HZ3.out.1, HZ3.out.2⟩
      case measure => simp [intOf]; omega
    · obtain rfl : k = c := by omega
      have d2 : decide ((k : Int) < (k : Int)) = false := by simp
      go_wp2_with fail
      go_ret
      exact ⟨g, rfl, HBU.out.below HB1.out (by rw [HG.out]; exact Nat.le_refl _) (by exact HB1.out.size), by rw [HG.out]; exact Nat.le_refl _, HX.out⟩
set_option maxRecDepth 100000 in
theorem zero28 (c : Nat) (h1 : 1 ≤ c) (hc : c ≤ 262144) (w : World) :
    Calls Tryd.prog 28 #[.int .i64 c] w fun e w' => ∃ g, e = .returned (.slice (some ⟨g, 0, none⟩) c c) ∧ Below w.heap.size w w' ∧ w.heap.size ≤ g ∧ Wds w' g (8 * c) fun _ => 0 := by
  obtain ⟨W1, hW1⟩ : ∃ W1, W1 = w.alloc (.cells Z8 58) := ⟨_, rfl⟩
  have HR : Hid (∀ z : Int, z = (c : Int) → Calls Tryd.prog 45 #[.slice (some ⟨w.heap.size, 0, none⟩) 1 1, .int .i64 z] (w.alloc (.cells Z8 58)) fun e w' => ∃ g, e = .returned (.slice (some ⟨g, 0, none⟩) c c) ∧ Below (w.alloc (.cells Z8 58)).heap.size (w.alloc (.cells Z8 58)) w' ∧ (w.alloc (.cells Z8 58)).heap.size ≤ g ∧ Wds w' g (8 * c) fun _ => 0) := Lib.hid fun z hz => by
    subst hz
    refine repeat45 c h1 hc w.heap.size 1 _ (fun j hj => ?_) (by simp)
    rw [cell_in (heap_alloc_new w _)]
    rcases j with _ | _ | _ | _ | _ | _ | _ | _ | j <;> first | rfl | omega
  have e1 : max (c : Int) 0 = (c : Int) := by omega
  have e2 : min (c : Int) 262144 = (c : Int) := by omega
  unfold Z8 at HR
  clear hW1
  go_enter Tryd.func28, Tryd.ntmps28
  go_wp2_with (go_at_call 45; (with_reducible refine (HR.out _ ?_).mono ?_); (omega); rintro e w2 ⟨g, rfl, hb, hg, hz⟩; have HH := Lib.hid (And.intro hb (And.intro hg hz)); clear hb hg hz)
  go_ret
  refine ⟨g, rfl, ?_, ?_, HH.out.2.2⟩
  · exact ((Below.refl _ w).alloc (Nat.le_refl _) _).trans (HH.out.1.mono (by simp))
  · have := HH.out.2.1; simp at this; omega
end Go.Proofs.YtjbngddmmdcagaaDoor
