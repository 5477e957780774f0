/- Layer 32: the lines that are not all 0. -/
import Derived.Test.YtjbngddmmdcagaaDoorS2
import Derived.Test.YtjbngddmmdcagaaDoorS3
import Derived.Test.YtjbngddmmdcagaaDoorW0
import Derived.Test.YtjbngddmmdcagaaDoorC38
import Derived.Test.YtjbngddmmdcagaaDoorV2
namespace Go.Proofs.YtjbngddmmdcagaaDoor
open Go.RowKit Go.BigFrame
set_option linter.unusedVariables false
set_option linter.unusedSimpArgs false

/-- Lines that lie below B. -/
def LinesAt (B : Nat) (W : World) (a : Option Addr) (m : Nat) (f : Nat → Nat) : Prop :=
  ∃ b, (0 < m → a = some ⟨b, 0, none⟩ ∧ b < B) ∧ ∀ j, j < 8 * m → W.cell? ⟨b, j, none⟩ = some (.int .u64 (f j))
theorem LinesAt.below {B B' : Nat} {W W' : World} {a : Option Addr} {m : Nat} {f : Nat → Nat} (h : LinesAt B W a m f) (hb : Below B' W W') (hB : B ≤ B') : LinesAt B W' a m f := by
  obtain ⟨b, ha, hc⟩ := h
  exact ⟨b, ha, fun j hj => (hb.cell (p := ⟨b, j, none⟩) (by have := (ha (by omega)).2; show b < B'; omega)).trans (hc j hj)⟩
theorem LinesAt.mono {B B' : Nat} {W : World} {a : Option Addr} {m : Nat} {f : Nat → Nat} (h : LinesAt B W a m f) (hB : B ≤ B') : LinesAt B' W a m f := by
  obtain ⟨b, ha, hc⟩ := h
  exact ⟨b, fun h => ⟨(ha h).1, by have := (ha h).2; omega⟩, hc⟩
set_option maxRecDepth 100000 in
set_option maxHeartbeats 8000000 in
theorem filled21 (a : Option Addr) (m cap : Nat) (hm : m ≤ 262144) (f : Nat → Nat) (w : World) (h : LinesAt w.heap.size w a m f) : Calls Tryd.prog 21 #[.slice a m cap] w (NewInts (partsW f m) w) := by
  obtain ⟨i3, hi, hz0, hz1, hz2⟩ := info_parts info3
  obtain ⟨B, hB⟩ : ∃ B, B = w.heap.size := ⟨_, rfl⟩
  obtain ⟨b, ha, hc⟩ := h
  unfold NewInts
  rw [← hB] at ha ⊢
  have HB := Lib.hid hB
  have HA := Lib.hid ha
  have HC := Lib.hid hc
  obtain ⟨LL, hLL⟩ : ∃ LL : Nat → List Nat, LL = partsW f := ⟨_, rfl⟩
  have HS : Hid (LL 0 = [] ∧ ∀ k, LL (k + 1) = if full f k = true then LL k ++ [k] else LL k) := Lib.hid (by
    rw [hLL]
    refine ⟨rfl, fun k => ?_⟩
    unfold partsW
    rw [List.range_succ, List.filter_append]
    by_cases hk : full f k = true
    · rw [if_pos hk]; simp [hk]
    · rw [if_neg hk]; simp [hk])
  have HE := Lib.hid hLL
  clear ha hc hB hLL
  go_enter Tryd.func21, Tryd.ntmps21
  go_wp2_with fail
  go_loopw [3, 8] (fun v i wr => ∃ k : Nat, k ≤ m ∧ i = .int .i64 k ∧ Hid (wr.ownsRow B 3 1 v (LL k).length (intsL (LL k)) ∧ (LL k).length ≤ k) ∧ Hid (Below B w wr)) (fun _ i _ => m - (intOf i).toNat)
  case atStart => exact ⟨0, by omega, rfl, by rw [HS.out.1]; exact ⟨World.ownsRow_nil _ _ _ _, Nat.le_refl _⟩, by rw [HB.out]; exact Below.refl _ _⟩
  case round =>
    obtain ⟨k, hk, rfl, HO, HBE⟩ := hrel
    have hBw : B ≤ wr.heap.size := by have := HBE.out.size; have := HB.out; omega
    by_cases hlt : k < m
    · have d1 : decide ((k : Int) < (m : Int)) = true := bool_yes (by omega)
      obtain ⟨rfl, hb⟩ := HA.out (by omega)
      have hbw : b < wr.heap.size := by omega
      have h8 : Eight wr b (k * 8) (fun r => (f (8 * k + r) : Nat)) := fun r hr' => by rw [HBE.out.cell (p := ⟨b, k * 8 + r, none⟩) hb, HC.out _ (by omega), Nat.mul_comm k 8]
      obtain ⟨c0, c1, c2, c3, c4, c5, c6, c7⟩ := h8.cells
      rw [Nat.add_zero] at c0
      have i0 : (0 : Int) ≤ (k : Int) := by omega
      have i1 : (k : Int) < (m : Int) := by omega
      have HFU : Hid (full f k = (f (8 * k + 0) != 0 || f (8 * k + 1) != 0 || f (8 * k + 2) != 0 || f (8 * k + 3) != 0 || f (8 * k + 4) != 0 || f (8 * k + 5) != 0 || f (8 * k + 6) != 0 || f (8 * k + 7) != 0)) := Lib.hid (by
        unfold full
        simp only [show List.range 8 = [0, 1, 2, 3, 4, 5, 6, 7] from rfl, List.any_cons, List.any_nil, Bool.or_false, Bool.or_assoc])
      have HSk := Lib.hid (HS.out.2 k)
      clear h8
      generalize f (8 * k + 0) = v0 at *
      generalize f (8 * k + 1) = v1 at *
      generalize f (8 * k + 2) = v2 at *
      generalize f (8 * k + 3) = v3 at *
      generalize f (8 * k + 4) = v4 at *
      generalize f (8 * k + 5) = v5 at *
      generalize f (8 * k + 6) = v6 at *
      generalize f (8 * k + 7) = v7 at *
      have q1 : (LL k).length + 1 ≤ maxLen := by have := HO.out.2; unfold maxLen; omega
      have q2 : ((LL k).length + 1) * 8 ≤ 140737488355328 := by have := HO.out.2; omega
      have HEQ := Lib.hid (eq58 (wr.alloc (.cells #[.int .u64 v0, .int .u64 v1, .int .u64 v2, .int .u64 v3, .int .u64 v4, .int .u64 v5, .int .u64 v6, .int .u64 v7] 58)) v0 v1 v2 v3 v4 v5 v6 v7)
      rw [← HFU.out] at HEQ
      have HO1 := Lib.hid HO.out.1
      have HLE := Lib.hid HO.out.2
      obtain ⟨va, vc, rfl⟩ := own_slice_n HO1.out
      cases hfu : full f k with
      | true =>
        rw [hfu] at HEQ HSk
        have eq := HEQ.out
        rw [if_pos rfl] at HSk
        have hBx : B ≤ (wr.alloc (.cells #[.int .u64 v0, .int .u64 v1, .int .u64 v2, .int .u64 v3, .int .u64 v4, .int .u64 v5, .int .u64 v6, .int .u64 v7] 58)).heap.size := by simp; omega
        have HOx := Lib.hid (HO1.out.alloc (.cells #[.int .u64 v0, .int .u64 v1, .int .u64 v2, .int .u64 v3, .int .u64 v4, .int .u64 v5, .int .u64 v6, .int .u64 v7] 58))
        have HBx := Lib.hid (HBE.out.alloc hBw (.cells #[.int .u64 v0, .int .u64 v1, .int .u64 v2, .int .u64 v3, .int .u64 v4, .int .u64 v5, .int .u64 v6, .int .u64 v7] 58))
        go_wp2_with (at_builtin; refine wpList_push_num rfl (.tmp 16) (.tmp 18) 30 rfl B 3 3 i3 (.int .i64 0) 1 8 Tryd.underlying30 hi hz0 hz1 hz2 rfl (by decide) _ (wr.heap.size + 1) (World.size_alloc _ _) hBx (.slice va (LL k).length vc) (LL k).length (intsL (LL k)) rfl HOx.out #[.int .i64 (Int.ofNat k)] 1 1 rfl rfl (by simp [Value.oneCell']) q1 q2 ?_; intro v' w' ho' hg' hb' hn'; have HO' := Lib.hid ho'; have HB' := Lib.hid (hb' _ _ HBx.out (Nat.le_refl _)); clear ho' hg' hb' hn')
        go_wp2_with fail
        go_roundw
        case rel => exact ⟨k + 1, by omega, by go_num, Lib.hid (by rw [HSk.out, List.length_append, intsL_append]; exact ⟨HO'.out, by have := HLE.out; simp; omega⟩), HB'⟩
        case measure => simp [intOf]; omega
      | false =>
        rw [hfu] at HEQ HSk
        have eq := HEQ.out
        rw [if_neg (by decide)] at HSk
        go_wp2_with fail
        go_roundw
        case rel => exact ⟨k + 1, by omega, by go_num, Lib.hid (by rw [HSk.out]; exact ⟨HO1.out.alloc _, by have := HLE.out; omega⟩), Lib.hid (HBE.out.alloc hBw _)⟩
        case measure => simp [intOf]; omega
    · obtain rfl : k = m := by omega
      have d1 : decide ((k : Int) < (k : Int)) = false := by simp
      go_wp2_with fail
      go_ret
      exact ⟨_, rfl, HBE.out, by rw [← HE.out]; exact HO.out.1⟩
end Go.Proofs.YtjbngddmmdcagaaDoor
