/- Digits: the program's and the document's. -/
import Derived.Test.YtjbngddmmdcagaaDoorH1
namespace Go.Proofs.YtjbngddmmdcagaaDoor
open Go.RowKit Go.BigFrame
set_option linter.unusedVariables false
set_option linter.unusedSimpArgs false

theorem info5 : (Tryd.prog.info? 5).map (fun i => (i.zero, i.size, i.bytes)) = some (some (.int .u8 0), 1, 1) := by kernel_rfl
/-- A text was told, nothing older turned. -/
def TextTo (l : List UInt8) (w : World) (e : Ending) (w' : World) : Prop := e = .returned (.string (txt l)) ∧ Below w.heap.size w w'
theorem bytes_one (l : List UInt8) : ∀ u ∈ Lib.byteCells l, u.oneCell' = true := fun u hu => by
  obtain ⟨_, _, rfl⟩ := List.mem_map.1 hu
  rfl
theorem dgt_at (d : Nat) (h : d < (⟨#[48, 49, 50, 51, 52, 53, 54, 55, 56, 57, 97, 98, 99, 100, 101, 102]⟩ : ByteArray).size) : (⟨#[48, 49, 50, 51, 52, 53, 54, 55, 56, 57, 97, 98, 99, 100, 101, 102]⟩ : ByteArray)[d] = dgt d := by
  have h16 : d < 16 := h
  rcases d with _ | _ | _ | _ | _ | _ | _ | _ | _ | _ | _ | _ | _ | _ | _ | _ | d <;> first | rfl | omega
set_option maxRecDepth 100000 in
set_option maxHeartbeats 4000000 in
theorem hex7 (x : Nat) (hx : x < 18446744073709551616) (w : World) : Calls Tryd.prog 7 #[.int .u64 x] w (TextTo (dig 16 x) w) := by
  obtain ⟨i5, hi, hz0, hz1, hz2⟩ := info_parts info5
  obtain ⟨B, hB⟩ : ∃ B, B = w.heap.size := ⟨_, rfl⟩
  unfold TextTo
  rw [← hB]
  have HB := Lib.hid hB; clear hB
  have HL : Hid ((dig 16 x).length ≤ 16) := Lib.hid (dig_length (by decide) 16 x (by decide) (by omega))
  go_enter Tryd.func7, Tryd.ntmps7
  go_wp2_with fail
  go_loopw [0, 3] (fun v0 v wr => ∃ (y : Nat) (l : List UInt8), y < 18446744073709551616 ∧ v0 = .int .u64 y ∧ Hid (dig 16 x = dig 16 y ++ l) ∧ Hid (wr.ownsRow B 5 1 v l.length (Lib.byteCells l)) ∧ Hid (Below B w wr)) (fun v0 _ _ => (intOf v0).toNat)
  case atStart => exact ⟨x, [], hx, rfl, by simp [Hid], World.ownsRow_nil _ _ _ _, by rw [HB.out]; exact Below.refl _ _⟩
  case round =>
    obtain ⟨y, l, hy, rfl, HE, HO, HBE⟩ := hrel
    have hBw : B ≤ wr.heap.size := by rw [HB.out]; rw [HB.out] at HBE; exact HBE.out.size
    obtain ⟨va, vc, rfl⟩ := own_slice_n HO.out
    have hk : l.length ≤ 15 := by
      have h1 := HL.out
      have h2 := dig_pos 16 y
      rw [HE.out, List.length_append] at h1
      omega
    have q1 : 1 + l.length ≤ maxLen := by unfold maxLen; omega
    have q2 : (1 + l.length) * 1 ≤ 140737488355328 := by omega
    by_cases h : 16 ≤ y
    · have d1 : decide ((16 : Int) ≤ (y : Int)) = true := bool_yes (by omega)
      go_wp2_with (at_builtin; refine wpList_front rfl (.tmp 9) (.tmp 10) 44 rfl B 5 i5 (.int .u8 0) 1 Tryd.underlying44 hi hz0 hz1 hz2 rfl wr hBw _ rfl rfl _ l.length (Lib.byteCells l) rfl HO.out (bytes_one l) q1 q2 ?_; intro v' w' ho' hb'; rw [dgt_at] at ho'; have HO' := Lib.hid ho'; have HB' := Lib.hid hb'; clear ho' hb')
      go_wp2_with fail
      go_roundw
      case rel => exact ⟨y / 16, dgt (y % 16) :: l, by omega, by go_num, by unfold Hid; rw [HE.out, dig_big h (by decide), List.append_assoc]; rfl, Lib.hid (by rw [List.length_cons, Nat.add_comm]; exact HO'.out), Lib.hid (HB'.out _ _ HBE.out (Nat.le_refl _))⟩
      case measure => simp [intOf]; omega
    · have d1 : decide ((16 : Int) ≤ (y : Int)) = false := bool_no (by omega)
      go_wp2_with (at_builtin; refine wpList_front rfl (.tmp 16) (.tmp 17) 44 rfl B 5 i5 (.int .u8 0) 1 Tryd.underlying44 hi hz0 hz1 hz2 rfl wr hBw _ rfl rfl _ l.length (Lib.byteCells l) rfl HO.out (bytes_one l) q1 q2 ?_; intro v' w' ho' hb'; rw [dgt_at] at ho'; have hcv := own_text (l := dgt y :: l) ho' (by omega); obtain ⟨ra, rc, rfl⟩ := own_slice_n ho'; have HB' := Lib.hid hb'; clear ho' hb')
      go_wp2_with fail
      go_ret
      exact ⟨by rw [HE.out, dig_small (by omega)]; rfl, HB'.out _ _ HBE.out (Nat.le_refl _)⟩
end Go.Proofs.YtjbngddmmdcagaaDoor
