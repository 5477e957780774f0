/- Digits: the document's; decimal ones. -/
import Derived.Test.YtjbngddmmdcagaaDoorH2
namespace Go.Proofs.YtjbngddmmdcagaaDoor
open Go.RowKit Go.BigFrame
set_option linter.unusedVariables false
set_option linter.unusedSimpArgs false

theorem byte_at (d : Nat) (h : d < 10) : IntKind.u8.wrap (48 + (d : Int)) = ((dgt d).toNat : Int) := by
  rcases d with _ | _ | _ | _ | _ | _ | _ | _ | _ | _ | d <;> first | rfl | omega
theorem byte_at' (d : Nat) (h : 10 ≤ d) (h16 : d < 16) : IntKind.u8.wrap (87 + (d : Int)) = ((dgt d).toNat : Int) := by
  obtain ⟨e, rfl⟩ : ∃ e, d = 10 + e := ⟨d - 10, by omega⟩
  rcases e with _ | _ | _ | _ | _ | _ | d <;> first | rfl | omega
theorem byte_at2 (d : Nat) (h : d < 10) : (48 : Int) + (d : Int) = ((dgt d).toNat : Int) := by
  rcases d with _ | _ | _ | _ | _ | _ | _ | _ | _ | _ | d <;> first | rfl | omega
theorem conv1' (w : World) (z : Int) (c : UInt8) (hz : z = (c.toNat : Int)) : (convert 44 9 (.slice (some ⟨w.heap.size, 0, none⟩) 1 1)).run Tryd.prog (w.alloc (.cells #[.int .u8 z] 5)) = .ok (.string (txt [c])) (w.alloc (.cells #[.int .u8 z] 5)) := by
  subst hz
  exact own_text (l := [c]) (own_made1 w w.heap.size 5 _ (Nat.le_refl _)) (Nat.le_refl _)
theorem conv1 (w : World) (c : UInt8) : (convert 44 9 (.slice (some ⟨w.heap.size, 0, none⟩) 1 1)).run Tryd.prog (w.alloc (.cells #[.int .u8 (c.toNat : Int)] 5)) = .ok (.string (txt [c])) (w.alloc (.cells #[.int .u8 (c.toNat : Int)] 5)) :=
  own_text (l := [c]) (own_made1 w w.heap.size 5 _ (Nat.le_refl _)) (Nat.le_refl _)
set_option maxRecDepth 100000 in
theorem digit25 (d : Nat) (h : d < 16) (w : World) : Calls Tryd.prog 25 #[.int .i64 d] w (TextTo [dgt d] w) := by
  unfold TextTo
  have HW := Lib.hid (conv1 w (dgt d))
  by_cases h0 : d < 10
  · have d1 : decide ((d : Int) < 10) = true := bool_yes (by omega)
    have e1 := byte_at d h0
    have e2 := HW.out
    go_enter Tryd.func25, Tryd.ntmps25
    go_wp2_with fail
    go_ret
    exact ⟨rfl, (Below.refl _ _).alloc (Nat.le_refl _) _⟩
  · have d1 : decide ((d : Int) < 10) = false := bool_no (by omega)
    have e1 := byte_at' d (by omega) h
    have e2 := HW.out
    go_enter Tryd.func25, Tryd.ntmps25
    go_wp2_with fail
    go_ret
    exact ⟨rfl, (Below.refl _ _).alloc (Nat.le_refl _) _⟩
theorem digit25' (z : Int) (d : Nat) (hz : z = d) (h : d < 16) (w : World) : Calls Tryd.prog 25 #[.int .i64 z] w (TextTo [dgt d] w) := by
  subst hz; exact digit25 d h w
set_option maxRecDepth 100000 in
set_option maxHeartbeats 4000000 in
theorem hex8 (x : Nat) (hx : x < 18446744073709551616) (w : World) : Calls Tryd.prog 8 #[.int .u64 x] w (TextTo (dig 16 x) w) := by
  obtain ⟨B, hB⟩ : ∃ B, B = w.heap.size := ⟨_, rfl⟩
  unfold TextTo
  rw [← hB]
  have HB := Lib.hid hB; clear hB
  have HL : Hid ((dig 16 x).length ≤ 16) := Lib.hid (dig_length (by decide) 16 x (by decide) (by omega))
  go_enter Tryd.func8, Tryd.ntmps8
  have e0 : wrap64 ((x : Int) % 16) = ((x % 16 : Nat) : Int) := by unfold wrap64; omega
  go_wp2_with (go_at_call 25; (with_reducible refine (digit25' _ (x % 16) (by omega) (Nat.mod_lt _ (by decide)) _).mono ?_); rintro e w1 ⟨rfl, hb⟩; have HB1 := Lib.hid hb; clear hb)
  go_loopw [0, 3] (fun v0 v wr => ∃ (y : Nat) (l : List UInt8), y < 18446744073709551616 ∧ v0 = .int .u64 y ∧ v = .string (txt (dgt (y % 16) :: l)) ∧ Hid (dig 16 x = dig 16 y ++ l) ∧ Hid (Below B w wr)) (fun v0 _ _ => (intOf v0).toNat)
  case atStart => exact ⟨x, [], hx, rfl, rfl, by simp [Hid], by rw [HB.out]; exact HB1.out⟩
  case round =>
    obtain ⟨y, l, hy, rfl, rfl, HE, HBE⟩ := hrel
    have hk : l.length ≤ 15 := by
      have h1 := HL.out
      have h2 := dig_pos 16 y
      rw [HE.out, List.length_append] at h1
      omega
    have q1 : ¬ 9223372036854775807 < (txt [dgt (y / 16 % 16)]).size + (txt (dgt (y % 16) :: l)).size := by rw [txt_size, txt_size]; simp; omega
    have q0 := txt_append [dgt (y / 16 % 16)] (dgt (y % 16) :: l)
    by_cases h : 16 ≤ y
    · have d1 : decide ((16 : Int) ≤ (y : Int)) = true := bool_yes (by omega)
      go_wp2_with (go_at_call 25; (with_reducible refine (digit25' _ (y / 16 % 16) (by omega) (Nat.mod_lt _ (by decide)) _).mono ?_); rintro e w2 ⟨rfl, hb⟩; have HB2 := Lib.hid hb; clear hb)
      go_wp2_with fail
      go_roundw
      case rel => exact ⟨y / 16, dgt (y % 16) :: l, by omega, by go_num, rfl, by unfold Hid; rw [HE.out, dig_big h (by decide), List.append_assoc]; rfl, Lib.hid (HBE.out.trans (HB2.out.mono (by rw [HB.out]; rw [HB.out] at HBE; exact HBE.out.size)))⟩
      case measure => simp [intOf]; omega
    · have d1 : decide ((16 : Int) ≤ (y : Int)) = false := bool_no (by omega)
      go_wp2_with fail
      go_ret
      exact ⟨by rw [HE.out, dig_small (by omega), Nat.mod_eq_of_lt (by omega)]; rfl, HBE.out⟩
set_option maxRecDepth 100000 in
set_option maxHeartbeats 4000000 in
theorem digits32 (x : Nat) (hx : x ≤ 262144) (w : World) : Calls Tryd.prog 32 #[.int .i64 x] w (TextTo (dig 10 x) w) := by
  obtain ⟨B, hB⟩ : ∃ B, B = w.heap.size := ⟨_, rfl⟩
  unfold TextTo
  rw [← hB]
  have HB := Lib.hid hB; clear hB
  have HL : Hid ((dig 10 x).length ≤ 6) := Lib.hid (dig_length (by decide) 6 x (by decide) (by omega))
  go_enter Tryd.func32, Tryd.ntmps32
  go_wp2_with fail
  go_loopw [0, 3] (fun v0 v wr => ∃ (y : Nat) (l : List UInt8), y ≤ 262144 ∧ v0 = .int .i64 y ∧ v = .string (txt l) ∧ Hid (dig 10 x = dig 10 y ++ l) ∧ Hid (Below B w wr)) (fun v0 _ _ => (intOf v0).toNat)
  case atStart => exact ⟨x, [], hx, rfl, rfl, by simp [Hid], by rw [HB.out]; exact Below.refl _ _⟩
  case round =>
    obtain ⟨y, l, hy, rfl, rfl, HE, HBE⟩ := hrel
    have hk : l.length ≤ 5 := by
      have h1 := HL.out
      have h2 := dig_pos 10 y
      rw [HE.out, List.length_append] at h1
      omega
    have hBw : B ≤ wr.heap.size := by rw [HB.out]; rw [HB.out] at HBE; exact HBE.out.size
    by_cases h : 10 ≤ y
    · have d1 : decide ((10 : Int) ≤ (y : Int)) = true := bool_yes (by omega)
      have q0 := txt_append [dgt (y % 10)] l
      have q1 : ¬ 9223372036854775807 < (txt [dgt (y % 10)]).size + (txt l).size := by rw [txt_size, txt_size]; simp; omega
      have e2 := conv1' wr (48 + (y : Int) % 10) (dgt (y % 10)) (by have := byte_at2 (y % 10) (Nat.mod_lt _ (by decide)); omega)
      have e3 : (y : Int).tmod 10 = ((y % 10 : Nat) : Int) := by rw [Int.tmod_eq_emod_of_nonneg (by omega)]; omega
      have e4 : (y : Int).tdiv 10 = ((y / 10 : Nat) : Int) := by rw [Int.tdiv_eq_ediv_of_nonneg (by omega)]; omega
      go_wp2_with fail
      go_roundw
      case rel => exact ⟨y / 10, dgt (y % 10) :: l, by omega, by go_num, rfl, by unfold Hid; rw [HE.out, dig_big h (by decide), List.append_assoc]; rfl, Lib.hid (HBE.out.alloc hBw _)⟩
      case measure => simp [intOf]; omega
    · have d1 : decide ((10 : Int) ≤ (y : Int)) = false := bool_no (by omega)
      have q0 := txt_append [dgt y] l
      have q1 : ¬ 9223372036854775807 < (txt [dgt y]).size + (txt l).size := by rw [txt_size, txt_size]; simp; omega
      have e2 := conv1' wr (48 + (y : Int)) (dgt y) (byte_at2 y (by omega))
      go_wp2_with fail
      go_ret
      exact ⟨by rw [HE.out, dig_small (by omega)]; rfl, HBE.out.alloc hBw _⟩
end Go.Proofs.YtjbngddmmdcagaaDoor
