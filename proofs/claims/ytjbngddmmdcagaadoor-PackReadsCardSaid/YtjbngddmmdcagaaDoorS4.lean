/- Layer 2, the document's: the divisor; a row that is divided. -/
import Derived.Test.YtjbngddmmdcagaaDoorS3
namespace Go.Proofs.YtjbngddmmdcagaaDoor
open Go.RowKit Go.BigFrame
set_option linter.unusedVariables false
set_option linter.unusedSimpArgs false

theorem bits59' (z m : Int) (x n : Nat) (hz : z = (x : Int)) (hm : m = (n : Int)) (hx : x < 18446744073709551616) (hn : n ≤ 64) (w : World) : Calls Tryd.prog 59 #[.int .u64 z, .int .i64 m] w (NewInts (bitsOf n x) w) := by
  subst hz; subst hm; exact bits59 x n hx hn w
theorem own_down {w : World} {B C : Nat} {e : TypeId} {size : Nat} {v : Value} {n : Nat} {xs : List Value} (h : w.ownsRow C e size v n xs) (hB : B ≤ C) : w.ownsRow B e size v n xs :=
  ⟨h.1, h.2.elim .inl fun ⟨g, cap, cur, e1, hb, rest⟩ => .inr ⟨g, cap, cur, e1, Nat.le_trans hB hb, rest⟩⟩
def divL : List Nat := 1 :: bitsOf 32 poly
theorem divL_get (j : Nat) (h : j < 33) : divL[j]?.getD 0 = dv j := by
  cases j with
  | zero => rfl
  | succ j =>
    unfold divL dv
    rw [List.getElem?_cons_succ, bitsOf_get 32 poly j (by omega)]
    simp [bitAt]
set_option maxRecDepth 100000 in
set_option maxHeartbeats 4000000 in
theorem divisor72 (w : World) : Calls Tryd.prog 72 #[] w (NewInts divL w) := by
  obtain ⟨i3, hi, hz0, hz1, hz2⟩ := info_parts info3
  obtain ⟨B, hB⟩ : ∃ B, B = w.heap.size := ⟨_, rfl⟩
  have HB := Lib.hid hB
  unfold NewInts
  rw [← hB]
  clear hB
  have HP : Hid ((2197175160 : Int) = ((poly : Nat) : Int)) := Lib.hid rfl
  have HQ : Hid ((32 : Int) = ((32 : Nat) : Int)) := Lib.hid rfl
  have HR : Hid (poly < 18446744073709551616) := Lib.hid (by decide)
  go_enter Tryd.func72, Tryd.ntmps72
  go_wp2_with (go_at_call 59; (with_reducible refine (bits59' _ _ poly 32 HP.out HQ.out HR.out (by decide) _).mono ?_); rintro e w1 ⟨v1, rfl, hb1, ho1⟩; obtain ⟨a1, c1, rfl, hc1⟩ := own_at ho1; have HB1 := Lib.hid hb1; have HC1 := Lib.hid hc1; clear hb1 hc1 ho1)
  have hB1 : B ≤ w1.heap.size := by rw [HB.out]; exact HB1.out.size
  have HL : Hid ((bitsOf 32 poly).length = 32) := Lib.hid (bitsOf_length _ _)
  have HG : Hid (∀ j, j < 32 → (intsL (bitsOf 32 poly))[j]?.getD undef = .int .i64 (Int.ofNat ((bitsOf 32 poly)[j]?.getD 0))) := Lib.hid fun j hj => by rw [intsL_get _ _ (by rw [HL.out]; exact hj)]; rfl
  have HT : Hid (∀ j, j < 32 → divL.take (j + 2) = divL.take (j + 1) ++ [(bitsOf 32 poly)[j]?.getD 0]) := Lib.hid fun j hj => by
    unfold divL
    rw [List.take_succ_cons, List.take_succ_cons, List.take_add_one, List.getElem?_eq_getElem (by rw [HL.out]; exact hj)]; rfl
  have HD : Hid (divL.take 33 = divL) := Lib.hid (List.take_of_length_le (by unfold divL; rw [List.length_cons, HL.out]; exact Nat.le_refl _))
  generalize bitsOf 32 poly = bl at *
  obtain ⟨b1, o1, ha1, hc1⟩ := HC1.out
  obtain ⟨rfl, hb1⟩ := ha1 (by rw [HL.out]; decide)
  have HC := Lib.hid hc1
  clear HC1 hc1 ha1
  go_wp2_with fail
  go_loopw [2, 3] (fun v i wr => ∃ k : Nat, k ≤ 32 ∧ i = .int .i64 k ∧ Hid (wr.ownsRow w1.heap.size 3 1 v (k + 1) (intsL (divL.take (k + 1)))) ∧ Hid (Below w1.heap.size w1 wr)) (fun _ i _ => 32 - (intOf i).toNat)
  case atStart => exact ⟨0, by omega, rfl, own_made1 w1 w1.heap.size 3 _ (Nat.le_refl _), (Below.refl _ _).alloc (Nat.le_refl _) _⟩
  case round =>
    obtain ⟨k, hk, rfl, HO, HBE⟩ := hrel
    have hBw : w1.heap.size ≤ wr.heap.size := HBE.out.size
    have q1 : k + 1 + 1 ≤ maxLen := by unfold maxLen; omega
    have q2 : (k + 1 + 1) * 8 ≤ 140737488355328 := by omega
    obtain ⟨va, vc, rfl⟩ := own_slice_n HO.out
    by_cases hlt : k < 32
    · have d1 : decide ((k : Int) < 32) = true := bool_yes (by omega)
      have e1 : wr.cell? ⟨b1, o1 + k, none⟩ = some (.int .i64 (Int.ofNat (bl[k]?.getD 0))) := by rw [HBE.out.cell (p := ⟨b1, o1 + k, none⟩) hb1, HC.out k (by rw [HL.out]; exact hlt), HG.out k hlt]
      have HTk := Lib.hid (HT.out k hlt)
      have e2 : (k : Int) < ((bl.length : Nat) : Int) := by rw [HL.out]; omega
      generalize bl[k]?.getD 0 = x at *
      go_wp2_with (at_builtin; refine wpList_push rfl (.tmp 10) (.tmp 15) 30 rfl w1.heap.size 3 i3 (.int .i64 0) 1 8 Tryd.underlying30 hi hz0 hz1 hz2 rfl (by decide) wr hBw (.slice va (k + 1) vc) (k + 1) (intsL (divL.take (k + 1))) rfl HO.out #[.int .i64 (Int.ofNat x)] 1 1 rfl rfl (by simp [Value.oneCell']) q1 q2 ?_; intro v' w' ho' hg' hb' hn'; have HO' := Lib.hid ho'; have HB' := Lib.hid (hb' _ _ HBE.out (Nat.le_refl _)); clear ho' hg' hb' hn')
      go_wp2_with fail
      go_roundw
      case rel => exact ⟨k + 1, by omega, by go_num, Lib.hid (by rw [HTk.out, intsL_append]; exact HO'.out), HB'⟩
      case measure => simp [intOf]; omega
    · obtain rfl : k = 32 := by omega
      go_wp2_with fail
      go_ret
      refine ⟨_, rfl, ?_, ?_⟩
      · rw [HB.out]; exact HB1.out.trans (HBE.out.mono HB1.out.size)
      · rw [← HD.out]; exact own_down HO.out hB1
end Go.Proofs.YtjbngddmmdcagaaDoor
