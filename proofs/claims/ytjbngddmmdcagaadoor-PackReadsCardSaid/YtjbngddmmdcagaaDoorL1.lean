/- Layer 32's law: the same words; the error of so many; the worked example. -/
import Derived.Test.YtjbngddmmdcagaaDoorW4
import Derived.Test.YtjbngddmmdcagaaDoorX1
import Derived.Test.YtjbngddmmdcagaaDoorZ2
namespace Go.Proofs.YtjbngddmmdcagaaDoor
open Go.RowKit Go.BigFrame
set_option linter.unusedVariables false
set_option linter.unusedSimpArgs false

theorem may9 (n : Nat) (hn : n ≤ 9223372036854775807) (w : World) : Calls Tryd.prog 9 #[.int .i64 n, .int .i64 8] w (Says (.int .i64 (wholeE n)) w) := by
  unfold wholeE
  have e1 : (n : Int).tdiv 8 = (n : Int) / 8 := Int.tdiv_eq_ediv_of_nonneg (by omega)
  have e2 : (n : Int).tmod 8 = (n : Int) % 8 := Int.tmod_eq_emod_of_nonneg (by omega)
  by_cases h3 : (n : Int) % 8 = 0
  · have d3 : ((n : Int) % 8 != 0) = false := by simp [h3]
    rw [if_neg (fun h => h h3)]
    by_cases h4 : 262144 < (n : Int) / 8
    · have d4 : decide (262144 < (n : Int) / 8) = true := bool_yes h4
      rw [if_pos h4]
      go_enter Tryd.func9, Tryd.ntmps9
      go_wp2_with fail
      go_ret
      exact ⟨rfl, rfl⟩
    · have d4 : decide (262144 < (n : Int) / 8) = false := bool_no h4
      rw [if_neg h4]
      go_enter Tryd.func9, Tryd.ntmps9
      go_wp2_with fail
      go_ret
      exact ⟨rfl, rfl⟩
  · have d3 : ((n : Int) % 8 != 0) = true := by simp [h3]
    rw [if_pos h3]
    go_enter Tryd.func9, Tryd.ntmps9
    go_wp2_with fail
    go_ret
    exact ⟨rfl, rfl⟩
theorem same14 (a b : Option Addr) (n ca cb : Nat) (hn : n ≤ 2097152) (f : Nat → Nat) (w : World) (h : WordsAt w.heap.size w a n f) (k : WordsAt w.heap.size w b n f) :
    Calls Tryd.prog 14 #[.slice a n ca, .slice b n cb] w fun e w' => e = .returned (.bool true) ∧ Below w.heap.size w w' := by
  obtain ⟨b1, o1, ha1, hc1⟩ := h
  obtain ⟨b2, o2, ha2, hc2⟩ := k
  have H1 := Lib.hid (And.intro ha1 hc1)
  have H2 := Lib.hid (And.intro ha2 hc2)
  clear ha1 ha2 hc1 hc2
  go_enter Tryd.func14, Tryd.ntmps14
  go_wp2_with fail
  go_loopw [5] (fun i wr => ∃ q : Nat, q ≤ n ∧ i = .int .i64 q ∧ Hid (Below w.heap.size w wr)) (fun i _ => n - (intOf i).toNat)
  case atStart => exact ⟨0, by omega, rfl, Below.refl _ _⟩
  case round =>
    obtain ⟨q, hq, rfl, HB⟩ := hrel
    by_cases hlt : q < n
    · have d1 : decide ((q : Int) < (n : Int)) = true := bool_yes (by omega)
      obtain ⟨rfl, hb1⟩ := H1.out.1 (by omega)
      obtain ⟨rfl, hb2⟩ := H2.out.1 (by omega)
      have c1 : wr.cell? ⟨b1, o1 + q, none⟩ = some (.int .u64 (f q)) := by rw [HB.out.cell (p := ⟨b1, o1 + q, none⟩) hb1, H1.out.2 q hlt]
      have c2 : wr.cell? ⟨b2, o2 + q, none⟩ = some (.int .u64 (f q)) := by rw [HB.out.cell (p := ⟨b2, o2 + q, none⟩) hb2, H2.out.2 q hlt]
      have i0 : (0 : Int) ≤ (q : Int) := by omega
      have i1 : (q : Int) < (n : Int) := by omega
      generalize f q = x at *
      go_wp2_with fail
      go_quiet (fail)
      go_wp2_with fail
      go_roundw
      case rel => exact ⟨q + 1, by omega, by go_num, Lib.hid (HB.out.trans ⟨rfl, rfl, rfl, Nat.le_refl _, fun _ _ => rfl⟩)⟩
      case measure => simp [intOf]; omega
    · obtain rfl : q = n := by omega
      have d1 : decide ((q : Int) < (q : Int)) = false := by simp
      go_wp2_with fail
      go_ret
      exact ⟨rfl, HB.out⟩
def exF : Nat → Nat := fun j => if j = 8 then 31 else 0
theorem exF_parts : partsW exF 2 = [1] := by decide
theorem exF_row : rowT exF 1 = [49, 58, 32, 49, 102, 32, 48, 32, 48, 32, 48, 32, 48, 32, 48, 32, 48, 32, 48] := by
  have h0 : dig 16 0 = [48] := by rw [dig_small (by decide)]; rfl
  have h1 : dig 10 1 = [49] := by rw [dig_small (by decide)]; rfl
  have h31 : dig 16 31 = [49, 102] := by rw [dig_big (by decide) (by decide), show 31 / 16 = 1 from rfl, dig_small (by decide)]; rfl
  unfold rowT
  simp only [show List.range 8 = [0, 1, 2, 3, 4, 5, 6, 7] from rfl, List.flatMap_cons, List.flatMap_nil]
  have e0 : exF (8 * 1 + 0) = 31 := rfl
  have e1 : exF (8 * 1 + 1) = 0 := rfl
  have e2 : exF (8 * 1 + 2) = 0 := rfl
  have e3 : exF (8 * 1 + 3) = 0 := rfl
  have e4 : exF (8 * 1 + 4) = 0 := rfl
  have e5 : exF (8 * 1 + 5) = 0 := rfl
  have e6 : exF (8 * 1 + 6) = 0 := rfl
  have e7 : exF (8 * 1 + 7) = 0 := rfl
  rw [e0, e1, e2, e3, e4, e5, e6, e7, h0, h1, h31]
  rfl
theorem exF_text : ∃ P : List UInt8, P.length = 8 ∧ textT exF 2 = [105, 109, 97, 103, 101, 32, 50, 32] ++ P ++ [10] ++ [49, 58, 32, 49, 102, 32, 48, 32, 48, 32, 48, 32, 48, 32, 48, 32, 48, 32, 48, 10] := by
  refine ⟨pad8 (dig 16 (sumW exF 16)), pad8_length _ (dig_length (by decide) 8 _ (by decide) (by have := sumW_lt exF 16; omega)), ?_⟩
  have h2 : dig 10 2 = [50] := by rw [dig_small (by decide)]; rfl
  unfold textT headT
  rw [exF_parts, h2]
  simp only [List.flatMap_cons, List.flatMap_nil, exF_row]
  simp
end Go.Proofs.YtjbngddmmdcagaaDoor
