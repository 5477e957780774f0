/- Layer 32: the parts, the program's and the document's. -/
import Derived.Test.YtjbngddmmdcagaaDoorW4
import Derived.Test.YtjbngddmmdcagaaDoorS4
namespace Go.Proofs.YtjbngddmmdcagaaDoor
open Go.RowKit Go.BigFrame
set_option linter.unusedVariables false
set_option linter.unusedSimpArgs false

set_option maxRecDepth 100000 in
theorem parts10_no (a : Option Addr) (n cap : Nat) (hn : n ≤ 9223372036854775807) (he : wholeE n ≠ 0) (w : World) : Calls Tryd.prog 10 #[.slice a n cap] w (Tells (.slice none 0 0) w) := by
  have HC := Lib.hid (cut35_no a n cap hn he w)
  generalize wholeE n = x at *
  have e1 : (x != 0) = true := by simpa using he
  clear he
  go_enter Tryd.func10, Tryd.ntmps10
  go_wp2_with (go_at_call 16; (with_reducible refine HC.out.mono ?_); rintro e w1 ⟨rfl, hb, hh⟩; have HB := Lib.hid (And.intro hb hh); clear hb hh)
  go_ret
  exact ⟨rfl, HB.out.1, HB.out.2⟩
/-- A list of numbers of one's own. -/
def PartsTo (l : List Nat) (w : World) (e : Ending) (w' : World) : Prop := ∃ v, e = .returned v ∧ Below w.heap.size w w' ∧ w'.ownsRow w.heap.size 3 1 v l.length (intsL l)
set_option maxRecDepth 100000 in
theorem parts10 (a : Option Addr) (n cap : Nat) (hcap : n ≤ cap) (hc : cap ≤ 9223372036854775807) (he : wholeE n = 0) (f : Nat → Nat) (w : World) (h : WordsAt w.heap.size w a n f) :
    Calls Tryd.prog 10 #[.slice a n cap] w (NewInts (partsW f (n / 8)) w) := by
  obtain ⟨b0, off, ha, hcell⟩ := h
  have HCUT : Hid (Calls Tryd.prog 16 #[.slice a n cap] w (CutTo (fun j => (f j : Int)) n w)) :=
    Lib.hid (cut35 a b0 off n cap (fun h => (ha (by omega)).1) hcap hc he (fun j => (f j : Int)) w (fun h => (ha h).2) hcell)
  have hm8 : n / 8 ≤ 262144 := by unfold wholeE at he; split at he; omega; split at he; omega; omega
  obtain ⟨m, hm⟩ : ∃ m, m = n / 8 := ⟨_, rfl⟩
  unfold CutTo at HCUT
  unfold NewInts
  rw [← hm] at hm8 HCUT ⊢
  obtain ⟨PL, hPL⟩ : ∃ PL, PL = partsW f m := ⟨_, rfl⟩
  have HM := Lib.hid hm8
  have HFI : Hid (∀ W a c, LinesAt W.heap.size W a m f → Calls Tryd.prog 21 #[.slice a m c] W (NewInts PL W)) := Lib.hid fun W a c h => by rw [hPL]; exact filled21 a m c hm8 f W h
  unfold NewInts at HFI
  rw [← hPL]
  clear ha hcell hm hm8 he hPL
  go_enter Tryd.func10, Tryd.ntmps10
  go_wp2_with (first
    | (go_at_call 16; (with_reducible refine HCUT.out.mono ?_); rintro e wa ⟨vl, rfl, hb1, ho1⟩; obtain ⟨la, lc, rfl, hla⟩ := lines_own ho1; have HB1 := Lib.hid hb1; have HLA := Lib.hid hla; clear hb1 ho1 hla)
    | (go_at_call 21; (with_reducible refine (HFI.out _ _ _ HLA.out).mono ?_); rintro e wb ⟨vf, rfl, hb2, ho2⟩; obtain ⟨fa, fc, rfl⟩ := own_slice_n ho2; have HB2 := Lib.hid hb2; have HO2 := Lib.hid ho2; clear hb2 ho2))
  go_ret
  exact ⟨_, rfl, HB1.out.trans (HB2.out.mono HB1.out.size), own_down HO2.out HB1.out.size⟩
theorem beq_nat0 (x : Nat) : ((x : Int) == 0) = (x == 0) := by cases x <;> rfl
theorem full_not (f : Nat → Nat) (k : Nat) : full f k = !((List.range 8).all fun r => f (8 * k + r) == 0) := by
  unfold full
  generalize List.range 8 = l
  induction l with
  | nil => rfl
  | cons r l ih => rw [List.any_cons, List.all_cons, ih, Bool.not_and]; rfl
theorem zeros_to (f : Nat → Nat) (k : Nat) : ∃ Z : Nat → Bool, Hid (Z 0 = true ∧ (∀ q, Z (q + 1) = (Z q && f (8 * k + q) == 0)) ∧ full f k = !Z 8) :=
  ⟨fun q => (List.range q).all fun r => f (8 * k + r) == 0, rfl, fun q => by
    show ((List.range (q + 1)).all fun r => f (8 * k + r) == 0) = (((List.range q).all fun r => f (8 * k + r) == 0) && f (8 * k + q) == 0)
    rw [List.range_succ, List.all_append, List.all_cons, List.all_nil, Bool.and_true], full_not f k⟩
set_option maxRecDepth 100000 in
set_option maxHeartbeats 8000000 in
theorem refParts11 (a : Option Addr) (n cap : Nat) (hn : n ≤ 2097152) (f : Nat → Nat) (w : World) (h : WordsAt w.heap.size w a n f) : Calls Tryd.prog 11 #[.slice a n cap] w (NewInts (partsW f (n / 8)) w) := by
  obtain ⟨i3, hi, hz0, hz1, hz2⟩ := info_parts info3
  obtain ⟨B, hB⟩ : ∃ B, B = w.heap.size := ⟨_, rfl⟩
  obtain ⟨b, off, ha, hc⟩ := h
  unfold NewInts
  rw [← hB] at ha ⊢
  obtain ⟨m, hm⟩ : ∃ m, m = n / 8 := ⟨_, rfl⟩
  rw [← hm]
  have hm8 : 8 * m ≤ n ∧ m ≤ 262144 := by omega
  have HB := Lib.hid hB
  have HA := Lib.hid ha
  have HC := Lib.hid hc
  have hq : (n : Int).tdiv 8 = (m : Int) := by rw [Int.tdiv_eq_ediv_of_nonneg (by omega)]; omega
  obtain ⟨LL, hLL⟩ : ∃ LL : Nat → List Nat, LL = partsW f := ⟨_, rfl⟩
  have HS : Hid (LL 0 = [] ∧ ∀ k, LL (k + 1) = if full f k = true then LL k ++ [k] else LL k) := Lib.hid (by
    rw [hLL]
    refine ⟨rfl, fun k => ?_⟩
    unfold partsW
    rw [List.range_succ, List.filter_append]
    by_cases hk : full f k = true
    · rw [if_pos hk]; simp [hk]
    · rw [if_neg hk]; simp [hk])
  have HE := Lib.hid hLL
  have HMM := Lib.hid hm8
  clear ha hc hB hLL hm
  go_enter Tryd.func11, Tryd.ntmps11
  go_wp2_with fail
  go_loopw [3, 4] (fun v i wr => ∃ k : Nat, k ≤ m ∧ i = .int .i64 k ∧ Hid (wr.ownsRow B 3 1 v (LL k).length (intsL (LL k)) ∧ (LL k).length ≤ k) ∧ Hid (Below B w wr)) (fun _ i _ => m - (intOf i).toNat)
  case atStart => exact ⟨0, by omega, rfl, by rw [HS.out.1]; exact ⟨World.ownsRow_nil _ _ _ _, Nat.le_refl _⟩, by rw [HB.out]; exact Below.refl _ _⟩
  case round =>
    obtain ⟨k, hk, rfl, HO, HBE⟩ := hrel
    have hkb : k ≤ 262144 := by omega
    have hBw : B ≤ wr.heap.size := by have := HBE.out.size; have := HB.out; omega
    by_cases hlt : k < m
    · have d1 : decide ((k : Int) < (m : Int)) = true := bool_yes (by omega)
      obtain ⟨Z, HZ⟩ := zeros_to f k
      have HSk := Lib.hid (HS.out.2 k)
      have hkm : 8 * k + 8 ≤ n := by omega
      go_wp2_with fail
      -- is the line all 0?
      go_loop [5, 6] (fun z i => ∃ q : Nat, q ≤ 8 ∧ i = .int .i64 q ∧ z = .bool (Z q)) (fun _ i => 8 - (intOf i).toNat)
      case atStart => exact ⟨0, by omega, rfl, by rw [HZ.out.1]⟩
      case round =>
        obtain ⟨q, hq8, rfl, rfl⟩ := hrel
        have HAL := Lib.hid (HZ.out.2.1 q)
        by_cases hlt8 : q < 8
        · obtain ⟨rfl, hb⟩ := HA.out (by omega)
          have d2 : decide ((q : Int) < 8) = true := bool_yes (by omega)
          have c1 : wr.cell? ⟨b, off + (8 * k + q), none⟩ = some (.int .u64 (f (8 * k + q))) := by rw [HBE.out.cell (p := ⟨b, off + (8 * k + q), none⟩) hb, HC.out _ (by omega)]
          have j1 : (0 : Int) ≤ ((8 * k + q : Nat) : Int) := by omega
          have j2 : ((8 * k + q : Nat) : Int) < (n : Int) := by omega
          generalize f (8 * k + q) = x at *
          cases hz : Z q with
          | false =>
            rw [hz] at HAL
            clear c1 j1 j2
            go_wp2_with fail
            go_round
            case rel => exact ⟨q + 1, by omega, by go_num, by rw [HAL.out]; rfl⟩
            case measure => simp [intOf]; omega
          | true =>
            rw [hz] at HAL
            go_wp2_with fail
            go_round
            case rel => exact ⟨q + 1, by omega, by go_num, by rw [HAL.out, beq_nat0]; rfl⟩
            case measure => simp [intOf]; omega
        · obtain rfl : q = 8 := by omega
          have HO1 := Lib.hid HO.out.1
          have HLE := Lib.hid HO.out.2
          have q1 : (LL k).length + 1 ≤ maxLen := by have := HO.out.2; unfold maxLen; omega
          have q2 : ((LL k).length + 1) * 8 ≤ 140737488355328 := by have := HO.out.2; omega
          obtain ⟨va, vc, rfl⟩ := own_slice_n HO1.out
          cases hz : Z 8 with
          | false =>
            rw [HZ.out.2.2, hz] at HSk
            go_wp2_with (at_builtin; refine wpList_push rfl (.tmp 31) (.tmp 33) 30 rfl B 3 i3 (.int .i64 0) 1 8 Tryd.underlying30 hi hz0 hz1 hz2 rfl (by decide) wr hBw (.slice va (LL k).length vc) (LL k).length (intsL (LL k)) rfl HO1.out #[.int .i64 (Int.ofNat k)] 1 1 rfl rfl (by simp [Value.oneCell']) q1 q2 ?_; intro v' w' ho' hg' hb' hn'; have HO' := Lib.hid ho'; have HB' := Lib.hid (hb' _ _ HBE.out (Nat.le_refl _)); clear ho' hg' hb' hn')
            go_wp2_with fail
            go_roundw
            case rel => exact ⟨k + 1, by omega, by go_num, Lib.hid (by rw [HSk.out, if_pos (show (!false) = true from rfl), List.length_append, intsL_append]; exact ⟨HO'.out, by have := HLE.out; simp; omega⟩), HB'⟩
            case measure => simp [intOf]; omega
          | true =>
            rw [HZ.out.2.2, hz] at HSk
            go_wp2_with fail
            go_roundw
            case rel => exact ⟨k + 1, by omega, by go_num, Lib.hid (by rw [HSk.out, if_neg (by decide)]; exact ⟨HO1.out, by have := HLE.out; omega⟩), HBE⟩
            case measure => simp [intOf]; omega
    · obtain rfl : k = m := by omega
      have d1 : decide ((k : Int) < (k : Int)) = false := by simp
      go_wp2_with fail
      go_ret
      exact ⟨_, rfl, HBE.out, by rw [← HE.out]; exact HO.out.1⟩
end Go.Proofs.YtjbngddmmdcagaaDoor
