/- Layer 6: the words that last.
   What a value that was read as data holds, cell by cell: structs, arrays, slices of them. No program here.
   Layer 9 (a ground laid): puts on a memory; how many words a layout has. No walk here.
   Layer 7: a memory's device. -/
import Derived.Test.YtkdcfijebgeajaaGreatJw11
import Derived.WalkKit
import Derived.ProofKit
import Derived.OpenShut
import Derived.Deep.Slices
import Derived.Lib.Hide
import Derived.Deep.RegionLaw
import Derived.Test.YtkdcfijebgeajaaGreatJw3
import Derived.Test.YtkdcfijebgeajaaGreatJw1
import Derived.Lib.SmallJoins
import Derived.Test.YtkdcfijebgeajaaGreatJw2
import Derived.Maps.AppendAt
namespace Go.Proofs.YtkdcfijebgeajaaGreat
open Go.RowKit Go.BigFrame
set_option linter.unusedVariables false
set_option linter.unusedSimpArgs false
def supL (k : Nat) : List Nm := (List.range k).map fun (i : Nat) => (1, (i : Int) / 8, (i : Int) % 8)
theorem supL_succ (k : Nat) : supL (k + 1) = supL k ++ [(1, (k : Int) / 8, (k : Int) % 8)] := by simp [supL, List.range_succ]
def rootsL : List Nm := fillL 33 (fillL 25 (fillL 17 (supL 16 ++ [(2, 0, 0)]) ++ [(3, 0, 0)]) ++ [(4, 0, 0)])
def cellsL (k : Nat) : List Nm := (List.range k).flatMap fun (t : Nat) => [((6 : Int), (t : Int), (0 : Int)), (7, t, 0)] ++ zerosL 6
theorem cellsL_succ (k : Nat) : cellsL (k + 1) = cellsL k ++ ([((6 : Int), (k : Int), (0 : Int)), (7, k, 0)] ++ zerosL 6) := by simp [cellsL, List.range_succ]
def rowL (t k : Nat) : List Nm := (List.range k).map fun (i : Nat) => (8, (t : Int), (i : Int))
theorem rowL_succ (t k : Nat) : rowL t (k + 1) = rowL t k ++ [(8, (t : Int), (k : Int))] := by simp [rowL, List.range_succ]
def logsL (lo' k : Nat) : List Nm := (List.range k).flatMap fun (t : Nat) => rowL t lo' ++ zerosL (up8 lo' - lo')
theorem logsL_succ (lo' k : Nat) : logsL lo' (k + 1) = logsL lo' k ++ (rowL k lo' ++ zerosL (up8 lo' - lo')) := by simp [logsL, List.range_succ]
def partL (s k : Nat) : List Nm := (List.range k).map fun (i : Nat) => (9 + (i : Int), (s : Int), 0)
theorem partL_succ (s k : Nat) : partL s (k + 1) = partL s k ++ [(9 + (k : Int), (s : Int), 0)] := by simp [partL, List.range_succ]
def slotsL (k : Nat) : List Nm := (List.range k).flatMap fun (s : Nat) => partL s 5 ++ zerosL 3
theorem slotsL_succ (k : Nat) : slotsL (k + 1) = slotsL k ++ (partL k 5 ++ zerosL 3) := by simp [slotsL, List.range_succ]
def lastingL (th sl lo' bu : Nat) : List Nm := fillL (40 + bu) (rootsL ++ kindL 5 bu) ++ cellsL th ++ logsL lo' th ++ slotsL sl
set_option maxRecDepth 100000 in
set_option maxHeartbeats 4000000 in
theorem lasting59 (th sl lo' bu : Nat) (h1 : th ≤ 64) (h2 : sl ≤ 65536) (h3 : lo' ≤ 64) (h4 : bu ≤ 64) (W : World) :
    Calls Tryz.prog 9 #[.agg #[.int .i64 (th : Int), .int .i64 (sl : Int), .int .i64 (lo' : Int), .int .i64 (bu : Int)]] W (WordsOf (up8 (40 + bu) + 8 * th + up8 lo' * th + 8 * sl) (lastingL th sl lo' bu) W) := by
  obtain ⟨i64, hi, hz0, hz1, hz2⟩ := info_parts info64
  go_enter Tryz.func9, Tryz.ntmps9
  go_wp2_with fail
  obtain ⟨c, hc⟩ : ∃ c, c = #[Value.int .i64 (th : Int), Value.int .i64 (sl : Int), Value.int .i64 (lo' : Int), Value.int .i64 (bu : Int)] := ⟨_, rfl⟩
  have H0 : Hid (NamesAt W c 0 (supL 0) (.slice none 0 0) (W.alloc (.cells #[.int .i64 (th : Int), .int .i64 (sl : Int), .int .i64 (lo' : Int), .int .i64 (bu : Int)] 23))) := Lib.hid
    ⟨(Below.refl _ _).alloc (Nat.le_refl _) _, by rw [hc]; exact heap_alloc_new _ _, World.ownsRow_nil _ _ _ _⟩
  have HCC := Lib.hid hc
  clear hc
  go_loopw [3, 4] (fun v i wr => ∃ k : Nat, k ≤ 16 ∧ i = .int .i64 k ∧ Hid (NamesAt W c k (supL k) v wr)) (fun _ i _ => 16 - (intOf i).toNat)
  case atStart => exact ⟨0, Nat.zero_le _, rfl, H0⟩
  case round =>
    obtain ⟨k, hk, rfl, HP⟩ := hrel
    obtain ⟨va, vc, rfl⟩ := own_slice_n HP.out.own
    have HO := Lib.hid HP.out.own
    have HSZ : Hid (W.heap.size + 1 ≤ _) := Lib.hid (lt_row HP.out.box)
    have HK := HP
    clear HP
    by_cases hlt : k < 16
    · have d1 : decide ((k : Int) < 16) = true := bool_yes (by omega)
      go_wp2_with (at_builtin; refine wpList_push rfl _ _ 26 rfl (W.heap.size + 1) 87 i64 _ 3 24 Tryz.underlying26 hi hz0 hz1 hz2 rfl (by decide) _ HSZ.out _ _ _ (by rfl) HO.out _ 1 1 (by rfl) (by rfl) (by simp [Value.oneCell']) (by unfold maxLen; first | omega | (simp only [up8]; omega)) (by first | omega | (simp only [up8]; omega)) ?_; intro v' w' hown hgr hbel hne; have HP := Lib.hid (HK.out.push (fun q hq => (HO.out.lt q hq).1) hown hgr hbel); clear hown hgr hbel hne HO HSZ HK; obtain ⟨va, vc, rfl⟩ := own_slice_n HP.out.own; have HO := Lib.hid HP.out.own; have HSZ : Hid (W.heap.size + 1 ≤ _) := Lib.hid (lt_row HP.out.box); have HK := HP; clear HP)
      go_roundw
      case rel => exact ⟨k + 1, by omega, by go_num, by rw [supL_succ]; exact HK⟩
      case measure => simp [intOf]; omega
    · obtain rfl : k = 16 := by omega
      have d1 : decide (((16 : Nat) : Int) < 16) = false := by decide
      clear hlt hk H0
      obtain ⟨m0, hm0⟩ : ∃ m0 : Nat, m0 = 16 := ⟨_, rfl⟩
      have HM := Lib.hid hm0
      obtain ⟨l0, hl0⟩ : ∃ l0, l0 = supL 16 := ⟨_, rfl⟩
      rw [← hl0] at HK HO
      have HL0 := Lib.hid hl0
      clear hl0
      rw [← hm0] at HK HO ⊢
      rw [← hm0] at d1
      clear hm0
      go_wp2_with (first | (at_builtin; refine wpList_push rfl _ _ 26 rfl (W.heap.size + 1) 87 i64 _ 3 24 Tryz.underlying26 hi hz0 hz1 hz2 rfl (by decide) _ HSZ.out _ _ _ (by rfl) HO.out _ 1 1 (by rfl) (by rfl) (by simp [Value.oneCell']) (by unfold maxLen; have := HM.out; first | omega | (simp only [up8]; omega)) (by have := HM.out; first | omega | (simp only [up8]; omega)) ?_; intro v' w' hown hgr hbel hne; have HP := Lib.hid (HK.out.push (fun q hq => (HO.out.lt q hq).1) hown hgr hbel); clear hown hgr hbel hne HO HSZ HK; obtain ⟨va, vc, rfl⟩ := own_slice_n HP.out.own; have HO := Lib.hid HP.out.own; have HSZ : Hid (W.heap.size + 1 ≤ _) := Lib.hid (lt_row HP.out.box); have HK := HP; clear HP) | (go_at_call 42; refine (fill122 W c _ (by have := HM.out; first | omega | (simp only [up8]; omega)) _ _ _ HK.out).mono ?_; rintro e w' ⟨v', rfl, hn⟩; have hn : NamesAt W c _ _ v' w' := hn; clear HO HSZ HK; have HP := Lib.hid hn; clear hn; obtain ⟨va, vc, rfl⟩ := own_slice_n HP.out.own; have HO := Lib.hid HP.out.own; have HSZ : Hid (W.heap.size + 1 ≤ _) := Lib.hid (lt_row HP.out.box); have HK := HP; clear HP))
      clear d1
      obtain ⟨m1, hm1⟩ : ∃ m1, m1 = up8 (up8 (up8 (m0 + 1) + 1) + 1) := ⟨_, rfl⟩
      obtain ⟨l1, hl1, HKx⟩ : ∃ l1, l1 = fillL (up8 (up8 (m0 + 1) + 1) + 1) (fillL (up8 (m0 + 1) + 1) (fillL (m0 + 1) (l0 ++ [(2, 0, 0)]) ++ [(3, 0, 0)]) ++ [(4, 0, 0)]) ∧ Hid (NamesAt W c m1 l1 _ _) := ⟨_, rfl, by rw [hm1]; exact HK⟩
      rw [← hm1]
      have HM1 : Hid (m1 = 40) := Lib.hid (by rw [hm1, HM.out]; rfl)
      have HL1 : Hid (l1 = rootsL) := Lib.hid (by rw [hl1, HL0.out, HM.out]; rfl)
      have HA : Hid (NamesAt W c (m1 + 0) (l1 ++ kindL 5 0) (.slice va m1 vc) _) := Lib.hid (by rw [show kindL 5 0 = [] from rfl, List.append_nil, hm1]; rw [hm1] at HKx; exact HKx.out)
      clear hm1 hl1 HK HO HSZ HKx
      go_loopw [3, 5] (fun v i wr => ∃ k : Nat, k ≤ bu ∧ i = .int .i64 k ∧ Hid (NamesAt W c (m1 + k) (l1 ++ kindL 5 k) v wr)) (fun _ i _ => bu - (intOf i).toNat)
      case atStart => exact ⟨0, Nat.zero_le _, rfl, HA⟩
      case round =>
        obtain ⟨k, hk, rfl, HP⟩ := hrel
        have cb : wr.cell? ⟨W.heap.size, 3, none⟩ = some (.int .i64 (bu : Int)) := by rw [cell_in HP.out.box, HCC.out]; rfl
        have HB5 := Lib.hid (And.intro hk h4)
        obtain ⟨va, vc, rfl⟩ := own_slice_n HP.out.own
        have HO := Lib.hid HP.out.own
        have HSZ : Hid (W.heap.size + 1 ≤ _) := Lib.hid (lt_row HP.out.box)
        have HK := HP
        clear HP
        obtain ⟨n0, hn0⟩ : ∃ n0, n0 = m1 + k := ⟨_, rfl⟩
        obtain ⟨l2, hl2⟩ : ∃ l2, l2 = l1 ++ kindL 5 k := ⟨_, rfl⟩
        rw [← hn0, ← hl2] at HK HO
        rw [← hn0]
        have HN0 := Lib.hid hn0
        have HL2 := Lib.hid hl2
        clear hn0 hl2
        by_cases hlt : k < bu
        · have d1 : decide ((k : Int) < (bu : Int)) = true := bool_yes (by omega)
          have d2 : decide (k < bu) = true := bool_yes hlt
          have HLT := Lib.hid hlt
          clear hlt
          go_wp2_with (at_builtin; refine wpList_push rfl _ _ 26 rfl (W.heap.size + 1) 87 i64 _ 3 24 Tryz.underlying26 hi hz0 hz1 hz2 rfl (by decide) _ HSZ.out _ _ _ (by rfl) HO.out _ 1 1 (by rfl) (by rfl) (by simp [Value.oneCell']) (by unfold maxLen; have := HN0.out; have := HM1.out; have := HB5.out; first | omega | (simp only [up8]; omega)) (by have := HN0.out; have := HM1.out; have := HB5.out; first | omega | (simp only [up8]; omega)) ?_; intro v' w' hown hgr hbel hne; have HP := Lib.hid (HK.out.push (fun q hq => (HO.out.lt q hq).1) hown hgr hbel); clear hown hgr hbel hne HO HSZ HK; obtain ⟨va, vc, rfl⟩ := own_slice_n HP.out.own; have HO := Lib.hid HP.out.own; have HSZ : Hid (W.heap.size + 1 ≤ _) := Lib.hid (lt_row HP.out.box); have HK := HP; clear HP)
          go_roundw
          case rel => exact ⟨k + 1, by have := HLT.out; omega, by go_num, by rw [show m1 + (k + 1) = n0 + 1 by have := HN0.out; omega, kindL_succ, ← List.append_assoc, ← HL2.out]; exact HK⟩
          case measure => have := HLT.out; simp [intOf]; omega
        · have d1 : decide ((k : Int) < (bu : Int)) = false := bool_no (by omega)
          have d2 : decide (k < bu) = false := bool_no hlt
          have HE : Hid (k = bu) := Lib.hid (by omega)
          clear hlt hk
          go_wp2_with (go_at_call 42; refine (fill122 W c _ (by have := HN0.out; have := HM1.out; have := HB5.out; first | omega | (simp only [up8]; omega)) _ _ _ HK.out).mono ?_; rintro e w' ⟨v', rfl, hn⟩; have hn : NamesAt W c _ _ v' w' := hn; clear HO HSZ HK; have HP := Lib.hid hn; clear hn; obtain ⟨va, vc, rfl⟩ := own_slice_n HP.out.own; have HO := Lib.hid HP.out.own; have HSZ : Hid (W.heap.size + 1 ≤ _) := Lib.hid (lt_row HP.out.box); have HK := HP; clear HP)
          obtain ⟨m2, hm2⟩ : ∃ m2, m2 = up8 n0 := ⟨_, rfl⟩
          rw [← hm2] at HK HO ⊢
          obtain ⟨l3, hl3, HKx⟩ : ∃ l3, l3 = fillL n0 l2 ∧ Hid (NamesAt W c m2 l3 _ _) := ⟨_, rfl, HK⟩
          have HL3 : Hid (l3 = fillL (40 + bu) (rootsL ++ kindL 5 bu)) := Lib.hid (by rw [hl3, HL2.out, HN0.out, HM1.out, HL1.out, HE.out])
          have HM2 : Hid (m2 = up8 (40 + bu) ∧ m2 % 8 = 0 ∧ m2 ≤ 200) := Lib.hid (by rw [hm2, HN0.out, HM1.out, HE.out]; exact ⟨rfl, by unfold up8; omega, by unfold up8; omega⟩)
          have HA2 : Hid (NamesAt W c (m2 + 8 * 0) (l3 ++ cellsL 0) (.slice va m2 vc) _) := Lib.hid (by rw [show cellsL 0 = [] from rfl, List.append_nil]; exact HKx.out)
          clear hm2 hl3 HK HO HSZ HKx cb d1 d2
          go_loopw [3, 6] (fun v i wr => ∃ k : Nat, k ≤ th ∧ i = .int .i64 k ∧ Hid (NamesAt W c (m2 + 8 * k) (l3 ++ cellsL k) v wr)) (fun _ i _ => th - (intOf i).toNat)
          case atStart => exact ⟨0, Nat.zero_le _, rfl, HA2⟩
          case round =>
            obtain ⟨k3, hk3, rfl, HP⟩ := hrel
            have cb : wr.cell? ⟨W.heap.size, 0, none⟩ = some (.int .i64 (th : Int)) := by rw [cell_in HP.out.box, HCC.out]; rfl
            obtain ⟨va, vc, rfl⟩ := own_slice_n HP.out.own
            have HO := Lib.hid HP.out.own
            have HSZ : Hid (W.heap.size + 1 ≤ _) := Lib.hid (lt_row HP.out.box)
            have HK := HP
            clear HP
            obtain ⟨n3, hn3⟩ : ∃ n3, n3 = m2 + 8 * k3 := ⟨_, rfl⟩
            obtain ⟨l4, hl4⟩ : ∃ l4, l4 = l3 ++ cellsL k3 := ⟨_, rfl⟩
            rw [← hn3, ← hl4] at HK HO
            rw [← hn3]
            have HN3 : Hid (n3 = m2 + 8 * k3 ∧ k3 ≤ 64) := Lib.hid ⟨hn3, by omega⟩
            have HL4 := Lib.hid hl4
            clear hn3 hl4
            by_cases hlt : k3 < th
            · have d1 : decide ((k3 : Int) < (th : Int)) = true := bool_yes (by omega)
              have d2 : decide (k3 < th) = true := bool_yes hlt
              have HLT := Lib.hid hlt
              clear hlt
              go_wp2_with (first | (at_builtin; refine wpList_push rfl _ _ 26 rfl (W.heap.size + 1) 87 i64 _ 3 24 Tryz.underlying26 hi hz0 hz1 hz2 rfl (by decide) _ HSZ.out _ _ _ (by rfl) HO.out _ 1 1 (by rfl) (by rfl) (by simp [Value.oneCell']) (by unfold maxLen; have := HN3.out; have := HM2.out; first | omega | (simp only [up8]; omega)) (by have := HN3.out; have := HM2.out; first | omega | (simp only [up8]; omega)) ?_; intro v' w' hown hgr hbel hne; have HP := Lib.hid (HK.out.push (fun q hq => (HO.out.lt q hq).1) hown hgr hbel); clear hown hgr hbel hne HO HSZ HK; obtain ⟨va, vc, rfl⟩ := own_slice_n HP.out.own; have HO := Lib.hid HP.out.own; have HSZ : Hid (W.heap.size + 1 ≤ _) := Lib.hid (lt_row HP.out.box); have HK := HP; clear HP) | (go_at_call 42; refine (fill122 W c _ (by have := HN3.out; have := HM2.out; first | omega | (simp only [up8]; omega)) _ _ _ HK.out).mono ?_; rintro e w' ⟨v', rfl, hn⟩; have hn : NamesAt W c _ _ v' w' := hn; clear HO HSZ HK; have HP := Lib.hid hn; clear hn; obtain ⟨va, vc, rfl⟩ := own_slice_n HP.out.own; have HO := Lib.hid HP.out.own; have HSZ : Hid (W.heap.size + 1 ≤ _) := Lib.hid (lt_row HP.out.box); have HK := HP; clear HP))
              go_roundw
              case rel => exact ⟨k3 + 1, by have := HLT.out; omega, by go_num, by rw [show m2 + 8 * (k3 + 1) = up8 (n3 + 1 + 1) by have := HN3.out; have := HM2.out; unfold up8; omega, show l3 ++ cellsL (k3 + 1) = fillL (n3 + 1 + 1) (l4 ++ [(6, (k3 : Int), 0)] ++ [(7, (k3 : Int), 0)]) by rw [HL4.out, cellsL_succ]; unfold fillL; rw [show up8 (n3 + 1 + 1) - (n3 + 1 + 1) = 6 by have := HN3.out; have := HM2.out; unfold up8; omega]; simp]; exact HK⟩
              case measure => have := HLT.out; simp [intOf]; omega
            · have d1 : decide ((k3 : Int) < (th : Int)) = false := bool_no (by omega)
              have d2 : decide (k3 < th) = false := bool_no hlt
              have HE3 : Hid (k3 = th) := Lib.hid (by omega)
              clear hlt hk3
              go_wp2_with fail
              obtain ⟨L, hL⟩ : ∃ L, L = up8 lo' := ⟨_, rfl⟩
              have HLL : Hid (L = (lo' + 7) / 8 * 8 ∧ L ≤ 72 ∧ lo' ≤ L ∧ lo' ≤ 64 ∧ L < lo' + 8) := Lib.hid (by rw [hL]; unfold up8; omega)
              have HL0 := Lib.hid hL
              have HM3 : Hid (n3 % 8 = 0 ∧ n3 ≤ 800) := Lib.hid (by have := HN3.out; have := HM2.out; omega)
              have HA3 : Hid (NamesAt W c (n3 + L * 0) (l4 ++ logsL lo' 0) (.slice va n3 vc) _) := Lib.hid (by rw [show logsL lo' 0 = [] from rfl, List.append_nil]; exact HK.out)
              clear hL HK HO HSZ cb d1 d2
              go_loopw [3, 7] (fun v i wr => ∃ k : Nat, k ≤ th ∧ i = .int .i64 k ∧ Hid (NamesAt W c (n3 + L * k) (l4 ++ logsL lo' k) v wr)) (fun _ i _ => th - (intOf i).toNat)
              case atStart => exact ⟨0, Nat.zero_le _, rfl, HA3⟩
              case round =>
                obtain ⟨k4, hk4, rfl, HP⟩ := hrel
                have cb : wr.cell? ⟨W.heap.size, 0, none⟩ = some (.int .i64 (th : Int)) := by rw [cell_in HP.out.box, HCC.out]; rfl
                obtain ⟨n4, hn4⟩ : ∃ n4, n4 = n3 + L * k4 := ⟨_, rfl⟩
                obtain ⟨l5, hl5⟩ : ∃ l5, l5 = l4 ++ logsL lo' k4 := ⟨_, rfl⟩
                rw [← hn4, ← hl5] at HP
                have HL5' := Lib.hid hl5
                clear hl5
                have HN4 : Hid (n4 % 8 = 0 ∧ n4 ≤ 5408) := Lib.hid (by
                  have h5 : L * k4 = (lo' + 7) / 8 * k4 * 8 := by rw [HLL.out.1]; exact Nat.mul_right_comm _ _ _
                  have h6 : L * k4 ≤ 72 * 64 := Nat.mul_le_mul HLL.out.2.1 (by omega)
                  have := HM3.out
                  omega)
                have HQ4 := Lib.hid hn4
                clear hn4
                obtain ⟨va, vc, rfl⟩ := own_slice_n HP.out.own
                have HO := Lib.hid HP.out.own
                have HSZ : Hid (W.heap.size + 1 ≤ _) := Lib.hid (lt_row HP.out.box)
                have HK := HP
                clear HP
                by_cases hlt : k4 < th
                · have d1 : decide ((k4 : Int) < (th : Int)) = true := bool_yes (by omega)
                  have d2 : decide (k4 < th) = true := bool_yes hlt
                  have HLT := Lib.hid hlt
                  have HA4 : Hid (NamesAt W c (n4 + 0) (l5 ++ rowL k4 0) (.slice va n4 vc) wr) := Lib.hid (by rw [show rowL k4 0 = [] from rfl, List.append_nil]; exact HK.out)
                  clear hlt
                  go_wp2_with fail
                  clear HK HO HSZ cb d1 d2
                  go_loopw [3, 8] (fun v i wr => ∃ k : Nat, k ≤ lo' ∧ i = .int .i64 k ∧ Hid (NamesAt W c (n4 + k) (l5 ++ rowL k4 k) v wr)) (fun _ i _ => lo' - (intOf i).toNat)
                  case atStart => exact ⟨0, Nat.zero_le _, rfl, HA4⟩
                  case round =>
                    obtain ⟨k5, hk5, rfl, HP⟩ := hrel
                    have cb : wr.cell? ⟨W.heap.size, 2, none⟩ = some (.int .i64 (lo' : Int)) := by rw [cell_in HP.out.box, HCC.out]; rfl
                    obtain ⟨va, vc, rfl⟩ := own_slice_n HP.out.own
                    have HO := Lib.hid HP.out.own
                    have HSZ : Hid (W.heap.size + 1 ≤ _) := Lib.hid (lt_row HP.out.box)
                    have HK := HP
                    clear HP
                    obtain ⟨n5, hn5⟩ : ∃ n5, n5 = n4 + k5 := ⟨_, rfl⟩
                    obtain ⟨l6, hl6⟩ : ∃ l6, l6 = l5 ++ rowL k4 k5 := ⟨_, rfl⟩
                    rw [← hn5, ← hl6] at HK HO
                    rw [← hn5]
                    have HN5 : Hid (n5 = n4 + k5 ∧ k5 ≤ 64) := Lib.hid ⟨hn5, by omega⟩
                    have HL6 := Lib.hid hl6
                    clear hn5 hl6
                    by_cases hlt : k5 < lo'
                    · have d1 : decide ((k5 : Int) < (lo' : Int)) = true := bool_yes (by omega)
                      have d2 : decide (k5 < lo') = true := bool_yes hlt
                      have HL5 := Lib.hid hlt
                      clear hlt
                      go_wp2_with (at_builtin; refine wpList_push rfl _ _ 26 rfl (W.heap.size + 1) 87 i64 _ 3 24 Tryz.underlying26 hi hz0 hz1 hz2 rfl (by decide) _ HSZ.out _ _ _ (by rfl) HO.out _ 1 1 (by rfl) (by rfl) (by simp [Value.oneCell']) (by unfold maxLen; have := HN5.out; have := HN4.out; first | omega | (simp only [up8]; omega)) (by have := HN5.out; have := HN4.out; first | omega | (simp only [up8]; omega)) ?_; intro v' w' hown hgr hbel hne; have HP := Lib.hid (HK.out.push (fun q hq => (HO.out.lt q hq).1) hown hgr hbel); clear hown hgr hbel hne HO HSZ HK; obtain ⟨va, vc, rfl⟩ := own_slice_n HP.out.own; have HO := Lib.hid HP.out.own; have HSZ : Hid (W.heap.size + 1 ≤ _) := Lib.hid (lt_row HP.out.box); have HK := HP; clear HP)
                      go_roundw
                      case rel => exact ⟨k5 + 1, by have := HL5.out; omega, by go_num, by rw [show n4 + (k5 + 1) = n5 + 1 by have := HN5.out; omega, rowL_succ, ← List.append_assoc, ← HL6.out]; exact HK⟩
                      case measure => have := HL5.out; simp [intOf]; omega
                    · have d1 : decide ((k5 : Int) < (lo' : Int)) = false := bool_no (by omega)
                      have d2 : decide (k5 < lo') = false := bool_no hlt
                      have HE5 : Hid (k5 = lo') := Lib.hid (by omega)
                      clear hlt hk5
                      go_wp2_with (go_at_call 42; refine (fill122 W c _ (by have := HN5.out; have := HN4.out; first | omega | (simp only [up8]; omega)) _ _ _ HK.out).mono ?_; rintro e w' ⟨v', rfl, hn⟩; have hn : NamesAt W c _ _ v' w' := hn; clear HO HSZ HK; have HP := Lib.hid hn; clear hn; obtain ⟨va, vc, rfl⟩ := own_slice_n HP.out.own; have HO := Lib.hid HP.out.own; have HSZ : Hid (W.heap.size + 1 ≤ _) := Lib.hid (lt_row HP.out.box); have HK := HP; clear HP)
                      go_roundw
                      case rel => exact ⟨k4 + 1, by have := HLT.out; omega, by go_num, by rw [show l4 ++ logsL lo' (k4 + 1) = fillL n5 l6 by rw [HL6.out, HL5'.out, logsL_succ, HE5.out]; unfold fillL; rw [show up8 n5 - n5 = up8 lo' - lo' by have := HN5.out; have := HN4.out; have := HE5.out; unfold up8; omega]; simp, show n3 + L * (k4 + 1) = up8 n5 by (have h7 : up8 n5 = n4 + L := by (have := HN5.out; have := HN4.out; have := HE5.out; have := HLL.out; unfold up8; omega)); rw [h7, HQ4.out, Nat.mul_succ]; omega]; exact HK⟩
                      case measure => have := HLT.out; simp [intOf]; omega
                · have d1 : decide ((k4 : Int) < (th : Int)) = false := bool_no (by omega)
                  have d2 : decide (k4 < th) = false := bool_no hlt
                  have HE4 : Hid (k4 = th) := Lib.hid (by omega)
                  clear hlt hk4
                  go_wp2_with fail
                  obtain ⟨n6, hn6⟩ : ∃ n6, n6 = n4 := ⟨_, rfl⟩
                  rw [← hn6] at HK HO HN4 HQ4 ⊢
                  clear hn6
                  have HA6 : Hid (NamesAt W c (n6 + 8 * 0) (l5 ++ slotsL 0) (.slice va n6 vc) _) := Lib.hid (by rw [show slotsL 0 = [] from rfl, List.append_nil]; exact HK.out)
                  clear HK HO HSZ cb d1 d2
                  go_loopw [3, 9] (fun v i wr => ∃ k : Nat, k ≤ sl ∧ i = .int .i64 k ∧ Hid (NamesAt W c (n6 + 8 * k) (l5 ++ slotsL k) v wr)) (fun _ i _ => sl - (intOf i).toNat)
                  case atStart => exact ⟨0, Nat.zero_le _, rfl, HA6⟩
                  case round =>
                    obtain ⟨k6, hk6, rfl, HP⟩ := hrel
                    have cb : wr.cell? ⟨W.heap.size, 1, none⟩ = some (.int .i64 (sl : Int)) := by rw [cell_in HP.out.box, HCC.out]; rfl
                    obtain ⟨n7, hn7⟩ : ∃ n7, n7 = n6 + 8 * k6 := ⟨_, rfl⟩
                    obtain ⟨l7, hl7⟩ : ∃ l7, l7 = l5 ++ slotsL k6 := ⟨_, rfl⟩
                    rw [← hn7, ← hl7] at HP
                    have HL7 := Lib.hid hl7
                    clear hl7
                    have HN7 : Hid (n7 = n6 + 8 * k6 ∧ k6 ≤ 65536) := Lib.hid ⟨hn7, by omega⟩
                    clear hn7
                    obtain ⟨va, vc, rfl⟩ := own_slice_n HP.out.own
                    have HO := Lib.hid HP.out.own
                    have HSZ : Hid (W.heap.size + 1 ≤ _) := Lib.hid (lt_row HP.out.box)
                    have HK := HP
                    clear HP
                    by_cases hlt : k6 < sl
                    · have d1 : decide ((k6 : Int) < (sl : Int)) = true := bool_yes (by omega)
                      have d2 : decide (k6 < sl) = true := bool_yes hlt
                      have HLT := Lib.hid hlt
                      have HA7 : Hid (NamesAt W c (n7 + 0) (l7 ++ partL k6 0) (.slice va n7 vc) wr) := Lib.hid (by rw [show partL k6 0 = [] from rfl, List.append_nil]; exact HK.out)
                      clear hlt
                      go_wp2_with fail
                      clear HK HO HSZ cb d1 d2
                      go_loopw [3, 10] (fun v i wr => ∃ (k : Nat) (j : Int), k ≤ 5 ∧ i = .int .i64 j ∧ j = 9 + (k : Int) ∧ Hid (NamesAt W c (n7 + k) (l7 ++ partL k6 k) v wr)) (fun _ i _ => 14 - (intOf i).toNat)
                      case atStart => exact ⟨0, 9, by omega, rfl, by omega, HA7⟩
                      case round =>
                        obtain ⟨k8, j8, hk8, rfl, hj8, HP⟩ := hrel
                        obtain ⟨va, vc, rfl⟩ := own_slice_n HP.out.own
                        have HO := Lib.hid HP.out.own
                        have HSZ : Hid (W.heap.size + 1 ≤ _) := Lib.hid (lt_row HP.out.box)
                        have HK := HP
                        clear HP
                        obtain ⟨n8, hn8⟩ : ∃ n8, n8 = n7 + k8 := ⟨_, rfl⟩
                        obtain ⟨l8, hl8⟩ : ∃ l8, l8 = l7 ++ partL k6 k8 := ⟨_, rfl⟩
                        rw [← hn8, ← hl8] at HK HO
                        rw [← hn8]
                        have HN8 : Hid (n8 = n7 + k8 ∧ k8 ≤ 5 ∧ j8 = 9 + (k8 : Int)) := Lib.hid ⟨hn8, hk8, hj8⟩
                        have HL8' := Lib.hid hl8
                        clear hn8 hj8 hl8
                        by_cases hlt : j8 ≤ 13
                        · have d1 : decide (j8 ≤ 13) = true := bool_yes hlt
                          have HL8 := Lib.hid hlt
                          clear hlt hk8
                          go_wp2_with (at_builtin; refine wpList_push rfl _ _ 26 rfl (W.heap.size + 1) 87 i64 _ 3 24 Tryz.underlying26 hi hz0 hz1 hz2 rfl (by decide) _ HSZ.out _ _ _ (by rfl) HO.out _ 1 1 (by rfl) (by rfl) (by simp [Value.oneCell']) (by unfold maxLen; have := HN8.out; have := HN7.out; have := HN4.out; first | omega | (simp only [up8]; omega)) (by have := HN8.out; have := HN7.out; have := HN4.out; first | omega | (simp only [up8]; omega)) ?_; intro v' w' hown hgr hbel hne; have HP := Lib.hid (HK.out.push (fun q hq => (HO.out.lt q hq).1) hown hgr hbel); clear hown hgr hbel hne HO HSZ HK; obtain ⟨va, vc, rfl⟩ := own_slice_n HP.out.own; have HO := Lib.hid HP.out.own; have HSZ : Hid (W.heap.size + 1 ≤ _) := Lib.hid (lt_row HP.out.box); have HK := HP; clear HP)
                          go_roundw
                          case rel => exact ⟨k8 + 1, j8 + 1, by have := HL8.out; have := HN8.out; omega, by have h8 := HN8.out; have h9 := HL8.out; have hw : wrap64 (j8 + 1) = j8 + 1 := (by unfold wrap64; omega); first | rw [hw] | (simp [hw]; done) | go_num, by have := HN8.out; omega, by rw [show n7 + (k8 + 1) = n8 + 1 by have := HN8.out; omega, partL_succ, ← List.append_assoc, ← HL8'.out, ← HN8.out.2.2]; exact HK⟩
                          case measure => have h9 := HL8.out; have h8 := HN8.out; have hw : wrap64 (j8 + 1) = j8 + 1 := (by unfold wrap64; omega); simp [intOf, hw]; omega
                        · have d1 : decide (j8 ≤ 13) = false := bool_no hlt
                          have HE8 : Hid (k8 = 5) := Lib.hid (by have := HN8.out; omega)
                          clear hlt hk8
                          go_wp2_with (go_at_call 42; refine (fill122 W c _ (by have := HN8.out; have := HN7.out; have := HN4.out; first | omega | (simp only [up8]; omega)) _ _ _ HK.out).mono ?_; rintro e w' ⟨v', rfl, hn⟩; have hn : NamesAt W c _ _ v' w' := hn; clear HO HSZ HK; have HP := Lib.hid hn; clear hn; obtain ⟨va, vc, rfl⟩ := own_slice_n HP.out.own; have HO := Lib.hid HP.out.own; have HSZ : Hid (W.heap.size + 1 ≤ _) := Lib.hid (lt_row HP.out.box); have HK := HP; clear HP)
                          go_roundw
                          case rel => exact ⟨k6 + 1, by have := HLT.out; omega, by go_num, by rw [show l5 ++ slotsL (k6 + 1) = fillL n8 l8 by rw [HL8'.out, HL7.out, slotsL_succ, HE8.out]; unfold fillL; rw [show up8 n8 - n8 = 3 by have := HN8.out; have := HN7.out; have := HN4.out; have := HE8.out; unfold up8; omega]; simp, show n6 + 8 * (k6 + 1) = up8 n8 by have := HN8.out; have := HN7.out; have := HN4.out; have := HE8.out; unfold up8; omega]; exact HK⟩
                          case measure => have := HLT.out; simp [intOf]; omega
                    · have d1 : decide ((k6 : Int) < (sl : Int)) = false := bool_no (by omega)
                      have d2 : decide (k6 < sl) = false := bool_no hlt
                      have HE6 : Hid (k6 = sl) := Lib.hid (by omega)
                      clear hlt hk6
                      go_wp2_with fail
                      go_ret
                      have e : n7 = up8 (40 + bu) + 8 * th + up8 lo' * th + 8 * sl := by
                        rw [HN7.out.1, HQ4.out, HE6.out, HE4.out, HN3.out.1, HE3.out, HM2.out.1, HL0.out]
                      have el : l7 = lastingL th sl lo' bu := by rw [HL7.out, HE6.out, HL5'.out, HE4.out, HL4.out, HE3.out, HL3.out]; rfl
                      exact ⟨_, rfl, HK.out.below, by rw [← e, ← el]; exact own_mono HK.out.own (Nat.le_succ _)⟩
end Go.Proofs.YtkdcfijebgeajaaGreat

namespace Go.Proofs.YtkdcfijebgeajaaGreat
open Go.RowKit Go.ChangeShapes Go.WideShapes Go.Deep
def kindAt (P : Program) : Nat → TypeId → Nat → Option (Option IntKind)
  | 0, _, _ => none
  | d + 1, t, j =>
    match P.underlying t with
    | some (.int k) => if j = 0 then some (some k) else none
    | some .bool => if j = 0 then some none else none
    | some (.struct fs) =>
      match fs.toList.find? fun f => decide (f.offset ≤ j) && decide (j < f.offset + P.cellsOf f.type) with
      | some f => kindAt P d f.type (j - f.offset)
      | none => none
    | some (.array n e) => if 0 < P.cellsOf e ∧ j < n * P.cellsOf e then kindAt P d e (j % P.cellsOf e) else none
    | _ => none
def LeafOk (k : Option IntKind) (v : Value) : Prop :=
  match k with
  | some k => ∃ n, v = .int k n ∧ (Lit.int k n).wf = true
  | none => ∃ b, v = .bool b
section
variable {H : Type} {enc : TypeId × Value → H} {P : Program} {w : World} {base : Nat} {spare : Nat → Bool} {held : Bool}
theorem kindAt_ok : ∀ (d : Nat) (t : TypeId) (j : Nat) (k : Option IntKind) (fuel : Nat) (cs : List Value) (x : DataW H × List MemPlace),
    DataW.trod enc P w base spare held fuel t cs = some x → kindAt P d t j = some k → ∃ v, cs[j]? = some v ∧ LeafOk k v
  | 0, _, _, _, _, _, _, _, hk => by simp [kindAt] at hk
  | d + 1, t, j, k, fuel, cs, x, h, hk => by
    unfold kindAt at hk
    split at hk
    · rename_i q hu
      split at hk
      · rename_i hj
        simp only [Option.some.injEq] at hk
        subst hk hj
        obtain ⟨n, rfl, -, hw⟩ := DataW.trod_int hu h
        exact ⟨_, rfl, n, rfl, hw⟩
      · cases hk
    · rename_i hu
      split at hk
      · rename_i hj
        simp only [Option.some.injEq] at hk
        subst hk hj
        obtain ⟨b, rfl, -⟩ := DataW.trod_bool hu h
        exact ⟨_, rfl, b, rfl⟩
      · cases hk
    · rename_i fs hu
      split at hk
      · rename_i f hf
        obtain ⟨xs, n, -, -, hlen, hxs, hfield⟩ := DataW.trod_struct hu h
        have hmem := List.mem_of_find?_eq_some hf
        have hcond := List.find?_some hf
        simp only [Bool.and_eq_true, decide_eq_true_eq] at hcond
        obtain ⟨i, hi, rfl⟩ := List.mem_iff_getElem.1 hmem
        have hfi : fs[i]? = some (fs.toList[i]) := by
          rw [← Array.getElem?_toList]; exact List.getElem?_eq_getElem hi
        have h1 := hfield i _ hfi
        have hix : i < xs.length := by rw [hxs]; simpa using hi
        rw [List.getElem?_eq_getElem hix] at h1
        obtain ⟨v, hv, hl⟩ := kindAt_ok d _ _ k n _ _ h1 hk
        refine ⟨v, ?_, hl⟩
        rw [List.getElem?_take] at hv
        split at hv
        · rw [List.getElem?_drop] at hv
          rw [← hv]; congr 1; omega
        · cases hv
      · cases hk
    · rename_i n e hu
      split at hk
      · rename_i hc
        obtain ⟨xs, m, -, -, hlen, hxs, hel⟩ := DataW.trod_array hu h
        have hi : j / P.cellsOf e < n := Nat.div_lt_of_lt_mul (by rw [Nat.mul_comm]; exact hc.2)
        have h1 := hel _ hi
        rw [List.getElem?_eq_getElem (by omega)] at h1
        obtain ⟨v, hv, hl⟩ := kindAt_ok d _ _ k m _ _ h1 hk
        refine ⟨v, ?_, hl⟩
        rw [List.getElem?_take] at hv
        split at hv
        · rw [List.getElem?_drop] at hv
          rw [← hv]; congr 1
          have := Nat.div_add_mod j (P.cellsOf e)
          rw [Nat.mul_comm] at this
          omega
        · cases hv
      · cases hk
    · cases hk
theorem open_slice_cells {t e : TypeId} {fuel : Nat} {cs : List Value} {x : DataW H × List MemPlace} (ht : P.underlying t = some (.slice e)) (hc0 : 0 < P.cellsOf e)
    (hk0 : ∃ d k, kindAt P d e 0 = some k) (h : DataW.trod enc P w base spare held fuel t cs = some x) (a : Option Addr) (len cap : Nat) (hcs : cs = [.slice a len cap]) :
    len ≤ cap ∧ cap ≤ maxLen ∧ (len = 0 ∨ ∃ b off, a = some ⟨b, off, none⟩ ∧ b < w.heap.size ∧ ∀ i, i < len → ∀ d j k, j < P.cellsOf e → kindAt P d e j = some k → ∃ v, w.cell? ⟨b, off + i * P.cellsOf e + j, none⟩ = some v ∧ LeafOk k v) := by
  rcases open_slice ht h with ⟨rfl, -⟩ | ⟨ad, len', cap', m, n, D, Pl, rfl, hb, hl, hm, hmm, hx, hi⟩
  · simp only [List.cons.injEq, Value.slice.injEq, and_true] at hcs
    obtain ⟨rfl, rfl, rfl⟩ := hcs
    exact ⟨Nat.le_refl _, Nat.zero_le _, .inl rfl⟩
  · simp only [List.cons.injEq, Value.slice.injEq, and_true] at hcs
    obtain ⟨rfl, rfl, rfl⟩ := hcs
    refine ⟨hl, hm, ?_⟩
    by_cases h0 : len' = 0
    · exact .inl h0
    refine .inr ?_
    have hlm : len' ≤ m := by rw [hmm]; split <;> omega
    have get : ∀ i, i < len' → ∀ d j k, j < P.cellsOf e → kindAt P d e j = some k → ∃ v, w.cell? ((ad.add (i * P.cellsOf e)).add j) = some v ∧ LeafOk k v := by
      intro i hil d j k hj hk
      obtain ⟨cs', hc, ht'⟩ := hi i (by omega)
      obtain ⟨_, hcl, hat⟩ := World.cells?_some hc
      obtain ⟨v, hv, hlf⟩ := kindAt_ok d e j k n cs' _ ht' hk
      exact ⟨v, by rw [hat j hj]; exact hv, hlf⟩
    obtain ⟨b, off, spot⟩ := ad
    obtain ⟨d, k, hk0⟩ := hk0
    obtain ⟨v0, hv0, -⟩ := get 0 (by omega) d 0 k hc0 hk0
    have hspot : spot = none := by
      have := World.cell?_spot hv0
      simpa [Addr.add] using this
    subst hspot
    have hv0' : w.cell? ⟨b, off, none⟩ = some v0 := by
      have := hv0
      rw [Addr.add_lit, Addr.add_lit] at this
      simpa using this
    refine ⟨b, off, rfl, World.block_lt_of_cell? w _ hv0', fun i hil d j k hj hk => ?_⟩
    have := get i hil d j k hj hk
    rwa [Addr.add_lit, Addr.add_lit] at this
end
end Go.Proofs.YtkdcfijebgeajaaGreat

namespace Go.Proofs.YtkdcfijebgeajaaGreat
open Go.RowKit Go.BigFrame
set_option linter.unusedVariables false
set_option linter.unusedSimpArgs false
def nwN (th sl lo' bu : Nat) : Nat := up8 (40 + bu) + 8 * th + up8 lo' * th + 8 * sl
theorem nw_lines (th sl lo' bu : Nat) : nwN th sl lo' bu = 8 * (5 + (bu + 7) / 8 + th + th * ((lo' + 7) / 8) + sl) := by
  unfold nwN up8
  have e : (lo' + 7) / 8 * 8 * th = 8 * (th * ((lo' + 7) / 8)) := by
    rw [Nat.mul_comm ((lo' + 7) / 8) 8, Nat.mul_assoc, Nat.mul_comm ((lo' + 7) / 8) th]
  rw [e]
  generalize th * ((lo' + 7) / 8) = x
  omega
theorem nw_ln (th sl lo' bu : Nat) : ((nwN th sl lo' bu : Nat) : Int) = (⟨th, sl, lo', bu⟩ : Cfg).lv.ln * 8 := by
  rw [nw_lines]
  show _ = (5 + linesI (bu : Int) + (th : Int) + (th : Int) * linesI (lo' : Int) + (sl : Int)) * 8
  have e1 : linesI (bu : Int) = (((bu + 7) / 8 : Nat) : Int) := by unfold linesI; omega
  have e2 : linesI (lo' : Int) = (((lo' + 7) / 8 : Nat) : Int) := by unfold linesI; omega
  rw [e1, e2, ← Int.natCast_mul]
  generalize th * ((lo' + 7) / 8) = x
  generalize (bu + 7) / 8 = y
  omega
end Go.Proofs.YtkdcfijebgeajaaGreat

namespace Go.Proofs.YtkdcfijebgeajaaGreat
open Go.RowKit Go.BigFrame
set_option linter.unusedVariables false
set_option linter.unusedSimpArgs false
theorem device11 (M : Mv) (W : World) (h : MemAt W M) : Calls Tryz.prog 30 #[.pointer (some ⟨M.m, 0, none⟩)] W (Says (.pointer (some ⟨M.d, 0, none⟩)) W) := by
  have q0 := cell_row h.row 0 _ rfl
  clear h
  go_enter Tryz.func30, Tryz.ntmps30
  go_wp2_with fail
  go_ret
  exact ⟨rfl, rfl⟩
end Go.Proofs.YtkdcfijebgeajaaGreat
