/- Walks of the library's stable sort: ranges swapped, rotation, insertion. -/
import Derived.Test.YtfjddkjfkgdihaaF2
namespace Go.Proofs.Ytfjddkjfkgdihaa
open Go.RowKit Go.BigFrame
set_option linter.unusedVariables false
set_option linter.unusedSimpArgs false

def DataTo (W : World) (g off n : Nat) (D : Nat → Nat) (e : Ending) (w' : World) : Prop := e = .returned (.tuple #[]) ∧ DataAt W w' g off n D

set_option maxRecDepth 100000 in
theorem swr94 (g off n cap a b m : Nat) (D : Nat → Nat) (fv : Value) (W w : World) (h : DataAt W w g off n D) (hn : n ≤ 1000000) (hd : a + m ≤ b) (hb : b + m ≤ n) :
    Calls Try.prog 94 #[.slice (some ⟨g, off, none⟩) n cap, .int .i64 a, .int .i64 b, .int .i64 m, fv] w (DataTo W g off n (swR D a b m)) := by
  go_enter Try.func94, Try.ntmps94
  go_wp2_with fail
  go_loopw [10] (fun i wr => ∃ j : Nat, j ≤ m ∧ i = .int .i64 j ∧ Hid (DataAt W wr g off n (swR D a b j))) (fun i _ => m - (intOf i).toNat)
  case atStart => exact ⟨0, Nat.zero_le _, rfl, Lib.hid (by rw [swR_zero]; exact h)⟩
  case round =>
    clear h
    obtain ⟨j, hj, rfl, HD⟩ := hrel
    by_cases hlt : j < m
    · have HS : Hid (swR D a b (j + 1) = swapD (swR D a b j) (a + j) (b + j)) := Lib.hid (swR_succ D hd hlt)
      obtain ⟨E, hE⟩ : ∃ E, E = swR D a b j := ⟨_, rfl⟩
      rw [← hE] at HD HS
      have hcell := HD.out.cell
      have hfree := HD.out.free
      have w1 : IntKind.i64.wrap ((a : Int) + (j : Int)) = ((a + j : Nat) : Int) := by rw [IntWalk.i64_in _ (by omega)]; omega
      have w2 : IntKind.i64.wrap ((b : Int) + (j : Int)) = ((b + j : Nat) : Int) := by rw [IntWalk.i64_in _ (by omega)]; omega
      have j0 : (0 : Int) ≤ ((a + j : Nat) : Int) := by omega
      have j1 : ((a + j : Nat) : Int) < (n : Int) := by omega
      have j2 : (0 : Int) ≤ ((b + j : Nat) : Int) := by omega
      have j3 : ((b + j : Nat) : Int) < (n : Int) := by omega
      have hne : a + j ≠ b + j := by omega
      clear hE
      go_wp2_with fail
      go_region
      all_goals
        go_wp2_with fail
        go_roundw
        case rel => exact ⟨j + 1, by omega, by go_num, Lib.hid (by rw [HS.out]; exact HD.out.swap _ _ 1 (by omega) (by omega) hne)⟩
        case measure => simp [intOf]; omega
    · obtain rfl : j = m := by omega
      go_wp2_with fail
      go_end0
      exact ⟨rfl, HD.out⟩

set_option maxRecDepth 100000 in
theorem rot93 (g off n cap a m b : Nat) (D : Nat → Nat) (fv : Value) (W w : World) (h : DataAt W w g off n D) (hn : n ≤ 1000000) (h1 : a < m) (h2 : m < b) (h3 : b ≤ n) :
    Calls Try.prog 93 #[.slice (some ⟨g, off, none⟩) n cap, .int .i64 a, .int .i64 m, .int .i64 b, fv] w (DataTo W g off n (rotF D a m b)) := by
  have w1 : IntKind.i64.wrap ((m : Int) - (a : Int)) = ((m - a : Nat) : Int) := by rw [IntWalk.i64_in _ (by omega)]; omega
  have w2 : IntKind.i64.wrap ((b : Int) - (m : Int)) = ((b - m : Nat) : Int) := by rw [IntWalk.i64_in _ (by omega)]; omega
  go_enter Try.func93, Try.ntmps93
  go_wp2_with fail
  go_loopw [10, 11] (fun vi vj wr => ∃ i j : Nat, vi = .int .i64 i ∧ vj = .int .i64 j ∧ 1 ≤ i ∧ 1 ≤ j ∧ i ≤ m ∧ m + j ≤ n ∧ ∃ E, Hid (DataAt W wr g off n E) ∧ Hid (rotF E (m - i) m (m + j) = rotF D a m b)) (fun vi vj _ => (intOf vi).toNat + (intOf vj).toNat)
  case atStart => exact ⟨m - a, b - m, rfl, rfl, by omega, by omega, by omega, by omega, D, Lib.hid h, Lib.hid (by rw [show m - (m - a) = a by omega, show m + (b - m) = b by omega])⟩
  case round =>
    clear h w1 w2
    obtain ⟨i, j, rfl, rfl, i1, j1, him, hjn, E, HD, HR⟩ := hrel
    have w3 : IntKind.i64.wrap ((m : Int) - (i : Int)) = ((m - i : Nat) : Int) := by rw [IntWalk.i64_in _ (by omega)]; omega
    have w4 : IntKind.i64.wrap ((m : Int) + (j : Int)) = ((m + j : Nat) : Int) := by rw [IntWalk.i64_in _ (by omega)]; omega
    have w5 : IntKind.i64.wrap (((m + j : Nat) : Int) - (i : Int)) = ((m + j - i : Nat) : Int) := by rw [IntWalk.i64_in _ (by omega)]; omega
    by_cases hij : i = j
    · subst hij
      have HC := Lib.hid (swr94 g off n cap (m - i) m i E fv W wr HD.out hn (by omega) (by omega))
      go_wp2_with fail
      refine HC.out.mono ?_
      rintro e w2 ⟨rfl, hd⟩
      have HD2 : Hid (DataAt W w2 g off n (rotF D a m b)) := Lib.hid (by rw [← HR.out, ← rot_end E (show m - i + i = m by omega)]; exact hd)
      clear hd
      go_wp2_with fail
      go_end0
      exact ⟨rfl, HD2.out⟩
    · have b1 : ((i : Int) != (j : Int)) = true := by simp; omega
      have b2 : ((i : Int) == (j : Int)) = false := by simp; omega
      by_cases hlt : j < i
      · have HC := Lib.hid (swr94 g off n cap (m - i) m j E fv W wr HD.out hn (by omega) (by omega))
        have w6 : IntKind.i64.wrap ((i : Int) - (j : Int)) = ((i - j : Nat) : Int) := by rw [IntWalk.i64_in _ (by omega)]; omega
        go_wp2_with fail
        refine HC.out.mono ?_
        rintro e w2 ⟨rfl, hd⟩
        have HD2 := Lib.hid hd
        clear hd
        go_wp2_with fail
        go_roundw
        case rel => exact ⟨i - j, j, by go_num, rfl, by omega, j1, by omega, hjn, _, HD2, Lib.hid (by rw [← HR.out, show m - (i - j) = m - i + j by omega]; exact rot_left E (by omega))⟩
        case measure => simp [intOf]; omega
      · have HC := Lib.hid (by have := swr94 g off n cap (m - i) (m + j - i) i E fv W wr HD.out hn (by omega) (by omega); rw [show ((m + j - i : Nat) : Int) = (m : Int) + (j : Int) - (i : Int) from by omega] at this; exact this)
        have w6 : IntKind.i64.wrap ((j : Int) - (i : Int)) = ((j - i : Nat) : Int) := by rw [IntWalk.i64_in _ (by omega)]; omega
        go_wp2_with fail
        with_reducible refine HC.out.mono ?_
        rintro e w2 ⟨rfl, hd⟩
        have HD2 := Lib.hid hd
        clear hd
        go_wp2_with fail
        go_roundw
        case rel => exact ⟨i, j - i, rfl, by go_num, i1, by omega, him, by omega, _, HD2, Lib.hid (by rw [← HR.out]; exact rot_right E (show m - i + i = m by omega) (by omega))⟩
        case measure => simp [intOf]; omega

def SrtTo (W : World) (g off n : Nat) (z : Nat → Int) (D : Nat → Nat) (a b : Nat) (e : Ending) (w' : World) : Prop := e = .returned (.tuple #[]) ∧ ∃ D', DataAt W w' g off n D' ∧ Merged z D D' a b

set_option maxRecDepth 100000 in
set_option maxHeartbeats 1000000 in
theorem ins91 (g off n cap a b q bw ow lw cw : Nat) (z : Nat → Int) (D : Nat → Nat) (W w : World) (h : DataAt W w g off n D) (he : EnvOut W g q bw ow lw cw z) (hl : ∀ t, t < n → D t < lw) (hn : n ≤ 1000000) (hab : a ≤ b) (hb : b ≤ n) (hA : AscOn D a b) :
    Calls Try.prog 91 #[.slice (some ⟨g, off, none⟩) n cap, .int .i64 a, .int .i64 b, .func (.func 76) #[] #[.pointer (some ⟨q, 0, none⟩)]] w (SrtTo W g off n z D a b) := by
  have HE := Lib.hid he
  have HA := Lib.hid hA
  have HL := Lib.hid hl
  clear he hA hl
  go_enter Try.func91, Try.ntmps91
  go_wp2_with fail
  go_loopw [8] (fun vi wr => ∃ i : Nat, vi = .int .i64 i ∧ a < i ∧ i ≤ b + 1 ∧ ∃ E, Hid (DataAt W wr g off n E) ∧ Hid (Same D E a (min i b)) ∧ Hid (SrtOn z E a (min i b))) (fun vi _ => b + 1 - (intOf vi).toNat)
  case atStart =>
    refine ⟨a + 1, by go_num, by omega, by omega, D, Lib.hid h, Lib.hid (Same.refl _ _ _), Lib.hid fun p q h1 h2 h3 => ?_⟩
    omega
  case round =>
    clear h
    obtain ⟨i, rfl, hai, hib, E, HD, HS, HO⟩ := hrel
    by_cases hlt : i < b
    · have hmin : min i b = i := by omega
      rw [hmin] at HS HO
      go_wp2_with fail
      go_loopw [9] (fun vj wr => ∃ j : Nat, vj = .int .i64 j ∧ a ≤ j ∧ j ≤ i ∧ ∃ E, Hid (DataAt W wr g off n E) ∧ Hid (InsIn z D a i j E)) (fun vj _ => (intOf vj).toNat)
      case atStart => exact ⟨i, rfl, by omega, Nat.le_refl _, E, HD, Lib.hid (InsIn.start HA.out HS.out HO.out (by omega) hlt)⟩
      case round =>
        clear HD HS HO
        obtain ⟨j, rfl, haj, hji, F, HD, HI⟩ := hrel
        have HOUT : Hid ((j = a ∨ ¬ z (F (j - 1)) < z (F j)) → SrtOn z F a (i + 1)) := Lib.hid fun hc => HI.out.stop haj hji hc
        have HSM := Lib.hid HI.out.same
        have hmin2 : min (i + 1) b = i + 1 := by omega
        by_cases hja : a < j
        · have HGO : Hid (z (F (j - 1)) < z (F j) → InsIn z D a i (j - 1) (swapD F j (j - 1))) := Lib.hid fun hc => HI.out.go hja hji hc
          have hvl : ∀ t, t < n → F t < lw := fun t ht => by
            by_cases hh : a ≤ t ∧ t < i + 1
            · obtain ⟨r, h1, h2, e⟩ := HI.out.same.into t hh.1 hh.2
              rw [e]; exact HL.out r (by omega)
            · rw [HI.out.same.out t (by omega)]; exact HL.out t ht
          have c1 := hvl j (by omega)
          have c2 := hvl (j - 1) (by omega)
          clear hvl HI
          have hcell := HD.out.cell
          have hfree := HD.out.free
          have w1 : IntKind.i64.wrap ((j : Int) - 1) = ((j - 1 : Nat) : Int) := by rw [IntWalk.i64_in _ (by omega)]; omega
          have j0 : (0 : Int) ≤ ((j - 1 : Nat) : Int) := by omega
          have j1 : ((j - 1 : Nat) : Int) < (n : Int) := by omega
          have j2 : (0 : Int) ≤ (j : Int) := by omega
          have j3 : (j : Int) < (n : Int) := by omega
          have ja : (a : Int) < (j : Int) := by omega
          have HCMP : Hid (∀ k, Calls Try.prog 76 #[.int .i64 (F j), .int .i64 (F (j - 1)), .pointer (some ⟨q, 0, none⟩)] (wr.drewN k) fun e w' => e = .returned (.int .i64 (cmpv (z (F (j - 1))) (z (F j)))) ∧ ∃ m, w' = (wr.drewN k).drewN m) := Lib.hid fun k => cmp76 _ _ q bw ow lw cw z _ (HE.out.at_ (HD.out.drewN k).but) c1 c2
          by_cases hc : z (F (j - 1)) < z (F j)
          · have d1 : decide (cmpv (z (F (j - 1))) (z (F j)) < 0) = true := by rw [cmpv_neg]; simpa using hc
            have HGO2 := Lib.hid (HGO.out hc)
            clear HGO HOUT hc
            go_wp2_with fail
            go_quiet (first | (go_at_call 76; refine Calls.quiet_of (HCMP.out _)))
            clear HCMP d1
            go_wp2_with fail
            go_region
            all_goals
              go_wp2_with fail
              go_roundw
              case rel => exact ⟨j - 1, rfl, by omega, by omega, _, Lib.hid (HD.out.swap j (j - 1) (nq + 1) (by omega) (by omega) (by omega)), HGO2⟩
              case measure => simp [intOf]; omega
          · have d1 : decide (cmpv (z (F (j - 1))) (z (F j)) < 0) = false := by rw [cmpv_neg]; simpa using hc
            have HST := Lib.hid (HOUT.out (.inr hc))
            clear HGO HOUT hc
            go_wp2_with fail
            go_quiet (first | (go_at_call 76; refine Calls.quiet_of (HCMP.out _)))
            clear HCMP d1
            go_wp2_with fail
            go_roundw
            case rel => exact ⟨i + 1, by go_num, by omega, by omega, F, Lib.hid (HD.out.drewN _), by rw [hmin2]; exact HSM, by rw [hmin2]; exact HST⟩
            case measure => simp [intOf]; omega
        · obtain rfl : j = a := by omega
          have d0 : decide ((j : Int) < (j : Int)) = false := by simp
          have HST := Lib.hid (HOUT.out (.inl rfl))
          clear HOUT HI
          go_wp2_with fail
          go_quiet (fail)
          go_wp2_with fail
          go_roundw
          case rel => exact ⟨i + 1, by go_num, by omega, by omega, F, Lib.hid (HD.out.drewN _), by rw [hmin2]; exact HSM, by rw [hmin2]; exact HST⟩
          case measure => simp [intOf]; omega
    · have hmin : min i b = b := by omega
      rw [hmin] at HS HO
      go_wp2_with fail
      go_end0
      exact ⟨rfl, E, HD.out, HO.out, HS.out⟩
end Go.Proofs.Ytfjddkjfkgdihaa
