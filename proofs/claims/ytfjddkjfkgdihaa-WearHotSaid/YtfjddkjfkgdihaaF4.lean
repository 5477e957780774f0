/- Walks of the library's stable sort: one element merged into a run. -/
import Derived.Test.YtfjddkjfkgdihaaF3
namespace Go.Proofs.Ytfjddkjfkgdihaa
open Go.RowKit Go.BigFrame
set_option linter.unusedVariables false
set_option linter.unusedSimpArgs false

theorem rot_next (D : Nat → Nat) {a k : Nat} (h : a ≤ k) : swapD (rotF D a (a + 1) (k + 1)) k (k + 1) = rotF D a (a + 1) (k + 2) := by
  funext t
  unfold swapD rotF
  by_cases e1 : t = k
  · subst e1
    rw [if_pos rfl, if_neg (by omega), if_neg (by omega), if_pos (by omega)]; congr 1; omega
  · rw [if_neg e1]
    by_cases e2 : t = k + 1
    · subst e2
      rw [if_pos rfl, if_neg (by omega), if_pos (by omega), if_neg (by omega), if_pos (by omega)]; congr 1; omega
    · rw [if_neg e2]
      by_cases e3 : a ≤ t ∧ t < k
      · rw [if_pos (by omega), if_pos (by omega)]
      · rw [if_neg (by omega), if_neg (by omega), if_neg (by omega), if_neg (by omega)]
theorem rot_prev (D : Nat → Nat) {m k : Nat} (h : k < m) : swapD (rotF D (k + 1) m (m + 1)) (k + 1) k = rotF D k m (m + 1) := by
  funext t
  unfold swapD rotF
  by_cases e1 : t = k + 1
  · subst e1
    rw [if_pos rfl, if_neg (by omega), if_neg (by omega), if_neg (by omega), if_pos (by omega)]; congr 1; omega
  · rw [if_neg e1]
    by_cases e2 : t = k
    · subst e2
      rw [if_pos rfl, if_pos (by omega), if_pos (by omega)]; congr 1; omega
    · rw [if_neg e2]
      by_cases e3 : k + 1 < t ∧ t ≤ m
      · rw [if_neg (by omega), if_pos (by omega), if_neg (by omega), if_pos (by omega)]
      · rw [if_neg (by omega), if_neg (by omega), if_neg (by omega), if_neg (by omega)]

set_option maxRecDepth 100000 in
set_option maxHeartbeats 1000000 in
theorem sym_one (g off n cap a b q bw ow lw cw : Nat) (z : Nat → Int) (D : Nat → Nat) (W w : World) (h : DataAt W w g off n D) (he : EnvOut W g q bw ow lw cw z) (hl : ∀ t, t < n → D t < lw) (hn : n ≤ 1000000) (hb : b ≤ n) (hab : a + 1 < b) (hr : Runs z D a (a + 1) b) :
    Calls Try.prog 92 #[.slice (some ⟨g, off, none⟩) n cap, .int .i64 a, .int .i64 ((a + 1 : Nat) : Int), .int .i64 b, .func (.func 76) #[] #[.pointer (some ⟨q, 0, none⟩)]] w (SrtTo W g off n z D a b) := by
  have HE := Lib.hid he
  have HR := Lib.hid hr
  have HL := Lib.hid hl
  obtain ⟨m, hm⟩ : ∃ m, m = a + 1 := ⟨_, rfl⟩
  rw [← hm]
  have w1 : IntKind.i64.wrap ((m : Int) - (a : Int)) = 1 := by rw [IntWalk.i64_in _ (by omega)]; omega
  have HM := Lib.hid hm
  have ham : a < m := by omega
  have hmb : m < b := by omega
  clear he hr hl hm hab
  go_enter Try.func92, Try.ntmps92
  go_wp2_with fail
  go_loopw [10, 11] (fun vi vj wr => ∃ i j : Nat, vi = .int .i64 i ∧ vj = .int .i64 j ∧ m ≤ i ∧ i ≤ j ∧ j ≤ b ∧ Hid (DataAt W wr g off n D) ∧ Hid (∀ k, m ≤ k → k < i → z (D a) < z (D k)) ∧ Hid (∀ k, j ≤ k → k < b → z (D k) ≤ z (D a))) (fun vi vj _ => (intOf vj - intOf vi).toNat)
  case atStart => exact ⟨m, b, rfl, rfl, Nat.le_refl _, by omega, Nat.le_refl _, Lib.hid h, Lib.hid (fun k h1 h2 => by omega), Lib.hid (fun k h1 h2 => by omega)⟩
  case round =>
    clear h w1
    obtain ⟨i, j, rfl, rfl, hmi, hij, hjb, HD, HLO, HHI⟩ := hrel
    by_cases hlt : i < j
    · have w2 : IntKind.i64.wrap ((i : Int) + (j : Int)) = (i : Int) + (j : Int) := IntWalk.i64_in _ (by omega)
      obtain ⟨h, hh⟩ : ∃ h, h = (i + j) / 2 := ⟨_, rfl⟩
      have eh : ((i : Int) + (j : Int)) / 2 = (h : Int) := by omega
      have h1 : i ≤ h := by omega
      have h2 : h < j := by omega
      clear hh
      have hcell := HD.out.cell
      have c1 := HL.out h (by omega)
      have c2 := HL.out a (by omega)
      have j0 : (0 : Int) ≤ (h : Int) := by omega
      have j1 : (h : Int) < (n : Int) := by omega
      have j2 : (0 : Int) ≤ (a : Int) := by omega
      have j3 : (a : Int) < (n : Int) := by omega
      have HCMP : Hid (∀ k, Calls Try.prog 76 #[.int .i64 (D h), .int .i64 (D a), .pointer (some ⟨q, 0, none⟩)] (wr.drewN k) fun e w' => e = .returned (.int .i64 (cmpv (z (D a)) (z (D h)))) ∧ ∃ m, w' = (wr.drewN k).drewN m) := Lib.hid fun k => cmp76 _ _ q bw ow lw cw z _ (HE.out.at_ (HD.out.drewN k).but) c1 c2
      have hmono : Hid (∀ k, m ≤ k → k ≤ h → z (D h) ≤ z (D k)) := Lib.hid fun k g1 g2 => srt_le HR.out.right (by have := HM.out; omega) g2 (by omega)
      have hmono2 : Hid (∀ k, h ≤ k → k < b → z (D k) ≤ z (D h)) := Lib.hid fun k g1 g2 => srt_le HR.out.right (by have := HM.out; omega) g1 g2
      by_cases hc : z (D a) < z (D h)
      · have d1 : decide (cmpv (z (D a)) (z (D h)) < 0) = true := by rw [cmpv_neg]; simpa using hc
        have HLO2 : Hid (∀ k, m ≤ k → k < h + 1 → z (D a) < z (D k)) := Lib.hid fun k g1 g2 => by have := hmono.out k g1 (by omega); omega
        clear hc
        go_wp2_with fail
        go_quiet (first | (go_at_call 76; refine Calls.quiet_of (HCMP.out _)))
        clear HCMP d1
        go_wp2_with fail
        go_roundw
        case rel => exact ⟨h + 1, j, by go_num, rfl, by omega, by omega, hjb, Lib.hid (HD.out.drewN _), HLO2, HHI⟩
        case measure => simp [intOf]; omega
      · have d1 : decide (cmpv (z (D a)) (z (D h)) < 0) = false := by rw [cmpv_neg]; simpa using hc
        have HHI2 : Hid (∀ k, h ≤ k → k < b → z (D k) ≤ z (D a)) := Lib.hid fun k g1 g2 => by have := hmono2.out k g1 g2; omega
        clear hc
        go_wp2_with fail
        go_quiet (first | (go_at_call 76; refine Calls.quiet_of (HCMP.out _)))
        clear HCMP d1
        go_wp2_with fail
        go_roundw
        case rel => exact ⟨i, h, rfl, rfl, hmi, by omega, by omega, Lib.hid (HD.out.drewN _), HLO, HHI2⟩
        case measure => simp [intOf]; omega
    · obtain rfl : i = j := by omega
      have HMG : Hid (Merged z D (rotF D a (a + 1) i) a b) := Lib.hid (merge_one HR.out (by have := HM.out; omega) hjb (fun k g1 g2 => HLO.out k (by have := HM.out; omega) g2) (fun k g1 g2 => by have := HHI.out k g1 g2; omega))
      have w2 : IntKind.i64.wrap ((i : Int) - 1) = (i : Int) - 1 := IntWalk.i64_in _ (by omega)
      clear HLO HHI
      go_wp2_with fail
      go_loopw [13] (fun vk wr => ∃ k : Nat, vk = .int .i64 k ∧ a ≤ k ∧ k + 1 ≤ i ∧ Hid (DataAt W wr g off n (rotF D a (a + 1) (k + 1)))) (fun vk _ => i - (intOf vk).toNat)
      case atStart => exact ⟨a, rfl, Nat.le_refl _, by omega, Lib.hid (by rw [rot_none D (by omega) (Nat.le_refl _) (.inr rfl)]; exact HD.out)⟩
      case round =>
        clear HD
        obtain ⟨k, rfl, hak, hki, HD⟩ := hrel
        by_cases hlk : k + 1 < i
        · have HN : Hid (swapD (rotF D a (a + 1) (k + 1)) k (k + 1) = rotF D a (a + 1) (k + 1 + 1)) := Lib.hid (rot_next D hak)
          generalize rotF D a (a + 1) (k + 1) = F at *
          have hcell := HD.out.cell
          have hfree := HD.out.free
          have b1 : decide ((k : Int) < (i : Int) - 1) = true := by simp; omega
          have b2 : (k : Int) < (i : Int) - 1 := by omega
          have w3 : IntKind.i64.wrap ((k : Int) + 1) = ((k + 1 : Nat) : Int) := by rw [IntWalk.i64_in _ (by omega)]; omega
          have j0 : (0 : Int) ≤ (k : Int) := by omega
          have j1 : (k : Int) < (n : Int) := by omega
          have j2 : (0 : Int) ≤ ((k + 1 : Nat) : Int) := by omega
          have j3 : ((k + 1 : Nat) : Int) < (n : Int) := by omega
          go_wp2_with fail
          go_region
          all_goals
            go_wp2_with fail
            go_roundw
            case rel => exact ⟨k + 1, by go_num, by omega, by omega, Lib.hid (by rw [← HN.out]; exact HD.out.swap k (k + 1) 1 (by omega) (by omega) (by omega))⟩
            case measure => simp [intOf]; omega
        · obtain rfl : k + 1 = i := by omega
          have b1 : decide ((k : Int) < ((k + 1 : Nat) : Int) - 1) = false := by simp
          have b2 : ¬ (k : Int) < ((k + 1 : Nat) : Int) - 1 := by omega
          go_wp2_with fail
          go_end0
          exact ⟨rfl, _, HD.out, HMG.out⟩
end Go.Proofs.Ytfjddkjfkgdihaa
