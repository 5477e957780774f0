/- Walks of the library's stable sort: a run with one element behind it. -/
import Derived.Test.YtfjddkjfkgdihaaF4
namespace Go.Proofs.Ytfjddkjfkgdihaa
open Go.RowKit Go.BigFrame
set_option linter.unusedVariables false
set_option linter.unusedSimpArgs false

set_option maxRecDepth 100000 in
set_option maxHeartbeats 1000000 in
theorem sym_last (g off n cap a m q bw ow lw cw : Nat) (z : Nat → Int) (D : Nat → Nat) (W w : World) (h : DataAt W w g off n D) (he : EnvOut W g q bw ow lw cw z) (hl : ∀ t, t < n → D t < lw) (hn : n ≤ 1000000) (hb : m + 1 ≤ n) (ham : a + 1 < m) (hr : Runs z D a m (m + 1)) :
    Calls Try.prog 92 #[.slice (some ⟨g, off, none⟩) n cap, .int .i64 a, .int .i64 m, .int .i64 ((m + 1 : Nat) : Int), .func (.func 76) #[] #[.pointer (some ⟨q, 0, none⟩)]] w (SrtTo W g off n z D a (m + 1)) := by
  have HE := Lib.hid he
  have HR := Lib.hid hr
  have HL := Lib.hid hl
  have HMG : Hid (∀ i, a ≤ i → i ≤ m → (∀ k, a ≤ k → k < i → z (D m) ≤ z (D k)) → (∀ k, i ≤ k → k < m → z (D k) < z (D m)) → Merged z D (rotF D i m (m + 1)) a (m + 1)) :=
    Lib.hid fun i h1 h2 h3 h4 => merge_last hr h1 h2 (fun k g1 g2 => by have := h3 k g1 g2; omega) h4
  obtain ⟨b, hbm⟩ : ∃ b, b = m + 1 := ⟨_, rfl⟩
  rw [← hbm]
  have w1 : IntKind.i64.wrap ((m : Int) - (a : Int)) = (m : Int) - a := IntWalk.i64_in _ (by omega)
  have b0 : ((m : Int) - (a : Int) == 1) = false := by simp; omega
  have w2 : IntKind.i64.wrap ((b : Int) - (m : Int)) = 1 := by rw [IntWalk.i64_in _ (by omega)]; omega
  have HB := Lib.hid hbm
  clear he hr hl hbm
  go_enter Try.func92, Try.ntmps92
  go_wp2_with fail
  go_loopw [14, 15] (fun vi vj wr => ∃ i j : Nat, vi = .int .i64 i ∧ vj = .int .i64 j ∧ a ≤ i ∧ i ≤ j ∧ j ≤ m ∧ Hid (DataAt W wr g off n D) ∧ Hid (∀ k, a ≤ k → k < i → z (D m) ≤ z (D k)) ∧ Hid (∀ k, j ≤ k → k < m → z (D k) < z (D m))) (fun vi vj _ => (intOf vj - intOf vi).toNat)
  case atStart => exact ⟨a, m, rfl, rfl, Nat.le_refl _, by omega, Nat.le_refl _, Lib.hid h, Lib.hid (fun k h1 h2 => by omega), Lib.hid (fun k h1 h2 => by omega)⟩
  case round =>
    clear h w1 w2 b0
    obtain ⟨i, j, rfl, rfl, hmi, hij, hjb, HD, HLO, HHI⟩ := hrel
    by_cases hlt : i < j
    · have w2 : IntKind.i64.wrap ((i : Int) + (j : Int)) = (i : Int) + (j : Int) := IntWalk.i64_in _ (by omega)
      obtain ⟨h, hh⟩ : ∃ h, h = (i + j) / 2 := ⟨_, rfl⟩
      have eh : ((i : Int) + (j : Int)) / 2 = (h : Int) := by omega
      have h1 : i ≤ h := by omega
      have h2 : h < j := by omega
      clear hh
      have hcell := HD.out.cell
      have c1 := HL.out m (by omega)
      have c2 := HL.out h (by omega)
      have j0 : (0 : Int) ≤ (h : Int) := by omega
      have j1 : (h : Int) < (n : Int) := by omega
      have j2 : (0 : Int) ≤ (m : Int) := by omega
      have j3 : (m : Int) < (n : Int) := by omega
      have HCMP : Hid (∀ k, Calls Try.prog 76 #[.int .i64 (D m), .int .i64 (D h), .pointer (some ⟨q, 0, none⟩)] (wr.drewN k) fun e w' => e = .returned (.int .i64 (cmpv (z (D h)) (z (D m)))) ∧ ∃ m, w' = (wr.drewN k).drewN m) := Lib.hid fun k => cmp76 _ _ q bw ow lw cw z _ (HE.out.at_ (HD.out.drewN k).but) c1 c2
      have hmono : Hid (∀ k, a ≤ k → k ≤ h → z (D h) ≤ z (D k)) := Lib.hid fun k g1 g2 => srt_le HR.out.left g1 g2 (by omega)
      have hmono2 : Hid (∀ k, h ≤ k → k < m → z (D k) ≤ z (D h)) := Lib.hid fun k g1 g2 => srt_le HR.out.left (by omega) g1 g2
      by_cases hc : z (D h) < z (D m)
      · have d1 : decide (cmpv (z (D h)) (z (D m)) < 0) = true := by rw [cmpv_neg]; simpa using hc
        have HHI2 : Hid (∀ k, h ≤ k → k < m → z (D k) < z (D m)) := Lib.hid fun k g1 g2 => by have := hmono2.out k g1 g2; omega
        clear hc
        go_wp2_with fail
        go_quiet (first | (go_at_call 76; refine Calls.quiet_of (HCMP.out _)))
        clear HCMP d1
        go_wp2_with fail
        go_roundw
        case rel => exact ⟨i, h, rfl, rfl, hmi, by omega, by omega, Lib.hid (HD.out.drewN _), HLO, HHI2⟩
        case measure => simp [intOf]; omega
      · have d1 : decide (cmpv (z (D h)) (z (D m)) < 0) = false := by rw [cmpv_neg]; simpa using hc
        have HLO2 : Hid (∀ k, a ≤ k → k < h + 1 → z (D m) ≤ z (D k)) := Lib.hid fun k g1 g2 => by have := hmono.out k g1 (by omega); omega
        clear hc
        go_wp2_with fail
        go_quiet (first | (go_at_call 76; refine Calls.quiet_of (HCMP.out _)))
        clear HCMP d1
        go_wp2_with fail
        go_roundw
        case rel => exact ⟨h + 1, j, by go_num, rfl, by omega, by omega, hjb, Lib.hid (HD.out.drewN _), HLO2, HHI⟩
        case measure => simp [intOf]; omega
    · obtain rfl : i = j := by omega
      have HMG2 := Lib.hid (HMG.out i hmi hjb HLO.out HHI.out)
      rw [← HB.out] at HMG2
      clear HLO HHI HMG
      go_wp2_with fail
      go_loopw [17] (fun vk wr => ∃ k : Nat, vk = .int .i64 k ∧ i ≤ k ∧ k ≤ m ∧ Hid (DataAt W wr g off n (rotF D k m (m + 1)))) (fun vk _ => (intOf vk).toNat)
      case atStart => exact ⟨m, rfl, hjb, Nat.le_refl _, Lib.hid (by rw [rot_none D (Nat.le_refl _) (by omega) (.inl rfl)]; exact HD.out)⟩
      case round =>
        clear HD
        obtain ⟨k, rfl, hak, hki, HD⟩ := hrel
        by_cases hlk : i < k
        · obtain ⟨k, rfl⟩ : ∃ k', k = k' + 1 := ⟨k - 1, by omega⟩
          have HN : Hid (swapD (rotF D (k + 1) m (m + 1)) (k + 1) k = rotF D k m (m + 1)) := Lib.hid (rot_prev D (by omega))
          generalize rotF D (k + 1) m (m + 1) = F at *
          have hcell := HD.out.cell
          have hfree := HD.out.free
          obtain ⟨K, hK⟩ : ∃ K, K = k + 1 := ⟨_, rfl⟩
          rw [← hK] at hlk HN ⊢
          have w3 : IntKind.i64.wrap ((K : Int) - 1) = (k : Int) := by rw [IntWalk.i64_in _ (by omega)]; omega
          have j0 : (0 : Int) ≤ (k : Int) := by omega
          have j1 : (k : Int) < (n : Int) := by omega
          have j2 : (0 : Int) ≤ (K : Int) := by omega
          have j3 : (K : Int) < (n : Int) := by omega
          have j4 : k ≠ K := by omega
          have HKK := Lib.hid hK
          clear hK
          go_wp2_with fail
          go_region
          all_goals
            go_wp2_with fail
            go_roundw
            case rel => exact ⟨k, rfl, by have := HKK.out; omega, by omega, Lib.hid (by rw [← HN.out]; exact HD.out.swap K k 1 (by omega) (by omega) (Ne.symm j4))⟩
            case measure => simp [intOf]; have := HKK.out; omega
        · obtain rfl : k = i := by omega
          go_wp2_with fail
          go_end0
          exact ⟨rfl, _, HD.out, by have h2 := HMG2.out; rw [HB.out] at h2 ⊢; exact h2⟩
end Go.Proofs.Ytfjddkjfkgdihaa
