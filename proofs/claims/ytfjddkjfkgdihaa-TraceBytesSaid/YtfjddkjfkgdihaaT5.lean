/- Walk of the law TraceReads where no number stands. -/
import Derived.Test.YtfjddkjfkgdihaaT4
import Derived.Deep.RegionWith
namespace Go.Proofs.Ytfjddkjfkgdihaa
open Go.RowKit Go.BigFrame
set_option linter.unusedVariables false

theorem u64_le (x : Int) : IntKind.u64.wrap x ≤ 18446744073709551615 := by simp only [IntKind.wrap_u64]; omega
theorem reads_nil (a : Option Addr) (cap : Nat) (w : World) : Calls Try.prog 6 #[.slice a 0 cap] w (AwakeTo w) := by
  go_enter Try.func6, Try.ntmps6
  go_wp2_with (first | (go_at_call 26; refine (read_nil _ _ _).mono ?_; rintro e w1 ⟨rfl, rfl⟩) | fail)
  go_loop [7] (fun i => i = .int .i64 1) (fun _ => 0)
  case atStart => rfl
  case round =>
    obtain rfl := hrel
    go_wp2_with (first | (go_at_call 25; refine (awake37_any _).mono ?_; rintro e w1 ⟨rfl, hb⟩) | fail)
    go_ret
    exact ⟨rfl, hb⟩

set_option maxRecDepth 100000 in
theorem reads_no (bl off len cap : Nat) (z : Nat → Int) (w : World) (l1 : 1 ≤ len) (hl : len ≤ 100) (hlc : len ≤ cap) (hcm : cap ≤ 9223372036854775807) (hbl : bl < w.heap.size) (hz : ∀ i, i < len → w.cell? ⟨bl, off + i, none⟩ = some (.int .u8 (z i)))
    (hb : ∀ i, 0 ≤ z i ∧ z i ≤ 255) (hh : ∀ k, ¬ Hit z len k) : Calls Try.prog 6 #[.slice (some ⟨bl, off, none⟩) len cap] w (AwakeTo w) := by
  have HY := Lib.hid (read_no bl off len cap z w l1 hlc hcm hz hb hh)
  have HZ := Lib.hid hz
  have HBY := Lib.hid hb
  have HH := Lib.hid hh
  have HBL := Lib.hid hbl
  clear hz hb hh hbl
  go_enter Try.func6, Try.ntmps6
  go_wp2_with (first | (go_at_call 26; refine HY.out.mono ?_; rintro e w1 ⟨rfl, rfl⟩) | fail)
  go_loopw [7] (fun i wr => ∃ k : Nat, 1 ≤ k ∧ k ≤ 11 ∧ k ≤ len + 1 ∧ i = .int .i64 k ∧ Hid (Below w.heap.size w wr)) (fun i _ => 11 - (intOf i).toNat)
  case atStart => exact ⟨1, by omega, by omega, by omega, rfl, Below.refl _ _⟩
  case round =>
    obtain ⟨k, k1, k2, k3, rfl, HBE⟩ := hrel
    by_cases hk : k ≤ len
    · by_cases hk10 : k ≤ 10
      · go_wp2_with fail
        go_loop [8, 9, 10] (fun x u i => ∃ (j : Nat) (s t : Int), j ≤ k ∧ i = .int .i64 j ∧ x = .int .u64 s ∧ u = .int .u64 t ∧ 0 ≤ s ∧ s ≤ 18446744073709551615 ∧ Hid (s = vs z j % 18446744073709551616) ∧ Hid (j ≤ 9 → t = 128 ^ j)) (fun _ _ i => k - (intOf i).toNat)
        case atStart => exact ⟨0, 0, 1, by omega, rfl, rfl, rfl, by omega, by omega, Lib.hid rfl, Lib.hid fun _ => rfl⟩
        case round =>
          obtain ⟨j, s, t, hj, rfl, rfl, rfl, s0, s1, HS, HT⟩ := hrel
          by_cases hjk : j < k
          · have hc := (HBE.out.cell (p := ⟨bl, off + j, none⟩) HBL.out).trans (HZ.out j (by omega))
            obtain ⟨c0, c1⟩ := HBY.out j
            have hs := Lib.hid fun e => add_step z j s t HS.out (HT.out e)
            have ht := Lib.hid fun e => mul_step j t e (HT.out (by omega))
            have w0 := wrap_u64_nonneg (s + IntKind.u64.wrap (z j % 128 * t))
            have w1 := u64_le (s + IntKind.u64.wrap (z j % 128 * t))
            generalize z j = c at *
            go_wp2
            go_round
            case rel => exact ⟨j + 1, _, _, by omega, by go_num, rfl, rfl, w0, w1, Lib.hid (hs.out (by omega)), Lib.hid fun e => ht.out (by omega)⟩
            case measure => simp [intOf]; omega
          · obtain rfl : j = k := by omega
            obtain ⟨n, rfl⟩ := Int.eq_ofNat_of_zero_le s0
            obtain ⟨M, hM⟩ : ∃ M, M = (List.range j).map z := ⟨_, rfl⟩
            have HR : Hid (∀ w, Calls Try.prog 27 #[.int .u64 n] w (NumberTo n w)) := Lib.hid fun w => refNumber_any n (by omega) w
            have hne : ((strOfNums (numB n)).toList == (strOfNums M).toList) = false := by
              rw [beq_eq_false_iff_ne]; intro e
              have := strOfNums_inj _ _ (numB_bytes n) (by rw [hM]; intro c hc; obtain ⟨i, -, rfl⟩ := List.mem_map.1 hc; exact HBY.out i) e
              rw [hM] at this
              exact HH.out j (hit_of_eq n (by omega) z len j hk this)
            have HF : Hid (RdB .u8 w.heap.size w (some ⟨bl, off, none⟩) j cap M) := Lib.hid (by rw [hM]; exact (reads_parts bl off len cap z j w hk hlc hcm HBL.out HZ.out _ rfl).2 cap (by omega) (by unfold maxLen; omega))
            have HBE2 := HBE
            clear hM
            go_wp2_with fail
            have hc0 : (convert 40 9 (.slice (some ⟨bl, off, none⟩) j cap)).run Try.prog wr.drew = .ok (.string (strOfNums M)) wr.drew :=
              (HF.out.below HBE.out.drew).conv 40 9 5 Try.underlying40 Try.underlying5 Try.underlying9
            have j0 : (0 : Int) ≤ (j : Int) := by omega
            have j1 : (j : Int) ≤ (cap : Int) := by omega
            go_region_with (go_at_call 27; refine (HR.out _).mono ?_; rintro e w2 ⟨v1, rfl, hbel, hown⟩; obtain ⟨a1, cap1, rfl, hr⟩ := rdB_of_own (k := .u8) hown; have hB2 := (HBE.out.drew).trans (hbel.mono (HBE.out.drew).size); have hc2 : (convert 40 9 (.slice (some ⟨bl, off, none⟩) j cap)).run Try.prog w2 = .ok (.string (strOfNums M)) w2 := (HF.out.below hB2).conv 40 9 5 Try.underlying40 Try.underlying5 Try.underlying9; have hc3 : (convert 40 9 (.slice a1 (numB n).length cap1)).run Try.prog w2 = .ok (.string (strOfNums (numB n))) w2 := hr.conv 40 9 5 Try.underlying40 Try.underlying5 Try.underlying9; have HB2 := Lib.hid hB2; clear hbel hown hr hB2)
            all_goals
              go_wp2
              go_roundw
              case rel => exact ⟨j + 1, by omega, by omega, by omega, by go_num, HB2⟩
              case measure => simp [intOf]; omega
      · obtain rfl : k = 11 := by omega
        go_wp2_with (first | (go_at_call 25; refine (awake37_any _).mono ?_; rintro e w1 ⟨rfl, hb⟩) | fail)
        go_ret
        exact ⟨rfl, HBE.out.trans (hb.mono HBE.out.size)⟩
    · have hk' : ¬ (k : Int) ≤ (len : Int) := by omega
      go_wp2_with (first | (go_at_call 25; refine (awake37_any _).mono ?_; rintro e w1 ⟨rfl, hb⟩) | fail)
      go_ret
      exact ⟨rfl, HBE.out.trans (hb.mono HBE.out.size)⟩

theorem reads_law (a : Option Addr) (len cap : Nat) (z : Nat → Int) (w : World) (hz : IntsAt .u8 w a len cap z) :
    Calls Try.prog 6 #[.slice a len cap] w (AwakeTo w) := by
  obtain ⟨h1, h2, h3⟩ := hz
  unfold maxLen at h2
  by_cases hl : 100 < len
  · exact reads_long a len cap hl (by omega) w
  · by_cases h0 : len = 0
    · subst h0; exact reads_nil a cap w
    · obtain ⟨b, off, rfl, hb, -, -⟩ := h3 0 (by omega)
      let y : Nat → Int := fun i => if i < len then z i else 0
      have hy : ∀ i, i < len → w.cell? ⟨b, off + i, none⟩ = some (.int .u8 (y i)) := fun i hi => by
        obtain ⟨b', off', e, -, hc, -⟩ := h3 i hi
        simp only [Option.some.injEq, Addr.mk.injEq] at e
        obtain ⟨rfl, rfl, -⟩ := e
        rw [hc]; simp [y, hi]
      have hyb : ∀ i, 0 ≤ y i ∧ y i ≤ 255 := fun i => by
        by_cases hi : i < len
        · obtain ⟨b', off', e, -, hc, hw⟩ := h3 i hi
          have := bounds_u8 hw
          simp only [y, hi, if_true]; omega
        · simp [y, hi]
      by_cases hh : ∃ k, Hit y len k
      · obtain ⟨k, hk⟩ := hh
        exact reads_yes b off len cap y k w (by omega) h1 (by omega) hb hy hyb hk
      · exact reads_no b off len cap y w (by omega) (by omega) h1 (by omega) hb hy hyb (fun k hk => hh ⟨k, hk⟩)
end Go.Proofs.Ytfjddkjfkgdihaa
