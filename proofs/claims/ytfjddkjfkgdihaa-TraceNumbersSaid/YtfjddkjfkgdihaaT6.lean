/- Walk of the law TraceNumbers. -/
import Derived.Test.YtfjddkjfkgdihaaT5
namespace Go.Proofs.Ytfjddkjfkgdihaa
open Go.RowKit Go.BigFrame
set_option linter.unusedVariables false

theorem numbers_long (n k : Int) (a : Option Addr) (len cap : Nat) (hl : 100 < len) (hc : len ≤ 9223372036854775807) (w : World) :
    Calls Try.prog 7 #[.int .u64 n, .int .i64 k, .slice a len cap] w (AwakeTo w) := by
  go_enter Try.func7, Try.ntmps7
  go_wp2_with (go_at_call 25; refine (awake37_any _).mono ?_; rintro e w' ⟨rfl, hb⟩)
  go_ret
  exact ⟨rfl, hb⟩

/-- The cells of what came in. -/
def MoreAt (w : World) (a : Option Addr) (len : Nat) (z : Nat → Int) : Prop :=
  ∀ i, i < len → ∃ b off, a = some ⟨b, off, none⟩ ∧ b < w.heap.size ∧ w.cell? ⟨b, off + i, none⟩ = some (.int .u8 (z i)) ∧ 0 ≤ z i ∧ z i ≤ 255

/-- What is owned stays owned where all that was there is as it was. -/
theorem ownsRow_below {w w' : World} {base : Nat} {e : TypeId} {size : Nat} {v : Value} {n : Nat} {xs : List Value} (h : w.ownsRow base e size v n xs) (hb : Below w.heap.size w w') : w'.ownsRow base e size v n xs :=
  h.kept (row := none) ⟨hb.os, hb.tape, hb.output, hb.size, fun k hk _ => hb.block k hk⟩ (by cases hv : v.ownBlock <;> simp)

/-- What is read out of the number's bytes with more behind: the number, and what is behind. -/
theorem read_back (n : Nat) (hn : n < 18446744073709551616) (L M : List Int) (hL : numB n = L) (hM : ∀ c ∈ M, 0 ≤ c ∧ c ≤ 255) (a : Option Addr) (len cap : Nat) (w : World) (h : RdB .u8 w.heap.size w a len cap (L ++ M)) :
    ∃ ra rl rc, Calls Try.prog 26 #[.slice a len cap] w (ReadTo n ra rl rc w) ∧ RdB .u8 w.heap.size w ra rl rc M := by
  obtain ⟨h1, h2, h3, -, h5⟩ := h
  have hLp : 1 ≤ L.length := by rw [← hL]; exact List.length_pos_iff.2 (numB_ne n)
  rw [List.length_append] at h1
  rcases h5 with h5 | ⟨b, off, rfl, hb, hc⟩
  · omega
  let z : Nat → Int := fun i => (L ++ M).getD i 0
  have hz : ∀ i, 0 ≤ z i ∧ z i ≤ 255 := fun i => by
    by_cases hi : i < (L ++ M).length
    · have hm : z i ∈ L ++ M := by
        simp only [z, List.getD_eq_getElem?_getD, List.getElem?_eq_getElem hi, Option.getD_some]; exact List.getElem_mem hi
      rcases List.mem_append.1 hm with h | h
      · rw [← hL] at h; exact numB_bytes n _ h
      · exact hM _ h
    · simp only [z, List.getD_eq_getElem?_getD, List.getElem?_eq_none (by omega : (L ++ M).length ≤ i), Option.getD_none]; omega
  obtain ⟨hh, hv⟩ := hit_of_numB n hn z len (fun i hi => by
    rw [hL] at hi ⊢; simp only [z, List.getD_eq_getElem?_getD, List.getElem?_append_left hi]) (by rw [hL]; omega)
  rw [hL] at hh hv
  have hy := read_yes b off len cap z L.length w h2 (by unfold maxLen at h3; omega) hc hz hh
  unfold ReadYes cutV at hy
  rw [hv] at hy
  obtain ⟨p1, -⟩ := reads_parts b off len cap z L.length w (by omega) h2 (by unfold maxLen at h3; omega) hb hc _ rfl
  refine ⟨_, _, _, hy, ?_⟩
  have e : (List.range (len - L.length)).map (fun i => z (L.length + i)) = M := by
    apply List.ext_getElem?
    intro i
    by_cases hi : i < M.length
    · simp [z, show i < len - L.length by omega, List.getD_eq_getElem?_getD, List.getElem?_append_right, hi]
    · simp [show len - L.length ≤ i by omega, show M.length ≤ i by omega]
  rw [e] at p1
  exact p1

set_option maxRecDepth 100000 in
theorem numbers_core (n : Nat) (k : Int) (a : Option Addr) (len cap : Nat) (z : Nat → Int) (L M : List Int) (w : World) (hn : n < 18446744073709551616) (hk0 : -9223372036854775808 ≤ k) (hk1 : k ≤ 9223372036854775807) (hl : len ≤ 100) (hlc : len ≤ cap) (hcm : cap ≤ 9223372036854775807)
    (HL : Hid (numB n = L)) (HM : Hid (M = (List.range len).map z)) (HZ : Hid (MoreAt w a len z)) (HR : Hid (RdB .u8 w.heap.size w a len cap M)) :
    Calls Try.prog 7 #[.int .u64 n, .int .i64 k, .slice a len cap] w (AwakeTo w) := by
  obtain ⟨i5, hi, hz0, hz1, hz2⟩ := info_parts info5
  obtain ⟨B, hB⟩ : ∃ B, B = w.heap.size := ⟨_, rfl⟩
  have HB := Lib.hid hB; clear hB
  go_enter Try.func7, Try.ntmps7
  go_wp2_with fail
  refine (number_any n hn _).mono ?_
  rintro e w1 ⟨v, rfl, hbel, hown⟩
  rw [HL.out, ← HB.out] at hown
  rw [← HB.out] at hbel
  obtain ⟨a1, cap1, rfl, hr⟩ := rdB_of_own (k := .u8) hown
  have HBEL := Lib.hid hbel
  have HO := Lib.hid hown
  have HRD := Lib.hid hr
  clear hbel hown hr
  have HLL := Lib.hid (show L.length ≤ 10 by rw [← HL.out]; exact numB_len10 n hn)
  go_wp2_with fail
  have hc1 : (convert 40 9 (.slice a1 L.length cap1)).run Try.prog w1.drew = .ok (.string (strOfNums L)) w1.drew := (HRD.out.below (Below.refl _ _).drew).conv 40 9 5 Try.underlying40 Try.underlying5 Try.underlying9
  have hn' : (n : Int) ≤ 18446744073709551615 := by omega
  go_region_with (go_at_call 27; refine (refNumber_any n hn _).mono ?_; rintro e w2 ⟨v1, rfl, hbel, hown⟩; rw [HL.out] at hown; obtain ⟨a2, cap2, rfl, hr⟩ := rdB_of_own (k := .u8) hown; have hB2 : Below w1.heap.size w1 w2 := (Below.refl _ _).drew.trans hbel; have hc2 : (convert 40 9 (.slice a1 L.length cap1)).run Try.prog w2 = .ok (.string (strOfNums L)) w2 := (HRD.out.below hB2).conv 40 9 5 Try.underlying40 Try.underlying5 Try.underlying9; have hc3 : (convert 40 9 (.slice a2 L.length cap2)).run Try.prog w2 = .ok (.string (strOfNums L)) w2 := hr.conv 40 9 5 Try.underlying40 Try.underlying5 Try.underlying9; have HB2 := Lib.hid hB2; clear hbel hown hr hB2)
  all_goals
    have HO2 := Lib.hid (ownsRow_below HO.out HB2.out)
    have HBE2 : Hid (Below B w w2) := Lib.hid (HBEL.out.trans (HB2.out.mono (by rw [HB.out]; exact HBEL.out.size)))
    go_wp2_with fail
    go_loopw [7, 8] (fun v i wr => ∃ j : Nat, j ≤ len ∧ i = .int .i64 j ∧ Hid (wr.ownsRow B 5 1 v (L.length + j) (u8s (L ++ (List.range j).map z))) ∧ Hid (Below B w wr)) (fun _ i _ => len - (intOf i).toNat)
    case atStart => exact ⟨0, by omega, rfl, by simpa using HO2, HBE2⟩
    case round =>
      obtain ⟨j, hj, rfl, HOW, HBW⟩ := hrel
      have hsz := HBW.out.size
      have hBw : B ≤ wr.heap.size := by rw [HB.out]; exact hsz
      have hll := HLL.out
      by_cases hjl : j < len
      · obtain ⟨b, off, rfl, hb, hc, z0, z1⟩ := HZ.out j hjl
        have hcw := (HBW.out.cell (p := ⟨b, off + j, none⟩) (by rw [HB.out]; exact hb)).trans hc
        have hrs : Hid (u8s (L ++ (List.range (j + 1)).map z) = u8s (L ++ (List.range j).map z) ++ [.int .u8 (z j)]) := Lib.hid (by
          simp [u8s, List.range_succ])
        clear hc
        generalize z j = c at *
        go_wp2_with (at_builtin; refine wpList_push rfl _ _ 40 rfl B 5 i5 (.int .u8 0) 1 1 Try.underlying40 hi hz0 hz1 hz2 rfl (by decide) wr hBw u7 (L.length + j) (u8s (L ++ (List.range j).map z)) rfl HOW.out #[.int .u8 c] 1 1 rfl rfl (by simp [Value.oneCell']) (by unfold maxLen; omega) (by omega) ?_; intro v' w' hown hgr hbel hne)
        have HO' := Lib.hid hown; have HB' := Lib.hid (hbel B w HBW.out (Nat.le_refl _))
        clear hown hgr hbel hne
        go_wp2_with fail
        go_roundw
        case rel => exact ⟨j + 1, by omega, by go_num, Lib.hid (by rw [hrs.out]; exact HO'.out), HB'⟩
        case measure => simp [intOf]; omega
      · obtain rfl : j = len := by omega
        have hown := HOW.out
        rw [← HM.out] at hown
        obtain ⟨a3, cap3, rfl, hr3⟩ := rdB_of_own (k := .u8) hown
        obtain ⟨ra, rl, rc, hcall, hrest⟩ := read_back n hn L M HL.out (by
          rw [HM.out]; intro c hc; obtain ⟨i, hi, rfl⟩ := List.mem_map.1 hc
          obtain ⟨_, _, _, _, _, z0, z1⟩ := HZ.out i (List.mem_range.1 hi); exact ⟨z0, z1⟩) _ _ _ wr hr3
        have HC := Lib.hid hcall
        have HRE := Lib.hid hrest
        have s0 := sgn_lo k
        have s1 := sgn_hi k hk0 hk1
        have u0 := uns_lo n (by omega) hn'
        have q1 := uns_sgn k
        have q2 := sgn_uns n (by omega)
        clear hown hr3 hcall hrest
        go_wp2_with (first | (go_at_call 26; refine HC.out.mono ?_; rintro e w4 ⟨rfl, nd, rfl⟩) | fail)
        refine (awake37_any _).mono ?_
        rintro e w5 ⟨rfl, hb5⟩
        have hb6 : Below wr.heap.size wr w5 := (below_drewN (Below.refl _ _) nd).trans hb5
        have hc5 : (convert 40 9 (.slice ra rl rc)).run Try.prog w5 = .ok (.string (strOfNums M)) w5 := (HRE.out.below hb6).conv 40 9 5 Try.underlying40 Try.underlying5 Try.underlying9
        have hc6 : (convert 40 9 (.slice a j cap)).run Try.prog w5 = .ok (.string (strOfNums M)) w5 := (HR.out.below ((by rw [← HB.out]; exact HBW.out : Below w.heap.size w wr).trans (hb6.mono hsz))).conv 40 9 5 Try.underlying40 Try.underlying5 Try.underlying9
        have HB7 := Lib.hid (HBW.out.trans (hb6.mono hBw))
        clear hb5 hb6
        generalize hsk : sgn k = sk at *
        generalize hun : uns n = un at *
        have C29 : Hid (∀ w, Calls Try.prog 29 #[.int .i64 k] w fun e w' => e = .returned (.int .u64 sk) ∧ w = w') := Lib.hid fun w => by rw [← hsk]; exact signed_any k hk0 hk1 w
        have C30 : Hid (∀ w, Calls Try.prog 30 #[.int .i64 k] w fun e w' => e = .returned (.int .u64 sk) ∧ w = w') := Lib.hid fun w => by rw [← hsk]; exact refSigned_any k hk0 hk1 w
        have C31 : Hid (∀ w, Calls Try.prog 31 #[.int .u64 sk] w fun e w' => e = .returned (.int .i64 k) ∧ w = w') := Lib.hid fun w => by rw [← q1]; exact unsigned_any sk s0 s1 w
        have C31' : Hid (∀ w, Calls Try.prog 31 #[.int .u64 n] w fun e w' => e = .returned (.int .i64 un) ∧ w = w') := Lib.hid fun w => by rw [← hun]; exact unsigned_any n (by omega) hn' w
        have C29' : Hid (∀ w, Calls Try.prog 29 #[.int .i64 un] w fun e w' => e = .returned (.int .u64 n) ∧ w = w') := Lib.hid fun w => by rw [← q2]; exact signed_any un u0.1 u0.2 w
        clear hsk hun q1 q2
        go_wp2_with (first | (go_at_call 29; (first | (with_reducible refine (C29.out _).mono ?_) | (with_reducible refine (C29'.out _).mono ?_)); rintro e w' ⟨rfl, rfl⟩) | (go_at_call 30; refine (C30.out _).mono ?_; rintro e w' ⟨rfl, rfl⟩) | (go_at_call 31; (first | (with_reducible refine (C31.out _).mono ?_) | (with_reducible refine (C31'.out _).mono ?_)); rintro e w' ⟨rfl, rfl⟩))
        go_ret
        exact ⟨rfl, by rw [← HB.out]; exact HB7.out⟩

theorem numbers_law (n k : Int) (a : Option Addr) (len cap : Nat) (z : Nat → Int) (w : World) (wn : (Lit.int .u64 n).wf = true) (wk : (Lit.int .i64 k).wf = true) (hz : IntsAt .u8 w a len cap z) :
    Calls Try.prog 7 #[.int .u64 n, .int .i64 k, .slice a len cap] w (AwakeTo w) := by
  have bn := bounds_u64 wn
  have bk := bounds_i64 wk
  have hr := rdB_of_ints hz
  obtain ⟨h1, h2, h3⟩ := hz
  unfold maxLen at h2
  by_cases hl : 100 < len
  · exact numbers_long n k a len cap hl (by omega) w
  · obtain ⟨m, rfl⟩ := Int.eq_ofNat_of_zero_le (show 0 ≤ n by omega)
    exact numbers_core m k a len cap z _ _ w (by omega) (by omega) (by omega) (by omega) h1 (by omega) rfl rfl (fun i hi => by
      obtain ⟨b, off, e, hb, hc, hw⟩ := h3 i hi
      have := bounds_u8 hw
      exact ⟨b, off, e, hb, hc, by omega, by omega⟩) hr
end Go.Proofs.Ytfjddkjfkgdihaa
