/- The law TraceBytes walked: which bytes are a trace's. -/
import Derived.Test.YtfjddkjfkgdihaaE16
import Derived.Test.YtfjddkjfkgdihaaE12
namespace Go.Proofs.Ytfjddkjfkgdihaa
open Go.RowKit Go.BigFrame
set_option linter.unusedVariables false
set_option linter.unusedSimpArgs false

theorem bytes_long (a : Option Addr) (len cap : Nat) (w : World) (h : 300 < len) (hm : len ≤ 9223372036854775807) :
    Calls Try.prog 13 #[.slice a len cap] w (TrueOn w) := by
  have g0 : decide ((300 : Int) < (len : Int)) = true := by simp; omega
  go_enter Try.func13, Try.ntmps13
  go_wp2_with (go_at_call 25; refine (awake37_any _).mono ?_; rintro e w' ⟨rfl, hb⟩)
  go_ret
  exact ⟨rfl, hb⟩

set_option maxRecDepth 100000 in
set_option maxHeartbeats 4000000 in
theorem bytes_few (a : Option Addr) (len cap : Nat) (M : List Int) (hl : len ≤ 300) (w : World) (h : RdB .u8 w.heap.size w a len cap M) (hM : ∀ c ∈ M, 0 ≤ c ∧ c ≤ 255) :
    Calls Try.prog 13 #[.slice a len cap] w (TrueOn w) := by
  have H49 := Lib.hid (read_all a len cap M (by omega) w h hM)
  have H52 : Hid (∀ w', Below w.heap.size w w' → Calls Try.prog 52 #[.slice a len cap] w' (RefRdTo M w')) := Lib.hid fun w' hb => refRead_any a len cap M hl w' ((h.below hb).mono hb.size (Nat.le_refl _)) hM
  have HR := Lib.hid h
  have HML := Lib.hid h.1
  have hlc := h.2.1
  have hcm := h.2.2.1
  unfold maxLen at hcm
  clear h hM
  have g0 : decide ((300 : Int) < (len : Int)) = false := by simp; omega
  go_enter Try.func13, Try.ntmps13
  go_wp2_with fail
  refine H49.out.mono ?_
  rintro e w1 ⟨hb1, ⟨c, n, a1, c1, hs, rfl, hacc⟩ | ⟨rfl, hno⟩⟩
  · have HB1 := Lib.hid hb1
    have HS := Lib.hid hs
    have HA := Lib.hid hacc
    have hnl := hs.len
    rw [HML.out] at hnl
    have ha1 := hacc.1
    have ha2 := hacc.2.1
    unfold maxLen at ha2
    clear hb1 hs hacc H49
    go_wp2_with fail
    refine (H52.out _ HB1.out).mono ?_
    rintro e w2 ⟨hb2, ⟨d, m, a2, c2, hs2, rfl, hacc2⟩ | ⟨rfl, hno⟩⟩
    · obtain ⟨rfl, hcd⟩ := HS.out.unique hs2
      have HA2 : Hid (AccsAt w2 a2 n c2 c) := Lib.hid (hacc2.congr fun i hi => (hcd i hi).symm)
      have HA1 : Hid (AccsAt w2 a1 n c1 c) := Lib.hid (HA.out.below hb2)
      have HB2 : Hid (Below w.heap.size w w2) := Lib.hid (HB1.out.trans (hb2.mono HB1.out.size))
      have hbad : badTo c n = false := by
        cases hb : badTo c n with
        | false => rfl
        | true =>
          obtain ⟨j, hj, e⟩ := badTo_true hb
          have := (HS.out.good j hj).1
          rw [e] at this; cases this
      have H47 := Lib.hid (write_ok a1 n c1 c w2 HA1.out (by omega) HS.out.good hbad)
      have HEN := Lib.hid HS.out.bytes
      clear hb2 hs2 hacc2 hcd hbad HA HS H52 HB1
      go_wp2_with fail
      refine H47.out.mono ?_
      rintro e w3 ⟨a3, n3, c3, rfl, ho3, hb3⟩
      rw [← HEN.out] at ho3
      obtain ⟨a3', c3', e3, hr3⟩ := rdB_of_own (k := .u8) ho3
      cases e3
      have HR3 := Lib.hid hr3
      have HB3 : Hid (Below w.heap.size w w3) := Lib.hid (HB2.out.trans (hb3.mono HB2.out.size))
      have HSM : Hid (∀ w', Below w3.heap.size w3 w' → Calls Try.prog 51 #[.slice a1 n c1, .slice a2 n c2] w' (TrueOn w')) := Lib.hid fun w' hb => sameAccs_any a1 a2 n c1 c2 c w' ((HA1.out.below hb3).below hb) ((HA2.out.below hb3).below hb)
      have HC3 : Hid (∀ w', Below w3.heap.size w3 w' → (convert 40 9 (.slice a3 n3 c3)).run Try.prog w' = .ok (.string (strOfNums M)) w') := Lib.hid fun w' hb => (HR3.out.below hb).conv 40 9 5 Try.underlying40 Try.underlying5 Try.underlying9
      have HC0 : Hid (∀ w', Below w3.heap.size w3 w' → (convert 40 9 (.slice a len cap)).run Try.prog w' = .ok (.string (strOfNums M)) w') := Lib.hid fun w' hb => (HR.out.below (HB3.out.trans (hb.mono HB3.out.size))).conv 40 9 5 Try.underlying40 Try.underlying5 Try.underlying9
      clear ho3 hr3 hb3 H47 HA1 HA2 HB2 HEN HR3
      generalize strOfNums M = S at *
      go_wp2_with fail
      refine (awake37_any _).mono ?_
      rintro e w4 ⟨rfl, hb4⟩
      go_wp2_with fail
      refine (HSM.out _ hb4).mono ?_
      rintro e w5 ⟨rfl, hb5⟩
      have HB5 : Hid (Below w3.heap.size w3 w5) := Lib.hid (hb4.trans (hb5.mono hb4.size))
      have c3w := HC3.out _ HB5.out
      have c0w := HC0.out _ HB5.out
      clear hb4 hb5
      go_wp2_with fail
      go_ret
      exact ⟨rfl, HB3.out.trans (HB5.out.mono HB3.out.size)⟩
    · exact absurd HS.out (hno _ _)
  · have HB1 := Lib.hid hb1
    have HNO := Lib.hid hno
    clear hb1 hno H49
    go_wp2_with fail
    refine (H52.out _ HB1.out).mono ?_
    rintro e w2 ⟨hb2, ⟨d, m, a2, c2, hs2, rfl, hacc2⟩ | ⟨rfl, -⟩⟩
    · exact absurd hs2 (HNO.out _ _)
    · have HB2 : Hid (Below w.heap.size w w2) := Lib.hid (HB1.out.trans (hb2.mono HB1.out.size))
      clear hb2
      go_wp2_with (go_at_call 25; refine (awake37_any _).mono ?_; rintro e w' ⟨rfl, hb⟩)
      go_ret
      exact ⟨rfl, HB2.out.trans (hb.mono HB2.out.size)⟩

theorem bytes_law (a : Option Addr) (len cap : Nat) (z : Nat → Int) (w : World) (h : IntsAt .u8 w a len cap z) : Calls Try.prog 13 #[.slice a len cap] w (TrueOn w) := by
  by_cases hl : 300 < len
  · exact bytes_long a len cap w hl (by have := h.1; have := h.2.1; unfold maxLen at this; omega)
  · refine bytes_few a len cap _ (by omega) w (rdB_of_ints h) fun c hc => ?_
    obtain ⟨i, hi, rfl⟩ := List.mem_map.1 hc
    obtain ⟨-, -, -, -, -, hw⟩ := h.2.2 i (List.mem_range.1 hi)
    simp [Lit.wf, IntKind.min, IntKind.max, IntKind.signed, IntKind.bits] at hw
    omega
end Go.Proofs.Ytfjddkjfkgdihaa
