/- Layer 32's first law: a whole image. -/
import Derived.Test.YtjbngddmmdcagaaDoorL3
import Derived.BigQuiet
namespace Go.Proofs.YtjbngddmmdcagaaDoor
open Go.RowKit Go.BigFrame
set_option linter.unusedVariables false
set_option linter.unusedSimpArgs false

theorem law3_far (a : Option Addr) (n cap : Nat) (hn : 300 < n) (hb : n ≤ 9223372036854775807) (x : Nat) (w : World) :
    Calls Tryd.prog 3 #[.slice a n cap, .int .u64 x] w fun e w' => e = .returned (.bool true) ∧ Below w.heap.size w w' := by
  have d1 : decide ((300 : Int) < (n : Int)) = true := by simp; omega
  have d2 : decide ((n : Int) > 300) = true := by simp; omega
  go_enter Tryd.func3, Tryd.ntmps3
  go_wp2_with (go_at_call 5; (with_reducible refine (awake5 _).mono ?_); rintro e w4 ⟨rfl, hb4⟩; have HB4 := Lib.hid hb4; clear hb4)
  go_ret
  exact ⟨rfl, HB4.out⟩
set_option maxRecDepth 100000 in
set_option maxHeartbeats 8000000 in
theorem law3_yes (a : Option Addr) (n cap : Nat) (hcap : n ≤ cap) (hc : cap ≤ 9223372036854775807) (hn : n ≤ 300) (h8 : n % 8 = 0) (h0 : 0 < n) (f : Nat → Nat) (hf : ∀ j, f j < 18446744073709551616) (x : Nat) (hx : x < 18446744073709551616) (mv : Int) (w : World)
    (hw : WordsAt w.heap.size w a n f) (hm : w.cell? ⟨0, 0, none⟩ = some (.int .i64 mv)) (hm0 : 0 < w.heap.size) :
    Calls Tryd.prog 3 #[.slice a n cap, .int .u64 x] w fun e w' => e = .returned (.bool true) ∧ Below w.heap.size w w' := by
  have he : wholeE n = 0 := by unfold wholeE; rw [if_neg (by omega), if_neg (by omega)]
  obtain ⟨m, hm8⟩ : ∃ m, m = n / 8 := ⟨_, rfl⟩
  have H8 : Hid (8 * m = n ∧ 1 ≤ m ∧ m ≤ 37) := Lib.hid (by omega)
  have HWA : Hid (∀ W, Below w.heap.size w W → WordsAt W.heap.size W a n f) := Lib.hid fun W hb => (hw.below hb (Nat.le_refl _)).mono hb.size
  have HM0 : Hid (∀ W, Below w.heap.size w W → W.cell? ⟨0, 0, none⟩ = some (.int .i64 mv)) := Lib.hid fun W hb => (hb.cell (p := ⟨0, 0, none⟩) hm0).trans hm
  obtain ⟨T, hT⟩ : ∃ T, T = textT f m := ⟨_, rfl⟩
  obtain ⟨l, hl⟩ : ∃ l, l = partsW f m := ⟨_, rfl⟩
  have hll : l.length ≤ 37 := by
    have h1 : (partsW f m).length ≤ (List.range m).length := List.length_filter_le _ _
    have := H8.out
    rw [← hl, List.length_range] at h1; omega
  have hTl : T.length ≤ 4194304 := by
    have h1 := textTo_len f hf m (by have := H8.out; omega) (partsW f m).length (Nat.le_refl _)
    rw [textTo_all, ← hT, ← hl] at h1; omega
  have HW : Hid (Calls Tryd.prog 6 #[.slice a n cap] w fun e w' => e = .returned (.tuple #[.string (txt T), .int .i64 0]) ∧ Below w.heap.size w w') := Lib.hid (by
    refine (write6 a n cap hcap hc he f hf w hw h0).mono fun e w' h => ?_
    unfold WriteTo at h
    rw [← hm8, ← hT] at h
    exact ⟨h.2.1 hTl, h.1⟩)
  have HP : Hid (∀ W, Below w.heap.size w W → Calls Tryd.prog 10 #[.slice a n cap] W fun e w' => ∃ b c g, e = .returned (.slice b l.length c) ∧ Below W.heap.size W w' ∧ Hid (0 < l.length → b = some ⟨g, 0, none⟩ ∧ g < w'.heap.size ∧ ∀ k, k < l.length → w'.cell? ⟨g, k, none⟩ = some (.int .i64 (Int.ofNat (l[k]?.getD 0))))) := Lib.hid fun W hb => by
    refine (parts10 a n cap hcap hc he f W (HWA.out W hb)).mono fun e w' h => ?_
    rw [← hm8, ← hl] at h
    obtain ⟨v, rfl, hb, ho⟩ := h
    obtain ⟨b, c, g, rfl, hh⟩ := own_ints ho
    exact ⟨b, c, g, rfl, hb, Lib.hid fun h => ⟨(hh h).1, (by obtain ⟨cs, hcs⟩ := (hh h).2.2.1; exact (Array.getElem?_eq_some_iff.1 hcs).1), (hh h).2.2.2⟩⟩
  have HR : Hid (∀ W, Below w.heap.size w W → Calls Tryd.prog 11 #[.slice a n cap] W fun e w' => ∃ b c g, e = .returned (.slice b l.length c) ∧ Below W.heap.size W w' ∧ Hid (0 < l.length → b = some ⟨g, 0, none⟩ ∧ g < w'.heap.size ∧ ∀ k, k < l.length → w'.cell? ⟨g, k, none⟩ = some (.int .i64 (Int.ofNat (l[k]?.getD 0))))) := Lib.hid fun W hb => by
    refine (refParts11 a n cap (by omega) f W (HWA.out W hb)).mono fun e w' h => ?_
    rw [← hm8, ← hl] at h
    obtain ⟨v, rfl, hb, ho⟩ := h
    obtain ⟨b, c, g, rfl, hh⟩ := own_ints ho
    exact ⟨b, c, g, rfl, hb, Lib.hid fun h => ⟨(hh h).1, (by obtain ⟨cs, hcs⟩ := (hh h).2.2.1; exact (Array.getElem?_eq_some_iff.1 hcs).1), (hh h).2.2.2⟩⟩
  have HRD : Hid (∀ W, Below w.heap.size w W → Calls Tryd.prog 12 #[.string (txt T)] W fun e w' => ∃ b c, e = .returned (.tuple #[.slice b n c, .int .i64 0]) ∧ Below W.heap.size W w' ∧ Hid (WordsAt w'.heap.size w' b n f)) := Lib.hid fun W hb => by
    refine (read12 T hTl mv W (HM0.out W hb)).mono fun e w' h => ?_
    obtain ⟨u, hu, hfu⟩ := parseP_of f m hf H8.out.2.1 (by have := H8.out; omega)
    rw [← hT] at hu
    obtain ⟨hb1, -, h3⟩ := h
    obtain ⟨-, v, rfl, ho⟩ := h3 m u hu
    obtain ⟨b, c, rfl, -, -, hwa⟩ := words_own ho
    rw [H8.out.1] at hwa hfu ⊢
    exact ⟨b, c, rfl, hb1, Lib.hid (hwa.to hfu)⟩
  have HRW : Hid (∀ W, Below w.heap.size w W → Calls Tryd.prog 13 #[.slice a n cap] W fun e w' => e = .returned (.string (txt T)) ∧ Below W.heap.size W w') := Lib.hid fun W hb => by
    rw [hT]; exact refWrite13 a n cap m H8.out.1.symm (by have := H8.out; omega) f hf W (HWA.out W hb)
  have HSM : Hid (∀ W b c, Below w.heap.size w W → WordsAt W.heap.size W b n f → Calls Tryd.prog 14 #[.slice b n c, .slice a n cap] W fun e w' => e = .returned (.bool true) ∧ Below W.heap.size W w') := Lib.hid fun W b c hb hwb =>
    same14 b a n c cap (by omega) f W hwb (HWA.out W hb)
  have HM := Lib.hid (may9 n (by omega))
  rw [he] at HM
  have d0 : decide ((n : Int) > 300) = false := by simp; omega
  have d1 : decide ((300 : Int) < (n : Int)) = false := by simp; omega
  have d2 : ((n : Int) == 0) = false := by rw [beq_eq_false_iff_ne]; omega
  obtain ⟨t, ht⟩ : ∃ t, t = txt (dig 16 x) := ⟨_, rfl⟩
  have HX7 : Hid (∀ W, Calls Tryd.prog 7 #[.int .u64 x] W fun e w' => e = .returned (.string t) ∧ Below W.heap.size W w') := Lib.hid fun W => by rw [ht]; exact hex7 x hx W
  have HX8 : Hid (∀ W, Calls Tryd.prog 8 #[.int .u64 x] W fun e w' => e = .returned (.string t) ∧ Below W.heap.size W w') := Lib.hid fun W => by rw [ht]; exact hex8 x hx W
  generalize txt T = tt at *
  clear ht hT hl hm8 h8 he HWA HM0 hm hTl
  go_enter Tryd.func3, Tryd.ntmps3
  go_wp2_with (first
    | (go_at_call 6; (with_reducible refine HW.out.mono ?_); rintro e w1 ⟨rfl, hb1⟩; have HB1 := Lib.hid hb1; clear hb1)
    | (go_at_call 7; (with_reducible refine (HX7.out _).mono ?_); rintro e w2 ⟨rfl, hb2⟩; have HB2 := Lib.hid (HB1.out.trans (hb2.mono HB1.out.size)); clear hb2)
    | (go_at_call 8; (with_reducible refine (HX8.out _).mono ?_); rintro e w3 ⟨rfl, hb3⟩; have HB3 := Lib.hid (HB2.out.trans (hb3.mono HB2.out.size)); clear hb3)
    | (go_at_call 9; (with_reducible refine (HM.out _).mono ?_); rintro e w4 ⟨rfl, hw⟩; cases hw)
    | (go_at_call 10; (with_reducible refine (HP.out _ HB3.out).mono ?_); rintro e w4 ⟨a4, c4, g4, rfl, hb4, H4⟩; have HB4 := Lib.hid (HB3.out.trans (hb4.mono HB3.out.size)); clear hb4)
    | (go_at_call 11; (with_reducible refine (HR.out _ HB4.out).mono ?_); rintro e w5 ⟨a5, c5, g5, rfl, hb5, H5⟩; have HB45 := Lib.hid hb5; have HB5 := Lib.hid (HB4.out.trans (hb5.mono HB4.out.size)); clear hb5))
  obtain ⟨c, hcl⟩ : ∃ c : Nat → Nat, c = fun k => l[k]?.getD 0 := ⟨_, rfl⟩
  obtain ⟨L, hL⟩ : ∃ L, L = l.length := ⟨_, rfl⟩
  have HA : Hid (0 < L → a4 = some ⟨g4, 0, none⟩ ∧ a5 = some ⟨g5, 0, none⟩ ∧ (g4 < w5.heap.size ∧ g5 < w5.heap.size) ∧ ∀ k, k < L → w5.cell? ⟨g4, k, none⟩ = some (.int .i64 (Int.ofNat (c k))) ∧ w5.cell? ⟨g5, k, none⟩ = some (.int .i64 (Int.ofNat (c k)))) := Lib.hid fun h => by
    rw [hL] at h
    obtain ⟨e4, l4, k4⟩ := H4.out h
    obtain ⟨e5, l5, k5⟩ := H5.out h
    refine ⟨e4, e5, ⟨Nat.lt_of_lt_of_le l4 HB45.out.size, l5⟩, fun k hk => ⟨?_, ?_⟩⟩
    · rw [HB45.out.cell (p := ⟨g4, k, none⟩) l4, hcl]; exact k4 k (by omega)
    · rw [hcl]; exact k5 k (by omega)
  rw [← hL] at hll ⊢
  clear hL hcl H4 H5 HB45 HB4 HB3 HB2 HB1 HP HR HX7 HX8 HM HW
  go_loopw [10] (fun i wr => ∃ q : Nat, q ≤ L ∧ i = .int .i64 q ∧ Hid (Below w5.heap.size w5 wr)) (fun i _ => L - (intOf i).toNat)
  case atStart => exact ⟨0, by omega, rfl, Below.refl _ _⟩
  case round =>
    obtain ⟨q, hq, rfl, HB⟩ := hrel
    by_cases hlt : q < L
    · have d1 : decide ((q : Int) < (L : Int)) = true := bool_yes (by omega)
      obtain ⟨rfl, rfl, hlts, hcs⟩ := HA.out (by omega)
      have k1 : wr.cell? ⟨g4, q, none⟩ = some (.int .i64 (Int.ofNat (c q))) := by rw [HB.out.cell (p := ⟨g4, q, none⟩) hlts.1, (hcs q hlt).1]
      have k2 : wr.cell? ⟨g5, q, none⟩ = some (.int .i64 (Int.ofNat (c q))) := by rw [HB.out.cell (p := ⟨g5, q, none⟩) hlts.2, (hcs q hlt).2]
      have i0 : (0 : Int) ≤ (q : Int) := by omega
      have i1 : (q : Int) < (L : Int) := by omega
      clear hcs
      generalize c q = y at *
      go_wp2_with fail
      go_quiet (fail)
      go_wp2_with fail
      go_roundw
      case rel => exact ⟨q + 1, by omega, by go_num, Lib.hid (HB.out.trans ⟨rfl, rfl, rfl, Nat.le_refl _, fun _ _ => rfl⟩)⟩
      case measure => simp [intOf]; omega
    · obtain rfl : q = L := by omega
      have d1 : decide ((q : Int) < (q : Int)) = false := by simp
      have HB6 : Hid (Below w.heap.size w wr) := Lib.hid (HB5.out.trans (HB.out.mono HB5.out.size))
      go_wp2_with (first
        | (go_at_call 12; (with_reducible refine (HRD.out _ HB6.out).mono ?_); rintro e w7 ⟨b7, c7, rfl, hb7, H7⟩; have HB67 := Lib.hid hb7; have HB7 : Hid (Below w.heap.size w w7) := Lib.hid (HB6.out.trans (hb7.mono HB6.out.size)); clear hb7)
        | (go_at_call 5; (with_reducible refine (awake5 _).mono ?_); rintro e w8 ⟨rfl, hb8⟩; have HB8 : Hid (Below w.heap.size w w8) := Lib.hid (HB7.out.trans (hb8.mono HB7.out.size)); have H8' : Hid (WordsAt w8.heap.size w8 b7 n f) := Lib.hid ((H7.out.below hb8 (Nat.le_refl _)).mono hb8.size); clear hb8)
        | (go_at_call 13; (with_reducible refine (HRW.out _ HB8.out).mono ?_); rintro e w9 ⟨rfl, hb9⟩; have HB9 : Hid (Below w.heap.size w w9) := Lib.hid (HB8.out.trans (hb9.mono HB8.out.size)); have H9 : Hid (WordsAt w9.heap.size w9 b7 n f) := Lib.hid ((H8'.out.below hb9 (Nat.le_refl _)).mono hb9.size); clear hb9)
        | (go_at_call 14; (with_reducible refine (HSM.out _ _ _ HB9.out H9.out).mono ?_); rintro e w10 ⟨rfl, hb10⟩; have HB10 : Hid (Below w.heap.size w w10) := Lib.hid (HB9.out.trans (hb10.mono HB9.out.size)); clear hb10))
      go_ret
      exact ⟨rfl, HB10.out⟩
end Go.Proofs.YtjbngddmmdcagaaDoor
