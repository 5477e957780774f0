/- Layer 32's second law. -/
import Derived.Test.YtjbngddmmdcagaaDoorR3
import Derived.Test.YtjbngddmmdcagaaDoorL5
namespace Go.Proofs.YtjbngddmmdcagaaDoor
open Go.RowKit Go.BigFrame
set_option linter.unusedVariables false
set_option linter.unusedSimpArgs false

theorem law4_far (l : List UInt8) (hn : 3000 < l.length) (hb : l.length ≤ 9223372036854775807) (w : World) :
    Calls Tryd.prog 4 #[.string (txt l)] w fun e w' => e = .returned (.bool true) ∧ Below w.heap.size w w' := by
  have es : (txt l).size = l.length := txt_size l
  have d1 : decide ((3000 : Int) < (l.length : Int)) = true := bool_yes (by omega)
  go_enter Tryd.func4, Tryd.ntmps4
  go_wp2_with (go_at_call 5; (with_reducible refine (awake5 _).mono ?_); rintro e w4 ⟨rfl, hb4⟩; have HB4 := Lib.hid hb4; clear hb4)
  go_ret
  exact ⟨rfl, HB4.out⟩
theorem parseR_lt {t : List UInt8} {most m : Nat} {u : Nat → Nat} (h : parseR most t = some (m, u)) : ∀ p, u p < 18446744073709551616 := by
  unfold parseR at h
  simp only at h
  split at h
  · cases h
  · split at h
    · cases h
    · split at h
      · cases h; exact putsR_lt _ _ _ fun _ => by show 0 < 18446744073709551616; decide
      · cases h
set_option maxRecDepth 100000 in
set_option maxHeartbeats 8000000 in
theorem law4_yes (l : List UInt8) (hn : l.length ≤ 3000) (m : Nat) (f : Nat → Nat) (ho : parseR 40 l = some (m, f)) (mv : Int) (w : World) (hm : w.cell? ⟨0, 0, none⟩ = some (.int .i64 mv)) :
    Calls Tryd.prog 4 #[.string (txt l)] w fun e w' => e = .returned (.bool true) ∧ Below w.heap.size w w' := by
  have es : (txt l).size = l.length := txt_size l
  have d1 : decide ((3000 : Int) < (l.length : Int)) = false := bool_no (by omega)
  have hpt := parseR_text ho
  have hf := parseR_lt ho
  obtain ⟨u, hu, hfu⟩ := parseP_of f m hf hpt.2.1 (by omega)
  rw [hpt.1] at hu
  obtain ⟨N, hN⟩ : ∃ N, N = 8 * m := ⟨_, rfl⟩
  have hNb : N ≤ 320 ∧ 8 ≤ N := by omega
  have HRD : Hid (Calls Tryd.prog 12 #[.string (txt l)] w fun e w' => ∃ b c, e = .returned (.tuple #[.slice b N c, .int .i64 0]) ∧ Below w.heap.size w w' ∧ (N ≤ c ∧ c ≤ 9223372036854775807) ∧ Hid (WordsAt w'.heap.size w' b N f)) := Lib.hid (by
    refine (read12 l (by omega) mv w hm).mono fun e w' h => ?_
    obtain ⟨hb1, -, h3⟩ := h
    obtain ⟨-, v, rfl, ho⟩ := h3 m u hu
    obtain ⟨b, c, rfl, k1, k2, hwa⟩ := words_own ho
    unfold maxLen at k2
    rw [← hN] at hwa hfu k1 ⊢
    exact ⟨b, c, rfl, hb1, ⟨k1, k2⟩, Lib.hid (hwa.to hfu)⟩)
  have HRR : Hid (∀ W, Calls Tryd.prog 15 #[.string (txt l), .int .i64 40] W fun e w' => ∃ g, e = .returned (.tuple #[.slice (some ⟨g, 0, none⟩) N N, .bool true]) ∧ Below W.heap.size W w' ∧ Hid (WordsAt w'.heap.size w' (some ⟨g, 0, none⟩) N f)) := Lib.hid fun W => by
    refine (refRead15 l (by omega) W).mono fun e w' h => ?_
    obtain ⟨h1, -, h2⟩ := h
    obtain ⟨-, g, rfl, h3⟩ := h2 m f ho
    rw [← hN] at h3 ⊢
    exact ⟨g, rfl, h1, Lib.hid h3.at⟩
  have HWR : Hid (∀ W b c, (N ≤ c ∧ c ≤ 9223372036854775807) → WordsAt W.heap.size W b N f → Calls Tryd.prog 6 #[.slice b N c] W fun e w' => e = .returned (.tuple #[.string (txt l), .int .i64 0]) ∧ Below W.heap.size W w') := Lib.hid fun W b c hc h => by
    refine (write6 b N c hc.1 hc.2 (by unfold wholeE; rw [if_neg (by omega), if_neg (by omega)]) f hf W h (by omega)).mono fun e w' hh => ?_
    unfold WriteTo at hh
    rw [show N / 8 = m by omega, hpt.1] at hh
    exact ⟨hh.2.1 (by omega), hh.1⟩
  have HSM : Hid (∀ W b c g, WordsAt W.heap.size W b N f → WordsAt W.heap.size W g N f → Calls Tryd.prog 14 #[.slice b N c, .slice g N N] W fun e w' => e = .returned (.bool true) ∧ Below W.heap.size W w') := Lib.hid fun W b c g h1 h2 =>
    same14 b g N c N (by omega) f W h1 h2
  clear hN hpt hf hu hfu ho hm
  generalize txt l = tl at *
  go_enter Tryd.func4, Tryd.ntmps4
  go_wp2_with (first
    | (go_at_call 12; (with_reducible refine HRD.out.mono ?_); rintro e w1 ⟨b1, c1, rfl, hb1, hc1, H1⟩; have HB1 := Lib.hid hb1; clear hb1)
    | (go_at_call 15; (with_reducible refine (HRR.out _).mono ?_); rintro e w2 ⟨g2, rfl, hb2, G2⟩; have HB2 := Lib.hid (HB1.out.trans (hb2.mono HB1.out.size)); have H2 := Lib.hid ((H1.out.below hb2 (Nat.le_refl _)).mono hb2.size); clear hb2)
    | (go_at_call 6; (with_reducible refine (HWR.out _ _ _ hc1 H2.out).mono ?_); rintro e w3 ⟨rfl, hb3⟩; have HB3 := Lib.hid (HB2.out.trans (hb3.mono HB2.out.size)); have H3 := Lib.hid ((H2.out.below hb3 (Nat.le_refl _)).mono hb3.size); have G3 := Lib.hid ((G2.out.below hb3 (Nat.le_refl _)).mono hb3.size); clear hb3)
    | (go_at_call 5; (with_reducible refine (awake5 _).mono ?_); rintro e w4 ⟨rfl, hb4⟩; have HB4 := Lib.hid (HB3.out.trans (hb4.mono HB3.out.size)); have H4 := Lib.hid ((H3.out.below hb4 (Nat.le_refl _)).mono hb4.size); have G4 := Lib.hid ((G3.out.below hb4 (Nat.le_refl _)).mono hb4.size); clear hb4)
    | (go_at_call 14; (with_reducible refine (HSM.out _ _ _ _ H4.out G4.out).mono ?_); rintro e w5 ⟨rfl, hb5⟩; have HB5 := Lib.hid (HB4.out.trans (hb5.mono HB4.out.size)); clear hb5))
  go_ret
  exact ⟨rfl, HB5.out⟩
set_option maxRecDepth 100000 in
set_option maxHeartbeats 8000000 in
theorem law4_no (l : List UInt8) (hn : l.length ≤ 3000) (ho : parseR 40 l = none) (mv : Int) (w : World) (hm : w.cell? ⟨0, 0, none⟩ = some (.int .i64 mv)) :
    Calls Tryd.prog 4 #[.string (txt l)] w fun e w' => e = .returned (.bool true) ∧ Below w.heap.size w w' := by
  have es : (txt l).size = l.length := txt_size l
  have d1 : decide ((3000 : Int) < (l.length : Int)) = false := bool_no (by omega)
  have HRR : Hid (∀ W, Calls Tryd.prog 15 #[.string (txt l), .int .i64 40] W fun e w' => e = .returned (.tuple #[.slice none 0 0, .bool false]) ∧ Below W.heap.size W w') := Lib.hid fun W =>
    (refRead15 l (by omega) W).mono fun e w' h => ⟨h.2.1 ho, h.1⟩
  cases hp : parseP l with
  | none =>
    have HRD : Hid (Calls Tryd.prog 12 #[.string (txt l)] w fun e w' => e = .returned (.tuple #[.slice none 0 0, .int .i64 3]) ∧ Below w.heap.size w w') := Lib.hid
      ((read12 l (by omega) mv w hm).mono fun e w' h => ⟨h.2.1 hp, h.1⟩)
    clear ho hp hm
    generalize txt l = tl at *
    go_enter Tryd.func4, Tryd.ntmps4
    go_wp2_with (first
      | (go_at_call 12; (with_reducible refine HRD.out.mono ?_); rintro e w1 ⟨rfl, hb1⟩; have HB1 := Lib.hid hb1; clear hb1)
      | (go_at_call 15; (with_reducible refine (HRR.out _).mono ?_); rintro e w2 ⟨rfl, hb2⟩; have HB2 := Lib.hid (HB1.out.trans (hb2.mono HB1.out.size)); clear hb2)
      | (go_at_call 5; (with_reducible refine (awake5 _).mono ?_); rintro e w4 ⟨rfl, hb4⟩; have HB4 := Lib.hid (HB2.out.trans (hb4.mono HB2.out.size)); clear hb4))
    go_ret
    exact ⟨rfl, HB4.out⟩
  | some o =>
    obtain ⟨m, u⟩ := o
    have hpt := parseP_text hp
    have HRD : Hid (Calls Tryd.prog 12 #[.string (txt l)] w fun e w' => ∃ b c, e = .returned (.tuple #[.slice b (8 * m) c, .int .i64 0]) ∧ Below w.heap.size w w' ∧ 40 < m) := Lib.hid (by
      refine (read12 l (by omega) mv w hm).mono fun e w' h => ?_
      obtain ⟨hb1, -, h3⟩ := h
      obtain ⟨hu, v, rfl, ho2⟩ := h3 m u hp
      obtain ⟨b, c, rfl, -, -, -⟩ := words_own ho2
      refine ⟨b, c, rfl, hb1, ?_⟩
      by_cases h40 : 40 < m
      · exact h40
      · obtain ⟨u2, hu2, -⟩ := parseR_of u m 40 hu hpt.2.1 (by omega) (by decide)
        rw [hpt.1, ho] at hu2
        cases hu2)
    obtain ⟨N, hN⟩ : ∃ N, N = 8 * m := ⟨_, rfl⟩
    have hm26 := hpt.2.2
    rw [← hN] at HRD
    have HN := Lib.hid hN
    clear ho hp hm hpt hN
    generalize txt l = tl at *
    go_enter Tryd.func4, Tryd.ntmps4
    go_wp2_with (first
      | (go_at_call 12; (with_reducible refine HRD.out.mono ?_); rintro e w1 ⟨b1, c1, rfl, hb1, h40⟩; have HB1 := Lib.hid hb1; have d5 : decide ((320 : Int) < (N : Int)) = true := bool_yes (by have := HN.out; omega); clear hb1)
      | (go_at_call 15; (with_reducible refine (HRR.out _).mono ?_); rintro e w2 ⟨rfl, hb2⟩; have HB2 := Lib.hid (HB1.out.trans (hb2.mono HB1.out.size)); clear hb2)
      | (go_at_call 5; (with_reducible refine (awake5 _).mono ?_); rintro e w4 ⟨rfl, hb4⟩; have HB4 := Lib.hid (HB2.out.trans (hb4.mono HB2.out.size)); clear hb4))
    go_ret
    exact ⟨rfl, HB4.out⟩
theorem law4 (s : ByteArray) (hs : s.size ≤ 9223372036854775807) (mv : Int) (w : World) (hm : w.cell? ⟨0, 0, none⟩ = some (.int .i64 mv)) :
    Calls Tryd.prog 4 #[.string s] w fun e w' => e = .returned (.bool true) ∧ Below w.heap.size w w' := by
  obtain ⟨l, rfl⟩ : ∃ l, s = txt l := ⟨s.data.toList, by obtain ⟨⟨l⟩⟩ := s; rfl⟩
  rw [txt_size] at hs
  by_cases h3 : 3000 < l.length
  · exact law4_far l h3 hs w
  · cases ho : parseR 40 l with
    | none => exact law4_no l (by omega) ho mv w hm
    | some o => exact law4_yes l (by omega) o.1 o.2 ho mv w hm
end Go.Proofs.YtjbngddmmdcagaaDoor
