/- Layer 35 (dice): the law DiceScripts, walked. -/
import Derived.Test.YtoeeeapjfkjkbaaS14
namespace Go.Proofs.Ytoeeeapjfkjkbaa
open Go.RowKit Go.BigFrame
set_option linter.unusedVariables false
set_option linter.unusedSimpArgs false

set_option maxRecDepth 100000 in
set_option maxHeartbeats 2000000 in
theorem law3 (c : Cfg) (seed : Int) (s0 : 0 ≤ seed) (s1 : seed ≤ 18446744073709551615) (N M : Int) (m0 : 0 ≤ M) (m1 : M ≤ 255) (w : World) :
    Calls Try.prog 3 #[.agg c.cells, .int .u64 seed, .agg #[.int .i64 N, .int .u8 M]] w (BoolOn true w) := by
  obtain ⟨q, hq⟩ : ∃ q, q = w.heap.size := ⟨_, rfl⟩
  obtain ⟨W, hW⟩ : ∃ W, W = (w.alloc (.cells #[.int .i64 c.th, .int .i64 c.sl, .int .i64 c.lo, .int .i64 c.bu] 23)).alloc (.cells #[.int .i64 N, .int .u8 M] 26) := ⟨_, rfl⟩
  have HT : Hid (TwoAt w W q c N M) := Lib.hid ⟨hq, by rw [hW, hq]; exact (Below.heap_alloc _ _ _ (by simp)).trans (heap_alloc_new w _), by
    have := heap_alloc_new (w.alloc (.cells #[.int .i64 c.th, .int .i64 c.sl, .int .i64 c.lo, .int .i64 c.bu] 23)) (.cells #[.int .i64 N, .int .u8 M] 26)
    rw [World.size_alloc] at this
    rw [hW, hq]; exact this, by rw [hW]; exact ((Below.refl _ w).alloc (Nat.le_refl _) _).alloc (by simp) _⟩
  obtain ⟨f, hf⟩ : ∃ f, f = (decide c.few || !decide c.right) := ⟨_, rfl⟩
  have H4 : Hid (∀ w, Calls Try.prog 4 #[.agg c.cells] w (BoolOn f w)) := Lib.hid fun w => by rw [hf]; exact few4 c w
  have HRR : Hid (∀ w, Calls Try.prog 7 #[.agg c.cells] w (BoolOn (decide c.right) w)) := Lib.hid fun w => refRight_any c w
  have HAW : Hid (∀ w, Calls Try.prog 5 #[] w fun e w' => e = .returned (.bool true) ∧ w = w') := Lib.hid fun w => awake_any w
  have HFD := Lib.hid hf
  by_cases hA : f = false ∨ (300 < N ∧ N ≤ 5000)
  · obtain ⟨c0, c1, c2, c3, n0, n1⟩ := HT.out.cells
    have hA2 : f = false ∨ (f = true ∧ 300 < N ∧ N ≤ 5000) := by cases f <;> simp at hA ⊢; exact hA
    clear hA hf HFD HRR
    simp only [Cfg.cells] at *
    rcases hA2 with rfl | ⟨rfl, h1, h2⟩
    · go_enter Try.func3, Try.ntmps3
      go_upto_region 1 with fail
      rw [← hq, ← hW]
      clear hq hW c0 c1 c2 c3 n0 n1
      obtain ⟨c0, c1, c2, c3, n0, n1⟩ := HT.out.cells
      go_wp2_with fail
      refine (H4.out _).mono ?_
      rintro e w1 ⟨rfl, hb⟩
      have HT1 := Lib.hid (HT.out.next hb)
      clear hb HT c0 c1 c2 c3 n0 n1
      go_wp2_with (go_at_call 5; refine (HAW.out _).mono ?_; rintro e w' ⟨rfl, rfl⟩)
      go_ret
      exact ⟨rfl, HT1.out.below⟩
    · have d1 : decide (300 < N) = true := bool_yes h1
      have d2 : decide (N ≤ 5000) = true := bool_yes h2
      go_enter Try.func3, Try.ntmps3
      go_upto_region 1 with fail
      rw [← hq, ← hW]
      clear hq hW c0 c1 c2 c3 n0 n1
      obtain ⟨c0, c1, c2, c3, n0, n1⟩ := HT.out.cells
      go_wp2_with fail
      refine (H4.out _).mono ?_
      rintro e w1 ⟨rfl, hb⟩
      have HT1 := Lib.hid (HT.out.next hb)
      obtain ⟨c0', c1', c2', c3', n0', n1'⟩ := HT1.out.cells
      clear hb HT c0 c1 c2 c3 n0 n1
      go_wp2_with (go_at_call 5; refine (HAW.out _).mono ?_; rintro e w' ⟨rfl, rfl⟩)
      go_ret
      exact ⟨rfl, HT1.out.below⟩
  · have hf1 : f = true := by cases f <;> simp at hA ⊢
    have hN : 300 < N → 5000 < N := fun h => by have := fun g => hA (.inr ⟨h, g⟩); omega
    clear hA
    subst hf1
    by_cases hr : c.right
    · rw [bool_yes hr] at HRR
      have hfew : c.few := by have h := hf; rw [bool_yes hr] at h; simpa using h.symm
      clear hf HFD
      by_cases hneg : N < 0
      · have H6 : Hid (∀ w, Calls Try.prog 6 #[.agg c.cells, .int .u64 seed, .int .i64 N] w (ErrTo 1 w)) := Lib.hid fun w => script6_no c seed N (.inr hneg) w
        have d1 : decide (300 < N) = false := bool_no (by omega)
        have d3 : decide (N < 0) = true := bool_yes hneg
        simp only [Cfg.cells] at *
        clear hr hfew hneg hN
        go_enter Try.func3, Try.ntmps3
        go_upto_region 1 with fail
        rw [← hq, ← hW]
        clear hq hW
        obtain ⟨c0, c1, c2, c3, n0, n1⟩ := HT.out.cells
        go_wp2_with fail
        refine (H4.out _).mono ?_
        rintro e w1 ⟨rfl, hb⟩
        have HT1 := Lib.hid (HT.out.next hb)
        clear hb HT c0 c1 c2 c3 n0 n1
        obtain ⟨c0, c1, c2, c3, n0, n1⟩ := HT1.out.cells
        go_wp2_with fail
        refine (H6.out _).mono ?_
        rintro e w2 ⟨rfl, hb⟩
        have HT2 := Lib.hid (HT1.out.next hb)
        clear hb HT1 c0 c1 c2 c3 n0 n1
        obtain ⟨c0, c1, c2, c3, n0, n1⟩ := HT2.out.cells
        go_wp2_with fail
        refine (HRR.out _).mono ?_
        rintro e w3 ⟨rfl, hb⟩
        have HT3 := Lib.hid (HT2.out.next hb)
        clear hb HT2 c0 c1 c2 c3 n0 n1
        obtain ⟨c0, c1, c2, c3, n0, n1⟩ := HT3.out.cells
        go_wp2_with (go_at_call 5; refine (HAW.out _).mono ?_; rintro e w' ⟨rfl, rfl⟩)
        go_ret
        exact ⟨rfl, HT3.out.below⟩
      · by_cases hlong : 5000 < N
        · have H6 : Hid (∀ w, Calls Try.prog 6 #[.agg c.cells, .int .u64 seed, .int .i64 N] w (ErrTo 2 w)) := Lib.hid fun w => script6_long c hr seed N hlong w
          have d1 : decide (300 < N) = true := bool_yes (by omega)
          have d2 : decide (N ≤ 5000) = false := bool_no (by omega)
          have d3 : decide (N < 0) = false := bool_no hneg
          have d4 : decide (5000 < N) = true := bool_yes hlong
          simp only [Cfg.cells] at *
          clear hr hfew hneg hN hlong
          go_enter Try.func3, Try.ntmps3
          go_upto_region 1 with fail
          rw [← hq, ← hW]
          clear hq hW
          obtain ⟨c0, c1, c2, c3, n0, n1⟩ := HT.out.cells
          go_wp2_with fail
          refine (H4.out _).mono ?_
          rintro e w1 ⟨rfl, hb⟩
          have HT1 := Lib.hid (HT.out.next hb)
          clear hb HT c0 c1 c2 c3 n0 n1
          obtain ⟨c0, c1, c2, c3, n0, n1⟩ := HT1.out.cells
          go_wp2_with fail
          refine (H6.out _).mono ?_
          rintro e w2 ⟨rfl, hb⟩
          have HT2 := Lib.hid (HT1.out.next hb)
          clear hb HT1 c0 c1 c2 c3 n0 n1
          obtain ⟨c0, c1, c2, c3, n0, n1⟩ := HT2.out.cells
          go_wp2_with fail
          refine (HRR.out _).mono ?_
          rintro e w3 ⟨rfl, hb⟩
          have HT3 := Lib.hid (HT2.out.next hb)
          clear hb HT2 c0 c1 c2 c3 n0 n1
          obtain ⟨c0, c1, c2, c3, n0, n1⟩ := HT3.out.cells
          go_wp2_with (go_at_call 5; refine (HAW.out _).mono ?_; rintro e w' ⟨rfl, rfl⟩)
          go_ret
          exact ⟨rfl, HT3.out.below⟩
        · exact law3_ok c seed s0 s1 N M (by omega) (by omega) m0 m1 hr hfew w
    · rw [bool_no hr] at HRR
      clear hf HFD
      have H6 : Hid (∀ w, Calls Try.prog 6 #[.agg c.cells, .int .u64 seed, .int .i64 N] w (ErrTo 1 w)) := Lib.hid fun w => script6_no c seed N (.inl hr) w
      simp only [Cfg.cells] at *
      by_cases hb : 300 < N
      · have d1 : decide (300 < N) = true := bool_yes hb
        have d2 : decide (N ≤ 5000) = false := bool_no (by have := hN hb; omega)
        clear hr hN hb
        go_enter Try.func3, Try.ntmps3
        go_upto_region 1 with fail
        rw [← hq, ← hW]
        clear hq hW
        obtain ⟨c0, c1, c2, c3, n0, n1⟩ := HT.out.cells
        go_wp2_with fail
        refine (H4.out _).mono ?_
        rintro e w1 ⟨rfl, hb⟩
        have HT1 := Lib.hid (HT.out.next hb)
        clear hb HT c0 c1 c2 c3 n0 n1
        obtain ⟨c0, c1, c2, c3, n0, n1⟩ := HT1.out.cells
        go_wp2_with fail
        refine (H6.out _).mono ?_
        rintro e w2 ⟨rfl, hb⟩
        have HT2 := Lib.hid (HT1.out.next hb)
        clear hb HT1 c0 c1 c2 c3 n0 n1
        obtain ⟨c0, c1, c2, c3, n0, n1⟩ := HT2.out.cells
        go_wp2_with fail
        refine (HRR.out _).mono ?_
        rintro e w3 ⟨rfl, hb⟩
        have HT3 := Lib.hid (HT2.out.next hb)
        clear hb HT2 c0 c1 c2 c3 n0 n1
        obtain ⟨c0, c1, c2, c3, n0, n1⟩ := HT3.out.cells
        go_wp2_with (go_at_call 5; refine (HAW.out _).mono ?_; rintro e w' ⟨rfl, rfl⟩)
        go_ret
        exact ⟨rfl, HT3.out.below⟩
      · have d1 : decide (300 < N) = false := bool_no hb
        clear hr hN hb
        go_enter Try.func3, Try.ntmps3
        go_upto_region 1 with fail
        rw [← hq, ← hW]
        clear hq hW
        obtain ⟨c0, c1, c2, c3, n0, n1⟩ := HT.out.cells
        go_wp2_with fail
        refine (H4.out _).mono ?_
        rintro e w1 ⟨rfl, hb⟩
        have HT1 := Lib.hid (HT.out.next hb)
        clear hb HT c0 c1 c2 c3 n0 n1
        obtain ⟨c0, c1, c2, c3, n0, n1⟩ := HT1.out.cells
        go_wp2_with fail
        refine (H6.out _).mono ?_
        rintro e w2 ⟨rfl, hb⟩
        have HT2 := Lib.hid (HT1.out.next hb)
        clear hb HT1 c0 c1 c2 c3 n0 n1
        obtain ⟨c0, c1, c2, c3, n0, n1⟩ := HT2.out.cells
        go_wp2_with fail
        refine (HRR.out _).mono ?_
        rintro e w3 ⟨rfl, hb⟩
        have HT3 := Lib.hid (HT2.out.next hb)
        clear hb HT2 c0 c1 c2 c3 n0 n1
        obtain ⟨c0, c1, c2, c3, n0, n1⟩ := HT3.out.cells
        go_wp2_with (go_at_call 5; refine (HAW.out _).mono ?_; rintro e w' ⟨rfl, rfl⟩)
        go_ret
        exact ⟨rfl, HT3.out.below⟩
end Go.Proofs.Ytoeeeapjfkjkbaa
