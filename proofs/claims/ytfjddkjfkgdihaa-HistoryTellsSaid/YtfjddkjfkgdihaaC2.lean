/- Walks of layer 24 (history): which calls may be, of a call that broke off or answered. -/
import Derived.Test.YtfjddkjfkgdihaaC1
namespace Go.Proofs.Ytfjddkjfkgdihaa
open Go.RowKit
set_option linter.unusedVariables false

set_option maxRecDepth 100000 in
theorem broken_any (c : CallD) (w : World) : Calls Try.prog 60 #[.agg c.cells] w (BoolOn c.brokenB w) := by
  obtain ⟨r, hr⟩ : ∃ r, r = c.brokenB := ⟨_, rfl⟩
  have hr2 := hr
  rw [← hr]
  obtain ⟨th, ki, ky, va, rk, rv, be, en, wh, cr, kp⟩ := c
  simp only [CallD.brokenB] at hr2
  simp only [CallD.cells]
  have H78 := Lib.hid fun w => looks_any ki w
  generalize looksB ki = l at *
  have HR := Lib.hid hr2; clear hr2 hr
  by_cases h1 : en = -1
  · subst h1
    by_cases h2 : rk = 0
    · subst h2
      by_cases h3 : rv = 0
      · subst h3
        by_cases h4 : wh = -1
        · subst h4
          go_enter Try.func60, Try.ntmps60
          go_wp2_with fail
          go_ret
          exact ⟨by rw [HR.out]; simp, (Below.refl _ _).alloc (Nat.le_refl _) _⟩
        · have b4 : (wh == -1) = false := by simp [h4]
          have HR2 : Hid (r = (decide (be < wh) && !l)) := Lib.hid (by rw [HR.out]; simp [h4])
          clear h4
          by_cases h5 : be < wh
          all_goals
            go_enter Try.func60, Try.ntmps60
            go_wp2_with (go_at_call 78; refine (H78.out _).mono ?_; rintro e w' ⟨rfl, rfl⟩)
            go_ret
            exact ⟨by rw [HR2.out]; first | (simp [h5]; done) | (simp; intros; omega), (Below.refl _ _).alloc (Nat.le_refl _) _⟩
      · have b3 : (rv == 0) = false := by simp [h3]
        have HR2 : Hid (r = false) := Lib.hid (by rw [HR.out]; simp [h3])
        clear h3
        go_enter Try.func60, Try.ntmps60
        go_wp2_with fail
        all_goals
          go_ret
          exact ⟨by rw [HR2.out]; rfl, (Below.refl _ _).alloc (Nat.le_refl _) _⟩
    · have b2 : (rk == 0) = false := by simp [h2]
      have HR2 : Hid (r = false) := Lib.hid (by rw [HR.out]; simp [h2])
      clear h2
      go_enter Try.func60, Try.ntmps60
      go_wp2_with fail
      all_goals
        go_ret
        exact ⟨by rw [HR2.out]; rfl, (Below.refl _ _).alloc (Nat.le_refl _) _⟩
  · have b1 : (en == -1) = false := by simp [h1]
    have b1' : (en != -1) = true := by simp [h1]
    have HR2 : Hid (r = false) := Lib.hid (by rw [HR.out]; simp [h1])
    clear h1
    go_enter Try.func60, Try.ntmps60
    go_wp2_with fail
    all_goals
      go_ret
      exact ⟨by rw [HR2.out]; rfl, (Below.refl _ _).alloc (Nat.le_refl _) _⟩

set_option maxRecDepth 100000 in
theorem answered_any (c : CallD) (w : World) : Calls Try.prog 61 #[.agg c.cells] w (BoolOn c.answeredB w) := by
  obtain ⟨r, hr⟩ : ∃ r, r = c.answeredB := ⟨_, rfl⟩
  have hr2 := hr
  rw [← hr]
  obtain ⟨th, ki, ky, va, rk, rv, be, en, wh, cr, kp⟩ := c
  simp only [CallD.answeredB] at hr2
  simp only [CallD.cells]
  have H79 := Lib.hid fun w => can_any ki rk w
  have H80 := Lib.hid fun w => valued_any ki rk w
  generalize canB ki rk = cb at *
  generalize valuedB ki rk = vb at *
  have HR := Lib.hid hr2; clear hr2 hr
  have done : ∀ w' : World, Below w.heap.size w w' → Below w.heap.size w w' := fun _ h => h
  by_cases h1 : kp = true
  · subst h1
    have HR2 : Hid (r = false) := Lib.hid (by rw [HR.out]; simp)
    go_enter Try.func61, Try.ntmps61
    go_wp2_with fail
    go_ret
    exact ⟨by rw [HR2.out]; rfl, ((Below.refl _ _).alloc (Nat.le_refl _) _).alloc (by simp) _⟩
  · obtain rfl : kp = false := by simpa using h1
    by_cases h2 : be < wh
    · by_cases h3 : wh ≤ en
      · cases cb
        · have HR2 : Hid (r = false) := Lib.hid (by rw [HR.out]; simp)
          go_enter Try.func61, Try.ntmps61
          go_wp2_with (go_at_call 79; refine (H79.out _).mono ?_; rintro e w' ⟨rfl, rfl⟩)
          go_ret
          exact ⟨by rw [HR2.out]; rfl, ((Below.refl _ _).alloc (Nat.le_refl _) _).alloc (by simp) _⟩
        · by_cases h4 : rv = 0
          · subst h4
            have HR2 : Hid (r = true) := Lib.hid (by rw [HR.out]; simp [h2, h3])
            go_enter Try.func61, Try.ntmps61
            go_wp2_with (go_at_call 79; refine (H79.out _).mono ?_; rintro e w' ⟨rfl, rfl⟩)
            go_ret
            exact ⟨by rw [HR2.out]; rfl, ((Below.refl _ _).alloc (Nat.le_refl _) _).alloc (by simp) _⟩
          · have b4 : (rv == 0) = false := by simp [h4]
            have HR2 : Hid (r = vb) := Lib.hid (by rw [HR.out]; simp [h2, h3, h4])
            clear h4
            go_enter Try.func61, Try.ntmps61
            go_wp2_with (first | (go_at_call 79; refine (H79.out _).mono ?_; rintro e w' ⟨rfl, rfl⟩) | (go_at_call 80; refine (H80.out _).mono ?_; rintro e w' ⟨rfl, rfl⟩))
            go_ret
            exact ⟨by rw [HR2.out]; rfl, ((Below.refl _ _).alloc (Nat.le_refl _) _).alloc (by simp) _⟩
      · have h3' : en < wh := by omega
        have HR2 : Hid (r = false) := Lib.hid (by rw [HR.out]; simp; intros; omega)
        clear h3
        go_enter Try.func61, Try.ntmps61
        go_wp2_with fail
        go_ret
        exact ⟨by rw [HR2.out]; rfl, ((Below.refl _ _).alloc (Nat.le_refl _) _).alloc (by simp) _⟩
    · have h2' : wh ≤ be := by omega
      have HR2 : Hid (r = false) := Lib.hid (by rw [HR.out]; simp; intros; omega)
      clear h2
      go_enter Try.func61, Try.ntmps61
      go_wp2_with fail
      go_ret
      exact ⟨by rw [HR2.out]; rfl, ((Below.refl _ _).alloc (Nat.le_refl _) _).alloc (by simp) _⟩

set_option maxRecDepth 100000 in
theorem may_any (c : CallD) (w : World) : Calls Try.prog 38 #[.agg c.cells] w (BoolOn c.mayB w) := by
  obtain ⟨r, hr⟩ : ∃ r, r = c.mayB := ⟨_, rfl⟩
  have hr2 := hr
  rw [← hr]
  have H60 := Lib.hid fun w => broken_any c w
  have H61 := Lib.hid fun w => answered_any c w
  obtain ⟨th, ki, ky, va, rk, rv, be, en, wh, cr, kp⟩ := c
  simp only [CallD.mayB] at hr2
  generalize CallD.brokenB _ = bb at *
  generalize CallD.answeredB _ = ab at *
  simp only [CallD.cells] at *
  have H59 := Lib.hid fun w => kind_any ki w
  generalize kindB ki = kb at *
  have HR := Lib.hid hr2; clear hr2 hr
  cases kb
  · have HR2 : Hid (r = false) := Lib.hid (by rw [HR.out]; simp)
    go_enter Try.func38, Try.ntmps38
    go_wp2_with (go_at_call 59; refine (H59.out _).mono ?_; rintro e w' ⟨rfl, rfl⟩)
    go_ret
    exact ⟨by rw [HR2.out]; rfl, (Below.refl _ _).alloc (Nat.le_refl _) _⟩
  · by_cases h1 : 0 ≤ be
    · cases cr
      · have HR2 : Hid (r = ab) := Lib.hid (by rw [HR.out]; simp [h1])
        go_enter Try.func38, Try.ntmps38
        go_wp2_with (first | (go_at_call 59; refine (H59.out _).mono ?_; rintro e w' ⟨rfl, rfl⟩) | (go_at_call 61; refine (H61.out _).mono ?_; rintro e w' ⟨rfl, hb⟩))
        go_ret
        exact ⟨by rw [HR2.out]; rfl, ((Below.refl _ _).alloc (Nat.le_refl _) _).trans (hb.mono (by simp))⟩
      · have HR2 : Hid (r = bb) := Lib.hid (by rw [HR.out]; simp [h1])
        go_enter Try.func38, Try.ntmps38
        go_wp2_with (first | (go_at_call 59; refine (H59.out _).mono ?_; rintro e w' ⟨rfl, rfl⟩) | (go_at_call 60; refine (H60.out _).mono ?_; rintro e w' ⟨rfl, hb⟩))
        go_ret
        exact ⟨by rw [HR2.out]; rfl, ((Below.refl _ _).alloc (Nat.le_refl _) _).trans (hb.mono (by simp))⟩
    · have h1' : be < 0 := by omega
      have HR2 : Hid (r = false) := Lib.hid (by rw [HR.out]; simp; intros; omega)
      clear h1
      go_enter Try.func38, Try.ntmps38
      go_wp2_with (go_at_call 59; refine (H59.out _).mono ?_; rintro e w' ⟨rfl, rfl⟩)
      go_ret
      exact ⟨by rw [HR2.out]; rfl, (Below.refl _ _).alloc (Nat.le_refl _) _⟩
end Go.Proofs.Ytfjddkjfkgdihaa
