/- Walk of layer 24's reference: which calls may be, every call. -/
import Derived.Test.YtfjddkjfkgdihaaC4
namespace Go.Proofs.Ytfjddkjfkgdihaa
open Go.RowKit Go.BigFrame
set_option linter.unusedVariables false

set_option maxRecDepth 100000 in
set_option maxHeartbeats 4000000 in
theorem refMay_any (c : CallD) (w : World) : Calls Try.prog 39 #[.agg c.cells] w (BoolOn c.mayB w) := by
  obtain ⟨r, hr⟩ : ∃ r, r = c.mayB := ⟨_, rfl⟩
  have hr2 := hr
  rw [← hr]
  obtain ⟨th, ki, ky, va, rk, rv, be, en, wh, cr, kp⟩ := c
  simp only [CallD.mayB, CallD.brokenB, CallD.answeredB, kindB] at hr2
  simp only [CallD.cells]
  have HR := Lib.hid hr2; clear hr2 hr
  by_cases k1 : ki < 1
  · have HF : Hid (r = false) := Lib.hid (by rw [HR.out]; simp; intros; omega)
    go_enter Try.func39, Try.ntmps39
    go_wp2_with fail
    go_ret
    exact ⟨by rw [HF.out]; rfl, (Below.refl _ _).alloc (Nat.le_refl _) _⟩
  · by_cases k8 : 8 < ki
    · have HF : Hid (r = false) := Lib.hid (by rw [HR.out]; simp; intros; omega)
      have k1' : 1 ≤ ki := by omega
      clear k1
      go_enter Try.func39, Try.ntmps39
      go_wp2_with fail
      go_ret
      exact ⟨by rw [HF.out]; rfl, (Below.refl _ _).alloc (Nat.le_refl _) _⟩
    · have k1' : 1 ≤ ki := by omega
      have k8' : ki ≤ 8 := by omega
      clear k1 k8
      by_cases b0 : be < 0
      · have HF : Hid (r = false) := Lib.hid (by rw [HR.out]; simp; intros; omega)
        go_enter Try.func39, Try.ntmps39
        go_wp2_with fail
        go_ret
        exact ⟨by rw [HF.out]; rfl, (Below.refl _ _).alloc (Nat.le_refl _) _⟩
      · have b0' : 0 ≤ be := by omega
        clear b0
        cases cr
        · have h1 := hits_can ki rk rv k1' k8'
          have h2 := hits_of (resT ki) rk rv (hitsB ki rk rv) rfl
          refine refMay_loop th ki ky va rk rv be en wh kp (hitsB ki rk rv) r (resT ki) w k1' k8' b0' rfl h2 ?_ ?_
          · refine Lib.hid ?_
            rw [HR.out, h1]
            simp [k1', k8', b0']
            cases canB ki rk <;> cases kp <;> simp
            cases (rv == 0 || valuedB ki rk) <;> simp
          · unfold resT; repeat' split
            all_goals simp
        · have HR2 : Hid (r = (en == -1 && (rk == 0 && rv == 0) && if wh = -1 then !kp else decide (be < wh) && !looksB ki)) := Lib.hid (by rw [HR.out]; simp [k1', k8', b0'])
          clear HR
          by_cases hw : wh = -1
          · subst hw
            cases kp
            all_goals
              go_enter Try.func39, Try.ntmps39
              go_wp2_with fail
              all_goals
                go_ret
                exact ⟨by rw [HR2.out]; first | rfl | (simp [*]; done), (Below.refl _ _).alloc (Nat.le_refl _) _⟩
          · have hw' : (wh == -1) = false := by simp [hw]
            have HR3 : Hid (r = (en == -1 && (rk == 0 && rv == 0) && (decide (be < wh) && !looksB ki))) := Lib.hid (by rw [HR2.out, if_neg hw])
            clear hw HR2
            by_cases h5 : be < wh
            · by_cases k5 : ki = 5
              · subst k5
                go_enter Try.func39, Try.ntmps39
                go_wp2_with fail
                all_goals
                  go_ret
                  exact ⟨by rw [HR3.out]; first | rfl | (simp [looksB, *]; done), (Below.refl _ _).alloc (Nat.le_refl _) _⟩
              · by_cases k7 : ki = 7
                · subst k7
                  go_enter Try.func39, Try.ntmps39
                  go_wp2_with fail
                  all_goals
                    go_ret
                    exact ⟨by rw [HR3.out]; first | rfl | (simp [looksB, *]; done), (Below.refl _ _).alloc (Nat.le_refl _) _⟩
                · have q5 : (ki == 5) = false := by simp [k5]
                  have q7 : (ki == 7) = false := by simp [k7]
                  have N7 := Lib.hid k7
                  have N5 := Lib.hid k5
                  clear k5 k7
                  go_enter Try.func39, Try.ntmps39
                  go_wp2_with fail
                  all_goals
                    go_ret
                    have n7 := N7.out
                    have n5 := N5.out
                    exact ⟨by rw [HR3.out]; first | rfl | (simp [looksB, *]; done), (Below.refl _ _).alloc (Nat.le_refl _) _⟩
            · have h5' : wh ≤ be := by omega
              clear h5
              go_enter Try.func39, Try.ntmps39
              go_wp2_with fail
              all_goals
                go_ret
                exact ⟨by rw [HR3.out]; first | rfl | (simp [looksB, *]; done) | (simp; intros; omega), (Below.refl _ _).alloc (Nat.le_refl _) _⟩
end Go.Proofs.Ytfjddkjfkgdihaa
