/- Walks of Tally.one, case by case (printed by w2.py). -/
import Derived.Test.YtfjddkjfkgdihaaW1
import Derived.Laws.Pointers
import Derived.RegionTactic
import Derived.BigRegion
import Derived.ChangeAlike
import Derived.BigQuiet
namespace Go.Proofs.Ytfjddkjfkgdihaa
open Go.RowKit Go.BigFrame
set_option linter.unusedVariables false
set_option linter.unusedSimpArgs false

theorem klo_F (F : Nat → Int) (ki th pl ol ne : Int) (dn : Bool) (j : Nat) (hj : j < 9) (k0 : ki < 0) : (upd F 0 (F 0 + 1)) j = F j + if (AccD.hit ⟨ki, th, pl, ol, ne, dn⟩ j) = true then 1 else 0 := by
  have kk : ¬ (1 ≤ ki ∧ ki ≤ 5) := by omega
  have k3 : ¬ ki = 3 := by omega
  have kw : (decide (1 ≤ ki) && decide (ki ≤ 3)) = false := by simp; omega
  rcases (show j = 0 ∨ j = 1 ∨ j = 2 ∨ j = 3 ∨ j = 4 ∨ j = 5 ∨ j = 6 ∨ j = 7 ∨ j = 8 by omega) with rfl | rfl | rfl | rfl | rfl | rfl | rfl | rfl | rfl <;> simp [upd, AccD.hit, AccD.kd, AccD.failB, AccD.wordB, kk, k3, kw]
theorem k0_F (F : Nat → Int) (th pl ol ne : Int) (dn : Bool) (j : Nat) (hj : j < 9) : (upd F 0 (F 0 + 1)) j = F j + if (AccD.hit ⟨0, th, pl, ol, ne, dn⟩ j) = true then 1 else 0 := by
  rcases (show j = 0 ∨ j = 1 ∨ j = 2 ∨ j = 3 ∨ j = 4 ∨ j = 5 ∨ j = 6 ∨ j = 7 ∨ j = 8 by omega) with rfl | rfl | rfl | rfl | rfl | rfl | rfl | rfl | rfl <;> simp [upd, AccD.hit, AccD.kd, AccD.failB, AccD.wordB]
theorem k1neg_F (F : Nat → Int) (th pl ol ne : Int) (dn : Bool) (j : Nat) (hj : j < 9) (p0 : pl < 0) : (upd (upd F 1 (F 1 + 1)) 8 (F 8 + 1)) j = F j + if (AccD.hit ⟨1, th, pl, ol, ne, dn⟩ j) = true then 1 else 0 := by
  rcases (show j = 0 ∨ j = 1 ∨ j = 2 ∨ j = 3 ∨ j = 4 ∨ j = 5 ∨ j = 6 ∨ j = 7 ∨ j = 8 by omega) with rfl | rfl | rfl | rfl | rfl | rfl | rfl | rfl | rfl <;> simp [upd, AccD.hit, AccD.kd, AccD.failB, AccD.wordB, p0, Int.not_le.2 p0]
theorem k1pos_F (F : Nat → Int) (th pl ol ne : Int) (dn : Bool) (j : Nat) (hj : j < 9) (p0 : 0 ≤ pl) : (upd (upd F 1 (F 1 + 1)) 7 (F 7 + 1)) j = F j + if (AccD.hit ⟨1, th, pl, ol, ne, dn⟩ j) = true then 1 else 0 := by
  rcases (show j = 0 ∨ j = 1 ∨ j = 2 ∨ j = 3 ∨ j = 4 ∨ j = 5 ∨ j = 6 ∨ j = 7 ∨ j = 8 by omega) with rfl | rfl | rfl | rfl | rfl | rfl | rfl | rfl | rfl <;> simp [upd, AccD.hit, AccD.kd, AccD.failB, AccD.wordB, p0, Int.not_lt.2 p0]
theorem k2neg_F (F : Nat → Int) (th pl ol ne : Int) (dn : Bool) (j : Nat) (hj : j < 9) (p0 : pl < 0) : (upd (upd F 2 (F 2 + 1)) 8 (F 8 + 1)) j = F j + if (AccD.hit ⟨2, th, pl, ol, ne, dn⟩ j) = true then 1 else 0 := by
  rcases (show j = 0 ∨ j = 1 ∨ j = 2 ∨ j = 3 ∨ j = 4 ∨ j = 5 ∨ j = 6 ∨ j = 7 ∨ j = 8 by omega) with rfl | rfl | rfl | rfl | rfl | rfl | rfl | rfl | rfl <;> simp [upd, AccD.hit, AccD.kd, AccD.failB, AccD.wordB, p0, Int.not_le.2 p0]
theorem k2pos_F (F : Nat → Int) (th pl ol ne : Int) (dn : Bool) (j : Nat) (hj : j < 9) (p0 : 0 ≤ pl) : (upd (upd F 2 (F 2 + 1)) 7 (F 7 + 1)) j = F j + if (AccD.hit ⟨2, th, pl, ol, ne, dn⟩ j) = true then 1 else 0 := by
  rcases (show j = 0 ∨ j = 1 ∨ j = 2 ∨ j = 3 ∨ j = 4 ∨ j = 5 ∨ j = 6 ∨ j = 7 ∨ j = 8 by omega) with rfl | rfl | rfl | rfl | rfl | rfl | rfl | rfl | rfl <;> simp [upd, AccD.hit, AccD.kd, AccD.failB, AccD.wordB, p0, Int.not_lt.2 p0]
theorem k3fneg_F (F : Nat → Int) (th pl ol ne : Int) (dn : Bool) (j : Nat) (hj : j < 9) (p0 : pl < 0) : (upd (upd (upd F 3 (F 3 + 1)) 6 (F 6 + 1)) 8 (F 8 + 1)) j = F j + if (AccD.hit ⟨3, th, pl, ol, ne, false⟩ j) = true then 1 else 0 := by
  rcases (show j = 0 ∨ j = 1 ∨ j = 2 ∨ j = 3 ∨ j = 4 ∨ j = 5 ∨ j = 6 ∨ j = 7 ∨ j = 8 by omega) with rfl | rfl | rfl | rfl | rfl | rfl | rfl | rfl | rfl <;> simp [upd, AccD.hit, AccD.kd, AccD.failB, AccD.wordB, p0, Int.not_le.2 p0]
theorem k3fpos_F (F : Nat → Int) (th pl ol ne : Int) (dn : Bool) (j : Nat) (hj : j < 9) (p0 : 0 ≤ pl) : (upd (upd (upd F 3 (F 3 + 1)) 6 (F 6 + 1)) 7 (F 7 + 1)) j = F j + if (AccD.hit ⟨3, th, pl, ol, ne, false⟩ j) = true then 1 else 0 := by
  rcases (show j = 0 ∨ j = 1 ∨ j = 2 ∨ j = 3 ∨ j = 4 ∨ j = 5 ∨ j = 6 ∨ j = 7 ∨ j = 8 by omega) with rfl | rfl | rfl | rfl | rfl | rfl | rfl | rfl | rfl <;> simp [upd, AccD.hit, AccD.kd, AccD.failB, AccD.wordB, p0, Int.not_lt.2 p0]
theorem k3tneg_F (F : Nat → Int) (th pl ol ne : Int) (dn : Bool) (j : Nat) (hj : j < 9) (p0 : pl < 0) : (upd (upd F 3 (F 3 + 1)) 8 (F 8 + 1)) j = F j + if (AccD.hit ⟨3, th, pl, ol, ne, true⟩ j) = true then 1 else 0 := by
  rcases (show j = 0 ∨ j = 1 ∨ j = 2 ∨ j = 3 ∨ j = 4 ∨ j = 5 ∨ j = 6 ∨ j = 7 ∨ j = 8 by omega) with rfl | rfl | rfl | rfl | rfl | rfl | rfl | rfl | rfl <;> simp [upd, AccD.hit, AccD.kd, AccD.failB, AccD.wordB, p0, Int.not_le.2 p0]
theorem k3tpos_F (F : Nat → Int) (th pl ol ne : Int) (dn : Bool) (j : Nat) (hj : j < 9) (p0 : 0 ≤ pl) : (upd (upd F 3 (F 3 + 1)) 7 (F 7 + 1)) j = F j + if (AccD.hit ⟨3, th, pl, ol, ne, true⟩ j) = true then 1 else 0 := by
  rcases (show j = 0 ∨ j = 1 ∨ j = 2 ∨ j = 3 ∨ j = 4 ∨ j = 5 ∨ j = 6 ∨ j = 7 ∨ j = 8 by omega) with rfl | rfl | rfl | rfl | rfl | rfl | rfl | rfl | rfl <;> simp [upd, AccD.hit, AccD.kd, AccD.failB, AccD.wordB, p0, Int.not_lt.2 p0]
theorem k4_F (F : Nat → Int) (th pl ol ne : Int) (dn : Bool) (j : Nat) (hj : j < 9) : (upd F 4 (F 4 + 1)) j = F j + if (AccD.hit ⟨4, th, pl, ol, ne, dn⟩ j) = true then 1 else 0 := by
  rcases (show j = 0 ∨ j = 1 ∨ j = 2 ∨ j = 3 ∨ j = 4 ∨ j = 5 ∨ j = 6 ∨ j = 7 ∨ j = 8 by omega) with rfl | rfl | rfl | rfl | rfl | rfl | rfl | rfl | rfl <;> simp [upd, AccD.hit, AccD.kd, AccD.failB, AccD.wordB]
theorem k5_F (F : Nat → Int) (th pl ol ne : Int) (dn : Bool) (j : Nat) (hj : j < 9) : (upd F 5 (F 5 + 1)) j = F j + if (AccD.hit ⟨5, th, pl, ol, ne, dn⟩ j) = true then 1 else 0 := by
  rcases (show j = 0 ∨ j = 1 ∨ j = 2 ∨ j = 3 ∨ j = 4 ∨ j = 5 ∨ j = 6 ∨ j = 7 ∨ j = 8 by omega) with rfl | rfl | rfl | rfl | rfl | rfl | rfl | rfl | rfl <;> simp [upd, AccD.hit, AccD.kd, AccD.failB, AccD.wordB]
theorem khi_F (F : Nat → Int) (ki th pl ol ne : Int) (dn : Bool) (j : Nat) (hj : j < 9) (k0 : 5 < ki) : (upd F 0 (F 0 + 1)) j = F j + if (AccD.hit ⟨ki, th, pl, ol, ne, dn⟩ j) = true then 1 else 0 := by
  have kk : ¬ (1 ≤ ki ∧ ki ≤ 5) := by omega
  have k3 : ¬ ki = 3 := by omega
  have kw : (decide (1 ≤ ki) && decide (ki ≤ 3)) = false := by simp; omega
  rcases (show j = 0 ∨ j = 1 ∨ j = 2 ∨ j = 3 ∨ j = 4 ∨ j = 5 ∨ j = 6 ∨ j = 7 ∨ j = 8 by omega) with rfl | rfl | rfl | rfl | rfl | rfl | rfl | rfl | rfl <;> simp [upd, AccD.hit, AccD.kd, AccD.failB, AccD.wordB, kk, k3, kw]
theorem th_in (T : Nat → Int) (m j : Nat) : upd T m (T m + 1) j = T j + if ((m : Nat) : Int) = (j : Int) then 1 else 0 := by
  unfold upd
  by_cases e : j = m
  · subst e; simp
  · rw [if_neg e, if_neg (by omega)]; omega
theorem th_out (T : Nat → Int) (th : Int) (n j : Nat) (hj : j < n) (h : th < 0 ∨ (n : Int) ≤ th) : T j = T j + if th = (j : Int) then 1 else 0 := by
  rw [if_neg (by omega)]; omega
theorem int_ne_of_lt {a b : Int} (h : a < b) : (a == b) = false := by simp; omega
end Go.Proofs.Ytfjddkjfkgdihaa
