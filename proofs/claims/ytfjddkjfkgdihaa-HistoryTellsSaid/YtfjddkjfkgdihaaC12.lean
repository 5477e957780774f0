/- Plain laws of layer 24: to be ahead leads on and never back; of a thread no two calls that answered overlap. -/
import Derived.Test.YtfjddkjfkgdihaaC8
namespace Go.Proofs.Ytfjddkjfkgdihaa
open Go.RowKit

theorem may_be (c : CallD) (h : c.mayB = true) : 0 ≤ c.be ∧ (c.en ≠ -1 → c.be < c.en) ∧ (c.cr = false → c.be < c.en) := by
  unfold CallD.mayB at h
  simp only [Bool.and_eq_true, decide_eq_true_eq] at h
  obtain ⟨⟨-, h0⟩, h1⟩ := h
  refine ⟨h0, fun he => ?_, fun hc => ?_⟩
  · cases hcr : c.cr
    · rw [hcr] at h1
      simp only [CallD.answeredB, Bool.and_eq_true, decide_eq_true_eq, Bool.false_eq_true, if_false] at h1
      obtain ⟨⟨⟨⟨-, h2⟩, h3⟩, -⟩, -⟩ := h1
      omega
    · rw [hcr] at h1
      simp only [CallD.brokenB, Bool.and_eq_true, beq_iff_eq, if_true] at h1
      exact absurd h1.1.1 he
  · rw [hc] at h1
    simp only [CallD.answeredB, Bool.and_eq_true, decide_eq_true_eq, Bool.false_eq_true, if_false] at h1
    obtain ⟨⟨⟨⟨-, h2⟩, h3⟩, -⟩, -⟩ := h1
    omega
theorem ahead_iff (a b : CallD) : a.aheadB b = true ↔ a.en ≠ -1 ∧ a.en ≤ b.be := by simp [CallD.aheadB]
theorem ahead_trans (a b c : CallD) (hb : b.mayB = true) (h1 : a.aheadB b = true) (h2 : b.aheadB c = true) : a.aheadB c = true := by
  rw [ahead_iff] at *
  have := (may_be b hb).2.1 h2.1
  omega
theorem ahead_anti (a b : CallD) (ha : a.mayB = true) (hb : b.mayB = true) (h1 : a.aheadB b = true) : b.aheadB a = false := by
  cases h : b.aheadB a
  · rfl
  · rw [ahead_iff] at h1 h
    have := (may_be b hb).2.1 h.1
    have := (may_be a ha).2.1 h1.1
    omega
theorem ahead_irr (a : CallD) (ha : a.mayB = true) : a.aheadB a = false := by
  cases h : a.aheadB a
  · rfl
  · rw [ahead_iff] at h
    have := (may_be a ha).2.1 h.1
    omega

theorem right_ok (c : Nat → CallD) (n k : Nat) (h : rightTo c n = true) (hk : k < n) : okAt c k = true := by
  cases ho : okAt c k
  · rw [rightTo_false c k n hk ho] at h; cases h
  · rfl
theorem right_may (c : Nat → CallD) (n k : Nat) (h : rightTo c n = true) (hk : k < n) : (c k).mayB = true := by
  have := right_ok c n k h hk
  unfold okAt at this
  simp only [Bool.and_eq_true] at this
  exact this.1.1
theorem right_mono (c : Nat → CallD) (n : Nat) (h : rightTo c n = true) (i k : Nat) (hik : i ≤ k) (hk : k < n) : (c i).be ≤ (c k).be := by
  induction k with
  | zero => rw [show i = 0 by omega]; exact Int.le_refl _
  | succ k ih =>
    by_cases e : i = k + 1
    · rw [e]; exact Int.le_refl _
    · have h1 := ih (by omega) (by omega)
      have := right_ok c n (k + 1) h hk
      unfold okAt at this
      simp only [Bool.and_eq_true, Nat.add_sub_cancel] at this
      have h2 := this.1.2
      simp at h2
      omega
/-- The next call of a thread. -/
theorem next_of (c : Nat → CallD) (t : Int) (i k : Nat) (hik : i < k) (hi : (c i).th = t) (hk : (c k).th = t) : ∃ j, i < j ∧ j ≤ k ∧ (c j).th = t ∧ lastOf c j t = some i := by
  induction k using Nat.strongRecOn with
  | ind k ih =>
    by_cases h : ∃ m, i < m ∧ m < k ∧ (c m).th = t
    · obtain ⟨m, h1, h2, h3⟩ := h
      obtain ⟨j, g1, g2, g3, g4⟩ := ih m h2 h1 h3
      exact ⟨j, g1, by omega, g3, g4⟩
    · refine ⟨k, hik, Nat.le_refl _, hk, ?_⟩
      rw [lastOf_skip c t k (i + 1) (by omega) fun m h1 h2 e => h ⟨m, by omega, h2, e⟩, lastOf, if_pos hi.symm]
theorem right_apart (c : Nat → CallD) (n : Nat) (h : rightTo c n = true) (i k : Nat) (hik : i < k) (hk : k < n) (hth : (c i).th = (c k).th) (hcr : (c i).cr = false) : (c i).aheadB (c k) = true := by
  obtain ⟨j, h1, h2, h3, h4⟩ := next_of c (c k).th i k hik hth rfl
  have hj := right_ok c n j h (by omega)
  unfold okAt at hj
  rw [h3, h4] at hj
  simp only [Bool.and_eq_true, hcr] at hj
  have h5 := hj.2
  simp at h5
  have h6 := right_mono c n h j k h2 hk
  have h7 := (may_be (c i) (right_may c n i h (by omega)))
  rw [ahead_iff]
  have := h7.2.2 hcr
  omega
theorem ovIn_mem (c : Nat → CallD) (i n : Nat) (p : Nat × Nat) (h : p ∈ ovIn c i n) : p.1 = i ∧ i < p.2 ∧ p.2 < n ∧ overB c i p.2 = true := by
  induction n with
  | zero => cases h
  | succ n ih =>
    rw [ovIn, List.mem_append] at h
    rcases h with h | h
    · obtain ⟨a, b, d, e⟩ := ih h; exact ⟨a, b, by omega, e⟩
    · split at h
      · rename_i hc
        simp at h; subst h
        exact ⟨rfl, hc.1, by omega, hc.2⟩
      · cases h
theorem ovTo_mem (c : Nat → CallD) (len n : Nat) (p : Nat × Nat) (h : p ∈ ovTo c len n) : p.1 < n ∧ p.1 < p.2 ∧ p.2 < len ∧ overB c p.1 p.2 = true := by
  induction n with
  | zero => cases h
  | succ n ih =>
    rw [ovTo, List.mem_append] at h
    rcases h with h | h
    · obtain ⟨a, b, d, e⟩ := ih h; exact ⟨by omega, b, d, e⟩
    · obtain ⟨h1, h2, h3, h4⟩ := ovIn_mem c n len p h
      rw [h1]; exact ⟨by omega, h2, h3, h4⟩
/-- Of a thread no two calls that answered overlap. -/
theorem over_apart (c : Nat → CallD) (n : Nat) (h : rightTo c n = true) (p : Nat × Nat) (hp : p ∈ ovTo c n n) (hth : (c p.1).th = (c p.2).th) : (c p.1).cr = true := by
  obtain ⟨h1, h2, h3, h4⟩ := ovTo_mem c n n p hp
  cases hcr : (c p.1).cr
  · have := right_apart c n h p.1 p.2 h2 h3 hth hcr
    unfold overB at h4
    rw [this] at h4
    cases h4
  · rfl
end Go.Proofs.Ytfjddkjfkgdihaa
