/- Plain laws of the library's stable sort: insertion, rotation, merging in place. No program here. -/
import Derived.WalkKit
import Derived.Lib.Hide
namespace Go.Proofs.Ytfjddkjfkgdihaa
open Go.RowKit
set_option linter.unusedVariables false

/-- By how often, the most often first; then by number. -/
def ltW (z : Nat → Int) (x y : Nat) : Prop := z y < z x ∨ (z x = z y ∧ x < y)
theorem ltW_trans {z : Nat → Int} {x y u : Nat} (h : ltW z x y) (k : ltW z y u) : ltW z x u := by unfold ltW at *; omega
def SrtOn (z : Nat → Int) (D : Nat → Nat) (a b : Nat) : Prop := ∀ p q, a ≤ p → p < q → q < b → ltW z (D p) (D q)
def AscOn (D : Nat → Nat) (a b : Nat) : Prop := ∀ p q, a ≤ p → p < q → q < b → D p < D q
/-- The same elements in [a, b), and all else as it was. -/
structure Same (D D' : Nat → Nat) (a b : Nat) : Prop where
  out : ∀ k, k < a ∨ b ≤ k → D' k = D k
  into : ∀ p, a ≤ p → p < b → ∃ q, a ≤ q ∧ q < b ∧ D' p = D q
  back : ∀ p, a ≤ p → p < b → ∃ q, a ≤ q ∧ q < b ∧ D p = D' q
theorem Same.refl (D : Nat → Nat) (a b : Nat) : Same D D a b := ⟨fun _ _ => rfl, fun p h1 h2 => ⟨p, h1, h2, rfl⟩, fun p h1 h2 => ⟨p, h1, h2, rfl⟩⟩
theorem Same.trans {D D' D'' : Nat → Nat} {a b : Nat} (h : Same D D' a b) (k : Same D' D'' a b) : Same D D'' a b :=
  ⟨fun i hi => (k.out i hi).trans (h.out i hi),
   fun p h1 h2 => by obtain ⟨q, g1, g2, e⟩ := k.into p h1 h2; obtain ⟨r, f1, f2, e'⟩ := h.into q g1 g2; exact ⟨r, f1, f2, e.trans e'⟩,
   fun p h1 h2 => by obtain ⟨q, g1, g2, e⟩ := h.back p h1 h2; obtain ⟨r, f1, f2, e'⟩ := k.back q g1 g2; exact ⟨r, f1, f2, e.trans e'⟩⟩
theorem Same.wide {D D' : Nat → Nat} {a b a' b' : Nat} (h : Same D D' a b) (h1 : a' ≤ a) (h2 : b ≤ b') : Same D D' a' b' := by
  refine ⟨fun i hi => h.out i (by omega), fun p g1 g2 => ?_, fun p g1 g2 => ?_⟩
  · by_cases hp : a ≤ p ∧ p < b
    · obtain ⟨q, f1, f2, e⟩ := h.into p hp.1 hp.2; exact ⟨q, by omega, by omega, e⟩
    · exact ⟨p, g1, g2, h.out p (by omega)⟩
  · by_cases hp : a ≤ p ∧ p < b
    · obtain ⟨q, f1, f2, e⟩ := h.back p hp.1 hp.2; exact ⟨q, by omega, by omega, e⟩
    · exact ⟨p, g1, g2, (h.out p (by omega)).symm⟩

def swapD (D : Nat → Nat) (i j : Nat) : Nat → Nat := fun k => if k = i then D j else if k = j then D i else D k
theorem swapD_same (D : Nat → Nat) {i j a b : Nat} (hi : a ≤ i ∧ i < b) (hj : a ≤ j ∧ j < b) : Same D (swapD D i j) a b := by
  refine ⟨fun k hk => ?_, fun p h1 h2 => ?_, fun p h1 h2 => ?_⟩
  · unfold swapD; rw [if_neg (by omega), if_neg (by omega)]
  · unfold swapD
    by_cases e1 : p = i
    · rw [if_pos e1]; exact ⟨j, hj.1, hj.2, rfl⟩
    · rw [if_neg e1]
      by_cases e2 : p = j
      · rw [if_pos e2]; exact ⟨i, hi.1, hi.2, rfl⟩
      · rw [if_neg e2]; exact ⟨p, h1, h2, rfl⟩
  · unfold swapD
    by_cases e1 : p = i
    · refine ⟨j, hj.1, hj.2, ?_⟩
      by_cases e : j = i
      · rw [if_pos e, e1, e]
      · rw [if_neg e, if_pos rfl, e1]
    · by_cases e2 : p = j
      · exact ⟨i, hi.1, hi.2, by rw [if_pos rfl, e2]⟩
      · exact ⟨p, h1, h2, by rw [if_neg e1, if_neg e2]⟩

/-! Insertion. -/
structure InsIn (z : Nat → Int) (D0 : Nat → Nat) (a i j : Nat) (D : Nat → Nat) : Prop where
  same : Same D0 D a (i + 1)
  rest : ∀ p q, a ≤ p → p < q → q ≤ i → p ≠ j → q ≠ j → ltW z (D p) (D q)
  above : ∀ q, j < q → q ≤ i → ltW z (D j) (D q)
  num : ∀ p, a ≤ p → p ≤ i → p ≠ j → D p < D j
theorem InsIn.start {z : Nat → Int} {D0 D : Nat → Nat} {a b i : Nat} (hA : AscOn D0 a b) (hs : Same D0 D a i) (ho : SrtOn z D a i) (hi : a ≤ i) (hb : i < b) : InsIn z D0 a i i D := by
  refine ⟨hs.wide (Nat.le_refl _) (by omega), fun p q h1 h2 h3 h4 h5 => ho p q h1 h2 (by omega), fun q h1 h2 => by omega, fun p h1 h2 h3 => ?_⟩
  obtain ⟨q, g1, g2, e⟩ := hs.into p h1 (by omega)
  rw [e, hs.out i (by omega)]
  exact hA q i g1 g2 hb
theorem InsIn.go {z : Nat → Int} {D0 D : Nat → Nat} {a i j : Nat} (h : InsIn z D0 a i j D) (hj : a < j) (hji : j ≤ i) (hc : z (D (j - 1)) < z (D j)) : InsIn z D0 a i (j - 1) (swapD D j (j - 1)) := by
  have e : ∀ p, swapD D j (j - 1) p = if p = j then D (j - 1) else if p = j - 1 then D j else D p := fun _ => rfl
  refine ⟨h.same.trans (swapD_same D ⟨by omega, by omega⟩ ⟨by omega, by omega⟩), fun p q h1 h2 h3 h4 h5 => ?_, fun q h1 h2 => ?_, fun p h1 h2 h3 => ?_⟩
  · rw [e, e]
    by_cases e1 : p = j
    · rw [if_pos e1, if_neg (by omega), if_neg (by omega)]
      exact h.rest (j - 1) q (by omega) (by omega) h3 (by omega) (by omega)
    · rw [if_neg e1, if_neg h4]
      by_cases e2 : q = j
      · rw [if_pos e2]; exact h.rest p (j - 1) h1 (by omega) (by omega) e1 (by omega)
      · rw [if_neg e2, if_neg h5]; exact h.rest p q h1 h2 h3 e1 e2
  · rw [e, e, if_neg (by omega), if_pos rfl]
    by_cases e1 : q = j
    · rw [if_pos e1]; exact .inl hc
    · rw [if_neg e1, if_neg (by omega)]; exact h.above q (by omega) h2
  · rw [e, e, if_neg (show ¬ j - 1 = j by omega), if_pos rfl]
    by_cases e1 : p = j
    · rw [if_pos e1]; exact h.num (j - 1) (by omega) (by omega) (by omega)
    · rw [if_neg e1, if_neg h3]; exact h.num p h1 h2 e1
theorem InsIn.stop {z : Nat → Int} {D0 D : Nat → Nat} {a i j : Nat} (h : InsIn z D0 a i j D) (haj : a ≤ j) (hji : j ≤ i) (hc : j = a ∨ ¬ z (D (j - 1)) < z (D j)) : SrtOn z D a (i + 1) := by
  intro p q h1 h2 h3
  by_cases e1 : p = j
  · subst e1; exact h.above q h2 (by omega)
  · by_cases e2 : q = j
    · subst e2
      have hq : ¬ z (D (q - 1)) < z (D q) := by rcases hc with h | h; omega; exact h
      have h4 : ltW z (D (q - 1)) (D q) := by
        have := h.num (q - 1) (by omega) (by omega) (by omega)
        unfold ltW; omega
      by_cases e3 : p = q - 1
      · subst e3; exact h4
      · exact ltW_trans (h.rest p (q - 1) h1 (by omega) (by omega) e1 (by omega)) h4
    · exact h.rest p q h1 h2 (by omega) e1 e2

/-! Ranges swapped; rotation. -/
def swR (D : Nat → Nat) (a b n : Nat) : Nat → Nat := fun k => if a ≤ k ∧ k < a + n then D (k - a + b) else if b ≤ k ∧ k < b + n then D (k - b + a) else D k
theorem swR_zero (D : Nat → Nat) (a b : Nat) : swR D a b 0 = D := by
  funext k; unfold swR; rw [if_neg (by omega), if_neg (by omega)]
theorem swR_succ (D : Nat → Nat) {a b n i : Nat} (hd : a + n ≤ b) (hi : i < n) : swR D a b (i + 1) = swapD (swR D a b i) (a + i) (b + i) := by
  funext k
  unfold swapD swR
  by_cases e1 : k = a + i
  · subst e1
    rw [if_pos (by omega), if_pos rfl, if_neg (by omega), if_neg (by omega)]; congr 1; omega
  · rw [if_neg e1]
    by_cases e2 : k = b + i
    · subst e2
      rw [if_neg (by omega), if_pos (by omega), if_pos rfl, if_neg (by omega), if_neg (by omega)]; congr 1; omega
    · rw [if_neg e2]
      by_cases e3 : a ≤ k ∧ k < a + i
      · rw [if_pos (by omega), if_pos e3]
      · rw [if_neg (by omega), if_neg e3]
        by_cases e4 : b ≤ k ∧ k < b + i
        · rw [if_pos (by omega), if_pos e4]
        · rw [if_neg (by omega), if_neg e4]
def rotF (D : Nat → Nat) (a m b : Nat) : Nat → Nat := fun k => if a ≤ k ∧ k < a + (b - m) then D (k - a + m) else if a + (b - m) ≤ k ∧ k < b then D (k - (b - m)) else D k
theorem rot_left (D : Nat → Nat) {a m j : Nat} (h : a + j < m) : rotF (swR D a m j) (a + j) m (m + j) = rotF D a m (m + j) := by
  funext k
  unfold rotF swR
  rw [show m + j - m = j by omega]
  by_cases e1 : a ≤ k ∧ k < a + j
  · rw [if_neg (by omega), if_neg (by omega), if_pos e1, if_pos e1]
  · by_cases e2 : a + j ≤ k ∧ k < a + j + j
    · rw [if_pos e2, if_neg (by omega), if_pos (by omega), if_neg (by omega), if_pos (by omega)]; congr 1; omega
    · by_cases e3 : a + j + j ≤ k ∧ k < m + j
      · rw [if_neg (by omega), if_pos (by omega), if_neg (by omega), if_neg (by omega), if_neg (by omega), if_pos (by omega)]
      · rw [if_neg (by omega), if_neg (by omega), if_neg (by omega), if_neg (by omega), if_neg (by omega), if_neg (by omega)]
theorem rot_right (D : Nat → Nat) {a m i j : Nat} (ha : a + i = m) (h : i < j) : rotF (swR D a (m + j - i) i) a m (m + (j - i)) = rotF D a m (m + j) := by
  funext k
  unfold rotF swR
  by_cases e1 : a ≤ k ∧ k < a + i
  · by_cases e2 : k < a + (j - i)
    · rw [if_pos (by omega)]
      by_cases e3 : k - a + m < m + j - i
      · rw [if_neg (by omega), if_neg (by omega), if_pos (by omega)]
      · omega
    · rw [if_neg (by omega), if_pos (by omega), if_pos (by omega), if_pos (by omega)]; congr 1; omega
  · by_cases e2 : a + i ≤ k ∧ k < a + j
    · by_cases e3 : k < a + (j - i)
      · rw [if_pos (by omega), if_neg (by omega), if_neg (by omega), if_pos (by omega)]
      · rw [if_neg (by omega), if_pos (by omega), if_pos (by omega), if_pos (by omega)]; congr 1; omega
    · by_cases e3 : a + j ≤ k ∧ k < m + j
      · rw [if_neg (by omega), if_neg (by omega), if_neg (by omega), if_pos (by omega), if_neg (by omega), if_pos (by omega)]; congr 1; omega
      · rw [if_neg (by omega), if_neg (by omega), if_neg (by omega), if_neg (by omega), if_neg (by omega), if_neg (by omega)]
theorem rot_end (D : Nat → Nat) {a m i : Nat} (ha : a + i = m) : swR D a m i = rotF D a m (m + i) := by
  funext k
  unfold rotF swR
  by_cases e1 : a ≤ k ∧ k < a + i
  · rw [if_pos e1, if_pos (by omega)]
  · rw [if_neg e1]
    by_cases e2 : m ≤ k ∧ k < m + i
    · rw [if_pos e2, if_neg (by omega), if_pos (by omega)]; congr 1; omega
    · rw [if_neg e2, if_neg (by omega), if_neg (by omega)]
theorem rot_same (D : Nat → Nat) {a m b : Nat} (h1 : a ≤ m) (h2 : m ≤ b) : Same D (rotF D a m b) a b := by
  refine ⟨fun k hk => ?_, fun p g1 g2 => ?_, fun p g1 g2 => ?_⟩
  · unfold rotF; rw [if_neg (by omega), if_neg (by omega)]
  · unfold rotF
    by_cases e : p < a + (b - m)
    · rw [if_pos (by omega)]; exact ⟨_, by omega, by omega, rfl⟩
    · rw [if_neg (by omega), if_pos (by omega)]; exact ⟨_, by omega, by omega, rfl⟩
  · unfold rotF
    by_cases e : p < m
    · refine ⟨p + (b - m), by omega, by omega, ?_⟩
      rw [if_neg (by omega), if_pos (by omega)]; congr 1; omega
    · refine ⟨p - m + a, by omega, by omega, ?_⟩
      rw [if_pos (by omega)]; congr 1; omega
theorem rot_none (D : Nat → Nat) {a m b : Nat} (h1 : a ≤ m) (h2 : m ≤ b) (h : a = m ∨ m = b) : rotF D a m b = D := by
  funext k
  unfold rotF
  by_cases e : a ≤ k ∧ k < a + (b - m)
  · rw [if_pos e]; congr 1; omega
  · rw [if_neg e]
    by_cases e2 : a + (b - m) ≤ k ∧ k < b
    · rw [if_pos e2]; congr 1; omega
    · rw [if_neg e2]

/-! Two runs side by side, merged in place. -/
structure Runs (z : Nat → Int) (D : Nat → Nat) (a m b : Nat) : Prop where
  left : SrtOn z D a m
  right : SrtOn z D m b
  num : ∀ p q, a ≤ p → p < m → m ≤ q → q < b → D p < D q
def Merged (z : Nat → Int) (D D' : Nat → Nat) (a b : Nat) : Prop := SrtOn z D' a b ∧ Same D D' a b
theorem srt_le {z : Nat → Int} {D : Nat → Nat} {a b p q : Nat} (h : SrtOn z D a b) (h1 : a ≤ p) (h2 : p ≤ q) (h3 : q < b) : z (D q) ≤ z (D p) := by
  by_cases e : p = q
  · subst e; exact Int.le_refl _
  · have := h p q h1 (by omega) h3; unfold ltW at this; omega
/-- One element alone on the left: up to i go those on the right that are ahead of it. -/
theorem merge_one {z : Nat → Int} {D : Nat → Nat} {a b i : Nat} (h : Runs z D a (a + 1) b) (hi : a + 1 ≤ i) (hib : i ≤ b) (hlo : ∀ k, a + 1 ≤ k → k < i → z (D a) < z (D k)) (hhi : ∀ k, i ≤ k → k < b → ¬ z (D a) < z (D k)) :
    Merged z D (rotF D a (a + 1) i) a b := by
  refine ⟨fun p q h1 h2 h3 => ?_, (rot_same D (by omega) hi).wide (Nat.le_refl _) hib⟩
  have low : ∀ k, a ≤ k → k + 1 < i → rotF D a (a + 1) i k = D (k + 1) := fun k g1 g2 => by
    unfold rotF; rw [if_pos (by omega)]; congr 1; omega
  have mid : rotF D a (a + 1) i (i - 1) = D a := by unfold rotF; rw [if_neg (by omega), if_pos (by omega)]; congr 1; omega
  have high : ∀ k, i ≤ k → rotF D a (a + 1) i k = D k := fun k g => by unfold rotF; rw [if_neg (by omega), if_neg (by omega)]
  have down : ∀ k, a + 1 ≤ k → k < i → ltW z (D k) (D a) := fun k g1 g2 => .inl (hlo k g1 g2)
  have up : ∀ k, i ≤ k → k < b → ltW z (D a) (D k) := fun k g1 g2 => by
    have := hhi k g1 g2; have := h.num a k (Nat.le_refl _) (by omega) (by omega) g2; unfold ltW; omega
  by_cases e1 : p + 1 < i
  · rw [low p h1 e1]
    by_cases e2 : q + 1 < i
    · rw [low q (by omega) e2]; exact h.right _ _ (by omega) (by omega) (by omega)
    · by_cases e3 : q = i - 1
      · rw [e3, mid]; exact down _ (by omega) (by omega)
      · rw [high q (by omega)]; exact h.right _ _ (by omega) (by omega) h3
  · by_cases e2 : p = i - 1
    · rw [e2, mid, high q (by omega)]; exact up _ (by omega) h3
    · rw [high p (by omega), high q (by omega)]; exact h.right _ _ (by omega) h2 h3
/-- One element alone on the right. -/
theorem merge_last {z : Nat → Int} {D : Nat → Nat} {a m i : Nat} (h : Runs z D a m (m + 1)) (hi : a ≤ i) (him : i ≤ m) (hlo : ∀ k, a ≤ k → k < i → ¬ z (D k) < z (D m)) (hhi : ∀ k, i ≤ k → k < m → z (D k) < z (D m)) :
    Merged z D (rotF D i m (m + 1)) a (m + 1) := by
  refine ⟨fun p q h1 h2 h3 => ?_, (rot_same D him (by omega)).wide hi (Nat.le_refl _)⟩
  have low : ∀ k, k < i → rotF D i m (m + 1) k = D k := fun k g => by unfold rotF; rw [if_neg (by omega), if_neg (by omega)]
  have mid : rotF D i m (m + 1) i = D m := by unfold rotF; rw [if_pos (by omega)]; congr 1; omega
  have high : ∀ k, i < k → k ≤ m → rotF D i m (m + 1) k = D (k - 1) := fun k g1 g2 => by unfold rotF; rw [if_neg (by omega), if_pos (by omega)]; congr 1; omega
  have down : ∀ k, a ≤ k → k < i → ltW z (D k) (D m) := fun k g1 g2 => by
    have := hlo k g1 g2; have := h.num k m g1 (by omega) (Nat.le_refl _) (by omega); unfold ltW; omega
  have up : ∀ k, i ≤ k → k < m → ltW z (D m) (D k) := fun k g1 g2 => .inl (hhi k g1 g2)
  by_cases e1 : p < i
  · rw [low p e1]
    by_cases e2 : q < i
    · rw [low q e2]; exact h.left _ _ h1 h2 (by omega)
    · by_cases e3 : q = i
      · rw [e3, mid]; exact down _ h1 e1
      · rw [high q (by omega) (by omega)]; exact h.left _ _ h1 (by omega) (by omega)
  · by_cases e2 : p = i
    · rw [e2, mid, high q (by omega) (by omega)]; exact up _ (by omega) (by omega)
    · rw [high p (by omega) (by omega), high q (by omega) (by omega)]; exact h.left _ _ (by omega) (by omega) (by omega)

/-- Where the two runs are cut: s on the left, e on the right. -/
structure CutAt (z : Nat → Int) (D : Nat → Nat) (a m b s e : Nat) : Prop where
  runs : Runs z D a m b
  s0 : a ≤ s
  s1 : s ≤ m
  e0 : m ≤ e
  e1 : e ≤ b
  lowHigh : ∀ p q, a ≤ p → p < s → e ≤ q → q < b → ¬ z (D p) < z (D q)
  highLow : ∀ p q, m ≤ p → p < e → s ≤ q → q < m → z (D q) < z (D p)
theorem CutAt.rot {z : Nat → Int} {D : Nat → Nat} {a m b s e mid : Nat} (h : CutAt z D a m b s e) (hm : s + (e - m) = mid) :
    Runs z (rotF D s m e) a s mid ∧ Runs z (rotF D s m e) mid e b ∧ (∀ p q, a ≤ p → p < mid → mid ≤ q → q < b → ltW z (rotF D s m e p) (rotF D s m e q)) ∧ Same D (rotF D s m e) a b := by
  obtain ⟨hr, s0, s1, e0, e1, hlh, hhl⟩ := h
  have A : ∀ k, k < s → rotF D s m e k = D k := fun k g => by unfold rotF; rw [if_neg (by omega), if_neg (by omega)]
  have B : ∀ k, s ≤ k → k < mid → rotF D s m e k = D (k - s + m) := fun k g1 g2 => by unfold rotF; rw [if_pos (by omega)]
  have C : ∀ k, mid ≤ k → k < e → rotF D s m e k = D (k - (e - m)) := fun k g1 g2 => by unfold rotF; rw [if_neg (by omega), if_pos (by omega)]
  have E : ∀ k, e ≤ k → rotF D s m e k = D k := fun k g => by unfold rotF; rw [if_neg (by omega), if_neg (by omega)]
  have lh : ∀ p q, a ≤ p → p < s → e ≤ q → q < b → ltW z (D p) (D q) := fun p q g1 g2 g3 g4 => by
    have := hlh p q g1 g2 g3 g4; have := hr.num p q g1 (by omega) (by omega) g4; unfold ltW; omega
  have hl : ∀ p q, m ≤ p → p < e → s ≤ q → q < m → ltW z (D p) (D q) := fun p q g1 g2 g3 g4 => .inl (hhl p q g1 g2 g3 g4)
  refine ⟨⟨fun p q g1 g2 g3 => ?_, fun p q g1 g2 g3 => ?_, fun p q g1 g2 g3 g4 => ?_⟩, ⟨fun p q g1 g2 g3 => ?_, fun p q g1 g2 g3 => ?_, fun p q g1 g2 g3 g4 => ?_⟩, fun p q g1 g2 g3 g4 => ?_, (rot_same D s1 e0).wide s0 e1⟩
  · rw [A p (by omega), A q g3]; exact hr.left p q g1 g2 (by omega)
  · rw [B p g1 (by omega), B q (by omega) g3]; exact hr.right _ _ (by omega) (by omega) (by omega)
  · rw [A p g2, B q g3 g4]; exact hr.num _ _ g1 (by omega) (by omega) (by omega)
  · rw [C p g1 (by omega), C q (by omega) g3]; exact hr.left _ _ (by omega) (by omega) (by omega)
  · rw [E p g1, E q (by omega)]; exact hr.right _ _ (by omega) g2 g3
  · rw [C p g1 g2, E q g3]; exact hr.num _ _ (by omega) (by omega) (by omega) g4
  · by_cases c1 : p < s
    · rw [A p c1]
      by_cases c2 : q < e
      · rw [C q g3 c2]; exact hr.left _ _ g1 (by omega) (by omega)
      · rw [E q (by omega)]; exact lh _ _ g1 c1 (by omega) g4
    · rw [B p (by omega) g2]
      by_cases c2 : q < e
      · rw [C q g3 c2]; exact hl _ _ (by omega) (by omega) (by omega) (by omega)
      · rw [E q (by omega)]; exact hr.right _ _ (by omega) (by omega) g4
/-- Both halves merged. -/
theorem merge_both {z : Nat → Int} {D D1 D2 D3 : Nat → Nat} {a mid b : Nat} (h1 : Same D D1 a b) (hx : ∀ p q, a ≤ p → p < mid → mid ≤ q → q < b → ltW z (D1 p) (D1 q)) (hm : a ≤ mid ∧ mid ≤ b) (h2 : Merged z D1 D2 a mid) (h3 : Merged z D2 D3 mid b) : Merged z D D3 a b := by
  refine ⟨fun p q g1 g2 g3 => ?_, h1.trans ((h2.2.wide (Nat.le_refl _) hm.2).trans (h3.2.wide hm.1 (Nat.le_refl _)))⟩
  by_cases c1 : q < mid
  · rw [h3.2.out p (by omega), h3.2.out q (by omega)]; exact h2.1 p q g1 g2 c1
  · by_cases c2 : p < mid
    · rw [h3.2.out p (by omega)]
      obtain ⟨p', f1, f2, e1⟩ := h2.2.into p g1 c2
      obtain ⟨q', f3, f4, e2⟩ := h3.2.into q (by omega) g3
      rw [e1, e2, h2.2.out q' (by omega)]
      exact hx _ _ f1 f2 f3 f4
    · exact h3.1 p q (by omega) g2 g3
/-- A run beside nothing is merged. -/
theorem merge_none {z : Nat → Int} {D : Nat → Nat} {a s b : Nat} (h : Runs z D a s b) (hs : ¬ (a < s ∧ s < b)) (h1 : a ≤ s) (h2 : s ≤ b) : Merged z D D a b := by
  refine ⟨?_, Same.refl _ _ _⟩
  by_cases e : a = s
  · subst e; exact h.right
  · obtain rfl : s = b := by omega
    exact h.left

/-! The cut is found by halving. -/
structure Half (z : Nat → Int) (D : Nat → Nat) (p s0 r0 s r : Nat) : Prop where
  s1 : s0 ≤ s
  sr : s ≤ r
  r1 : r ≤ r0
  no : ∀ c, s0 ≤ c → c < s → ¬ z (D c) < z (D (p - c))
  yes : ∀ c, r ≤ c → c < r0 → z (D c) < z (D (p - c))
theorem Half.up {z : Nat → Int} {D : Nat → Nat} {p s0 r0 s r c : Nat} (h : Half z D p s0 r0 s r) (h1 : s ≤ c) (h2 : c < r) (mono : ∀ k, s0 ≤ k → k ≤ c → z (D c) ≤ z (D k) ∧ z (D (p - k)) ≤ z (D (p - c))) (hn : ¬ z (D c) < z (D (p - c))) : Half z D p s0 r0 (c + 1) r :=
  ⟨by have := h.s1; omega, by omega, h.r1, fun k g1 g2 => by have := mono k g1 (by omega); omega, h.yes⟩
theorem Half.down {z : Nat → Int} {D : Nat → Nat} {p s0 r0 s r c : Nat} (h : Half z D p s0 r0 s r) (h1 : s ≤ c) (h2 : c < r) (mono : ∀ k, c ≤ k → k < r0 → z (D k) ≤ z (D c) ∧ z (D (p - c)) ≤ z (D (p - k))) (hn : z (D c) < z (D (p - c))) : Half z D p s0 r0 s c :=
  ⟨h.s1, h1, by have := h.r1; omega, h.no, fun k g1 g2 => by have := mono k g1 g2; omega⟩
/-- Where start and r begin. -/
def cutLo (a m b : Nat) : Nat := if (a + b) / 2 < m then (a + b) / 2 + m - b else a
def cutHi (a m b : Nat) : Nat := if (a + b) / 2 < m then (a + b) / 2 else m
theorem cut_bd {a m b : Nat} (h1 : a < m) (h2 : m < b) : a ≤ cutLo a m b ∧ cutLo a m b ≤ cutHi a m b ∧ cutHi a m b ≤ m ∧ (a + b) / 2 + m ≤ b + cutLo a m b ∧ cutHi a m b ≤ (a + b) / 2 := by
  unfold cutLo cutHi; split <;> omega
theorem cut_mono {z : Nat → Int} {D : Nat → Nat} {a m b : Nat} (h : Runs z D a m b) (h1 : a < m) (h2 : m < b) {c k : Nat} (g0 : cutLo a m b ≤ c) (g1 : c ≤ k) (g2 : k < cutHi a m b) :
    z (D k) ≤ z (D c) ∧ z (D ((a + b) / 2 + m - 1 - c)) ≤ z (D ((a + b) / 2 + m - 1 - k)) := by
  obtain ⟨b1, b2, b3, b4, b5⟩ := cut_bd h1 h2
  exact ⟨srt_le h.left (by omega) g1 (by omega), srt_le h.right (by omega) (by omega) (by omega)⟩
theorem half_done {z : Nat → Int} {D : Nat → Nat} {a m b s : Nat} (h : Runs z D a m b) (h1 : a < m) (h2 : m < b) (hh : Half z D ((a + b) / 2 + m - 1) (cutLo a m b) (cutHi a m b) s s) : CutAt z D a m b s ((a + b) / 2 + m - s) := by
  obtain ⟨b1, b2, b3, b4, b5⟩ := cut_bd h1 h2
  have s1 := hh.s1; have r1 := hh.r1
  refine ⟨h, by omega, by omega, by omega, by omega, fun p q g1 g2 g3 g4 => ?_, fun p q g1 g2 g3 g4 => ?_⟩
  · have hlo : cutLo a m b < s := by
      rcases Nat.lt_or_eq_of_le s1 with h | h
      · exact h
      · exfalso; unfold cutLo at h; split at h <;> omega
    have n := hh.no (s - 1) (by omega) (by omega)
    have z1 := srt_le h.left g1 (show p ≤ s - 1 by omega) (by omega)
    have z2 := srt_le h.right (show m ≤ (a + b) / 2 + m - s by omega) g3 g4
    rw [show (a + b) / 2 + m - 1 - (s - 1) = (a + b) / 2 + m - s by omega] at n
    omega
  · have hhi : s < cutHi a m b := by
      rcases Nat.lt_or_eq_of_le r1 with h | h
      · exact h
      · exfalso; unfold cutHi at h; split at h <;> omega
    have y := hh.yes s (Nat.le_refl _) hhi
    have z1 := srt_le h.left (show a ≤ s by omega) g3 g4
    have z2 := srt_le h.right g1 (show p ≤ (a + b) / 2 + m - 1 - s by omega) (by omega)
    omega
end Go.Proofs.Ytfjddkjfkgdihaa
