/- Walk of the reference's Hot (layer 33): again and again the best of what is left. -/
import Derived.Test.YtfjddkjfkgdihaaF8
import Derived.Deep.OwnRows
namespace Go.Proofs.Ytfjddkjfkgdihaa
open Go.RowKit Go.BigFrame
set_option linter.unusedVariables false
set_option linter.unusedSimpArgs false

def Cand (z : Nat → Int) (R : Nat → Nat) (len j t : Nat) : Prop := t < len ∧ 0 < z t ∧ ∀ p, p < j → R p ≠ t
def PickTo (z : Nat → Int) (R : Nat → Nat) (len j n : Nat) (best : Int) : Prop :=
  (best = -1 ∧ ∀ t, t < n → ¬ Cand z R len j t) ∨ ∃ x : Nat, best = x ∧ x < n ∧ Cand z R len j x ∧ ∀ t, t < n → Cand z R len j t → t = x ∨ ltW z x t
theorem PickTo.skip {z : Nat → Int} {R : Nat → Nat} {len j n : Nat} {best : Int} (h : PickTo z R len j n best) (hc : ¬ Cand z R len j n) : PickTo z R len j (n + 1) best := by
  rcases h with ⟨e, h⟩ | ⟨x, e, hx, hcx, h⟩
  · exact .inl ⟨e, fun t ht => by
      by_cases e : t = n
      · subst e; exact hc
      · exact h t (by omega)⟩
  · exact .inr ⟨x, e, by omega, hcx, fun t ht hct => by
      by_cases e : t = n
      · subst e; exact absurd hct hc
      · exact h t (by omega) hct⟩
theorem PickTo.take {z : Nat → Int} {R : Nat → Nat} {len j n : Nat} {best : Int} (h : PickTo z R len j n best) (hc : Cand z R len j n) (hb : best = -1 ∨ ∃ x : Nat, best = x ∧ z x < z n) : PickTo z R len j (n + 1) n := by
  refine .inr ⟨n, rfl, by omega, hc, fun t ht hct => ?_⟩
  by_cases e : t = n
  · exact .inl e
  · right
    rcases h with ⟨-, h⟩ | ⟨x, e2, hx, hcx, h⟩
    · exact absurd hct (h t (by omega))
    · rcases hb with hb | ⟨y, hb, hz⟩
      · omega
      · obtain rfl : x = y := by omega
        rcases h t (by omega) hct with rfl | h
        · exact .inl hz
        · unfold ltW at *; omega
theorem PickTo.keep {z : Nat → Int} {R : Nat → Nat} {len j n x : Nat} (h : PickTo z R len j n x) (hz : ¬ z x < z n) : PickTo z R len j (n + 1) x := by
  rcases h with ⟨e, -⟩ | ⟨y, e, hx, hcx, h⟩
  · omega
  · obtain rfl : x = y := by omega
    refine .inr ⟨x, rfl, by omega, hcx, fun t ht hct => ?_⟩
    by_cases e : t = n
    · subst e; right; unfold ltW; omega
    · exact h t (by omega) hct
theorem PickTo.end_ {z : Nat → Int} {R : Nat → Nat} {len j m : Nat} {best : Int} (h : PickTo z R len j len best) (hB : Best z len m R) (hj : j ≤ m) : (best = -1 ∧ j = m) ∨ (best = (R j : Nat) ∧ j < m) := by
  have hinj : ∀ p q, p < q → q < m → R p ≠ R q := fun p q h1 h2 e => by
    have := hB.srt p q (Nat.zero_le _) h1 h2; rw [e] at this; unfold ltW at this; omega
  have hcand : j < m → Cand z R len j (R j) := fun hlt => ⟨(hB.into j hlt).1, (hB.into j hlt).2, fun p hp => hinj p j hp hlt⟩
  rcases h with ⟨e, h⟩ | ⟨x, e, hx, ⟨hc1, hc2, hc3⟩, h⟩
  · left
    refine ⟨e, ?_⟩
    rcases Nat.lt_or_eq_of_le hj with hlt | he
    · exact absurd (hcand hlt) (h _ (hB.into j hlt).1)
    · exact he
  · right
    obtain ⟨p, hp, rfl⟩ := hB.all x hc1 hc2
    have hjp : j ≤ p := by
      rcases Nat.lt_or_ge p j with hlt | hge
      · exact absurd rfl (hc3 p hlt)
      · exact hge
    have hjm : j < m := by omega
    refine ⟨?_, hjm⟩
    rw [e]
    rcases h (R j) (hB.into j hjm).1 (hcand hjm) with e2 | hlt
    · rw [e2]
    · by_cases e3 : j = p
      · rw [e3]
      · have := hB.srt j p (Nat.zero_le _) (by omega) hp
        unfold ltW at *; omega

/-- Which lines are gone. -/
def goneB (R : Nat → Nat) (j t : Nat) : Bool := (List.range j).any fun p => R p == t
theorem goneB_true {R : Nat → Nat} {j t : Nat} : goneB R j t = true ↔ ∃ p, p < j ∧ R p = t := by unfold goneB; simp
theorem goneB_false {R : Nat → Nat} {j t : Nat} : goneB R j t = false ↔ ∀ p, p < j → R p ≠ t := by unfold goneB; simp
theorem goneB_succ (R : Nat → Nat) (j t : Nat) : goneB R (j + 1) t = if t = R j then true else goneB R j t := by
  by_cases e : t = R j
  · rw [if_pos e, goneB_true]; exact ⟨j, by omega, e.symm⟩
  · rw [if_neg e, Bool.eq_iff_iff, goneB_true, goneB_true]
    constructor
    · rintro ⟨p, hp, e2⟩
      exact ⟨p, by have : p ≠ j := fun e3 => by { rw [e3] at e2; exact e e2.symm }
                   omega, e2⟩
    · rintro ⟨p, hp, e2⟩; exact ⟨p, by omega, e2⟩
structure GoneAt (w : World) (G len : Nat) (S : Nat → Bool) : Prop where
  lt : G < w.heap.size
  cell : ∀ t, t < len → w.cell? ⟨G, t, none⟩ = some (.bool (S t))
  free : ∀ t, w.frozen? ⟨G, t, none⟩ = false
theorem GoneAt.keep {w w' : World} {G len : Nat} {S : Nat → Bool} (h : GoneAt w G len S) (hs : w.heap.size ≤ w'.heap.size) (hb : w'.heap[G]? = w.heap[G]?) : GoneAt w' G len S :=
  ⟨Nat.lt_of_lt_of_le h.lt hs, fun t ht => by rw [cell_of_heap hb]; exact h.cell t ht, fun t => by rw [frozen_of_heap hb]; exact h.free t⟩
theorem GoneAt.set {w : World} {G len : Nat} {R : Nat → Nat} {j : Nat} (h : GoneAt w G len (goneB R j)) : GoneAt (w.setCell ⟨G, R j, none⟩ (.bool true)) G len (goneB R (j + 1)) := by
  refine ⟨by simpa using h.lt, fun t ht => ?_, fun t => by rw [World.frozen?_setCell]; exact h.free t⟩
  rw [goneB_succ]
  by_cases e : t = R j
  · rw [if_pos e, ← e]; exact World.cell?_setCell_same _ _ _ (h.cell t ht)
  · rw [if_neg e, cell_set_ne e]; exact h.cell t ht
def firstR (R : Nat → Nat) (j : Nat) : List Nat := (List.range j).map R
theorem firstR_len (R : Nat → Nat) (j : Nat) : (firstR R j).length = j := by simp [firstR]
theorem firstR_succ (R : Nat → Nat) (j : Nat) : firstR R (j + 1) = firstR R j ++ [R j] := by simp [firstR, List.range_succ]
end Go.Proofs.Ytfjddkjfkgdihaa
