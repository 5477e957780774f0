/- Walk of wear.Hot (layer 33). -/
import Derived.Test.YtfjddkjfkgdihaaF7
import Derived.Test.YtfjddkjfkgdihaaRd
namespace Go.Proofs.Ytfjddkjfkgdihaa
open Go.RowKit Go.BigFrame
set_option linter.unusedVariables false
set_option linter.unusedSimpArgs false

/-- The lines that were written back, in order. -/
def hits (z : Nat → Int) : Nat → List Nat
  | 0 => []
  | k + 1 => hits z k ++ (if 0 < z k then [k] else [])
theorem hits_len (z : Nat → Int) (k : Nat) : (hits z k).length ≤ k := by
  induction k with
  | zero => exact Nat.le_refl _
  | succ k ih => rw [hits, List.length_append]; split <;> simp <;> omega
theorem hits_mem (z : Nat → Int) (k i : Nat) : i ∈ hits z k ↔ i < k ∧ 0 < z i := by
  induction k with
  | zero => simp [hits]
  | succ k ih =>
    rw [hits, List.mem_append, ih]
    by_cases h : 0 < z k
    · rw [if_pos h]; simp only [List.mem_singleton]
      constructor
      · rintro (h1 | rfl)
        · exact ⟨by omega, h1.2⟩
        · exact ⟨by omega, h⟩
      · intro ⟨h1, h2⟩
        by_cases e : i = k
        · exact .inr e
        · exact .inl ⟨by omega, h2⟩
    · rw [if_neg h]
      constructor
      · rintro (h1 | h1)
        · exact ⟨by omega, h1.2⟩
        · cases h1
      · intro ⟨h1, h2⟩
        by_cases e : i = k
        · subst e; exact absurd h2 h
        · exact .inl ⟨by omega, h2⟩
def hitAt (z : Nat → Int) (k t : Nat) : Nat := (hits z k).getD t 0
theorem hitAt_mem (z : Nat → Int) (k t : Nat) (h : t < (hits z k).length) : hitAt z k t ∈ hits z k := by
  unfold hitAt; rw [List.getD_eq_getElem?_getD, List.getElem?_eq_getElem h, Option.getD_some]; exact List.getElem_mem h
theorem hits_asc (z : Nat → Int) (k : Nat) : AscOn (hitAt z k) 0 (hits z k).length := by
  induction k with
  | zero => intro p q h1 h2 h3; simp [hits] at h3
  | succ k ih =>
    intro p q h1 h2 h3
    unfold hitAt at *
    rw [hits] at h3 ⊢
    by_cases h : 0 < z k
    · rw [if_pos h] at h3 ⊢
      rw [List.length_append, List.length_singleton] at h3
      rw [List.getD_eq_getElem?_getD, List.getD_eq_getElem?_getD, List.getElem?_append_left (show p < (hits z k).length by omega)]
      by_cases e : q < (hits z k).length
      · rw [List.getElem?_append_left e]
        have := ih p q h1 h2 e
        simpa [List.getD_eq_getElem?_getD] using this
      · obtain rfl : q = (hits z k).length := by omega
        rw [List.getElem?_append_right (Nat.le_refl _)]
        have := (hits_mem z k _).1 (hitAt_mem z k p (by omega))
        unfold hitAt at this
        rw [List.getD_eq_getElem?_getD] at this
        simp only [Nat.sub_self, List.getElem?_cons_zero, Option.getD_some]
        exact this.1
    · rw [if_neg h] at h3 ⊢
      rw [List.append_nil] at h3 ⊢
      exact ih p q h1 h2 h3
def lineVals (l : List Nat) : List Value := l.map fun i : Nat => .int .i64 (i : Int)
theorem lineVals_append (l m : List Nat) : lineVals (l ++ m) = lineVals l ++ lineVals m := by simp [lineVals]

/-- R 0 .. R (m - 1) are the lines that were written back, the most often first. -/
structure Best (z : Nat → Int) (len m : Nat) (R : Nat → Nat) : Prop where
  srt : SrtOn z R 0 m
  into : ∀ p, p < m → R p < len ∧ 0 < z (R p)
  all : ∀ n, n < len → 0 < z n → ∃ p, p < m ∧ R p = n
theorem best_of {z : Nat → Int} {len : Nat} {R : Nat → Nat} (h : Merged z (hitAt z len) R 0 (hits z len).length) : Best z len (hits z len).length R := by
  refine ⟨h.1, fun p hp => ?_, fun n hn hz => ?_⟩
  · obtain ⟨q, -, h2, e⟩ := h.2.into p (Nat.zero_le _) hp
    rw [e]; exact (hits_mem z len _).1 (hitAt_mem z len q h2)
  · have hm := (hits_mem z len n).2 ⟨hn, hz⟩
    obtain ⟨i, hi, e⟩ := List.getElem_of_mem hm
    obtain ⟨q, -, h2, e2⟩ := h.2.back i (Nat.zero_le _) hi
    refine ⟨q, h2, ?_⟩
    rw [← e2]; unfold hitAt; rw [List.getD_eq_getElem?_getD, List.getElem?_eq_getElem hi, Option.getD_some, e]
theorem best_none {z : Nat → Int} {len : Nat} (h : (hits z len).length = 0) (R : Nat → Nat) : Best z len 0 R :=
  ⟨fun p q h1 h2 h3 => by omega, fun p hp => by omega, fun n hn hz => by
    have := (hits_mem z len n).2 ⟨hn, hz⟩
    rw [List.eq_nil_of_length_eq_zero h] at this; cases this⟩

theorem stable_none (fv : Value) (w : World) : Calls Try.prog 89 #[.slice none 0 0, .int .i64 0, fv] w fun e w' => e = .returned (.tuple #[]) ∧ w' = w := by
  go_enter Try.func89, Try.ntmps89
  go_wp2_with fail
  go_loopw [7, 8] (fun va vb wr => va = .int .i64 0 ∧ vb = .int .i64 20 ∧ wr = w) (fun _ _ _ => 0)
  case atStart => exact ⟨rfl, rfl, rfl⟩
  case round =>
    obtain ⟨rfl, rfl, rfl⟩ := hrel
    go_wp2_with fail
    refine (ins_none _ _ _).mono ?_
    rintro e w' ⟨rfl, rfl⟩
    go_wp2_with fail
    go_loopw [6] (fun vs wr => vs = .int .i64 20 ∧ wr = w') (fun _ _ => 0)
    case atStart => exact ⟨rfl, rfl⟩
    case round =>
      obtain ⟨rfl, rfl⟩ := hrel
      go_wp2_with fail
      go_end0
      exact ⟨rfl, rfl⟩
theorem sort_none (fv : Value) (w : World) : Calls Try.prog 75 #[.slice none 0 0, fv] w fun e w' => e = .returned (.tuple #[]) ∧ w' = w := by
  go_enter Try.func75, Try.ntmps75
  go_wp2_with (go_at_call 89; refine (stable_none _ _).mono ?_; rintro e w' ⟨rfl, rfl⟩)
  go_end0
  exact ⟨rfl, rfl⟩
theorem sort75 (g off n cap q bw ow lw cw : Nat) (z : Nat → Int) (D : Nat → Nat) (W w : World) (h : DataAt W w g off n D) (he : EnvOut W g q bw ow lw cw z) (hl : ∀ t, t < n → D t < lw) (hn : n ≤ 300) (hA : AscOn D 0 n) :
    Calls Try.prog 75 #[.slice (some ⟨g, off, none⟩) n cap, .func (.func 76) #[] #[.pointer (some ⟨q, 0, none⟩)]] w (SrtTo W g off n z D 0 n) := by
  have HC := Lib.hid (stable89 g off n cap q bw ow lw cw z D W w h he hl hn hA)
  clear h he hl hA
  go_enter Try.func75, Try.ntmps75
  go_wp2_with fail
  refine HC.out.mono ?_
  rintro e w' ⟨rfl, hd⟩
  go_wp2_with fail
  go_end0
  exact ⟨rfl, hd⟩
end Go.Proofs.Ytfjddkjfkgdihaa
