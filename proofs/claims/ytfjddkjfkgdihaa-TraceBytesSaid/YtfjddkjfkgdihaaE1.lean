/- Plain laws of layer 37 (trace): an access's bytes, and what they say. No program here. -/
import Derived.Test.YtfjddkjfkgdihaaW1
import Derived.Test.YtfjddkjfkgdihaaTm
namespace Go.Proofs.Ytfjddkjfkgdihaa
open Go.RowKit
set_option linter.unusedVariables false

/-- A number's bytes tell where they end. -/
theorem numB_pre (n : Nat) : ∀ (m : Nat) (r r' : List Int), numB n ++ r = numB m ++ r' → n = m ∧ r = r' := by
  induction n using Nat.strongRecOn with
  | ind n ih =>
    intro m r r' h
    by_cases h1 : n < 128
    · by_cases h2 : m < 128
      · rw [numB_small h1, numB_small h2] at h
        simp only [List.cons_append, List.nil_append, List.cons.injEq] at h
        exact ⟨by omega, h.2⟩
      · rw [numB_small h1, numB_big h2] at h
        simp only [List.cons_append, List.nil_append, List.cons.injEq] at h
        omega
    · by_cases h2 : m < 128
      · rw [numB_big h1, numB_small h2] at h
        simp only [List.cons_append, List.nil_append, List.cons.injEq] at h
        omega
      · rw [numB_big h1, numB_big h2] at h
        simp only [List.cons_append, List.cons.injEq] at h
        obtain ⟨e, e2⟩ := ih (n / 128) (by omega) _ _ _ h.2
        exact ⟨by omega, e2⟩

/-- May an access be written? -/
def AccD.mayB (x : AccD) : Bool := decide (1 ≤ x.ki ∧ x.ki ≤ 5 ∧ 0 ≤ x.th ∧ x.th ≤ 63 ∧ -1073741824 ≤ x.pl ∧ x.pl ≤ 1073741824 ∧ (x.ki = 5 → x.pl = 0) ∧ (4 ≤ x.ki → x.ol = 0) ∧ (¬ x.ki = 2 → ¬ x.ki = 3 → x.ne = 0))
/-- Its words are words. -/
def AccD.wide (x : AccD) : Prop := 0 ≤ x.ol ∧ x.ol < 18446744073709551616 ∧ 0 ≤ x.ne ∧ x.ne < 18446744073709551616
def AccD.good (x : AccD) : Prop := x.mayB = true ∧ x.wide
theorem AccD.may_out {x : AccD} (h : x.mayB = true) : 1 ≤ x.ki ∧ x.ki ≤ 5 ∧ 0 ≤ x.th ∧ x.th ≤ 63 ∧ -1073741824 ≤ x.pl ∧ x.pl ≤ 1073741824 ∧ (x.ki = 5 → x.pl = 0) ∧ (4 ≤ x.ki → x.ol = 0) ∧ (¬ x.ki = 2 → ¬ x.ki = 3 → x.ne = 0) := by
  exact of_decide_eq_true h

def AccD.first (x : AccD) : Int := x.ki + 16 * (x.th % 8) + (if x.dn then 8 else 0)
theorem AccD.first_bd {x : AccD} (h : x.mayB = true) : 0 ≤ x.first ∧ x.first ≤ 255 := by
  obtain ⟨h1, h2, h3, h4, -⟩ := AccD.may_out h
  unfold AccD.first; split <;> omega
def AccD.placeB (x : AccD) (last : Int) : List Int := if x.ki = 5 then [] else numB (sgn (x.pl - last)).toNat
def AccD.oldB (x : AccD) : List Int := if x.ki ≤ 3 then numB x.ol.toNat else []
def AccD.newB (x : AccD) : List Int := if x.ki = 2 ∨ x.ki = 3 then numB x.ne.toNat else []
def AccD.enc (x : AccD) (last : Int) : List Int := x.first :: (numB x.th.toNat ++ (x.placeB last ++ (x.oldB ++ x.newB)))
def AccD.next (x : AccD) (last : Int) : Int := if x.ki = 5 then last else x.pl
theorem AccD.next_bd {x : AccD} {last : Int} (h : x.mayB = true) (h0 : -1073741824 ≤ last ∧ last ≤ 1073741824) : -1073741824 ≤ x.next last ∧ x.next last ≤ 1073741824 := by
  obtain ⟨-, -, -, -, h5, h6, -⟩ := AccD.may_out h
  unfold AccD.next; split <;> omega

theorem first_inj {x y : AccD} (hx : x.mayB = true) (hy : y.mayB = true) (h : x.first = y.first) : x.ki = y.ki ∧ x.dn = y.dn ∧ x.th % 8 = y.th % 8 := by
  obtain ⟨h1, h2, h3, h4, -⟩ := AccD.may_out hx
  obtain ⟨g1, g2, g3, g4, -⟩ := AccD.may_out hy
  unfold AccD.first at h
  cases hxd : x.dn <;> cases hyd : y.dn <;> simp [hxd, hyd] at h ⊢ <;> omega

theorem AccD.ext' {x y : AccD} (h1 : x.ki = y.ki) (h2 : x.th = y.th) (h3 : x.pl = y.pl) (h4 : x.ol = y.ol) (h5 : x.ne = y.ne) (h6 : x.dn = y.dn) : x = y := by
  cases x; cases y; simp_all

theorem sgn_inj {a b : Int} (h : sgn a = sgn b) : a = b := by rw [← uns_sgn a, ← uns_sgn b, h]

/-- An access's bytes tell the access, and where they end. -/
theorem enc_pre {x y : AccD} {last : Int} {r r' : List Int} (hx : x.good) (hy : y.good) (h : x.enc last ++ r = y.enc last ++ r') : x = y ∧ r = r' := by
  obtain ⟨mx, o1, o2, n1, n2⟩ := hx
  obtain ⟨my, p1, p2, q1, q2⟩ := hy
  unfold AccD.enc at h
  simp only [List.cons_append, List.cons.injEq, List.append_assoc] at h
  obtain ⟨hf, h⟩ := h
  obtain ⟨ek, ed, -⟩ := first_inj mx my hf
  obtain ⟨a1, a2, a3, a4, a5, a6, a7, a8, a9⟩ := AccD.may_out mx
  obtain ⟨b1, b2, b3, b4, b5, b6, b7, b8, b9⟩ := AccD.may_out my
  obtain ⟨et, h⟩ := numB_pre _ _ _ _ h
  have et : x.th = y.th := by omega
  have hp : x.pl = y.pl ∧ x.oldB ++ (x.newB ++ r) = y.oldB ++ (y.newB ++ r') := by
    unfold AccD.placeB at h
    rw [ek] at h
    by_cases e5 : y.ki = 5
    · simp only [e5, if_true, List.nil_append] at h
      exact ⟨by rw [a7 (by omega), b7 e5], h⟩
    · simp only [e5, if_false] at h
      obtain ⟨e, h⟩ := numB_pre _ _ _ _ h
      have := sgn_lo (x.pl - last); have := sgn_lo (y.pl - last)
      have := sgn_inj (show sgn (x.pl - last) = sgn (y.pl - last) by omega)
      exact ⟨by omega, h⟩
  obtain ⟨ep, h⟩ := hp
  have ho : x.ol = y.ol ∧ x.newB ++ r = y.newB ++ r' := by
    unfold AccD.oldB at h
    rw [ek] at h
    by_cases e3 : y.ki ≤ 3
    · simp only [e3, if_true] at h
      obtain ⟨e, h⟩ := numB_pre _ _ _ _ h
      exact ⟨by omega, h⟩
    · simp only [e3, if_false, List.nil_append] at h
      exact ⟨by rw [a8 (by omega), b8 (by omega)], h⟩
  obtain ⟨eo, h⟩ := ho
  have hn : x.ne = y.ne ∧ r = r' := by
    unfold AccD.newB at h
    rw [ek] at h
    by_cases e2 : y.ki = 2 ∨ y.ki = 3
    · simp only [e2, if_true] at h
      obtain ⟨e, h⟩ := numB_pre _ _ _ _ h
      exact ⟨by omega, h⟩
    · simp only [e2, if_false, List.nil_append] at h
      exact ⟨by rw [a9 (by omega) (by omega), b9 (by omega) (by omega)], h⟩
  exact ⟨AccD.ext' ek et ep eo hn.1 ed, hn.2⟩

def bodyTo (c : Nat → AccD) : Nat → List Int × Int
  | 0 => ([], 0)
  | k + 1 => ((bodyTo c k).1 ++ (c k).enc (bodyTo c k).2, (c k).next (bodyTo c k).2)
def encAll (c : Nat → AccD) (n : Nat) : List Int := numB n ++ (bodyTo c n).1
theorem bodyTo_congr {c c' : Nat → AccD} {n : Nat} (h : ∀ i, i < n → c i = c' i) : bodyTo c n = bodyTo c' n := by
  induction n with
  | zero => rfl
  | succ n ih => unfold bodyTo; rw [ih (fun i hi => h i (by omega)), h n (by omega)]
theorem last_bd {c : Nat → AccD} {n : Nat} (h : ∀ i, i < n → (c i).mayB = true) : -1073741824 ≤ (bodyTo c n).2 ∧ (bodyTo c n).2 ≤ 1073741824 := by
  induction n with
  | zero => simp [bodyTo]
  | succ n ih => exact AccD.next_bd (h n (by omega)) (ih fun i hi => h i (by omega))
/-- What begins with m accesses' bytes is so. -/
theorem body_more (c : Nat → AccD) (m n : Nat) (h : m ≤ n) : ∃ s, (bodyTo c n).1 = (bodyTo c m).1 ++ s := by
  induction n with
  | zero => obtain rfl : m = 0 := by omega
            exact ⟨[], by simp⟩
  | succ n ih =>
    by_cases e : m = n + 1
    · subst e; exact ⟨[], by simp⟩
    · obtain ⟨s, hs⟩ := ih (by omega)
      exact ⟨s ++ (c n).enc (bodyTo c n).2, by show (bodyTo c n).1 ++ _ = _; rw [hs, List.append_assoc]⟩
theorem body_next (c : Nat → AccD) (m n : Nat) (h : m < n) : ∃ s, (bodyTo c n).1 = (bodyTo c m).1 ++ ((c m).enc (bodyTo c m).2 ++ s) := by
  obtain ⟨s, hs⟩ := body_more c (m + 1) n h
  exact ⟨s, by rw [hs]; show (bodyTo c m).1 ++ _ ++ s = _; rw [List.append_assoc]⟩
/-- Two lists' bytes that begin alike: so do the lists. -/
theorem body_split {c c' : Nat → AccD} (n m : Nat) (hc : ∀ i, i < n → (c i).good) (hc' : ∀ i, i < m → (c' i).good) (h : m ≤ n) {r r' : List Int} (e : (bodyTo c n).1 ++ r = (bodyTo c' m).1 ++ r') : ∀ i, i < m → c i = c' i := by
  induction m generalizing r' with
  | zero => intro i hi; omega
  | succ m ih =>
    have e0 : (bodyTo c n).1 ++ r = (bodyTo c' m).1 ++ ((c' m).enc (bodyTo c' m).2 ++ r') := by
      rw [e]; show (bodyTo c' m).1 ++ _ ++ r' = _; rw [List.append_assoc]
    have hi := ih (fun i hi => hc' i (by omega)) (by omega) e0
    obtain ⟨s, hs⟩ := body_next c m n (by omega)
    rw [hs, bodyTo_congr hi, List.append_assoc, List.append_cancel_left_eq, List.append_assoc] at e0
    have hx := (enc_pre (hc m (by omega)) (hc' m (by omega)) e0).1
    intro i hlt
    by_cases e2 : i = m
    · subst e2; exact hx
    · exact hi i (by omega)

/-- The bytes are those of n accesses that may be written. -/
structure Says (b : List Int) (c : Nat → AccD) (n : Nat) : Prop where
  good : ∀ i, i < n → (c i).good
  bytes : b = encAll c n
theorem numB_len1 (n : Nat) : 1 ≤ (numB n).length := List.length_pos_iff.2 (numB_ne n)
theorem body_len (c : Nat → AccD) (n : Nat) : n ≤ (bodyTo c n).1.length := by
  induction n with
  | zero => simp
  | succ n ih => simp only [bodyTo, List.length_append, AccD.enc, List.length_cons]; omega
theorem Says.len {b : List Int} {c : Nat → AccD} {n : Nat} (h : Says b c n) : n < b.length := by
  rw [h.bytes]; unfold encAll; rw [List.length_append]; have := numB_len1 n; have := body_len c n; omega
/-- The one list of which they are. -/
theorem Says.unique {b : List Int} {c c' : Nat → AccD} {n n' : Nat} (h : Says b c n) (h' : Says b c' n') : n = n' ∧ ∀ i, i < n → c i = c' i := by
  have e := h.bytes.symm.trans h'.bytes
  unfold encAll at e
  obtain ⟨rfl, e⟩ := numB_pre _ _ _ _ e
  exact ⟨rfl, body_split n n h.good h'.good (Nat.le_refl _) (r := []) (r' := []) (by simpa using e)⟩
/-- Behind m accesses that were read, it goes on so. -/
theorem Says.on {b : List Int} {c : Nat → AccD} {n N m : Nat} {c' : Nat → AccD} {r : List Int} (h : Says b c n) (hg : ∀ i, i < m → (c' i).good) (e : b = numB N ++ ((bodyTo c' m).1 ++ r)) (hm : m ≤ N) :
    n = N ∧ (∀ i, i < m → c i = c' i) ∧ (m = N → r = []) ∧ (m < N → ∃ s, r = (c m).enc (bodyTo c' m).2 ++ s) := by
  have e1 := h.bytes.symm.trans e
  unfold encAll at e1
  obtain ⟨rfl, e1⟩ := numB_pre _ _ _ _ e1
  have hi := body_split n m h.good hg hm (r := []) (r' := r) (by simpa using e1)
  refine ⟨rfl, hi, fun e2 => ?_, fun hlt => ?_⟩
  · subst e2
    rw [bodyTo_congr hi] at e1
    simpa using e1
  · obtain ⟨s, hs⟩ := body_next c m n hlt
    rw [hs, bodyTo_congr hi] at e1
    exact ⟨s, (List.append_cancel_left (List.append_cancel_left e1)).symm⟩
end Go.Proofs.Ytfjddkjfkgdihaa
