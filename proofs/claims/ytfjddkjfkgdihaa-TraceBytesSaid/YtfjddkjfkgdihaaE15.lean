/- Plain laws of layer 37: what the reference's Read has read so far of an access, stage by stage. No program here. -/
import Derived.Test.YtfjddkjfkgdihaaE9
import Derived.Test.YtfjddkjfkgdihaaE14
namespace Go.Proofs.Ytfjddkjfkgdihaa
open Go.RowKit
set_option linter.unusedVariables false

/-- What lies behind the first j parts of an access's bytes. -/
def AccD.restB (y : AccD) (last : Int) (s : List Int) : Nat → List Int
  | 1 => y.placeB last ++ (y.oldB ++ (y.newB ++ s))
  | 2 => y.oldB ++ (y.newB ++ s)
  | 3 => y.newB ++ s
  | _ => s

/-- Of the access that begins at p, j parts are read. -/
structure Sofar (M : List Int) (p : Nat) (last : Int) (j : Nat) (x : AccD) (at_ l2 : Int) : Prop where
  place : at_ = -1 ∨ ((p : Int) < at_ ∧ at_ ≤ M.length)
  wide : x.wide
  lst : l2 = last ∨ (x.ki ≠ 5 ∧ l2 = x.pl)
  says : ∀ (y : AccD) (s : List Int), y.good → M.drop p = y.enc last ++ s → x.ki = y.ki ∧ x.dn = y.dn ∧ x.th = y.th ∧ (2 ≤ j → x.pl = y.pl ∧ l2 = y.next last) ∧ (3 ≤ j → x.ol = y.ol) ∧ (4 ≤ j → x.ne = y.ne) ∧ ∃ q : Nat, at_ = q ∧ M.drop q = y.restB last s j

theorem drop_num {M : List Int} {p n : Nat} {r : List Int} (h : M.drop p = numB n ++ r) : M.drop (p + (numB n).length) = r := by
  rw [← List.drop_drop, h]; simp

theorem sofar1 {M : List Int} {p : Nat} {last t nx : Int} (hp : p < M.length) (hb : 0 ≤ M.getD p 0 ∧ M.getD p 0 ≤ 255) (h : NumAt M (p + 1) t nx) :
    Sofar M p last 1 ⟨M.getD p 0 % 8, t % 64, 0, 0, 0, decide (M.getD p 0 / 8 % 2 = 1)⟩ nx last := by
  refine ⟨?_, ⟨by simp, by simp, by simp, by simp⟩, .inl rfl, fun y s hy hd => ?_⟩
  · have := h.next; omega
  · rw [List.drop_eq_getElem_cons hp] at hd
    have e0 : M.getD p 0 = M[p] := by rw [List.getD_eq_getElem?_getD, List.getElem?_eq_getElem hp, Option.getD_some]
    rw [← e0] at hd
    generalize M.getD p 0 = f at *
    obtain ⟨f, rfl⟩ := Int.eq_ofNat_of_zero_le hb.1
    obtain ⟨h1, h2, h3, h4, h5⟩ := acc_l1 hy hd
    obtain ⟨e1, e2⟩ := h.says _ _ (by omega) h5
    obtain ⟨-, -, g3, g4, -⟩ := AccD.may_out hy.1
    refine ⟨?_, ?_, ?_, fun h => by omega, fun h => by omega, fun h => by omega, p + 1 + (numB y.th.toNat).length, by simpa using e2, drop_num h5⟩
    · simp only; rw [h1]; simp
    · simp only; rw [h2]; congr 1; apply propext; omega
    · simp only; omega

theorem sofar2_skip {M : List Int} {p : Nat} {last : Int} {x : AccD} {at_ l2 : Int} (h : Sofar M p last 1 x at_ l2) (h0 : x.pl = 0) (hl : l2 = last) (hs : at_ = -1 ∨ x.ki = 5) : Sofar M p last 2 x at_ l2 := by
  refine ⟨h.place, h.wide, h.lst, fun y s hy hd => ?_⟩
  obtain ⟨e1, e2, e3, -, -, -, q, e4, e5⟩ := h.says y s hy hd
  have h5 : y.ki = 5 := by rcases hs with h | h <;> omega
  obtain ⟨-, -, -, -, -, -, g5, -⟩ := AccD.may_out hy.1
  refine ⟨e1, e2, e3, fun _ => ⟨by rw [h0, g5 h5], by rw [hl]; unfold AccD.next; rw [if_pos h5]⟩, fun h => by omega, fun h => by omega, q, e4, ?_⟩
  rw [e5]; simp [AccD.restB, AccD.placeB, h5]
theorem sofar2 {M : List Int} {p : Nat} {last : Int} {x : AccD} {at_ l2 : Int} {q : Nat} {n nx u : Int} (l0 : -1073741824 ≤ last) (l1 : last ≤ 1073741824) (h : Sofar M p last 1 x at_ l2) (hq : at_ = q) (h5 : x.ki ≠ 5) (hn : NumAt M q n nx) (hu : n ≤ 4294967296 → u = last + uns n) :
    Sofar M p last 2 { x with pl := u } nx u := by
  refine ⟨?_, h.wide, .inr ⟨h5, rfl⟩, fun y s hy hd => ?_⟩
  · have := h.place; have := hn.next; omega
  obtain ⟨e1, e2, e3, -, -, -, q', e4, e5⟩ := h.says y s hy hd
  obtain rfl : q = q' := by omega
  have hy5 : y.ki ≠ 5 := by omega
  obtain ⟨m, hm, e6, e7⟩ := acc_pl l0 l1 hy hy5 e5
  obtain ⟨f1, f2⟩ := hn.says _ _ (by omega) e6
  have := hu (by omega)
  refine ⟨e1, e2, e3, fun _ => ⟨by simp only; rw [this, e7, f1], by unfold AccD.next; rw [if_neg hy5, this, e7, f1]⟩, fun h => by omega, fun h => by omega, q + (numB m).length, by simpa using f2, drop_num e6⟩
theorem sofar3_skip {M : List Int} {p : Nat} {last : Int} {x : AccD} {at_ l2 : Int} (h : Sofar M p last 2 x at_ l2) (h0 : x.ol = 0) (hs : at_ = -1 ∨ ¬ x.ki ≤ 3) : Sofar M p last 3 x at_ l2 := by
  refine ⟨h.place, h.wide, h.lst, fun y s hy hd => ?_⟩
  obtain ⟨e1, e2, e3, e6, -, -, q, e4, e5⟩ := h.says y s hy hd
  have h5 : ¬ y.ki ≤ 3 := by rcases hs with h | h <;> omega
  obtain ⟨-, -, -, -, -, -, -, g5, -⟩ := AccD.may_out hy.1
  refine ⟨e1, e2, e3, fun _ => e6 (by omega), fun _ => by rw [h0, g5 (by omega)], fun h => by omega, q, e4, ?_⟩
  rw [e5]; simp [AccD.restB, AccD.oldB, h5]
theorem sofar3 {M : List Int} {p : Nat} {last : Int} {x : AccD} {at_ l2 : Int} {q : Nat} {n nx : Int} (h : Sofar M p last 2 x at_ l2) (hq : at_ = q) (h3 : x.ki ≤ 3) (hn : NumAt M q n nx) :
    Sofar M p last 3 { x with ol := n } nx l2 := by
  refine ⟨?_, ⟨hn.lo, hn.hi, h.wide.2.2⟩, h.lst, fun y s hy hd => ?_⟩
  · have := h.place; have := hn.next; omega
  obtain ⟨e1, e2, e3, e8, -, -, q', e4, e5⟩ := h.says y s hy hd
  obtain rfl : q = q' := by omega
  obtain ⟨m, hm, e6, e7⟩ := acc_ol hy (by omega) e5
  obtain ⟨f1, f2⟩ := hn.says _ _ (by omega) e6
  refine ⟨e1, e2, e3, fun _ => e8 (by omega), fun _ => by simp only; rw [e7, f1], fun h => by omega, q + (numB m).length, by simpa using f2, drop_num e6⟩
theorem sofar4_skip {M : List Int} {p : Nat} {last : Int} {x : AccD} {at_ l2 : Int} (h : Sofar M p last 3 x at_ l2) (h0 : x.ne = 0) (hs : at_ = -1 ∨ ¬ (x.ki = 2 ∨ x.ki = 3)) : Sofar M p last 4 x at_ l2 := by
  refine ⟨h.place, h.wide, h.lst, fun y s hy hd => ?_⟩
  obtain ⟨e1, e2, e3, e6, e7, -, q, e4, e5⟩ := h.says y s hy hd
  have h5 : ¬ (y.ki = 2 ∨ y.ki = 3) := by rcases hs with h | h <;> omega
  obtain ⟨-, -, -, -, -, -, -, -, g5⟩ := AccD.may_out hy.1
  refine ⟨e1, e2, e3, fun _ => e6 (by omega), fun _ => e7 (by omega), fun _ => by rw [h0, g5 (by omega) (by omega)], q, e4, ?_⟩
  rw [e5]; simp [AccD.restB, AccD.newB, h5]
theorem sofar4 {M : List Int} {p : Nat} {last : Int} {x : AccD} {at_ l2 : Int} {q : Nat} {n nx : Int} (h : Sofar M p last 3 x at_ l2) (hq : at_ = q) (h3 : x.ki = 2 ∨ x.ki = 3) (hn : NumAt M q n nx) :
    Sofar M p last 4 { x with ne := n } nx l2 := by
  refine ⟨?_, ⟨h.wide.1, h.wide.2.1, hn.lo, hn.hi⟩, h.lst, fun y s hy hd => ?_⟩
  · have := h.place; have := hn.next; omega
  obtain ⟨e1, e2, e3, e8, e9, -, q', e4, e5⟩ := h.says y s hy hd
  obtain rfl : q = q' := by omega
  obtain ⟨m, hm, e6, e7⟩ := acc_ne hy (by omega) e5
  obtain ⟨f1, f2⟩ := hn.says _ _ (by omega) e6
  refine ⟨e1, e2, e3, fun _ => e8 (by omega), fun _ => e9 (by omega), fun _ => by simp only; rw [e7, f1], q + (numB m).length, by simpa using f2, drop_num e6⟩

/-- What holds of the reference's loop behind k accesses. -/
structure RefSofar (M : List Int) (many : Int) (k : Nat) (d : Nat → AccD) (at_ last : Int) : Prop where
  good : ∀ i, i < k → (d i).good
  few : k ≤ M.length
  place : at_ = -1 ∨ ((k : Int) ≤ at_ ∧ at_ ≤ M.length)
  l0 : -1073741824 ≤ last
  l1 : last ≤ 1073741824
  says : ∀ c n, Says M c n → many = n ∧ k ≤ n ∧ (∀ i, i < k → d i = c i) ∧ last = (bodyTo c k).2 ∧ ∃ p : Nat, at_ = p ∧ p = (numB n).length + (bodyTo c k).1.length

theorem refSofar0 {M : List Int} {many at_ : Int} (h : NumAt M 0 many at_) (hm : M.length < 1000000) (d : Nat → AccD) : RefSofar M many 0 d at_ 0 := by
  refine ⟨fun i hi => by omega, Nat.zero_le _, ?_, by omega, by omega, fun c n hs => ?_⟩
  · have := h.next; omega
  · have hl := hs.len
    obtain ⟨e1, e2⟩ := h.says n (bodyTo c n).1 (by omega) (by rw [List.drop_zero]; exact hs.bytes)
    exact ⟨e1, Nat.zero_le _, fun i hi => by omega, rfl, (numB n).length, by simpa using e2, by simp [bodyTo]⟩
theorem says_next {M : List Int} {c : Nat → AccD} {n k p : Nat} (hs : Says M c n) (hk : k < n) (hp : p = (numB n).length + (bodyTo c k).1.length) : ∃ s, M.drop p = (c k).enc (bodyTo c k).2 ++ s := by
  obtain ⟨s, h⟩ := body_next c k n hk
  refine ⟨s, ?_⟩
  rw [hs.bytes, hp, ← List.drop_drop]
  unfold encAll
  rw [List.drop_left, h, List.drop_left]
/-- The access is what it must be. -/
theorem RefSofar.one {M : List Int} {many : Int} {k : Nat} {d : Nat → AccD} {p : Nat} {last : Int} {x : AccD} {at_ l2 : Int} (h : RefSofar M many k d p last) (hk : (k : Int) < many) (hx : Sofar M p last 4 x at_ l2) {c : Nat → AccD} {n : Nat} (hs : Says M c n) :
    k < n ∧ x = c k ∧ l2 = (c k).next last ∧ ∃ q : Nat, at_ = q ∧ q = p + ((c k).enc last).length := by
  obtain ⟨e1, e2, e3, e4, p', e5, e6⟩ := h.says c n hs
  obtain rfl : p = p' := by omega
  have hkn : k < n := by omega
  obtain ⟨s, hd⟩ := says_next hs hkn e6
  rw [← e4] at hd
  obtain ⟨f1, f2, f3, f4, f5, f6, q, f7, f8⟩ := hx.says _ s (hs.good k hkn) hd
  obtain ⟨f4, f9⟩ := f4 (by omega)
  refine ⟨hkn, AccD.ext' f1 f3 f4 (f5 (by omega)) (f6 (by omega)) f2, f9, q, f7, ?_⟩
  have hpl := hx.place
  have h1 := congrArg List.length f8
  have h2 := congrArg List.length hd
  rw [List.length_drop] at h1
  rw [List.length_drop, List.length_append] at h2
  simp only [AccD.restB] at h1
  have : 0 < ((c k).enc last).length := by unfold AccD.enc; simp
  omega
theorem RefSofar.next {M : List Int} {many : Int} {k : Nat} {d : Nat → AccD} {p : Nat} {last : Int} {x : AccD} {at_ l2 : Int} (h : RefSofar M many k d p last) (hk : (k : Int) < many) (hp : p < M.length) (hx : Sofar M p last 4 x at_ l2) (hm : x.mayB = true) :
    RefSofar M many (k + 1) (fun i => if i < k then d i else x) at_ l2 := by
  have hkp := h.place
  refine ⟨fun i hi => ?_, by omega, ?_, ?_, ?_, fun c n hs => ?_⟩
  · show AccD.good (if i < k then d i else x)
    by_cases h1 : i < k
    · rw [if_pos h1]; exact h.good i h1
    · rw [if_neg h1]; exact ⟨hm, hx.wide⟩
  · have := hx.place; omega
  · obtain ⟨-, -, -, -, g1, g2, -⟩ := AccD.may_out hm
    have := h.l0; have := h.l1
    rcases hx.lst with e | ⟨-, e⟩ <;> omega
  · obtain ⟨-, -, -, -, g1, g2, -⟩ := AccD.may_out hm
    have := h.l0; have := h.l1
    rcases hx.lst with e | ⟨-, e⟩ <;> omega
  · obtain ⟨e1, e2, e3, e4, p', e5, e6⟩ := h.says c n hs
    obtain ⟨f1, f2, f3, q, f4, f5⟩ := h.one hk hx hs
    refine ⟨e1, f1, fun i hi => ?_, ?_, q, f4, ?_⟩
    · show (if i < k then d i else x) = c i
      by_cases h1 : i < k
      · rw [if_pos h1]; exact e3 i h1
      · rw [if_neg h1]; obtain rfl : i = k := by omega
        exact f2
    · rw [f3, e4]; rfl
    · show q = (numB n).length + ((bodyTo c k).1 ++ (c k).enc (bodyTo c k).2).length
      rw [List.length_append, ← e4, f5]; omega
/-- At the loop's end the bytes are what has been read, or no trace's. -/
theorem RefSofar.done {M : List Int} {many : Int} {k : Nat} {d : Nat → AccD} {at_ last : Int} (h : RefSofar M many k d at_ last) (he : at_ < 0 ∨ (M.length : Int) ≤ at_ ∨ many ≤ k) {c : Nat → AccD} {n : Nat} (hs : Says M c n) : encAll d k = M := by
  obtain ⟨e1, e2, e3, e4, p, e5, e6⟩ := h.says c n hs
  have hkn : k = n := by
    rcases Nat.lt_or_eq_of_le e2 with h1 | h1
    · obtain ⟨s, hd⟩ := says_next hs h1 e6
      have h2 := congrArg List.length hd
      rw [List.length_drop, List.length_append] at h2
      have : 0 < ((c k).enc (bodyTo c k).2).length := by unfold AccD.enc; simp
      omega
    · exact h1
  subst hkn
  rw [hs.bytes]; unfold encAll; rw [bodyTo_congr e3]
end Go.Proofs.Ytfjddkjfkgdihaa
