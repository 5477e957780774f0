/- Layer 32: a text is split; a colon is cut off. -/
import Derived.Test.YtjbngddmmdcagaaDoorY1
import Derived.Test.YtjbngddmmdcagaaDoorW2
import Derived.Lib.SplitLaws
namespace Go.Proofs.YtjbngddmmdcagaaDoor
open Go.RowKit Go.BigFrame
set_option linter.unusedVariables false
set_option linter.unusedSimpArgs false

theorem occ_one {l : List UInt8} {c : UInt8} {i : Nat} : Lib.occAt l [c] i = true ↔ l[i]? = some c := by
  unfold Lib.occAt
  rw [← List.head?_drop]
  cases h : l.drop i with
  | nil => simp
  | cons a t =>
    simp only [List.isPrefixOf, List.head?_cons, Option.some.injEq, Bool.and_true, beq_iff_eq]
    exact eq_comm
theorem splitK_cut (c : UInt8) : ∀ (n : Nat) (l : List UInt8), l.length ≤ n → Lib.splitK [c] 0 (Lib.count l [c]) l = cutAt c l := by
  intro n
  induction n with
  | zero =>
    intro l h
    obtain rfl : l = [] := List.length_eq_zero_iff.1 (by omega)
    rfl
  | succ n ih =>
    intro l h
    rcases Lib.index_spec l [c] with ⟨h1, h2⟩ | ⟨i, h1, h2, h3, h4⟩
    · rw [Lib.count_miss h1]
      have hc : c ∉ l := fun hm => by
        obtain ⟨j, hj, e⟩ := List.getElem_of_mem hm
        have := h2 j (by omega)
        have h5 : Lib.occAt l [c] j = true := occ_one.2 (by rw [List.getElem?_eq_getElem hj, e])
        rw [h5] at this; cases this
      rw [cutAt_none hc]; rfl
    · rw [Lib.count_hit (by simp) h1, Nat.add_comm]
      have hi : l[i]? = some c := occ_one.1 h3
      have hil : i < l.length := (List.getElem?_eq_some_iff.1 hi).1
      have hne : ¬ (Lib.index l [c] == -1) = true := by rw [h1]; simp
      have e1 : (Lib.index l [c]).toNat = i := by rw [h1]; simp
      rw [Lib.splitK, if_neg hne, e1]
      have hcut : l = l.take i ++ c :: l.drop (i + 1) := by
        have h6 := (List.getElem?_eq_some_iff.1 hi).2
        rw [← h6, ← List.drop_eq_getElem_cons hil, List.take_append_drop]
      have hn : c ∉ l.take i := fun hm => by
        obtain ⟨j, hj, e⟩ := List.getElem_of_mem hm
        rw [List.length_take] at hj
        rw [List.getElem_take] at e
        have h5 : Lib.occAt l [c] j = true := occ_one.2 (by rw [List.getElem?_eq_getElem (by omega), e])
        have h7 := h4 j (by omega)
        rw [h5] at h7; cases h7
      have h8 := cutAt_one (l.drop (i + 1)) hn
      rw [← hcut] at h8
      rw [h8]
      simp only [Nat.add_zero, List.length_cons, List.length_nil, Nat.zero_add]
      rw [ih (l.drop (i + 1)) (by rw [List.length_drop]; omega)]
def SplitTo (l : List (List UInt8)) (w : World) (e : Ending) (w' : World) : Prop := e = .returned (.slice (some ⟨w.heap.size, 0, none⟩) l.length l.length) ∧ w' = w.alloc (.cells (strsL l).toArray 9)
theorem split26 (l : List UInt8) (c : UInt8) (hl : l.length < 4294967281) (m : Int) (w : World) (hm : w.cell? ⟨0, 0, none⟩ = some (.int .i64 m)) : Calls Tryd.prog 26 #[.string (txt l), .string ⟨#[c]⟩] w (SplitTo (cutAt c l) w) := by
  have h := Tryd.strings_Split (txt l) ⟨#[c]⟩ m w (by rw [txt_size]; exact hl) hm (Nat.le_refl 1)
  refine h.mono ?_
  rintro e w' ⟨rfl, rfl⟩
  have e1 : Lib.splitB ⟨#[c]⟩ 0 (Lib.countB (txt l) ⟨#[c]⟩) (txt l) = (cutAt c l).map txt := by
    have h1 := Lib.splitB_data ⟨#[c]⟩ 0 (Lib.countB (txt l) ⟨#[c]⟩) (txt l)
    have h2 : Lib.countB (txt l) ⟨#[c]⟩ = Lib.count l [c] := by unfold Lib.countB; rw [txt_list]
    rw [txt_list, h2] at h1
    rw [h2]
    have h3 := splitK_cut c l.length l (Nat.le_refl _)
    rw [show ((⟨#[c]⟩ : ByteArray).data.toList) = [c] from rfl, h3] at h1
    rw [← h1, List.map_map]
    have : (txt ∘ fun x : ByteArray => x.data.toList) = id := funext fun s => (txt_of s).symm
    rw [this, List.map_id]
  have e2 := Lib.splitB_all ⟨#[c]⟩ (Nat.le_refl 1) 0 _ (txt l) rfl
  rw [e1, List.length_map] at e2
  refine ⟨by rw [e2], ?_⟩
  rw [e1]
  unfold strsL
  rw [List.map_map]; rfl
theorem hasSuffix_colon (a : List UInt8) : Lib.hasSuffix a [58] = decide (a.getLast? = some 58) := by
  unfold Lib.hasSuffix
  rw [Bool.eq_iff_iff, List.isSuffixOf_iff_suffix, decide_eq_true_eq]
  constructor
  · rintro ⟨t, rfl⟩
    simp
  · intro h
    obtain ⟨ys, hy⟩ := List.getLast?_eq_some_iff.1 h
    exact ⟨ys, hy.symm⟩
theorem cut46 (a : List UInt8) (ha : a.length ≤ 9223372036854775807) (w : World) : Calls Tryd.prog 46 #[.string (txt a), .string ⟨#[58]⟩] w (Says (.tuple #[.string (txt (if a.getLast? = some 58 then a.dropLast else a)), .bool (decide (a.getLast? = some 58))]) w) := by
  have h := Tryd.strings_CutSuffix (txt a) ⟨#[58]⟩ w (by rw [txt_size]; exact ha)
  refine h.mono ?_
  rintro e w' ⟨rfl, rfl⟩
  refine ⟨?_, rfl⟩
  rw [txt_list, show ((⟨#[58]⟩ : ByteArray).data.toList) = [58] from rfl, hasSuffix_colon]
  unfold Lib.trimSuffix
  rw [hasSuffix_colon]
  by_cases hc : a.getLast? = some 58
  · rw [if_pos (by simpa using hc), if_pos hc]
    simp [List.dropLast_eq_take]; rfl
  · rw [if_neg (by simpa using hc), if_neg hc]; rfl
end Go.Proofs.YtjbngddmmdcagaaDoor
