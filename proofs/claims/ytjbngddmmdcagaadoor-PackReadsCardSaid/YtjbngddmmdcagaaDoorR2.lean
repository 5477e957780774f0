/- Layer 32's reader of the document: the cut into parts. -/
import Derived.Test.YtjbngddmmdcagaaDoorR1
import Derived.Test.YtjbngddmmdcagaaDoorW2
import Derived.Test.YtjbngddmmdcagaaDoorY4
namespace Go.Proofs.YtjbngddmmdcagaaDoor
open Go.RowKit Go.BigFrame
set_option linter.unusedVariables false
set_option linter.unusedSimpArgs false

theorem txt_slice (l : List UInt8) (a b : Nat) : (txt l).extract a b = txt ((l.drop a).take (b - a)) := by
  have h : ∀ x y : ByteArray, x.data.toList = y.data.toList → x = y := fun ⟨⟨x⟩⟩ ⟨⟨y⟩⟩ h => by cases h; rfl
  apply h
  rw [Lib.extract_data, txt_list, txt_list]
/-- The stages of the cut: what was cut so far, where the part begins that is being read. -/
def CutSt (c : UInt8) (l : List UInt8) (i at_ : Nat) (done : List (List UInt8)) : Prop :=
  (i ≤ l.length ∧ at_ ≤ i ∧ cutAt c l = done ++ cutAt c (l.drop at_) ∧ c ∉ (l.drop at_).take (i - at_)) ∨ (i = l.length + 1 ∧ at_ = i ∧ cutAt c l = done)
theorem CutSt.start (c : UInt8) (l : List UInt8) : CutSt c l 0 0 [] := .inl ⟨by omega, by omega, by simp, by simp⟩
theorem CutSt.skip {c : UInt8} {l : List UInt8} {i a : Nat} {done : List (List UInt8)} (h : CutSt c l i a done) (hi : i < l.length) (hc : l[i] ≠ c) : CutSt c l (i + 1) a done := by
  rcases h with ⟨h1, h2, h3, h4⟩ | ⟨h1, h2, h3⟩
  · refine .inl ⟨by omega, by omega, h3, ?_⟩
    rw [show i + 1 - a = (i - a) + 1 by omega, List.take_add_one, List.mem_append]
    rintro (h | h)
    · exact h4 h
    · rw [List.getElem?_drop, show a + (i - a) = i by omega, List.getElem?_eq_getElem hi] at h
      simp at h
      exact hc h.symm
  · omega
theorem CutSt.cut {c : UInt8} {l : List UInt8} {i a : Nat} {done : List (List UInt8)} (h : CutSt c l i a done) (hi : i < l.length) (hc : l[i] = c) : CutSt c l (i + 1) (i + 1) (done ++ [(l.drop a).take (i - a)]) := by
  rcases h with ⟨h1, h2, h3, h4⟩ | ⟨h1, h2, h3⟩
  · refine .inl ⟨by omega, by omega, ?_, by simp⟩
    have e : l.drop a = (l.drop a).take (i - a) ++ c :: l.drop (i + 1) := by
      conv => lhs; rw [← List.take_append_drop (i - a) (l.drop a)]
      rw [List.drop_drop, show a + (i - a) = i by omega, List.drop_eq_getElem_cons hi, hc]
    rw [h3, List.append_assoc, List.singleton_append]
    congr 1
    conv => lhs; rw [e]
    exact cutAt_one _ h4
  · omega
theorem CutSt.last {c : UInt8} {l : List UInt8} {a : Nat} {done : List (List UInt8)} (h : CutSt c l l.length a done) : CutSt c l (l.length + 1) (l.length + 1) (done ++ [(l.drop a).take (l.length - a)]) := by
  rcases h with ⟨h1, h2, h3, h4⟩ | ⟨h1, h2, h3⟩
  · have e : (l.drop a).take (l.length - a) = l.drop a := by rw [List.take_of_length_le]; simp
    rw [e] at h4 ⊢
    exact .inr ⟨rfl, rfl, by rw [h3, cutAt_none h4]⟩
  · omega
theorem CutSt.done {c : UInt8} {l : List UInt8} {a : Nat} {done : List (List UInt8)} (h : CutSt c l (l.length + 1) a done) : cutAt c l = done := by
  rcases h with ⟨h1, h2, h3, h4⟩ | ⟨h1, h2, h3⟩
  · omega
  · exact h3
theorem CutSt.le {c : UInt8} {l : List UInt8} {i a : Nat} {done : List (List UInt8)} (h : CutSt c l i a done) : i ≤ l.length + 1 ∧ a ≤ i := by
  rcases h with ⟨h1, h2, h3, h4⟩ | ⟨h1, h2, h3⟩ <;> omega
/-- A new list of strings. -/
def NewStrs (l : List (List UInt8)) (w : World) (e : Ending) (w' : World) : Prop := ∃ v, e = .returned v ∧ Below w.heap.size w w' ∧ w'.ownsRow w.heap.size 9 1 v l.length (strsL l)
set_option maxRecDepth 100000 in
set_option maxHeartbeats 8000000 in
theorem refSplit33 (c : UInt8) (cz : Int) (hcz : cz = (c.toNat : Int)) (l : List UInt8) (hl : l.length ≤ 1000000) (w : World) :
    Calls Tryd.prog 33 #[.string (txt l), .int .u8 cz] w (NewStrs (cutAt c l) w) := by
  unfold NewStrs
  obtain ⟨i9, hi, hz0, hz1, hz2⟩ := info_parts info9
  have es : (txt l).size = l.length := txt_size l
  obtain ⟨B, hB⟩ : ∃ B, B = w.heap.size := ⟨_, rfl⟩
  rw [← hB]
  have HB := Lib.hid hB
  clear hB
  have HCZ := Lib.hid hcz
  clear hcz
  go_enter Tryd.func33, Tryd.ntmps33
  go_wp2_with fail
  go_loopw [5, 6, 7] (fun v at_ iv wr => ∃ (i a : Nat) (done : List (List UInt8)), Hid (CutSt c l i a done) ∧ done.length ≤ i ∧ at_ = .int .i64 a ∧ iv = .int .i64 i ∧ i ≤ l.length + 1 ∧ a ≤ i ∧ Hid (wr.ownsRow B 9 1 v done.length (strsL done)) ∧ Hid (Below B w wr)) (fun _ _ i _ => l.length + 1 - (intOf i).toNat)
  case atStart => exact ⟨0, 0, [], Lib.hid (CutSt.start c l), by simp, rfl, rfl, by omega, by omega, Lib.hid (World.ownsRow_nil _ _ _ _), Lib.hid (Below.refl _ _)⟩
  case round =>
    obtain ⟨i, a, done, HS, hdl, rfl, rfl, hi1, ha1, HO, HBE⟩ := hrel
    have hBw : B ≤ wr.heap.size := by have := HBE.out.size; have := HB.out; omega
    have q1 : done.length + 1 ≤ maxLen := by unfold maxLen; omega
    have q2 : (done.length + 1) * 16 ≤ 140737488355328 := by omega
    obtain ⟨va, vc, rfl⟩ := own_slice_n HO.out
    by_cases hle : i ≤ l.length
    · have d1 : decide ((i : Int) ≤ (l.length : Int)) = true := bool_yes (by omega)
      by_cases hlt : i < l.length
      · have d2 : ((i : Int) == (l.length : Int)) = false := by rw [beq_eq_false_iff_ne]; omega
        obtain ⟨x, hx⟩ : ∃ x : Nat, x = l[i].toNat := ⟨_, rfl⟩
        have hgx : ∀ h : i < (txt l).size, ((txt l)[i]'h).toNat = x := fun h => by rw [hx]; exact congrArg UInt8.toNat (txt_at l i hlt h)
        by_cases hc : l[i] = c
        · have d3 : ((x : Int) == cz) = true := by rw [beq_iff_eq, HCZ.out, hx, hc]
          have HN := Lib.hid (CutSt.cut HS.out hlt hc)
          clear hx hc
          have hsl := txt_slice l a i
          obtain ⟨p, hp⟩ : ∃ p, p = (l.drop a).take (i - a) := ⟨_, rfl⟩
          rw [← hp] at hsl HN
          clear hp
          go_wp2_with (at_builtin; refine wpList_push rfl (.tmp 25) (.tmp 30) 61 rfl B 9 i9 (.string ⟨#[]⟩) 1 16 Tryd.underlying61 hi hz0 hz1 hz2 rfl (by decide) _ hBw (.slice va done.length vc) done.length (strsL done) rfl HO.out #[.string (txt p)] 1 1 rfl rfl (by simp [Value.oneCell']) q1 q2 ?_; intro v' w' ho' hg' hb' hn'; have HO' := Lib.hid ho'; have HB' := Lib.hid (hb' _ _ HBE.out (Nat.le_refl _)); clear ho' hg' hb' hn')
          go_roundw
          case rel => exact ⟨i + 1, i + 1, done ++ [p], HN, by simp; omega, by go_num, by go_num, by omega, by omega, Lib.hid (by rw [List.length_append, strsL_append]; exact HO'.out), HB'⟩
          case measure => simp [intOf]; omega
        · have d3 : ((x : Int) == cz) = false := by
            rw [beq_eq_false_iff_ne, HCZ.out, hx]
            intro e
            exact hc (UInt8.toNat_inj.1 (by omega))
          have HN := Lib.hid (CutSt.skip HS.out hlt hc)
          clear hx hc
          go_wp2_with fail
          go_roundw
          case rel => exact ⟨i + 1, a, done, HN, by omega, rfl, by go_num, by omega, by omega, HO, HBE⟩
          case measure => simp [intOf]; omega
      · obtain rfl : i = l.length := by omega
        have d2 : ((l.length : Int) == (l.length : Int)) = true := by simp
        have HN := Lib.hid (CutSt.last HS.out)
        have hsl := txt_slice l a l.length
        obtain ⟨p, hp⟩ : ∃ p, p = (l.drop a).take (l.length - a) := ⟨_, rfl⟩
        rw [← hp] at hsl HN
        clear hp
        go_wp2_with (at_builtin; refine wpList_push rfl (.tmp 25) (.tmp 30) 61 rfl B 9 i9 (.string ⟨#[]⟩) 1 16 Tryd.underlying61 hi hz0 hz1 hz2 rfl (by decide) _ hBw (.slice va done.length vc) done.length (strsL done) rfl HO.out #[.string (txt p)] 1 1 rfl rfl (by simp [Value.oneCell']) q1 q2 ?_; intro v' w' ho' hg' hb' hn'; have HO' := Lib.hid ho'; have HB' := Lib.hid (hb' _ _ HBE.out (Nat.le_refl _)); clear ho' hg' hb' hn')
        go_roundw
        case rel => exact ⟨l.length + 1, l.length + 1, done ++ [p], HN, by simp; omega, by go_num, by go_num, by omega, by omega, Lib.hid (by rw [List.length_append, strsL_append]; exact HO'.out), HB'⟩
        case measure => simp [intOf]
    · obtain rfl : i = l.length + 1 := by omega
      have d1 : decide (((l.length + 1 : Nat) : Int) ≤ (l.length : Int)) = false := bool_no (by omega)
      have d2 : decide (((l.length : Int) + 1) ≤ (l.length : Int)) = false := bool_no (by omega)
      have HD := Lib.hid (CutSt.done HS.out)
      go_wp2_with fail
      go_ret
      exact ⟨_, rfl, HBE.out, by rw [HD.out]; exact HO.out⟩
end Go.Proofs.YtjbngddmmdcagaaDoor
