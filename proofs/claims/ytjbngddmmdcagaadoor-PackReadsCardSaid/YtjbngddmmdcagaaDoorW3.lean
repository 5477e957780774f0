/- A text written behind a Builder's: what else lies as it lay. -/
import Derived.Test.YtjbngddmmdcagaaDoorW2
import Derived.Test.YtjbngddmmdcagaaDoorShelf
import Derived.Lib.AppendStr
namespace Go.Proofs.YtjbngddmmdcagaaDoor
open Go.RowKit Go.BigFrame
set_option linter.unusedVariables false
set_option linter.unusedSimpArgs false

/-- What is no row of bytes, and no block b, lies as it lay. -/
def Leaves (b : Nat) (W W' : World) : Prop := W.heap.size ≤ W'.heap.size ∧ ∀ k, k < W.heap.size → k ≠ b → (∀ cs f, W.heap[k]? ≠ some (.cells cs 5 f)) → W'.heap[k]? = W.heap[k]?
theorem Leaves.of_below {b : Nat} {W W' : World} (h : Below W.heap.size W W') : Leaves b W W' := ⟨h.size, fun k hk _ _ => h.block k hk⟩
theorem Leaves.trans {b : Nat} {A C D : World} (h : Leaves b A C) (k : Leaves b C D) : Leaves b A D :=
  ⟨Nat.le_trans h.1 k.1, fun q hq hb hn => by
    have e := h.2 q hq hb hn
    rw [← e]; exact k.2 q (Nat.lt_of_lt_of_le hq h.1) hb (fun cs f => by rw [e]; exact hn cs f)⟩
theorem Leaves.refl (b : Nat) (W : World) : Leaves b W W := ⟨Nat.le_refl _, fun _ _ _ _ => rfl⟩
theorem keep_b {w w2 : World} {b : Nat} {p v : Value} (hbk : w.heap[b]? = some (.cells #[p, v] 46 (0, 0))) (hne : v.ownBlock ≠ some b) (hgrow : w.grownBy w2 v.ownBlock) : w2.heap[b]? = some (.cells #[p, v] 46 (0, 0)) := by
  rw [hgrow.block b (Array.getElem?_eq_some_iff.1 hbk).1 (fun e => hne e.symm)]
  exact hbk
/-- Written. -/
def Wrote (B b : Nat) (bs : List Value) (s : ByteArray) (w : World) (e : Ending) (w' : World) : Prop :=
  (∃ v, e = .returned v) ∧ Lib.BuilderAt 46 5 B b (.pointer (some ⟨b, 0, none⟩)) (bs ++ Lib.strCells s) w' ∧ Below B w w' ∧ Leaves b w w'
set_option maxHeartbeats 2000000 in
set_option maxRecDepth 100000 in
theorem write17 (B b : Nat) (bs : List Value) (s : ByteArray) (w : World) (h : Lib.BuilderAt 46 5 B b (.pointer (some ⟨b, 0, none⟩)) bs w) (hlen : bs.length + s.size ≤ 140737488355328) (hBw : B ≤ w.heap.size) :
    Calls Tryd.prog 17 #[.pointer (some ⟨b, 0, none⟩), .string s] w (Wrote B b bs s w) := by
  obtain ⟨i5, hi, hz0, hz1, hz2⟩ := info_parts info5
  have HCC : Hid (Calls Tryd.prog 37 #[.pointer (some ⟨b, 0, none⟩)] w fun e w' => e = .returned (.tuple #[]) ∧ w' = w) :=
    Lib.hid (Any.Builder_copyCheck_used (P := Tryd.prog) (ρ := Tryd.lays156_ren) { Tryd.lays156 with } Tryd.Builder_Extra_156.toX72 b w h.cell0)
  obtain ⟨hB, v, hbk, hown, hne⟩ := h
  have c0 : w.cell? ⟨b, 0, none⟩ = some (.pointer (some ⟨b, 0, none⟩)) := by rw [Lib.cell_of_heap hbk]; rfl
  have c1 : w.cell? ⟨b, 1, none⟩ = some v := by rw [Lib.cell_of_heap hbk]; rfl
  have HO := Lib.hid hown
  have HK := Lib.hid hbk
  have HNE := Lib.hid hne
  clear hbk hown hne
  have q1 : bs.length + s.size ≤ maxLen := by unfold maxLen; omega
  unfold Wrote
  go_enter Tryd.func17, Tryd.ntmps17
  go_wp2_with (first
    | (go_at_call 37; (with_reducible refine HCC.out.mono ?_); rintro e w1 ⟨rfl, hw⟩; cases hw)
    | (at_builtin; refine Lib.wpList_append_own_string _ rfl (.tmp 12) (.tmp 13) 44 9 rfl B 5 i5 Tryd.underlying44 Tryd.underlying9 hi hz0 hz1 hz2 v bs.length bs rfl HO.out s rfl q1 hlen hBw ?_; intro v' w2 hown' hgrow _; have hb2 := keep_b HK.out HNE.out hgrow; have d0 : w2.cell? ⟨b, 0, none⟩ = some (.pointer (some ⟨b, 0, none⟩)) := by { rw [Lib.cell_of_heap hb2]; rfl }; have d1 : w2.cell? ⟨b, 1, none⟩ = some v := by { rw [Lib.cell_of_heap hb2]; rfl }; have f1 : w2.frozen? ⟨b, 1, none⟩ = false := Lib.frozen_of_heap hb2 1; obtain ⟨ao, n', cap, rfl⟩ := own_slice hown'; have HO' := Lib.hid hown'; have HG := Lib.hid hgrow; have HB2 := Lib.hid hb2; clear hown' hgrow hb2))
  go_ret2
  refine ⟨⟨_, rfl⟩, ?_, ?_, ?_⟩
  · exact Lib.BuilderAt.put (T := 46) (e := 5) hB HB2.out (bs' := bs ++ Lib.strCells s) (by simpa [Lib.strCells_length] using HO'.out) (by decide)
  · exact ((Below.refl B w).grown HG.out hBw (fun k hk => (HO.out.lt k hk).1)).setCell (p := ⟨b, 1, none⟩) hB _
  · refine ⟨by have := HG.out.size; simpa [World.setCell] using this, fun k hk hkb hn => ?_⟩
    rw [heap_set_other hkb]
    refine HG.out.block k hk fun e => ?_
    obtain ⟨cs, t, f, hc⟩ := own_cells HO.out e.symm
    rcases HO.out.2 with ⟨rfl, -⟩ | ⟨g, cp, cur, rfl, -, hg, -⟩
    · cases e
    · cases e
      exact hn _ _ hg
end Go.Proofs.YtjbngddmmdcagaaDoor
