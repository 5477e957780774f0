/- Layer 3: words cut into lines. -/
import Derived.Test.YtjbngddmmdcagaaDoorC37
namespace Go.Proofs.YtjbngddmmdcagaaDoor
open Go.RowKit Go.BigFrame
set_option linter.unusedVariables false
set_option linter.unusedSimpArgs false

theorem info102 : (Tryd.prog.info? 58).map (fun i => (i.zero, i.size, i.bytes)) = some (some (.agg #[.int .u64 0, .int .u64 0, .int .u64 0, .int .u64 0, .int .u64 0, .int .u64 0, .int .u64 0, .int .u64 0]), 8, 64) := by kernel_rfl
theorem step_line {ops : Array Oper} {o : Oper} {a : Act} {w : World} {K : Act → World → Prop} {Q : Exit → Act → World → Prop} {E : Prop} (hgd : o.guard = none) (t : Nat) (ho : o.op = .buildSlice 40 1 #[(0, .tmp t)]) (v0 v1 v2 v3 v4 v5 v6 v7 : Int)
    (hs : a.tmps[t]?.getD undef = .agg #[.int .u64 v0, .int .u64 v1, .int .u64 v2, .int .u64 v3, .int .u64 v4, .int .u64 v5, .int .u64 v6, .int .u64 v7])
    (h : K (a.put o.dst (.slice (some ⟨w.heap.size, 0, none⟩) 1 1)) (w.alloc (.cells #[.int .u64 v0, .int .u64 v1, .int .u64 v2, .int .u64 v3, .int .u64 v4, .int .u64 v5, .int .u64 v6, .int .u64 v7] 58))) :
    if Region.wanted o (yielded ops a.tmps) = true then Oper.wp Tryd.prog o a w K Q else E := by
  have hw : Region.wanted o (yielded ops a.tmps) = true := by simp [Region.wanted, hgd]
  rw [if_pos hw]
  obtain ⟨o1, o2, o3, o4, o5, o6⟩ := o
  subst ho
  simp [Oper.wp, go_sem, hs]
  exact h
/-- Words were cut into lines, or not. -/
def CutTo (f : Nat → Int) (n : Nat) (w : World) (e : Ending) (w' : World) : Prop :=
  ∃ v, e = .returned (.tuple #[v, .int .i64 0]) ∧ Below w.heap.size w w' ∧ w'.ownsRow w.heap.size 58 8 v (n / 8) (wordsL f (8 * (n / 8)))
def wholeE (n : Nat) : Int := if (n : Int) % 8 ≠ 0 then 3 else if 262144 < (n : Int) / 8 then 2 else 0
theorem cut35_no (a : Option Addr) (n cap : Nat) (hn : n ≤ 9223372036854775807) (he : wholeE n ≠ 0) (w : World) : Calls Tryd.prog 16 #[.slice a n cap] w (Tells (.tuple #[.slice none 0 0, .int .i64 (wholeE n)]) w) := by
  have HW := Lib.hid (whole49 n hn w)
  rw [show (if (n : Int) % 8 ≠ 0 then (3 : Int) else if 262144 < (n : Int) / 8 then 2 else 0) = wholeE n from rfl] at HW
  generalize wholeE n = e at *
  have e1 : (e != 0) = true := by simpa using he
  clear he
  go_enter Tryd.func16, Tryd.ntmps16
  go_wp2_with fail
  with_reducible refine HW.out.mono ?_
  rintro e w' ⟨rfl, hw⟩
  cases hw
  go_wp2_with fail
  go_ret2
  exact ⟨rfl, Below.refl _ _, rfl⟩
/-- Left by its end or by ret alone. -/
def OnlyRet (Q : Exit → Act → World → Prop) : Exit → Act → World → Prop
  | .ret, a, w => Q .ret a w
  | .normal, a, w => Q .normal a w
  | _, _, _ => False
theorem OnlyRet.out {Q : Exit → Act → World → Prop} (e : Exit) (a : Act) (w : World) (h : OnlyRet Q e a w) : Q e a w := by
  cases e <;> first | exact h | exact h.elim
set_option maxRecDepth 100000 in
set_option maxHeartbeats 4000000 in
theorem cut35 (a0 : Option Addr) (b off n cap : Nat) (ha : 8 ≤ n → a0 = some ⟨b, off, none⟩) (hn : n ≤ cap) (hc : cap ≤ 9223372036854775807) (he : wholeE n = 0) (f : Nat → Int) (w0 : World) (hb : 0 < n → b < w0.heap.size) (hw : ∀ j, j < n → w0.cell? ⟨b, off + j, none⟩ = some (.int .u64 (f j))) :
    Calls Tryd.prog 16 #[.slice a0 n cap] w0 (CutTo f n w0) := by
  have HW := Lib.hid (whole49 n (by omega) w0)
  rw [show (if (n : Int) % 8 ≠ 0 then (3 : Int) else if 262144 < (n : Int) / 8 then 2 else 0) = 0 from he] at HW
  have HN : Hid (n % 8 = 0 ∧ n / 8 ≤ 262144) := Lib.hid (by unfold wholeE at he; split at he; omega; split at he; omega; omega)
  have HB := Lib.hid hb
  have HA := Lib.hid ha
  have HD := Lib.hid hw
  have HC := Lib.hid (And.intro hn hc)
  clear hb hw hn hc he ha
  refine (callsIn_wide (n := 9)).1 (callsIn_of_wp_marks Tryd.func16 rfl trivial ?_ rfl)
  refine wpIn_wide.2 ?_
  simp only [Tryd.ntmps16, List.size_toArray, List.length_cons, List.length_nil, Nat.reduceAdd, Nat.reduceSub, Array.replicate_succ, Array.replicate_zero, List.push_toArray, List.append_toArray, List.nil_append, List.cons_append]
  go_wp2_with fail
  with_reducible refine HW.out.mono ?_
  rintro e w' ⟨rfl, hw⟩
  cases hw
  go_wp2_with (go_at_call 36; refine (parts50 _ ⟨_, _, _, rfl⟩ _ _).mono ?_; rintro e w3 ⟨rfl, hw3⟩; have HW3 := Lib.hid hw3; clear hw3)
  obtain ⟨i102, hi, hz0, hz1, hz2⟩ := info_parts info102
  obtain ⟨po, hpo⟩ : ∃ po, po = w0.heap.size := ⟨_, rfl⟩
  have n1 : po ≠ po + 1 := by omega
  have n2 : po + 1 ≠ po + 1 + 1 := by omega
  have n3 : po ≠ po + 1 + 1 := by omega
  have HST : Hid (CutAt w0 w3 po (po + 1) (po + 1 + 1) b off n cap f 0 0) := Lib.hid (by
    have h3 := HW3.out
    have k0 : w3.heap[po]? = some (.cells #[.slice none 0 0] 40 (0, 0)) := by
      rw [h3, Below.heap_alloc _ _ _ (by simp; omega), Below.heap_alloc _ _ _ (by simp; omega), hpo, heap_alloc_new]
    have k1 : w3.heap[po + 1]? = some (.cells #[.slice a0 n cap] 22 (0, 0)) := by
      have := heap_alloc_new (w0.alloc (.cells #[.slice none 0 0] 40)) (.cells #[.slice a0 n cap] 22)
      rw [World.size_alloc] at this
      rw [h3, Below.heap_alloc _ _ _ (by simp; omega), hpo]; exact this
    have k2 : w3.heap[po + 1 + 1]? = some (.cells #[.int .i64 8] 3 (0, 0)) := by
      have := heap_alloc_new ((w0.alloc (.cells #[.slice none 0 0] 40)).alloc (.cells #[.slice a0 n cap] 22)) (.cells #[.int .i64 8] 3)
      rw [World.size_alloc, World.size_alloc] at this
      rw [h3, hpo]; exact this
    have l2 := (Array.getElem?_eq_some_iff.1 k2).1
    refine ⟨?_, ⟨a0, fun h => HA.out (by omega), by rw [cell_in k1]; rfl, by rw [cell_in k2]; rfl, by unfold World.frozen?; rw [k1]; simp⟩, ⟨_, by rw [cell_in k0]; rfl, World.ownsRow_nil _ _ _ _, (by intro e; cases e), (by intro e; cases e), (by intro e; cases e)⟩, by unfold World.frozen?; rw [k0]; simp, ⟨by omega, by omega⟩, ⟨by omega, by omega⟩, ⟨by omega, by omega⟩⟩
    rw [h3]
    exact ((((Below.refl _ _).alloc (Nat.le_refl _) _).alloc (by simp) _).alloc (by simp; omega) _))
  rw [← hpo]
  clear hpo
  refine (wpIn_wide (n := 9)).1 (range71 (w0 := w0) (f := f) HC.out.1 HC.out.2 n1 n2 rfl HST.out ?_ ?_ ?_)
  · intro l v W K hK
    simp only [List.setIfInBounds_toArray, List.set_cons_succ, List.set_cons_zero] at hK ⊢
    gi_wp2
    exact hK
  · intro l k W hk h
    have HK : Hid (k + 1 ≤ 262144) := Lib.hid (by have := HN.out; omega)
    have HPD : Hid (CutAt w0 W.drew po (po + 1) (po + 1 + 1) b off n cap f k k) := Lib.hid (h.grow ((Below.refl _ W).drew))
    have HSD : Hid (Stays W W.drew) := Lib.hid (fun _ _ h _ => h)
    have HW8 := Lib.hid (wordsL_8 f k)
    have h8 : Eight W.drew b (off + 8 * k) (fun r => f (k * 8 + r)) := fun r hr => by
      have := HD.out (8 * k + r) (by omega)
      show W.drew.cell? ⟨b, off + 8 * k + r, none⟩ = some (.int .u64 (f (k * 8 + r)))
      rw [show off + 8 * k + r = off + (8 * k + r) by omega, show k * 8 + r = 8 * k + r by omega]
      exact (HPD.out.below.cell (p := ⟨b, off + (8 * k + r), none⟩) (HB.out (by omega))).trans this
    obtain ⟨c0, c1, c2, c3, c4, c5, c6, c7⟩ := h8.cells
    rw [Nat.add_zero] at c0
    clear h h8 hk
    refine wpIn_block (region_in (by kernel_rfl) ?_ ?_ ?_)
    · intro i o ho cc hc
      have hi : i < 7 := (Array.getElem?_eq_some_iff.1 ho).1
      rcases i with _ | _ | _ | _ | _ | _ | _ | i <;> first | (cases ho; cases hc) | omega
    · rintro ⟨a, w, h⟩; exact h
    simp only [List.setIfInBounds_toArray, List.set_cons_succ, List.set_cons_zero]
    generalize W.drew = Wd at *
    obtain ⟨vo, hvo, hown, u1, u2, u3⟩ := HPD.out.out
    obtain ⟨oa, om, oc, rfl⟩ := own_slice hown
    have co := hvo
    have fo := HPD.out.fpo
    have HO := Lib.hid hown
    have HPO : Hid (some po ≠ (Value.slice oa om oc).ownBlock) := Lib.hid (Ne.symm u1)
    have p1 : po ≠ Wd.heap.size := by have := HPD.out.h1.2; omega
    have p2 : Wd.heap.size ≠ po := Ne.symm p1
    have p3 : po < Wd.heap.size := HPD.out.h1.2
    clear hvo hown u1 u2 u3
    generalize off + 8 * k = o at *
    generalize f (k * 8) = v0 at *
    generalize f (k * 8 + 1) = v1 at *
    generalize f (k * 8 + 2) = v2 at *
    generalize f (k * 8 + 3) = v3 at *
    generalize f (k * 8 + 4) = v4 at *
    generalize f (k * 8 + 5) = v5 at *
    generalize f (k * 8 + 6) = v6 at *
    generalize f (k * 8 + 7) = v7 at *
    refine wpAny_take (i := 1) (v := .slice (some ⟨b, o, none⟩) 8 8) rfl (by kernel_rfl) (by kernel_rfl) (by kernel_rfl) (fun _ _ _ h => h) (Or.inl ⟨by rfl, by intro w; go_simp; try with_reducible rfl⟩) ?_
    refine wpAny_ready (rs := [0, 2]) (by kernel_rfl) (by simp) (AllReady.cons rfl (fun K hK => ?_) (AllReady.cons rfl (fun K hK => ?_) AllReady.nil))
    · skip
      go_simp
      refine hK _ _ ?_
      clear hK
      refine wpAny_ready (rs := [2]) (by kernel_rfl) (by simp) (AllReady.cons rfl (fun K hK => ?_) AllReady.nil)
      go_simp
      refine hK _ _ ?_
      clear hK
      refine wpAny_ready (rs := [3]) (by kernel_rfl) (by simp) (AllReady.cons rfl (fun K hK => ?_) AllReady.nil)
      go_simp
      refine hK _ _ ?_
      clear hK
      refine wpAny_ready (rs := [4]) (by kernel_rfl) (by simp) (AllReady.cons rfl (fun K hK => ?_) AllReady.nil)
      refine step_line rfl 19 rfl v0 v1 v2 v3 v4 v5 v6 v7 rfl ?_
      refine hK _ _ ?_
      clear hK
      refine wpAny_ready (rs := [5]) (by kernel_rfl) (by simp) (AllReady.cons rfl (fun K hK => ?_) AllReady.nil)
      have HBW : Hid (Below Wd.heap.size Wd (Wd.alloc (.cells #[.int .u64 v0, .int .u64 v1, .int .u64 v2, .int .u64 v3, .int .u64 v4, .int .u64 v5, .int .u64 v6, .int .u64 v7] 58))) := Lib.hid ((Below.refl _ _).alloc (Nat.le_refl _) _)
      refine step_append_at rfl (.tmp 16) (.tmp 20) 40 rfl w0.heap.size 58 i102 _ 8 64 Tryd.underlying40 hi hz0 hz1 hz2 rfl (by decide) (.slice oa om oc) k _ rfl (HO.out.alloc _) ⟨Wd.heap.size, 0, none⟩ 1 1 [.int .u64 v0, .int .u64 v1, .int .u64 v2, .int .u64 v3, .int .u64 v4, .int .u64 v5, .int .u64 v6, .int .u64 v7] rfl rfl (fun j u hj => cell_alloc Wd _ 58 j u hj) (by simp [Value.oneCell']) (by have := HK.out; unfold maxLen; omega) (by have := HK.out; omega) (by have := HPD.out.below.size; simp; omega) ?_
      intro v' w4 ho4 hg4 hb4
      obtain ⟨na, nm, nc, rfl⟩ := own_slice ho4
      have HO4 := Lib.hid ho4
      have HG4 := Lib.hid hg4
      have HB4 := Lib.hid hb4
      have hk4 : w4.heap[po]? = Wd.heap[po]? := (hg4.block po (by have := HPD.out.h1.2; simp; omega) HPO.out).trans (Below.heap_alloc _ _ _ HPD.out.h1.2)
      have co4 : w4.cell? ⟨po, 0, none⟩ = some (.slice oa om oc) := by rw [cell_of_heap hk4]; exact co
      have fo4 : w4.frozen? ⟨po, 0, none⟩ = false := by rw [frozen_of_heap hk4]; exact fo
      clear ho4 hg4 hb4 hk4
      refine hK _ _ ?_
      clear hK
      refine wpAny_ready (rs := [6]) (by kernel_rfl) (by simp) (AllReady.cons rfl (fun K hK => ?_) AllReady.nil)
      go_simp
      refine hK _ _ ?_
      clear hK
      refine wpAny_done (by kernel_rfl) ?_ _
      have hfin := HPD.out.add n1 n2 n3 co HBW.out (by rw [HW8.out]; exact HO4.out) HG4.out HB4.out
      exact ⟨hfin.1, HSD.out.trans hfin.2⟩
    · skip
      go_simp
      refine hK _ _ ?_
      clear hK
      refine wpAny_ready (rs := [0, 3]) (by kernel_rfl) (by simp) (AllReady.cons rfl (fun K hK => ?_) (AllReady.cons rfl (fun K hK => ?_) AllReady.nil))
      · skip
        go_simp
        refine hK _ _ ?_
        clear hK
        refine wpAny_ready (rs := [3]) (by kernel_rfl) (by simp) (AllReady.cons rfl (fun K hK => ?_) AllReady.nil)
        go_simp
        refine hK _ _ ?_
        clear hK
        refine wpAny_ready (rs := [4]) (by kernel_rfl) (by simp) (AllReady.cons rfl (fun K hK => ?_) AllReady.nil)
        refine step_line rfl 19 rfl v0 v1 v2 v3 v4 v5 v6 v7 rfl ?_
        refine hK _ _ ?_
        clear hK
        refine wpAny_ready (rs := [5]) (by kernel_rfl) (by simp) (AllReady.cons rfl (fun K hK => ?_) AllReady.nil)
        have HBW : Hid (Below Wd.heap.size Wd (Wd.alloc (.cells #[.int .u64 v0, .int .u64 v1, .int .u64 v2, .int .u64 v3, .int .u64 v4, .int .u64 v5, .int .u64 v6, .int .u64 v7] 58))) := Lib.hid ((Below.refl _ _).alloc (Nat.le_refl _) _)
        refine step_append_at rfl (.tmp 16) (.tmp 20) 40 rfl w0.heap.size 58 i102 _ 8 64 Tryd.underlying40 hi hz0 hz1 hz2 rfl (by decide) (.slice oa om oc) k _ rfl (HO.out.alloc _) ⟨Wd.heap.size, 0, none⟩ 1 1 [.int .u64 v0, .int .u64 v1, .int .u64 v2, .int .u64 v3, .int .u64 v4, .int .u64 v5, .int .u64 v6, .int .u64 v7] rfl rfl (fun j u hj => cell_alloc Wd _ 58 j u hj) (by simp [Value.oneCell']) (by have := HK.out; unfold maxLen; omega) (by have := HK.out; omega) (by have := HPD.out.below.size; simp; omega) ?_
        intro v' w4 ho4 hg4 hb4
        obtain ⟨na, nm, nc, rfl⟩ := own_slice ho4
        have HO4 := Lib.hid ho4
        have HG4 := Lib.hid hg4
        have HB4 := Lib.hid hb4
        have hk4 : w4.heap[po]? = Wd.heap[po]? := (hg4.block po (by have := HPD.out.h1.2; simp; omega) HPO.out).trans (Below.heap_alloc _ _ _ HPD.out.h1.2)
        have co4 : w4.cell? ⟨po, 0, none⟩ = some (.slice oa om oc) := by rw [cell_of_heap hk4]; exact co
        have fo4 : w4.frozen? ⟨po, 0, none⟩ = false := by rw [frozen_of_heap hk4]; exact fo
        clear ho4 hg4 hb4 hk4
        refine hK _ _ ?_
        clear hK
        refine wpAny_ready (rs := [6]) (by kernel_rfl) (by simp) (AllReady.cons rfl (fun K hK => ?_) AllReady.nil)
        go_simp
        refine hK _ _ ?_
        clear hK
        refine wpAny_done (by kernel_rfl) ?_ _
        have hfin := HPD.out.add n1 n2 n3 co HBW.out (by rw [HW8.out]; exact HO4.out) HG4.out HB4.out
        exact ⟨hfin.1, HSD.out.trans hfin.2⟩
      · skip
        go_simp
        refine hK _ _ ?_
        clear hK
        refine wpAny_ready (rs := [0, 4]) (by kernel_rfl) (by simp) (AllReady.cons rfl (fun K hK => ?_) (AllReady.cons rfl (fun K hK => ?_) AllReady.nil))
        · skip
          go_simp
          refine hK _ _ ?_
          clear hK
          refine wpAny_ready (rs := [4]) (by kernel_rfl) (by simp) (AllReady.cons rfl (fun K hK => ?_) AllReady.nil)
          refine step_line rfl 19 rfl v0 v1 v2 v3 v4 v5 v6 v7 rfl ?_
          refine hK _ _ ?_
          clear hK
          refine wpAny_ready (rs := [5]) (by kernel_rfl) (by simp) (AllReady.cons rfl (fun K hK => ?_) AllReady.nil)
          have HBW : Hid (Below Wd.heap.size Wd (Wd.alloc (.cells #[.int .u64 v0, .int .u64 v1, .int .u64 v2, .int .u64 v3, .int .u64 v4, .int .u64 v5, .int .u64 v6, .int .u64 v7] 58))) := Lib.hid ((Below.refl _ _).alloc (Nat.le_refl _) _)
          refine step_append_at rfl (.tmp 16) (.tmp 20) 40 rfl w0.heap.size 58 i102 _ 8 64 Tryd.underlying40 hi hz0 hz1 hz2 rfl (by decide) (.slice oa om oc) k _ rfl (HO.out.alloc _) ⟨Wd.heap.size, 0, none⟩ 1 1 [.int .u64 v0, .int .u64 v1, .int .u64 v2, .int .u64 v3, .int .u64 v4, .int .u64 v5, .int .u64 v6, .int .u64 v7] rfl rfl (fun j u hj => cell_alloc Wd _ 58 j u hj) (by simp [Value.oneCell']) (by have := HK.out; unfold maxLen; omega) (by have := HK.out; omega) (by have := HPD.out.below.size; simp; omega) ?_
          intro v' w4 ho4 hg4 hb4
          obtain ⟨na, nm, nc, rfl⟩ := own_slice ho4
          have HO4 := Lib.hid ho4
          have HG4 := Lib.hid hg4
          have HB4 := Lib.hid hb4
          have hk4 : w4.heap[po]? = Wd.heap[po]? := (hg4.block po (by have := HPD.out.h1.2; simp; omega) HPO.out).trans (Below.heap_alloc _ _ _ HPD.out.h1.2)
          have co4 : w4.cell? ⟨po, 0, none⟩ = some (.slice oa om oc) := by rw [cell_of_heap hk4]; exact co
          have fo4 : w4.frozen? ⟨po, 0, none⟩ = false := by rw [frozen_of_heap hk4]; exact fo
          clear ho4 hg4 hb4 hk4
          refine hK _ _ ?_
          clear hK
          refine wpAny_ready (rs := [6]) (by kernel_rfl) (by simp) (AllReady.cons rfl (fun K hK => ?_) AllReady.nil)
          go_simp
          refine hK _ _ ?_
          clear hK
          refine wpAny_done (by kernel_rfl) ?_ _
          have hfin := HPD.out.add n1 n2 n3 co HBW.out (by rw [HW8.out]; exact HO4.out) HG4.out HB4.out
          exact ⟨hfin.1, HSD.out.trans hfin.2⟩
        · skip
          refine step_line rfl 19 rfl v0 v1 v2 v3 v4 v5 v6 v7 rfl ?_
          refine hK _ _ ?_
          clear hK
          refine wpAny_ready (rs := [0]) (by kernel_rfl) (by simp) (AllReady.cons rfl (fun K hK => ?_) AllReady.nil)
          go_simp
          refine hK _ _ ?_
          clear hK
          refine wpAny_ready (rs := [5]) (by kernel_rfl) (by simp) (AllReady.cons rfl (fun K hK => ?_) AllReady.nil)
          have HBW : Hid (Below Wd.heap.size Wd (Wd.alloc (.cells #[.int .u64 v0, .int .u64 v1, .int .u64 v2, .int .u64 v3, .int .u64 v4, .int .u64 v5, .int .u64 v6, .int .u64 v7] 58))) := Lib.hid ((Below.refl _ _).alloc (Nat.le_refl _) _)
          refine step_append_at rfl (.tmp 16) (.tmp 20) 40 rfl w0.heap.size 58 i102 _ 8 64 Tryd.underlying40 hi hz0 hz1 hz2 rfl (by decide) (.slice oa om oc) k _ rfl (HO.out.alloc _) ⟨Wd.heap.size, 0, none⟩ 1 1 [.int .u64 v0, .int .u64 v1, .int .u64 v2, .int .u64 v3, .int .u64 v4, .int .u64 v5, .int .u64 v6, .int .u64 v7] rfl rfl (fun j u hj => cell_alloc Wd _ 58 j u hj) (by simp [Value.oneCell']) (by have := HK.out; unfold maxLen; omega) (by have := HK.out; omega) (by have := HPD.out.below.size; simp; omega) ?_
          intro v' w4 ho4 hg4 hb4
          obtain ⟨na, nm, nc, rfl⟩ := own_slice ho4
          have HO4 := Lib.hid ho4
          have HG4 := Lib.hid hg4
          have HB4 := Lib.hid hb4
          have hk4 : w4.heap[po]? = Wd.heap[po]? := (hg4.block po (by have := HPD.out.h1.2; simp; omega) HPO.out).trans (Below.heap_alloc _ _ _ HPD.out.h1.2)
          have co4 : w4.cell? ⟨po, 0, none⟩ = some (.slice oa om oc) := by rw [cell_of_heap hk4]; exact co
          have fo4 : w4.frozen? ⟨po, 0, none⟩ = false := by rw [frozen_of_heap hk4]; exact fo
          clear ho4 hg4 hb4 hk4
          refine hK _ _ ?_
          clear hK
          refine wpAny_ready (rs := [6]) (by kernel_rfl) (by simp) (AllReady.cons rfl (fun K hK => ?_) AllReady.nil)
          go_simp
          refine hK _ _ ?_
          clear hK
          refine wpAny_done (by kernel_rfl) ?_ _
          have hfin := HPD.out.add n1 n2 n3 co HBW.out (by rw [HW8.out]; exact HO4.out) HG4.out HB4.out
          exact ⟨hfin.1, HSD.out.trans hfin.2⟩
  · intro D W hD h hK
    dsimp only
    obtain ⟨vo, hvo, hown, u1, u2, u3⟩ := h.out
    obtain ⟨oa, om, oc, rfl⟩ := own_slice hown
    have HH := Lib.hid h
    have HO := Lib.hid hown
    have HKK := Lib.hid hK
    clear h hown hK u1 u2 u3
    go_wp2_with fail
    show LeavesInM Fence.wide 9 Tryd.prog Tryd.f16 _ (CutTo f n w0) [{ target := .collected D, args := #[] }] .returning W
    unfold LeavesInM
    refine ⟨by simp, .inl ⟨_, _, rfl, run_takeDeferred HKK.out, ?_⟩⟩
    exact ⟨_, results_tmp2 rfl _ _ _, _, rfl, (HH.out.put HKK.out rfl hD _).below, ownsRow_putObj HO.out _ HKK.out rfl⟩
end Go.Proofs.YtjbngddmmdcagaaDoor
