/- Layer 3: words cut into lines.
   Layer 4: a device is made.
   Sums of words, plainly. -/
import Derived.Test.YtkdcfijebgeajaaGreatJw3
import Derived.Test.YtkdcfijebgeajaaGreatJw2
import Derived.WalkSpells
import Derived.Laws.MakeOwn
namespace Go.Proofs.YtkdcfijebgeajaaGreat
open Go.RowKit Go.BigFrame
set_option linter.unusedVariables false
set_option linter.unusedSimpArgs false
theorem info102 : (Tryz.prog.info? 142).map (fun i => (i.zero, i.size, i.bytes)) = some (some (.agg #[.int .u64 0, .int .u64 0, .int .u64 0, .int .u64 0, .int .u64 0, .int .u64 0, .int .u64 0, .int .u64 0]), 8, 64) := by kernel_rfl
theorem step_line {ops : Array Oper} {o : Oper} {a : Act} {w : World} {K : Act → World → Prop} {Q : Exit → Act → World → Prop} {E : Prop} (hgd : o.guard = none) (t : Nat) (ho : o.op = .buildSlice 146 1 #[(0, .tmp t)]) (v0 v1 v2 v3 v4 v5 v6 v7 : Int)
    (hs : a.tmps[t]?.getD undef = .agg #[.int .u64 v0, .int .u64 v1, .int .u64 v2, .int .u64 v3, .int .u64 v4, .int .u64 v5, .int .u64 v6, .int .u64 v7])
    (h : K (a.put o.dst (.slice (some ⟨w.heap.size, 0, none⟩) 1 1)) (w.alloc (.cells #[.int .u64 v0, .int .u64 v1, .int .u64 v2, .int .u64 v3, .int .u64 v4, .int .u64 v5, .int .u64 v6, .int .u64 v7] 142))) :
    if Region.wanted o (yielded ops a.tmps) = true then Oper.wp Tryz.prog o a w K Q else E := by
  have hw : Region.wanted o (yielded ops a.tmps) = true := by simp [Region.wanted, hgd]
  rw [if_pos hw]
  obtain ⟨o1, o2, o3, o4, o5, o6⟩ := o
  subst ho
  simp [Oper.wp, go_sem, hs]
  exact h
def CutTo (f : Nat → Int) (n : Nat) (w : World) (e : Ending) (w' : World) : Prop :=
  ∃ v, e = .returned (.tuple #[v, .int .i64 0]) ∧ Below w.heap.size w w' ∧ w'.ownsRow w.heap.size 142 8 v (n / 8) (wordsL f (8 * (n / 8)))
def wholeE (n : Nat) : Int := if (n : Int) % 8 ≠ 0 then 3 else if 262144 < (n : Int) / 8 then 2 else 0
theorem cut35_no (a : Option Addr) (n cap : Nat) (hn : n ≤ 9223372036854775807) (he : wholeE n ≠ 0) (w : World) : Calls Tryz.prog 77 #[.slice a n cap] w (Tells (.tuple #[.slice none 0 0, .int .i64 (wholeE n)]) w) := by
  have HW := Lib.hid (whole49 n hn w)
  rw [show (if (n : Int) % 8 ≠ 0 then (3 : Int) else if 262144 < (n : Int) / 8 then 2 else 0) = wholeE n from rfl] at HW
  generalize wholeE n = e at *
  have e1 : (e != 0) = true := by simpa using he
  clear he
  go_enter Tryz.func77, Tryz.ntmps77
  go_wp2_with fail
  with_reducible refine HW.out.mono ?_
  rintro e w' ⟨rfl, hw⟩
  cases hw
  go_wp2_with fail
  go_ret2
  exact ⟨rfl, Below.refl _ _, rfl⟩
set_option maxRecDepth 100000 in
set_option maxHeartbeats 4000000 in
theorem cut35 (a0 : Option Addr) (b off n cap : Nat) (ha : 8 ≤ n → a0 = some ⟨b, off, none⟩) (hn : n ≤ cap) (hc : cap ≤ 9223372036854775807) (he : wholeE n = 0) (f : Nat → Int) (w0 : World) (hb : 0 < n → b < w0.heap.size) (hw : ∀ j, j < n → w0.cell? ⟨b, off + j, none⟩ = some (.int .u64 (f j))) :
    Calls Tryz.prog 77 #[.slice a0 n cap] w0 (CutTo f n w0) := by
  have HW := Lib.hid (whole49 n (by omega) w0)
  rw [show (if (n : Int) % 8 ≠ 0 then (3 : Int) else if 262144 < (n : Int) / 8 then 2 else 0) = 0 from he] at HW
  have HN : Hid (n % 8 = 0 ∧ n / 8 ≤ 262144) := Lib.hid (by unfold wholeE at he; split at he; omega; split at he; omega; omega)
  have HB := Lib.hid hb
  have HA := Lib.hid ha
  have HD := Lib.hid hw
  have HC := Lib.hid (And.intro hn hc)
  clear hb hw hn hc he ha
  refine (callsIn_wide (n := 9)).1 (callsIn_of_wp_marks Tryz.func77 rfl trivial ?_ rfl)
  refine wpIn_wide.2 ?_
  simp only [Tryz.ntmps77, List.size_toArray, List.length_cons, List.length_nil, Nat.reduceAdd, Nat.reduceSub, Array.replicate_succ, Array.replicate_zero, List.push_toArray, List.append_toArray, List.nil_append, List.cons_append]
  go_wp2_with fail
  with_reducible refine HW.out.mono ?_
  rintro e w' ⟨rfl, hw⟩
  cases hw
  go_wp2_with (go_at_call 147; refine (parts50 _ ⟨_, _, _, rfl⟩ _ _).mono ?_; rintro e w3 ⟨rfl, hw3⟩; have HW3 := Lib.hid hw3; clear hw3)
  obtain ⟨i102, hi, hz0, hz1, hz2⟩ := info_parts info102
  obtain ⟨po, hpo⟩ : ∃ po, po = w0.heap.size := ⟨_, rfl⟩
  have n1 : po ≠ po + 1 := by omega
  have n2 : po + 1 ≠ po + 1 + 1 := by omega
  have n3 : po ≠ po + 1 + 1 := by omega
  have HST : Hid (CutAt w0 w3 po (po + 1) (po + 1 + 1) b off n cap f 0 0) := Lib.hid (by
    have h3 := HW3.out
    have k0 : w3.heap[po]? = some (.cells #[.slice none 0 0] 146 (0, 0)) := by
      rw [h3, Below.heap_alloc _ _ _ (by simp; omega), Below.heap_alloc _ _ _ (by simp; omega), hpo, heap_alloc_new]
    have k1 : w3.heap[po + 1]? = some (.cells #[.slice a0 n cap] 24 (0, 0)) := by
      have := heap_alloc_new (w0.alloc (.cells #[.slice none 0 0] 146)) (.cells #[.slice a0 n cap] 24)
      rw [World.size_alloc] at this
      rw [h3, Below.heap_alloc _ _ _ (by simp; omega), hpo]; exact this
    have k2 : w3.heap[po + 1 + 1]? = some (.cells #[.int .i64 8] 3 (0, 0)) := by
      have := heap_alloc_new ((w0.alloc (.cells #[.slice none 0 0] 146)).alloc (.cells #[.slice a0 n cap] 24)) (.cells #[.int .i64 8] 3)
      rw [World.size_alloc, World.size_alloc] at this
      rw [h3, hpo]; exact this
    have l2 := (Array.getElem?_eq_some_iff.1 k2).1
    refine ⟨?_, ⟨a0, fun h => HA.out (by omega), by rw [cell_in k1]; rfl, by rw [cell_in k2]; rfl, by unfold World.frozen?; rw [k1]; simp⟩, ⟨_, by rw [cell_in k0]; rfl, World.ownsRow_nil _ _ _ _, (by intro e; cases e), (by intro e; cases e), (by intro e; cases e)⟩, by unfold World.frozen?; rw [k0]; simp, ⟨by omega, by omega⟩, ⟨by omega, by omega⟩, ⟨by omega, by omega⟩⟩
    rw [h3]
    exact ((((Below.refl _ _).alloc (Nat.le_refl _) _).alloc (by simp) _).alloc (by simp; omega) _))
  rw [← hpo]
  clear hpo
  refine (wpIn_wide (n := 9)).1 (range71 (w0 := w0) (f := f) HC.out.1 HC.out.2 n1 n2 rfl HST.out ?_ ?_ ?_)
  · intro l v W K hK
    simp only [List.setIfInBounds_toArray, List.set_cons_succ, List.set_cons_zero] at hK ⊢
    gi_wp2
    exact hK
  · intro l k W hk h
    have HK : Hid (k + 1 ≤ 262144) := Lib.hid (by have := HN.out; omega)
    have HPD : Hid (CutAt w0 W.drew po (po + 1) (po + 1 + 1) b off n cap f k k) := Lib.hid (h.grow ((Below.refl _ W).drew))
    have HSD : Hid (Stays W W.drew) := Lib.hid (fun _ _ h _ => h)
    have HW8 := Lib.hid (wordsL_8 f k)
    have h8 : Eight W.drew b (off + 8 * k) (fun r => f (k * 8 + r)) := fun r hr => by
      have := HD.out (8 * k + r) (by omega)
      show W.drew.cell? ⟨b, off + 8 * k + r, none⟩ = some (.int .u64 (f (k * 8 + r)))
      rw [show off + 8 * k + r = off + (8 * k + r) by omega, show k * 8 + r = 8 * k + r by omega]
      exact (HPD.out.below.cell (p := ⟨b, off + (8 * k + r), none⟩) (HB.out (by omega))).trans this
    obtain ⟨c0, c1, c2, c3, c4, c5, c6, c7⟩ := h8.cells
    rw [Nat.add_zero] at c0
    clear h h8 hk
    refine wpIn_block (region_in (by kernel_rfl) ?_ ?_ ?_)
    · intro i o ho cc hc
      have hi : i < 7 := (Array.getElem?_eq_some_iff.1 ho).1
      rcases i with _ | _ | _ | _ | _ | _ | _ | i <;> first | (cases ho; cases hc) | omega
    · rintro ⟨a, w, h⟩; exact h
    simp only [List.setIfInBounds_toArray, List.set_cons_succ, List.set_cons_zero]
    generalize W.drew = Wd at *
    obtain ⟨vo, hvo, hown, u1, u2, u3⟩ := HPD.out.out
    obtain ⟨oa, om, oc, rfl⟩ := own_slice hown
    have co := hvo
    have fo := HPD.out.fpo
    have HO := Lib.hid hown
    have HPO : Hid (some po ≠ (Value.slice oa om oc).ownBlock) := Lib.hid (Ne.symm u1)
    have p1 : po ≠ Wd.heap.size := by have := HPD.out.h1.2; omega
    have p2 : Wd.heap.size ≠ po := Ne.symm p1
    have p3 : po < Wd.heap.size := HPD.out.h1.2
    clear hvo hown u1 u2 u3
    generalize off + 8 * k = o at *
    generalize f (k * 8) = v0 at *
    generalize f (k * 8 + 1) = v1 at *
    generalize f (k * 8 + 2) = v2 at *
    generalize f (k * 8 + 3) = v3 at *
    generalize f (k * 8 + 4) = v4 at *
    generalize f (k * 8 + 5) = v5 at *
    generalize f (k * 8 + 6) = v6 at *
    generalize f (k * 8 + 7) = v7 at *
    refine wpAny_take (i := 1) (v := .slice (some ⟨b, o, none⟩) 8 8) rfl (by kernel_rfl) (by kernel_rfl) (by kernel_rfl) (fun _ _ _ h => h) (Or.inl ⟨by rfl, by intro w; go_simp; try with_reducible rfl⟩) ?_
    refine wpAny_ready (rs := [0, 2]) (by kernel_rfl) (by simp) (AllReady.cons rfl (fun K hK => ?_) (AllReady.cons rfl (fun K hK => ?_) AllReady.nil))
    · skip
      go_simp
      refine hK _ _ ?_
      clear hK
      refine wpAny_ready (rs := [2]) (by kernel_rfl) (by simp) (AllReady.cons rfl (fun K hK => ?_) AllReady.nil)
      go_simp
      refine hK _ _ ?_
      clear hK
      refine wpAny_ready (rs := [3]) (by kernel_rfl) (by simp) (AllReady.cons rfl (fun K hK => ?_) AllReady.nil)
      go_simp
      refine hK _ _ ?_
      clear hK
      refine wpAny_ready (rs := [4]) (by kernel_rfl) (by simp) (AllReady.cons rfl (fun K hK => ?_) AllReady.nil)
      refine step_line rfl 19 rfl v0 v1 v2 v3 v4 v5 v6 v7 rfl ?_
      refine hK _ _ ?_
      clear hK
      refine wpAny_ready (rs := [5]) (by kernel_rfl) (by simp) (AllReady.cons rfl (fun K hK => ?_) AllReady.nil)
      have HBW : Hid (Below Wd.heap.size Wd (Wd.alloc (.cells #[.int .u64 v0, .int .u64 v1, .int .u64 v2, .int .u64 v3, .int .u64 v4, .int .u64 v5, .int .u64 v6, .int .u64 v7] 142))) := Lib.hid ((Below.refl _ _).alloc (Nat.le_refl _) _)
      refine step_append_at rfl (.tmp 16) (.tmp 20) 146 rfl w0.heap.size 142 i102 _ 8 64 Tryz.underlying146 hi hz0 hz1 hz2 rfl (by decide) (.slice oa om oc) k _ rfl (HO.out.alloc _) ⟨Wd.heap.size, 0, none⟩ 1 1 [.int .u64 v0, .int .u64 v1, .int .u64 v2, .int .u64 v3, .int .u64 v4, .int .u64 v5, .int .u64 v6, .int .u64 v7] rfl rfl (fun j u hj => cell_alloc Wd _ _ j u hj) (by simp [Value.oneCell']) (by have := HK.out; unfold maxLen; omega) (by have := HK.out; omega) (by have := HPD.out.below.size; simp; omega) ?_
      intro v' w4 ho4 hg4 hb4
      obtain ⟨na, nm, nc, rfl⟩ := own_slice ho4
      have HO4 := Lib.hid ho4
      have HG4 := Lib.hid hg4
      have HB4 := Lib.hid hb4
      have hk4 : w4.heap[po]? = Wd.heap[po]? := (hg4.block po (by have := HPD.out.h1.2; simp; omega) HPO.out).trans (Below.heap_alloc _ _ _ HPD.out.h1.2)
      have co4 : w4.cell? ⟨po, 0, none⟩ = some (.slice oa om oc) := by rw [cell_of_heap hk4]; exact co
      have fo4 : w4.frozen? ⟨po, 0, none⟩ = false := by rw [frozen_of_heap hk4]; exact fo
      clear ho4 hg4 hb4 hk4
      refine hK _ _ ?_
      clear hK
      refine wpAny_ready (rs := [6]) (by kernel_rfl) (by simp) (AllReady.cons rfl (fun K hK => ?_) AllReady.nil)
      go_simp
      refine hK _ _ ?_
      clear hK
      refine wpAny_done (by kernel_rfl) ?_ _
      have hfin := HPD.out.add n1 n2 n3 co HBW.out (by rw [HW8.out]; exact HO4.out) HG4.out HB4.out
      exact ⟨hfin.1, HSD.out.trans hfin.2⟩
    · skip
      go_simp
      refine hK _ _ ?_
      clear hK
      refine wpAny_ready (rs := [0, 3]) (by kernel_rfl) (by simp) (AllReady.cons rfl (fun K hK => ?_) (AllReady.cons rfl (fun K hK => ?_) AllReady.nil))
      · skip
        go_simp
        refine hK _ _ ?_
        clear hK
        refine wpAny_ready (rs := [3]) (by kernel_rfl) (by simp) (AllReady.cons rfl (fun K hK => ?_) AllReady.nil)
        go_simp
        refine hK _ _ ?_
        clear hK
        refine wpAny_ready (rs := [4]) (by kernel_rfl) (by simp) (AllReady.cons rfl (fun K hK => ?_) AllReady.nil)
        refine step_line rfl 19 rfl v0 v1 v2 v3 v4 v5 v6 v7 rfl ?_
        refine hK _ _ ?_
        clear hK
        refine wpAny_ready (rs := [5]) (by kernel_rfl) (by simp) (AllReady.cons rfl (fun K hK => ?_) AllReady.nil)
        have HBW : Hid (Below Wd.heap.size Wd (Wd.alloc (.cells #[.int .u64 v0, .int .u64 v1, .int .u64 v2, .int .u64 v3, .int .u64 v4, .int .u64 v5, .int .u64 v6, .int .u64 v7] 142))) := Lib.hid ((Below.refl _ _).alloc (Nat.le_refl _) _)
        refine step_append_at rfl (.tmp 16) (.tmp 20) 146 rfl w0.heap.size 142 i102 _ 8 64 Tryz.underlying146 hi hz0 hz1 hz2 rfl (by decide) (.slice oa om oc) k _ rfl (HO.out.alloc _) ⟨Wd.heap.size, 0, none⟩ 1 1 [.int .u64 v0, .int .u64 v1, .int .u64 v2, .int .u64 v3, .int .u64 v4, .int .u64 v5, .int .u64 v6, .int .u64 v7] rfl rfl (fun j u hj => cell_alloc Wd _ _ j u hj) (by simp [Value.oneCell']) (by have := HK.out; unfold maxLen; omega) (by have := HK.out; omega) (by have := HPD.out.below.size; simp; omega) ?_
        intro v' w4 ho4 hg4 hb4
        obtain ⟨na, nm, nc, rfl⟩ := own_slice ho4
        have HO4 := Lib.hid ho4
        have HG4 := Lib.hid hg4
        have HB4 := Lib.hid hb4
        have hk4 : w4.heap[po]? = Wd.heap[po]? := (hg4.block po (by have := HPD.out.h1.2; simp; omega) HPO.out).trans (Below.heap_alloc _ _ _ HPD.out.h1.2)
        have co4 : w4.cell? ⟨po, 0, none⟩ = some (.slice oa om oc) := by rw [cell_of_heap hk4]; exact co
        have fo4 : w4.frozen? ⟨po, 0, none⟩ = false := by rw [frozen_of_heap hk4]; exact fo
        clear ho4 hg4 hb4 hk4
        refine hK _ _ ?_
        clear hK
        refine wpAny_ready (rs := [6]) (by kernel_rfl) (by simp) (AllReady.cons rfl (fun K hK => ?_) AllReady.nil)
        go_simp
        refine hK _ _ ?_
        clear hK
        refine wpAny_done (by kernel_rfl) ?_ _
        have hfin := HPD.out.add n1 n2 n3 co HBW.out (by rw [HW8.out]; exact HO4.out) HG4.out HB4.out
        exact ⟨hfin.1, HSD.out.trans hfin.2⟩
      · skip
        go_simp
        refine hK _ _ ?_
        clear hK
        refine wpAny_ready (rs := [0, 4]) (by kernel_rfl) (by simp) (AllReady.cons rfl (fun K hK => ?_) (AllReady.cons rfl (fun K hK => ?_) AllReady.nil))
        · skip
          go_simp
          refine hK _ _ ?_
          clear hK
          refine wpAny_ready (rs := [4]) (by kernel_rfl) (by simp) (AllReady.cons rfl (fun K hK => ?_) AllReady.nil)
          refine step_line rfl 19 rfl v0 v1 v2 v3 v4 v5 v6 v7 rfl ?_
          refine hK _ _ ?_
          clear hK
          refine wpAny_ready (rs := [5]) (by kernel_rfl) (by simp) (AllReady.cons rfl (fun K hK => ?_) AllReady.nil)
          have HBW : Hid (Below Wd.heap.size Wd (Wd.alloc (.cells #[.int .u64 v0, .int .u64 v1, .int .u64 v2, .int .u64 v3, .int .u64 v4, .int .u64 v5, .int .u64 v6, .int .u64 v7] 142))) := Lib.hid ((Below.refl _ _).alloc (Nat.le_refl _) _)
          refine step_append_at rfl (.tmp 16) (.tmp 20) 146 rfl w0.heap.size 142 i102 _ 8 64 Tryz.underlying146 hi hz0 hz1 hz2 rfl (by decide) (.slice oa om oc) k _ rfl (HO.out.alloc _) ⟨Wd.heap.size, 0, none⟩ 1 1 [.int .u64 v0, .int .u64 v1, .int .u64 v2, .int .u64 v3, .int .u64 v4, .int .u64 v5, .int .u64 v6, .int .u64 v7] rfl rfl (fun j u hj => cell_alloc Wd _ _ j u hj) (by simp [Value.oneCell']) (by have := HK.out; unfold maxLen; omega) (by have := HK.out; omega) (by have := HPD.out.below.size; simp; omega) ?_
          intro v' w4 ho4 hg4 hb4
          obtain ⟨na, nm, nc, rfl⟩ := own_slice ho4
          have HO4 := Lib.hid ho4
          have HG4 := Lib.hid hg4
          have HB4 := Lib.hid hb4
          have hk4 : w4.heap[po]? = Wd.heap[po]? := (hg4.block po (by have := HPD.out.h1.2; simp; omega) HPO.out).trans (Below.heap_alloc _ _ _ HPD.out.h1.2)
          have co4 : w4.cell? ⟨po, 0, none⟩ = some (.slice oa om oc) := by rw [cell_of_heap hk4]; exact co
          have fo4 : w4.frozen? ⟨po, 0, none⟩ = false := by rw [frozen_of_heap hk4]; exact fo
          clear ho4 hg4 hb4 hk4
          refine hK _ _ ?_
          clear hK
          refine wpAny_ready (rs := [6]) (by kernel_rfl) (by simp) (AllReady.cons rfl (fun K hK => ?_) AllReady.nil)
          go_simp
          refine hK _ _ ?_
          clear hK
          refine wpAny_done (by kernel_rfl) ?_ _
          have hfin := HPD.out.add n1 n2 n3 co HBW.out (by rw [HW8.out]; exact HO4.out) HG4.out HB4.out
          exact ⟨hfin.1, HSD.out.trans hfin.2⟩
        · skip
          refine step_line rfl 19 rfl v0 v1 v2 v3 v4 v5 v6 v7 rfl ?_
          refine hK _ _ ?_
          clear hK
          refine wpAny_ready (rs := [0]) (by kernel_rfl) (by simp) (AllReady.cons rfl (fun K hK => ?_) AllReady.nil)
          go_simp
          refine hK _ _ ?_
          clear hK
          refine wpAny_ready (rs := [5]) (by kernel_rfl) (by simp) (AllReady.cons rfl (fun K hK => ?_) AllReady.nil)
          have HBW : Hid (Below Wd.heap.size Wd (Wd.alloc (.cells #[.int .u64 v0, .int .u64 v1, .int .u64 v2, .int .u64 v3, .int .u64 v4, .int .u64 v5, .int .u64 v6, .int .u64 v7] 142))) := Lib.hid ((Below.refl _ _).alloc (Nat.le_refl _) _)
          refine step_append_at rfl (.tmp 16) (.tmp 20) 146 rfl w0.heap.size 142 i102 _ 8 64 Tryz.underlying146 hi hz0 hz1 hz2 rfl (by decide) (.slice oa om oc) k _ rfl (HO.out.alloc _) ⟨Wd.heap.size, 0, none⟩ 1 1 [.int .u64 v0, .int .u64 v1, .int .u64 v2, .int .u64 v3, .int .u64 v4, .int .u64 v5, .int .u64 v6, .int .u64 v7] rfl rfl (fun j u hj => cell_alloc Wd _ _ j u hj) (by simp [Value.oneCell']) (by have := HK.out; unfold maxLen; omega) (by have := HK.out; omega) (by have := HPD.out.below.size; simp; omega) ?_
          intro v' w4 ho4 hg4 hb4
          obtain ⟨na, nm, nc, rfl⟩ := own_slice ho4
          have HO4 := Lib.hid ho4
          have HG4 := Lib.hid hg4
          have HB4 := Lib.hid hb4
          have hk4 : w4.heap[po]? = Wd.heap[po]? := (hg4.block po (by have := HPD.out.h1.2; simp; omega) HPO.out).trans (Below.heap_alloc _ _ _ HPD.out.h1.2)
          have co4 : w4.cell? ⟨po, 0, none⟩ = some (.slice oa om oc) := by rw [cell_of_heap hk4]; exact co
          have fo4 : w4.frozen? ⟨po, 0, none⟩ = false := by rw [frozen_of_heap hk4]; exact fo
          clear ho4 hg4 hb4 hk4
          refine hK _ _ ?_
          clear hK
          refine wpAny_ready (rs := [6]) (by kernel_rfl) (by simp) (AllReady.cons rfl (fun K hK => ?_) AllReady.nil)
          go_simp
          refine hK _ _ ?_
          clear hK
          refine wpAny_done (by kernel_rfl) ?_ _
          have hfin := HPD.out.add n1 n2 n3 co HBW.out (by rw [HW8.out]; exact HO4.out) HG4.out HB4.out
          exact ⟨hfin.1, HSD.out.trans hfin.2⟩
  · intro D W hD h hK
    dsimp only
    obtain ⟨vo, hvo, hown, u1, u2, u3⟩ := h.out
    obtain ⟨oa, om, oc, rfl⟩ := own_slice hown
    have HH := Lib.hid h
    have HO := Lib.hid hown
    have HKK := Lib.hid hK
    clear h hown hK u1 u2 u3
    go_wp2_with fail
    show LeavesInM Fence.wide 9 Tryz.prog Tryz.f77 _ (CutTo f n w0) [{ target := .collected D, args := #[] }] .returning W
    unfold LeavesInM
    refine ⟨by simp, .inl ⟨_, _, rfl, run_takeDeferred HKK.out, ?_⟩⟩
    exact ⟨_, results_tmp2 rfl _ _ _, _, rfl, (HH.out.put HKK.out rfl hD _).below, ownsRow_putObj HO.out _ HKK.out rfl⟩
end Go.Proofs.YtkdcfijebgeajaaGreat

namespace Go.Proofs.YtkdcfijebgeajaaGreat
open Go.RowKit Go.BigFrame
set_option linter.unusedVariables false
set_option linter.unusedSimpArgs false
def CloneTo (xs : List Value) (n : Nat) (W : World) (e : Ending) (W' : World) : Prop := ∃ v, e = .returned v ∧ Below W.heap.size W W' ∧ W'.ownsRow W.heap.size 142 8 v n xs
set_option maxRecDepth 100000 in
theorem clone51 (g n cap : Nat) (c : Array Value) (hn : 0 < n) (h1 : n ≤ 262144) (xs : List Value) (W : World) (hg : W.heap[g]? = some (.cells c 142 (0, 0))) (hxs : xs.length = n * 8) (hc : ∀ j, j < n * 8 → c[j]? = xs[j]?) (h1c : ∀ u ∈ xs, u.oneCell' = true) :
    Calls Tryz.prog 168 #[.slice (some ⟨g, 0, none⟩) n cap] W (CloneTo xs n W) := by
  obtain ⟨i102, hi, hz0, hz1, hz2⟩ := info_parts info102
  have HG := Lib.hid hg
  have HC := Lib.hid hc
  have HX := Lib.hid hxs
  have H1 := Lib.hid h1c
  clear hg hc hxs h1c
  obtain ⟨B, hB⟩ : ∃ B, B = W.heap.size := ⟨_, rfl⟩
  unfold CloneTo
  rw [← hB]
  have HB := Lib.hid hB
  clear hB
  have hnil := fun w : World => Lib.run_eql_slice_nil (P := Tryz.prog) w 146 142 (some ⟨g, 0, none⟩) n cap 0 0 Tryz.underlying146
  go_enter Tryz.func168, Tryz.ntmps168
  have hgl : g < W.heap.size := (Array.getElem?_eq_some_iff.1 HG.out).1
  go_wp2_with (at_builtin; refine wpList_append_own _ rfl (.tmp 5) (.tmp 6) 146 rfl B 142 i102 _ 8 64 Tryz.underlying146 hi hz0 hz1 hz2 rfl (by decide) (.slice (some ⟨W.heap.size, 0, none⟩) 0 0) 0 [] rfl (World.ownsRow_made W #[] 0 (by have := HB.out; omega) (by unfold maxLen; omega) rfl) ⟨g, 0, none⟩ n cap xs rfl HX.out (fun j u hj => by rw [Addr.add_lit, Nat.zero_add, cell_in ((Below.heap_alloc W _ g hgl).trans HG.out), HC.out j (by rw [← HX.out]; exact (List.getElem?_eq_some_iff.1 hj).1)]; exact hj) H1.out (by unfold maxLen; omega) (by omega) (by have := HB.out; simp; omega) ?_; intro v' w' hown hgr hne; have HO' := Lib.hid hown; have HG' := Lib.hid hgr; clear hown hgr hne)
  go_wp2_with fail
  go_ret
  refine ⟨_, rfl, ?_, ?_⟩
  · exact ((Below.refl _ _).alloc (by have := HB.out; omega) _).grown HG'.out (by have := HB.out; rw [World.size_alloc]; omega) (fun q e => by cases e; show B ≤ W.heap.size; have := HB.out; omega)
  · have := HO'.out
    rw [Nat.zero_add, List.nil_append] at this
    exact this
theorem mk_row (t e : TypeId) (z v : Value) (by_ : Nat) (ht : Tryz.prog.underlying t = some (.slice e)) (hi : (Tryz.prog.info? e).map (fun i => (i.zero, i.size, i.bytes)) = some (some z, 1, by_)) (hz : z.cells = #[v]) (n : Nat) (hb : by_ * n ≤ 281474976710656) (h63 : n ≤ 9223372036854775807) (w : World) :
    (Instr.makeSlice t (.int .i64 n) (.int .i64 n)).run Tryz.prog w = .ok (.slice (some ⟨w.heap.size, 0, none⟩) n n) (w.alloc (.cells (madeCells #[v] n) e)) := by
  obtain ⟨i, h1, h2, h3, h4⟩ := info_parts hi
  have hb' : (i.bytes : Int) * (n : Int) ≤ 281474976710656 := by
    have h : ((by_ * n : Nat) : Int) ≤ 281474976710656 := by omega
    rw [Int.natCast_mul] at h; rw [h4]; exact h
  have := run_make (P := Tryz.prog) w t e i z ht h1 h2 .i64 .i64 n n (by omega) (Int.le_refl _) hb' (by omega)
  rw [this, h3, hz]
  rw [Int.toNat_natCast, Nat.mul_one]
theorem made_get (v : Value) (n j : Nat) (hj : j < n) : (madeCells #[v] n)[j]? = some v := by
  rw [← Array.getElem?_toList, toList_madeCells_one]; simp [hj]
theorem info3 : (Tryz.prog.info? 3).map (fun i => (i.zero, i.size, i.bytes)) = some (some (.int .i64 0), 1, 8) := by kernel_rfl
theorem info123 : (Tryz.prog.info? 315).map (fun i => (i.zero, i.size, i.bytes)) = some (some (.agg #[.slice none 0 0]), 1, 24) := by kernel_rfl
structure DevAt (W : World) (B d kb sb wb fb n nt c0 c1 : Nat) (f : Nat → Int) : Prop where
  dev : W.heap[d]? = some (.cells #[.slice (some ⟨kb, 0, none⟩) n c0, .slice (some ⟨sb, 0, none⟩) n c1, .slice (some ⟨wb, 0, none⟩) n n, .slice (some ⟨fb, 0, none⟩) nt nt] 160 (0, 0))
  rk : RowAt W kb (8 * n) fun k => .int .u64 (f k)
  rs : RowAt W sb (8 * n) fun k => .int .u64 (f k)
  rw : RowAt W wb n fun _ => .int .i64 0
  rf : RowAt W fb nt fun _ => .slice none 0 0
  apart : [d, kb, sb, wb, fb].Nodup
  base : B ≤ d ∧ B ≤ kb ∧ B ≤ sb ∧ B ≤ wb ∧ B ≤ fb
def MadeTo (B kb n cap nt : Nat) (f : Nat → Int) (W : World) (e : Ending) (W' : World) : Prop := ∃ d sb wb fb c1, e = .returned (.pointer (some ⟨d, 0, none⟩)) ∧ Below W.heap.size W W' ∧ DevAt W' B d kb sb wb fb n nt cap c1 f
theorem row_of_words {w : World} {X n g cap : Nat} {f : Nat → Int} (h : w.ownsRow X 142 8 (.slice (some ⟨g, 0, none⟩) n cap) n (wordsL f (8 * n))) (hn : 0 < n) : RowAt w g (8 * n) fun k => .int .u64 (f k) := by
  obtain ⟨g', cap', c, e1, hb, hg, hc1, hcs, hcc⟩ := own_row h hn
  cases e1
  exact ⟨c, _, hg, fun k hk => by rw [hcc k (by omega)]; exact wordsL_get f _ k hk⟩
theorem dev_made {B kb n cap nt : Nat} {f : Nat → Int} {W wf : World} (hn : 0 < n) (hW : W.ownsRow B 142 8 (.slice (some ⟨kb, 0, none⟩) n cap) n (wordsL f (8 * n))) {d sb wb fb c1 X : Nat} (hb : Below W.heap.size W wf)
    (h0 : wf.heap[d]? = some (.cells #[.slice (some ⟨kb, 0, none⟩) n cap, .slice (some ⟨sb, 0, none⟩) n c1, .slice (some ⟨wb, 0, none⟩) n n, .slice (some ⟨fb, 0, none⟩) nt nt] 160 (0, 0)))
    (h1 : wf.heap[wb]? = some (.cells (madeCells #[.int .i64 0] n) 3 (0, 0))) (h2 : wf.heap[fb]? = some (.cells (madeCells #[.slice none 0 0] nt) 315 (0, 0)))
    (h3 : wf.ownsRow X 142 8 (.slice (some ⟨sb, 0, none⟩) n c1) n (wordsL f (8 * n))) (hx : W.heap.size ≤ X ∧ W.heap.size ≤ d ∧ W.heap.size ≤ wb ∧ W.heap.size ≤ fb)
    (ne : d ≠ wb ∧ d ≠ fb ∧ wb ≠ fb ∧ sb ≠ d ∧ sb ≠ wb ∧ sb ≠ fb) : MadeTo B kb n cap nt f W (.returned (.pointer (some ⟨d, 0, none⟩))) wf := by
  obtain ⟨k1, k2⟩ := own_lt hW (k := kb) rfl
  obtain ⟨s1, s2⟩ := own_lt h3 (k := sb) rfl
  refine ⟨d, sb, wb, fb, c1, rfl, hb, h0, (row_of_words hW hn).keep (hb.block _ k2), row_of_words h3 hn, ⟨_, _, h1, fun k hk => made_get _ _ _ hk⟩, ⟨_, _, h2, fun k hk => made_get _ _ _ hk⟩, ?_, by omega⟩
  simp only [List.nodup_cons, List.mem_cons, List.not_mem_nil, or_false, not_or, List.nodup_nil, and_true, not_false_eq_true]
  omega
theorem new1 (w : World) (a b c : Obj) : (((w.alloc a).alloc b).alloc c).heap[w.heap.size]? = some a ∧ (((w.alloc a).alloc b).alloc c).heap[w.heap.size + 1]? = some b ∧ (((w.alloc a).alloc b).alloc c).heap[w.heap.size + 1 + 1]? = some c := by
  refine ⟨?_, ?_, ?_⟩
  · rw [Below.heap_alloc _ _ _ (by simp; omega)]; exact (two_new w a b).1
  · rw [Below.heap_alloc _ _ _ (by simp)]; exact (two_new w a b).2
  · have := heap_alloc_new ((w.alloc a).alloc b) c; simpa using this
set_option maxRecDepth 100000 in
set_option maxHeartbeats 2000000 in
theorem made36 (B kb n cap nt : Nat) (hn : 0 < n) (h1 : n ≤ 262144) (ht : nt ≤ 64) (f : Nat → Int) (W : World) (h : W.ownsRow B 142 8 (.slice (some ⟨kb, 0, none⟩) n cap) n (wordsL f (8 * n))) :
    Calls Tryz.prog 107 #[.slice (some ⟨kb, 0, none⟩) n cap, .int .i64 nt] W (MadeTo B kb n cap nt f W) := by
  have i0 : (0 : Int) ≤ (n : Int) := by omega
  have i1 : (0 : Int) ≤ (nt : Int) := by omega
  have HCL : Hid (∀ w, Below W.heap.size W w → Calls Tryz.prog 168 #[.slice (some ⟨kb, 0, none⟩) n cap] w (CloneTo (wordsL f (8 * n)) n w)) := Lib.hid fun w hw => by
    obtain ⟨g, cap', c, e1, hb, hg, hc1, hcs, hcc⟩ := own_row h hn
    cases e1
    refine clone51 _ n _ c hn h1 _ w ((hw.block _ (Array.getElem?_eq_some_iff.1 hg).1).trans hg) (by rw [wordsL_len]; omega) hcc (fun u hu => ?_)
    unfold wordsL at hu
    obtain ⟨q, _, rfl⟩ := List.mem_map.1 hu
    rfl
  have HH := Lib.hid h
  clear h
  have mk1 := mk_row 135 3 _ _ 8 Tryz.underlying135 info3 rfl n (by omega) (by omega)
  have mk2 := mk_row 158 315 _ _ 24 Tryz.underlying158 info123 rfl nt (by omega) (by omega)
  go_enter Tryz.func107, Tryz.ntmps107
  go_wp2_with fail
  go_region_with (go_at_call 168; refine (HCL.out _ (by first | exact (Below.refl _ _).drew | exact ((Below.refl _ _).alloc (Nat.le_refl _) _).drew | exact (((Below.refl _ _).alloc (Nat.le_refl _) _).alloc (by simp) _).drew | exact (Below.refl _ _).drew.alloc (by simp) _ | exact ((Below.refl _ _).drew.alloc (by simp) _).alloc (by simp) _)).mono ?_; rintro e w1 ⟨v, rfl, hb, ho⟩; obtain ⟨sb, c1, cc, rfl, hq⟩ := own_row ho hn; have HB1 := Lib.hid hb; have HO1 := Lib.hid ho; clear hb ho hq)
  all_goals
    go_wp2_with fail
    go_ret
  all_goals (have s1 := (own_lt HO1.out rfl).1; have s2 := (own_lt HO1.out rfl).2; have z1 := HB1.out.size)
  · obtain ⟨a, b, c⟩ := new1 w1 (.cells (madeCells #[.int .i64 0] n) 3) (.cells (madeCells #[.slice none 0 0] nt) 315) (.cells #[.slice (some ⟨kb, 0, none⟩) n cap, .slice (some ⟨sb, 0, none⟩) n c1, .slice (some ⟨w1.heap.size, 0, none⟩) n n, .slice (some ⟨w1.heap.size + 1, 0, none⟩) nt nt] 160)
    refine dev_made hn HH.out ?_ c a b (((HO1.out.alloc _).alloc _).alloc _) ?_ ?_
    · exact ((((Below.refl _ _).drew.trans HB1.out).alloc z1 _).alloc (by simp at z1 ⊢; omega) _).alloc (by simp at z1 ⊢; omega) _
    all_goals (simp at z1 s1 s2 ⊢; omega)
  · obtain ⟨a, b, c⟩ := new1 w1 (.cells (madeCells #[.slice none 0 0] nt) 315) (.cells (madeCells #[.int .i64 0] n) 3) (.cells #[.slice (some ⟨kb, 0, none⟩) n cap, .slice (some ⟨sb, 0, none⟩) n c1, .slice (some ⟨w1.heap.size + 1, 0, none⟩) n n, .slice (some ⟨w1.heap.size, 0, none⟩) nt nt] 160)
    refine dev_made hn HH.out ?_ c b a (((HO1.out.alloc _).alloc _).alloc _) ?_ ?_
    · exact ((((Below.refl _ _).drew.trans HB1.out).alloc z1 _).alloc (by simp at z1 ⊢; omega) _).alloc (by simp at z1 ⊢; omega) _
    all_goals (simp at z1 s1 s2 ⊢; omega)
  · have e0 := (HB1.out.block W.heap.size (by simp)).trans (heap_alloc_new W _)
    have zz : W.heap.size + 1 ≤ w1.heap.size := by have := z1; simp at this; omega
    refine dev_made hn HH.out ?_ (two_new w1 _ _).2 ((Below.heap_alloc _ _ _ (by simp; omega)).trans ((Below.heap_alloc w1 _ W.heap.size (by omega)).trans e0)) (two_new w1 _ _).1 ((HO1.out.alloc _).alloc _) ?_ ?_
    · exact (((((Below.refl _ _).alloc (Nat.le_refl _) _).drew.trans (HB1.out.mono (by simp))).alloc (by omega) _).alloc (by simp; omega) _)
    all_goals (simp at z1 s1 s2 ⊢; omega)
  · have e0 := (HB1.out.block W.heap.size (by simp; omega)).trans (two_new W _ _).1
    have e1 := (HB1.out.block (W.heap.size + 1) (by simp)).trans (two_new W _ _).2
    have zz : W.heap.size + 1 + 1 ≤ w1.heap.size := by have := z1; simp at this; omega
    refine dev_made hn HH.out ?_ (heap_alloc_new w1 _) ((Below.heap_alloc w1 _ W.heap.size (by omega)).trans e0) ((Below.heap_alloc w1 _ (W.heap.size + 1) (by omega)).trans e1) (HO1.out.alloc _) ?_ ?_
    · exact ((((Below.refl _ _).alloc (Nat.le_refl _) _).alloc (by simp) _).drew.trans (HB1.out.mono (by simp; omega))).alloc (by omega) _
    all_goals (simp at z1 s1 s2 ⊢; omega)
  · have e0 := (HB1.out.block W.heap.size (by simp)).trans (heap_alloc_new W _)
    have zz : W.heap.size + 1 ≤ w1.heap.size := by have := z1; simp at this; omega
    refine dev_made hn HH.out ?_ (two_new w1 _ _).2 (two_new w1 _ _).1 ((Below.heap_alloc _ _ _ (by simp; omega)).trans ((Below.heap_alloc w1 _ W.heap.size (by omega)).trans e0)) ((HO1.out.alloc _).alloc _) ?_ ?_
    · exact (((((Below.refl _ _).alloc (Nat.le_refl _) _).drew.trans (HB1.out.mono (by simp))).alloc (by omega) _).alloc (by simp; omega) _)
    all_goals (simp at z1 s1 s2 ⊢; omega)
  · have e0 := (HB1.out.block W.heap.size (by simp; omega)).trans (two_new W _ _).1
    have e1 := (HB1.out.block (W.heap.size + 1) (by simp)).trans (two_new W _ _).2
    have zz : W.heap.size + 1 + 1 ≤ w1.heap.size := by have := z1; simp at this; omega
    refine dev_made hn HH.out ?_ (heap_alloc_new w1 _) ((Below.heap_alloc w1 _ (W.heap.size + 1) (by omega)).trans e1) ((Below.heap_alloc w1 _ W.heap.size (by omega)).trans e0) (HO1.out.alloc _) ?_ ?_
    · exact ((((Below.refl _ _).alloc (Nat.le_refl _) _).alloc (by simp) _).drew.trans (HB1.out.mono (by simp; omega))).alloc (by omega) _
    all_goals (simp at z1 s1 s2 ⊢; omega)
end Go.Proofs.YtkdcfijebgeajaaGreat

namespace Go.Proofs.YtkdcfijebgeajaaGreat
open Go.RowKit Go.BigFrame
set_option linter.unusedVariables false
set_option linter.unusedSimpArgs false
def poly : Nat := 0x82f63b78
def crcBit (s b : Nat) : Nat := if (s ^^^ b) % 2 = 1 then (s / 2) ^^^ poly else s / 2
def crcBits : Nat → List Nat → Nat
  | s, [] => s
  | s, b :: t => crcBits (crcBit s b) t
theorem crcBits_append : ∀ (l t : List Nat) (s : Nat), crcBits s (l ++ t) = crcBits (crcBits s l) t
  | [], _, _ => rfl
  | b :: l, t, s => by rw [List.cons_append, crcBits, crcBits, crcBits_append l t]
def bitsOf : Nat → Nat → List Nat
  | 0, _ => []
  | k + 1, w => w % 2 :: bitsOf k (w / 2)
theorem bitsOf_length : ∀ k w, (bitsOf k w).length = k
  | 0, _ => rfl
  | k + 1, w => by rw [bitsOf, List.length_cons, bitsOf_length k]
theorem bitsOf_get : ∀ (k w i : Nat), i < k → (bitsOf k w)[i]? = some (w / 2 ^ i % 2)
  | 0, _, _, h => by omega
  | k + 1, w, 0, _ => by simp [bitsOf]
  | k + 1, w, i + 1, h => by
    rw [bitsOf, List.getElem?_cons_succ, bitsOf_get k (w / 2) i (by omega), Nat.div_div_eq_div_mul, Nat.pow_succ, Nat.mul_comm 2]
theorem bitsOf_append : ∀ (a b w : Nat), bitsOf (a + b) w = bitsOf a w ++ bitsOf b (w / 2 ^ a)
  | 0, b, w => by simp [bitsOf]
  | a + 1, b, w => by
    rw [show a + 1 + b = (a + b) + 1 by omega, bitsOf, bitsOf_append a b, bitsOf, List.cons_append, Nat.div_div_eq_div_mul, Nat.pow_succ, Nat.mul_comm 2]
theorem bitsOf_mod : ∀ (k w : Nat), bitsOf k (w % 2 ^ k) = bitsOf k w
  | 0, _ => rfl
  | k + 1, w => by
    rw [bitsOf, bitsOf]
    have h1 : w % 2 ^ (k + 1) % 2 = w % 2 := Nat.mod_mod_of_dvd _ ⟨2 ^ k, by rw [Nat.pow_succ]; omega⟩
    have h2 : w % 2 ^ (k + 1) / 2 = w / 2 % 2 ^ k := by
      rw [Nat.pow_succ, Nat.mul_comm, Nat.mod_mul_right_div_self]
    rw [h1, h2, bitsOf_mod k]
theorem poly_lt : poly < 2 ^ 32 := by decide
theorem crcBit_lt (s b : Nat) (h : s < 2 ^ 32) : crcBit s b < 2 ^ 32 := by
  unfold crcBit; split
  · exact Nat.xor_lt_two_pow (by omega) poly_lt
  · omega
theorem crcBits_lt : ∀ (l : List Nat) (s : Nat), s < 2 ^ 32 → crcBits s l < 2 ^ 32
  | [], _, h => h
  | b :: l, s, h => crcBits_lt l _ (crcBit_lt s b h)
def bitAt (s j : Nat) : Nat := s / 2 ^ j % 2
def dv (j : Nat) : Nat := if j = 0 then 1 else bitAt poly (j - 1)
def strike (i : Nat) (f : Nat → Nat) : Nat → Nat := fun p => if f i = 1 ∧ i ≤ p ∧ p ≤ i + 32 then (f p + dv (p - i)) % 2 else f p
def strikes : Nat → (Nat → Nat) → Nat → Nat
  | 0, f => f
  | i + 1, f => strike i (strikes i f)
theorem bitAt_lt (s j : Nat) : bitAt s j < 2 := Nat.mod_lt _ (by decide)
theorem bitAt_testBit (s j : Nat) : bitAt s j = if s.testBit j then 1 else 0 := by
  unfold bitAt Nat.testBit
  rw [Nat.shiftRight_eq_div_pow, Nat.one_and_eq_mod_two]
  have : s / 2 ^ j % 2 = 0 ∨ s / 2 ^ j % 2 = 1 := by omega
  rcases this with h | h <;> simp [h]
theorem bitAt_xor (a b j : Nat) : bitAt (a ^^^ b) j = (bitAt a j + bitAt b j) % 2 := by
  rw [bitAt_testBit, bitAt_testBit, bitAt_testBit, Nat.testBit_xor]
  cases a.testBit j <;> cases b.testBit j <;> rfl
theorem bitAt_half (s j : Nat) : bitAt (s / 2) j = bitAt s (j + 1) := by
  unfold bitAt; rw [Nat.div_div_eq_div_mul, Nat.pow_succ, Nat.mul_comm 2]
theorem bitAt_high {s j : Nat} (h : s < 2 ^ 32) (hj : 32 ≤ j) : bitAt s j = 0 := by
  unfold bitAt
  have : 2 ^ 32 ≤ 2 ^ j := Nat.pow_le_pow_right (by decide) hj
  rw [Nat.div_eq_of_lt (by omega)]
theorem bitAt_crcBit (s b j : Nat) (hb : b < 2) : bitAt (crcBit s b) j = (bitAt s (j + 1) + (if (bitAt s 0 + b) % 2 = 1 then bitAt poly j else 0)) % 2 := by
  have hk : (s ^^^ b) % 2 = (bitAt s 0 + b) % 2 := by
    have := bitAt_xor s b 0
    have e : bitAt b 0 = b := by unfold bitAt; simp; omega
    rw [e] at this
    unfold bitAt at this ⊢
    simpa using this
  unfold crcBit
  rw [hk]
  split
  · rw [bitAt_xor, bitAt_half]
  · rw [bitAt_half, Nat.add_zero]
    have := bitAt_lt s (j + 1); omega
theorem strikes_state (l : List Nat) (hl : ∀ b ∈ l, b < 2) (s : Nat) (hs : s < 2 ^ 32) (f : Nat → Nat) (hf : ∀ p : Nat, f p = ((l[p]?.getD 0) + bitAt s p) % 2) :
    ∀ i : Nat, i ≤ l.length → ∀ p : Nat, i ≤ p → strikes i f p = ((l[p]?.getD 0) + bitAt (crcBits s (l.take i)) (p - i)) % 2 := by
  intro i
  induction i with
  | zero => intro _ p _; simpa [strikes, crcBits] using hf p
  | succ i ih =>
    intro hi p hp
    have hlt : ∀ p : Nat, (l[p]?.getD 0) < 2 := fun p => by
      cases h : l[p]? with
      | none => simp
      | some b => exact hl b (List.mem_of_getElem? h)
    have ht : l.take (i + 1) = l.take i ++ [l[i]?.getD 0] := by
      rw [List.take_add_one]
      rw [List.getElem?_eq_getElem (by omega)]; rfl
    have hn : crcBits s (l.take i) < 2 ^ 32 := crcBits_lt _ _ hs
    have h0 := ih (by omega) i (Nat.le_refl _)
    have h1 := ih (by omega) p (by omega)
    rw [strikes, ht, crcBits_append]
    rw [show crcBits (crcBits s (l.take i)) [l[i]?.getD 0] = crcBit (crcBits s (l.take i)) (l[i]?.getD 0) from rfl, bitAt_crcBit _ _ _ (hlt i)]
    generalize crcBits s (l.take i) = S at *
    rw [Nat.sub_self] at h0
    have hb := hlt i
    have hbp := hlt p
    generalize l[i]?.getD 0 = b at *
    generalize l[p]?.getD 0 = c at *
    obtain ⟨q, rfl⟩ : ∃ q, p = i + 1 + q := ⟨p - (i + 1), by omega⟩
    rw [show i + 1 + q - (i + 1) = q by omega]
    rw [show i + 1 + q - i = q + 1 by omega] at h1
    unfold strike
    rw [h0, h1, show i + 1 + q - i = q + 1 by omega]
    have e0 := bitAt_lt S 0
    have e1 := bitAt_lt S (q + 1)
    have e2 := bitAt_lt poly q
    have e3 : dv (q + 1) = bitAt poly q := by simp [dv]
    by_cases hk : (b + bitAt S 0) % 2 = 1
    · rw [if_pos (show (bitAt S 0 + b) % 2 = 1 by omega)]
      by_cases hq : i + 1 + q ≤ i + 32
      · rw [if_pos ⟨hk, by omega, hq⟩, e3]; omega
      · rw [if_neg (by omega), bitAt_high (s := poly) poly_lt (by omega), bitAt_high hn (by omega)]
    · rw [if_neg (by omega), if_neg (by omega)]; omega
def ofBits : Nat → (Nat → Nat) → Nat
  | 0, _ => 0
  | k + 1, f => f 0 + 2 * ofBits k (fun j => f (j + 1))
theorem ofBits_bitAt : ∀ (k s : Nat), s < 2 ^ k → ofBits k (bitAt s) = s
  | 0, s, h => by simp at h; simp [ofBits, h]
  | k + 1, s, h => by
    have e : (fun j => bitAt s (j + 1)) = bitAt (s / 2) := funext fun j => (bitAt_half s j).symm
    rw [ofBits, e, ofBits_bitAt k (s / 2) (by rw [Nat.pow_succ] at h; omega)]
    unfold bitAt; simp; omega
theorem ofBits_congr : ∀ (k : Nat) (f g : Nat → Nat), (∀ j, j < k → f j = g j) → ofBits k f = ofBits k g
  | 0, _, _, _ => rfl
  | k + 1, f, g, h => by
    rw [ofBits, ofBits, h 0 (by omega), ofBits_congr k _ (fun j => g (j + 1)) fun j hj => h (j + 1) (by omega)]
theorem rest_crc (l : List Nat) (hl : ∀ b ∈ l, b < 2) (s : Nat) (hs : s < 2 ^ 32) (f : Nat → Nat) (hf : ∀ p : Nat, f p = ((l[p]?.getD 0) + bitAt s p) % 2) :
    ofBits 32 (fun k => strikes l.length f (l.length + k)) = crcBits s l := by
  rw [ofBits_congr 32 _ (bitAt (crcBits s l)) fun j hj => by
    show strikes l.length f (l.length + j) = _
    rw [strikes_state l hl s hs f hf l.length (Nat.le_refl _) _ (by omega), List.take_length, show l.length + j - l.length = j by omega, List.getElem?_eq_none (by omega)]
    have := bitAt_lt (crcBits s l) j
    simp; omega]
  exact ofBits_bitAt 32 _ (crcBits_lt l s hs)
def ones : Nat := 4294967295
def sumW (w : Nat → Nat) (n : Nat) : Nat := ones - crcBits ones ((List.range n).flatMap fun j => bitsOf 64 (w j))
theorem sumW_lt (w : Nat → Nat) (n : Nat) : sumW w n < 2 ^ 32 := by unfold sumW ones; omega
theorem own_made1 (w : World) (B : Nat) (e : TypeId) (c : Value) (hB : B ≤ w.heap.size) : (w.alloc (.cells #[c] e)).ownsRow B e 1 (.slice (some ⟨w.heap.size, 0, none⟩) 1 1) 1 [c] :=
  ⟨rfl, .inr ⟨w.heap.size, 1, #[c], rfl, hB, heap_alloc_new w _, Nat.le_refl _, by unfold maxLen; omega, rfl, rfl⟩⟩
theorem info5 : (Tryz.prog.info? 5).map (fun i => (i.zero, i.size, i.bytes)) = some (some (.int .u8 0), 1, 1) := by kernel_rfl
end Go.Proofs.YtkdcfijebgeajaaGreat
