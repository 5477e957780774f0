/- Layer 3: words cut into lines.
   Layer 4: a device is made. -/
import Derived.Test.YtibelcmdfkgonaaGreatJ21
import Derived.WalkSpells
namespace Go.Proofs.YtibelcmdfkgonaaGreat
open Go.RowKit Go.BigFrame
set_option linter.unusedVariables false
set_option linter.unusedSimpArgs false
theorem info102 : (Tryz.prog.info? 218).map (fun i => (i.zero, i.size, i.bytes)) = some (some (.agg #[.int .u64 0, .int .u64 0, .int .u64 0, .int .u64 0, .int .u64 0, .int .u64 0, .int .u64 0, .int .u64 0]), 8, 64) := by kernel_rfl
theorem step_line {ops : Array Oper} {o : Oper} {a : Act} {w : World} {K : Act → World → Prop} {Q : Exit → Act → World → Prop} {E : Prop} (hgd : o.guard = none) (t : Nat) (ho : o.op = .buildSlice 140 1 #[(0, .tmp t)]) (v0 v1 v2 v3 v4 v5 v6 v7 : Int)
    (hs : a.tmps[t]?.getD undef = .agg #[.int .u64 v0, .int .u64 v1, .int .u64 v2, .int .u64 v3, .int .u64 v4, .int .u64 v5, .int .u64 v6, .int .u64 v7])
    (h : K (a.put o.dst (.slice (some ⟨w.heap.size, 0, none⟩) 1 1)) (w.alloc (.cells #[.int .u64 v0, .int .u64 v1, .int .u64 v2, .int .u64 v3, .int .u64 v4, .int .u64 v5, .int .u64 v6, .int .u64 v7] 218))) :
    if Region.wanted o (yielded ops a.tmps) = true then Oper.wp Tryz.prog o a w K Q else E := by
  have hw : Region.wanted o (yielded ops a.tmps) = true := by simp [Region.wanted, hgd]
  rw [if_pos hw]
  obtain ⟨o1, o2, o3, o4, o5, o6⟩ := o
  subst ho
  simp [Oper.wp, go_sem, hs]
  exact h
/-- Words were cut into lines, or not. -/
def CutTo (f : Nat → Int) (n : Nat) (w : World) (e : Ending) (w' : World) : Prop :=
  ∃ v, e = .returned (.tuple #[v, .int .i64 0]) ∧ Below w.heap.size w w' ∧ w'.ownsRow w.heap.size 218 8 v (n / 8) (wordsL f (8 * (n / 8)))
def wholeE (n : Nat) : Int := if (n : Int) % 8 ≠ 0 then 3 else if 262144 < (n : Int) / 8 then 2 else 0
theorem cut35_no (a : Option Addr) (n cap : Nat) (hn : n ≤ 9223372036854775807) (he : wholeE n ≠ 0) (w : World) : Calls Tryz.prog 124 #[.slice a n cap] w (Tells (.tuple #[.slice none 0 0, .int .i64 (wholeE n)]) w) := by
  have HW := Lib.hid (whole49 n hn w)
  rw [show (if (n : Int) % 8 ≠ 0 then (3 : Int) else if 262144 < (n : Int) / 8 then 2 else 0) = wholeE n from rfl] at HW
  generalize wholeE n = e at *
  have e1 : (e != 0) = true := by simpa using he
  clear he
  go_enter Tryz.func124, Tryz.ntmps124
  go_wp2_with fail
  with_reducible refine HW.out.mono ?_
  rintro e w' ⟨rfl, hw⟩
  cases hw
  go_wp2_with fail
  go_ret2
  exact ⟨rfl, Below.refl _ _, rfl⟩
/-- Left by its end or by ret alone. -/
def OnlyRet (Q : Exit → Act → World → Prop) : Exit → Act → World → Prop
  | .ret, a, w => Q .ret a w
  | .normal, a, w => Q .normal a w
  | _, _, _ => False
theorem OnlyRet.out {Q : Exit → Act → World → Prop} (e : Exit) (a : Act) (w : World) (h : OnlyRet Q e a w) : Q e a w := by
  cases e <;> first | exact h | exact h.elim
set_option maxRecDepth 100000 in
set_option maxHeartbeats 4000000 in
theorem cut35 (a0 : Option Addr) (b off n cap : Nat) (ha : 8 ≤ n → a0 = some ⟨b, off, none⟩) (hn : n ≤ cap) (hc : cap ≤ 9223372036854775807) (he : wholeE n = 0) (f : Nat → Int) (w0 : World) (hb : 0 < n → b < w0.heap.size) (hw : ∀ j, j < n → w0.cell? ⟨b, off + j, none⟩ = some (.int .u64 (f j))) :
    Calls Tryz.prog 124 #[.slice a0 n cap] w0 (CutTo f n w0) := by
  have HW := Lib.hid (whole49 n (by omega) w0)
  rw [show (if (n : Int) % 8 ≠ 0 then (3 : Int) else if 262144 < (n : Int) / 8 then 2 else 0) = 0 from he] at HW
  have HN : Hid (n % 8 = 0 ∧ n / 8 ≤ 262144) := Lib.hid (by unfold wholeE at he; split at he; omega; split at he; omega; omega)
  have HB := Lib.hid hb
  have HA := Lib.hid ha
  have HD := Lib.hid hw
  have HC := Lib.hid (And.intro hn hc)
  clear hb hw hn hc he ha
  refine (callsIn_wide (n := 9)).1 (callsIn_of_wp_marks Tryz.func124 rfl trivial ?_ rfl)
  refine wpIn_wide.2 ?_
  simp only [Tryz.ntmps124, List.size_toArray, List.length_cons, List.length_nil, Nat.reduceAdd, Nat.reduceSub, Array.replicate_succ, Array.replicate_zero, List.push_toArray, List.append_toArray, List.nil_append, List.cons_append]
  go_wp2_with fail
  with_reducible refine HW.out.mono ?_
  rintro e w' ⟨rfl, hw⟩
  cases hw
  go_wp2_with (go_at_call 219; refine (parts50 _ ⟨_, _, _, rfl⟩ _ _).mono ?_; rintro e w3 ⟨rfl, hw3⟩; have HW3 := Lib.hid hw3; clear hw3)
  obtain ⟨i102, hi, hz0, hz1, hz2⟩ := info_parts info102
  obtain ⟨po, hpo⟩ : ∃ po, po = w0.heap.size := ⟨_, rfl⟩
  have n1 : po ≠ po + 1 := by omega
  have n2 : po + 1 ≠ po + 1 + 1 := by omega
  have n3 : po ≠ po + 1 + 1 := by omega
  have HST : Hid (CutAt w0 w3 po (po + 1) (po + 1 + 1) b off n cap f 0 0) := Lib.hid (by
    have h3 := HW3.out
    have k0 : w3.heap[po]? = some (.cells #[.slice none 0 0] 140 (0, 0)) := by
      rw [h3, Below.heap_alloc _ _ _ (by simp; omega), Below.heap_alloc _ _ _ (by simp; omega), hpo, heap_alloc_new]
    have k1 : w3.heap[po + 1]? = some (.cells #[.slice a0 n cap] 33 (0, 0)) := by
      have := heap_alloc_new (w0.alloc (.cells #[.slice none 0 0] 140)) (.cells #[.slice a0 n cap] 33)
      rw [World.size_alloc] at this
      rw [h3, Below.heap_alloc _ _ _ (by simp; omega), hpo]; exact this
    have k2 : w3.heap[po + 1 + 1]? = some (.cells #[.int .i64 8] 3 (0, 0)) := by
      have := heap_alloc_new ((w0.alloc (.cells #[.slice none 0 0] 140)).alloc (.cells #[.slice a0 n cap] 33)) (.cells #[.int .i64 8] 3)
      rw [World.size_alloc, World.size_alloc] at this
      rw [h3, hpo]; exact this
    have l2 := (Array.getElem?_eq_some_iff.1 k2).1
    refine ⟨?_, ⟨a0, fun h => HA.out (by omega), by rw [cell_in k1]; rfl, by rw [cell_in k2]; rfl, by unfold World.frozen?; rw [k1]; simp⟩, ⟨_, by rw [cell_in k0]; rfl, World.ownsRow_nil _ _ _ _, (by intro e; cases e), (by intro e; cases e), (by intro e; cases e)⟩, by unfold World.frozen?; rw [k0]; simp, ⟨by omega, by omega⟩, ⟨by omega, by omega⟩, ⟨by omega, by omega⟩⟩
    rw [h3]
    exact ((((Below.refl _ _).alloc (Nat.le_refl _) _).alloc (by simp) _).alloc (by simp; omega) _))
  rw [← hpo]
  clear hpo
  refine (wpIn_wide (n := 9)).1 (range71 (w0 := w0) (f := f) HC.out.1 HC.out.2 n1 n2 rfl HST.out ?_ ?_ ?_)
  · intro l v W K hK
    simp only [List.setIfInBounds_toArray, List.set_cons_succ, List.set_cons_zero] at hK ⊢
    gi_wp2
    exact hK
  · intro l k W hk h
    have HK : Hid (k + 1 ≤ 262144) := Lib.hid (by have := HN.out; omega)
    have HPD : Hid (CutAt w0 W.drew po (po + 1) (po + 1 + 1) b off n cap f k k) := Lib.hid (h.grow ((Below.refl _ W).drew))
    have HSD : Hid (Stays W W.drew) := Lib.hid (fun _ _ h _ => h)
    have HW8 := Lib.hid (wordsL_8 f k)
    have h8 : Eight W.drew b (off + 8 * k) (fun r => f (k * 8 + r)) := fun r hr => by
      have := HD.out (8 * k + r) (by omega)
      show W.drew.cell? ⟨b, off + 8 * k + r, none⟩ = some (.int .u64 (f (k * 8 + r)))
      rw [show off + 8 * k + r = off + (8 * k + r) by omega, show k * 8 + r = 8 * k + r by omega]
      exact (HPD.out.below.cell (p := ⟨b, off + (8 * k + r), none⟩) (HB.out (by omega))).trans this
    obtain ⟨c0, c1, c2, c3, c4, c5, c6, c7⟩ := h8.cells
    rw [Nat.add_zero] at c0
    clear h h8 hk
    refine wpIn_block (region_in (by kernel_rfl) ?_ ?_ ?_)
    · intro i o ho cc hc
      have hi : i < 7 := (Array.getElem?_eq_some_iff.1 ho).1
      rcases i with _ | _ | _ | _ | _ | _ | _ | i <;> first | (cases ho; cases hc) | omega
    · rintro ⟨a, w, h⟩; exact h
    simp only [List.setIfInBounds_toArray, List.set_cons_succ, List.set_cons_zero]
    generalize W.drew = Wd at *
    obtain ⟨vo, hvo, hown, u1, u2, u3⟩ := HPD.out.out
    obtain ⟨oa, om, oc, rfl⟩ := own_slice hown
    have co := hvo
    have fo := HPD.out.fpo
    have HO := Lib.hid hown
    have HPO : Hid (some po ≠ (Value.slice oa om oc).ownBlock) := Lib.hid (Ne.symm u1)
    have p1 : po ≠ Wd.heap.size := by have := HPD.out.h1.2; omega
    have p2 : Wd.heap.size ≠ po := Ne.symm p1
    have p3 : po < Wd.heap.size := HPD.out.h1.2
    clear hvo hown u1 u2 u3
    generalize off + 8 * k = o at *
    generalize f (k * 8) = v0 at *
    generalize f (k * 8 + 1) = v1 at *
    generalize f (k * 8 + 2) = v2 at *
    generalize f (k * 8 + 3) = v3 at *
    generalize f (k * 8 + 4) = v4 at *
    generalize f (k * 8 + 5) = v5 at *
    generalize f (k * 8 + 6) = v6 at *
    generalize f (k * 8 + 7) = v7 at *
    refine wpAny_take (i := 1) (v := .slice (some ⟨b, o, none⟩) 8 8) rfl (by kernel_rfl) (by kernel_rfl) (by kernel_rfl) (fun _ _ _ h => h) (Or.inl ⟨by rfl, by intro w; go_simp; try with_reducible rfl⟩) ?_
    refine wpAny_ready (rs := [0, 2]) (by kernel_rfl) (by simp) (AllReady.cons rfl (fun K hK => ?_) (AllReady.cons rfl (fun K hK => ?_) AllReady.nil))
    · skip
      go_simp
      refine hK _ _ ?_
      clear hK
      refine wpAny_ready (rs := [2]) (by kernel_rfl) (by simp) (AllReady.cons rfl (fun K hK => ?_) AllReady.nil)
      go_simp
      refine hK _ _ ?_
      clear hK
      refine wpAny_ready (rs := [3]) (by kernel_rfl) (by simp) (AllReady.cons rfl (fun K hK => ?_) AllReady.nil)
      go_simp
      refine hK _ _ ?_
      clear hK
      refine wpAny_ready (rs := [4]) (by kernel_rfl) (by simp) (AllReady.cons rfl (fun K hK => ?_) AllReady.nil)
      refine step_line rfl 19 rfl v0 v1 v2 v3 v4 v5 v6 v7 rfl ?_
      refine hK _ _ ?_
      clear hK
      refine wpAny_ready (rs := [5]) (by kernel_rfl) (by simp) (AllReady.cons rfl (fun K hK => ?_) AllReady.nil)
      have HBW : Hid (Below Wd.heap.size Wd (Wd.alloc (.cells #[.int .u64 v0, .int .u64 v1, .int .u64 v2, .int .u64 v3, .int .u64 v4, .int .u64 v5, .int .u64 v6, .int .u64 v7] 218))) := Lib.hid ((Below.refl _ _).alloc (Nat.le_refl _) _)
      refine step_append_at rfl (.tmp 16) (.tmp 20) 140 rfl w0.heap.size 218 i102 _ 8 64 Tryz.underlying140 hi hz0 hz1 hz2 rfl (by decide) (.slice oa om oc) k _ rfl (HO.out.alloc _) ⟨Wd.heap.size, 0, none⟩ 1 1 [.int .u64 v0, .int .u64 v1, .int .u64 v2, .int .u64 v3, .int .u64 v4, .int .u64 v5, .int .u64 v6, .int .u64 v7] rfl rfl (fun j u hj => cell_alloc Wd _ _ j u hj) (by simp [Value.oneCell']) (by have := HK.out; unfold maxLen; omega) (by have := HK.out; omega) (by have := HPD.out.below.size; simp; omega) ?_
      intro v' w4 ho4 hg4 hb4
      obtain ⟨na, nm, nc, rfl⟩ := own_slice ho4
      have HO4 := Lib.hid ho4
      have HG4 := Lib.hid hg4
      have HB4 := Lib.hid hb4
      have hk4 : w4.heap[po]? = Wd.heap[po]? := (hg4.block po (by have := HPD.out.h1.2; simp; omega) HPO.out).trans (Below.heap_alloc _ _ _ HPD.out.h1.2)
      have co4 : w4.cell? ⟨po, 0, none⟩ = some (.slice oa om oc) := by rw [cell_of_heap hk4]; exact co
      have fo4 : w4.frozen? ⟨po, 0, none⟩ = false := by rw [frozen_of_heap hk4]; exact fo
      clear ho4 hg4 hb4 hk4
      refine hK _ _ ?_
      clear hK
      refine wpAny_ready (rs := [6]) (by kernel_rfl) (by simp) (AllReady.cons rfl (fun K hK => ?_) AllReady.nil)
      go_simp
      refine hK _ _ ?_
      clear hK
      refine wpAny_done (by kernel_rfl) ?_ _
      have hfin := HPD.out.add n1 n2 n3 co HBW.out (by rw [HW8.out]; exact HO4.out) HG4.out HB4.out
      exact ⟨hfin.1, HSD.out.trans hfin.2⟩
    · skip
      go_simp
      refine hK _ _ ?_
      clear hK
      refine wpAny_ready (rs := [0, 3]) (by kernel_rfl) (by simp) (AllReady.cons rfl (fun K hK => ?_) (AllReady.cons rfl (fun K hK => ?_) AllReady.nil))
      · skip
        go_simp
        refine hK _ _ ?_
        clear hK
        refine wpAny_ready (rs := [3]) (by kernel_rfl) (by simp) (AllReady.cons rfl (fun K hK => ?_) AllReady.nil)
        go_simp
        refine hK _ _ ?_
        clear hK
        refine wpAny_ready (rs := [4]) (by kernel_rfl) (by simp) (AllReady.cons rfl (fun K hK => ?_) AllReady.nil)
        refine step_line rfl 19 rfl v0 v1 v2 v3 v4 v5 v6 v7 rfl ?_
        refine hK _ _ ?_
        clear hK
        refine wpAny_ready (rs := [5]) (by kernel_rfl) (by simp) (AllReady.cons rfl (fun K hK => ?_) AllReady.nil)
        have HBW : Hid (Below Wd.heap.size Wd (Wd.alloc (.cells #[.int .u64 v0, .int .u64 v1, .int .u64 v2, .int .u64 v3, .int .u64 v4, .int .u64 v5, .int .u64 v6, .int .u64 v7] 218))) := Lib.hid ((Below.refl _ _).alloc (Nat.le_refl _) _)
        refine step_append_at rfl (.tmp 16) (.tmp 20) 140 rfl w0.heap.size 218 i102 _ 8 64 Tryz.underlying140 hi hz0 hz1 hz2 rfl (by decide) (.slice oa om oc) k _ rfl (HO.out.alloc _) ⟨Wd.heap.size, 0, none⟩ 1 1 [.int .u64 v0, .int .u64 v1, .int .u64 v2, .int .u64 v3, .int .u64 v4, .int .u64 v5, .int .u64 v6, .int .u64 v7] rfl rfl (fun j u hj => cell_alloc Wd _ _ j u hj) (by simp [Value.oneCell']) (by have := HK.out; unfold maxLen; omega) (by have := HK.out; omega) (by have := HPD.out.below.size; simp; omega) ?_
        intro v' w4 ho4 hg4 hb4
        obtain ⟨na, nm, nc, rfl⟩ := own_slice ho4
        have HO4 := Lib.hid ho4
        have HG4 := Lib.hid hg4
        have HB4 := Lib.hid hb4
        have hk4 : w4.heap[po]? = Wd.heap[po]? := (hg4.block po (by have := HPD.out.h1.2; simp; omega) HPO.out).trans (Below.heap_alloc _ _ _ HPD.out.h1.2)
        have co4 : w4.cell? ⟨po, 0, none⟩ = some (.slice oa om oc) := by rw [cell_of_heap hk4]; exact co
        have fo4 : w4.frozen? ⟨po, 0, none⟩ = false := by rw [frozen_of_heap hk4]; exact fo
        clear ho4 hg4 hb4 hk4
        refine hK _ _ ?_
        clear hK
        refine wpAny_ready (rs := [6]) (by kernel_rfl) (by simp) (AllReady.cons rfl (fun K hK => ?_) AllReady.nil)
        go_simp
        refine hK _ _ ?_
        clear hK
        refine wpAny_done (by kernel_rfl) ?_ _
        have hfin := HPD.out.add n1 n2 n3 co HBW.out (by rw [HW8.out]; exact HO4.out) HG4.out HB4.out
        exact ⟨hfin.1, HSD.out.trans hfin.2⟩
      · skip
        go_simp
        refine hK _ _ ?_
        clear hK
        refine wpAny_ready (rs := [0, 4]) (by kernel_rfl) (by simp) (AllReady.cons rfl (fun K hK => ?_) (AllReady.cons rfl (fun K hK => ?_) AllReady.nil))
        · skip
          go_simp
          refine hK _ _ ?_
          clear hK
          refine wpAny_ready (rs := [4]) (by kernel_rfl) (by simp) (AllReady.cons rfl (fun K hK => ?_) AllReady.nil)
          refine step_line rfl 19 rfl v0 v1 v2 v3 v4 v5 v6 v7 rfl ?_
          refine hK _ _ ?_
          clear hK
          refine wpAny_ready (rs := [5]) (by kernel_rfl) (by simp) (AllReady.cons rfl (fun K hK => ?_) AllReady.nil)
          have HBW : Hid (Below Wd.heap.size Wd (Wd.alloc (.cells #[.int .u64 v0, .int .u64 v1, .int .u64 v2, .int .u64 v3, .int .u64 v4, .int .u64 v5, .int .u64 v6, .int .u64 v7] 218))) := Lib.hid ((Below.refl _ _).alloc (Nat.le_refl _) _)
          refine step_append_at rfl (.tmp 16) (.tmp 20) 140 rfl w0.heap.size 218 i102 _ 8 64 Tryz.underlying140 hi hz0 hz1 hz2 rfl (by decide) (.slice oa om oc) k _ rfl (HO.out.alloc _) ⟨Wd.heap.size, 0, none⟩ 1 1 [.int .u64 v0, .int .u64 v1, .int .u64 v2, .int .u64 v3, .int .u64 v4, .int .u64 v5, .int .u64 v6, .int .u64 v7] rfl rfl (fun j u hj => cell_alloc Wd _ _ j u hj) (by simp [Value.oneCell']) (by have := HK.out; unfold maxLen; omega) (by have := HK.out; omega) (by have := HPD.out.below.size; simp; omega) ?_
          intro v' w4 ho4 hg4 hb4
          obtain ⟨na, nm, nc, rfl⟩ := own_slice ho4
          have HO4 := Lib.hid ho4
          have HG4 := Lib.hid hg4
          have HB4 := Lib.hid hb4
          have hk4 : w4.heap[po]? = Wd.heap[po]? := (hg4.block po (by have := HPD.out.h1.2; simp; omega) HPO.out).trans (Below.heap_alloc _ _ _ HPD.out.h1.2)
          have co4 : w4.cell? ⟨po, 0, none⟩ = some (.slice oa om oc) := by rw [cell_of_heap hk4]; exact co
          have fo4 : w4.frozen? ⟨po, 0, none⟩ = false := by rw [frozen_of_heap hk4]; exact fo
          clear ho4 hg4 hb4 hk4
          refine hK _ _ ?_
          clear hK
          refine wpAny_ready (rs := [6]) (by kernel_rfl) (by simp) (AllReady.cons rfl (fun K hK => ?_) AllReady.nil)
          go_simp
          refine hK _ _ ?_
          clear hK
          refine wpAny_done (by kernel_rfl) ?_ _
          have hfin := HPD.out.add n1 n2 n3 co HBW.out (by rw [HW8.out]; exact HO4.out) HG4.out HB4.out
          exact ⟨hfin.1, HSD.out.trans hfin.2⟩
        · skip
          refine step_line rfl 19 rfl v0 v1 v2 v3 v4 v5 v6 v7 rfl ?_
          refine hK _ _ ?_
          clear hK
          refine wpAny_ready (rs := [0]) (by kernel_rfl) (by simp) (AllReady.cons rfl (fun K hK => ?_) AllReady.nil)
          go_simp
          refine hK _ _ ?_
          clear hK
          refine wpAny_ready (rs := [5]) (by kernel_rfl) (by simp) (AllReady.cons rfl (fun K hK => ?_) AllReady.nil)
          have HBW : Hid (Below Wd.heap.size Wd (Wd.alloc (.cells #[.int .u64 v0, .int .u64 v1, .int .u64 v2, .int .u64 v3, .int .u64 v4, .int .u64 v5, .int .u64 v6, .int .u64 v7] 218))) := Lib.hid ((Below.refl _ _).alloc (Nat.le_refl _) _)
          refine step_append_at rfl (.tmp 16) (.tmp 20) 140 rfl w0.heap.size 218 i102 _ 8 64 Tryz.underlying140 hi hz0 hz1 hz2 rfl (by decide) (.slice oa om oc) k _ rfl (HO.out.alloc _) ⟨Wd.heap.size, 0, none⟩ 1 1 [.int .u64 v0, .int .u64 v1, .int .u64 v2, .int .u64 v3, .int .u64 v4, .int .u64 v5, .int .u64 v6, .int .u64 v7] rfl rfl (fun j u hj => cell_alloc Wd _ _ j u hj) (by simp [Value.oneCell']) (by have := HK.out; unfold maxLen; omega) (by have := HK.out; omega) (by have := HPD.out.below.size; simp; omega) ?_
          intro v' w4 ho4 hg4 hb4
          obtain ⟨na, nm, nc, rfl⟩ := own_slice ho4
          have HO4 := Lib.hid ho4
          have HG4 := Lib.hid hg4
          have HB4 := Lib.hid hb4
          have hk4 : w4.heap[po]? = Wd.heap[po]? := (hg4.block po (by have := HPD.out.h1.2; simp; omega) HPO.out).trans (Below.heap_alloc _ _ _ HPD.out.h1.2)
          have co4 : w4.cell? ⟨po, 0, none⟩ = some (.slice oa om oc) := by rw [cell_of_heap hk4]; exact co
          have fo4 : w4.frozen? ⟨po, 0, none⟩ = false := by rw [frozen_of_heap hk4]; exact fo
          clear ho4 hg4 hb4 hk4
          refine hK _ _ ?_
          clear hK
          refine wpAny_ready (rs := [6]) (by kernel_rfl) (by simp) (AllReady.cons rfl (fun K hK => ?_) AllReady.nil)
          go_simp
          refine hK _ _ ?_
          clear hK
          refine wpAny_done (by kernel_rfl) ?_ _
          have hfin := HPD.out.add n1 n2 n3 co HBW.out (by rw [HW8.out]; exact HO4.out) HG4.out HB4.out
          exact ⟨hfin.1, HSD.out.trans hfin.2⟩
  · intro D W hD h hK
    dsimp only
    obtain ⟨vo, hvo, hown, u1, u2, u3⟩ := h.out
    obtain ⟨oa, om, oc, rfl⟩ := own_slice hown
    have HH := Lib.hid h
    have HO := Lib.hid hown
    have HKK := Lib.hid hK
    clear h hown hK u1 u2 u3
    go_wp2_with fail
    show LeavesInM Fence.wide 9 Tryz.prog Tryz.f124 _ (CutTo f n w0) [{ target := .collected D, args := #[] }] .returning W
    unfold LeavesInM
    refine ⟨by simp, .inl ⟨_, _, rfl, run_takeDeferred HKK.out, ?_⟩⟩
    exact ⟨_, results_tmp2 rfl _ _ _, _, rfl, (HH.out.put HKK.out rfl hD _).below, ownsRow_putObj HO.out _ HKK.out rfl⟩
end Go.Proofs.YtibelcmdfkgonaaGreat

namespace Go.Proofs.YtibelcmdfkgonaaGreat
open Go.RowKit Go.BigFrame
set_option linter.unusedVariables false
set_option linter.unusedSimpArgs false
/-- A copy of lines. -/
def CloneTo (xs : List Value) (n : Nat) (W : World) (e : Ending) (W' : World) : Prop := ∃ v, e = .returned v ∧ Below W.heap.size W W' ∧ W'.ownsRow W.heap.size 218 8 v n xs
set_option maxRecDepth 100000 in
theorem clone51 (g n cap : Nat) (c : Array Value) (hn : 0 < n) (h1 : n ≤ 262144) (xs : List Value) (W : World) (hg : W.heap[g]? = some (.cells c 218 (0, 0))) (hxs : xs.length = n * 8) (hc : ∀ j, j < n * 8 → c[j]? = xs[j]?) (h1c : ∀ u ∈ xs, u.oneCell' = true) :
    Calls Tryz.prog 220 #[.slice (some ⟨g, 0, none⟩) n cap] W (CloneTo xs n W) := by
  obtain ⟨i102, hi, hz0, hz1, hz2⟩ := info_parts info102
  have HG := Lib.hid hg
  have HC := Lib.hid hc
  have HX := Lib.hid hxs
  have H1 := Lib.hid h1c
  clear hg hc hxs h1c
  obtain ⟨B, hB⟩ : ∃ B, B = W.heap.size := ⟨_, rfl⟩
  unfold CloneTo
  rw [← hB]
  have HB := Lib.hid hB
  clear hB
  have hnil := fun w : World => Lib.run_eql_slice_nil (P := Tryz.prog) w 140 218 (some ⟨g, 0, none⟩) n cap 0 0 Tryz.underlying140
  go_enter Tryz.func220, Tryz.ntmps220
  have hgl : g < W.heap.size := (Array.getElem?_eq_some_iff.1 HG.out).1
  go_wp2_with (at_builtin; refine wpList_append_own _ rfl (.tmp 5) (.tmp 6) 140 rfl B 218 i102 _ 8 64 Tryz.underlying140 hi hz0 hz1 hz2 rfl (by decide) (.slice (some ⟨W.heap.size, 0, none⟩) 0 0) 0 [] rfl (World.ownsRow_made W #[] 0 (by have := HB.out; omega) (by unfold maxLen; omega) rfl) ⟨g, 0, none⟩ n cap xs rfl HX.out (fun j u hj => by rw [Addr.add_lit, Nat.zero_add, cell_in ((Below.heap_alloc W _ g hgl).trans HG.out), HC.out j (by rw [← HX.out]; exact (List.getElem?_eq_some_iff.1 hj).1)]; exact hj) H1.out (by unfold maxLen; omega) (by omega) (by have := HB.out; simp; omega) ?_; intro v' w' hown hgr hne; have HO' := Lib.hid hown; have HG' := Lib.hid hgr; clear hown hgr hne)
  go_wp2_with fail
  go_ret
  refine ⟨_, rfl, ?_, ?_⟩
  · exact ((Below.refl _ _).alloc (by have := HB.out; omega) _).grown HG'.out (by have := HB.out; rw [World.size_alloc]; omega) (fun q e => by cases e; show B ≤ W.heap.size; have := HB.out; omega)
  · have := HO'.out
    rw [Nat.zero_add, List.nil_append] at this
    exact this
theorem mk_row (t e : TypeId) (z v : Value) (by_ : Nat) (ht : Tryz.prog.underlying t = some (.slice e)) (hi : (Tryz.prog.info? e).map (fun i => (i.zero, i.size, i.bytes)) = some (some z, 1, by_)) (hz : z.cells = #[v]) (n : Nat) (hb : by_ * n ≤ 281474976710656) (h63 : n ≤ 9223372036854775807) (w : World) :
    (Instr.makeSlice t (.int .i64 n) (.int .i64 n)).run Tryz.prog w = .ok (.slice (some ⟨w.heap.size, 0, none⟩) n n) (w.alloc (.cells (madeCells #[v] n) e)) := by
  obtain ⟨i, h1, h2, h3, h4⟩ := info_parts hi
  have hb' : (i.bytes : Int) * (n : Int) ≤ 281474976710656 := by
    have h : ((by_ * n : Nat) : Int) ≤ 281474976710656 := by omega
    rw [Int.natCast_mul] at h; rw [h4]; exact h
  have := run_make (P := Tryz.prog) w t e i z ht h1 h2 .i64 .i64 n n (by omega) (Int.le_refl _) hb' (by omega)
  rw [this, h3, hz]
  rw [Int.toNat_natCast, Nat.mul_one]
theorem made_get (v : Value) (n j : Nat) (hj : j < n) : (madeCells #[v] n)[j]? = some v := by
  rw [← Array.getElem?_toList, toList_madeCells_one]; simp [hj]
theorem info3 : (Tryz.prog.info? 3).map (fun i => (i.zero, i.size, i.bytes)) = some (some (.int .i64 0), 1, 8) := by kernel_rfl
theorem info123 : (Tryz.prog.info? 280).map (fun i => (i.zero, i.size, i.bytes)) = some (some (.agg #[.slice none 0 0]), 1, 24) := by kernel_rfl
/-- A device made: its blocks. -/
structure DevAt (W : World) (B d kb sb wb fb n nt c0 c1 : Nat) (f : Nat → Int) : Prop where
  dev : W.heap[d]? = some (.cells #[.slice (some ⟨kb, 0, none⟩) n c0, .slice (some ⟨sb, 0, none⟩) n c1, .slice (some ⟨wb, 0, none⟩) n n, .slice (some ⟨fb, 0, none⟩) nt nt] 143 (0, 0))
  rk : RowAt W kb (8 * n) fun k => .int .u64 (f k)
  rs : RowAt W sb (8 * n) fun k => .int .u64 (f k)
  rw : RowAt W wb n fun _ => .int .i64 0
  rf : RowAt W fb nt fun _ => .slice none 0 0
  apart : [d, kb, sb, wb, fb].Nodup
  base : B ≤ d ∧ B ≤ kb ∧ B ≤ sb ∧ B ≤ wb ∧ B ≤ fb
def MadeTo (B kb n cap nt : Nat) (f : Nat → Int) (W : World) (e : Ending) (W' : World) : Prop := ∃ d sb wb fb c1, e = .returned (.pointer (some ⟨d, 0, none⟩)) ∧ Below W.heap.size W W' ∧ DevAt W' B d kb sb wb fb n nt cap c1 f
theorem row_of_words {w : World} {X n g cap : Nat} {f : Nat → Int} (h : w.ownsRow X 218 8 (.slice (some ⟨g, 0, none⟩) n cap) n (wordsL f (8 * n))) (hn : 0 < n) : RowAt w g (8 * n) fun k => .int .u64 (f k) := by
  obtain ⟨g', cap', c, e1, hb, hg, hc1, hcs, hcc⟩ := own_row h hn
  cases e1
  exact ⟨c, _, hg, fun k hk => by rw [hcc k (by omega)]; exact wordsL_get f _ k hk⟩
theorem dev_made {B kb n cap nt : Nat} {f : Nat → Int} {W wf : World} (hn : 0 < n) (hW : W.ownsRow B 218 8 (.slice (some ⟨kb, 0, none⟩) n cap) n (wordsL f (8 * n))) {d sb wb fb c1 X : Nat} (hb : Below W.heap.size W wf)
    (h0 : wf.heap[d]? = some (.cells #[.slice (some ⟨kb, 0, none⟩) n cap, .slice (some ⟨sb, 0, none⟩) n c1, .slice (some ⟨wb, 0, none⟩) n n, .slice (some ⟨fb, 0, none⟩) nt nt] 143 (0, 0)))
    (h1 : wf.heap[wb]? = some (.cells (madeCells #[.int .i64 0] n) 3 (0, 0))) (h2 : wf.heap[fb]? = some (.cells (madeCells #[.slice none 0 0] nt) 280 (0, 0)))
    (h3 : wf.ownsRow X 218 8 (.slice (some ⟨sb, 0, none⟩) n c1) n (wordsL f (8 * n))) (hx : W.heap.size ≤ X ∧ W.heap.size ≤ d ∧ W.heap.size ≤ wb ∧ W.heap.size ≤ fb)
    (ne : d ≠ wb ∧ d ≠ fb ∧ wb ≠ fb ∧ sb ≠ d ∧ sb ≠ wb ∧ sb ≠ fb) : MadeTo B kb n cap nt f W (.returned (.pointer (some ⟨d, 0, none⟩))) wf := by
  obtain ⟨k1, k2⟩ := own_lt hW (k := kb) rfl
  obtain ⟨s1, s2⟩ := own_lt h3 (k := sb) rfl
  refine ⟨d, sb, wb, fb, c1, rfl, hb, h0, (row_of_words hW hn).keep (hb.block _ k2), row_of_words h3 hn, ⟨_, _, h1, fun k hk => made_get _ _ _ hk⟩, ⟨_, _, h2, fun k hk => made_get _ _ _ hk⟩, ?_, by omega⟩
  simp only [List.nodup_cons, List.mem_cons, List.not_mem_nil, or_false, not_or, List.nodup_nil, and_true, not_false_eq_true]
  omega
theorem new1 (w : World) (a b c : Obj) : (((w.alloc a).alloc b).alloc c).heap[w.heap.size]? = some a ∧ (((w.alloc a).alloc b).alloc c).heap[w.heap.size + 1]? = some b ∧ (((w.alloc a).alloc b).alloc c).heap[w.heap.size + 1 + 1]? = some c := by
  refine ⟨?_, ?_, ?_⟩
  · rw [Below.heap_alloc _ _ _ (by simp; omega)]; exact (two_new w a b).1
  · rw [Below.heap_alloc _ _ _ (by simp)]; exact (two_new w a b).2
  · have := heap_alloc_new ((w.alloc a).alloc b) c; simpa using this
set_option maxRecDepth 100000 in
set_option maxHeartbeats 2000000 in
theorem made36 (B kb n cap nt : Nat) (hn : 0 < n) (h1 : n ≤ 262144) (ht : nt ≤ 64) (f : Nat → Int) (W : World) (h : W.ownsRow B 218 8 (.slice (some ⟨kb, 0, none⟩) n cap) n (wordsL f (8 * n))) :
    Calls Tryz.prog 125 #[.slice (some ⟨kb, 0, none⟩) n cap, .int .i64 nt] W (MadeTo B kb n cap nt f W) := by
  have i0 : (0 : Int) ≤ (n : Int) := by omega
  have i1 : (0 : Int) ≤ (nt : Int) := by omega
  have HCL : Hid (∀ w, Below W.heap.size W w → Calls Tryz.prog 220 #[.slice (some ⟨kb, 0, none⟩) n cap] w (CloneTo (wordsL f (8 * n)) n w)) := Lib.hid fun w hw => by
    obtain ⟨g, cap', c, e1, hb, hg, hc1, hcs, hcc⟩ := own_row h hn
    cases e1
    refine clone51 _ n _ c hn h1 _ w ((hw.block _ (Array.getElem?_eq_some_iff.1 hg).1).trans hg) (by rw [wordsL_len]; omega) hcc (fun u hu => ?_)
    unfold wordsL at hu
    obtain ⟨q, _, rfl⟩ := List.mem_map.1 hu
    rfl
  have HH := Lib.hid h
  clear h
  have mk1 := mk_row 84 3 _ _ 8 Tryz.underlying84 info3 rfl n (by omega) (by omega)
  have mk2 := mk_row 141 280 _ _ 24 Tryz.underlying141 info123 rfl nt (by omega) (by omega)
  go_enter Tryz.func125, Tryz.ntmps125
  go_wp2_with fail
  go_region_with (go_at_call 220; refine (HCL.out _ (by first | exact (Below.refl _ _).drew | exact ((Below.refl _ _).alloc (Nat.le_refl _) _).drew | exact (((Below.refl _ _).alloc (Nat.le_refl _) _).alloc (by simp) _).drew | exact (Below.refl _ _).drew.alloc (by simp) _ | exact ((Below.refl _ _).drew.alloc (by simp) _).alloc (by simp) _)).mono ?_; rintro e w1 ⟨v, rfl, hb, ho⟩; obtain ⟨sb, c1, cc, rfl, hq⟩ := own_row ho hn; have HB1 := Lib.hid hb; have HO1 := Lib.hid ho; clear hb ho hq)
  all_goals
    go_wp2_with fail
    go_ret
  all_goals (have s1 := (own_lt HO1.out rfl).1; have s2 := (own_lt HO1.out rfl).2; have z1 := HB1.out.size)
  · obtain ⟨a, b, c⟩ := new1 w1 (.cells (madeCells #[.int .i64 0] n) 3) (.cells (madeCells #[.slice none 0 0] nt) 280) (.cells #[.slice (some ⟨kb, 0, none⟩) n cap, .slice (some ⟨sb, 0, none⟩) n c1, .slice (some ⟨w1.heap.size, 0, none⟩) n n, .slice (some ⟨w1.heap.size + 1, 0, none⟩) nt nt] 143)
    refine dev_made hn HH.out ?_ c a b (((HO1.out.alloc _).alloc _).alloc _) ?_ ?_
    · exact ((((Below.refl _ _).drew.trans HB1.out).alloc z1 _).alloc (by simp at z1 ⊢; omega) _).alloc (by simp at z1 ⊢; omega) _
    all_goals (simp at z1 s1 s2 ⊢; omega)
  · obtain ⟨a, b, c⟩ := new1 w1 (.cells (madeCells #[.slice none 0 0] nt) 280) (.cells (madeCells #[.int .i64 0] n) 3) (.cells #[.slice (some ⟨kb, 0, none⟩) n cap, .slice (some ⟨sb, 0, none⟩) n c1, .slice (some ⟨w1.heap.size + 1, 0, none⟩) n n, .slice (some ⟨w1.heap.size, 0, none⟩) nt nt] 143)
    refine dev_made hn HH.out ?_ c b a (((HO1.out.alloc _).alloc _).alloc _) ?_ ?_
    · exact ((((Below.refl _ _).drew.trans HB1.out).alloc z1 _).alloc (by simp at z1 ⊢; omega) _).alloc (by simp at z1 ⊢; omega) _
    all_goals (simp at z1 s1 s2 ⊢; omega)
  · have e0 := (HB1.out.block W.heap.size (by simp)).trans (heap_alloc_new W _)
    have zz : W.heap.size + 1 ≤ w1.heap.size := by have := z1; simp at this; omega
    refine dev_made hn HH.out ?_ (two_new w1 _ _).2 ((Below.heap_alloc _ _ _ (by simp; omega)).trans ((Below.heap_alloc w1 _ W.heap.size (by omega)).trans e0)) (two_new w1 _ _).1 ((HO1.out.alloc _).alloc _) ?_ ?_
    · exact (((((Below.refl _ _).alloc (Nat.le_refl _) _).drew.trans (HB1.out.mono (by simp))).alloc (by omega) _).alloc (by simp; omega) _)
    all_goals (simp at z1 s1 s2 ⊢; omega)
  · have e0 := (HB1.out.block W.heap.size (by simp; omega)).trans (two_new W _ _).1
    have e1 := (HB1.out.block (W.heap.size + 1) (by simp)).trans (two_new W _ _).2
    have zz : W.heap.size + 1 + 1 ≤ w1.heap.size := by have := z1; simp at this; omega
    refine dev_made hn HH.out ?_ (heap_alloc_new w1 _) ((Below.heap_alloc w1 _ W.heap.size (by omega)).trans e0) ((Below.heap_alloc w1 _ (W.heap.size + 1) (by omega)).trans e1) (HO1.out.alloc _) ?_ ?_
    · exact ((((Below.refl _ _).alloc (Nat.le_refl _) _).alloc (by simp) _).drew.trans (HB1.out.mono (by simp; omega))).alloc (by omega) _
    all_goals (simp at z1 s1 s2 ⊢; omega)
  · have e0 := (HB1.out.block W.heap.size (by simp)).trans (heap_alloc_new W _)
    have zz : W.heap.size + 1 ≤ w1.heap.size := by have := z1; simp at this; omega
    refine dev_made hn HH.out ?_ (two_new w1 _ _).2 (two_new w1 _ _).1 ((Below.heap_alloc _ _ _ (by simp; omega)).trans ((Below.heap_alloc w1 _ W.heap.size (by omega)).trans e0)) ((HO1.out.alloc _).alloc _) ?_ ?_
    · exact (((((Below.refl _ _).alloc (Nat.le_refl _) _).drew.trans (HB1.out.mono (by simp))).alloc (by omega) _).alloc (by simp; omega) _)
    all_goals (simp at z1 s1 s2 ⊢; omega)
  · have e0 := (HB1.out.block W.heap.size (by simp; omega)).trans (two_new W _ _).1
    have e1 := (HB1.out.block (W.heap.size + 1) (by simp)).trans (two_new W _ _).2
    have zz : W.heap.size + 1 + 1 ≤ w1.heap.size := by have := z1; simp at this; omega
    refine dev_made hn HH.out ?_ (heap_alloc_new w1 _) ((Below.heap_alloc w1 _ (W.heap.size + 1) (by omega)).trans e1) ((Below.heap_alloc w1 _ W.heap.size (by omega)).trans e0) (HO1.out.alloc _) ?_ ?_
    · exact ((((Below.refl _ _).alloc (Nat.le_refl _) _).alloc (by simp) _).drew.trans (HB1.out.mono (by simp; omega))).alloc (by omega) _
    all_goals (simp at z1 s1 s2 ⊢; omega)
end Go.Proofs.YtibelcmdfkgonaaGreat
