/- Layer 3: words cut into lines.
   Layer 4: a device is made.
   Layers 4, 7: a device opened, a memory made.
   The document's memory: what lies in it; what is at a word. -/
import Derived.Test.YtkdcfijebgeajaaGreatJ4
import Derived.WalkSpells
import Derived.Test.YtkdcfijebgeajaaGreatJ3
namespace Go.Proofs.YtkdcfijebgeajaaGreat
open Go.RowKit Go.BigFrame
set_option linter.unusedVariables false
set_option linter.unusedSimpArgs false
theorem info102 : (Tryz.prog.info? 142).map (fun i => (i.zero, i.size, i.bytes)) = some (some (.agg #[.int .u64 0, .int .u64 0, .int .u64 0, .int .u64 0, .int .u64 0, .int .u64 0, .int .u64 0, .int .u64 0]), 8, 64) := by kernel_rfl
theorem step_line {ops : Array Oper} {o : Oper} {a : Act} {w : World} {K : Act → World → Prop} {Q : Exit → Act → World → Prop} {E : Prop} (hgd : o.guard = none) (t : Nat) (ho : o.op = .buildSlice 146 1 #[(0, .tmp t)]) (v0 v1 v2 v3 v4 v5 v6 v7 : Int)
    (hs : a.tmps[t]?.getD undef = .agg #[.int .u64 v0, .int .u64 v1, .int .u64 v2, .int .u64 v3, .int .u64 v4, .int .u64 v5, .int .u64 v6, .int .u64 v7])
    (h : K (a.put o.dst (.slice (some ⟨w.heap.size, 0, none⟩) 1 1)) (w.alloc (.cells #[.int .u64 v0, .int .u64 v1, .int .u64 v2, .int .u64 v3, .int .u64 v4, .int .u64 v5, .int .u64 v6, .int .u64 v7] 142))) :
    if Region.wanted o (yielded ops a.tmps) = true then Oper.wp Tryz.prog o a w K Q else E := by
  have hw : Region.wanted o (yielded ops a.tmps) = true := by simp [Region.wanted, hgd]
  rw [if_pos hw]
  obtain ⟨o1, o2, o3, o4, o5, o6⟩ := o
  subst ho
  simp [Oper.wp, go_sem, hs]
  exact h
/-- Words were cut into lines, or not. -/
def CutTo (f : Nat → Int) (n : Nat) (w : World) (e : Ending) (w' : World) : Prop :=
  ∃ v, e = .returned (.tuple #[v, .int .i64 0]) ∧ Below w.heap.size w w' ∧ w'.ownsRow w.heap.size 142 8 v (n / 8) (wordsL f (8 * (n / 8)))
def wholeE (n : Nat) : Int := if (n : Int) % 8 ≠ 0 then 3 else if 262144 < (n : Int) / 8 then 2 else 0
theorem cut35_no (a : Option Addr) (n cap : Nat) (hn : n ≤ 9223372036854775807) (he : wholeE n ≠ 0) (w : World) : Calls Tryz.prog 77 #[.slice a n cap] w (Tells (.tuple #[.slice none 0 0, .int .i64 (wholeE n)]) w) := by
  have HW := Lib.hid (whole49 n hn w)
  rw [show (if (n : Int) % 8 ≠ 0 then (3 : Int) else if 262144 < (n : Int) / 8 then 2 else 0) = wholeE n from rfl] at HW
  generalize wholeE n = e at *
  have e1 : (e != 0) = true := by simpa using he
  clear he
  go_enter Tryz.func77, Tryz.ntmps77
  go_wp2_with fail
  with_reducible refine HW.out.mono ?_
  rintro e w' ⟨rfl, hw⟩
  cases hw
  go_wp2_with fail
  go_ret2
  exact ⟨rfl, Below.refl _ _, rfl⟩
/-- Left by its end or by ret alone. -/
def OnlyRet (Q : Exit → Act → World → Prop) : Exit → Act → World → Prop
  | .ret, a, w => Q .ret a w
  | .normal, a, w => Q .normal a w
  | _, _, _ => False
theorem OnlyRet.out {Q : Exit → Act → World → Prop} (e : Exit) (a : Act) (w : World) (h : OnlyRet Q e a w) : Q e a w := by
  cases e <;> first | exact h | exact h.elim
set_option maxRecDepth 100000 in
set_option maxHeartbeats 4000000 in
theorem cut35 (a0 : Option Addr) (b off n cap : Nat) (ha : 8 ≤ n → a0 = some ⟨b, off, none⟩) (hn : n ≤ cap) (hc : cap ≤ 9223372036854775807) (he : wholeE n = 0) (f : Nat → Int) (w0 : World) (hb : 0 < n → b < w0.heap.size) (hw : ∀ j, j < n → w0.cell? ⟨b, off + j, none⟩ = some (.int .u64 (f j))) :
    Calls Tryz.prog 77 #[.slice a0 n cap] w0 (CutTo f n w0) := by
  have HW := Lib.hid (whole49 n (by omega) w0)
  rw [show (if (n : Int) % 8 ≠ 0 then (3 : Int) else if 262144 < (n : Int) / 8 then 2 else 0) = 0 from he] at HW
  have HN : Hid (n % 8 = 0 ∧ n / 8 ≤ 262144) := Lib.hid (by unfold wholeE at he; split at he; omega; split at he; omega; omega)
  have HB := Lib.hid hb
  have HA := Lib.hid ha
  have HD := Lib.hid hw
  have HC := Lib.hid (And.intro hn hc)
  clear hb hw hn hc he ha
  refine (callsIn_wide (n := 9)).1 (callsIn_of_wp_marks Tryz.func77 rfl trivial ?_ rfl)
  refine wpIn_wide.2 ?_
  simp only [Tryz.ntmps77, List.size_toArray, List.length_cons, List.length_nil, Nat.reduceAdd, Nat.reduceSub, Array.replicate_succ, Array.replicate_zero, List.push_toArray, List.append_toArray, List.nil_append, List.cons_append]
  go_wp2_with fail
  with_reducible refine HW.out.mono ?_
  rintro e w' ⟨rfl, hw⟩
  cases hw
  go_wp2_with (go_at_call 147; refine (parts50 _ ⟨_, _, _, rfl⟩ _ _).mono ?_; rintro e w3 ⟨rfl, hw3⟩; have HW3 := Lib.hid hw3; clear hw3)
  obtain ⟨i102, hi, hz0, hz1, hz2⟩ := info_parts info102
  obtain ⟨po, hpo⟩ : ∃ po, po = w0.heap.size := ⟨_, rfl⟩
  have n1 : po ≠ po + 1 := by omega
  have n2 : po + 1 ≠ po + 1 + 1 := by omega
  have n3 : po ≠ po + 1 + 1 := by omega
  have HST : Hid (CutAt w0 w3 po (po + 1) (po + 1 + 1) b off n cap f 0 0) := Lib.hid (by
    have h3 := HW3.out
    have k0 : w3.heap[po]? = some (.cells #[.slice none 0 0] 146 (0, 0)) := by
      rw [h3, Below.heap_alloc _ _ _ (by simp; omega), Below.heap_alloc _ _ _ (by simp; omega), hpo, heap_alloc_new]
    have k1 : w3.heap[po + 1]? = some (.cells #[.slice a0 n cap] 24 (0, 0)) := by
      have := heap_alloc_new (w0.alloc (.cells #[.slice none 0 0] 146)) (.cells #[.slice a0 n cap] 24)
      rw [World.size_alloc] at this
      rw [h3, Below.heap_alloc _ _ _ (by simp; omega), hpo]; exact this
    have k2 : w3.heap[po + 1 + 1]? = some (.cells #[.int .i64 8] 3 (0, 0)) := by
      have := heap_alloc_new ((w0.alloc (.cells #[.slice none 0 0] 146)).alloc (.cells #[.slice a0 n cap] 24)) (.cells #[.int .i64 8] 3)
      rw [World.size_alloc, World.size_alloc] at this
      rw [h3, hpo]; exact this
    have l2 := (Array.getElem?_eq_some_iff.1 k2).1
    refine ⟨?_, ⟨a0, fun h => HA.out (by omega), by rw [cell_in k1]; rfl, by rw [cell_in k2]; rfl, by unfold World.frozen?; rw [k1]; simp⟩, ⟨_, by rw [cell_in k0]; rfl, World.ownsRow_nil _ _ _ _, (by intro e; cases e), (by intro e; cases e), (by intro e; cases e)⟩, by unfold World.frozen?; rw [k0]; simp, ⟨by omega, by omega⟩, ⟨by omega, by omega⟩, ⟨by omega, by omega⟩⟩
    rw [h3]
    exact ((((Below.refl _ _).alloc (Nat.le_refl _) _).alloc (by simp) _).alloc (by simp; omega) _))
  rw [← hpo]
  clear hpo
  refine (wpIn_wide (n := 9)).1 (range71 (w0 := w0) (f := f) HC.out.1 HC.out.2 n1 n2 rfl HST.out ?_ ?_ ?_)
  · intro l v W K hK
    simp only [List.setIfInBounds_toArray, List.set_cons_succ, List.set_cons_zero] at hK ⊢
    gi_wp2
    exact hK
  · intro l k W hk h
    have HK : Hid (k + 1 ≤ 262144) := Lib.hid (by have := HN.out; omega)
    have HPD : Hid (CutAt w0 W.drew po (po + 1) (po + 1 + 1) b off n cap f k k) := Lib.hid (h.grow ((Below.refl _ W).drew))
    have HSD : Hid (Stays W W.drew) := Lib.hid (fun _ _ h _ => h)
    have HW8 := Lib.hid (wordsL_8 f k)
    have h8 : Eight W.drew b (off + 8 * k) (fun r => f (k * 8 + r)) := fun r hr => by
      have := HD.out (8 * k + r) (by omega)
      show W.drew.cell? ⟨b, off + 8 * k + r, none⟩ = some (.int .u64 (f (k * 8 + r)))
      rw [show off + 8 * k + r = off + (8 * k + r) by omega, show k * 8 + r = 8 * k + r by omega]
      exact (HPD.out.below.cell (p := ⟨b, off + (8 * k + r), none⟩) (HB.out (by omega))).trans this
    obtain ⟨c0, c1, c2, c3, c4, c5, c6, c7⟩ := h8.cells
    rw [Nat.add_zero] at c0
    clear h h8 hk
    refine wpIn_block (region_in (by kernel_rfl) ?_ ?_ ?_)
    · intro i o ho cc hc
      have hi : i < 7 := (Array.getElem?_eq_some_iff.1 ho).1
      rcases i with _ | _ | _ | _ | _ | _ | _ | i <;> first | (cases ho; cases hc) | omega
    · rintro ⟨a, w, h⟩; exact h
    simp only [List.setIfInBounds_toArray, List.set_cons_succ, List.set_cons_zero]
    generalize W.drew = Wd at *
    obtain ⟨vo, hvo, hown, u1, u2, u3⟩ := HPD.out.out
    obtain ⟨oa, om, oc, rfl⟩ := own_slice hown
    have co := hvo
    have fo := HPD.out.fpo
    have HO := Lib.hid hown
    have HPO : Hid (some po ≠ (Value.slice oa om oc).ownBlock) := Lib.hid (Ne.symm u1)
    have p1 : po ≠ Wd.heap.size := by have := HPD.out.h1.2; omega
    have p2 : Wd.heap.size ≠ po := Ne.symm p1
    have p3 : po < Wd.heap.size := HPD.out.h1.2
    clear hvo hown u1 u2 u3
    generalize off + 8 * k = o at *
    generalize f (k * 8) = v0 at *
    generalize f (k * 8 + 1) = v1 at *
    generalize f (k * 8 + 2) = v2 at *
    generalize f (k * 8 + 3) = v3 at *
    generalize f (k * 8 + 4) = v4 at *
    generalize f (k * 8 + 5) = v5 at *
    generalize f (k * 8 + 6) = v6 at *
    generalize f (k * 8 + 7) = v7 at *
    refine wpAny_take (i := 1) (v := .slice (some ⟨b, o, none⟩) 8 8) rfl (by kernel_rfl) (by kernel_rfl) (by kernel_rfl) (fun _ _ _ h => h) (Or.inl ⟨by rfl, by intro w; go_simp; try with_reducible rfl⟩) ?_
    refine wpAny_ready (rs := [0, 2]) (by kernel_rfl) (by simp) (AllReady.cons rfl (fun K hK => ?_) (AllReady.cons rfl (fun K hK => ?_) AllReady.nil))
    · skip
      go_simp
      refine hK _ _ ?_
      clear hK
      refine wpAny_ready (rs := [2]) (by kernel_rfl) (by simp) (AllReady.cons rfl (fun K hK => ?_) AllReady.nil)
      go_simp
      refine hK _ _ ?_
      clear hK
      refine wpAny_ready (rs := [3]) (by kernel_rfl) (by simp) (AllReady.cons rfl (fun K hK => ?_) AllReady.nil)
      go_simp
      refine hK _ _ ?_
      clear hK
      refine wpAny_ready (rs := [4]) (by kernel_rfl) (by simp) (AllReady.cons rfl (fun K hK => ?_) AllReady.nil)
      refine step_line rfl 19 rfl v0 v1 v2 v3 v4 v5 v6 v7 rfl ?_
      refine hK _ _ ?_
      clear hK
      refine wpAny_ready (rs := [5]) (by kernel_rfl) (by simp) (AllReady.cons rfl (fun K hK => ?_) AllReady.nil)
      have HBW : Hid (Below Wd.heap.size Wd (Wd.alloc (.cells #[.int .u64 v0, .int .u64 v1, .int .u64 v2, .int .u64 v3, .int .u64 v4, .int .u64 v5, .int .u64 v6, .int .u64 v7] 142))) := Lib.hid ((Below.refl _ _).alloc (Nat.le_refl _) _)
      refine step_append_at rfl (.tmp 16) (.tmp 20) 146 rfl w0.heap.size 142 i102 _ 8 64 Tryz.underlying146 hi hz0 hz1 hz2 rfl (by decide) (.slice oa om oc) k _ rfl (HO.out.alloc _) ⟨Wd.heap.size, 0, none⟩ 1 1 [.int .u64 v0, .int .u64 v1, .int .u64 v2, .int .u64 v3, .int .u64 v4, .int .u64 v5, .int .u64 v6, .int .u64 v7] rfl rfl (fun j u hj => cell_alloc Wd _ _ j u hj) (by simp [Value.oneCell']) (by have := HK.out; unfold maxLen; omega) (by have := HK.out; omega) (by have := HPD.out.below.size; simp; omega) ?_
      intro v' w4 ho4 hg4 hb4
      obtain ⟨na, nm, nc, rfl⟩ := own_slice ho4
      have HO4 := Lib.hid ho4
      have HG4 := Lib.hid hg4
      have HB4 := Lib.hid hb4
      have hk4 : w4.heap[po]? = Wd.heap[po]? := (hg4.block po (by have := HPD.out.h1.2; simp; omega) HPO.out).trans (Below.heap_alloc _ _ _ HPD.out.h1.2)
      have co4 : w4.cell? ⟨po, 0, none⟩ = some (.slice oa om oc) := by rw [cell_of_heap hk4]; exact co
      have fo4 : w4.frozen? ⟨po, 0, none⟩ = false := by rw [frozen_of_heap hk4]; exact fo
      clear ho4 hg4 hb4 hk4
      refine hK _ _ ?_
      clear hK
      refine wpAny_ready (rs := [6]) (by kernel_rfl) (by simp) (AllReady.cons rfl (fun K hK => ?_) AllReady.nil)
      go_simp
      refine hK _ _ ?_
      clear hK
      refine wpAny_done (by kernel_rfl) ?_ _
      have hfin := HPD.out.add n1 n2 n3 co HBW.out (by rw [HW8.out]; exact HO4.out) HG4.out HB4.out
      exact ⟨hfin.1, HSD.out.trans hfin.2⟩
    · skip
      go_simp
      refine hK _ _ ?_
      clear hK
      refine wpAny_ready (rs := [0, 3]) (by kernel_rfl) (by simp) (AllReady.cons rfl (fun K hK => ?_) (AllReady.cons rfl (fun K hK => ?_) AllReady.nil))
      · skip
        go_simp
        refine hK _ _ ?_
        clear hK
        refine wpAny_ready (rs := [3]) (by kernel_rfl) (by simp) (AllReady.cons rfl (fun K hK => ?_) AllReady.nil)
        go_simp
        refine hK _ _ ?_
        clear hK
        refine wpAny_ready (rs := [4]) (by kernel_rfl) (by simp) (AllReady.cons rfl (fun K hK => ?_) AllReady.nil)
        refine step_line rfl 19 rfl v0 v1 v2 v3 v4 v5 v6 v7 rfl ?_
        refine hK _ _ ?_
        clear hK
        refine wpAny_ready (rs := [5]) (by kernel_rfl) (by simp) (AllReady.cons rfl (fun K hK => ?_) AllReady.nil)
        have HBW : Hid (Below Wd.heap.size Wd (Wd.alloc (.cells #[.int .u64 v0, .int .u64 v1, .int .u64 v2, .int .u64 v3, .int .u64 v4, .int .u64 v5, .int .u64 v6, .int .u64 v7] 142))) := Lib.hid ((Below.refl _ _).alloc (Nat.le_refl _) _)
        refine step_append_at rfl (.tmp 16) (.tmp 20) 146 rfl w0.heap.size 142 i102 _ 8 64 Tryz.underlying146 hi hz0 hz1 hz2 rfl (by decide) (.slice oa om oc) k _ rfl (HO.out.alloc _) ⟨Wd.heap.size, 0, none⟩ 1 1 [.int .u64 v0, .int .u64 v1, .int .u64 v2, .int .u64 v3, .int .u64 v4, .int .u64 v5, .int .u64 v6, .int .u64 v7] rfl rfl (fun j u hj => cell_alloc Wd _ _ j u hj) (by simp [Value.oneCell']) (by have := HK.out; unfold maxLen; omega) (by have := HK.out; omega) (by have := HPD.out.below.size; simp; omega) ?_
        intro v' w4 ho4 hg4 hb4
        obtain ⟨na, nm, nc, rfl⟩ := own_slice ho4
        have HO4 := Lib.hid ho4
        have HG4 := Lib.hid hg4
        have HB4 := Lib.hid hb4
        have hk4 : w4.heap[po]? = Wd.heap[po]? := (hg4.block po (by have := HPD.out.h1.2; simp; omega) HPO.out).trans (Below.heap_alloc _ _ _ HPD.out.h1.2)
        have co4 : w4.cell? ⟨po, 0, none⟩ = some (.slice oa om oc) := by rw [cell_of_heap hk4]; exact co
        have fo4 : w4.frozen? ⟨po, 0, none⟩ = false := by rw [frozen_of_heap hk4]; exact fo
        clear ho4 hg4 hb4 hk4
        refine hK _ _ ?_
        clear hK
        refine wpAny_ready (rs := [6]) (by kernel_rfl) (by simp) (AllReady.cons rfl (fun K hK => ?_) AllReady.nil)
        go_simp
        refine hK _ _ ?_
        clear hK
        refine wpAny_done (by kernel_rfl) ?_ _
        have hfin := HPD.out.add n1 n2 n3 co HBW.out (by rw [HW8.out]; exact HO4.out) HG4.out HB4.out
        exact ⟨hfin.1, HSD.out.trans hfin.2⟩
      · skip
        go_simp
        refine hK _ _ ?_
        clear hK
        refine wpAny_ready (rs := [0, 4]) (by kernel_rfl) (by simp) (AllReady.cons rfl (fun K hK => ?_) (AllReady.cons rfl (fun K hK => ?_) AllReady.nil))
        · skip
          go_simp
          refine hK _ _ ?_
          clear hK
          refine wpAny_ready (rs := [4]) (by kernel_rfl) (by simp) (AllReady.cons rfl (fun K hK => ?_) AllReady.nil)
          refine step_line rfl 19 rfl v0 v1 v2 v3 v4 v5 v6 v7 rfl ?_
          refine hK _ _ ?_
          clear hK
          refine wpAny_ready (rs := [5]) (by kernel_rfl) (by simp) (AllReady.cons rfl (fun K hK => ?_) AllReady.nil)
          have HBW : Hid (Below Wd.heap.size Wd (Wd.alloc (.cells #[.int .u64 v0, .int .u64 v1, .int .u64 v2, .int .u64 v3, .int .u64 v4, .int .u64 v5, .int .u64 v6, .int .u64 v7] 142))) := Lib.hid ((Below.refl _ _).alloc (Nat.le_refl _) _)
          refine step_append_at rfl (.tmp 16) (.tmp 20) 146 rfl w0.heap.size 142 i102 _ 8 64 Tryz.underlying146 hi hz0 hz1 hz2 rfl (by decide) (.slice oa om oc) k _ rfl (HO.out.alloc _) ⟨Wd.heap.size, 0, none⟩ 1 1 [.int .u64 v0, .int .u64 v1, .int .u64 v2, .int .u64 v3, .int .u64 v4, .int .u64 v5, .int .u64 v6, .int .u64 v7] rfl rfl (fun j u hj => cell_alloc Wd _ _ j u hj) (by simp [Value.oneCell']) (by have := HK.out; unfold maxLen; omega) (by have := HK.out; omega) (by have := HPD.out.below.size; simp; omega) ?_
          intro v' w4 ho4 hg4 hb4
          obtain ⟨na, nm, nc, rfl⟩ := own_slice ho4
          have HO4 := Lib.hid ho4
          have HG4 := Lib.hid hg4
          have HB4 := Lib.hid hb4
          have hk4 : w4.heap[po]? = Wd.heap[po]? := (hg4.block po (by have := HPD.out.h1.2; simp; omega) HPO.out).trans (Below.heap_alloc _ _ _ HPD.out.h1.2)
          have co4 : w4.cell? ⟨po, 0, none⟩ = some (.slice oa om oc) := by rw [cell_of_heap hk4]; exact co
          have fo4 : w4.frozen? ⟨po, 0, none⟩ = false := by rw [frozen_of_heap hk4]; exact fo
          clear ho4 hg4 hb4 hk4
          refine hK _ _ ?_
          clear hK
          refine wpAny_ready (rs := [6]) (by kernel_rfl) (by simp) (AllReady.cons rfl (fun K hK => ?_) AllReady.nil)
          go_simp
          refine hK _ _ ?_
          clear hK
          refine wpAny_done (by kernel_rfl) ?_ _
          have hfin := HPD.out.add n1 n2 n3 co HBW.out (by rw [HW8.out]; exact HO4.out) HG4.out HB4.out
          exact ⟨hfin.1, HSD.out.trans hfin.2⟩
        · skip
          refine step_line rfl 19 rfl v0 v1 v2 v3 v4 v5 v6 v7 rfl ?_
          refine hK _ _ ?_
          clear hK
          refine wpAny_ready (rs := [0]) (by kernel_rfl) (by simp) (AllReady.cons rfl (fun K hK => ?_) AllReady.nil)
          go_simp
          refine hK _ _ ?_
          clear hK
          refine wpAny_ready (rs := [5]) (by kernel_rfl) (by simp) (AllReady.cons rfl (fun K hK => ?_) AllReady.nil)
          have HBW : Hid (Below Wd.heap.size Wd (Wd.alloc (.cells #[.int .u64 v0, .int .u64 v1, .int .u64 v2, .int .u64 v3, .int .u64 v4, .int .u64 v5, .int .u64 v6, .int .u64 v7] 142))) := Lib.hid ((Below.refl _ _).alloc (Nat.le_refl _) _)
          refine step_append_at rfl (.tmp 16) (.tmp 20) 146 rfl w0.heap.size 142 i102 _ 8 64 Tryz.underlying146 hi hz0 hz1 hz2 rfl (by decide) (.slice oa om oc) k _ rfl (HO.out.alloc _) ⟨Wd.heap.size, 0, none⟩ 1 1 [.int .u64 v0, .int .u64 v1, .int .u64 v2, .int .u64 v3, .int .u64 v4, .int .u64 v5, .int .u64 v6, .int .u64 v7] rfl rfl (fun j u hj => cell_alloc Wd _ _ j u hj) (by simp [Value.oneCell']) (by have := HK.out; unfold maxLen; omega) (by have := HK.out; omega) (by have := HPD.out.below.size; simp; omega) ?_
          intro v' w4 ho4 hg4 hb4
          obtain ⟨na, nm, nc, rfl⟩ := own_slice ho4
          have HO4 := Lib.hid ho4
          have HG4 := Lib.hid hg4
          have HB4 := Lib.hid hb4
          have hk4 : w4.heap[po]? = Wd.heap[po]? := (hg4.block po (by have := HPD.out.h1.2; simp; omega) HPO.out).trans (Below.heap_alloc _ _ _ HPD.out.h1.2)
          have co4 : w4.cell? ⟨po, 0, none⟩ = some (.slice oa om oc) := by rw [cell_of_heap hk4]; exact co
          have fo4 : w4.frozen? ⟨po, 0, none⟩ = false := by rw [frozen_of_heap hk4]; exact fo
          clear ho4 hg4 hb4 hk4
          refine hK _ _ ?_
          clear hK
          refine wpAny_ready (rs := [6]) (by kernel_rfl) (by simp) (AllReady.cons rfl (fun K hK => ?_) AllReady.nil)
          go_simp
          refine hK _ _ ?_
          clear hK
          refine wpAny_done (by kernel_rfl) ?_ _
          have hfin := HPD.out.add n1 n2 n3 co HBW.out (by rw [HW8.out]; exact HO4.out) HG4.out HB4.out
          exact ⟨hfin.1, HSD.out.trans hfin.2⟩
  · intro D W hD h hK
    dsimp only
    obtain ⟨vo, hvo, hown, u1, u2, u3⟩ := h.out
    obtain ⟨oa, om, oc, rfl⟩ := own_slice hown
    have HH := Lib.hid h
    have HO := Lib.hid hown
    have HKK := Lib.hid hK
    clear h hown hK u1 u2 u3
    go_wp2_with fail
    show LeavesInM Fence.wide 9 Tryz.prog Tryz.f77 _ (CutTo f n w0) [{ target := .collected D, args := #[] }] .returning W
    unfold LeavesInM
    refine ⟨by simp, .inl ⟨_, _, rfl, run_takeDeferred HKK.out, ?_⟩⟩
    exact ⟨_, results_tmp2 rfl _ _ _, _, rfl, (HH.out.put HKK.out rfl hD _).below, ownsRow_putObj HO.out _ HKK.out rfl⟩
end Go.Proofs.YtkdcfijebgeajaaGreat

namespace Go.Proofs.YtkdcfijebgeajaaGreat
open Go.RowKit Go.BigFrame
set_option linter.unusedVariables false
set_option linter.unusedSimpArgs false
/-- A copy of lines. -/
def CloneTo (xs : List Value) (n : Nat) (W : World) (e : Ending) (W' : World) : Prop := ∃ v, e = .returned v ∧ Below W.heap.size W W' ∧ W'.ownsRow W.heap.size 142 8 v n xs
set_option maxRecDepth 100000 in
theorem clone51 (g n cap : Nat) (c : Array Value) (hn : 0 < n) (h1 : n ≤ 262144) (xs : List Value) (W : World) (hg : W.heap[g]? = some (.cells c 142 (0, 0))) (hxs : xs.length = n * 8) (hc : ∀ j, j < n * 8 → c[j]? = xs[j]?) (h1c : ∀ u ∈ xs, u.oneCell' = true) :
    Calls Tryz.prog 168 #[.slice (some ⟨g, 0, none⟩) n cap] W (CloneTo xs n W) := by
  obtain ⟨i102, hi, hz0, hz1, hz2⟩ := info_parts info102
  have HG := Lib.hid hg
  have HC := Lib.hid hc
  have HX := Lib.hid hxs
  have H1 := Lib.hid h1c
  clear hg hc hxs h1c
  obtain ⟨B, hB⟩ : ∃ B, B = W.heap.size := ⟨_, rfl⟩
  unfold CloneTo
  rw [← hB]
  have HB := Lib.hid hB
  clear hB
  have hnil := fun w : World => Lib.run_eql_slice_nil (P := Tryz.prog) w 146 142 (some ⟨g, 0, none⟩) n cap 0 0 Tryz.underlying146
  go_enter Tryz.func168, Tryz.ntmps168
  have hgl : g < W.heap.size := (Array.getElem?_eq_some_iff.1 HG.out).1
  go_wp2_with (at_builtin; refine wpList_append_own _ rfl (.tmp 5) (.tmp 6) 146 rfl B 142 i102 _ 8 64 Tryz.underlying146 hi hz0 hz1 hz2 rfl (by decide) (.slice (some ⟨W.heap.size, 0, none⟩) 0 0) 0 [] rfl (World.ownsRow_made W #[] 0 (by have := HB.out; omega) (by unfold maxLen; omega) rfl) ⟨g, 0, none⟩ n cap xs rfl HX.out (fun j u hj => by rw [Addr.add_lit, Nat.zero_add, cell_in ((Below.heap_alloc W _ g hgl).trans HG.out), HC.out j (by rw [← HX.out]; exact (List.getElem?_eq_some_iff.1 hj).1)]; exact hj) H1.out (by unfold maxLen; omega) (by omega) (by have := HB.out; simp; omega) ?_; intro v' w' hown hgr hne; have HO' := Lib.hid hown; have HG' := Lib.hid hgr; clear hown hgr hne)
  go_wp2_with fail
  go_ret
  refine ⟨_, rfl, ?_, ?_⟩
  · exact ((Below.refl _ _).alloc (by have := HB.out; omega) _).grown HG'.out (by have := HB.out; rw [World.size_alloc]; omega) (fun q e => by cases e; show B ≤ W.heap.size; have := HB.out; omega)
  · have := HO'.out
    rw [Nat.zero_add, List.nil_append] at this
    exact this
theorem mk_row (t e : TypeId) (z v : Value) (by_ : Nat) (ht : Tryz.prog.underlying t = some (.slice e)) (hi : (Tryz.prog.info? e).map (fun i => (i.zero, i.size, i.bytes)) = some (some z, 1, by_)) (hz : z.cells = #[v]) (n : Nat) (hb : by_ * n ≤ 281474976710656) (h63 : n ≤ 9223372036854775807) (w : World) :
    (Instr.makeSlice t (.int .i64 n) (.int .i64 n)).run Tryz.prog w = .ok (.slice (some ⟨w.heap.size, 0, none⟩) n n) (w.alloc (.cells (madeCells #[v] n) e)) := by
  obtain ⟨i, h1, h2, h3, h4⟩ := info_parts hi
  have hb' : (i.bytes : Int) * (n : Int) ≤ 281474976710656 := by
    have h : ((by_ * n : Nat) : Int) ≤ 281474976710656 := by omega
    rw [Int.natCast_mul] at h; rw [h4]; exact h
  have := run_make (P := Tryz.prog) w t e i z ht h1 h2 .i64 .i64 n n (by omega) (Int.le_refl _) hb' (by omega)
  rw [this, h3, hz]
  rw [Int.toNat_natCast, Nat.mul_one]
theorem made_get (v : Value) (n j : Nat) (hj : j < n) : (madeCells #[v] n)[j]? = some v := by
  rw [← Array.getElem?_toList, toList_madeCells_one]; simp [hj]
theorem info3 : (Tryz.prog.info? 3).map (fun i => (i.zero, i.size, i.bytes)) = some (some (.int .i64 0), 1, 8) := by kernel_rfl
theorem info123 : (Tryz.prog.info? 315).map (fun i => (i.zero, i.size, i.bytes)) = some (some (.agg #[.slice none 0 0]), 1, 24) := by kernel_rfl
/-- A device made: its blocks. -/
structure DevAt (W : World) (B d kb sb wb fb n nt c0 c1 : Nat) (f : Nat → Int) : Prop where
  dev : W.heap[d]? = some (.cells #[.slice (some ⟨kb, 0, none⟩) n c0, .slice (some ⟨sb, 0, none⟩) n c1, .slice (some ⟨wb, 0, none⟩) n n, .slice (some ⟨fb, 0, none⟩) nt nt] 160 (0, 0))
  rk : RowAt W kb (8 * n) fun k => .int .u64 (f k)
  rs : RowAt W sb (8 * n) fun k => .int .u64 (f k)
  rw : RowAt W wb n fun _ => .int .i64 0
  rf : RowAt W fb nt fun _ => .slice none 0 0
  apart : [d, kb, sb, wb, fb].Nodup
  base : B ≤ d ∧ B ≤ kb ∧ B ≤ sb ∧ B ≤ wb ∧ B ≤ fb
def MadeTo (B kb n cap nt : Nat) (f : Nat → Int) (W : World) (e : Ending) (W' : World) : Prop := ∃ d sb wb fb c1, e = .returned (.pointer (some ⟨d, 0, none⟩)) ∧ Below W.heap.size W W' ∧ DevAt W' B d kb sb wb fb n nt cap c1 f
theorem row_of_words {w : World} {X n g cap : Nat} {f : Nat → Int} (h : w.ownsRow X 142 8 (.slice (some ⟨g, 0, none⟩) n cap) n (wordsL f (8 * n))) (hn : 0 < n) : RowAt w g (8 * n) fun k => .int .u64 (f k) := by
  obtain ⟨g', cap', c, e1, hb, hg, hc1, hcs, hcc⟩ := own_row h hn
  cases e1
  exact ⟨c, _, hg, fun k hk => by rw [hcc k (by omega)]; exact wordsL_get f _ k hk⟩
theorem dev_made {B kb n cap nt : Nat} {f : Nat → Int} {W wf : World} (hn : 0 < n) (hW : W.ownsRow B 142 8 (.slice (some ⟨kb, 0, none⟩) n cap) n (wordsL f (8 * n))) {d sb wb fb c1 X : Nat} (hb : Below W.heap.size W wf)
    (h0 : wf.heap[d]? = some (.cells #[.slice (some ⟨kb, 0, none⟩) n cap, .slice (some ⟨sb, 0, none⟩) n c1, .slice (some ⟨wb, 0, none⟩) n n, .slice (some ⟨fb, 0, none⟩) nt nt] 160 (0, 0)))
    (h1 : wf.heap[wb]? = some (.cells (madeCells #[.int .i64 0] n) 3 (0, 0))) (h2 : wf.heap[fb]? = some (.cells (madeCells #[.slice none 0 0] nt) 315 (0, 0)))
    (h3 : wf.ownsRow X 142 8 (.slice (some ⟨sb, 0, none⟩) n c1) n (wordsL f (8 * n))) (hx : W.heap.size ≤ X ∧ W.heap.size ≤ d ∧ W.heap.size ≤ wb ∧ W.heap.size ≤ fb)
    (ne : d ≠ wb ∧ d ≠ fb ∧ wb ≠ fb ∧ sb ≠ d ∧ sb ≠ wb ∧ sb ≠ fb) : MadeTo B kb n cap nt f W (.returned (.pointer (some ⟨d, 0, none⟩))) wf := by
  obtain ⟨k1, k2⟩ := own_lt hW (k := kb) rfl
  obtain ⟨s1, s2⟩ := own_lt h3 (k := sb) rfl
  refine ⟨d, sb, wb, fb, c1, rfl, hb, h0, (row_of_words hW hn).keep (hb.block _ k2), row_of_words h3 hn, ⟨_, _, h1, fun k hk => made_get _ _ _ hk⟩, ⟨_, _, h2, fun k hk => made_get _ _ _ hk⟩, ?_, by omega⟩
  simp only [List.nodup_cons, List.mem_cons, List.not_mem_nil, or_false, not_or, List.nodup_nil, and_true, not_false_eq_true]
  omega
theorem new1 (w : World) (a b c : Obj) : (((w.alloc a).alloc b).alloc c).heap[w.heap.size]? = some a ∧ (((w.alloc a).alloc b).alloc c).heap[w.heap.size + 1]? = some b ∧ (((w.alloc a).alloc b).alloc c).heap[w.heap.size + 1 + 1]? = some c := by
  refine ⟨?_, ?_, ?_⟩
  · rw [Below.heap_alloc _ _ _ (by simp; omega)]; exact (two_new w a b).1
  · rw [Below.heap_alloc _ _ _ (by simp)]; exact (two_new w a b).2
  · have := heap_alloc_new ((w.alloc a).alloc b) c; simpa using this
set_option maxRecDepth 100000 in
set_option maxHeartbeats 2000000 in
theorem made36 (B kb n cap nt : Nat) (hn : 0 < n) (h1 : n ≤ 262144) (ht : nt ≤ 64) (f : Nat → Int) (W : World) (h : W.ownsRow B 142 8 (.slice (some ⟨kb, 0, none⟩) n cap) n (wordsL f (8 * n))) :
    Calls Tryz.prog 107 #[.slice (some ⟨kb, 0, none⟩) n cap, .int .i64 nt] W (MadeTo B kb n cap nt f W) := by
  have i0 : (0 : Int) ≤ (n : Int) := by omega
  have i1 : (0 : Int) ≤ (nt : Int) := by omega
  have HCL : Hid (∀ w, Below W.heap.size W w → Calls Tryz.prog 168 #[.slice (some ⟨kb, 0, none⟩) n cap] w (CloneTo (wordsL f (8 * n)) n w)) := Lib.hid fun w hw => by
    obtain ⟨g, cap', c, e1, hb, hg, hc1, hcs, hcc⟩ := own_row h hn
    cases e1
    refine clone51 _ n _ c hn h1 _ w ((hw.block _ (Array.getElem?_eq_some_iff.1 hg).1).trans hg) (by rw [wordsL_len]; omega) hcc (fun u hu => ?_)
    unfold wordsL at hu
    obtain ⟨q, _, rfl⟩ := List.mem_map.1 hu
    rfl
  have HH := Lib.hid h
  clear h
  have mk1 := mk_row 135 3 _ _ 8 Tryz.underlying135 info3 rfl n (by omega) (by omega)
  have mk2 := mk_row 158 315 _ _ 24 Tryz.underlying158 info123 rfl nt (by omega) (by omega)
  go_enter Tryz.func107, Tryz.ntmps107
  go_wp2_with fail
  go_region_with (go_at_call 168; refine (HCL.out _ (by first | exact (Below.refl _ _).drew | exact ((Below.refl _ _).alloc (Nat.le_refl _) _).drew | exact (((Below.refl _ _).alloc (Nat.le_refl _) _).alloc (by simp) _).drew | exact (Below.refl _ _).drew.alloc (by simp) _ | exact ((Below.refl _ _).drew.alloc (by simp) _).alloc (by simp) _)).mono ?_; rintro e w1 ⟨v, rfl, hb, ho⟩; obtain ⟨sb, c1, cc, rfl, hq⟩ := own_row ho hn; have HB1 := Lib.hid hb; have HO1 := Lib.hid ho; clear hb ho hq)
  all_goals
    go_wp2_with fail
    go_ret
  all_goals (have s1 := (own_lt HO1.out rfl).1; have s2 := (own_lt HO1.out rfl).2; have z1 := HB1.out.size)
  · obtain ⟨a, b, c⟩ := new1 w1 (.cells (madeCells #[.int .i64 0] n) 3) (.cells (madeCells #[.slice none 0 0] nt) 315) (.cells #[.slice (some ⟨kb, 0, none⟩) n cap, .slice (some ⟨sb, 0, none⟩) n c1, .slice (some ⟨w1.heap.size, 0, none⟩) n n, .slice (some ⟨w1.heap.size + 1, 0, none⟩) nt nt] 160)
    refine dev_made hn HH.out ?_ c a b (((HO1.out.alloc _).alloc _).alloc _) ?_ ?_
    · exact ((((Below.refl _ _).drew.trans HB1.out).alloc z1 _).alloc (by simp at z1 ⊢; omega) _).alloc (by simp at z1 ⊢; omega) _
    all_goals (simp at z1 s1 s2 ⊢; omega)
  · obtain ⟨a, b, c⟩ := new1 w1 (.cells (madeCells #[.slice none 0 0] nt) 315) (.cells (madeCells #[.int .i64 0] n) 3) (.cells #[.slice (some ⟨kb, 0, none⟩) n cap, .slice (some ⟨sb, 0, none⟩) n c1, .slice (some ⟨w1.heap.size + 1, 0, none⟩) n n, .slice (some ⟨w1.heap.size, 0, none⟩) nt nt] 160)
    refine dev_made hn HH.out ?_ c b a (((HO1.out.alloc _).alloc _).alloc _) ?_ ?_
    · exact ((((Below.refl _ _).drew.trans HB1.out).alloc z1 _).alloc (by simp at z1 ⊢; omega) _).alloc (by simp at z1 ⊢; omega) _
    all_goals (simp at z1 s1 s2 ⊢; omega)
  · have e0 := (HB1.out.block W.heap.size (by simp)).trans (heap_alloc_new W _)
    have zz : W.heap.size + 1 ≤ w1.heap.size := by have := z1; simp at this; omega
    refine dev_made hn HH.out ?_ (two_new w1 _ _).2 ((Below.heap_alloc _ _ _ (by simp; omega)).trans ((Below.heap_alloc w1 _ W.heap.size (by omega)).trans e0)) (two_new w1 _ _).1 ((HO1.out.alloc _).alloc _) ?_ ?_
    · exact (((((Below.refl _ _).alloc (Nat.le_refl _) _).drew.trans (HB1.out.mono (by simp))).alloc (by omega) _).alloc (by simp; omega) _)
    all_goals (simp at z1 s1 s2 ⊢; omega)
  · have e0 := (HB1.out.block W.heap.size (by simp; omega)).trans (two_new W _ _).1
    have e1 := (HB1.out.block (W.heap.size + 1) (by simp)).trans (two_new W _ _).2
    have zz : W.heap.size + 1 + 1 ≤ w1.heap.size := by have := z1; simp at this; omega
    refine dev_made hn HH.out ?_ (heap_alloc_new w1 _) ((Below.heap_alloc w1 _ W.heap.size (by omega)).trans e0) ((Below.heap_alloc w1 _ (W.heap.size + 1) (by omega)).trans e1) (HO1.out.alloc _) ?_ ?_
    · exact ((((Below.refl _ _).alloc (Nat.le_refl _) _).alloc (by simp) _).drew.trans (HB1.out.mono (by simp; omega))).alloc (by omega) _
    all_goals (simp at z1 s1 s2 ⊢; omega)
  · have e0 := (HB1.out.block W.heap.size (by simp)).trans (heap_alloc_new W _)
    have zz : W.heap.size + 1 ≤ w1.heap.size := by have := z1; simp at this; omega
    refine dev_made hn HH.out ?_ (two_new w1 _ _).2 (two_new w1 _ _).1 ((Below.heap_alloc _ _ _ (by simp; omega)).trans ((Below.heap_alloc w1 _ W.heap.size (by omega)).trans e0)) ((HO1.out.alloc _).alloc _) ?_ ?_
    · exact (((((Below.refl _ _).alloc (Nat.le_refl _) _).drew.trans (HB1.out.mono (by simp))).alloc (by omega) _).alloc (by simp; omega) _)
    all_goals (simp at z1 s1 s2 ⊢; omega)
  · have e0 := (HB1.out.block W.heap.size (by simp; omega)).trans (two_new W _ _).1
    have e1 := (HB1.out.block (W.heap.size + 1) (by simp)).trans (two_new W _ _).2
    have zz : W.heap.size + 1 + 1 ≤ w1.heap.size := by have := z1; simp at this; omega
    refine dev_made hn HH.out ?_ (heap_alloc_new w1 _) ((Below.heap_alloc w1 _ (W.heap.size + 1) (by omega)).trans e1) ((Below.heap_alloc w1 _ W.heap.size (by omega)).trans e0) (HO1.out.alloc _) ?_ ?_
    · exact ((((Below.refl _ _).alloc (Nat.le_refl _) _).alloc (by simp) _).drew.trans (HB1.out.mono (by simp; omega))).alloc (by omega) _
    all_goals (simp at z1 s1 s2 ⊢; omega)
end Go.Proofs.YtkdcfijebgeajaaGreat

namespace Go.Proofs.YtkdcfijebgeajaaGreat
open Go.RowKit Go.BigFrame
set_option linter.unusedVariables false
set_option linter.unusedSimpArgs false
/-- Why words are no device. -/
def mayOpenE (n : Nat) (t : Int) : Int := if ¬ (1 ≤ t ∧ t ≤ 64) then 1 else if wholeE n ≠ 0 then wholeE n else if n = 0 then 3 else 0
theorem mayOpen_ok {n : Nat} {t : Int} (h : mayOpenE n t = 0) : (1 ≤ t ∧ t ≤ 64) ∧ wholeE n = 0 ∧ 0 < n := by
  unfold mayOpenE at h
  by_cases h1 : 1 ≤ t ∧ t ≤ 64
  · rw [if_neg (by simpa using h1)] at h
    by_cases h2 : wholeE n = 0
    · rw [if_neg (by simpa using h2)] at h
      by_cases h3 : n = 0
      · rw [if_pos h3] at h; omega
      · exact ⟨h1, h2, by omega⟩
    · rw [if_pos h2] at h; exact absurd h h2
  · rw [if_pos h1] at h; omega
theorem wholeE_eq {n : Nat} (h : wholeE n = 0) : 8 * (n / 8) = n ∧ n / 8 ≤ 262144 := by
  unfold wholeE at h
  split at h
  · omega
  · split at h <;> omega
/-- A device opened of words, or why not. -/
def OpenTo (f : Nat → Int) (n : Nat) (t : Int) (W : World) (e : Ending) (W' : World) : Prop :=
  Below W.heap.size W W' ∧ (mayOpenE n t ≠ 0 ∧ e = .returned (.tuple #[.pointer none, .int .i64 (mayOpenE n t)]) ∨
    mayOpenE n t = 0 ∧ ∃ d kb sb wb fb c0 c1, e = .returned (.tuple #[.pointer (some ⟨d, 0, none⟩), .int .i64 0]) ∧ DevAt W' W.heap.size d kb sb wb fb (n / 8) t.toNat c0 c1 f)
theorem open18_err (a : Option Addr) (n cap : Nat) (hn : n ≤ 9223372036854775807) (t : Int) (f : Nat → Int) (w : World) (h1 : 1 ≤ t ∧ t ≤ 64) (h2 : wholeE n ≠ 0) :
    Calls Tryz.prog 51 #[.slice a n cap, .int .i64 t] w (OpenTo f n t w) := by
  have HT := Lib.hid (threads34 t w)
  rw [bool_yes h1] at HT
  have HC := Lib.hid (cut35_no a n cap hn h2 w)
  have HE : Hid (mayOpenE n t = wholeE n ∧ mayOpenE n t ≠ 0) := Lib.hid (by unfold mayOpenE; rw [if_neg (by simpa using h1), if_pos h2]; exact ⟨rfl, h2⟩)
  generalize wholeE n = e at *
  have e1 : (e != 0) = true := by simpa using h2
  clear h1 h2
  go_enter Tryz.func51, Tryz.ntmps51
  go_wp2_with fail
  refine HT.out.mono ?_
  rintro e w' ⟨rfl, hw⟩
  cases hw
  go_wp2_with fail
  with_reducible refine HC.out.mono ?_
  rintro e w1 ⟨rfl, hb, hh⟩
  have HB := Lib.hid hb
  clear hb hh
  go_wp2_with fail
  go_ret2
  exact ⟨HB.out, Or.inl ⟨HE.out.2, by rw [HE.out.1]; rfl⟩⟩
theorem open18_none (a : Option Addr) (cap : Nat) (hc : cap ≤ 9223372036854775807) (t : Int) (f : Nat → Int) (w : World) (h1 : 1 ≤ t ∧ t ≤ 64) :
    Calls Tryz.prog 51 #[.slice a 0 cap, .int .i64 t] w (OpenTo f 0 t w) := by
  have HT := Lib.hid (threads34 t w)
  rw [bool_yes h1] at HT
  have HC : Hid (Calls Tryz.prog 77 #[.slice a 0 cap] w (CutTo f 0 w)) := Lib.hid (cut35 a 0 0 0 cap (fun h => by omega) (by omega) hc rfl f w (fun h => by omega) (fun j hj => by omega))
  have HE : Hid (mayOpenE 0 t = 3) := Lib.hid (by unfold mayOpenE; rw [if_neg (by simpa using h1)]; rfl)
  clear h1
  go_enter Tryz.func51, Tryz.ntmps51
  go_wp2_with fail
  refine HT.out.mono ?_
  rintro e w' ⟨rfl, hw⟩
  cases hw
  go_wp2_with fail
  with_reducible refine HC.out.mono ?_
  rintro e w1 ⟨v, rfl, hb, ho⟩
  obtain ⟨va, vc, rfl⟩ := own_slice_n ho
  have HB := Lib.hid hb
  clear hb ho
  go_wp2_with fail
  go_ret2
  exact ⟨HB.out, Or.inl ⟨by rw [HE.out]; omega, by rw [HE.out]; rfl⟩⟩
theorem open18_yes (a : Option Addr) (b off n cap : Nat) (ha : 0 < n → a = some ⟨b, off, none⟩) (hn : n ≤ cap) (hc : cap ≤ 9223372036854775807) (t : Int) (f : Nat → Int) (w : World) (h0 : mayOpenE n t = 0) (hb : b < w.heap.size) (hw : ∀ j, j < n → w.cell? ⟨b, off + j, none⟩ = some (.int .u64 (f j))) :
    Calls Tryz.prog 51 #[.slice a n cap, .int .i64 t] w (OpenTo f n t w) := by
  obtain ⟨h1, h2, h3⟩ := mayOpen_ok h0
  obtain ⟨h4, h5⟩ := wholeE_eq h2
  have HT := Lib.hid (threads34 t w)
  rw [bool_yes h1] at HT
  have HC := Lib.hid (cut35 a b off n cap (fun _ => ha h3) hn hc h2 f w (fun _ => hb) hw)
  unfold CutTo at HC
  obtain ⟨m, hm⟩ : ∃ m, m = n / 8 := ⟨_, rfl⟩
  rw [← hm] at HC
  have HM : Hid (n / 8 = m) := Lib.hid hm.symm
  obtain ⟨k, rfl⟩ := Int.eq_ofNat_of_zero_le (show 0 ≤ t by omega)
  have HD : Hid (∀ g c w1, w1.ownsRow w.heap.size 142 8 (.slice (some ⟨g, 0, none⟩) m c) m (wordsL f (8 * m)) → Calls Tryz.prog 107 #[.slice (some ⟨g, 0, none⟩) m c, .int .i64 k] w1 (MadeTo w.heap.size g m c k f w1)) := Lib.hid fun g c w1 h => made36 w.heap.size g m c k (by omega) (by omega) (by omega) f w1 h
  have HE := Lib.hid h0
  have hm0 : 0 < m := by omega
  have m1 : ((m : Int) == 0) = false := by simp; omega
  have m2 : (m == 0) = false := by simp; omega
  have HS : Hid (8 * m = n) := Lib.hid (by omega)
  clear h0 h1 h2 h3 h4 h5 hw ha hn hc hm hb
  go_enter Tryz.func51, Tryz.ntmps51
  go_wp2_with fail
  refine HT.out.mono ?_
  rintro e w' ⟨rfl, hw⟩
  cases hw
  go_wp2_with fail
  with_reducible refine HC.out.mono ?_
  rintro e w1 ⟨v, rfl, hb, ho⟩
  obtain ⟨g, c, cc, rfl, -⟩ := own_row ho hm0
  have HB := Lib.hid hb
  have HDD := Lib.hid (HD.out g c w1 ho)
  clear hb ho HD
  go_wp2_with fail
  with_reducible refine HDD.out.mono ?_
  rintro e w2 ⟨d, sb, wb, fb, c1, rfl, hb2, hd⟩
  have HB2 := Lib.hid hb2
  have HDV := Lib.hid hd
  clear hb2 hd
  go_wp2_with fail
  go_ret2
  exact ⟨HB.out.trans (HB2.out.mono HB.out.size), Or.inr ⟨HE.out, d, g, sb, wb, fb, c, c1, rfl, by rw [HM.out]; exact HDV.out⟩⟩
theorem info42' : (Tryz.prog.info? 105).map (fun i => (i.zero, i.size, i.bytes)) = some (some (.int .u64 0), 1, 8) := by kernel_rfl
/-- A memory made. -/
def NewTo (d np : Nat) (W : World) (e : Ending) (W' : World) : Prop :=
  ∃ m pb, e = .returned (.tuple #[.pointer (some ⟨m, 0, none⟩), .int .i64 0]) ∧ Below W.heap.size W W' ∧ W.heap.size ≤ m ∧ W.heap.size ≤ pb ∧ m ≠ pb ∧
    MemRow W' m (.pointer (some ⟨d, 0, none⟩)) (.slice (some ⟨pb, 0, none⟩) np np) 0 0 ⟨0, 0, 0, 0, 0, false⟩ ∧ RowAt W' pb np fun _ => .int .u64 0
theorem new19_yes (d np : Nat) (hp : np ≤ 262144) (w : World) : Calls Tryz.prog 52 #[.pointer (some ⟨d, 0, none⟩), .int .i64 np] w (NewTo d np w) := by
  have mk1 := mk_row 24 105 _ _ 8 Tryz.underlying24 info42' rfl np (by omega) (by omega)
  have d0 : decide ((np : Int) < 0) = false := bool_no (by omega)
  have d1 : decide (262144 < (np : Int)) = false := bool_no (by omega)
  have i0 : (0 : Int) ≤ (np : Int) := by omega
  go_enter Tryz.func52, Tryz.ntmps52
  go_wp2_with fail
  go_ret2
  refine ⟨w.heap.size + 1, w.heap.size, rfl, ((Below.refl _ _).alloc (Nat.le_refl _) _).alloc (by simp) _, by omega, by omega, by omega, (two_new w _ _).2, ⟨_, _, (two_new w _ _).1, fun k hk => made_get _ _ _ hk⟩⟩
end Go.Proofs.YtkdcfijebgeajaaGreat

namespace Go.Proofs.YtkdcfijebgeajaaGreat
open Go.RowKit Go.BigFrame
set_option linter.unusedVariables false
set_option linter.unusedSimpArgs false
/-- The document's memory. -/
structure Rv where
  m : Nat
  d : Nat
  kb : Nat
  sb : Nat
  wb : Nat
  fb : Nat
  pb : Nat
  n : Nat
  nt : Nat
  np : Nat
  c0 : Nat
  c1 : Nat
  c2 : Nat
  c3 : Nat
  c4 : Nat
  fg : Nat → Nat
  fc : Nat → Nat
  kept : Nat → Int
  seen : Nat → Int
  pass : Nat → Int
  wr : Nat → Int
  fl : Nat → Nat → Bool
  ck : Int
  bd : Int
  la : Acc
  wm : Int
def Rv.blocks (M : Rv) : List Nat := [M.m, M.d, M.kb, M.sb, M.wb, M.fb, M.pb]
def Rv.own (M : Rv) (k : Nat) : Prop := k ∈ M.blocks ∨ ∃ t, t < M.nt ∧ M.fg t = k
structure RefAt (W : World) (M : Rv) : Prop where
  row : W.heap[M.m]? = some (.cells #[.pointer (some ⟨M.d, 0, none⟩), .slice (some ⟨M.pb, 0, none⟩) M.np M.c4, .int .i64 M.ck, .int .i64 M.bd, .int .i64 M.la.ki, .int .i64 M.la.th, .int .i64 M.la.pl, .int .u64 M.la.ol, .int .u64 M.la.ne, .bool M.la.dn] 191 (0, 0))
  dev : W.heap[M.d]? = some (.cells #[.slice (some ⟨M.kb, 0, none⟩) (8 * M.n) M.c0, .slice (some ⟨M.sb, 0, none⟩) (8 * M.n) M.c1, .slice (some ⟨M.wb, 0, none⟩) M.n M.c2, .slice (some ⟨M.fb, 0, none⟩) M.nt M.c3] 198 (0, 0))
  kept : RowAt W M.kb (8 * M.n) fun k => .int .u64 (M.kept k)
  seen : RowAt W M.sb (8 * M.n) fun k => .int .u64 (M.seen k)
  wr : RowAt W M.wb M.n fun k => .int .i64 (M.wr k)
  fb : RowAt W M.fb M.nt fun t => .slice (some ⟨M.fg t, 0, none⟩) M.n (M.fc t)
  pass : RowAt W M.pb M.np fun k => .int .u64 (M.pass k)
  fl : ∀ t, t < M.nt → RowAt W (M.fg t) M.n fun k => .bool (M.fl t k)
  apart : M.blocks.Nodup
  alone : ∀ t, t < M.nt → M.fg t ∉ M.blocks
  lone : ∀ t, t < M.nt → ∀ t', t' < M.nt → t ≠ t' → M.fg t ≠ M.fg t'
  n0 : 0 < M.n
  n1 : M.n ≤ 262144
  t1 : M.nt ≤ 64
  p1 : M.np ≤ 262144
  ck0 : 0 ≤ M.ck
  bd0 : 0 ≤ M.bd
  bd1 : M.bd ≤ M.ck
  wr0 : ∀ k, k < M.n → 0 ≤ M.wr k ∧ M.wr k ≤ M.wm
structure Rv.Ne (M : Rv) : Prop where
  md : M.m ≠ M.d
  mkb : M.m ≠ M.kb
  ms : M.m ≠ M.sb
  mw : M.m ≠ M.wb
  mf : M.m ≠ M.fb
  mp : M.m ≠ M.pb
  dk : M.d ≠ M.kb
  ds : M.d ≠ M.sb
  dw : M.d ≠ M.wb
  df : M.d ≠ M.fb
  dp : M.d ≠ M.pb
  ks : M.kb ≠ M.sb
  kw : M.kb ≠ M.wb
  kf : M.kb ≠ M.fb
  kp : M.kb ≠ M.pb
  sw : M.sb ≠ M.wb
  sf : M.sb ≠ M.fb
  sp : M.sb ≠ M.pb
  wf : M.wb ≠ M.fb
  wp : M.wb ≠ M.pb
  fp : M.fb ≠ M.pb
theorem RefAt.ne {W : World} {M : Rv} (h : RefAt W M) : M.Ne := by
  have := h.apart
  simp only [Rv.blocks, List.nodup_cons, List.mem_cons, List.not_mem_nil, or_false, not_or, List.nodup_nil, and_true, not_false_eq_true] at this
  obtain ⟨⟨a1, a2, a3, a4, a5, a6⟩, ⟨b1, b2, b3, b4, b5⟩, ⟨c1, c2, c3, c4⟩, ⟨d1, d2, d3⟩, ⟨e1, e2⟩, f1⟩ := this
  exact ⟨a1, a2, a3, a4, a5, a6, b1, b2, b3, b4, b5, c1, c2, c3, c4, d1, d2, d3, e1, e2, f1⟩
theorem RefAt.lt {W : World} {M : Rv} (h : RefAt W M) {k : Nat} (hk : M.own k) : k < W.heap.size := by
  rcases hk with hk | ⟨t, ht, e⟩
  · simp only [Rv.blocks, List.mem_cons, List.not_mem_nil, or_false] at hk
    rcases hk with rfl | rfl | rfl | rfl | rfl | rfl | rfl
    · exact (Array.getElem?_eq_some_iff.1 h.row).1
    · exact (Array.getElem?_eq_some_iff.1 h.dev).1
    · exact h.kept.lt
    · exact h.seen.lt
    · exact h.wr.lt
    · exact h.fb.lt
    · exact h.pass.lt
  · rw [← e]; exact (h.fl t ht).lt
theorem RefAt.keep {W W' : World} {M : Rv} (h : RefAt W M) (e : ∀ k, M.own k → W'.heap[k]? = W.heap[k]?) : RefAt W' M := by
  have o : ∀ k, k ∈ M.blocks → W'.heap[k]? = W.heap[k]? := fun k hk => e k (Or.inl hk)
  exact { h with
    row := (o _ (by simp [Rv.blocks])).trans h.row
    dev := (o _ (by simp [Rv.blocks])).trans h.dev
    kept := h.kept.keep (o _ (by simp [Rv.blocks]))
    seen := h.seen.keep (o _ (by simp [Rv.blocks]))
    wr := h.wr.keep (o _ (by simp [Rv.blocks]))
    fb := h.fb.keep (o _ (by simp [Rv.blocks]))
    pass := h.pass.keep (o _ (by simp [Rv.blocks]))
    fl := fun t ht => (h.fl t ht).keep (e _ (Or.inr ⟨t, ht, rfl⟩)) }
theorem RefAt.turn {W W' : World} {M : Rv} {F : Nat → Prop} (h : RefAt W M) (t : Turn F W W') (hd : ∀ k, M.own k → ¬ F k) : RefAt W' M :=
  h.keep fun k hk => t.block k (h.lt hk) (hd k hk)
theorem RefAt.below {W W' : World} {M : Rv} (h : RefAt W M) (t : Below W.heap.size W W') : RefAt W' M :=
  h.keep fun k hk => t.block k (h.lt hk)
theorem RefAt.not_own {W : World} {M : Rv} (h : RefAt W M) {k : Nat} (hk : W.heap.size ≤ k) : ¬ M.own k := fun e => by have := h.lt e; omega
def Rv.peek (M : Rv) (at_ : Int) : Int × Bool := peekV M.n M.np M.seen M.pass at_
set_option maxRecDepth 100000 in
theorem refPeek43 (M : Rv) (at_ : Int) (q0 : -9223372036854775808 ≤ at_) (q1 : at_ ≤ 9223372036854775807) (W : World) (h : RefAt W M) :
    Calls Tryz.prog 111 #[.pointer (some ⟨M.m, 0, none⟩), .int .i64 at_] W (Tells (.tuple #[.int .u64 (M.peek at_).1, .bool (M.peek at_).2]) W) := by
  obtain ⟨x0, x1, -⟩ := row10 h.row
  have y1 : W.cell? ⟨M.d, 1, none⟩ = some (.slice (some ⟨M.sb, 0, none⟩) (8 * M.n) M.c1) := by rw [cell_in h.dev]; rfl
  have hn := h.n1
  have hp := h.p1
  have HH := Lib.hid h
  clear h
  unfold Rv.peek
  by_cases h0 : 0 ≤ at_
  · have d0 : decide (0 ≤ at_) = true := bool_yes h0
    have d2 : decide (at_ < 0) = false := bool_no (by omega)
    by_cases h1 : at_ / 8 < (M.n : Int)
    · rw [show peekV M.n M.np M.seen M.pass at_ = (M.seen at_.toNat, true) by rw [peekV, if_pos h0, if_pos h1]]
      obtain ⟨k, rfl⟩ := Int.eq_ofNat_of_zero_le h0
      have hc := HH.out.seen.cell (k := k) (by omega)
      rw [Int.toNat_natCast]
      generalize M.seen k = v at *
      have d1 : decide ((k : Int) < ((8 * M.n : Nat) : Int)) = true := bool_yes (by omega)
      have f2 : (k : Int) < ((8 * M.n : Nat) : Int) := by omega
      obtain ⟨N, hN⟩ : ∃ N, N = 8 * M.n := ⟨_, rfl⟩
      rw [← hN] at y1 d1 f2
      have hN2 : N ≤ 2097152 := by omega
      clear hN h1
      go_enter Tryz.func111, Tryz.ntmps111
      go_wp2_with fail
      go_ret2
      exact ⟨rfl, Below.refl _ _, rfl⟩
    · rw [show peekV M.n M.np M.seen M.pass at_ = (0, false) by rw [peekV, if_pos h0, if_neg h1]]
      have d1 : decide (at_ < ((8 * M.n : Nat) : Int)) = false := bool_no (by omega)
      obtain ⟨N, hN⟩ : ∃ N, N = 8 * M.n := ⟨_, rfl⟩
      rw [← hN] at y1 d1
      have hN2 : N ≤ 2097152 := by omega
      clear hN h1
      go_enter Tryz.func111, Tryz.ntmps111
      go_wp2_with fail
      go_ret2
      exact ⟨rfl, Below.refl _ _, rfl⟩
  · have d0 : decide (0 ≤ at_) = false := bool_no h0
    have d2 : decide (at_ < 0) = true := bool_yes (by omega)
    by_cases h1 : -1 - at_ < (M.np : Int)
    · rw [show peekV M.n M.np M.seen M.pass at_ = (M.pass (-1 - at_).toNat, true) by rw [peekV, if_neg h0, if_pos h1]]
      have hc := HH.out.pass.cell (k := (-1 - at_).toNat) (by omega)
      generalize M.pass (-1 - at_).toNat = v at *
      obtain ⟨k, hk⟩ := Int.eq_ofNat_of_zero_le (show 0 ≤ -1 - at_ by omega)
      rw [hk] at hc
      have hc2 : W.cell? ⟨M.pb, k, none⟩ = some (.int .u64 v) := hc
      obtain rfl : at_ = -1 - (k : Int) := by omega
      have f2 : (k : Int) < (M.np : Int) := by omega
      have d3 : decide (-(M.np : Int) ≤ -1 - (k : Int)) = true := bool_yes (by omega)
      have e3 : (-1 - (-1 - (k : Int)) : Int) = (k : Int) := by omega
      clear hc hk h1
      go_enter Tryz.func111, Tryz.ntmps111
      go_wp2_with fail
      go_ret2
      exact ⟨rfl, Below.refl _ _, rfl⟩
    · rw [show peekV M.n M.np M.seen M.pass at_ = (0, false) by rw [peekV, if_neg h0, if_neg h1]]
      have d3 : decide (-(M.np : Int) ≤ at_) = false := bool_no (by omega)
      clear h1
      go_enter Tryz.func111, Tryz.ntmps111
      go_wp2_with fail
      go_ret2
      exact ⟨rfl, Below.refl _ _, rfl⟩
end Go.Proofs.YtkdcfijebgeajaaGreat
