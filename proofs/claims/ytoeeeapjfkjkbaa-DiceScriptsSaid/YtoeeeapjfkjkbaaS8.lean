/- Walk of dice.Script (layer 35), up to its range over a function. -/
import Derived.Test.YtoeeeapjfkjkbaaS11
namespace Go.Proofs.Ytoeeeapjfkjkbaa
open Go.RowKit Go.BigFrame
set_option linter.unusedVariables false
set_option linter.unusedSimpArgs false

theorem throws14 (p : Addr) (n : Int) (w : World) : Calls Try.prog 14 #[.pointer (some p), .int .i64 n] w fun e w' =>
    e = .returned (.func (.func 24) #[] #[.pointer (some ⟨w.heap.size + 1, 0, none⟩), .pointer (some ⟨w.heap.size, 0, none⟩)]) ∧ w' = (w.alloc (.cells #[.pointer (some p)] 63)).alloc (.cells #[.int .i64 n] 3) := by
  have hmf : ∀ (fn : Fn) (first cap : Array Value) (w : World), (Instr.makeFunc fn first cap).run Try.prog w = .ok (.func fn first cap) w := fun _ _ _ _ => rfl
  go_enter Try.func14, Try.ntmps14
  go_wp2_with fail
  go_ret
  exact ⟨rfl, rfl⟩
/-- Left by its end or by ret alone. -/
def OnlyRet (Q : Exit → Act → World → Prop) : Exit → Act → World → Prop
  | .ret, a, w => Q .ret a w
  | .normal, a, w => Q .normal a w
  | _, _, _ => False
theorem OnlyRet.out {Q : Exit → Act → World → Prop} (e : Exit) (a : Act) (w : World) (h : OnlyRet Q e a w) : Q e a w := by
  cases e <;> first | exact h | exact h.elim
def ScriptOk (L : List ActD) (w : World) (e : Ending) (w' : World) : Prop :=
  ∃ v, e = .returned (.tuple #[v, .int .i64 0]) ∧ w'.ownsRow w.heap.size 38 6 v L.length (actCells L) ∧ Below w.heap.size w w'

theorem actsOf_pos (c : Cfg) (s v : Int) : 0 < (actsOf c s v).length := by
  unfold actsOf
  split
  · simp
  · split
    · simp
    · split <;> simp
theorem play_start {w wc w2 w3 : World} {c : Cfg} {n : Nat} {seed : Int} {p pt po : Nat} {v : Value} (hpo : po = w2.heap.size) (hws : w.heap.size ≤ wc.heap.size) (F : Five w p pt po (po + 1) (po + 1 + 1)) (hb : Below w.heap.size w wc) (ht : TabAt wc p c c.lines seed)
    (hp : wc.heap[pt]? = some (.cells #[.pointer (some ⟨p, 0, none⟩)] 45 (0, 0))) (hv : ActsOn c.revs wc v w2) (h2 : Below wc.heap.size wc w2)
    (h3 : w3 = (((w2.alloc (.cells #[v] 29)).alloc (.cells #[.pointer (some ⟨p, 5, none⟩)] 63)).alloc (.cells #[.int .i64 n] 3))) : PlayAt w w3 p pt po (po + 1) (po + 1 + 1) c n (playTo c seed 0).1 (playTo c seed 0).2 := by
  have s2 := h2.size
  have z0 : w3.heap.size = w2.heap.size + 3 := by rw [h3]; simp
  have kk : ∀ k, k < w2.heap.size → w3.heap[k]? = w2.heap[k]? := fun k hk => by
    rw [h3, Below.heap_alloc _ _ _ (by simp; omega), Below.heap_alloc _ _ _ (by simp; omega), Below.heap_alloc _ _ _ hk]
  have k0 : w3.heap[po]? = some (.cells #[v] 29 (0, 0)) := by
    rw [h3, Below.heap_alloc _ _ _ (by simp; omega), Below.heap_alloc _ _ _ (by simp; omega), hpo, heap_alloc_new]
  have k1 : w3.heap[po + 1]? = some (.cells #[.pointer (some ⟨p, 5, none⟩)] 63 (0, 0)) := by
    have := heap_alloc_new (w2.alloc (.cells #[v] 29)) (.cells #[.pointer (some ⟨p, 5, none⟩)] 63)
    rw [World.size_alloc] at this
    rw [h3, Below.heap_alloc _ _ _ (by simp; omega), hpo]; exact this
  have k2 : w3.heap[po + 1 + 1]? = some (.cells #[.int .i64 n] 3 (0, 0)) := by
    have := heap_alloc_new ((w2.alloc (.cells #[v] 29)).alloc (.cells #[.pointer (some ⟨p, 5, none⟩)] 63)) (.cells #[.int .i64 n] 3)
    rw [World.size_alloc, World.size_alloc] at this
    rw [h3, hpo]; exact this
  have hpl : pt < wc.heap.size := (Array.getElem?_eq_some_iff.1 hp).1
  have hpp := ht.lt
  have hown : w3.ownsRow wc.heap.size 38 6 v c.revs.length (actCells c.revs) := own_keep hv fun k _ hk => kk k hk
  refine ⟨ht.keep (by omega) ((kk p (by omega)).trans (h2.block p hpp)), ?_, ⟨v, ?_, own_base hws hown, own_ne hown (.inl hpp), own_ne hown (.inl hpl), ?_, own_ne hv (.inr (by omega)), own_ne hv (.inr (by omega))⟩, ?_, ?_, ?_, ⟨by omega, by omega, by omega, by omega, by omega⟩, ?_⟩
  · rw [cell_of_row _ _ _ _ _ _ ((kk pt (by omega)).trans ((h2.block pt hpl).trans hp))]; rfl
  · rw [cell_of_row _ _ _ _ _ _ k0]; rfl
  · exact own_ne hv (.inr (by omega))
  · unfold World.frozen?; rw [k0]; simp
  · rw [cell_of_row _ _ _ _ _ _ k1]; rfl
  · rw [cell_of_row _ _ _ _ _ _ k2]; rfl
  · refine (hb.trans (h2.mono hws)).trans ?_
    rw [h3]
    exact (((Below.refl _ w2).alloc (by omega) _).alloc (by simp; omega) _).alloc (by simp; omega) _
set_option maxRecDepth 100000 in
set_option maxHeartbeats 4000000 in
theorem script6 (c : Cfg) (hf : c.few) (seed : Int) (s0 : 0 ≤ seed) (s1 : seed ≤ 18446744073709551615) (n : Nat) (hn : n ≤ 600) (w : World) :
    Calls Try.prog 6 #[.agg c.cells, .int .u64 seed, .int .i64 n] w (ScriptOk (playTo c seed n).1 w) := by
  have HLY : Hid (∀ w, Calls Try.prog 11 #[.agg c.cells] w (LayTo c.lines w)) := Lib.hid fun w => layout_yes c hf.1 w
  have HF := Lib.hid hf
  simp only [Cfg.cells] at *
  clear hf
  refine (callsIn_wide (n := 9)).1 (callsIn_of_wp_marks Try.func6 rfl trivial ?_ rfl)
  refine wpIn_mono (Q := OnlyRet _) ?_ OnlyRet.out
  refine wpIn_wide.2 ?_
  simp only [Try.ntmps6, List.size_toArray, List.length_cons, List.length_nil, Nat.reduceAdd, Nat.reduceSub, Array.replicate_succ, Array.replicate_zero, List.push_toArray, List.append_toArray, List.nil_append, List.cons_append]
  have d1 : decide ((n : Int) < 0) = false := bool_no (by omega)
  have d2 : decide (5000 < (n : Int)) = false := bool_no (by omega)
  go_wp2_with fail
  refine (HLY.out _).mono ?_
  rintro e w1 ⟨g, rfl, hb, hc, hg⟩
  have q0 := (hb.block w.heap.size (by simp)).trans (heap_alloc_new w _)
  obtain ⟨c0, c1, c2, c3, cf⟩ := cfg_cells q0
  obtain ⟨B, hB⟩ : ∃ B, B = w.heap.size := ⟨_, rfl⟩
  have hs1 : B + 1 ≤ w1.heap.size := by have := hb.size; simp at this; omega
  have HB1 : Hid (Below B w w1) := Lib.hid (by rw [hB]; exact ((Below.refl _ w).alloc (Nat.le_refl _) _).trans (hb.mono (by simp)))
  rw [← hB] at c0 c1 c2 c3 cf ⊢
  have HB := Lib.hid hB
  clear hb q0 hB
  have HLN := Lib.hid fun w h => lines12 g c.lines w h
  have HLL : Hid (c.lines = c.lines) := Lib.hid rfl
  generalize hln : c.lines = ln at *
  have HLI := Lib.hid hln
  clear hln HLL
  go_upto_region 6 with fail
  go_cut [10] from 28 (Tabbed w1 c ln seed)
  case first =>
    have y0 : B ≠ w1.heap.size := by omega
    have y1 : w1.heap.size ≠ B := by omega
    have y2 : B < w1.heap.size := by omega
    go_region_with (go_at_call 12; refine (HLN.out _ (by first | exact hc | exact (cell_of_heap (w := w1) (Below.heap_alloc w1.drew _ g hg) 8).trans hc)).mono ?_; rintro e w' ⟨rfl, rfl⟩)
    all_goals
      go_wp2_with fail
      go_meet
      case rel =>
        first
          | exact tabbedA _ _ _ _
          | exact tabbedB _ _ _ _
  case rest =>
  obtain ⟨p, pt, rfl, hp, hpt, hne, HT, HP, HBX⟩ := hcut
  have xp : wc.cell? ⟨pt, 0, none⟩ = some (.pointer (some ⟨p, 0, none⟩)) := by rw [cell_of_row _ _ _ _ _ _ HP.out]; rfl
  go_wp2_with (first
    | (go_at_call 13; refine (revives13 c HF.out p ln seed _ HT.out).mono ?_; rintro e w2 ⟨v, rfl, hv, hb2⟩; obtain ⟨va, vm, vc, rfl⟩ := own_slice hv; have HV := Lib.hid hv; have HB2 := Lib.hid hb2; have hq2 := (hb2.block pt (Array.getElem?_eq_some_iff.1 HP.out).1).trans HP.out; have xq : w2.cell? ⟨pt, 0, none⟩ = some (.pointer (some ⟨p, 0, none⟩)) := (by rw [cell_of_row _ _ _ _ _ _ hq2]; rfl); have hpl : pt < w2.heap.size := (Array.getElem?_eq_some_iff.1 hq2).1; have hpn : pt ≠ w2.heap.size := (by omega); have HQ2 := Lib.hid hq2; clear hv hb2 hq2)
    | (go_at_call 14; refine (throws14 _ _ _).mono ?_; rintro e w3 ⟨rfl, hw3⟩; have HW3 := Lib.hid hw3; clear hw3))
  obtain ⟨po, hpo⟩ : ∃ po, po = w2.heap.size := ⟨_, rfl⟩
  have HF5 : Hid (Five w p pt po (po + 1) (po + 1 + 1)) := Lib.hid (by
    have h1 := HB2.out.size
    have h2 := HBX.out.size
    have h3 := HB1.out.size
    have h4 := (Array.getElem?_eq_some_iff.1 HP.out).1
    have h5 := HT.out.lt
    have h6 := HB.out
    exact ⟨by omega, by omega, by omega, by omega, by omega, hne, by omega, by omega, by omega, by omega, by omega, by omega⟩)
  have HPL : Hid (PlayAt w w3 p pt po (po + 1) (po + 1 + 1) c n (playTo c seed 0).1 (playTo c seed 0).2) := Lib.hid (by
    have h2 := HT.out
    rw [← HLI.out] at h2
    exact play_start hpo (by have h3 := HB1.out.size; have h2 := HBX.out.size; omega) HF5.out (((HB1.out.mono (by rw [HB.out]; exact Nat.le_refl _)).trans (HBX.out.mono (by have h3 := HB1.out.size; have h6 := HB.out; omega)))) h2 HP.out HV.out HB2.out HW3.out)
  rw [← hpo]
  clear hpo
  obtain ⟨i38, hi, hz0, hz1, hz2⟩ := info_parts info38
  refine (wpIn_wide (n := 9)).1 (range24 hn HF5.out seed rfl HPL.out ?_ ?_ ?_)
  · intro l v W K hK
    simp only [List.setIfInBounds_toArray, List.set_cons_succ, List.set_cons_zero] at hK ⊢
    gi_wp2
    exact hK
  · intro l k W hk h
    have HPT : Hid (playTo c seed (k + 1) = ((playTo c seed k).1 ++ actsOf c (rNext (playTo c seed k).2) (rThrow (playTo c seed k).2), stOf (rNext (playTo c seed k).2) (rThrow (playTo c seed k).2))) := Lib.hid rfl
    have HLA : Hid ((playTo c seed (k + 1)).1.length ≤ 673 * (k + 2)) := Lib.hid (playTo_len HF.out seed (k + 1))
    rw [HPT.out] at HLA
    have HPD : Hid (PlayAt w W.drew p pt po (po + 1) (po + 1 + 1) c n (playTo c seed k).1 (rNext (playTo c seed k).2)) := Lib.hid (h.grow ((Below.refl _ W).drew))
    have HSD : Hid (Stays W W.drew) := Lib.hid (fun _ _ h _ => h)
    clear h
    refine wpIn_block (region_in (by kernel_rfl) ?_ ?_ ?_)
    · intro i o ho cc hc
      have hi : i < 6 := (Array.getElem?_eq_some_iff.1 ho).1
      rcases i with _ | _ | _ | _ | _ | _ | i <;> first | (cases ho; cases hc) | omega
    · rintro ⟨a, w, h⟩; exact h
    have v0 := rThrow_lo (playTo c seed k).2
    have v1 := rThrow_hi (playTo c seed k).2
    simp only [List.setIfInBounds_toArray, List.set_cons_succ, List.set_cons_zero]
    generalize rNext (playTo c seed k).2 = s' at *
    generalize rThrow (playTo c seed k).2 = v at *
    generalize (playTo c seed k).1 = L at *
    generalize W.drew = Wd at *
    have HA : Hid (Calls Try.prog 15 #[.pointer (some ⟨p, 0, none⟩), .int .u64 v] Wd (ActsTo c (stOf s' v) (actsOf c s' v) p Wd)) := Lib.hid (acts15 c HF.out p s' v v0 v1 Wd HPD.out.tab)
    have HAL : Hid (0 < (actsOf c s' v).length) := Lib.hid (actsOf_pos c s' v)
    generalize actsOf c s' v = A at *
    generalize stOf s' v = st at *
    have hll := HLA.out
    simp only [List.length_append] at hll
    have HLA2 : Hid (L.length + A.length ≤ 673 * (k + 2)) := Lib.hid hll
    clear hll HLA
    have HLA := HLA2
    clear HLA2
    obtain ⟨vo, hvo, hown, u1, u2, u3, u4, u5⟩ := HPD.out.out
    obtain ⟨oa, om, oc, rfl⟩ := own_slice hown
    have co := hvo
    have cp := HPD.out.cpt
    have fo := HPD.out.fpo
    have HO := Lib.hid hown
    have HOP := Lib.hid u1
    have HPN := Lib.hid u3
    have HPO : Hid (po < Wd.heap.size ∧ po ≠ p) := Lib.hid ⟨HPD.out.lts.2.2.1, Ne.symm HF5.out.n2⟩
    clear hvo hown u1 u2 u3 u4 u5
    refine wpAny_take (i := 2) (v := .int .u64 v) rfl (by kernel_rfl) (by kernel_rfl) (by kernel_rfl) (fun _ _ _ h => h) (Or.inl ⟨by rfl, by intro w; go_simp; try with_reducible rfl⟩) ?_
    refine wpAny_ready (rs := [0, 1]) (by kernel_rfl) (by simp) (AllReady.cons rfl (fun K hK => ?_) (AllReady.cons rfl (fun K hK => ?_) AllReady.nil))
    · go_simp
      refine hK _ _ ?_
      clear hK
      refine wpAny_ready (rs := [1]) (by kernel_rfl) (by simp) (AllReady.cons rfl (fun K hK => ?_) AllReady.nil)
      go_simp
      refine hK _ _ ?_
      clear hK
      refine wpAny_ready (rs := [3]) (by kernel_rfl) (by simp) (AllReady.cons rfl (fun K hK => ?_) AllReady.nil)
      go_simp
      with_reducible refine HA.out.mono ?_
      rintro e W1 ⟨x, rfl, hx, hbut, htab⟩
      obtain ⟨g2, m, c2, rfl, hm, hcell⟩ := own_open hx HAL.out
      have HBUT := Lib.hid hbut
      have HTAB := Lib.hid htab
      have HX := Lib.hid hx
      have HC := Lib.hid hcell
      have HM := Lib.hid hm
      have HO1 : Hid (W1.ownsRow w.heap.size 38 6 (.slice oa om oc) L.length (actCells L)) := Lib.hid (own_keep1 HO.out fun q hq => hbut.block q (Array.getElem?_eq_some_iff.1 (own_cells HO.out hq).2.choose_spec.choose_spec.choose_spec).1 (fun e => HOP.out (by rw [← e]; exact hq)))
      have hk1 : W1.heap[po]? = Wd.heap[po]? := hbut.block po HPO.out.1 HPO.out.2
      have co1 : W1.cell? ⟨po, 0, none⟩ = some (.slice oa om oc) := by rw [cell_of_heap hk1]; exact co
      have fo1 : W1.frozen? ⟨po, 0, none⟩ = false := by rw [frozen_of_heap hk1]; exact fo
      have hs1' : w.heap.size ≤ W1.heap.size := Nat.le_trans HPD.out.below.size hbut.size
      clear hx hbut htab hcell hm hk1
      refine hK _ _ ?_
      clear hK
      refine wpAny_ready (rs := [4]) (by kernel_rfl) (by simp) (AllReady.cons rfl (fun K hK => ?_) AllReady.nil)
      refine step_append_at rfl (.tmp 43) (.tmp 46) 29 rfl w.heap.size 38 i38 _ 6 40 Try.underlying29 hi hz0 hz1 hz2 rfl (by decide) (.slice oa om oc) L.length _ rfl HO1.out ⟨g2, 0, none⟩ m c2 (actCells A) rfl (by rw [actCells_len, ← HM.out]) (fun j u hj => by rw [Addr.add_lit, Nat.zero_add]; exact HC.out j u hj) (actCells_one _) (by have := HLA.out; have := HM.out; unfold maxLen; omega) (by have := HLA.out; have := HM.out; omega) hs1' ?_
      intro v' w4 ho4 hg4 hb4
      obtain ⟨na, nm, nc, rfl⟩ := own_slice ho4
      have HO4 := Lib.hid ho4
      have HG4 := Lib.hid hg4
      have HB4 := Lib.hid hb4
      have hk4 : w4.heap[po]? = W1.heap[po]? := hg4.block po (Nat.lt_of_lt_of_le HPO.out.1 HBUT.out.size) HPN.out
      have co4 : w4.cell? ⟨po, 0, none⟩ = some (.slice oa om oc) := by rw [cell_of_heap hk4]; exact co1
      have fo4 : w4.frozen? ⟨po, 0, none⟩ = false := by rw [frozen_of_heap hk4]; exact fo1
      clear ho4 hg4 hb4 hk4 co1 fo1
      refine hK _ _ ?_
      clear hK
      refine wpAny_ready (rs := [5]) (by kernel_rfl) (by simp) (AllReady.cons rfl (fun K hK => ?_) AllReady.nil)
      go_simp
      refine hK _ _ ?_
      clear hK
      refine wpAny_done (by kernel_rfl) ?_ _
      have hfin := play_step HF5.out HPD.out co HO.out HBUT.out HTAB.out (by rw [List.length_append, actCells_append, ← HM.out]; exact HO4.out) HG4.out HB4.out
      show PlayAt _ _ _ _ _ _ _ _ _ (playTo c seed (k + 1)).1 (playTo c seed (k + 1)).2 ∧ Stays W _
      rw [HPT.out]
      exact ⟨hfin.1, fun q o a b => hfin.2 q o (HSD.out q o a b) b⟩
    · go_simp
      refine hK _ _ ?_
      clear hK
      refine wpAny_ready (rs := [0, 3]) (by kernel_rfl) (by simp) (AllReady.cons rfl (fun K hK => ?_) (AllReady.cons rfl (fun K hK => ?_) AllReady.nil))
      · go_simp
        refine hK _ _ ?_
        clear hK
        refine wpAny_ready (rs := [3]) (by kernel_rfl) (by simp) (AllReady.cons rfl (fun K hK => ?_) AllReady.nil)
        go_simp
        with_reducible refine HA.out.mono ?_
        rintro e W1 ⟨x, rfl, hx, hbut, htab⟩
        obtain ⟨g2, m, c2, rfl, hm, hcell⟩ := own_open hx HAL.out
        have HBUT := Lib.hid hbut
        have HTAB := Lib.hid htab
        have HX := Lib.hid hx
        have HC := Lib.hid hcell
        have HM := Lib.hid hm
        have HO1 : Hid (W1.ownsRow w.heap.size 38 6 (.slice oa om oc) L.length (actCells L)) := Lib.hid (own_keep1 HO.out fun q hq => hbut.block q (Array.getElem?_eq_some_iff.1 (own_cells HO.out hq).2.choose_spec.choose_spec.choose_spec).1 (fun e => HOP.out (by rw [← e]; exact hq)))
        have hk1 : W1.heap[po]? = Wd.heap[po]? := hbut.block po HPO.out.1 HPO.out.2
        have co1 : W1.cell? ⟨po, 0, none⟩ = some (.slice oa om oc) := by rw [cell_of_heap hk1]; exact co
        have fo1 : W1.frozen? ⟨po, 0, none⟩ = false := by rw [frozen_of_heap hk1]; exact fo
        have hs1' : w.heap.size ≤ W1.heap.size := Nat.le_trans HPD.out.below.size hbut.size
        clear hx hbut htab hcell hm hk1
        refine hK _ _ ?_
        clear hK
        refine wpAny_ready (rs := [4]) (by kernel_rfl) (by simp) (AllReady.cons rfl (fun K hK => ?_) AllReady.nil)
        refine step_append_at rfl (.tmp 43) (.tmp 46) 29 rfl w.heap.size 38 i38 _ 6 40 Try.underlying29 hi hz0 hz1 hz2 rfl (by decide) (.slice oa om oc) L.length _ rfl HO1.out ⟨g2, 0, none⟩ m c2 (actCells A) rfl (by rw [actCells_len, ← HM.out]) (fun j u hj => by rw [Addr.add_lit, Nat.zero_add]; exact HC.out j u hj) (actCells_one _) (by have := HLA.out; have := HM.out; unfold maxLen; omega) (by have := HLA.out; have := HM.out; omega) hs1' ?_
        intro v' w4 ho4 hg4 hb4
        obtain ⟨na, nm, nc, rfl⟩ := own_slice ho4
        have HO4 := Lib.hid ho4
        have HG4 := Lib.hid hg4
        have HB4 := Lib.hid hb4
        have hk4 : w4.heap[po]? = W1.heap[po]? := hg4.block po (Nat.lt_of_lt_of_le HPO.out.1 HBUT.out.size) HPN.out
        have co4 : w4.cell? ⟨po, 0, none⟩ = some (.slice oa om oc) := by rw [cell_of_heap hk4]; exact co1
        have fo4 : w4.frozen? ⟨po, 0, none⟩ = false := by rw [frozen_of_heap hk4]; exact fo1
        clear ho4 hg4 hb4 hk4 co1 fo1
        refine hK _ _ ?_
        clear hK
        refine wpAny_ready (rs := [5]) (by kernel_rfl) (by simp) (AllReady.cons rfl (fun K hK => ?_) AllReady.nil)
        go_simp
        refine hK _ _ ?_
        clear hK
        refine wpAny_done (by kernel_rfl) ?_ _
        have hfin := play_step HF5.out HPD.out co HO.out HBUT.out HTAB.out (by rw [List.length_append, actCells_append, ← HM.out]; exact HO4.out) HG4.out HB4.out
        show PlayAt _ _ _ _ _ _ _ _ _ (playTo c seed (k + 1)).1 (playTo c seed (k + 1)).2 ∧ Stays W _
        rw [HPT.out]
        exact ⟨hfin.1, fun q o a b => hfin.2 q o (HSD.out q o a b) b⟩
      · go_simp
        with_reducible refine HA.out.mono ?_
        rintro e W1 ⟨x, rfl, hx, hbut, htab⟩
        obtain ⟨g2, m, c2, rfl, hm, hcell⟩ := own_open hx HAL.out
        have HBUT := Lib.hid hbut
        have HTAB := Lib.hid htab
        have HX := Lib.hid hx
        have HC := Lib.hid hcell
        have HM := Lib.hid hm
        have HO1 : Hid (W1.ownsRow w.heap.size 38 6 (.slice oa om oc) L.length (actCells L)) := Lib.hid (own_keep1 HO.out fun q hq => hbut.block q (Array.getElem?_eq_some_iff.1 (own_cells HO.out hq).2.choose_spec.choose_spec.choose_spec).1 (fun e => HOP.out (by rw [← e]; exact hq)))
        have hk1 : W1.heap[po]? = Wd.heap[po]? := hbut.block po HPO.out.1 HPO.out.2
        have co1 : W1.cell? ⟨po, 0, none⟩ = some (.slice oa om oc) := by rw [cell_of_heap hk1]; exact co
        have fo1 : W1.frozen? ⟨po, 0, none⟩ = false := by rw [frozen_of_heap hk1]; exact fo
        have hs1' : w.heap.size ≤ W1.heap.size := Nat.le_trans HPD.out.below.size hbut.size
        clear hx hbut htab hcell hm hk1
        refine hK _ _ ?_
        clear hK
        refine wpAny_ready (rs := [0]) (by kernel_rfl) (by simp) (AllReady.cons rfl (fun K hK => ?_) AllReady.nil)
        go_simp
        refine hK _ _ ?_
        clear hK
        refine wpAny_ready (rs := [4]) (by kernel_rfl) (by simp) (AllReady.cons rfl (fun K hK => ?_) AllReady.nil)
        refine step_append_at rfl (.tmp 43) (.tmp 46) 29 rfl w.heap.size 38 i38 _ 6 40 Try.underlying29 hi hz0 hz1 hz2 rfl (by decide) (.slice oa om oc) L.length _ rfl HO1.out ⟨g2, 0, none⟩ m c2 (actCells A) rfl (by rw [actCells_len, ← HM.out]) (fun j u hj => by rw [Addr.add_lit, Nat.zero_add]; exact HC.out j u hj) (actCells_one _) (by have := HLA.out; have := HM.out; unfold maxLen; omega) (by have := HLA.out; have := HM.out; omega) hs1' ?_
        intro v' w4 ho4 hg4 hb4
        obtain ⟨na, nm, nc, rfl⟩ := own_slice ho4
        have HO4 := Lib.hid ho4
        have HG4 := Lib.hid hg4
        have HB4 := Lib.hid hb4
        have hk4 : w4.heap[po]? = W1.heap[po]? := hg4.block po (Nat.lt_of_lt_of_le HPO.out.1 HBUT.out.size) HPN.out
        have co4 : w4.cell? ⟨po, 0, none⟩ = some (.slice oa om oc) := by rw [cell_of_heap hk4]; exact co1
        have fo4 : w4.frozen? ⟨po, 0, none⟩ = false := by rw [frozen_of_heap hk4]; exact fo1
        clear ho4 hg4 hb4 hk4 co1 fo1
        refine hK _ _ ?_
        clear hK
        refine wpAny_ready (rs := [5]) (by kernel_rfl) (by simp) (AllReady.cons rfl (fun K hK => ?_) AllReady.nil)
        go_simp
        refine hK _ _ ?_
        clear hK
        refine wpAny_done (by kernel_rfl) ?_ _
        have hfin := play_step HF5.out HPD.out co HO.out HBUT.out HTAB.out (by rw [List.length_append, actCells_append, ← HM.out]; exact HO4.out) HG4.out HB4.out
        show PlayAt _ _ _ _ _ _ _ _ _ (playTo c seed (k + 1)).1 (playTo c seed (k + 1)).2 ∧ Stays W _
        rw [HPT.out]
        exact ⟨hfin.1, fun q o a b => hfin.2 q o (HSD.out q o a b) b⟩
  · intro D W hD h hK
    dsimp only
    obtain ⟨vo, hvo, hown, u1, u2, u3, u4, u5⟩ := h.out
    obtain ⟨oa, om, oc, rfl⟩ := own_slice hown
    have HH := Lib.hid h
    have HO := Lib.hid hown
    have HK := Lib.hid hK
    clear h hown hK u1 u2 u3 u4 u5
    go_wp2_with fail
    show LeavesInM Fence.wide 9 Try.prog Try.f6 _ (ScriptOk (playTo c seed n).1 w) [{ target := .collected D, args := #[] }] .returning W
    unfold LeavesInM
    refine ⟨by simp, .inl ⟨_, _, rfl, run_takeDeferred HK.out, ?_⟩⟩
    exact ⟨_, results_tmp2 rfl _ _ _, _, rfl, ownsRow_putObj HO.out _ HK.out rfl, (HH.out.put HK.out rfl hD _).below⟩
end Go.Proofs.Ytoeeeapjfkjkbaa
