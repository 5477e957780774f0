/- Walks of layer 35 (dice): the acts of a throw. -/
import Derived.Test.YtoeeeapjfkjkbaaS4
namespace Go.Proofs.Ytoeeeapjfkjkbaa
open Go.RowKit Go.BigFrame
set_option linter.unusedVariables false
set_option linter.unusedSimpArgs false

def OpD (s' ki ke va : Int) (w : World) (e : Ending) (w' : World) : Prop :=
  e = .returned (.tuple #[.int .u64 s', .agg #[.int .i64 ki, .int .u32 ke, .int .u32 va]]) ∧ ∃ c, w' = w.alloc (.cells c 36)
def OpTo (s' ki ke va : Int) (p : Nat) (c : Cfg) (l : Int) (w : World) (e : Ending) (w' : World) : Prop :=
  e = .returned (.agg #[.int .i64 ki, .int .u32 ke, .int .u32 va]) ∧ But p w w' ∧ TabAt w' p c l s'
set_option maxRecDepth 100000 in
theorem op25_core (s s' ki ke va : Int) (HC : Hid (∀ w, Calls Try.prog 29 #[.int .u64 s] w (OpD s' ki ke va w))) (p : Nat) (c : Cfg) (l : Int) (w : World) (h : TabAt w p c l s) : Calls Try.prog 25 #[.pointer (some ⟨p, 5, none⟩)] w (OpTo s' ki ke va p c l w) := by
  have H := Lib.hid h
  have hlt := h.lt
  have hc := h.cs
  have hf := h.free 5
  clear h
  go_enter Try.func25, Try.ntmps25
  go_wp2_with fail
  refine (HC.out _).mono ?_
  rintro e w1 ⟨rfl, cc, rfl⟩
  go_upto_region 2 with fail
  obtain ⟨W, hW⟩ : ∃ W, W = ((w.alloc (.cells #[.int .i64 0, .int .u32 0, .int .u32 0] 36)).alloc (.cells cc 36)).alloc (.cells #[.int .i64 ki, .int .u32 ke, .int .u32 va] 36) := ⟨_, rfl⟩
  obtain ⟨q, hq⟩ : ∃ q, q = w.heap.size := ⟨_, rfl⟩
  obtain ⟨q2, hq2⟩ : ∃ q2, q2 = w.heap.size + 1 + 1 := ⟨_, rfl⟩
  have HQ : Hid (W.heap[q]? = some (.cells #[.int .i64 0, .int .u32 0, .int .u32 0] 36 (0, 0))) := Lib.hid (by
    rw [hW, hq, Below.heap_alloc _ _ _ (by simp; omega), Below.heap_alloc _ _ _ (by simp), heap_alloc_new])
  have HQ2 : Hid (W.heap[q2]? = some (.cells #[.int .i64 ki, .int .u32 ke, .int .u32 va] 36 (0, 0))) := Lib.hid (by
    rw [hW, hq2]
    have := heap_alloc_new ((w.alloc (.cells #[.int .i64 0, .int .u32 0, .int .u32 0] 36)).alloc (.cells cc 36)) (.cells #[.int .i64 ki, .int .u32 ke, .int .u32 va] 36)
    simpa using this)
  have HT : Hid (TabAt W p c l s) := Lib.hid (H.out.keep (by rw [hW]; simp; omega) (by rw [hW, Below.heap_alloc _ _ _ (by simp; omega), Below.heap_alloc _ _ _ (by simp; omega), Below.heap_alloc _ _ _ hlt]))
  have HB : Hid (But p w W) := Lib.hid (by rw [hW]; exact (((But.refl p w).alloc _).alloc _).alloc _)
  have hpq : p ≠ q := by omega
  have hpq2 : p ≠ q2 := by omega
  have hqq : q ≠ q2 := by omega
  have hqw : w.heap.size ≤ q := by omega
  rw [← hW, ← hq2, ← hq]
  clear hW hq hq2 hlt hc hf H
  have xc := HT.out.cs
  have xf := HT.out.free 5
  have a0 : W.cell? ⟨q, 0, none⟩ = some (.int .i64 0) := by rw [cell_of_row _ _ _ _ _ _ HQ.out]; rfl
  have a1 : W.cell? ⟨q, 1, none⟩ = some (.int .u32 0) := by rw [cell_of_row _ _ _ _ _ _ HQ.out]; rfl
  have a2 : W.cell? ⟨q, 2, none⟩ = some (.int .u32 0) := by rw [cell_of_row _ _ _ _ _ _ HQ.out]; rfl
  have af : ∀ j, W.frozen? ⟨q, j, none⟩ = false := fun j => by unfold World.frozen?; rw [HQ.out]; simp
  have b0 : W.cell? ⟨q2, 0, none⟩ = some (.int .i64 ki) := by rw [cell_of_row _ _ _ _ _ _ HQ2.out]; rfl
  have b1 : W.cell? ⟨q2, 1, none⟩ = some (.int .u32 ke) := by rw [cell_of_row _ _ _ _ _ _ HQ2.out]; rfl
  have b2 : W.cell? ⟨q2, 2, none⟩ = some (.int .u32 va) := by rw [cell_of_row _ _ _ _ _ _ HQ2.out]; rfl
  go_wp2_with fail
  obtain ⟨WF, hWF⟩ : ∃ WF, WF = (((W.setCell ⟨p, 5, none⟩ (.int .u64 s')).setCell ⟨q, 0, none⟩ (.int .i64 ki)).setCell ⟨q, 1, none⟩ (.int .u32 ke)).setCell ⟨q, 2, none⟩ (.int .u32 va) := ⟨_, rfl⟩
  have HF : WF.heap[q]? = some (.cells #[.int .i64 ki, .int .u32 ke, .int .u32 va] 36 (0, 0)) := by
    rw [hWF]
    have h0 : (W.setCell ⟨p, 5, none⟩ (.int .u64 s')).heap[q]? = some (.cells #[.int .i64 0, .int .u32 0, .int .u32 0] 36 (0, 0)) := (heap_set_other (Ne.symm hpq)).trans HQ.out
    exact heap_set (j := 2) _ (heap_set (j := 1) _ (heap_set (j := 0) _ h0))
  have c0 : WF.cell? ⟨q, 0, none⟩ = some (.int .i64 ki) := by rw [cell_of_row _ _ _ _ _ _ HF]; rfl
  have c1 : WF.cell? ⟨q, 1, none⟩ = some (.int .u32 ke) := by rw [cell_of_row _ _ _ _ _ _ HF]; rfl
  have c2 : WF.cell? ⟨q, 2, none⟩ = some (.int .u32 va) := by rw [cell_of_row _ _ _ _ _ _ HF]; rfl
  have HBF : But p w WF := by rw [hWF]; exact (((HB.out.set 5 _).setNew hqw 0 _).setNew hqw 1 _).setNew hqw 2 _
  have HTF : TabAt WF p c l s' := (HT.out.set s').keep (by rw [hWF]; simp) (by rw [hWF, heap_set_other hpq, heap_set_other hpq, heap_set_other hpq])
  rw [← hWF]
  clear hWF xc xf a0 a1 a2 af b0 b1 b2
  exact bodyPost_ret (v := .agg #[.int .i64 ki, .int .u32 ke, .int .u32 va]) (by simp [results, Try.results25, go_sem, c0, c1, c2]) rfl ⟨rfl, HBF, HTF⟩
theorem op25 (s : Int) (p : Nat) (c : Cfg) (l : Int) (w : World) (h : TabAt w p c l s) : Calls Try.prog 25 #[.pointer (some ⟨p, 5, none⟩)] w (OpTo (rNext s) (rKind (rThrow s)) (rKey (rThrow s)) (rVal (rThrow s)) p c l w) :=
  op25_core s _ _ _ _ (Lib.hid fun w => op_any s w) p c l w h

theorem own_new (w : World) (base : Nat) (e : TypeId) (size n : Nat) (cs : Array Value) (hb : base ≤ w.heap.size) (hs : cs.size = n * size) (hn : n ≤ maxLen) : (w.alloc (.cells cs e)).ownsRow base e size (.slice (some ⟨w.heap.size, 0, none⟩) n n) n cs.toList :=
  ⟨by rw [Array.length_toList]; exact hs, .inr ⟨w.heap.size, n, cs, rfl, hb, heap_alloc_new _ _, Nat.le_refl _, hn, hs, by rw [← hs, ← Array.length_toList, List.take_length]⟩⟩
theorem own_open {w : World} {base n : Nat} {v : Value} {l : List Value} (h : w.ownsRow base 38 6 v n l) (hn : 0 < n) : ∃ g m cap, v = .slice (some ⟨g, 0, none⟩) m cap ∧ m = n ∧ ∀ j u, l[j]? = some u → w.cell? ⟨g, j, none⟩ = some u := by
  rcases h.2 with ⟨rfl, h0⟩ | ⟨g, cap, cur, rfl, hb, hg, hnc, hcm, hcs, htake⟩
  · omega
  · refine ⟨g, n, cap, rfl, rfl, fun j u hj => ?_⟩
    have hlt : j < l.length := (List.getElem?_eq_some_iff.1 hj).1
    rw [World.ownsRow.cellAt (h := ⟨h.1, .inr ⟨g, cap, cur, rfl, hb, hg, hnc, hcm, hcs, htake⟩⟩) j (by rw [← h.1]; exact hlt)]
    exact hj
def ActsTo (c : Cfg) (s' : Int) (L : List ActD) (p : Nat) (w : World) (e : Ending) (w' : World) : Prop :=
  ∃ x, e = .returned x ∧ w'.ownsRow w.heap.size 38 6 x L.length (actCells L) ∧ But p w w' ∧ TabAt w' p c c.lines s'

set_option maxRecDepth 100000 in
set_option maxHeartbeats 2000000 in
theorem acts15 (c : Cfg) (hf : c.few) (p : Nat) (s v : Int) (v0 : 0 ≤ v) (v1 : v ≤ 18446744073709551615) (w : World) (h : TabAt w p c c.lines s) :
    Calls Try.prog 15 #[.pointer (some ⟨p, 0, none⟩), .int .u64 v] w (ActsTo c (stOf s v) (actsOf c s v) p w) := by
  have H := Lib.hid h
  have x0 := h.c0
  have xl := h.cl
  have hlt := h.lt
  have HF := Lib.hid hf
  obtain ⟨⟨t1, t2, u1, u2, o1, o2, q1, q2⟩, g1, g2, g3, g4⟩ := hf
  obtain ⟨p1, p2⟩ := mul_bd t1 g1 (show 1 ≤ (c.lo + 7) / 8 by omega) (show (c.lo + 7) / 8 ≤ 1 by omega)
  have hl0 : 1 ≤ c.lines ∧ c.lines ≤ 1000 := by unfold Cfg.lines; omega
  have HRV := Lib.hid (revives13 c HF.out p c.lines s)
  have HOP := Lib.hid (op25 s p c c.lines)
  have wt : IntKind.u64.wrap c.th = c.th := IntWalk.u64_in _ (by omega)
  have wl : IntKind.u64.wrap c.lines = c.lines := IntWalk.u64_in _ (by omega)
  have m1 : 0 ≤ v / 16 % c.th := Int.emod_nonneg _ (by omega)
  have m2 : v / 16 % c.th < c.th := Int.emod_lt_of_pos _ (by omega)
  have m3 : 0 ≤ v / 256 % c.lines := Int.emod_nonneg _ (by omega)
  have m4 : v / 256 % c.lines < c.lines := Int.emod_lt_of_pos _ (by omega)
  have HA : Hid (actsOf c s v = if v % 16 < 3 then [⟨1, v / 16 % c.th, 0, rKind (rThrow s), rKey (rThrow s), rVal (rThrow s)⟩]
    else if v % 16 = 3 then [⟨3, 0, v / 256 % c.lines, 0, 0, 0⟩]
    else if v % 16 = 4 ∧ v / 256 % 8 = 0 then aCrash :: c.revs
    else [⟨2, v / 16 % c.th, 0, 0, 0, 0⟩]) := Lib.hid rfl
  have HS : Hid (stOf s v = if v % 16 < 3 then rNext s else s) := Lib.hid rfl
  generalize hL : actsOf c s v = L at *
  generalize hst : stOf s v = st at *
  obtain ⟨LN, hLN⟩ : ∃ LN, LN = c.lines := ⟨_, rfl⟩
  have HLN := Lib.hid hLN
  rw [← hLN] at xl hl0 wl m3 m4 HA
  obtain ⟨TH, hTH⟩ : ∃ TH, TH = c.th := ⟨_, rfl⟩
  have HTH := Lib.hid hTH
  rw [← hTH] at x0 t1 t2 g1 wt m1 m2 HA
  generalize rKind (rThrow s) = ki at *
  generalize rKey (rThrow s) = ke at *
  generalize rVal (rThrow s) = va at *
  generalize rNext s = s' at *
  clear h hL hst hLN hTH u1 u2 o1 o2 q1 q2 g2 g3 g4 p1 p2
  by_cases c1 : v % 16 < 3
  · have d1 : decide (v % 16 < 3) = true := bool_yes c1
    have HL : Hid (L = [⟨1, v / 16 % TH, 0, ki, ke, va⟩]) := Lib.hid (by rw [HA.out, if_pos c1])
    have HS2 : Hid (st = s') := Lib.hid (by rw [HS.out, if_pos c1])
    clear HA HS HRV
    go_enter Try.func15, Try.ntmps15
    go_wp2_with fail
    refine (HOP.out _ H.out).mono ?_
    rintro e w1 ⟨rfl, hb, ht⟩
    have HB := Lib.hid hb
    have HT := Lib.hid ht
    have hsz := hb.size
    clear hb ht HOP
    go_wp2_with fail
    go_ret
    refine ⟨_, rfl, ?_, HB.out.alloc _, ?_⟩
    · rw [HL.out]; exact own_new w1 w.heap.size 38 6 1 _ hsz rfl (by simp [maxLen])
    · rw [HS2.out]; exact HT.out.keep (by simp) (Below.heap_alloc _ _ _ HT.out.lt)
  · have d1 : decide (v % 16 < 3) = false := bool_no c1
    have HS2 : Hid (st = s) := Lib.hid (by rw [HS.out, if_neg c1])
    clear HOP HS
    by_cases c2 : v % 16 = 3
    · have d2 : (v % 16 == 3) = true := by simp [c2]
      have HL : Hid (L = [⟨3, 0, v / 256 % LN, 0, 0, 0⟩]) := Lib.hid (by rw [HA.out, if_neg c1, if_pos c2])
      clear HA HRV c2
      go_enter Try.func15, Try.ntmps15
      go_wp2_with fail
      go_ret
      refine ⟨_, rfl, ?_, (But.refl p w).alloc _, ?_⟩
      · rw [HL.out]; exact own_new w w.heap.size 38 6 1 _ (Nat.le_refl _) rfl (by simp [maxLen])
      · rw [HS2.out]; exact H.out.keep (by simp) (Below.heap_alloc _ _ _ hlt)
    · have d2 : (v % 16 == 3) = false := by simp [c2]
      by_cases c3 : v % 16 = 4
      · have d3 : (v % 16 == 4) = true := by simp [c3]
        by_cases c4 : v / 256 % 8 = 0
        · have d4 : (v / 256 % 8 == 0) = true := by simp [c4]
          have HL : Hid (L = aCrash :: c.revs) := Lib.hid (by rw [HA.out, if_neg c1, if_neg c2, if_pos ⟨c3, c4⟩])
          have HRN : Hid (c.revs.length ≤ 700) := Lib.hid (by have := few_most HF.out; simp [Cfg.revs]; omega)
          obtain ⟨i38, hi, hz0, hz1, hz2⟩ := info_parts info38
          clear HA c2 c3 c4
          go_enter Try.func15, Try.ntmps15
          go_wp2_with fail
          refine (HRV.out _ (H.out.keep (by simp) (Below.heap_alloc _ _ _ hlt))).mono ?_
          rintro e w1 ⟨xv, rfl, hx, hb⟩
          have HO1 : Hid (w1.ownsRow w.heap.size 38 6 (.slice (some ⟨w.heap.size, 0, none⟩) 1 1) 1 aCrash.cells.toList) := Lib.hid (own_keep (own_new w w.heap.size 38 6 1 aCrash.cells (Nat.le_refl _) rfl (by simp [maxLen])) fun k _ hk => hb.block k hk)
          obtain ⟨g2, m, c2, rfl, hm, hcell⟩ := own_open hx (by have := few_most HF.out; have h2 : 40 ≤ c.most := by { obtain ⟨⟨a1, a2, a3, a4, a5, a6, a7, a8⟩, b1, b2, b3, b4⟩ := HF.out; obtain ⟨p1, p2⟩ := mul_bd (show 1 ≤ 4 * c.th by omega) (show 4 * c.th ≤ 24 by omega) a5 b3; unfold Cfg.most; omega }; simp [Cfg.revs]; omega)
          have HX := Lib.hid hx
          have HC := Lib.hid hcell
          have HM := Lib.hid hm
          have HB1 : Hid (Below w.heap.size w w1) := Lib.hid (((Below.refl w.heap.size w).alloc (Nat.le_refl _) _).trans (hb.mono (by simp)))
          have hs1 : w.heap.size ≤ w1.heap.size := HB1.out.size
          have hm700 : m ≤ 700 := by rw [hm]; exact HRN.out
          clear hx hb hcell hm HRV
          go_wp2_with (at_builtin; refine wpList_append_own _ rfl (.tmp 53) (.tmp 55) 29 rfl w.heap.size 38 i38 _ 6 40 Try.underlying29 hi hz0 hz1 hz2 rfl (by decide) _ 1 _ rfl HO1.out ⟨g2, 0, none⟩ m c2 (actCells c.revs) rfl (by rw [actCells_len, ← HM.out]) (fun j u hj => by rw [Addr.add_lit, Nat.zero_add]; exact HC.out j u hj) (actCells_one _) (by unfold maxLen; omega) (by omega) hs1 ?_; intro v' w2 ho2 hg2 _; have HO2 := Lib.hid ho2; have HG2 := Lib.hid hg2; clear ho2 hg2)
          have hg : w1.grownBy w2 (some w.heap.size) := HG2.out
          have hbut : But p w w2 := ⟨hg.os.trans HB1.out.os, hg.tape.trans HB1.out.tape, hg.output.trans HB1.out.output, Nat.le_trans hs1 hg.size, fun k hk _ => (hg.block k (by omega) (by simp; omega)).trans (HB1.out.block k hk)⟩
          have HBT := Lib.hid hbut
          have HTB : Hid (TabAt w2 p c c.lines s) := Lib.hid (H.out.keep hbut.size ((hg.block p (by omega) (by simp; omega)).trans (HB1.out.block p hlt)))
          clear hg hbut HG2
          go_ret
          refine ⟨v', rfl, ?_, HBT.out, by rw [HS2.out]; exact HTB.out⟩
          rw [HL.out, List.length_cons, Nat.add_comm, ← HM.out]
          exact HO2.out
        · have d4 : (v / 256 % 8 == 0) = false := by simp [c4]
          have HL : Hid (L = [⟨2, v / 16 % TH, 0, 0, 0, 0⟩]) := Lib.hid (by rw [HA.out, if_neg c1, if_neg c2, if_neg (fun h => c4 h.2)])
          clear HA HRV c2 c3 c4
          go_enter Try.func15, Try.ntmps15
          go_wp2_with fail
          go_ret
          refine ⟨_, rfl, ?_, (But.refl p w).alloc _, ?_⟩
          · rw [HL.out]; exact own_new w w.heap.size 38 6 1 _ (Nat.le_refl _) rfl (by simp [maxLen])
          · rw [HS2.out]; exact H.out.keep (by simp) (Below.heap_alloc _ _ _ hlt)
      · have d3 : (v % 16 == 4) = false := by simp [c3]
        have HL : Hid (L = [⟨2, v / 16 % TH, 0, 0, 0, 0⟩]) := Lib.hid (by rw [HA.out, if_neg c1, if_neg c2, if_neg (fun h => c3 h.1)])
        clear HA HRV c2 c3
        go_enter Try.func15, Try.ntmps15
        go_wp2_with fail
        go_ret
        refine ⟨_, rfl, ?_, (But.refl p w).alloc _, ?_⟩
        · rw [HL.out]; exact own_new w w.heap.size 38 6 1 _ (Nat.le_refl _) rfl (by simp [maxLen])
        · rw [HS2.out]; exact H.out.keep (by simp) (Below.heap_alloc _ _ _ hlt)
end Go.Proofs.Ytoeeeapjfkjkbaa
