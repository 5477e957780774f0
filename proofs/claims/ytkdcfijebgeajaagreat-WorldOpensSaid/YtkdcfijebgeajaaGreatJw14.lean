/- Layer 26 (world): the words of a config.
   Layers 6, 9: where a name's word lies (printed by l3.py).
   Layer 27 (world): the document's words of a config (printed by v4.py).
   Layer 28 (world), plain: where the document's words of a config differ from 0.
   Layer 29 (world): a config's words by the document's Format; they are opened.
   Layer 30 (world): a fresh world.
   Layer 31 (world): words alike, the second row at any place. -/
import Derived.Test.YtkdcfijebgeajaaGreatJw13
import Derived.Test.YtkdcfijebgeajaaGreatJw9
import Derived.Test.YtkdcfijebgeajaaGreatJw12
import Derived.Test.YtkdcfijebgeajaaGreatJw2
import Derived.Test.YtkdcfijebgeajaaGreatJw6
import Derived.Laws.EntriesVeiled
import Derived.IntWalk
import Derived.Test.YtkdcfijebgeajaaGreatJw3
import Derived.Test.YtkdcfijebgeajaaGreatJw10
namespace Go.Proofs.YtkdcfijebgeajaaGreat
open Go.RowKit Go.BigFrame
set_option linter.unusedVariables false
set_option linter.unusedSimpArgs false
def CopyAt (S : List Value) (q k : Nat) (c : Array Value) : Prop := c.size = q ∧ ∀ j, j < q → c[j]? = if j < 8 * k then S[j % 8]? else some (.int .u64 0)
theorem CopyAt.next {S : List Value} {q k : Nat} {c : Array Value} (h : CopyAt S q k c) (hS : S.length = 8) (hk : 8 * k + 8 ≤ q) :
    CopyAt S q (k + 1) (c.toList.take (8 * k) ++ S ++ c.toList.drop (8 * k + S.length)).toArray := by
  obtain ⟨h1, h2⟩ := h
  have hl : c.toList.length = q := by simpa using h1
  refine ⟨by simp [hl, hS]; omega, fun j hj => ?_⟩
  have h3 := h2 j hj
  rw [← Array.getElem?_toList] at h3
  rw [List.getElem?_toArray]
  have ht : (c.toList.take (8 * k)).length = 8 * k := by rw [List.length_take, hl]; omega
  by_cases h8 : j < 8 * k
  · rw [List.append_assoc, List.getElem?_append_left (by omega), List.getElem?_take_of_lt h8, h3, if_pos h8, if_pos (by omega)]
  · rw [if_neg h8] at h3
    by_cases h9 : j < 8 * k + 8
    · rw [List.getElem?_append_left (by simp [ht, hS, hl]; omega), List.getElem?_append_right (by omega), ht, if_pos (by omega)]
      congr 1; omega
    · rw [List.getElem?_append_right (by simp [ht, hS, hl]; omega), if_neg (by omega), List.getElem?_drop, List.length_append, ht, hS, ← h3]
      congr 1; omega
noncomputable def fmtW (S : List Value) (j : Nat) : Value := if j < 16 then S.getD (j % 8) undef else if j = 16 ∨ j = 24 then .int .u64 (linkW 0 (-1)) else .int .u64 0
def FormatTo (S : List Value) (q : Nat) (w : World) (e : Ending) (w' : World) : Prop :=
  ∃ g c, e = .returned (.tuple #[.slice (some ⟨g, 0, none⟩) q q, .int .i64 0]) ∧ Below w.heap.size w w' ∧ w.heap.size ≤ g ∧ w'.heap[g]? = some (.cells c 105 (0, 0)) ∧ c.size = q ∧ ∀ j, j < q → c[j]? = some (fmtW S j)
theorem supWs_one (th sl lo bu : Nat) : ∀ u ∈ supWs th sl lo bu, u.oneCell' = true := by
  intro u hu
  simp [supWs] at hu
  rcases hu with rfl | rfl | rfl | rfl | rfl | rfl | rfl | rfl <;> rfl
set_option maxRecDepth 100000 in
set_option maxHeartbeats 4000000 in
theorem format25_yes (th sl lo bu : Nat) (h : Ok4 th sl lo bu) (w : World) : Calls Tryz.prog 25 #[.agg #[.int .i64 th, .int .i64 sl, .int .i64 lo, .int .i64 bu]] w (FormatTo (supWs th sl lo bu) (8 * linesN th sl lo bu) w) := by
  have HO := Lib.hid fun w => of58 ⟨th, sl, lo, bu⟩ h.right w
  have HLN := Lib.hid fun w => line318 th sl lo bu h w
  have hlv : (⟨th, sl, lo, bu⟩ : Cfg).lv.ln = (linesN th sl lo bu : Nat) := by
    have h1 := nw_ln th sl lo bu
    rw [nw_lines] at h1
    unfold linesN
    have : ((8 * (5 + (bu + 7) / 8 + th + th * ((lo + 7) / 8) + sl) : Nat) : Int) = (⟨th, sl, lo, bu⟩ : Cfg).lv.ln * 8 := h1
    omega
  have hbd : 5 ≤ linesN th sl lo bu ∧ linesN th sl lo bu ≤ 70000 := by
    unfold Ok4 at h
    have hm : th * ((lo + 7) / 8) ≤ 64 * 9 := Nat.mul_le_mul (by omega) (by omega)
    unfold linesN
    omega
  obtain ⟨v, hv⟩ : ∃ v, v = (⟨th, sl, lo, bu⟩ : Cfg).lv := ⟨_, rfl⟩
  rw [← hv] at HO hlv
  obtain ⟨m, hm⟩ : ∃ m, m = linesN th sl lo bu := ⟨_, rfl⟩
  rw [← hm] at hlv hbd ⊢
  have HV := Lib.hid hlv
  have HM := Lib.hid hbd
  obtain ⟨S, hS⟩ : ∃ S, S = supWs th sl lo bu := ⟨_, rfl⟩
  have HS : Hid (S.length = 8 ∧ ∀ u ∈ S, u.oneCell' = true) := Lib.hid (by rw [hS]; exact ⟨rfl, supWs_one th sl lo bu⟩)
  obtain ⟨SV, hSV⟩ : ∃ s, s = sumW (six magic th sl lo bu 1) 7 := ⟨_, rfl⟩
  have HE : Hid (S = [.int .u64 magic, .int .u64 th, .int .u64 sl, .int .u64 lo, .int .u64 bu, .int .u64 1, .int .u64 0, .int .u64 (SV : Int)] ∧ supV th sl lo bu = .agg #[.int .u64 7739836655157129782, .int .u64 th, .int .u64 sl, .int .u64 lo, .int .u64 bu, .int .u64 1, .int .u64 0, .int .u64 (SV : Int)]) := Lib.hid (by rw [hS, hSV]; exact ⟨rfl, rfl⟩)
  rw [HE.out.2] at HLN
  rw [← hS]
  have mk1 := mk_row 24 105 _ _ 8 Tryz.underlying24 info42' rfl (8 * m) (by omega) (by omega)
  have hw8 : wrap64 ((m : Int) * 8) = ((8 * m : Nat) : Int) := by rw [wrap_small _ (by omega) (by omega)]; omega
  unfold Cfg.cells at HO
  simp only at HO
  obtain ⟨q, hq⟩ : ∃ q, q = 8 * m := ⟨_, rfl⟩
  rw [← hq] at mk1 hw8 ⊢
  have HQ : Hid (40 ≤ q ∧ q ≤ 560000) := Lib.hid (by omega)
  have HMC : Hid (CopyAt S q 0 (madeCells #[.int .u64 0] q)) := Lib.hid ⟨size_madeCells _ _, fun j hj => by rw [if_neg (by omega)]; exact made_get _ _ _ hj⟩
  clear h hlv hbd hv hm hS hSV hq
  go_enter Tryz.func25, Tryz.ntmps25
  go_wp2_with fail
  refine (HO.out _).mono ?_
  rintro e w1 ⟨l, rfl, hb, hl1, hlay⟩
  have RC1 := Lib.hid ((hb.block w.heap.size (by simp)).trans (heap_alloc_new w _))
  have B1 : Hid (Below w.heap.size w w1) := Lib.hid ((Below.refl _ _ |>.alloc (Nat.le_refl _) _).trans (hb.mono (by simp)))
  have L1 := Lib.hid hlay
  have q0 := cell_row RC1.out 0 _ rfl
  have q1 := cell_row RC1.out 1 _ rfl
  have q2 := cell_row RC1.out 2 _ rfl
  have q3 := cell_row RC1.out 3 _ rfl
  clear hb hl1 hlay
  go_wp2_with fail
  refine (HLN.out _).mono ?_
  rintro e w2 ⟨rfl, hb⟩
  have B2 : Hid (Below w.heap.size w w2) := Lib.hid (B1.out.trans (hb.mono B1.out.size))
  have L2 := Lib.hid (L1.out.keep (hb.block _ L1.out.lt))
  clear hb q0 q1 q2 q3 RC1 B1 L1
  go_wp2_with fail
  refine (lines80 l v _ (L2.out.keep (Below.heap_alloc _ _ _ L2.out.lt))).mono ?_
  rintro e w3 ⟨rfl, hw⟩
  cases hw
  rw [HV.out]
  obtain ⟨sb, hsb⟩ : ∃ b, b = w2.heap.size := ⟨_, rfl⟩
  obtain ⟨c0, hc0⟩ : ∃ c0, c0 = #[Value.int .u64 7739836655157129782, .int .u64 th, .int .u64 sl, .int .u64 lo, .int .u64 bu, .int .u64 1, .int .u64 0, .int .u64 (SV : Int)] := ⟨_, rfl⟩
  obtain ⟨W3, hW3⟩ : ∃ W3, W3 = w2.alloc (.cells c0 142) := ⟨_, rfl⟩
  have R3 : Hid (W3.heap[sb]? = some (.cells c0 142 (0, 0))) := Lib.hid (by rw [hW3, hsb]; exact heap_alloc_new _ _)
  have B3 : Hid (Below w.heap.size w W3) := Lib.hid (by rw [hW3]; exact B2.out.alloc B2.out.size _)
  have L3 := Lib.hid (LayAt.keep (W' := W3) L2.out (by rw [hW3]; exact Below.heap_alloc _ _ _ L2.out.lt))
  have HC0 := Lib.hid hc0
  rw [← hc0, ← hW3, ← hsb]
  have HCS : Hid (c0.toList = S) := Lib.hid (by rw [HC0.out, HE.out.1]; rfl)
  clear hc0 hW3 hsb B2 L2 HO HLN HE HC0
  obtain ⟨g, hg⟩ : ∃ g, g = W3.heap.size := ⟨_, rfl⟩
  obtain ⟨W4, hW4⟩ : ∃ W4, W4 = W3.alloc (.cells (madeCells #[.int .u64 0] q) 105) := ⟨_, rfl⟩
  have mk2 := mk1 W3
  rw [← hW4, ← hg] at mk2
  have S4 : Hid (∃ c, W4.heap[g]? = some (.cells c 105 (0, 0)) ∧ CopyAt S q 0 c) := Lib.hid ⟨_, by rw [hW4, hg]; exact heap_alloc_new _ _, HMC.out⟩
  have R4 : Hid (W4.heap[sb]? = some (.cells c0 142 (0, 0))) := Lib.hid (by rw [hW4]; exact (Below.heap_alloc _ _ _ (lt_row R3.out)).trans R3.out)
  have B4 : Hid (Below w.heap.size w W4) := Lib.hid (by rw [hW4]; exact B3.out.alloc B3.out.size _)
  have L4 := Lib.hid (LayAt.keep (W' := W4) L3.out (by rw [hW4]; exact Below.heap_alloc _ _ _ L3.out.lt))
  have HG : Hid (w.heap.size ≤ g ∧ sb ≠ g ∧ l ≠ g) := Lib.hid ⟨by rw [hg]; exact B3.out.size, by have := lt_row R3.out; omega, by have := L3.out.lt; omega⟩
  clear mk1 hg hW4 R3 B3 L3 HMC
  go_wp2_with fail
  go_loopw [27] (fun i wr => ∃ k : Nat, k ≤ 2 ∧ i = .int .i64 k ∧ Hid ((∃ c, wr.heap[g]? = some (.cells c 105 (0, 0)) ∧ CopyAt S q k c) ∧ wr.heap[sb]? = some (.cells c0 142 (0, 0)) ∧ Below w.heap.size w wr ∧ LayAt wr l v)) (fun i _ => 2 - (intOf i).toNat)
  case atStart => exact ⟨0, Nat.zero_le _, rfl, Lib.hid ⟨S4.out, R4.out, B4.out, L4.out⟩⟩
  case round =>
    obtain ⟨k, hk, rfl, HK⟩ := hrel
    obtain ⟨⟨c, hgc, hcc⟩, hsc, hbb, hll⟩ := HK.out
    by_cases hlt : k < 2
    · have d1 : decide ((k : Int) < 2) = true := bool_yes (by omega)
      have e8 : wrap64 ((k : Int) * 8) = ((8 * k : Nat) : Int) := by rw [wrap_small _ (by omega) (by omega)]; omega
      have i1 : 8 * k ≤ q := by have := HQ.out; omega
      clear hgc hcc hsc hbb hll
      go_wp2_with fail
      refine region_qd 0 5 (by kernel_rfl) (by kernel_rfl) (fun _ _ d _ _ h => by cases d <;> exact h) ?_
      simp only [List.take_succ_cons, List.take_zero, List.drop_succ_cons, List.drop_zero, Nat.reduceAdd]
      refine wpQuiet_nil ?_
      repeat (first | go_big_quiet_skip | (go_big_quiet_want; go_big_quiet_op; go_big_quiet_on))
      refine wpQuiet_nil ?_
      rintro _ ⟨n, rfl⟩
      rw [if_neg (show ¬ q = k * 8 by have := HQ.out; omega)]
      obtain ⟨⟨c, hgc, hcc⟩, hsc, hbb, hll⟩ := HK.out
      have hcp : ∀ ty, (Builtin.copy_ #[24, 24] ty #[.slice (some ⟨g, k * 8, none⟩) (q - k * 8) (q - k * 8), .slice (some ⟨sb, 0, none⟩) 8 8]).run Tryz.prog (wr.drewN n) = .ok (goInt S.length) ((wr.drewN n).setRow g (c.toList.take (k * 8) ++ S ++ c.toList.drop (k * 8 + S.length)).toArray) := fun ty =>
        run_copy_row (P := Tryz.prog) (wr.drewN n) 24 24 ty 105 g (k * 8) (q - k * 8) (q - k * 8) ⟨sb, 0, none⟩ 8 8 c 105 S Tryz.underlying24 (by kernel_rfl) hgc (by rw [HS.out.1]; exact (Nat.min_eq_left (by have := HQ.out; omega)).symm)
          (fun j x hx => by
            rw [Addr.add_lit, Nat.zero_add, cell_in (w := wr.drewN n) hsc, ← Array.getElem?_toList, HCS.out]; exact hx)
          (by rw [HS.out.1]; have := HQ.out; have := hcc.1; omega) HS.out.2
      have hnx := CopyAt.next hcc HS.out.1 (by have := HQ.out; omega)
      rw [show 8 * k = k * 8 by omega] at hnx
      have HNX : Hid (((wr.drewN n).setRow g (c.toList.take (k * 8) ++ S ++ c.toList.drop (k * 8 + S.length)).toArray).heap[g]? = some (.cells (c.toList.take (k * 8) ++ S ++ c.toList.drop (k * 8 + S.length)).toArray 105 (0, 0)) ∧ CopyAt S q (k + 1) (c.toList.take (k * 8) ++ S ++ c.toList.drop (k * 8 + S.length)).toArray ∧ ((wr.drewN n).setRow g (c.toList.take (k * 8) ++ S ++ c.toList.drop (k * 8 + S.length)).toArray).heap[sb]? = some (.cells c0 142 (0, 0)) ∧ Below w.heap.size w ((wr.drewN n).setRow g (c.toList.take (k * 8) ++ S ++ c.toList.drop (k * 8 + S.length)).toArray) ∧ LayAt ((wr.drewN n).setRow g (c.toList.take (k * 8) ++ S ++ c.toList.drop (k * 8 + S.length)).toArray) l v) := Lib.hid ⟨setRow_heap (wr.drewN n) _ _ _ 105 (0, 0) hgc, hnx, (setRow_other (wr.drewN n) _ _ _ HG.out.2.1).trans hsc,
        ⟨hbb.os, hbb.tape, hbb.output, by rw [setRow_size]; exact hbb.size, fun j hj => (setRow_other (wr.drewN n) _ _ _ (by have := HG.out.1; omega)).trans (hbb.block j hj)⟩, LayAt.keep hll (setRow_other (wr.drewN n) _ _ _ HG.out.2.2)⟩
      generalize hc' : (c.toList.take (k * 8) ++ S ++ c.toList.drop (k * 8 + S.length)).toArray = c' at hcp HNX
      generalize hw' : (wr.drewN n).setRow g c' = w' at hcp HNX
      clear hc' hw' hnx hgc hcc hsc hbb hll
      go_wp2_with fail
      go_roundw
      case rel => exact ⟨k + 1, by omega, by go_num, Lib.hid ⟨⟨c', HNX.out.1, HNX.out.2.1⟩, HNX.out.2.2⟩⟩
      case measure => simp [intOf]; omega
    · obtain rfl : k = 2 := by omega
      clear hgc hcc hsc hbb hll
      have d1 : decide (((2 : Nat) : Int) < 2) = false := rfl
      go_wp2_with fail
      refine (head69 l _).mono ?_
      rintro e w5 ⟨rfl, hw⟩
      cases hw
      go_wp2_with fail
      refine (link90 0 (-1) _).mono ?_
      rintro e w6 ⟨rfl, hb⟩
      obtain ⟨⟨c, hgc, hcc⟩, hsc, hbb, hll⟩ := HK.out
      have G6 := Lib.hid ((hb.block _ (lt_row hgc)).trans hgc)
      have B6 := Lib.hid (hbb.trans (hb.mono hbb.size))
      have C6 := Lib.hid hcc
      have z6 : w6.cell? ⟨g, 16, none⟩ = some (.int .u64 0) := by rw [cell_in G6.out, hcc.2 16 (by have := HQ.out; omega), if_neg (by decide)]
      have f6 := free_row G6.out 16
      have i6 : (16 : Int) < (q : Int) := by have := HQ.out; omega
      have i6' : 16 < q := by have := HQ.out; omega
      generalize hlk : linkW 0 (-1) = lk
      have HLK := Lib.hid hlk
      clear hb hgc hcc hsc hbb hll hlk HK S4 R4 B4 L4
      go_wp2_with fail
      have R7 := Lib.hid (heap_set (j := 16) (.int .u64 lk) G6.out)
      have B7 : Hid (Below w.heap.size w (w6.setCell ⟨g, 16, none⟩ (.int .u64 lk))) := Lib.hid (B6.out.setCell (p := ⟨g, 16, none⟩) HG.out.1 _)
      clear z6 f6 i6 i6'
      refine (tail160 l _).mono ?_
      rintro e w8 ⟨rfl, hw⟩
      cases hw
      generalize hw7 : w6.setCell ⟨g, 16, none⟩ (.int .u64 lk) = w7 at R7 B7
      clear hw7
      go_wp2_with fail
      refine (link90 0 (-1) _).mono ?_
      rintro e w9 ⟨rfl, hb⟩
      rw [HLK.out]
      have G9 := Lib.hid ((hb.block _ (lt_row R7.out)).trans R7.out)
      have B9 := Lib.hid (B7.out.trans (hb.mono B7.out.size))
      have z9 : w9.cell? ⟨g, 24, none⟩ = some (.int .u64 0) := by rw [cell_in G9.out, Array.getElem?_setIfInBounds_ne (by decide), C6.out.2 24 (by have := HQ.out; omega), if_neg (by decide)]
      have f9 := free_row G9.out 24
      have i9 : (24 : Int) < (q : Int) := by have := HQ.out; omega
      have i9' : 24 < q := by have := HQ.out; omega
      clear hb
      go_wp2_with fail
      have RA := heap_set (j := 24) (.int .u64 lk) G9.out
      have BA : Below w.heap.size w (w9.setCell ⟨g, 24, none⟩ (.int .u64 lk)) := B9.out.setCell (p := ⟨g, 24, none⟩) HG.out.1 _
      refine bodyPost_ret (v := .tuple #[.slice (some ⟨g, 0, none⟩) q q, .int .i64 0]) ?_ rfl ⟨g, _, rfl, BA, HG.out.1, RA, ?_, ?_⟩
      · simp [results, Tryz.results25, go_sem]
      · rw [Array.size_setIfInBounds, Array.size_setIfInBounds]; exact C6.out.1
      · intro j hj
        unfold fmtW
        rw [HLK.out]
        have hsz := C6.out.1
        have h1 := C6.out.2 j hj
        by_cases j24 : j = 24
        · subst j24
          rw [if_neg (by decide), if_pos (Or.inr rfl)]
          exact Array.getElem?_setIfInBounds_self_of_lt (by rw [Array.size_setIfInBounds]; omega)
        · rw [Array.getElem?_setIfInBounds_ne (fun e => j24 e.symm)]
          by_cases j16 : j = 16
          · subst j16
            rw [if_neg (by decide), if_pos (Or.inl rfl)]
            exact Array.getElem?_setIfInBounds_self_of_lt (by omega)
          · rw [Array.getElem?_setIfInBounds_ne (fun e => j16 e.symm), h1]
            by_cases hlo : j < 16
            · rw [if_pos (by omega), if_pos hlo, List.getD_eq_getElem?_getD, List.getElem?_eq_getElem (by rw [HS.out.1]; omega)]; rfl
            · rw [if_neg (by omega), if_neg hlo, if_neg (by omega)]
end Go.Proofs.YtkdcfijebgeajaaGreat

namespace Go.Proofs.YtkdcfijebgeajaaGreat
open Go.RowKit Go.BigFrame
set_option linter.unusedVariables false
set_option linter.unusedSimpArgs false
theorem nmV_get : ∀ (l : List Nm) (k : Nat) (p : Nm), l[k]? = some p → (nmV l)[k * 3]? = some (.int .i64 p.1) ∧ (nmV l)[k * 3 + 1]? = some (.int .i64 p.2.1) ∧ (nmV l)[k * 3 + 2]? = some (.int .i64 p.2.2)
  | [], k, p, h => by simp at h
  | y :: t, 0, p, h => by
    simp at h
    subst h
    exact ⟨rfl, rfl, rfl⟩
  | y :: t, k + 1, p, h => by
    have e : nmV (y :: t) = [.int .i64 y.1, .int .i64 y.2.1, .int .i64 y.2.2] ++ nmV t := rfl
    have ih := nmV_get t k p (by simpa using h)
    rw [e]
    refine ⟨?_, ?_, ?_⟩
    · rw [List.getElem?_append_right (by simp; omega)]; simp only [List.length_cons, List.length_nil]; rw [show (k + 1) * 3 - (0 + 1 + 1 + 1) = k * 3 by omega]; exact ih.1
    · rw [List.getElem?_append_right (by simp; omega)]; simp only [List.length_cons, List.length_nil]; rw [show (k + 1) * 3 + 1 - (0 + 1 + 1 + 1) = k * 3 + 1 by omega]; exact ih.2.1
    · rw [List.getElem?_append_right (by simp; omega)]; simp only [List.length_cons, List.length_nil]; rw [show (k + 1) * 3 + 2 - (0 + 1 + 1 + 1) = k * 3 + 2 by omega]; exact ih.2.2
theorem names_at {w : World} {B n : Nat} {v : Value} {l : List Nm} (h : w.ownsRow B 87 3 v n (nmV l)) : l.length = n ∧ ∀ k p, l[k]? = some p → ∃ g c, v = .slice (some ⟨g, 0, none⟩) n c ∧ B ≤ g ∧ g < w.heap.size ∧ w.cell? ⟨g, k * 3, none⟩ = some (.int .i64 p.1) ∧ w.cell? ⟨g, k * 3 + 1, none⟩ = some (.int .i64 p.2.1) ∧ w.cell? ⟨g, k * 3 + 2, none⟩ = some (.int .i64 p.2.2) := by
  have e : l.length = n := by have := h.1; rw [nmV_len] at this; omega
  refine ⟨e, fun k p hk => ?_⟩
  have hkl := (List.getElem?_eq_some_iff.1 hk).1
  obtain ⟨g, cap, c, rfl, hb, hg, h1, h2, h3⟩ := own_row h (by omega)
  obtain ⟨n1, n2, n3⟩ := nmV_get l k p hk
  exact ⟨g, cap, rfl, hb, (Array.getElem?_eq_some_iff.1 hg).1, by rw [cell_in hg, h3 _ (by omega)]; exact n1, by rw [cell_in hg, h3 _ (by omega)]; exact n2, by rw [cell_in hg, h3 _ (by omega)]; exact n3⟩
end Go.Proofs.YtkdcfijebgeajaaGreat

namespace Go.Proofs.YtkdcfijebgeajaaGreat
open Go.RowKit Go.BigFrame
set_option linter.unusedVariables false
set_option linter.unusedSimpArgs false
def nameW (f : Nat → Int) (p : Nm) : Value := .int .u64 (if p.1 = 1 then f p.2.2.toNat else if p.1 = 2 ∨ p.1 = 3 then 1 else 0)
def WordsDone (f : Nat → Int) (l : List Nm) (n : Nat) (w : World) (e : Ending) (w' : World) : Prop := ∃ v, e = .returned v ∧ Below w.heap.size w w' ∧ w'.ownsRow w.heap.size 105 1 v n (l.map (nameW f))
set_option maxRecDepth 100000 in
set_option maxHeartbeats 4000000 in
theorem format33 (th sl lo bu : Nat) (n : Nat) (hn0 : 0 < n) (hn : n ≤ 1000000) (l : List Nm) (f : Nat → Int) (S : List Value) (hS : ∀ j, j < 8 → S[j]? = some (.int .u64 (f j)))
    (hl : ∀ p ∈ l, p.1 = 1 → 0 ≤ p.2.2 ∧ p.2.2 < 8) (HN : Hid (∀ w, Calls Tryz.prog 9 #[.agg #[.int .i64 th, .int .i64 sl, .int .i64 lo, .int .i64 bu]] w (WordsOf n l w))) (HW : Hid (∀ w, Calls Tryz.prog 84 #[.agg #[.int .i64 th, .int .i64 sl, .int .i64 lo, .int .i64 bu]] w (Words8 S w))) (w : World) :
    Calls Tryz.prog 33 #[.agg #[.int .i64 th, .int .i64 sl, .int .i64 lo, .int .i64 bu]] w (WordsDone f l n w) := by
  obtain ⟨i42, hi, hz0, hz1, hz2⟩ := info_parts info42
  have HL := Lib.hid hl
  have HSS := Lib.hid hS
  clear hl hS
  go_enter Tryz.func33, Tryz.ntmps33
  go_wp2_with fail
  refine (HN.out _).mono ?_
  rintro e w1 ⟨nv, rfl, hb, ho⟩
  have R1 := Lib.hid ((hb.block w.heap.size (by simp)).trans (heap_alloc_new w _))
  have B1 : Hid (Below w.heap.size w w1) := Lib.hid ((Below.refl _ _ |>.alloc (Nat.le_refl _) _).trans (hb.mono (by simp)))
  have O1 := Lib.hid (names_at ho)
  have q0 := cell_row R1.out 0 _ rfl
  have q1 := cell_row R1.out 1 _ rfl
  have q2 := cell_row R1.out 2 _ rfl
  have q3 := cell_row R1.out 3 _ rfl
  clear hb ho
  go_wp2_with fail
  refine (HW.out _).mono ?_
  rintro e w3 ⟨wv, rfl, hb, ho⟩
  obtain ⟨sb, sc, rfl, hsb, hsz, hsc⟩ := own8 ho
  have B3 : Hid (Below w.heap.size w w3) := Lib.hid (B1.out.trans (hb.mono B1.out.size))
  have S3 : Hid (sb < w3.heap.size ∧ ∀ j, j < 8 → w3.cell? ⟨sb, j, none⟩ = some (.int .u64 (f j))) := Lib.hid ⟨hsz, fun j hj => hsc j _ hj (HSS.out j hj)⟩
  have NL : Hid (l.length = n) := Lib.hid O1.out.1
  have N3 : Hid (∀ k p, l[k]? = some p → ∃ g c, nv = .slice (some ⟨g, 0, none⟩) n c ∧ g < w3.heap.size ∧ w3.cell? ⟨g, k * 3, none⟩ = some (.int .i64 p.1) ∧ w3.cell? ⟨g, k * 3 + 1, none⟩ = some (.int .i64 p.2.1) ∧ w3.cell? ⟨g, k * 3 + 2, none⟩ = some (.int .i64 p.2.2)) := Lib.hid fun k p hk => by
    obtain ⟨g, c, h1, h2, h3, h4, h5, h6⟩ := O1.out.2 k p hk
    exact ⟨g, c, h1, Nat.lt_of_lt_of_le h3 hb.size, (cell_of_heap (hb.block g h3) _).trans h4, (cell_of_heap (hb.block g h3) _).trans h5, (cell_of_heap (hb.block g h3) _).trans h6⟩
  have HLEN : Hid (∃ a c, nv = .slice a n c) := Lib.hid (by
    obtain ⟨p, hp⟩ : ∃ p, l[0]? = some p := ⟨_, List.getElem?_eq_getElem (by have := O1.out.1; omega)⟩
    obtain ⟨g, c, h1, -⟩ := O1.out.2 0 p hp
    exact ⟨_, _, h1⟩)
  clear q0 q1 q2 q3 hb ho R1 B1 O1 hsc HN HW HSS hsb hsz
  obtain ⟨B, hB⟩ : ∃ B, B = w3.heap.size := ⟨_, rfl⟩
  have HB := Lib.hid hB
  clear hB
  obtain ⟨na, nc, hnv⟩ := HLEN.out
  rw [hnv] at N3 ⊢
  clear HLEN hnv
  go_wp2_with fail
  go_loopw [5, 6] (fun v i wr => ∃ k : Nat, k ≤ n ∧ i = .int .i64 k ∧ Hid (wr.ownsRow B 105 1 v k ((l.take k).map (nameW f))) ∧ Hid (Below B w3 wr)) (fun _ i _ => n - (intOf i).toNat)
  case atStart => exact ⟨0, Nat.zero_le _, rfl, World.ownsRow_nil _ _ _ _, Lib.hid (Below.refl _ _)⟩
  case round =>
    obtain ⟨k, hk, rfl, HO, HBE⟩ := hrel
    have HBw : Hid (B ≤ wr.heap.size) := Lib.hid (by rw [HB.out]; exact HBE.out.size)
    by_cases hlt : k < n
    · have hkl : k < l.length := by have := NL.out; omega
      obtain ⟨p, hp⟩ : ∃ p, l[k]? = some p := ⟨_, List.getElem?_eq_getElem hkl⟩
      have HT : Hid ((l.take (k + 1)).map (nameW f) = (l.take k).map (nameW f) ++ [nameW f p]) := Lib.hid (by rw [List.take_add_one, hp]; simp)
      have HP := Lib.hid (HL.out p (List.mem_of_getElem? hp))
      obtain ⟨g, c, h1, h2, h3, h4, h5⟩ := N3.out k p hp
      cases h1
      have x0 := (HBE.out.cell (p := ⟨g, k * 3, none⟩) (by rw [HB.out]; exact h2)).trans h3
      have x2 := (HBE.out.cell (p := ⟨g, k * 3 + 2, none⟩) (by rw [HB.out]; exact h2)).trans h5
      have i0 : (0 : Int) ≤ (k : Int) := by omega
      have i1 : (k : Int) < (n : Int) := by omega
      have i2 : decide ((k : Int) < (n : Int)) = true := bool_yes i1
      obtain ⟨kd, pa, pb⟩ := p
      simp only at x0 x2 HP
      clear h2 h3 h4 h5 hp hkl
      by_cases k1 : kd = 1
      · subst k1
        obtain ⟨b1, b2⟩ := HP.out rfl
        obtain ⟨j, rfl⟩ := Int.eq_ofNat_of_zero_le b1
        have hj : j < 8 := by omega
        have y := (HBE.out.cell (p := ⟨sb, j, none⟩) (by rw [HB.out]; exact S3.out.1)).trans (S3.out.2 j hj)
        have i3 : (j : Int) < 8 := by omega
        have hv : nameW f (1, pa, (j : Int)) = .int .u64 (f j) := by unfold nameW; simp
        rw [hv] at HT
        clear HP b1 b2 hv
        generalize f j = fv at y HT
        go_wp2_with (at_builtin; refine wpList_push rfl (.tmp 46) (.tmp 48) 24 rfl B 105 i42 (.int .u64 0) 1 8 Tryz.underlying24 hi hz0 hz1 hz2 rfl (by decide) wr HBw.out u5 k ((l.take k).map (nameW f)) rfl HO.out #[.int .u64 fv] 1 1 rfl rfl (by simp [Value.oneCell']) (by unfold maxLen; omega) (by omega) ?_; intro v' w' hown hgr hbel hne; have HO' := Lib.hid hown; have HB' := Lib.hid (hbel B w3 HBE.out (Nat.le_refl _)); clear hown hgr hbel hne)
        go_wp2_with fail
        go_roundw
        case rel => exact ⟨k + 1, by omega, by go_num, Lib.hid (by rw [HT.out]; exact HO'.out), HB'⟩
        case measure => simp [intOf]; omega
      · by_cases k2 : kd = 2
        · subst k2
          have hv : nameW f (2, pa, pb) = .int .u64 1 := by unfold nameW; simp
          rw [hv] at HT
          clear HP hv k1
          go_wp2_with (at_builtin; refine wpList_push rfl (.tmp 46) (.tmp 48) 24 rfl B 105 i42 (.int .u64 0) 1 8 Tryz.underlying24 hi hz0 hz1 hz2 rfl (by decide) wr HBw.out u5 k ((l.take k).map (nameW f)) rfl HO.out #[.int .u64 1] 1 1 rfl rfl (by simp [Value.oneCell']) (by unfold maxLen; omega) (by omega) ?_; intro v' w' hown hgr hbel hne; have HO' := Lib.hid hown; have HB' := Lib.hid (hbel B w3 HBE.out (Nat.le_refl _)); clear hown hgr hbel hne)
          go_wp2_with fail
          go_roundw
          case rel => exact ⟨k + 1, by omega, by go_num, Lib.hid (by rw [HT.out]; exact HO'.out), HB'⟩
          case measure => simp [intOf]; omega
        · by_cases k3 : kd = 3
          · subst k3
            have hv : nameW f (3, pa, pb) = .int .u64 1 := by unfold nameW; simp
            rw [hv] at HT
            clear HP hv k1 k2
            go_wp2_with (at_builtin; refine wpList_push rfl (.tmp 46) (.tmp 48) 24 rfl B 105 i42 (.int .u64 0) 1 8 Tryz.underlying24 hi hz0 hz1 hz2 rfl (by decide) wr HBw.out u5 k ((l.take k).map (nameW f)) rfl HO.out #[.int .u64 1] 1 1 rfl rfl (by simp [Value.oneCell']) (by unfold maxLen; omega) (by omega) ?_; intro v' w' hown hgr hbel hne; have HO' := Lib.hid hown; have HB' := Lib.hid (hbel B w3 HBE.out (Nat.le_refl _)); clear hown hgr hbel hne)
            go_wp2_with fail
            go_roundw
            case rel => exact ⟨k + 1, by omega, by go_num, Lib.hid (by rw [HT.out]; exact HO'.out), HB'⟩
            case measure => simp [intOf]; omega
          · have hv : nameW f (kd, pa, pb) = .int .u64 0 := by unfold nameW; simp [k1, k2, k3]
            rw [hv] at HT
            have d1 : decide (kd = 1) = false := bool_no k1
            have d2 : decide (kd = 2) = false := bool_no k2
            have d3 : decide (kd = 3) = false := bool_no k3
            have b1 : (kd == 1) = false := by simp [k1]
            have b2 : (kd == 2) = false := by simp [k2]
            have b3 : (kd == 3) = false := by simp [k3]
            clear HP hv
            go_wp2_with (at_builtin; refine wpList_push rfl (.tmp 46) (.tmp 48) 24 rfl B 105 i42 (.int .u64 0) 1 8 Tryz.underlying24 hi hz0 hz1 hz2 rfl (by decide) wr HBw.out u5 k ((l.take k).map (nameW f)) rfl HO.out #[.int .u64 0] 1 1 rfl rfl (by simp [Value.oneCell']) (by unfold maxLen; omega) (by omega) ?_; intro v' w' hown hgr hbel hne; have HO' := Lib.hid hown; have HB' := Lib.hid (hbel B w3 HBE.out (Nat.le_refl _)); clear hown hgr hbel hne)
            go_wp2_with fail
            go_roundw
            case rel => exact ⟨k + 1, by omega, by go_num, Lib.hid (by rw [HT.out]; exact HO'.out), HB'⟩
            case measure => simp [intOf]; omega
    · obtain rfl : k = n := by omega
      have i2 : decide ((k : Int) < (k : Int)) = false := by simp
      go_wp2_with fail
      go_ret
      exact ⟨_, rfl, B3.out.trans (HBE.out.mono (by rw [HB.out]; exact B3.out.size)), own_mono (by have := HO.out; rw [List.take_of_length_le (by have := NL.out; omega)] at this; exact this) (by rw [HB.out]; exact B3.out.size)⟩
end Go.Proofs.YtkdcfijebgeajaaGreat

namespace Go.Proofs.YtkdcfijebgeajaaGreat
open Go.RowKit Go.BigFrame
set_option linter.unusedVariables false
set_option linter.unusedSimpArgs false
def headN : List Nm := supL 16 ++ [(2, 0, 0)] ++ zerosL 7 ++ [(3, 0, 0)]
def restN (th sl lo' bu : Nat) : List Nm := zerosL 7 ++ [(4, 0, 0)] ++ zerosL 7 ++ kindL 5 bu ++ zerosL (up8 (40 + bu) - (40 + bu)) ++ cellsL th ++ logsL lo' th ++ slotsL sl
theorem lasting_split (th sl lo' bu : Nat) : lastingL th sl lo' bu = headN ++ restN th sl lo' bu := by
  have h1 : up8 17 - 17 = 7 := by decide
  have h2 : up8 25 - 25 = 7 := by decide
  have h3 : up8 33 - 33 = 7 := by decide
  unfold lastingL restN headN rootsL fillL
  rw [h1, h2, h3]
  simp only [List.append_assoc]
def Plain3 (p : Nm) : Prop := p.1 ≠ 1 ∧ p.1 ≠ 2 ∧ p.1 ≠ 3
theorem zeros_plain {k : Nat} {p : Nm} (h : p ∈ zerosL k) : Plain3 p := by
  unfold zerosL at h
  rw [List.eq_of_mem_replicate h]
  unfold Plain3; decide
theorem rest_plain (th sl lo' bu : Nat) : ∀ p ∈ restN th sl lo' bu, Plain3 p := by
  intro p hp
  unfold restN at hp
  simp only [List.mem_append, List.mem_singleton] at hp
  rcases hp with ((((((h | h) | h) | h) | h) | h) | h) | h
  · exact zeros_plain h
  · subst h; unfold Plain3; decide
  · exact zeros_plain h
  · unfold kindL at h
    obtain ⟨i, -, rfl⟩ := List.mem_map.1 h
    unfold Plain3; simp
  · exact zeros_plain h
  · unfold cellsL at h
    obtain ⟨t, -, h⟩ := List.mem_flatMap.1 h
    simp only [List.mem_append, List.mem_cons, List.not_mem_nil, or_false] at h
    rcases h with (rfl | rfl) | h
    · unfold Plain3; simp
    · unfold Plain3; simp
    · exact zeros_plain h
  · unfold logsL at h
    obtain ⟨t, -, h⟩ := List.mem_flatMap.1 h
    rcases List.mem_append.1 h with h | h
    · unfold rowL at h
      obtain ⟨i, -, rfl⟩ := List.mem_map.1 h
      unfold Plain3; simp
    · exact zeros_plain h
  · unfold slotsL at h
    obtain ⟨t, -, h⟩ := List.mem_flatMap.1 h
    rcases List.mem_append.1 h with h | h
    · unfold partL at h
      obtain ⟨i, -, rfl⟩ := List.mem_map.1 h
      unfold Plain3; simp only; omega
    · exact zeros_plain h
theorem head_len : headN.length = 25 := by decide
theorem lasting_one (th sl lo' bu : Nat) : ∀ p ∈ lastingL th sl lo' bu, p.1 = 1 → 0 ≤ p.2.2 ∧ p.2.2 < 8 := by
  intro p hp h1
  rw [lasting_split] at hp
  rcases List.mem_append.1 hp with h | h
  · have : ∀ p ∈ headN, p.1 = 1 → 0 ≤ p.2.2 ∧ p.2.2 < 8 := by decide
    exact this p h h1
  · exact absurd h1 (rest_plain _ _ _ _ p h).1
theorem formats_alike (th sl lo' bu : Nat) (f : Nat → Int) (S : List Value) (hS : ∀ j, j < 8 → S[j]? = some (.int .u64 (f j))) (j : Nat) (hj : j < (lastingL th sl lo' bu).length) :
    ((lastingL th sl lo' bu).map (nameW f))[j]? = some (fmtW S j) := by
  have hlk : linkW 0 (-1) = 1 := by decide
  rw [List.getElem?_map]
  by_cases h25 : j < 25
  · rw [lasting_split, List.getElem?_append_left (by rw [head_len]; exact h25)]
    by_cases h16 : j < 16
    · have hh : ∀ j : Fin 16, headN[j.1]? = some ((1 : Int), ((j.1 / 8 : Nat) : Int), ((j.1 % 8 : Nat) : Int)) := by decide
      have hx := hh ⟨j, h16⟩
      simp only at hx
      rw [hx]
      unfold fmtW nameW
      rw [if_pos h16, List.getD_eq_getElem?_getD, hS (j % 8) (by omega)]
      simp
      congr 1
    · have h : j = 16 ∨ j = 17 ∨ j = 18 ∨ j = 19 ∨ j = 20 ∨ j = 21 ∨ j = 22 ∨ j = 23 ∨ j = 24 := by omega
      unfold fmtW
      rw [hlk]
      rcases h with rfl | rfl | rfl | rfl | rfl | rfl | rfl | rfl | rfl <;> rfl
  · have hsp := lasting_split th sl lo' bu
    obtain ⟨p, hp⟩ : ∃ p, (lastingL th sl lo' bu)[j]? = some p := ⟨_, List.getElem?_eq_getElem hj⟩
    rw [hp]
    rw [hsp, List.getElem?_append_right (by rw [head_len]; omega)] at hp
    obtain ⟨a, b, c⟩ := rest_plain _ _ _ _ p (List.mem_of_getElem? hp)
    unfold fmtW nameW
    rw [if_neg (by omega), if_neg (by omega)]
    simp [a, b, c]
end Go.Proofs.YtkdcfijebgeajaaGreat

namespace Go.Proofs.YtkdcfijebgeajaaGreat
open Go.RowKit Go.BigFrame
set_option linter.unusedVariables false
set_option linter.unusedSimpArgs false
def supN (th sl lo bu : Nat) (j : Nat) : Nat := [magic, th, sl, lo, bu, 1, 0, sumW (six magic th sl lo bu 1) 7].getD j 0
def fmtN (th sl lo bu : Nat) (j : Nat) : Nat := if j < 16 then supN th sl lo bu (j % 8) else if j = 16 ∨ j = 24 then 1 else 0
theorem supWs_get (th sl lo bu : Nat) (j : Nat) (hj : j < 8) : (supWs th sl lo bu)[j]? = some (.int .u64 (supN th sl lo bu j : Nat)) := by
  have : j = 0 ∨ j = 1 ∨ j = 2 ∨ j = 3 ∨ j = 4 ∨ j = 5 ∨ j = 6 ∨ j = 7 := by omega
  rcases this with rfl | rfl | rfl | rfl | rfl | rfl | rfl | rfl <;> rfl
theorem fmtW_N (th sl lo bu : Nat) (j : Nat) : fmtW (supWs th sl lo bu) j = .int .u64 (fmtN th sl lo bu j : Nat) := by
  have hlk : linkW 0 (-1) = 1 := by decide
  unfold fmtW fmtN
  rw [hlk]
  by_cases h : j < 16
  · rw [if_pos h, if_pos h, List.getD_eq_getElem?_getD, supWs_get _ _ _ _ _ (by omega)]; rfl
  · rw [if_neg h, if_neg h]
    by_cases h2 : j = 16 ∨ j = 24
    · rw [if_pos h2, if_pos h2]; rfl
    · rw [if_neg h2, if_neg h2]; rfl
theorem fmt_line (th sl lo bu : Nat) (h : Ok4 th sl lo bu) : LineP (fmtN th sl lo bu) := ⟨h, rfl, rfl, rfl, rfl⟩
theorem fmt_line2 (th sl lo bu : Nat) (h : Ok4 th sl lo bu) : LineP (next8 (fmtN th sl lo bu)) := ⟨h, rfl, rfl, rfl, rfl⟩
theorem fmt_pick (th sl lo bu : Nat) (h : Ok4 th sl lo bu) : pickP (fmtN th sl lo bu) (next8 (fmtN th sl lo bu)) = some (fmtN th sl lo bu) := by
  unfold pickP
  rw [if_pos (fmt_line _ _ _ _ h), if_pos (fmt_line2 _ _ _ _ h), if_pos ⟨rfl, rfl, rfl, rfl⟩]
theorem fmt_err (th sl lo bu : Nat) (h : Ok4 th sl lo bu) (hb : linesN th sl lo bu ≤ 262144) : errP (fmtN th sl lo bu) (8 * linesN th sl lo bu) = 0 := by
  have h5 : 5 ≤ linesN th sl lo bu := by unfold linesN; omega
  have hw : wholeE (8 * linesN th sl lo bu) = 0 := by unfold wholeE; rw [if_neg (by omega), if_neg (by omega)]
  have hl : linesX (fmtN th sl lo bu) = linesN th sl lo bu := rfl
  unfold errP
  rw [hw, if_neg (by decide), if_neg (by omega), fmt_pick _ _ _ _ h]
  exact if_neg (fun e => e (by rw [hl]; omega))
set_option maxRecDepth 100000 in
/-- The document's words of a config. -/
theorem format33_yes (th sl lo bu : Nat) (h : Ok4 th sl lo bu) (w : World) : Calls Tryz.prog 33 #[.agg #[.int .i64 th, .int .i64 sl, .int .i64 lo, .int .i64 bu]] w (WordsDone (fun j => (supN th sl lo bu j : Int)) (lastingL th sl lo bu) (8 * linesN th sl lo bu) w) := by
  have h' := h
  unfold Ok4 at h'
  have hm : th * ((lo + 7) / 8) ≤ 64 * 9 := Nat.mul_le_mul (by omega) (by omega)
  have hnw : 8 * linesN th sl lo bu = up8 (40 + bu) + 8 * th + up8 lo * th + 8 * sl := (nw_lines th sl lo bu).symm
  refine format33 th sl lo bu _ (by unfold linesN; omega) (by unfold linesN; omega) _ _ (supWs th sl lo bu) (fun j hj => supWs_get _ _ _ _ j hj) (lasting_one th sl lo bu) (Lib.hid fun w => ?_) (Lib.hid fun w => words84 th sl lo bu h w) w
  rw [hnw]
  exact lasting59 th sl lo bu (by omega) (by omega) (by omega) (by omega) w
end Go.Proofs.YtkdcfijebgeajaaGreat

namespace Go.Proofs.YtkdcfijebgeajaaGreat
open Go.RowKit Go.BigFrame
set_option linter.unusedVariables false
set_option linter.unusedSimpArgs false
def FreshTo (th sl lo bu : Nat) (w : World) (e : Ending) (w' : World) : Prop :=
  ∃ X l m, e = .returned (.pointer (some ⟨X, 0, none⟩)) ∧ Below w.heap.size w w' ∧ w.heap.size ≤ X ∧ WorldRow w' X l m ∧ LayAt w' l (⟨th, sl, lo, bu⟩ : Cfg).lv
set_option maxRecDepth 100000 in
theorem fresh32_yes (th sl lo bu : Nat) (h : Ok4 th sl lo bu) (hb : 8 * linesN th sl lo bu ≤ 800) (w : World) : Calls Tryz.prog 32 #[.agg #[.int .i64 th, .int .i64 sl, .int .i64 lo, .int .i64 bu]] w (FreshTo th sl lo bu w) := by
  have HF := Lib.hid fun w => format25_yes th sl lo bu h w
  have HO : Hid (∀ (w1 : World) (g : Nat) (c : Array Value), w1.heap[g]? = some (.cells c 105 (0, 0)) → (∀ j, j < 8 * linesN th sl lo bu → c[j]? = some (fmtW (supWs th sl lo bu) j)) → Calls Tryz.prog 26 #[.slice (some ⟨g, 0, none⟩) (8 * linesN th sl lo bu) (8 * linesN th sl lo bu)] w1 fun e w' => ∃ X l m, e = .returned (.tuple #[.pointer (some ⟨X, 0, none⟩), .int .i64 0]) ∧ Below w1.heap.size w1 w' ∧ w1.heap.size ≤ X ∧ WorldRow w' X l m ∧ LayAt w' l (⟨th, sl, lo, bu⟩ : Cfg).lv) := Lib.hid fun w1 g c hg hc => by
    refine (open26_any (fmtN th sl lo bu) (some ⟨g, 0, none⟩) g 0 _ _ (fun _ => rfl) hb (Nat.le_refl _) (by omega) w1 (fun _ => lt_row hg) (fun j hj => by rw [Nat.zero_add, cell_in hg, hc j hj, fmtW_N])).mono fun e w' hh => ?_
    have he := fmt_err th sl lo bu h (by omega)
    rcases hh with ⟨h1, -⟩ | ⟨-, x, hp, -, X, l, m, d, kb, sb, wb, fb, pb, c0, c1, h1, h2, h3, h4, h5, -⟩
    · exact absurd he h1
    · rw [fmt_pick _ _ _ _ h] at hp
      cases hp
      exact ⟨X, l, m, h1, h2, h3, h4, h5⟩
  obtain ⟨q, hq⟩ : ∃ q, q = 8 * linesN th sl lo bu := ⟨_, rfl⟩
  rw [← hq] at HF HO
  clear h hb hq
  go_enter Tryz.func32, Tryz.ntmps32
  go_wp2_with fail
  refine (HF.out _).mono ?_
  rintro e w1 ⟨g, c, rfl, hb, hg1, hgc, -, hcc⟩
  have R1 := Lib.hid (And.intro hgc hcc)
  have B1 : Hid (Below w.heap.size w w1) := Lib.hid ((Below.refl _ _ |>.alloc (Nat.le_refl _) _).trans (hb.mono (by simp)))
  clear hb hg1 hgc hcc
  go_wp2_with fail
  refine (HO.out _ g c R1.out.1 R1.out.2).mono ?_
  rintro e w2 ⟨X, l, m, rfl, hb, hX, hw, hl⟩
  have B2 := Lib.hid (And.intro (B1.out.trans (hb.mono B1.out.size)) (And.intro (Nat.le_trans B1.out.size hX) (And.intro hw hl)))
  clear hb hX hw hl
  go_wp2_with fail
  go_ret
  exact ⟨X, l, m, rfl, B2.out⟩
end Go.Proofs.YtkdcfijebgeajaaGreat

namespace Go.Proofs.YtkdcfijebgeajaaGreat
open Go.RowKit Go.BigFrame
set_option linter.unusedVariables false
set_option linter.unusedSimpArgs false
def AlikeOff (W : World) (a b : Option Addr) (n : Nat) (l : Nat → Int) : Prop :=
  0 < n → ∃ g h o, a = some ⟨g, 0, none⟩ ∧ b = some ⟨h, o, none⟩ ∧ g < W.heap.size ∧ h < W.heap.size ∧ ∀ j, j < n → W.cell? ⟨g, j, none⟩ = some (.int .u64 (l j)) ∧ W.cell? ⟨h, o + j, none⟩ = some (.int .u64 (l j))
set_option maxRecDepth 100000 in
theorem same29_off (a b : Option Addr) (n ca cb : Nat) (hn : n ≤ 2097152) (l : Nat → Int) (W : World) (h : AlikeOff W a b n l) :
    Calls Tryz.prog 29 #[.slice a n ca, .slice b n cb] W (Gives (.bool true) W) := by
  have HA := Lib.hid h
  clear h
  go_enter Tryz.func29, Tryz.ntmps29
  go_wp2_with fail
  go_loopw [5] (fun i wr => ∃ k : Nat, k ≤ n ∧ i = .int .i64 k ∧ Hid (Below W.heap.size W wr)) (fun i _ => n - (intOf i).toNat)
  case atStart => exact ⟨0, Nat.zero_le _, rfl, Lib.hid (Below.refl _ _)⟩
  case round =>
    obtain ⟨k, hk, rfl, HB⟩ := hrel
    by_cases hlt : k < n
    · obtain ⟨g, h, o, rfl, rfl, hg, hh, hc⟩ := HA.out (by omega)
      obtain ⟨x, y⟩ := hc k hlt
      have x' : wr.cell? ⟨g, k, none⟩ = some (.int .u64 (l k)) := (HB.out.cell (p := ⟨g, k, none⟩) hg).trans x
      have y' : wr.cell? ⟨h, o + k, none⟩ = some (.int .u64 (l k)) := (HB.out.cell (p := ⟨h, o + k, none⟩) hh).trans y
      have e1 : decide ((k : Int) < (n : Int)) = true := by simp; omega
      have e2 : (0 : Int) ≤ (k : Int) := by omega
      have e3 : (k : Int) < (n : Int) := by omega
      clear hc x y
      generalize l k = v at *
      go_wp2_with fail
      go_quiet (fail)
      go_wp2_with fail
      go_roundw
      case rel => exact ⟨k + 1, by omega, by go_num, Lib.hid (HB.out.trans ⟨rfl, rfl, rfl, Nat.le_refl _, fun _ _ => rfl⟩)⟩
      case measure => simp [intOf]; omega
    · obtain rfl : k = n := by omega
      have e1 : decide ((k : Int) < (k : Int)) = false := by simp
      go_wp2_with fail
      go_ret
      exact ⟨rfl, HB.out⟩
end Go.Proofs.YtkdcfijebgeajaaGreat
