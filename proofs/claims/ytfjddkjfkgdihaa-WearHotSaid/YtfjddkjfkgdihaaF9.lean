/- Walk of wear.Hot (layer 33): the lines, sorted, and cut. -/
import Derived.Test.YtfjddkjfkgdihaaF8
import Derived.Test.YtfjddkjfkgdihaaW7
namespace Go.Proofs.Ytfjddkjfkgdihaa
open Go.RowKit Go.BigFrame
set_option linter.unusedVariables false
set_option linter.unusedSimpArgs false

/-- How many are told. -/
def cutK (k : Int) (m : Nat) : Nat := if k ≤ 0 then 0 else if k < m then k.toNat else m
/-- The slice holds R 0 .. R (n - 1). -/
def LinesAt (w : World) (a : Option Addr) (n cap : Nat) (R : Nat → Nat) : Prop :=
  n ≤ cap ∧ cap ≤ maxLen ∧ ∀ t, t < n → ∃ b, a = some ⟨b, 0, none⟩ ∧ b < w.heap.size ∧ w.cell? ⟨b, t, none⟩ = some (.int .i64 (R t))
theorem LinesAt.below {w w' : World} {a : Option Addr} {n cap : Nat} {R : Nat → Nat} (h : LinesAt w a n cap R) (hb : Below w.heap.size w w') : LinesAt w' a n cap R :=
  ⟨h.1, h.2.1, fun t ht => by
    obtain ⟨b, e, h1, h2⟩ := h.2.2 t ht
    exact ⟨b, e, Nat.lt_of_lt_of_le h1 hb.size, (hb.cell (p := ⟨b, t, none⟩) h1).trans h2⟩⟩
def HotTo (z : Nat → Int) (len : Nat) (k : Int) (w : World) (e : Ending) (w' : World) : Prop :=
  ∃ R m a cap, e = .returned (.slice a (cutK k m) cap) ∧ Below w.heap.size w w' ∧ Best z len m R ∧ m ≤ len ∧ LinesAt w' a (cutK k m) cap R

theorem line_own {w : World} {base : Nat} {v : Value} {l : List Nat} (h : w.ownsRow base 3 1 v l.length (lineVals l)) (hn : 0 < l.length) :
    ∃ g cap, v = .slice (some ⟨g, 0, none⟩) l.length cap ∧ base ≤ g ∧ g < w.heap.size ∧ l.length ≤ cap ∧ cap ≤ maxLen ∧ (∀ t, t < l.length → w.cell? ⟨g, 0 + t, none⟩ = some (.int .i64 (l.getD t 0 : Nat))) ∧ ∀ t, w.frozen? ⟨g, t, none⟩ = false := by
  rcases h.2 with ⟨rfl, h0⟩ | ⟨g, cap, cur, rfl, hb, hg, hnc, hcm, hcs, htake⟩
  · omega
  · refine ⟨g, cap, rfl, hb, (Array.getElem?_eq_some_iff.1 hg).1, hnc, hcm, fun t ht => ?_, fun t => ?_⟩
    · have := World.ownsRow.cellAt (h := ⟨h.1, .inr ⟨g, cap, cur, rfl, hb, hg, hnc, hcm, hcs, htake⟩⟩) t (by omega)
      rw [Nat.zero_add, this]
      simp [lineVals, ht]
    · unfold World.frozen?; rw [hg]; simp

theorem hotTo_mk {z : Nat → Int} {len m K cap : Nat} {k : Int} {w w' : World} {a : Option Addr} {R : Nat → Nat} (hK : K = cutK k m) (hb : Below w.heap.size w w') (hB : Best z len m R) (hm : m ≤ len) (hL : LinesAt w' a (cutK k m) cap R) : HotTo z len k w (.returned (.slice a K cap)) w' :=
  ⟨R, m, a, cap, by rw [hK], hb, hB, hm, hL⟩

theorem cutK_le (k : Int) (m : Nat) : cutK k m ≤ m := by unfold cutK; split; omega; split <;> omega
set_option maxRecDepth 100000 in
set_option maxHeartbeats 4000000 in
theorem hot53 (a : Option Addr) (len cap : Nat) (z : Nat → Int) (k : Int) (w : World) (h : IntsAt .i64 w a len cap z) (hl : len ≤ 300) (hk : -9223372036854775808 ≤ k ∧ k ≤ 9223372036854775807) :
    Calls Try.prog 53 #[.slice a len cap, .int .i64 k] w (HotTo z len k w) := by
  have hmf : ∀ (fn : Fn) (first cap : Array Value) (w : World), (Instr.makeFunc fn first cap).run Try.prog w = .ok (.func fn first cap) w := fun _ _ _ _ => rfl
  obtain ⟨i3, hi, hz0, hz1, hz2⟩ := info_parts info3
  obtain ⟨hlc, hcm, hc⟩ := h
  unfold maxLen at hcm
  have HC := Lib.hid hc
  clear hc
  obtain ⟨q, hq⟩ : ∃ q, q = w.heap.size := ⟨_, rfl⟩
  obtain ⟨W, hW⟩ : ∃ W, W = w.alloc (.cells #[.slice a len cap] 37) := ⟨_, rfl⟩
  have HQ := Lib.hid hq
  have hbw : Below q w W := by rw [hW, hq]; exact (Below.refl _ _).alloc (Nat.le_refl _) _
  have hqc : W.heap[q]? = some (.cells #[.slice a len cap] 37 (0, 0)) := by rw [hW, hq]; exact heap_alloc_new _ _
  have hqs : W.heap.size = q + 1 := by rw [hW, hq]; simp
  have HBW := Lib.hid hbw
  have HQC := Lib.hid hqc
  have HQS := Lib.hid hqs
  have HWW := Lib.hid hW
  clear hbw hqc hqs
  go_enter Try.func53, Try.ntmps53
  go_upto_region 1 with fail
  rw [← hq]
  rw [show w.alloc (.cells #[.slice a len cap] 37) = W from hW.symm]
  clear hW hq
  have hq0 : W.cell? ⟨q, 0, none⟩ = some (.slice a len cap) := by rw [cell_of_row _ _ _ _ _ _ HQC.out]; rfl
  go_wp2_with fail
  go_loopw [5, 10] (fun v i wr => ∃ n : Nat, n ≤ len ∧ i = .int .i64 n ∧ Hid (wr.ownsRow (q + 1) 3 1 v (hits z n).length (lineVals (hits z n))) ∧ Hid ((hits z n).length = 0 → v = .slice none 0 0) ∧ Hid (Below (q + 1) W wr)) (fun _ i _ => len - (intOf i).toNat)
  case atStart => exact ⟨0, Nat.zero_le _, rfl, World.ownsRow_nil _ _ _ _, Lib.hid (fun _ => rfl), Lib.hid (Below.refl _ _)⟩
  case round =>
    obtain ⟨n, hn, rfl, HO, HE0, HB⟩ := hrel
    have hqw : q + 1 ≤ wr.heap.size := by have := HB.out.size; rw [HQS.out] at this; exact this
    by_cases hlt : n < len
    · obtain ⟨b, off, rfl, hb, hcell, hwf⟩ := HC.out n hlt
      have hcell : wr.cell? ⟨b, off + n, none⟩ = some (.int .i64 (z n)) := by
        rw [HB.out.cell (p := ⟨b, off + n, none⟩) (by have := HQ.out; show b < q + 1; omega), HBW.out.cell (p := ⟨b, off + n, none⟩) (by rw [HQ.out]; exact hb)]; exact hcell
      have i0 : (0 : Int) ≤ (n : Int) := by omega
      have i1 : (n : Int) < (len : Int) := by omega
      have HLN : Hid ((hits z n).length ≤ 300) := Lib.hid (by have := hits_len z n; omega)
      have HNX : Hid (hits z (n + 1) = hits z n ++ (if 0 < z n then [n] else [])) := Lib.hid rfl
      clear hwf
      generalize z n = y at *
      by_cases hy : 0 < y
      · have HN : Hid (hits z (n + 1) = hits z n ++ [n]) := Lib.hid (by rw [HNX.out, if_pos hy])
        clear HNX
        go_wp2_with (at_builtin; refine wpList_push rfl (.tmp 17) (.tmp 19) 37 rfl (q + 1) 3 i3 (.int .i64 0) 1 8 Try.underlying37 hi hz0 hz1 hz2 rfl (by decide) wr hqw u5 (hits z n).length (lineVals (hits z n)) rfl HO.out #[.int .i64 n] 1 1 rfl rfl (by simp [Value.oneCell']) (by have := HLN.out; unfold maxLen; omega) (by have := HLN.out; omega) ?_; intro v' w' hown hgr hbel hne; have HO' := Lib.hid hown; have HB' := Lib.hid (hbel (q + 1) W HB.out (Nat.le_refl _)); clear hown hgr hbel hne)
        go_roundw
        case rel => exact ⟨n + 1, by omega, by go_num, Lib.hid (by rw [HN.out, lineVals_append, List.length_append]; exact HO'.out), Lib.hid (fun e => by rw [HN.out, List.length_append] at e; simp at e), HB'⟩
        case measure => simp [intOf]; omega
      · have HN : Hid (hits z (n + 1) = hits z n) := Lib.hid (by rw [HNX.out, if_neg hy, List.append_nil])
        clear HNX
        go_wp2_with fail
        go_roundw
        case rel => exact ⟨n + 1, by omega, by go_num, Lib.hid (by rw [HN.out]; exact HO.out), Lib.hid (by rw [HN.out]; exact HE0.out), HB⟩
        case measure => simp [intOf]; omega
    · obtain rfl : n = len := by omega
      obtain ⟨m, hm⟩ : ∃ m, m = (hits z n).length := ⟨_, rfl⟩
      have hml : m ≤ n := by rw [hm]; exact hits_len z n
      have HBX : Hid (Below w.heap.size w wr) := Lib.hid (by rw [← HQ.out]; exact HBW.out.trans (HB.out.mono (by omega)))
      by_cases h0 : m = 0
      · have hv := HE0.out (by omega)
        have HBE : Hid (∀ R, Best z n 0 R) := Lib.hid (best_none (by omega))
        have hK : cutK k 0 = 0 := by unfold cutK; split <;> (try rfl); split <;> omega
        clear HO HE0 HB hm
        subst hv
        go_wp2_with fail
        refine (sort_none _ _).mono ?_
        rintro e w2 ⟨rfl, rfl⟩
        by_cases hk0 : k ≤ 0
        · go_wp2_with fail
          all_goals first
            | (exfalso; omega)
            | (go_ret; exact hotTo_mk (m := 0) (R := fun _ => 0) (by rw [hK]; try omega) HBX.out (HBE.out _) (Nat.zero_le _) ⟨by rw [hK]; exact Nat.zero_le _, by simp [maxLen], fun t ht => by rw [hK] at ht; omega⟩)
        · go_wp2_with fail
          all_goals first
            | (exfalso; omega)
            | (go_ret; exact hotTo_mk (m := 0) (R := fun _ => 0) (by rw [hK]; try omega) HBX.out (HBE.out _) (Nat.zero_le _) ⟨by rw [hK]; exact Nat.zero_le _, by simp [maxLen], fun t ht => by rw [hK] at ht; omega⟩)
      · obtain ⟨g, c5, hv, hqg, hgs, hmc, hcm5, hcell5, hfree5⟩ := line_own HO.out (by omega)
        rw [← hm] at hv hmc hcell5
        have hD : Hid (DataAt wr wr g 0 m (hitAt z n)) := Lib.hid ⟨hgs, hcell5, fun t _ => hfree5 (0 + t), But.refl _ _ _⟩
        obtain ⟨bw, ow, rfl, hbw, -, -⟩ := HC.out 0 (by omega)
        have hENV : Hid (EnvOut wr g q bw ow n cap z) := Lib.hid (by
          have hq := HQ.out
          refine ⟨⟨?_, fun i hi => ?_⟩, by omega, by omega, by omega, by omega⟩
          · rw [HB.out.cell (p := ⟨q, 0, none⟩) (by show q < q + 1; omega)]; exact hq0
          · obtain ⟨b, off, e, hb, hcell, hwf⟩ := HC.out i hi
            cases e
            rw [HB.out.cell (p := ⟨bw, ow + i, none⟩) (by show bw < q + 1; omega), HBW.out.cell (p := ⟨bw, ow + i, none⟩) (by show bw < q; omega)]; exact hcell)
        have hasc : AscOn (hitAt z n) 0 m := by rw [hm]; exact hits_asc z n
        have hlw : ∀ t, t < m → hitAt z n t < n := fun t ht => ((hits_mem z n _).1 (hitAt_mem z n t (by omega))).1
        have HS := Lib.hid (sort75 g 0 m c5 q bw ow n cap z (hitAt z n) wr wr hD.out hENV.out hlw (by omega) hasc)
        have HBE : Hid (∀ R, Merged z (hitAt z n) R 0 m → Best z n m R) := Lib.hid fun R hR => by rw [hm] at hR ⊢; exact best_of hR
        unfold maxLen at hcm5
        have hwg : w.heap.size ≤ g := by have := HQ.out; omega
        clear HO HE0 HB hm hcell5 hfree5 hasc hlw hD hENV hq0
        subst hv
        go_wp2_with fail
        refine HS.out.mono ?_
        rintro e w2 ⟨rfl, R, hd, hmg⟩
        have HB2 := Lib.hid (HBE.out R hmg)
        have HD2 := Lib.hid hd
        have HBX2 : Hid (Below w.heap.size w w2) := Lib.hid (But.below HBX.out hd.but hwg hwg HBX.out.size)
        have HLA : Hid (∀ K, K ≤ m → LinesAt w2 (some ⟨g, 0, none⟩) K c5 R) := Lib.hid fun K hK => ⟨by omega, by unfold maxLen; omega, fun t ht => ⟨g, rfl, Nat.lt_of_lt_of_le hgs hd.but.size, by have := hd.cell t (by omega); rw [Nat.zero_add] at this; exact this⟩⟩
        clear hd hmg HBX
        go_wp2_with fail
        all_goals first
          | (exfalso; omega)
          | (go_ret; exact hotTo_mk (by unfold cutK; split <;> (try split) <;> omega) HBX2.out HB2.out hml (HLA.out _ (cutK_le _ _)))
end Go.Proofs.Ytfjddkjfkgdihaa
