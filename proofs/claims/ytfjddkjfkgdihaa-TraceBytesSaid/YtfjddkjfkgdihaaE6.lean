/- Walks of the reference's join and Write (the ways printed by e6.py). -/
import Derived.Test.YtfjddkjfkgdihaaE5
import Derived.Maps.AppendAt
import Derived.Deep.CutRange
namespace Go.Proofs.Ytfjddkjfkgdihaa
open Go.RowKit Go.BigFrame
set_option linter.unusedVariables false
set_option linter.unusedSimpArgs false

theorem wpList_byte_at {ops : Array Oper} {rest : List Oper} {o : Oper} {a : Act} {Q : Exit → Act → World → Prop} (hgd : o.guard = none) (s x : Operand)
    (ho : o.op = .call { callee := .builtin .append, args := #[s, x], argTypes := #[40, 40] }) (base : Nat) (wr : World) (hbase : base ≤ wr.heap.size) (v : Value) (n : Nat) (xs : List Int) (hs : a.eval s = v) (hown : wr.ownsRow base 5 1 v n (u8s xs))
    (f : Int) (hx : a.eval x = .slice (some ⟨wr.heap.size, 0, none⟩) 1 1) (hn : n ≤ 1000000)
    (h : ∀ v' w', w'.ownsRow base 5 1 v' (n + 1) (u8s (xs ++ [f])) → Keep5 base wr w' → (∀ g, g < wr.heap.size → some g ≠ v.ownBlock → w'.heap[g]? = wr.heap[g]? ∧ some g ≠ v'.ownBlock) → wpList Try.prog ops Q rest (a.put o.dst v') w') :
    wpList Try.prog ops Q (o :: rest) a (wr.alloc (.cells #[.int .u8 f] 5)) := by
  obtain ⟨i5, hi, hz0, hz1, hz2⟩ := info_parts info5
  refine wpList_append_own_at _ hgd s x 40 ho base 5 i5 (.int .u8 0) 1 1 Try.underlying40 hi hz0 hz1 hz2 rfl (by decide) v n (u8s xs) hs (hown.alloc _) ⟨wr.heap.size, 0, none⟩ 1 1 [.int .u8 f] hx rfl (fun j u hj => cell_alloc wr _ _ j u hj) (by simp [Value.oneCell']) (by unfold maxLen; omega) (by omega) (by simp; omega) ?_
  intro v' w' ho' hg' hn' hat
  refine h v' w' (by rw [u8s_append]; exact ho') (keep5_alloc (keep5_of (hown.alloc _) hg' (by simp; omega)) hbase) (fun g hlt hne => ⟨?_, ?_⟩)
  · rw [hg'.block g (by simp; omega) hne, Below.heap_alloc _ _ _ hlt]
  · rcases hat with e | e
    · rw [e]; exact hne
    · rw [e]; simp; omega

def JoinTo (base n : Nat) (xs M : List Int) (w : World) (e : Ending) (w' : World) : Prop :=
  ∃ v', e = .returned v' ∧ w'.ownsRow base 5 1 v' (n + M.length) (u8s (xs ++ M)) ∧ Keep5 base w w'

set_option maxRecDepth 100000 in
set_option maxHeartbeats 1000000 in
theorem join_any (v : Value) (base n : Nat) (xs M : List Int) (g m c : Nat) (w : World) (hm : M.length = m) (hown : w.ownsRow base 5 1 v n (u8s xs)) (hb : base ≤ w.heap.size) (hg : g < w.heap.size) (hne : some g ≠ v.ownBlock) (hc : ∀ j, j < m → w.cell? ⟨g, j, none⟩ = (u8s M)[j]?) (hn : n ≤ 900000) (hm1 : m ≤ 1000) :
    Calls Try.prog 73 #[v, .slice (some ⟨g, 0, none⟩) m c] w (JoinTo base n xs M w) := by
  have HC := Lib.hid hc
  have HM := Lib.hid hm
  have HO := Lib.hid hown
  have HNE := Lib.hid hne
  clear hc hm hown hne
  obtain ⟨w0, hw0⟩ : ∃ w0, w0 = w := ⟨_, rfl⟩
  have HW0 := Lib.hid hw0
  go_enter Try.func73, Try.ntmps73
  go_wp2_with fail
  go_loopw [0, 5] (fun v i wr => ∃ j : Nat, j ≤ m ∧ i = .int .i64 j ∧ Hid (wr.ownsRow base 5 1 v (n + j) (u8s (xs ++ M.take j))) ∧ Hid (wr.heap[g]? = w0.heap[g]?) ∧ Hid (some g ≠ v.ownBlock) ∧ Hid (Keep5 base w0 wr) ∧ w0.heap.size ≤ wr.heap.size) (fun _ i _ => m - (intOf i).toNat)
  case atStart => exact ⟨0, Nat.zero_le _, rfl, Lib.hid (by simpa using HO.out), by rw [hw0]; exact Lib.hid rfl, HNE, by rw [hw0]; exact Lib.hid (Keep5.refl _ _), by rw [hw0]; exact Nat.le_refl _⟩
  case round =>
    clear HO HNE
    obtain ⟨j, hj, rfl, HO, HGB, HNE, HK, hsz⟩ := hrel
    by_cases hlt : j < m
    · have hcj : wr.cell? ⟨g, j, none⟩ = some (.int .u8 (M.getD j 0)) := by
        rw [cell_of_heap (w := w0) HGB.out, HW0.out, HC.out j hlt]
        have : j < M.length := by rw [HM.out]; exact hlt
        simp [u8s, List.getD_eq_getElem?_getD, this]
      have HTK : Hid (M.take (j + 1) = M.take j ++ [M.getD j 0]) := Lib.hid (by
        have : j < M.length := by rw [HM.out]; exact hlt
        rw [List.take_succ_eq_append_getElem this]; simp [List.getD_eq_getElem?_getD, this])
      generalize M.getD j 0 = f at *
      have hg0 : g < wr.heap.size := by rw [← hw0] at hg; omega
      have hbw : base ≤ wr.heap.size := by rw [← hw0] at hb; omega
      clear hw0
      have j0 : (0 : Int) ≤ (j : Int) := by omega
      have j1 : (j : Int) < (m : Int) := by omega
      go_wp2_with (at_builtin; refine wpList_byte_at rfl (.tmp 12) (.tmp 17) rfl base wr hbw u0 (n + j) (xs ++ M.take j) rfl HO.out f rfl (by omega) ?_; intro v' w' hown hk hfr; have HO' := Lib.hid hown; have HK' := Lib.hid (HK.out.trans hk); have HF := Lib.hid (hfr g hg0 HNE.out); have hsz' : w0.heap.size ≤ w'.heap.size := Nat.le_trans hsz (hk.below base wr (Below.refl _ _) (Nat.le_refl _)).size; clear hown hk hfr)
      go_roundw
      case rel => exact ⟨j + 1, by omega, by go_num, Lib.hid (by rw [HTK.out, ← List.append_assoc]; exact HO'.out), Lib.hid (HF.out.1.trans HGB.out), Lib.hid HF.out.2, HK', hsz'⟩
      case measure => simp [intOf]; omega
    · obtain rfl : j = m := by omega
      go_wp2_with fail
      go_ret
      refine ⟨u0, rfl, ?_, by rw [← HW0.out]; exact HK.out⟩
      have := HO.out
      rw [List.take_of_length_le (by rw [HM.out]; exact Nat.le_refl _)] at this
      rw [HM.out]; exact this

theorem own_bytes2 {w : World} {base : Nat} {v : Value} {n : Nat} {M : List Int} (h : w.ownsRow base 5 1 v n (u8s M)) (hn : 0 < n) : ∃ g c, v = .slice (some ⟨g, 0, none⟩) n c ∧ M.length = n ∧ base ≤ g ∧ g < w.heap.size ∧ ∀ j, j < n → w.cell? ⟨g, j, none⟩ = (u8s M)[j]? := by
  have hl : M.length = n := by have := h.1; rw [u8s_len] at this; omega
  obtain ⟨a, c, rfl, h2⟩ := own_form3 h
  obtain ⟨g, rfl, h3, h4, h5⟩ := h2 hn
  exact ⟨g, c, rfl, hl, h3, h4, fun j hj => h5 j (by omega)⟩
theorem own_lt {w : World} {base : Nat} {v : Value} {n : Nat} {xs : List Value} (h : w.ownsRow base 5 1 v n xs) {g : Nat} (hg : w.heap.size ≤ g) : some g ≠ v.ownBlock := fun e => by
  have := h.lt g e.symm; omega
/-- A number's bytes, joined behind bytes: what the two calls together do. -/
structure Num5 (base n : Nat) (v : Value) (xs M : List Int) (wa w' : World) (g q : Nat) : Prop where
  len : M.length = q
  own : w'.ownsRow base 5 1 v n (u8s xs)
  keep : Keep5 base wa w'
  base : base ≤ w'.heap.size
  lt : g < w'.heap.size
  ne : some g ≠ v.ownBlock
  cell : ∀ j, j < q → w'.cell? ⟨g, j, none⟩ = (u8s M)[j]?
theorem num5_of {base n k : Nat} {v y : Value} {xs : List Int} {wa w' : World} (hb : Below wa.heap.size wa w') (hy : w'.ownsRow wa.heap.size 5 1 y (numB k).length (u8s (numB k))) (hown : wa.ownsRow base 5 1 v n (u8s xs)) (hbase : base ≤ wa.heap.size) :
    ∃ g c, y = .slice (some ⟨g, 0, none⟩) (numB k).length c ∧ Num5 base n v xs (numB k) wa w' g (numB k).length := by
  obtain ⟨g, c, rfl, hl, h1, h2, h3⟩ := own_bytes2 hy (by have := numB_len1 k; omega)
  exact ⟨g, c, rfl, rfl, own_below5 hown hb, Keep5.of_below hb hbase, Nat.le_trans hbase hb.size, h2, own_lt hown h1, h3⟩

def RefWriteTo (c : Nat → AccD) (len : Nat) (w : World) (e : Ending) (w' : World) : Prop :=
  ∃ a n cap, e = .returned (.slice a n cap) ∧ w'.ownsRow w.heap.size 5 1 (.slice a n cap) n (u8s (encAll c len)) ∧ Below w.heap.size w w'

set_option maxRecDepth 100000 in
set_option maxHeartbeats 8000000 in
theorem refWrite_ok (a : Option Addr) (len cap : Nat) (c : Nat → AccD) (w : World) (h : AccsAt w a len cap c) (hl : len ≤ 300) (hg : ∀ i, i < len → (c i).good) :
    Calls Try.prog 50 #[.slice a len cap] w (RefWriteTo c len w) := by
  have HG := Lib.hid hg
  obtain ⟨hlc, hcm, hcell⟩ := h
  unfold maxLen at hcm
  have HC := Lib.hid hcell
  clear hcell hg
  obtain ⟨B, hB⟩ : ∃ B, B = w.heap.size := ⟨_, rfl⟩
  have HB := Lib.hid hB; clear hB
  have HLN := Lib.hid (numB_len10 len (by omega))
  go_enter Try.func50, Try.ntmps50
  go_wp2_with fail
  refine (refNumber_any len (by omega) w).mono ?_
  rintro e w2 ⟨v, rfl, hb2, hown⟩
  have HB2 : Hid (Below B w w2) := Lib.hid (by rw [HB.out]; exact hb2)
  have HO2 : Hid (w2.ownsRow B 5 1 v (numB len).length (u8s (numB len ++ (bodyTo c 0).1))) := Lib.hid (by
    simp only [bodyTo, List.append_nil]; rw [HB.out]; exact hown)
  clear hb2 hown
  go_wp2_with fail
  go_loopw [3, 4, 5] (fun v l i wr => ∃ k n : Nat, k ≤ len ∧ i = .int .i64 k ∧ l = .int .i64 (bodyTo c k).2 ∧ n ≤ 10 + 41 * k ∧ Hid (wr.ownsRow B 5 1 v n (u8s (numB len ++ (bodyTo c k).1))) ∧ Hid (Below B w wr)) (fun _ _ i _ => len - (intOf i).toNat)
  case atStart => exact ⟨0, (numB len).length, Nat.zero_le _, rfl, rfl, by have := HLN.out; omega, HO2, HB2⟩
  case round =>
    clear HO2 HB2
    obtain ⟨k, n, hk, rfl, rfl, hn, HO, HBE⟩ := hrel
    by_cases hlt : k < len
    · obtain ⟨b, off, rfl, hb, hc⟩ := HC.out k hlt
      obtain ⟨d0, d1, d2, d3, d4, d5⟩ := hc.of (w' := wr) fun o => HBE.out.cell (p := ⟨b, o, none⟩) (by rw [HB.out]; exact hb)
      have hsz := HBE.out.size
      have hBw : B ≤ wr.heap.size := by rw [HB.out]; exact hsz
      have hgk := HG.out k hlt
      have hlb := last_bd (c := c) (n := k) (fun i hi => (HG.out i (by omega)).1)
      have HEL := Lib.hid (enc_len hgk hlb)
      have HST : Hid ((bodyTo c (k + 1)).1 = (bodyTo c k).1 ++ (c k).enc (bodyTo c k).2 ∧ (bodyTo c (k + 1)).2 = (c k).next (bodyTo c k).2) := Lib.hid ⟨rfl, rfl⟩
      have HXS : Hid (∃ X : List Int, X = numB len ++ (bodyTo c k).1) := Lib.hid ⟨_, rfl⟩
      obtain ⟨XS, hXS⟩ := HXS.out
      rw [← hXS] at HO
      have HXS := Lib.hid hXS
      clear hXS hc
      generalize c k = x at *
      obtain ⟨L, hL⟩ : ∃ L, L = (bodyTo c k).2 := ⟨_, rfl⟩
      rw [← hL] at HST HEL hlb ⊢
      have HL := Lib.hid hL; clear hL
      obtain ⟨l0, l1⟩ := hlb
      obtain ⟨hm, o0, o1, n0, n1⟩ := hgk
      obtain ⟨k0, k1, t0, t1, p0, p1, -⟩ := AccD.may_out hm
      obtain ⟨ki, th, pl, ol, ne, dn⟩ := x
      simp only at k0 k1 t0 t1 p0 p1 o0 o1 n0 n1 d0 d1 d2 d3 d4 d5
      obtain ⟨th, rfl⟩ := Int.eq_ofNat_of_zero_le t0
      obtain ⟨ol, rfl⟩ := Int.eq_ofNat_of_zero_le o0
      obtain ⟨ne, rfl⟩ := Int.eq_ofNat_of_zero_le n0
      have HFB := Lib.hid (AccD.first_bd hm)
      have HFI : Hid (AccD.first ⟨ki, th, pl, ol, ne, dn⟩ = ki + 16 * ((th : Int) % 8) + (if dn = true then 8 else 0)) := Lib.hid rfl
      obtain ⟨WA, hWA⟩ : ∃ WA, WA = wr.alloc (.cells (AccD.cells ⟨ki, th, pl, ol, ne, dn⟩) 50) := ⟨_, rfl⟩
      have HBX : Hid (WA.heap[wr.heap.size]? = some (.cells (AccD.cells ⟨ki, th, pl, ol, ne, dn⟩) 50 (0, 0))) := Lib.hid (by rw [hWA]; exact heap_alloc_new _ _)
      have HNX : Hid (AccD.next ⟨ki, th, pl, ol, ne, dn⟩ L = if ki = 5 then L else pl) := Lib.hid rfl
      have HEN : Hid (AccD.enc ⟨ki, th, pl, ol, ne, dn⟩ L = AccD.first ⟨ki, th, pl, ol, ne, dn⟩ :: (numB th ++ ((if ki = 5 then [] else numB (sgn (pl - L)).toNat) ++ ((if ki ≤ 3 then numB ol else []) ++ (if ki = 2 ∨ ki = 3 then numB ne else []))))) := Lib.hid rfl
      have HOA : Hid (WA.ownsRow B 5 1 u3 n (u8s XS)) := Lib.hid (by rw [hWA]; exact HO.out.alloc _)
      have HBA : Hid (Below B w WA) := Lib.hid (by rw [hWA]; exact HBE.out.alloc hBw _)
      have hBA : B ≤ WA.heap.size := by rw [hWA]; simp; omega
      simp only [AccD.cells] at hWA
      have HWA := Lib.hid hWA; clear hWA
      obtain ⟨p, hp⟩ : ∃ p, p = wr.heap.size := ⟨_, rfl⟩
      rw [← hp] at HBX
      have HPP := Lib.hid hp; clear hp
      obtain ⟨f, hf⟩ : ∃ f, f = AccD.first ⟨ki, th, pl, ol, ne, dn⟩ := ⟨_, rfl⟩
      rw [← hf] at HFB HFI HEN
      obtain ⟨E, hE⟩ : ∃ E, E = AccD.enc ⟨ki, th, pl, ol, ne, dn⟩ L := ⟨_, rfl⟩
      rw [← hE] at HEN HEL HST
      obtain ⟨nx, hnx⟩ : ∃ nx, nx = AccD.next ⟨ki, th, pl, ol, ne, dn⟩ L := ⟨_, rfl⟩
      rw [← hnx] at HNX HST
      clear hf hE hnx hm HO
      have HNT := Lib.hid fun w => refNumber_any th (by omega) w
      have HLT := Lib.hid (numB_len10 th (by omega))
      have s0 := sgn_lo (pl - L)
      have s1 := sgn_hi (pl - L) (by omega) (by omega)
      have HSG := Lib.hid fun w => refSigned_any (pl - L) (by omega) (by omega) w
      obtain ⟨sp, hsp⟩ := Int.eq_ofNat_of_zero_le s0
      rw [hsp] at HSG HEN s1
      rw [Int.toNat_natCast] at HEN
      clear s0 hsp
      have HNP := Lib.hid fun w => refNumber_any sp (by omega) w
      have HLP := Lib.hid (numB_len10 sp (by omega))
      have HNO := Lib.hid fun w => refNumber_any ol (by omega) w
      have HLO := Lib.hid (numB_len10 ol (by omega))
      have HNN := Lib.hid fun w => refNumber_any ne (by omega) w
      have HLE := Lib.hid (numB_len10 ne (by omega))
      rcases (show ki = 1 ∨ ki = 2 ∨ ki = 3 ∨ ki = 4 ∨ ki = 5 by omega) with rfl | rfl | rfl | rfl | rfl
      · cases dn
        all_goals
          have hfv := HFI.out
          have hf0 := HFB.out
          simp only [if_true, if_false, Bool.false_eq_true, Int.add_zero] at hfv
          have HFV := Lib.hid hfv
          have hfw : IntKind.u8.wrap f = f := IntWalk.u8_in _ (by omega)
          rw [hfv] at hfw hf0
          obtain ⟨hf1, hf2⟩ := hf0
          clear hfv
          go_upto_region 10 with fail
          rw [← HWA.out]
          go_wp2_with (at_builtin; refine wpList_byte rfl (.tmp 33) (.tmp 36) rfl B WA hBA u3 n XS rfl HOA.out _ 1 1 rfl (by omega) ?_; intro v1 w1 hown1 hk1; have HO1 := Lib.hid hown1; have HK1 := Lib.hid hk1; have HP1 := Lib.hid (hk1.other p _ _ _ HBX.out (by decide)); have hb1 : B ≤ w1.heap.size := (hk1.below B _ (Below.refl _ _) (Nat.le_refl _)).size |> Nat.le_trans hBA; clear d0 d1 d2 d3 d4 d5 hown1 hk1; obtain ⟨d0, d1, d2, d3, d4, d5⟩ := acc_cells HP1.out; rw [HPP.out] at d0 d1 d2 d3 d4 d5)
          clear hfw hf1 hf2
          rw [← HFV.out] at HO1
          refine (HNT.out _).mono ?_
          rintro e w2 ⟨y2, rfl, hb2', hy2⟩
          obtain ⟨g2, c2, rfl, hn2⟩ := num5_of hb2' hy2 HO1.out hb1
          have HN2 := Lib.hid hn2
          have HK2 := Lib.hid (HK1.out.trans hn2.keep)
          have HP2 := Lib.hid ((hb2'.block p (Array.getElem?_eq_some_iff.1 HP1.out).1).trans HP1.out)
          clear hb2' hy2 hn2 d0 d1 d2 d3 d4 d5
          obtain ⟨d0, d1, d2, d3, d4, d5⟩ := acc_cells HP2.out
          rw [HPP.out] at d0 d1 d2 d3 d4 d5
          have hlen2 := HLT.out
          obtain ⟨M2, hM2⟩ : ∃ M, M = numB th := ⟨_, rfl⟩
          rw [← hM2] at HN2 hlen2 HEN ⊢
          have HJ2 := Lib.hid (join_any _ B _ _ M2 g2 _ c2 w2 HN2.out.len HN2.out.own HN2.out.base HN2.out.lt HN2.out.ne HN2.out.cell (by omega) (by omega))
          generalize hq2 : M2.length = q2 at *
          have HQ2 := Lib.hid hq2; clear hq2 hM2
          go_wp2_with fail
          with_reducible refine HJ2.out.mono ?_
          rintro e w3 ⟨v3, rfl, ho3, hk3⟩
          rw [HQ2.out] at ho3
          have HO3 := Lib.hid ho3
          have HK3 := Lib.hid (HK2.out.trans hk3)
          have HP3 := Lib.hid (hk3.other p _ _ _ HP2.out (by decide))
          have hb3 : B ≤ w3.heap.size := (hk3.below B _ (Below.refl _ _) (Nat.le_refl _)).size |> Nat.le_trans HN2.out.base
          clear ho3 hk3 d0 d1 d2 d3 d4 d5
          obtain ⟨d0, d1, d2, d3, d4, d5⟩ := acc_cells HP3.out
          rw [HPP.out] at d0 d1 d2 d3 d4 d5
          go_wp2_with fail
          refine (HSG.out _).mono ?_
          rintro e w' ⟨rfl, rfl⟩
          go_wp2_with fail
          refine (HNP.out _).mono ?_
          rintro e w4 ⟨y4, rfl, hb4', hy4⟩
          obtain ⟨g4, c4, rfl, hn4⟩ := num5_of hb4' hy4 HO3.out hb3
          have HN4 := Lib.hid hn4
          have HK4 := Lib.hid (HK3.out.trans hn4.keep)
          have HP4 := Lib.hid ((hb4'.block p (Array.getElem?_eq_some_iff.1 HP3.out).1).trans HP3.out)
          clear hb4' hy4 hn4 d0 d1 d2 d3 d4 d5
          obtain ⟨d0, d1, d2, d3, d4, d5⟩ := acc_cells HP4.out
          rw [HPP.out] at d0 d1 d2 d3 d4 d5
          have hlen4 := HLP.out
          obtain ⟨M4, hM4⟩ : ∃ M, M = numB sp := ⟨_, rfl⟩
          rw [← hM4] at HN4 hlen4 HEN ⊢
          have HJ4 := Lib.hid (join_any _ B _ _ M4 g4 _ c4 w4 HN4.out.len HN4.out.own HN4.out.base HN4.out.lt HN4.out.ne HN4.out.cell (by omega) (by omega))
          generalize hq4 : M4.length = q4 at *
          have HQ4 := Lib.hid hq4; clear hq4 hM4
          go_wp2_with fail
          with_reducible refine HJ4.out.mono ?_
          rintro e w5 ⟨v5, rfl, ho5, hk5⟩
          rw [HQ4.out] at ho5
          have HO5 := Lib.hid ho5
          have HK5 := Lib.hid (HK4.out.trans hk5)
          have HP5 := Lib.hid (hk5.other p _ _ _ HP4.out (by decide))
          have hb5 : B ≤ w5.heap.size := (hk5.below B _ (Below.refl _ _) (Nat.le_refl _)).size |> Nat.le_trans HN4.out.base
          clear ho5 hk5 d0 d1 d2 d3 d4 d5
          obtain ⟨d0, d1, d2, d3, d4, d5⟩ := acc_cells HP5.out
          rw [HPP.out] at d0 d1 d2 d3 d4 d5
          go_wp2_with fail
          refine (HNO.out _).mono ?_
          rintro e w6 ⟨y6, rfl, hb6', hy6⟩
          obtain ⟨g6, c6, rfl, hn6⟩ := num5_of hb6' hy6 HO5.out hb5
          have HN6 := Lib.hid hn6
          have HK6 := Lib.hid (HK5.out.trans hn6.keep)
          have HP6 := Lib.hid ((hb6'.block p (Array.getElem?_eq_some_iff.1 HP5.out).1).trans HP5.out)
          clear hb6' hy6 hn6 d0 d1 d2 d3 d4 d5
          obtain ⟨d0, d1, d2, d3, d4, d5⟩ := acc_cells HP6.out
          rw [HPP.out] at d0 d1 d2 d3 d4 d5
          have hlen6 := HLO.out
          obtain ⟨M6, hM6⟩ : ∃ M, M = numB ol := ⟨_, rfl⟩
          rw [← hM6] at HN6 hlen6 HEN ⊢
          have HJ6 := Lib.hid (join_any _ B _ _ M6 g6 _ c6 w6 HN6.out.len HN6.out.own HN6.out.base HN6.out.lt HN6.out.ne HN6.out.cell (by omega) (by omega))
          generalize hq6 : M6.length = q6 at *
          have HQ6 := Lib.hid hq6; clear hq6 hM6
          go_wp2_with fail
          with_reducible refine HJ6.out.mono ?_
          rintro e w7 ⟨v7, rfl, ho7, hk7⟩
          rw [HQ6.out] at ho7
          have HO7 := Lib.hid ho7
          have HK7 := Lib.hid (HK6.out.trans hk7)
          have HP7 := Lib.hid (hk7.other p _ _ _ HP6.out (by decide))
          have hb7 : B ≤ w7.heap.size := (hk7.below B _ (Below.refl _ _) (Nat.le_refl _)).size |> Nat.le_trans HN6.out.base
          clear ho7 hk7 d0 d1 d2 d3 d4 d5
          obtain ⟨d0, d1, d2, d3, d4, d5⟩ := acc_cells HP7.out
          rw [HPP.out] at d0 d1 d2 d3 d4 d5
          go_wp2_with fail
          go_roundw
          case rel =>
            have hE : E = [f] ++ (M2 ++ M4 ++ M6) := by rw [HEN.out]; simp
            have hlE : n + 1 + q2 + q4 + q6 = n + E.length := by rw [hE]; simp only [List.length_append, List.length_cons, List.length_nil]; have := HQ2.out; have := HQ4.out; have := HQ6.out; omega
            have ho := HO7.out
            rw [hlE] at ho
            refine ⟨k + 1, n + E.length, by omega, by go_num, ?_, by have := HEL.out; omega, Lib.hid ?_, Lib.hid (HK7.out.below B w HBA.out (Nat.le_refl _))⟩
            · rw [HST.out.2, HNX.out]; simp
            · rw [HST.out.1, ← List.append_assoc, ← HXS.out]; have e2 : XS ++ [f] ++ M2 ++ M4 ++ M6 = XS ++ E := by rw [hE]; simp
              rw [e2] at ho; exact ho
          case measure => simp [intOf]; omega
      · cases dn
        all_goals
          have hfv := HFI.out
          have hf0 := HFB.out
          simp only [if_true, if_false, Bool.false_eq_true, Int.add_zero] at hfv
          have HFV := Lib.hid hfv
          have hfw : IntKind.u8.wrap f = f := IntWalk.u8_in _ (by omega)
          rw [hfv] at hfw hf0
          obtain ⟨hf1, hf2⟩ := hf0
          clear hfv
          go_upto_region 10 with fail
          rw [← HWA.out]
          go_wp2_with (at_builtin; refine wpList_byte rfl (.tmp 33) (.tmp 36) rfl B WA hBA u3 n XS rfl HOA.out _ 1 1 rfl (by omega) ?_; intro v1 w1 hown1 hk1; have HO1 := Lib.hid hown1; have HK1 := Lib.hid hk1; have HP1 := Lib.hid (hk1.other p _ _ _ HBX.out (by decide)); have hb1 : B ≤ w1.heap.size := (hk1.below B _ (Below.refl _ _) (Nat.le_refl _)).size |> Nat.le_trans hBA; clear d0 d1 d2 d3 d4 d5 hown1 hk1; obtain ⟨d0, d1, d2, d3, d4, d5⟩ := acc_cells HP1.out; rw [HPP.out] at d0 d1 d2 d3 d4 d5)
          clear hfw hf1 hf2
          rw [← HFV.out] at HO1
          refine (HNT.out _).mono ?_
          rintro e w2 ⟨y2, rfl, hb2', hy2⟩
          obtain ⟨g2, c2, rfl, hn2⟩ := num5_of hb2' hy2 HO1.out hb1
          have HN2 := Lib.hid hn2
          have HK2 := Lib.hid (HK1.out.trans hn2.keep)
          have HP2 := Lib.hid ((hb2'.block p (Array.getElem?_eq_some_iff.1 HP1.out).1).trans HP1.out)
          clear hb2' hy2 hn2 d0 d1 d2 d3 d4 d5
          obtain ⟨d0, d1, d2, d3, d4, d5⟩ := acc_cells HP2.out
          rw [HPP.out] at d0 d1 d2 d3 d4 d5
          have hlen2 := HLT.out
          obtain ⟨M2, hM2⟩ : ∃ M, M = numB th := ⟨_, rfl⟩
          rw [← hM2] at HN2 hlen2 HEN ⊢
          have HJ2 := Lib.hid (join_any _ B _ _ M2 g2 _ c2 w2 HN2.out.len HN2.out.own HN2.out.base HN2.out.lt HN2.out.ne HN2.out.cell (by omega) (by omega))
          generalize hq2 : M2.length = q2 at *
          have HQ2 := Lib.hid hq2; clear hq2 hM2
          go_wp2_with fail
          with_reducible refine HJ2.out.mono ?_
          rintro e w3 ⟨v3, rfl, ho3, hk3⟩
          rw [HQ2.out] at ho3
          have HO3 := Lib.hid ho3
          have HK3 := Lib.hid (HK2.out.trans hk3)
          have HP3 := Lib.hid (hk3.other p _ _ _ HP2.out (by decide))
          have hb3 : B ≤ w3.heap.size := (hk3.below B _ (Below.refl _ _) (Nat.le_refl _)).size |> Nat.le_trans HN2.out.base
          clear ho3 hk3 d0 d1 d2 d3 d4 d5
          obtain ⟨d0, d1, d2, d3, d4, d5⟩ := acc_cells HP3.out
          rw [HPP.out] at d0 d1 d2 d3 d4 d5
          go_wp2_with fail
          refine (HSG.out _).mono ?_
          rintro e w' ⟨rfl, rfl⟩
          go_wp2_with fail
          refine (HNP.out _).mono ?_
          rintro e w4 ⟨y4, rfl, hb4', hy4⟩
          obtain ⟨g4, c4, rfl, hn4⟩ := num5_of hb4' hy4 HO3.out hb3
          have HN4 := Lib.hid hn4
          have HK4 := Lib.hid (HK3.out.trans hn4.keep)
          have HP4 := Lib.hid ((hb4'.block p (Array.getElem?_eq_some_iff.1 HP3.out).1).trans HP3.out)
          clear hb4' hy4 hn4 d0 d1 d2 d3 d4 d5
          obtain ⟨d0, d1, d2, d3, d4, d5⟩ := acc_cells HP4.out
          rw [HPP.out] at d0 d1 d2 d3 d4 d5
          have hlen4 := HLP.out
          obtain ⟨M4, hM4⟩ : ∃ M, M = numB sp := ⟨_, rfl⟩
          rw [← hM4] at HN4 hlen4 HEN ⊢
          have HJ4 := Lib.hid (join_any _ B _ _ M4 g4 _ c4 w4 HN4.out.len HN4.out.own HN4.out.base HN4.out.lt HN4.out.ne HN4.out.cell (by omega) (by omega))
          generalize hq4 : M4.length = q4 at *
          have HQ4 := Lib.hid hq4; clear hq4 hM4
          go_wp2_with fail
          with_reducible refine HJ4.out.mono ?_
          rintro e w5 ⟨v5, rfl, ho5, hk5⟩
          rw [HQ4.out] at ho5
          have HO5 := Lib.hid ho5
          have HK5 := Lib.hid (HK4.out.trans hk5)
          have HP5 := Lib.hid (hk5.other p _ _ _ HP4.out (by decide))
          have hb5 : B ≤ w5.heap.size := (hk5.below B _ (Below.refl _ _) (Nat.le_refl _)).size |> Nat.le_trans HN4.out.base
          clear ho5 hk5 d0 d1 d2 d3 d4 d5
          obtain ⟨d0, d1, d2, d3, d4, d5⟩ := acc_cells HP5.out
          rw [HPP.out] at d0 d1 d2 d3 d4 d5
          go_wp2_with fail
          refine (HNO.out _).mono ?_
          rintro e w6 ⟨y6, rfl, hb6', hy6⟩
          obtain ⟨g6, c6, rfl, hn6⟩ := num5_of hb6' hy6 HO5.out hb5
          have HN6 := Lib.hid hn6
          have HK6 := Lib.hid (HK5.out.trans hn6.keep)
          have HP6 := Lib.hid ((hb6'.block p (Array.getElem?_eq_some_iff.1 HP5.out).1).trans HP5.out)
          clear hb6' hy6 hn6 d0 d1 d2 d3 d4 d5
          obtain ⟨d0, d1, d2, d3, d4, d5⟩ := acc_cells HP6.out
          rw [HPP.out] at d0 d1 d2 d3 d4 d5
          have hlen6 := HLO.out
          obtain ⟨M6, hM6⟩ : ∃ M, M = numB ol := ⟨_, rfl⟩
          rw [← hM6] at HN6 hlen6 HEN ⊢
          have HJ6 := Lib.hid (join_any _ B _ _ M6 g6 _ c6 w6 HN6.out.len HN6.out.own HN6.out.base HN6.out.lt HN6.out.ne HN6.out.cell (by omega) (by omega))
          generalize hq6 : M6.length = q6 at *
          have HQ6 := Lib.hid hq6; clear hq6 hM6
          go_wp2_with fail
          with_reducible refine HJ6.out.mono ?_
          rintro e w7 ⟨v7, rfl, ho7, hk7⟩
          rw [HQ6.out] at ho7
          have HO7 := Lib.hid ho7
          have HK7 := Lib.hid (HK6.out.trans hk7)
          have HP7 := Lib.hid (hk7.other p _ _ _ HP6.out (by decide))
          have hb7 : B ≤ w7.heap.size := (hk7.below B _ (Below.refl _ _) (Nat.le_refl _)).size |> Nat.le_trans HN6.out.base
          clear ho7 hk7 d0 d1 d2 d3 d4 d5
          obtain ⟨d0, d1, d2, d3, d4, d5⟩ := acc_cells HP7.out
          rw [HPP.out] at d0 d1 d2 d3 d4 d5
          go_wp2_with fail
          refine (HNN.out _).mono ?_
          rintro e w8 ⟨y8, rfl, hb8', hy8⟩
          obtain ⟨g8, c8, rfl, hn8⟩ := num5_of hb8' hy8 HO7.out hb7
          have HN8 := Lib.hid hn8
          have HK8 := Lib.hid (HK7.out.trans hn8.keep)
          have HP8 := Lib.hid ((hb8'.block p (Array.getElem?_eq_some_iff.1 HP7.out).1).trans HP7.out)
          clear hb8' hy8 hn8 d0 d1 d2 d3 d4 d5
          obtain ⟨d0, d1, d2, d3, d4, d5⟩ := acc_cells HP8.out
          rw [HPP.out] at d0 d1 d2 d3 d4 d5
          have hlen8 := HLE.out
          obtain ⟨M8, hM8⟩ : ∃ M, M = numB ne := ⟨_, rfl⟩
          rw [← hM8] at HN8 hlen8 HEN ⊢
          have HJ8 := Lib.hid (join_any _ B _ _ M8 g8 _ c8 w8 HN8.out.len HN8.out.own HN8.out.base HN8.out.lt HN8.out.ne HN8.out.cell (by omega) (by omega))
          generalize hq8 : M8.length = q8 at *
          have HQ8 := Lib.hid hq8; clear hq8 hM8
          go_wp2_with fail
          with_reducible refine HJ8.out.mono ?_
          rintro e w9 ⟨v9, rfl, ho9, hk9⟩
          rw [HQ8.out] at ho9
          have HO9 := Lib.hid ho9
          have HK9 := Lib.hid (HK8.out.trans hk9)
          have HP9 := Lib.hid (hk9.other p _ _ _ HP8.out (by decide))
          have hb9 : B ≤ w9.heap.size := (hk9.below B _ (Below.refl _ _) (Nat.le_refl _)).size |> Nat.le_trans HN8.out.base
          clear ho9 hk9 d0 d1 d2 d3 d4 d5
          obtain ⟨d0, d1, d2, d3, d4, d5⟩ := acc_cells HP9.out
          rw [HPP.out] at d0 d1 d2 d3 d4 d5
          go_wp2_with fail
          go_roundw
          case rel =>
            have hE : E = [f] ++ (M2 ++ M4 ++ M6 ++ M8) := by rw [HEN.out]; simp
            have hlE : n + 1 + q2 + q4 + q6 + q8 = n + E.length := by rw [hE]; simp only [List.length_append, List.length_cons, List.length_nil]; have := HQ2.out; have := HQ4.out; have := HQ6.out; have := HQ8.out; omega
            have ho := HO9.out
            rw [hlE] at ho
            refine ⟨k + 1, n + E.length, by omega, by go_num, ?_, by have := HEL.out; omega, Lib.hid ?_, Lib.hid (HK9.out.below B w HBA.out (Nat.le_refl _))⟩
            · rw [HST.out.2, HNX.out]; simp
            · rw [HST.out.1, ← List.append_assoc, ← HXS.out]; have e2 : XS ++ [f] ++ M2 ++ M4 ++ M6 ++ M8 = XS ++ E := by rw [hE]; simp
              rw [e2] at ho; exact ho
          case measure => simp [intOf]; omega
      · cases dn
        all_goals
          have hfv := HFI.out
          have hf0 := HFB.out
          simp only [if_true, if_false, Bool.false_eq_true, Int.add_zero] at hfv
          have HFV := Lib.hid hfv
          have hfw : IntKind.u8.wrap f = f := IntWalk.u8_in _ (by omega)
          rw [hfv] at hfw hf0
          obtain ⟨hf1, hf2⟩ := hf0
          clear hfv
          go_upto_region 10 with fail
          rw [← HWA.out]
          go_wp2_with (at_builtin; refine wpList_byte rfl (.tmp 33) (.tmp 36) rfl B WA hBA u3 n XS rfl HOA.out _ 1 1 rfl (by omega) ?_; intro v1 w1 hown1 hk1; have HO1 := Lib.hid hown1; have HK1 := Lib.hid hk1; have HP1 := Lib.hid (hk1.other p _ _ _ HBX.out (by decide)); have hb1 : B ≤ w1.heap.size := (hk1.below B _ (Below.refl _ _) (Nat.le_refl _)).size |> Nat.le_trans hBA; clear d0 d1 d2 d3 d4 d5 hown1 hk1; obtain ⟨d0, d1, d2, d3, d4, d5⟩ := acc_cells HP1.out; rw [HPP.out] at d0 d1 d2 d3 d4 d5)
          clear hfw hf1 hf2
          rw [← HFV.out] at HO1
          refine (HNT.out _).mono ?_
          rintro e w2 ⟨y2, rfl, hb2', hy2⟩
          obtain ⟨g2, c2, rfl, hn2⟩ := num5_of hb2' hy2 HO1.out hb1
          have HN2 := Lib.hid hn2
          have HK2 := Lib.hid (HK1.out.trans hn2.keep)
          have HP2 := Lib.hid ((hb2'.block p (Array.getElem?_eq_some_iff.1 HP1.out).1).trans HP1.out)
          clear hb2' hy2 hn2 d0 d1 d2 d3 d4 d5
          obtain ⟨d0, d1, d2, d3, d4, d5⟩ := acc_cells HP2.out
          rw [HPP.out] at d0 d1 d2 d3 d4 d5
          have hlen2 := HLT.out
          obtain ⟨M2, hM2⟩ : ∃ M, M = numB th := ⟨_, rfl⟩
          rw [← hM2] at HN2 hlen2 HEN ⊢
          have HJ2 := Lib.hid (join_any _ B _ _ M2 g2 _ c2 w2 HN2.out.len HN2.out.own HN2.out.base HN2.out.lt HN2.out.ne HN2.out.cell (by omega) (by omega))
          generalize hq2 : M2.length = q2 at *
          have HQ2 := Lib.hid hq2; clear hq2 hM2
          go_wp2_with fail
          with_reducible refine HJ2.out.mono ?_
          rintro e w3 ⟨v3, rfl, ho3, hk3⟩
          rw [HQ2.out] at ho3
          have HO3 := Lib.hid ho3
          have HK3 := Lib.hid (HK2.out.trans hk3)
          have HP3 := Lib.hid (hk3.other p _ _ _ HP2.out (by decide))
          have hb3 : B ≤ w3.heap.size := (hk3.below B _ (Below.refl _ _) (Nat.le_refl _)).size |> Nat.le_trans HN2.out.base
          clear ho3 hk3 d0 d1 d2 d3 d4 d5
          obtain ⟨d0, d1, d2, d3, d4, d5⟩ := acc_cells HP3.out
          rw [HPP.out] at d0 d1 d2 d3 d4 d5
          go_wp2_with fail
          refine (HSG.out _).mono ?_
          rintro e w' ⟨rfl, rfl⟩
          go_wp2_with fail
          refine (HNP.out _).mono ?_
          rintro e w4 ⟨y4, rfl, hb4', hy4⟩
          obtain ⟨g4, c4, rfl, hn4⟩ := num5_of hb4' hy4 HO3.out hb3
          have HN4 := Lib.hid hn4
          have HK4 := Lib.hid (HK3.out.trans hn4.keep)
          have HP4 := Lib.hid ((hb4'.block p (Array.getElem?_eq_some_iff.1 HP3.out).1).trans HP3.out)
          clear hb4' hy4 hn4 d0 d1 d2 d3 d4 d5
          obtain ⟨d0, d1, d2, d3, d4, d5⟩ := acc_cells HP4.out
          rw [HPP.out] at d0 d1 d2 d3 d4 d5
          have hlen4 := HLP.out
          obtain ⟨M4, hM4⟩ : ∃ M, M = numB sp := ⟨_, rfl⟩
          rw [← hM4] at HN4 hlen4 HEN ⊢
          have HJ4 := Lib.hid (join_any _ B _ _ M4 g4 _ c4 w4 HN4.out.len HN4.out.own HN4.out.base HN4.out.lt HN4.out.ne HN4.out.cell (by omega) (by omega))
          generalize hq4 : M4.length = q4 at *
          have HQ4 := Lib.hid hq4; clear hq4 hM4
          go_wp2_with fail
          with_reducible refine HJ4.out.mono ?_
          rintro e w5 ⟨v5, rfl, ho5, hk5⟩
          rw [HQ4.out] at ho5
          have HO5 := Lib.hid ho5
          have HK5 := Lib.hid (HK4.out.trans hk5)
          have HP5 := Lib.hid (hk5.other p _ _ _ HP4.out (by decide))
          have hb5 : B ≤ w5.heap.size := (hk5.below B _ (Below.refl _ _) (Nat.le_refl _)).size |> Nat.le_trans HN4.out.base
          clear ho5 hk5 d0 d1 d2 d3 d4 d5
          obtain ⟨d0, d1, d2, d3, d4, d5⟩ := acc_cells HP5.out
          rw [HPP.out] at d0 d1 d2 d3 d4 d5
          go_wp2_with fail
          refine (HNO.out _).mono ?_
          rintro e w6 ⟨y6, rfl, hb6', hy6⟩
          obtain ⟨g6, c6, rfl, hn6⟩ := num5_of hb6' hy6 HO5.out hb5
          have HN6 := Lib.hid hn6
          have HK6 := Lib.hid (HK5.out.trans hn6.keep)
          have HP6 := Lib.hid ((hb6'.block p (Array.getElem?_eq_some_iff.1 HP5.out).1).trans HP5.out)
          clear hb6' hy6 hn6 d0 d1 d2 d3 d4 d5
          obtain ⟨d0, d1, d2, d3, d4, d5⟩ := acc_cells HP6.out
          rw [HPP.out] at d0 d1 d2 d3 d4 d5
          have hlen6 := HLO.out
          obtain ⟨M6, hM6⟩ : ∃ M, M = numB ol := ⟨_, rfl⟩
          rw [← hM6] at HN6 hlen6 HEN ⊢
          have HJ6 := Lib.hid (join_any _ B _ _ M6 g6 _ c6 w6 HN6.out.len HN6.out.own HN6.out.base HN6.out.lt HN6.out.ne HN6.out.cell (by omega) (by omega))
          generalize hq6 : M6.length = q6 at *
          have HQ6 := Lib.hid hq6; clear hq6 hM6
          go_wp2_with fail
          with_reducible refine HJ6.out.mono ?_
          rintro e w7 ⟨v7, rfl, ho7, hk7⟩
          rw [HQ6.out] at ho7
          have HO7 := Lib.hid ho7
          have HK7 := Lib.hid (HK6.out.trans hk7)
          have HP7 := Lib.hid (hk7.other p _ _ _ HP6.out (by decide))
          have hb7 : B ≤ w7.heap.size := (hk7.below B _ (Below.refl _ _) (Nat.le_refl _)).size |> Nat.le_trans HN6.out.base
          clear ho7 hk7 d0 d1 d2 d3 d4 d5
          obtain ⟨d0, d1, d2, d3, d4, d5⟩ := acc_cells HP7.out
          rw [HPP.out] at d0 d1 d2 d3 d4 d5
          go_wp2_with fail
          refine (HNN.out _).mono ?_
          rintro e w8 ⟨y8, rfl, hb8', hy8⟩
          obtain ⟨g8, c8, rfl, hn8⟩ := num5_of hb8' hy8 HO7.out hb7
          have HN8 := Lib.hid hn8
          have HK8 := Lib.hid (HK7.out.trans hn8.keep)
          have HP8 := Lib.hid ((hb8'.block p (Array.getElem?_eq_some_iff.1 HP7.out).1).trans HP7.out)
          clear hb8' hy8 hn8 d0 d1 d2 d3 d4 d5
          obtain ⟨d0, d1, d2, d3, d4, d5⟩ := acc_cells HP8.out
          rw [HPP.out] at d0 d1 d2 d3 d4 d5
          have hlen8 := HLE.out
          obtain ⟨M8, hM8⟩ : ∃ M, M = numB ne := ⟨_, rfl⟩
          rw [← hM8] at HN8 hlen8 HEN ⊢
          have HJ8 := Lib.hid (join_any _ B _ _ M8 g8 _ c8 w8 HN8.out.len HN8.out.own HN8.out.base HN8.out.lt HN8.out.ne HN8.out.cell (by omega) (by omega))
          generalize hq8 : M8.length = q8 at *
          have HQ8 := Lib.hid hq8; clear hq8 hM8
          go_wp2_with fail
          with_reducible refine HJ8.out.mono ?_
          rintro e w9 ⟨v9, rfl, ho9, hk9⟩
          rw [HQ8.out] at ho9
          have HO9 := Lib.hid ho9
          have HK9 := Lib.hid (HK8.out.trans hk9)
          have HP9 := Lib.hid (hk9.other p _ _ _ HP8.out (by decide))
          have hb9 : B ≤ w9.heap.size := (hk9.below B _ (Below.refl _ _) (Nat.le_refl _)).size |> Nat.le_trans HN8.out.base
          clear ho9 hk9 d0 d1 d2 d3 d4 d5
          obtain ⟨d0, d1, d2, d3, d4, d5⟩ := acc_cells HP9.out
          rw [HPP.out] at d0 d1 d2 d3 d4 d5
          go_wp2_with fail
          go_roundw
          case rel =>
            have hE : E = [f] ++ (M2 ++ M4 ++ M6 ++ M8) := by rw [HEN.out]; simp
            have hlE : n + 1 + q2 + q4 + q6 + q8 = n + E.length := by rw [hE]; simp only [List.length_append, List.length_cons, List.length_nil]; have := HQ2.out; have := HQ4.out; have := HQ6.out; have := HQ8.out; omega
            have ho := HO9.out
            rw [hlE] at ho
            refine ⟨k + 1, n + E.length, by omega, by go_num, ?_, by have := HEL.out; omega, Lib.hid ?_, Lib.hid (HK9.out.below B w HBA.out (Nat.le_refl _))⟩
            · rw [HST.out.2, HNX.out]; simp
            · rw [HST.out.1, ← List.append_assoc, ← HXS.out]; have e2 : XS ++ [f] ++ M2 ++ M4 ++ M6 ++ M8 = XS ++ E := by rw [hE]; simp
              rw [e2] at ho; exact ho
          case measure => simp [intOf]; omega
      · cases dn
        all_goals
          have hfv := HFI.out
          have hf0 := HFB.out
          simp only [if_true, if_false, Bool.false_eq_true, Int.add_zero] at hfv
          have HFV := Lib.hid hfv
          have hfw : IntKind.u8.wrap f = f := IntWalk.u8_in _ (by omega)
          rw [hfv] at hfw hf0
          obtain ⟨hf1, hf2⟩ := hf0
          clear hfv
          go_upto_region 10 with fail
          rw [← HWA.out]
          go_wp2_with (at_builtin; refine wpList_byte rfl (.tmp 33) (.tmp 36) rfl B WA hBA u3 n XS rfl HOA.out _ 1 1 rfl (by omega) ?_; intro v1 w1 hown1 hk1; have HO1 := Lib.hid hown1; have HK1 := Lib.hid hk1; have HP1 := Lib.hid (hk1.other p _ _ _ HBX.out (by decide)); have hb1 : B ≤ w1.heap.size := (hk1.below B _ (Below.refl _ _) (Nat.le_refl _)).size |> Nat.le_trans hBA; clear d0 d1 d2 d3 d4 d5 hown1 hk1; obtain ⟨d0, d1, d2, d3, d4, d5⟩ := acc_cells HP1.out; rw [HPP.out] at d0 d1 d2 d3 d4 d5)
          clear hfw hf1 hf2
          rw [← HFV.out] at HO1
          refine (HNT.out _).mono ?_
          rintro e w2 ⟨y2, rfl, hb2', hy2⟩
          obtain ⟨g2, c2, rfl, hn2⟩ := num5_of hb2' hy2 HO1.out hb1
          have HN2 := Lib.hid hn2
          have HK2 := Lib.hid (HK1.out.trans hn2.keep)
          have HP2 := Lib.hid ((hb2'.block p (Array.getElem?_eq_some_iff.1 HP1.out).1).trans HP1.out)
          clear hb2' hy2 hn2 d0 d1 d2 d3 d4 d5
          obtain ⟨d0, d1, d2, d3, d4, d5⟩ := acc_cells HP2.out
          rw [HPP.out] at d0 d1 d2 d3 d4 d5
          have hlen2 := HLT.out
          obtain ⟨M2, hM2⟩ : ∃ M, M = numB th := ⟨_, rfl⟩
          rw [← hM2] at HN2 hlen2 HEN ⊢
          have HJ2 := Lib.hid (join_any _ B _ _ M2 g2 _ c2 w2 HN2.out.len HN2.out.own HN2.out.base HN2.out.lt HN2.out.ne HN2.out.cell (by omega) (by omega))
          generalize hq2 : M2.length = q2 at *
          have HQ2 := Lib.hid hq2; clear hq2 hM2
          go_wp2_with fail
          with_reducible refine HJ2.out.mono ?_
          rintro e w3 ⟨v3, rfl, ho3, hk3⟩
          rw [HQ2.out] at ho3
          have HO3 := Lib.hid ho3
          have HK3 := Lib.hid (HK2.out.trans hk3)
          have HP3 := Lib.hid (hk3.other p _ _ _ HP2.out (by decide))
          have hb3 : B ≤ w3.heap.size := (hk3.below B _ (Below.refl _ _) (Nat.le_refl _)).size |> Nat.le_trans HN2.out.base
          clear ho3 hk3 d0 d1 d2 d3 d4 d5
          obtain ⟨d0, d1, d2, d3, d4, d5⟩ := acc_cells HP3.out
          rw [HPP.out] at d0 d1 d2 d3 d4 d5
          go_wp2_with fail
          refine (HSG.out _).mono ?_
          rintro e w' ⟨rfl, rfl⟩
          go_wp2_with fail
          refine (HNP.out _).mono ?_
          rintro e w4 ⟨y4, rfl, hb4', hy4⟩
          obtain ⟨g4, c4, rfl, hn4⟩ := num5_of hb4' hy4 HO3.out hb3
          have HN4 := Lib.hid hn4
          have HK4 := Lib.hid (HK3.out.trans hn4.keep)
          have HP4 := Lib.hid ((hb4'.block p (Array.getElem?_eq_some_iff.1 HP3.out).1).trans HP3.out)
          clear hb4' hy4 hn4 d0 d1 d2 d3 d4 d5
          obtain ⟨d0, d1, d2, d3, d4, d5⟩ := acc_cells HP4.out
          rw [HPP.out] at d0 d1 d2 d3 d4 d5
          have hlen4 := HLP.out
          obtain ⟨M4, hM4⟩ : ∃ M, M = numB sp := ⟨_, rfl⟩
          rw [← hM4] at HN4 hlen4 HEN ⊢
          have HJ4 := Lib.hid (join_any _ B _ _ M4 g4 _ c4 w4 HN4.out.len HN4.out.own HN4.out.base HN4.out.lt HN4.out.ne HN4.out.cell (by omega) (by omega))
          generalize hq4 : M4.length = q4 at *
          have HQ4 := Lib.hid hq4; clear hq4 hM4
          go_wp2_with fail
          with_reducible refine HJ4.out.mono ?_
          rintro e w5 ⟨v5, rfl, ho5, hk5⟩
          rw [HQ4.out] at ho5
          have HO5 := Lib.hid ho5
          have HK5 := Lib.hid (HK4.out.trans hk5)
          have HP5 := Lib.hid (hk5.other p _ _ _ HP4.out (by decide))
          have hb5 : B ≤ w5.heap.size := (hk5.below B _ (Below.refl _ _) (Nat.le_refl _)).size |> Nat.le_trans HN4.out.base
          clear ho5 hk5 d0 d1 d2 d3 d4 d5
          obtain ⟨d0, d1, d2, d3, d4, d5⟩ := acc_cells HP5.out
          rw [HPP.out] at d0 d1 d2 d3 d4 d5
          go_wp2_with fail
          go_roundw
          case rel =>
            have hE : E = [f] ++ (M2 ++ M4) := by rw [HEN.out]; simp
            have hlE : n + 1 + q2 + q4 = n + E.length := by rw [hE]; simp only [List.length_append, List.length_cons, List.length_nil]; have := HQ2.out; have := HQ4.out; omega
            have ho := HO5.out
            rw [hlE] at ho
            refine ⟨k + 1, n + E.length, by omega, by go_num, ?_, by have := HEL.out; omega, Lib.hid ?_, Lib.hid (HK5.out.below B w HBA.out (Nat.le_refl _))⟩
            · rw [HST.out.2, HNX.out]; simp
            · rw [HST.out.1, ← List.append_assoc, ← HXS.out]; have e2 : XS ++ [f] ++ M2 ++ M4 = XS ++ E := by rw [hE]; simp
              rw [e2] at ho; exact ho
          case measure => simp [intOf]; omega
      · cases dn
        all_goals
          have hfv := HFI.out
          have hf0 := HFB.out
          simp only [if_true, if_false, Bool.false_eq_true, Int.add_zero] at hfv
          have HFV := Lib.hid hfv
          have hfw : IntKind.u8.wrap f = f := IntWalk.u8_in _ (by omega)
          rw [hfv] at hfw hf0
          obtain ⟨hf1, hf2⟩ := hf0
          clear hfv
          go_upto_region 10 with fail
          rw [← HWA.out]
          go_wp2_with (at_builtin; refine wpList_byte rfl (.tmp 33) (.tmp 36) rfl B WA hBA u3 n XS rfl HOA.out _ 1 1 rfl (by omega) ?_; intro v1 w1 hown1 hk1; have HO1 := Lib.hid hown1; have HK1 := Lib.hid hk1; have HP1 := Lib.hid (hk1.other p _ _ _ HBX.out (by decide)); have hb1 : B ≤ w1.heap.size := (hk1.below B _ (Below.refl _ _) (Nat.le_refl _)).size |> Nat.le_trans hBA; clear d0 d1 d2 d3 d4 d5 hown1 hk1; obtain ⟨d0, d1, d2, d3, d4, d5⟩ := acc_cells HP1.out; rw [HPP.out] at d0 d1 d2 d3 d4 d5)
          clear hfw hf1 hf2
          rw [← HFV.out] at HO1
          refine (HNT.out _).mono ?_
          rintro e w2 ⟨y2, rfl, hb2', hy2⟩
          obtain ⟨g2, c2, rfl, hn2⟩ := num5_of hb2' hy2 HO1.out hb1
          have HN2 := Lib.hid hn2
          have HK2 := Lib.hid (HK1.out.trans hn2.keep)
          have HP2 := Lib.hid ((hb2'.block p (Array.getElem?_eq_some_iff.1 HP1.out).1).trans HP1.out)
          clear hb2' hy2 hn2 d0 d1 d2 d3 d4 d5
          obtain ⟨d0, d1, d2, d3, d4, d5⟩ := acc_cells HP2.out
          rw [HPP.out] at d0 d1 d2 d3 d4 d5
          have hlen2 := HLT.out
          obtain ⟨M2, hM2⟩ : ∃ M, M = numB th := ⟨_, rfl⟩
          rw [← hM2] at HN2 hlen2 HEN ⊢
          have HJ2 := Lib.hid (join_any _ B _ _ M2 g2 _ c2 w2 HN2.out.len HN2.out.own HN2.out.base HN2.out.lt HN2.out.ne HN2.out.cell (by omega) (by omega))
          generalize hq2 : M2.length = q2 at *
          have HQ2 := Lib.hid hq2; clear hq2 hM2
          go_wp2_with fail
          with_reducible refine HJ2.out.mono ?_
          rintro e w3 ⟨v3, rfl, ho3, hk3⟩
          rw [HQ2.out] at ho3
          have HO3 := Lib.hid ho3
          have HK3 := Lib.hid (HK2.out.trans hk3)
          have HP3 := Lib.hid (hk3.other p _ _ _ HP2.out (by decide))
          have hb3 : B ≤ w3.heap.size := (hk3.below B _ (Below.refl _ _) (Nat.le_refl _)).size |> Nat.le_trans HN2.out.base
          clear ho3 hk3 d0 d1 d2 d3 d4 d5
          obtain ⟨d0, d1, d2, d3, d4, d5⟩ := acc_cells HP3.out
          rw [HPP.out] at d0 d1 d2 d3 d4 d5
          go_wp2_with fail
          go_roundw
          case rel =>
            have hE : E = [f] ++ (M2) := by rw [HEN.out]; simp
            have hlE : n + 1 + q2 = n + E.length := by rw [hE]; simp only [List.length_append, List.length_cons, List.length_nil]; have := HQ2.out; omega
            have ho := HO3.out
            rw [hlE] at ho
            refine ⟨k + 1, n + E.length, by omega, by go_num, ?_, by have := HEL.out; omega, Lib.hid ?_, Lib.hid (HK3.out.below B w HBA.out (Nat.le_refl _))⟩
            · rw [HST.out.2, HNX.out]; simp
            · rw [HST.out.1, ← List.append_assoc, ← HXS.out]; have e2 : XS ++ [f] ++ M2 = XS ++ E := by rw [hE]; simp
              rw [e2] at ho; exact ho
          case measure => simp [intOf]; omega
    · obtain rfl : k = len := by omega
      obtain ⟨a3, c3, rfl, -⟩ := own_form3 HO.out
      go_wp2_with fail
      go_ret
      exact ⟨a3, n, c3, rfl, by rw [← HB.out]; exact HO.out, by rw [← HB.out]; exact HBE.out⟩
end Go.Proofs.Ytfjddkjfkgdihaa
