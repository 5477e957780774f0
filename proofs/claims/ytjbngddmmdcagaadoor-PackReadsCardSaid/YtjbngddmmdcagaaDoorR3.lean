/- Layer 32's reader of the document, whole. -/
import Derived.Test.YtjbngddmmdcagaaDoorR2
import Derived.Test.YtjbngddmmdcagaaDoorL3
import Derived.BigQuiet
namespace Go.Proofs.YtjbngddmmdcagaaDoor
open Go.RowKit Go.BigFrame
set_option linter.unusedVariables false
set_option linter.unusedSimpArgs false

theorem own_strs {w : World} {B : Nat} {v : Value} {l : List (List UInt8)} (h : w.ownsRow B 9 1 v l.length (strsL l)) (h1 : 1 ≤ l.length) :
    ∃ g c, v = .slice (some ⟨g, 0, none⟩) l.length c ∧ B ≤ g ∧ g < w.heap.size ∧ ∀ k, k < l.length → w.cell? ⟨g, k, none⟩ = some (.string (txt (l[k]?.getD []))) := by
  rcases h.2 with ⟨rfl, h0⟩ | ⟨g, cap, cur, rfl, hb, hg, h2, h3, h4, h5⟩
  · omega
  · refine ⟨g, _, rfl, hb, (Array.getElem?_eq_some_iff.1 hg).1, fun k hk => ?_⟩
    rw [cell_in hg, ← Array.getElem?_toList]
    have h6 : (strsL l)[k]? = cur.toList[k]? := by rw [← h5, Nat.mul_one, List.getElem?_take, if_pos hk]
    rw [← h6]
    simp [strsL, List.getElem?_eq_getElem hk]
theorem putsR_append (m : Nat) : ∀ (a b : List (List UInt8)) (u : Nat → Nat), putsR m (a ++ b) u = putsR m b (putsR m a u)
  | [], _, _ => rfl
  | r :: a, b, u => by rw [List.cons_append, putsR, putsR, putsR_append m a b]
theorem putsR_take (m : Nat) (l : List (List UInt8)) (u : Nat → Nat) (k : Nat) (h : k < l.length) : putsR m (l.take (k + 1)) u = putR m (putsR m (l.take k) u) (l[k]?.getD []) := by
  rw [List.take_add_one, List.getElem?_eq_getElem h, putsR_append]
  rfl
theorem numberR_lt (b : Nat) (s : List UInt8) : numberR b s < 18446744073709551616 := by
  unfold numberR; split
  · decide
  · exact numR_lt b s 0 (by decide)
theorem putR_lt (m : Nat) (u : Nat → Nat) (r : List UInt8) (h : ∀ p, u p < 18446744073709551616) : ∀ p, putR m u r p < 18446744073709551616 := fun p => by
  unfold putR
  cases cutAt 32 r with
  | nil => exact h p
  | cons a ws =>
    show (if ws.length = 8 ∧ a ≠ [] ∧ numberR 10 a.dropLast < m then putW u (numberR 10 a.dropLast) fun i => numberR 16 (ws[i]?.getD []) else u) p < 18446744073709551616
    split
    · unfold putW; split
      · exact numberR_lt _ _
      · exact h p
    · exact h p
theorem putsR_lt (m : Nat) : ∀ (l : List (List UInt8)) (u : Nat → Nat), (∀ p, u p < 18446744073709551616) → ∀ p, putsR m l u p < 18446744073709551616
  | [], u, h => h
  | r :: l, u, h => putsR_lt m l _ (putR_lt m u r h)
theorem txt_bne {a b : List UInt8} (h : a ≠ b) : ((txt a).toList == (txt b).toList) = false := by
  rw [beq_eq_false_iff_ne, ByteArray.toList_eq, ByteArray.toList_eq, txt_list, txt_list]
  exact h
/-- The first k words of a line put. -/
def putF (u : Nat → Nat) (n k : Nat) (f : Nat → Nat) : Nat → Nat := fun p => if 8 * n ≤ p ∧ p < 8 * n + k then f (p - 8 * n) else u p
theorem putF_next (u : Nat → Nat) (n k : Nat) (f : Nat → Nat) : putF u n (k + 1) f = upd (putF u n k f) (8 * n + k) (f k) := by
  funext p
  unfold putF upd
  by_cases hp : p = 8 * n + k
  · subst hp
    rw [if_pos (by omega), if_pos rfl, show 8 * n + k - 8 * n = k by omega]
  · rw [if_neg hp]
    by_cases h2 : 8 * n ≤ p ∧ p < 8 * n + k
    · rw [if_pos (by omega)]; exact (if_pos h2).symm
    · rw [if_neg (by omega)]; exact (if_neg h2).symm
/-- What the document's reader answers. -/
def RefReadTo (o : Option (Nat × (Nat → Nat))) (w : World) (e : Ending) (w' : World) : Prop :=
  Below w.heap.size w w' ∧ (o = none → e = .returned (.tuple #[.slice none 0 0, .bool false])) ∧ ∀ m u, o = some (m, u) → (∀ p, u p < 18446744073709551616) ∧ ∃ g, e = .returned (.tuple #[.slice (some ⟨g, 0, none⟩) (8 * m) (8 * m), .bool true]) ∧ Wds w' g (8 * m) u
set_option maxRecDepth 100000 in
set_option maxHeartbeats 8000000 in
theorem refRead15 (l : List UInt8) (hl : l.length ≤ 100000) (w : World) :
    Calls Tryd.prog 15 #[.string (txt l), .int .i64 40] w (RefReadTo (parseR 40 l) w) := by
  have hPR : parseR 40 l = (if (cutAt 32 ((cutAt 10 l).head?.getD [])).length ≠ 3 then none
      else if numberR 10 ((cutAt 32 ((cutAt 10 l).head?.getD []))[1]?.getD []) < 1 ∨ 40 < numberR 10 ((cutAt 32 ((cutAt 10 l).head?.getD []))[1]?.getD []) then none
      else if textT (putsR (numberR 10 ((cutAt 32 ((cutAt 10 l).head?.getD []))[1]?.getD [])) ((cutAt 10 l).drop 1) fun _ => 0) (numberR 10 ((cutAt 32 ((cutAt 10 l).head?.getD []))[1]?.getD [])) = l then some (numberR 10 ((cutAt 32 ((cutAt 10 l).head?.getD []))[1]?.getD []), putsR (numberR 10 ((cutAt 32 ((cutAt 10 l).head?.getD []))[1]?.getD [])) ((cutAt 10 l).drop 1) fun _ => 0) else none) := rfl
  obtain ⟨rows, hrows⟩ : ∃ rows, rows = cutAt 10 l := ⟨_, rfl⟩
  rw [← hrows] at hPR
  have hr1 : 1 ≤ rows.length := by
    have := cutAt_ne 10 l
    rw [← hrows] at this
    cases rows
    · exact absurd rfl this
    · simp
  have hrl : rows.length ≤ 100001 := by have := cutAt_len 10 l; rw [← hrows] at this; omega
  have HRL : Hid (∀ k, (rows[k]?.getD []).length ≤ 100000) := Lib.hid fun k => by
    by_cases hk : k < rows.length
    · have := cutAt_part 10 l (rows[k]?.getD []) (by rw [← hrows, List.getElem?_eq_getElem hk]; simp)
      omega
    · rw [List.getElem?_eq_none (by omega)]; simp
  have HS10 : Hid (∀ W, Calls Tryd.prog 33 #[.string (txt l), .int .u8 10] W (NewStrs rows W)) := Lib.hid fun W => by rw [hrows]; exact refSplit33 10 10 rfl l (by omega) W
  have HS32 : Hid (∀ (s : List UInt8) W, s.length ≤ 100000 → Calls Tryd.prog 33 #[.string (txt s), .int .u8 32] W fun e w' => ∃ g c, e = .returned (.slice (some ⟨g, 0, none⟩) (cutAt 32 s).length c) ∧ Below W.heap.size W w' ∧ W.heap.size ≤ g ∧ g < w'.heap.size ∧ Hid (∀ k, k < (cutAt 32 s).length → w'.cell? ⟨g, k, none⟩ = some (.string (txt ((cutAt 32 s)[k]?.getD []))))) := Lib.hid fun s W hs => by
    refine (refSplit33 32 32 rfl s (by omega) W).mono fun e w' h => ?_
    obtain ⟨v, rfl, hb, ho⟩ := h
    have h1 : 1 ≤ (cutAt 32 s).length := by
      have := cutAt_ne 32 s
      cases hc : cutAt 32 s
      · exact absurd hc this
      · simp
    obtain ⟨g, c, rfl, h2, h3, h4⟩ := own_strs ho h1
    exact ⟨g, c, rfl, hb, h2, h3, Lib.hid h4⟩
  have HN10 : Hid (∀ (s : List UInt8) W, s.length ≤ 100000 → Calls Tryd.prog 34 #[.string (txt s), .int .i64 10] W (Says (.int .u64 (numberR 10 s)) W)) := Lib.hid fun s W hs => number34 10 (.inl rfl) s (by omega) W
  have HN16 : Hid (∀ (s : List UInt8) W, s.length ≤ 100000 → Calls Tryd.prog 34 #[.string (txt s), .int .i64 16] W (Says (.int .u64 (numberR 16 s)) W)) := Lib.hid fun s W hs => number34 16 (.inr rfl) s (by omega) W
  obtain ⟨head, hhead⟩ : ∃ head, head = cutAt 32 (rows.head?.getD []) := ⟨_, rfl⟩
  have h00 : rows.head?.getD [] = rows[0]?.getD [] := by rw [List.head?_eq_getElem?]
  rw [← hhead] at hPR
  rw [h00] at hhead
  have HHL : Hid (∀ k, (head[k]?.getD []).length ≤ 100000) := Lib.hid fun k => by
    by_cases hk : k < head.length
    · have := cutAt_part 32 (rows[0]?.getD []) (head[k]?.getD []) (by rw [← hhead, List.getElem?_eq_getElem hk]; simp)
      have := HRL.out 0
      omega
    · rw [List.getElem?_eq_none (by omega)]; simp
  have hhl : head.length ≤ 100001 := by have := cutAt_len 32 (rows[0]?.getD []); have := HRL.out 0; rw [← hhead] at *; omega
  have HSH : Hid (∀ W, Calls Tryd.prog 33 #[.string (txt (rows[0]?.getD [])), .int .u8 32] W fun e w' => ∃ g c, e = .returned (.slice (some ⟨g, 0, none⟩) head.length c) ∧ Below W.heap.size W w' ∧ W.heap.size ≤ g ∧ g < w'.heap.size ∧ Hid (∀ k, k < head.length → w'.cell? ⟨g, k, none⟩ = some (.string (txt (head[k]?.getD []))))) := Lib.hid fun W => by
    have := HS32.out (rows[0]?.getD []) W (HRL.out 0)
    rw [← hhead] at this
    exact this
  have HPR := Lib.hid hPR
  clear hPR hhead h00 hrows
  unfold NewStrs at HS10
  unfold Says at HN10 HN16
  unfold RefReadTo
  obtain ⟨r0, hr0⟩ : ∃ r0, r0 = rows[0]?.getD [] := ⟨_, rfl⟩
  rw [← hr0] at HSH
  have HR0 := Lib.hid hr0.symm
  clear hr0
  by_cases h3 : head.length = 3
  · rw [h3] at HSH
    rw [if_neg (by omega)] at HPR
    have d3 : ((3 : Int) != 3) = false := by decide
    obtain ⟨h1, hh1⟩ : ∃ h1, h1 = head[1]?.getD [] := ⟨_, rfl⟩
    obtain ⟨M, hM⟩ : ∃ M, M = numberR 10 h1 := ⟨_, rfl⟩
    have HNM : Hid (∀ W, Calls Tryd.prog 34 #[.string (txt h1), .int .i64 10] W fun e w' => e = .returned (.int .u64 M) ∧ w' = W) := Lib.hid fun W => by rw [hM]; exact HN10.out h1 W (by rw [hh1]; exact HHL.out 1)
    rw [← hh1, ← hM] at HPR
    have HH1 := Lib.hid hh1.symm
    clear hh1
    have hM64 : M < 18446744073709551616 := by rw [hM]; exact numberR_lt _ _
    clear hM
    clear HHL hhl
    by_cases hlo : M < 1
    · rw [if_pos (Or.inl hlo)] at HPR
      have d4 : decide ((M : Int) < 1) = true := bool_yes (by omega)
      go_enter Tryd.func15, Tryd.ntmps15
      go_wp2_with (first
        | (go_at_call 33; first
            | ((with_reducible refine (HS10.out _).mono ?_); rintro e w1 ⟨v, rfl, hb, ho⟩; obtain ⟨g1, c1, rfl, hg1, hgl1, hc1⟩ := own_strs ho hr1; have HB1 := Lib.hid hb; have k1 := hc1 0 (by omega); rw [HR0.out] at k1; have HC1 := Lib.hid hc1; clear hb ho hc1)
            | ((with_reducible refine (HSH.out _).mono ?_); rintro e w2 ⟨g2, c2, rfl, hb2, hg2, hgl2, HC2⟩; have HB2 := Lib.hid (HB1.out.trans (hb2.mono HB1.out.size)); have HB12 := Lib.hid hb2; have k2 := HC2.out 1 (by decide); rw [HH1.out] at k2;  clear hb2))
        | (go_at_call 34; (with_reducible refine (HNM.out _).mono ?_); rintro e w3 ⟨rfl, hw⟩; cases hw))
      go_ret2
      exact ⟨HB2.out, fun _ => rfl, fun m u h => by rw [HPR.out] at h; cases h⟩
    · have d4 : decide ((M : Int) < 1) = false := bool_no (by omega)
      by_cases hhi : 40 < M
      · rw [if_pos (Or.inr hhi)] at HPR
        have d5 : decide ((40 : Int) < (M : Int)) = true := bool_yes (by omega)
        go_enter Tryd.func15, Tryd.ntmps15
        go_wp2_with (first
        | (go_at_call 33; first
            | ((with_reducible refine (HS10.out _).mono ?_); rintro e w1 ⟨v, rfl, hb, ho⟩; obtain ⟨g1, c1, rfl, hg1, hgl1, hc1⟩ := own_strs ho hr1; have HB1 := Lib.hid hb; have k1 := hc1 0 (by omega); rw [HR0.out] at k1; have HC1 := Lib.hid hc1; clear hb ho hc1)
            | ((with_reducible refine (HSH.out _).mono ?_); rintro e w2 ⟨g2, c2, rfl, hb2, hg2, hgl2, HC2⟩; have HB2 := Lib.hid (HB1.out.trans (hb2.mono HB1.out.size)); have HB12 := Lib.hid hb2; have k2 := HC2.out 1 (by decide); rw [HH1.out] at k2;  clear hb2))
        | (go_at_call 34; (with_reducible refine (HNM.out _).mono ?_); rintro e w3 ⟨rfl, hw⟩; cases hw))
        go_ret2
        exact ⟨HB2.out, fun _ => rfl, fun m u h => by rw [HPR.out] at h; cases h⟩
      · have d5 : decide ((40 : Int) < (M : Int)) = false := bool_no (by omega)
        rw [if_neg (by omega)] at HPR
        obtain ⟨N8, hN8⟩ : ∃ N8, N8 = 8 * M := ⟨_, rfl⟩
        have hN8b : N8 ≤ 320 := by omega
        have HMK : Hid (∀ W : World, ∃ W3, (Instr.makeSlice 22 (.int .i64 (8 * (M : Int))) (.int .i64 (8 * (M : Int)))).run Tryd.prog W = .ok (.slice (some ⟨W.heap.size, 0, none⟩) N8 N8) W3 ∧ Below W.heap.size W W3 ∧ Wds W3 W.heap.size N8 (fun _ => 0) ∧ W.heap.size < W3.heap.size) := Lib.hid fun W => by
          refine ⟨W.alloc (.cells (madeCells #[.int .u64 0] N8) 23), ?_, (Below.refl _ W).alloc (Nat.le_refl _) _, new_words N8 W, by simp⟩
          have := mk22 N8 (by omega) W
          rw [← this, hN8, Int.natCast_mul]
          rfl
        have HN8 := Lib.hid hN8
        clear hN8
        go_enter Tryd.func15, Tryd.ntmps15
        go_wp2_with (first
        | (go_at_call 33; first
            | ((with_reducible refine (HS10.out _).mono ?_); rintro e w1 ⟨v, rfl, hb, ho⟩; obtain ⟨g1, c1, rfl, hg1, hgl1, hc1⟩ := own_strs ho hr1; have HB1 := Lib.hid hb; have k1 := hc1 0 (by omega); rw [HR0.out] at k1; have HC1 := Lib.hid hc1; clear hb ho hc1)
            | ((with_reducible refine (HSH.out _).mono ?_); rintro e w2 ⟨g2, c2, rfl, hb2, hg2, hgl2, HC2⟩; have HB2 := Lib.hid (HB1.out.trans (hb2.mono HB1.out.size)); have HB12 := Lib.hid hb2; have k2 := HC2.out 1 (by decide); rw [HH1.out] at k2; obtain ⟨W3, m1, hb3, hz3, hl3⟩ := HMK.out w2; obtain ⟨g3, hg3⟩ : ∃ g3, g3 = w2.heap.size := ⟨_, rfl⟩; rw [← hg3] at m1 hz3 hl3; have HB3 := Lib.hid hb3; have HZ3 := Lib.hid hz3; have HG3 := Lib.hid hg3; clear hb3 hz3 hg3; clear hb2))
        | (go_at_call 34; (with_reducible refine (HNM.out _).mono ?_); rintro e w3 ⟨rfl, hw⟩; cases hw))
        obtain ⟨R, hR⟩ : ∃ R, R = rows.length := ⟨_, rfl⟩
        obtain ⟨T, hT⟩ : ∃ T : Nat → Nat → Nat, T = fun i => putsR M ((rows.drop 1).take (i - 1)) (fun _ => 0) := ⟨_, rfl⟩
        have HT1 : Hid (T 1 = fun _ => 0) := Lib.hid (by rw [hT]; rfl)
        have HTN : Hid (∀ i, 1 ≤ i → i < R → T (i + 1) = putR M (T i) (rows[i]?.getD [])) := Lib.hid fun i h1 h2 => by
          have h := putsR_take M (rows.drop 1) (fun _ => 0) (i - 1) (by rw [List.length_drop]; omega)
          rw [show i - 1 + 1 = i by omega, List.getElem?_drop, show 1 + (i - 1) = i by omega] at h
          rw [hT]
          exact h
        have HTR : Hid (T R = putsR M (rows.drop 1) fun _ => 0) := Lib.hid (by rw [hT, hR]; show putsR M ((rows.drop 1).take (rows.length - 1)) _ = _; rw [List.take_of_length_le (by simp)])
        have HTB : Hid (∀ i p, T i p < 18446744073709551616) := Lib.hid fun i p => by rw [hT]; exact putsR_lt M _ _ (fun _ => by show 0 < 18446744073709551616; decide) p
        rw [← HTR.out] at HPR
        have HGG : Hid (g1 < W3.heap.size ∧ g1 ≠ g3) := Lib.hid ⟨by have := HB12.out.size; have := HB3.out.size; omega, by have := HB12.out.size; have := HG3.out; omega⟩
        have HC3 : Hid (∀ k, k < R → W3.cell? ⟨g1, k, none⟩ = some (.string (txt (rows[k]?.getD [])))) := Lib.hid fun k hk => by
          rw [HB3.out.cell (p := ⟨g1, k, none⟩) (by have := HB12.out.size; show g1 < _; omega), HB12.out.cell (p := ⟨g1, k, none⟩) hgl1]
          exact HC1.out k (by omega)
        have HB13 : Hid (Below w.heap.size w W3) := Lib.hid (HB2.out.trans (HB3.out.mono HB2.out.size))
        have HG0 : Hid (w.heap.size ≤ g3 ∧ w.heap.size ≤ W3.heap.size) := Lib.hid ⟨by have := HG3.out; have := HB2.out.size; omega, HB13.out.size⟩
        have hR1 : 1 ≤ R := by omega
        have hRl : R ≤ 100001 := by omega
        rw [← hR]
        clear hT hR hr1 hrl HSH HS10 HNM HMK m1 k1 k2 HC1 HC2 HB1 HB2 HB12 HB3 HG3 d4 d5 d3 hg1 hgl1 hg2 hgl2
        go_loopw [10] (fun iv wr => ∃ i : Nat, 1 ≤ i ∧ i ≤ R ∧ iv = .int .i64 i ∧ Hid (Wds wr g3 N8 (T i)) ∧ Hid (But g3 W3 wr)) (fun iv _ => R - (intOf iv).toNat)
        case atStart => exact ⟨1, by omega, hR1, rfl, by rw [HT1.out]; exact HZ3, But.refl _ _⟩
        case round =>
          obtain ⟨i, hi1, hi2, rfl, HX, HBU⟩ := hrel
          by_cases hlt : i < R
          · have d2 : decide ((i : Int) < (R : Int)) = true := bool_yes (by omega)
            have i0 : (0 : Int) ≤ (i : Int) := by omega
            have cr : wr.cell? ⟨g1, i, none⟩ = some (.string (txt (rows[i]?.getD []))) := (cell_of_heap (HBU.out.block g1 HGG.out.1 HGG.out.2) i).trans (HC3.out i hlt)
            have HTn := Lib.hid (HTN.out i hi1 hlt)
            have HRi := Lib.hid (HRL.out i)
            generalize rows[i]?.getD [] = r at *
            have hgw : g3 < wr.heap.size := Nat.lt_of_lt_of_le hl3 HBU.out.size
            have HSR : Hid (Calls Tryd.prog 33 #[.string (txt r), .int .u8 32] wr _) := Lib.hid (HS32.out r wr HRi.out)
            have HPL : Hid (∀ s, s ∈ cutAt 32 r → s.length ≤ 100000) := Lib.hid fun s hs => Nat.le_trans (cutAt_part 32 r s hs) HRi.out
            have hpl := cutAt_len 32 r
            unfold putR at HTn
            cases hcut : cutAt 32 r with
            | nil => exact absurd hcut (cutAt_ne 32 r)
            | cons a ws =>
              rw [hcut] at HSR HPL HTn hpl
              have HTn2 : Hid (T (i + 1) = if ws.length = 8 ∧ a ≠ [] ∧ numberR 10 a.dropLast < M then putW (T i) (numberR 10 a.dropLast) fun i => numberR 16 (ws[i]?.getD []) else T i) := HTn
              clear HTn hcut
              rw [show (a :: ws).length = ws.length + 1 from rfl] at HSR hpl
              have hrl2 := HRi.out
              by_cases c9 : ws.length = 8
              · rw [c9] at HSR
                have HW8 := Lib.hid c9
                have hal : a.length ≤ 100000 := HPL.out a (by simp)
                by_cases ca : a = []
                · have es0 : (txt a).size = 0 := by rw [txt_size, ca]; rfl
                  have HTe : Hid (T (i + 1) = T i) := Lib.hid (by rw [HTn2.out, if_neg (fun h => h.2.1 ca)])
                  clear HTn2 ca
                  go_wp2_with (go_at_call 33; (with_reducible refine HSR.out.mono ?_); rintro e w4 ⟨g4, c4, rfl, hb4, hg4, hgl4, HC4⟩; have HB4 := Lib.hid hb4; have k4 : w4.cell? ⟨g4, 0, none⟩ = some (.string (txt a)) := HC4.out 0 (by omega); clear hb4)
                  go_roundw
                  case rel => exact ⟨i + 1, by omega, by omega, by go_num, Lib.hid (by rw [HTe.out]; exact HX.out.keep (HB4.out.block g3 hgw)), Lib.hid (HBU.out.trans (But.of_below HB4.out))⟩
                  case measure => simp [intOf]; omega
                · obtain ⟨q, hq⟩ : ∃ q, a.length = q + 1 := ⟨a.length - 1, by have := List.length_pos_iff.2 ca; omega⟩
                  have es0 : (txt a).size = q + 1 := by rw [txt_size, hq]
                  have d0 : (((q : Int) + 1) == 0) = false := by rw [beq_eq_false_iff_ne]; omega
                  have d0' : (((q + 1 : Nat) : Int) == 0) = false := by rw [beq_eq_false_iff_ne]; omega
                  have ex : (txt a).extract 0 q = txt a.dropLast := by rw [txt_slice, List.drop_zero, List.dropLast_eq_take]; congr 1; rw [hq]; rfl
                  obtain ⟨n, hn⟩ : ∃ n, n = numberR 10 a.dropLast := ⟨_, rfl⟩
                  rw [← hn] at HTn2
                  have HNa : Hid (∀ W, Calls Tryd.prog 34 #[.string (txt a.dropLast), .int .i64 10] W fun e w' => e = .returned (.int .u64 n) ∧ w' = W) := Lib.hid fun W => by rw [hn]; exact HN10.out a.dropLast W (by rw [List.length_dropLast]; omega)
                  have hn64 : n < 18446744073709551616 := by rw [hn]; exact numberR_lt _ _
                  generalize a.dropLast = ad at *
                  have HCA := Lib.hid ca
                  have hq6 : q < 100000 := by omega
                  clear hn ca hq hal c9
                  go_wp2_with (go_at_call 33; (with_reducible refine HSR.out.mono ?_); rintro e w4 ⟨g4, c4, rfl, hb4, hg4, hgl4, HC4⟩; have HB4 := Lib.hid hb4; have k4 : w4.cell? ⟨g4, 0, none⟩ = some (.string (txt a)) := HC4.out 0 (by omega); clear hb4)
                  go_quiet (first | (go_at_call 34; (with_reducible refine Calls.quiet_of_same (HNa.out _))))
                  have HNQ : Hid (Below w4.heap.size w4 (w4.drewN nq)) := Lib.hid ⟨rfl, rfl, rfl, Nat.le_refl _, fun _ _ => rfl⟩
                  obtain ⟨w5, hw5⟩ : ∃ w5, w5 = w4.drewN nq := ⟨_, rfl⟩
                  rw [← hw5] at HNQ ⊢
                  clear hw5
                  have HB5 : Hid (Below wr.heap.size wr w5) := Lib.hid (HB4.out.trans (HNQ.out.mono HB4.out.size))
                  have HG4 : Hid (g4 < w5.heap.size ∧ g4 ≠ g3) := Lib.hid ⟨Nat.lt_of_lt_of_le hgl4 HNQ.out.size, by omega⟩
                  have HC5 : Hid (∀ k, k < 8 → w5.cell? ⟨g4, 1 + k, none⟩ = some (.string (txt (ws[k]?.getD [])))) := Lib.hid fun k hk => by
                    rw [HNQ.out.cell (p := ⟨g4, 1 + k, none⟩) hgl4, Nat.add_comm 1 k]
                    exact HC4.out (k + 1) (by omega)
                  have HX5 : Hid (Wds w5 g3 N8 (T i)) := Lib.hid (HX.out.keep (HB5.out.block g3 hgw))
                  have HBU5 : Hid (But g3 W3 w5) := Lib.hid (HBU.out.trans (But.of_below HB5.out))
                  have HWL : Hid (∀ k, k < 8 → (ws[k]?.getD []).length ≤ 100000) := Lib.hid fun k hk => HPL.out _ (by rw [List.getElem?_eq_getElem (by have := HW8.out; omega)]; simp)
                  clear HNQ HB4 HC4 k4 hgl4 hg4 HB5 HX HBU HPL ex HNa es0 d0 d0'
                  by_cases cn : n < M
                  · have HTe : Hid (T (i + 1) = putF (T i) n 8 fun i => numberR 16 (ws[i]?.getD [])) := Lib.hid (by rw [HTn2.out, if_pos ⟨HW8.out, HCA.out, cn⟩]; rfl)
                    have dn : decide ((n : Int) < (M : Int)) = true := bool_yes (by omega)
                    have dn2 : decide (n < M) = true := bool_yes cn
                    clear HTn2
                    go_wp2_with fail
                    go_loopw [13] (fun kv wq => ∃ k : Nat, k ≤ 8 ∧ kv = .int .i64 k ∧ Hid (Wds wq g3 N8 (putF (T i) n k fun i => numberR 16 (ws[i]?.getD []))) ∧ Hid (But g3 w5 wq)) (fun kv _ => 8 - (intOf kv).toNat)
                    case atStart => exact ⟨0, by omega, rfl, Lib.hid (RowAt.congr HX5.out fun p _ => by unfold putF; rw [if_neg (by omega)]), But.refl _ _⟩
                    case round =>
                      obtain ⟨k, hk, rfl, HXk, HBk⟩ := hrel
                      by_cases hk8 : k < 8
                      · have d8 : decide ((k : Int) < 8) = true := bool_yes (by omega)
                        have cs : wr.cell? ⟨g4, 1 + k, none⟩ = some (.string (txt (ws[k]?.getD []))) := (cell_of_heap (HBk.out.block g4 HG4.out.1 HG4.out.2) (1 + k)).trans (HC5.out k hk8)
                        have HN8k := HN8.out
                        have ca := HXk.out.cell (k := 8 * n + k) (by omega)
                        have fa : wr.frozen? ⟨g3, 8 * n + k, none⟩ = false := RowAt.free HXk.out _
                        have j0 : (0 : Int) ≤ 8 * (n : Int) + (k : Int) := by omega
                        have j1 : 8 * (n : Int) + (k : Int) < (N8 : Int) := by omega
                        have j2 : (k : Int) < 8 := by omega
                        have HPN := Lib.hid (putF_next (T i) n k fun i => numberR 16 (ws[i]?.getD []))
                        have HNk : Hid (∀ W, Calls Tryd.prog 34 #[.string (txt (ws[k]?.getD [])), .int .i64 16] W fun e w' => e = .returned (.int .u64 (numberR 16 (ws[k]?.getD []))) ∧ w' = W) := Lib.hid fun W => HN16.out _ W (HWL.out k hk8)
                        clear HN8k
                        generalize putF (T i) n k (fun i => numberR 16 (ws[i]?.getD [])) = pf at *
                        generalize pf (8 * n + k) = old at *
                        generalize ws[k]?.getD [] = wk at *
                        generalize numberR 16 wk = x at *
                        go_wp2_with (go_at_call 34; (with_reducible refine (HNk.out _).mono ?_); rintro e w6 ⟨rfl, hw⟩; cases hw)
                        go_roundw
                        case rel => exact ⟨k + 1, by omega, by go_num, Lib.hid (by rw [HPN.out]; exact HXk.out.set (8 * n + k) x), Lib.hid (HBk.out.set (8 * n + k) _)⟩
                        case measure => simp [intOf]; omega
                      · obtain rfl : k = 8 := by omega
                        have d8 : decide ((8 : Int) < 8) = false := by decide
                        go_wp2_with fail
                        go_roundw
                        case rel => exact ⟨i + 1, by omega, by omega, by go_num, Lib.hid (by rw [HTe.out]; exact HXk.out), Lib.hid (HBU5.out.trans HBk.out)⟩
                        case measure => simp [intOf]; omega
                  · have HTe : Hid (T (i + 1) = T i) := Lib.hid (by rw [HTn2.out, if_neg (fun h => cn h.2.2)])
                    have dn : decide ((n : Int) < (M : Int)) = false := bool_no (by omega)
                    have dn2 : decide (n < M) = false := bool_no cn
                    clear HTn2
                    go_wp2_with fail
                    go_loopw [13] (fun kv wq => kv = .int .i64 0 ∧ wq = w5) (fun _ _ => 0)
                    case atStart => exact ⟨rfl, rfl⟩
                    case round =>
                      obtain ⟨rfl, rfl⟩ := hrel
                      go_wp2_with fail
                      go_roundw
                      case rel => exact ⟨i + 1, by omega, by omega, by go_num, Lib.hid (by rw [HTe.out]; exact HX5.out), HBU5⟩
                      case measure => simp [intOf]; omega
              · have d9 : (((ws.length : Int) + 1) != 9) = true := by rw [bne_iff_ne]; omega
                have HTe : Hid (T (i + 1) = T i) := Lib.hid (by rw [HTn2.out, if_neg (fun h => c9 h.1)])
                clear HTn2
                go_wp2_with (go_at_call 33; (with_reducible refine HSR.out.mono ?_); rintro e w4 ⟨g4, c4, rfl, hb4, hg4, hgl4, HC4⟩; have HB4 := Lib.hid hb4; clear hb4)
                go_roundw
                case rel => exact ⟨i + 1, by omega, by omega, by go_num, Lib.hid (by rw [HTe.out]; exact HX.out.keep (HB4.out.block g3 hgw)), Lib.hid (HBU.out.trans (But.of_below HB4.out))⟩
                case measure => simp [intOf]; omega
          · obtain rfl : i = R := by omega
            have d2 : decide ((i : Int) < (i : Int)) = false := by simp
            have hwd : WordsAt wr.heap.size wr (some ⟨g3, 0, none⟩) N8 (T i) := HX.out.at
            have HRW : Hid (Calls Tryd.prog 13 #[.slice (some ⟨g3, 0, none⟩) N8 N8] wr (TextTo (textT (T i) M) wr)) := Lib.hid (refWrite13 (some ⟨g3, 0, none⟩) N8 N8 M HN8.out (by omega) (T i) (HTB.out i) wr hwd)
            unfold TextTo at HRW
            have hgw : g3 < wr.heap.size := Nat.lt_of_lt_of_le hl3 HBU.out.size
            clear hwd
            by_cases hfin : textT (T i) M = l
            · rw [if_pos hfin] at HPR
              rw [hfin] at HRW
              have HF := Lib.hid hfin
              clear hfin
              go_wp2_with (go_at_call 13; (with_reducible refine HRW.out.mono ?_); rintro e w4 ⟨rfl, hb4⟩; have HB4 := Lib.hid hb4; clear hb4)
              go_ret2
              refine ⟨But.below HB13.out (HBU.out.trans (But.of_below HB4.out)) HG0.out.1 HG0.out.2, (fun h => by rw [HPR.out] at h; cases h), fun m u h => ?_⟩
              rw [HPR.out] at h
              cases h
              refine ⟨HTB.out i, g3, ?_, ?_⟩
              · rw [← HN8.out]; rfl
              · rw [← HN8.out]; exact HX.out.keep (HB4.out.block g3 hgw)
            · rw [if_neg hfin] at HPR
              have dne := txt_bne hfin
              clear hfin
              generalize textT (T i) M = tt at *
              go_wp2_with (go_at_call 13; (with_reducible refine HRW.out.mono ?_); rintro e w4 ⟨rfl, hb4⟩; have HB4 := Lib.hid hb4; clear hb4)
              go_ret2
              exact ⟨But.below HB13.out (HBU.out.trans (But.of_below HB4.out)) HG0.out.1 HG0.out.2, fun _ => rfl, fun m u h => by rw [HPR.out] at h; cases h⟩
  · have d3 : ((head.length : Int) != 3) = true := by rw [bne_iff_ne]; omega
    rw [if_pos h3] at HPR
    go_enter Tryd.func15, Tryd.ntmps15
    go_wp2_with (go_at_call 33; first
          | ((with_reducible refine (HS10.out _).mono ?_); rintro e w1 ⟨v, rfl, hb, ho⟩; obtain ⟨g1, c1, rfl, hg1, hgl1, hc1⟩ := own_strs ho hr1; have HB1 := Lib.hid hb; have k1 := hc1 0 (by omega); rw [HR0.out] at k1; have HC1 := Lib.hid hc1; clear hb ho hc1)
          | ((with_reducible refine (HSH.out _).mono ?_); rintro e w2 ⟨g2, c2, rfl, hb2, hg2, hgl2, HC2⟩; have HB2 := Lib.hid (HB1.out.trans (hb2.mono HB1.out.size)); have HB12 := Lib.hid hb2; clear hb2))
    go_ret2
    exact ⟨HB2.out, fun _ => rfl, fun m u h => by rw [HPR.out] at h; cases h⟩
end Go.Proofs.YtjbngddmmdcagaaDoor
