/- Layer 32: an image's text, as the document writes it. -/
import Derived.Test.YtjbngddmmdcagaaDoorX1
import Derived.Test.YtjbngddmmdcagaaDoorS8
import Derived.Test.YtjbngddmmdcagaaDoorH3
namespace Go.Proofs.YtjbngddmmdcagaaDoor
open Go.RowKit Go.BigFrame
set_option linter.unusedVariables false
set_option linter.unusedSimpArgs false

theorem headT_length (f : Nat → Nat) (m : Nat) (hm : m ≤ 262144) : (headT f m).length ≤ 21 := by
  have h0 := dig_length (b := 10) (by decide) 6 m (by decide) (by omega)
  have h1 := pad8_length (dig 16 (sumW f (8 * m))) (dig_length (by decide) 8 _ (by decide) (by have := sumW_lt f (8 * m); omega))
  unfold headT
  simp only [List.length_append, List.length_cons, List.length_nil]
  omega
theorem textTo_len (f : Nat → Nat) (hf : ∀ j, f j < 18446744073709551616) (m : Nat) (hm : m ≤ 262144) : ∀ k, k ≤ (partsW f m).length → (textTo f m k).length ≤ 22 + 144 * k
  | 0, _ => by
    have := headT_length f m hm
    unfold textTo
    simp; omega
  | k + 1, h => by
    have h1 := textTo_len f hf m hm k (by omega)
    have h2 := rowT_length f hf ((partsW f m)[k]?.getD 0) (by have := partsW_lt f m k h; omega)
    rw [textTo_next f m k h, List.length_append, List.length_append]
    simp; omega
theorem hex8' (z : Int) (x : Nat) (hz : z = (x : Int)) (hx : x < 18446744073709551616) (w : World) : Calls Tryd.prog 8 #[.int .u64 z] w (TextTo (dig 16 x) w) := by
  subst hz; exact hex8 x hx w
theorem digits32' (z : Int) (x : Nat) (hz : z = (x : Int)) (hx : x ≤ 262144) (w : World) : Calls Tryd.prog 32 #[.int .i64 z] w (TextTo (dig 10 x) w) := by
  subst hz; exact digits32 x hx w
def strRoom : Value → Nat
  | .string s => 8 - s.size
  | _ => 0
/-- The words of a line behind its number, q of them. -/
def lineTo (f : Nat → Nat) (n q : Nat) : List UInt8 := (List.range q).flatMap fun k => 32 :: dig 16 (f (8 * n + k))
theorem lineTo_next (f : Nat → Nat) (n q : Nat) : lineTo f n (q + 1) = lineTo f n q ++ ([32] ++ dig 16 (f (8 * n + q))) := by
  unfold lineTo; rw [List.range_succ, List.flatMap_append]; simp
theorem lineTo_len (f : Nat → Nat) (hf : ∀ j, f j < 18446744073709551616) (n : Nat) : ∀ q, (lineTo f n q).length ≤ 17 * q
  | 0 => by simp [lineTo]
  | q + 1 => by
    have h1 := lineTo_len f hf n q
    have h2 := dig_length (b := 16) (by decide) 16 (f (8 * n + q)) (by decide) (by have := hf (8 * n + q); omega)
    rw [lineTo_next, List.length_append, List.length_append]
    simp; omega
set_option maxRecDepth 100000 in
set_option maxHeartbeats 8000000 in
theorem refWrite13 (a : Option Addr) (n cap : Nat) (m : Nat) (hn8 : n = 8 * m) (hm : m ≤ 40) (f : Nat → Nat) (hf : ∀ j, f j < 18446744073709551616) (w : World) (h : WordsAt w.heap.size w a n f) :
    Calls Tryd.prog 13 #[.slice a n cap] w (TextTo (textT f m) w) := by
  unfold TextTo
  have HW : Hid (∀ W, Below w.heap.size w W → WordsAt W.heap.size W a n f) := Lib.hid fun W hb => (h.below hb (Nat.le_refl _)).mono hb.size
  obtain ⟨b, off, ha, hc⟩ := h
  have HA := Lib.hid ha
  have HC := Lib.hid hc
  have HF := Lib.hid hf
  have hq : (n : Int).tdiv 8 = (m : Int) := by rw [Int.tdiv_eq_ediv_of_nonneg (by omega)]; omega
  have HSUM : Hid (Calls Tryd.prog 31 #[.slice a n cap] w fun e w' => e = .returned (.int .u32 (sumW f n)) ∧ Below w.heap.size w w') := Lib.hid (words31 f hf n (by omega) a cap w (HW.out w (Below.refl _ _)))
  have hsm := sumW_lt f n
  have HX8 : Hid ((dig 16 (sumW f n)).length ≤ 8) := Lib.hid (dig_length (by decide) 8 _ (by decide) (by omega))
  have HH : Hid (headT f m = [105, 109, 97, 103, 101, 32] ++ dig 10 m ++ [32] ++ pad8 (dig 16 (sumW f n))) := Lib.hid (by unfold headT; rw [hn8])
  generalize sumW f n = sm at *
  obtain ⟨X, hX⟩ : ∃ X, X = dig 16 sm := ⟨_, rfl⟩
  have HXX := Lib.hid hX
  rw [← hX] at HX8 HH
  have HN8 : Hid (n = 8 * m) := Lib.hid hn8
  have hnb : n ≤ 320 ∧ 8 * m ≤ n ∧ n ≤ 8 * m := by omega
  clear ha hc hf hX hn8
  go_enter Tryd.func13, Tryd.ntmps13
  go_wp2_with (first
    | (go_at_call 31; (with_reducible refine HSUM.out.mono ?_); rintro e w1 ⟨rfl, hb1⟩; have HB1 := Lib.hid hb1; clear hb1)
    | (go_at_call 8; (with_reducible refine (hex8 sm (by omega) _).mono ?_); rintro e w2 ⟨rfl, hb2⟩; rw [← HXX.out]; have HB2 : Hid (Below w.heap.size w w2) := Lib.hid (HB1.out.trans (hb2.mono HB1.out.size)); clear hb2))
  go_loop [3] (fun v => ∃ j : Nat, j + X.length ≤ 8 ∧ v = .string (txt (List.replicate j 48 ++ X))) strRoom
  case atStart => exact ⟨0, by have := HX8.out; omega, rfl⟩
  case round =>
    obtain ⟨j, hj, rfl⟩ := hrel
    have hl : (txt (List.replicate j 48 ++ X)).size = j + X.length := by rw [txt_size]; simp
    by_cases hlt : j + X.length < 8
    · have d1 : decide (((j + X.length : Nat) : Int) < 8) = true := bool_yes (by omega)
      have q0 : (⟨#[48]⟩ : ByteArray) ++ txt (List.replicate j 48 ++ X) = txt (List.replicate (j + 1) 48 ++ X) := by
        rw [List.replicate_succ, List.cons_append]; exact txt_append [48] _
      have q1 : ¬ 9223372036854775807 < (ByteArray.mk #[48]).size + (txt (List.replicate j 48 ++ X)).size := by rw [hl]; show ¬ _ < 1 + _; omega
      have hl' : (txt (List.replicate (j + 1) 48 ++ X)).size = j + 1 + X.length := by rw [txt_size]; simp
      go_wp2_with fail
      go_round
      case rel => exact ⟨j + 1, by omega, rfl⟩
      case measure => simp only [strRoom]; rw [hl, hl']; omega
    · have hl8 : j + X.length = 8 := by omega
      have d1 : decide (((j + X.length : Nat) : Int) < 8) = false := bool_no (by omega)
      have HPX : Hid (List.replicate j 48 ++ X = pad8 X) := Lib.hid (by unfold pad8; rw [show 8 - X.length = j by omega])
      obtain ⟨Y, hY⟩ : ∃ Y, Y = List.replicate j 48 ++ X := ⟨_, rfl⟩
      rw [← hY] at hl HPX ⊢
      rw [hl8] at hl
      rw [← HPX.out] at HH
      obtain ⟨t1, ht1⟩ : ∃ t1, t1 = [105, 109, 97, 103, 101, 32] ++ dig 10 m := ⟨_, rfl⟩
      obtain ⟨t2, ht2⟩ : ∃ t2, t2 = t1 ++ [32] := ⟨_, rfl⟩
      obtain ⟨t3, ht3⟩ : ∃ t3, t3 = t2 ++ Y := ⟨_, rfl⟩
      have hd6 : (dig 10 m).length ≤ 6 := dig_length (by decide) 6 m (by decide) (by omega)
      have HT : Hid (textTo f m 0 = t3 ++ [10]) := Lib.hid (by unfold textTo; rw [HH.out, ht3, ht2, ht1]; simp)
      have hy8 : Y.length = 8 := by rw [← txt_size, hl]
      have l1 : t1.length ≤ 12 := by rw [ht1]; simp; omega
      have l2 : t2.length ≤ 13 := by rw [ht2]; simp; omega
      have l3 : t3.length ≤ 21 := by rw [ht3, List.length_append]; omega
      have q1 : (⟨#[105, 109, 97, 103, 101, 32]⟩ : ByteArray) ++ txt (dig 10 m) = txt t1 := by rw [ht1]; exact txt_append _ _
      have q2 : txt t1 ++ (⟨#[32]⟩ : ByteArray) = txt t2 := by rw [ht2]; exact txt_append _ _
      have q3 : txt t2 ++ txt Y = txt t3 := by rw [ht3]; exact txt_append _ _
      have q4 : txt t3 ++ (⟨#[10]⟩ : ByteArray) = txt (t3 ++ [10]) := txt_append _ _
      have s1 : ¬ 9223372036854775807 < (ByteArray.mk #[105, 109, 97, 103, 101, 32]).size + (txt (dig 10 m)).size := by rw [txt_size]; show ¬ _ < 6 + _; omega
      have s2 : ¬ 9223372036854775807 < (txt t1).size + (ByteArray.mk #[32]).size := by rw [txt_size]; show ¬ _ < _ + 1; omega
      have s3 : ¬ 9223372036854775807 < (txt t2).size + (txt Y).size := by rw [txt_size, txt_size]; omega
      have s4 : ¬ 9223372036854775807 < (txt t3).size + (ByteArray.mk #[10]).size := by rw [txt_size]; show ¬ _ < _ + 1; omega
      rw [← HT.out] at q4
      obtain ⟨TT, hTT⟩ : ∃ TT : Nat → List UInt8, TT = textTo f m := ⟨_, rfl⟩
      rw [← hTT] at HT q4
      have HTT := Lib.hid hTT
      have d2 : decide ((8 : Int) < 8) = false := by decide
      obtain ⟨PL, hPL⟩ : ∃ PL, PL = partsW f m := ⟨_, rfl⟩
      have HPA : Hid (∀ W, Below w.heap.size w W → Calls Tryd.prog 11 #[.slice a n cap] W (NewInts PL W)) := Lib.hid fun W hb => by
        have h1 := refParts11 a n cap (by omega) f W (HW.out W hb)
        rw [show n / 8 = m by omega] at h1
        rw [hPL]; exact h1
      unfold NewInts at HPA
      have HNX : Hid (∀ k, k < PL.length → TT (k + 1) = TT k ++ (dig 10 (PL[k]?.getD 0) ++ [58] ++ lineTo f (PL[k]?.getD 0) 8 ++ [10]) ∧ PL[k]?.getD 0 < m ∧ (TT k).length ≤ 6000) := Lib.hid fun k hk => by
        rw [hPL] at hk ⊢
        rw [hTT]
        refine ⟨textTo_next f m k hk, partsW_lt f m k hk, ?_⟩
        have := textTo_len f HF.out m (by omega) k (by omega)
        have := partsW_length f m
        omega
      have HALL : Hid (TT PL.length = textT f m ∧ PL.length ≤ m) := Lib.hid (by rw [hPL, hTT]; exact ⟨textTo_all f m, partsW_length f m⟩)
      clear hTT hPL ht1 ht2 ht3 l1 l2 l3 hd6 hy8 hY hlt hj hl8 d1 HSUM HB1 HX8 HXX
      go_wp2_with (first
        | (go_at_call 32; (with_reducible refine (digits32' _ m rfl (by omega) _).mono ?_); rintro e w3 ⟨rfl, hb3⟩; have HB3 : Hid (Below w.heap.size w w3) := Lib.hid (HB2.out.trans (hb3.mono HB2.out.size)); clear hb3)
        | (go_at_call 11; (with_reducible refine (HPA.out _ HB3.out).mono ?_); rintro e w4 ⟨vf, rfl, hb4, ho4⟩; obtain ⟨fa, fc, g, rfl, hfa⟩ := own_ints ho4; have HB4 : Hid (Below w.heap.size w w4) := Lib.hid (HB3.out.trans (hb4.mono HB3.out.size)); have HFA : Hid (0 < PL.length → fa = some ⟨g, 0, none⟩ ∧ g < w4.heap.size ∧ ∀ k, k < PL.length → w4.cell? ⟨g, k, none⟩ = some (.int .i64 (Int.ofNat (PL[k]?.getD 0)))) := Lib.hid (fun h => ⟨(hfa h).1, (by obtain ⟨cs, hcs⟩ := (hfa h).2.2.1; exact (Array.getElem?_eq_some_iff.1 hcs).1), (hfa h).2.2.2⟩); clear hb4 ho4 hfa))
      clear q1 q2 q3 q4 s1 s2 s3 s4 HH HT HPA HPX hl hsm hq HB2 HB3
      go_loopw [4, 6] (fun v i wr => ∃ k : Nat, k ≤ PL.length ∧ v = .string (txt (TT k)) ∧ i = .int .i64 k ∧ Hid (Below w4.heap.size w4 wr)) (fun _ i _ => PL.length - (intOf i).toNat)
      case atStart => exact ⟨0, by omega, rfl, rfl, Below.refl _ _⟩
      case round =>
        obtain ⟨k, hk, rfl, rfl, HBE⟩ := hrel
        have hkb : k ≤ 40 := by have := HALL.out.2; omega
        by_cases hlt : k < PL.length
        · have d1 : decide ((k : Int) < (PL.length : Int)) = true := bool_yes (by omega)
          obtain ⟨rfl, hgl, hgc⟩ := HFA.out (by omega)
          have HGC : Hid (∀ W, Below w4.heap.size w4 W → W.cell? ⟨g, k, none⟩ = some (.int .i64 (Int.ofNat (PL[k]?.getD 0)))) := Lib.hid fun W hb => (hb.cell (p := ⟨g, k, none⟩) hgl).trans (hgc k hlt)
          have hnx := HNX.out k hlt
          have HN := Lib.hid hnx.1
          have hqm := hnx.2.1
          have htl := hnx.2.2
          clear hnx hgc
          generalize PL[k]?.getD 0 = q at *
          have hqb : q ≤ 40 := by omega
          have c1 := HGC.out wr HBE.out
          obtain ⟨u1, hu1⟩ : ∃ u1, u1 = TT k ++ dig 10 q := ⟨_, rfl⟩
          obtain ⟨V, hV⟩ : ∃ V : Nat → List UInt8, V = fun r => u1 ++ [58] ++ lineTo f q r := ⟨_, rfl⟩
          have hd6 : (dig 10 q).length ≤ 6 := dig_length (by decide) 6 q (by decide) (by omega)
          have hu1l : u1.length ≤ 6006 := by rw [hu1, List.length_append]; omega
          have HV : Hid (V 0 = u1 ++ [58] ∧ (∀ r, V (r + 1) = V r ++ [32] ++ dig 16 (f (8 * q + r))) ∧ TT (k + 1) = V 8 ++ [10] ∧ ∀ r, r ≤ 8 → (V r).length ≤ 6143) := Lib.hid (by
            rw [hV]
            refine ⟨by simp [lineTo], fun r => ?_, ?_, fun r hr => ?_⟩
            · show u1 ++ [58] ++ lineTo f q (r + 1) = _
              rw [lineTo_next]; simp
            · show _ = u1 ++ [58] ++ lineTo f q 8 ++ [10]
              rw [HN.out, hu1]; simp
            · have := lineTo_len f HF.out q r
              show (u1 ++ [58] ++ lineTo f q r).length ≤ _
              simp; omega)
          have q1 : txt (TT k) ++ txt (dig 10 q) = txt u1 := by rw [hu1]; exact txt_append _ _
          have q2 : txt u1 ++ (⟨#[58]⟩ : ByteArray) = txt (V 0) := by rw [HV.out.1]; exact txt_append _ _
          have s1 : ¬ 9223372036854775807 < (txt (TT k)).size + (txt (dig 10 q)).size := by rw [txt_size, txt_size]; omega
          have s2 : ¬ 9223372036854775807 < (txt u1).size + (ByteArray.mk #[58]).size := by rw [txt_size]; show ¬ _ < _ + 1; omega
          clear hu1 hV htl hd6 hu1l HN
          go_wp2_with (go_at_call 32; (with_reducible refine (digits32' _ q rfl (by omega) _).mono ?_); rintro e w5 ⟨rfl, hb5⟩; have HB5 : Hid (Below w4.heap.size w4 w5) := Lib.hid (HBE.out.trans (hb5.mono HBE.out.size)); clear hb5)
          clear c1 q1 q2 s1 s2
          go_loopw [4, 7] (fun v i wr => ∃ r : Nat, r ≤ 8 ∧ v = .string (txt (V r)) ∧ i = .int .i64 r ∧ Hid (Below w4.heap.size w4 wr)) (fun _ i _ => 8 - (intOf i).toNat)
          case atStart => exact ⟨0, by omega, rfl, rfl, HB5⟩
          case round =>
            clear HBE HB5
            obtain ⟨r, hr, rfl, rfl, HBE⟩ := hrel
            have c1 := HGC.out wr HBE.out
            by_cases hlt8 : r < 8
            · have d3 : decide ((r : Int) < 8) = true := bool_yes (by omega)
              obtain ⟨rfl, hbw⟩ := HA.out (by omega)
              have c2 : wr.cell? ⟨b, off + (8 * q + r), none⟩ = some (.int .u64 (f (8 * q + r))) := by
                rw [HBE.out.cell (p := ⟨b, off + (8 * q + r), none⟩) (Nat.lt_of_lt_of_le hbw HB4.out.size), HB4.out.cell (p := ⟨b, off + (8 * q + r), none⟩) hbw, HC.out _ (by omega)]
              have hx := HF.out (8 * q + r)
              have HVr := Lib.hid (HV.out.2.1 r)
              have hvl := HV.out.2.2.2 r hr
              generalize f (8 * q + r) = x at *
              have hd16 : (dig 16 x).length ≤ 16 := dig_length (by decide) 16 x (by decide) (by omega)
              obtain ⟨z1, hz1'⟩ : ∃ z1, z1 = V r ++ [32] := ⟨_, rfl⟩
              rw [← hz1'] at HVr
              have q3 : txt (V r) ++ (⟨#[32]⟩ : ByteArray) = txt z1 := by rw [hz1']; exact txt_append _ _
              have q4 : txt z1 ++ txt (dig 16 x) = txt (V (r + 1)) := by rw [HVr.out]; exact txt_append _ _
              have s3 : ¬ 9223372036854775807 < (txt (V r)).size + (ByteArray.mk #[32]).size := by rw [txt_size]; show ¬ _ < _ + 1; omega
              have s4 : ¬ 9223372036854775807 < (txt z1).size + (txt (dig 16 x)).size := by rw [txt_size, txt_size, hz1']; simp; omega
              have j1 : (0 : Int) ≤ ((8 * q + r : Nat) : Int) := by omega
              have j2 : ((8 * q + r : Nat) : Int) < (n : Int) := by omega
              clear hz1' hvl hd16
              go_wp2_with (go_at_call 8; (with_reducible refine (hex8 x hx _).mono ?_); rintro e w6 ⟨rfl, hb6⟩; have HB6 : Hid (Below w4.heap.size w4 w6) := Lib.hid (HBE.out.trans (hb6.mono HBE.out.size)); clear hb6)
              go_roundw
              case rel => exact ⟨r + 1, by omega, rfl, by go_num, HB6⟩
              case measure => simp [intOf]; omega
            · obtain rfl : r = 8 := by omega
              have q5 : txt (V 8) ++ (⟨#[10]⟩ : ByteArray) = txt (TT (k + 1)) := by rw [HV.out.2.2.1]; exact txt_append _ _
              have s5 : ¬ 9223372036854775807 < (txt (V 8)).size + (ByteArray.mk #[10]).size := by have := HV.out.2.2.2 8 (by omega); rw [txt_size]; show ¬ _ < _ + 1; omega
              go_wp2_with fail
              go_roundw
              case rel => exact ⟨k + 1, by omega, rfl, by go_num, HBE⟩
              case measure => simp [intOf]; omega
        · obtain rfl : k = PL.length := by omega
          have d1 : decide ((PL.length : Int) < (PL.length : Int)) = false := by simp
          go_wp2_with fail
          go_ret
          exact ⟨by rw [← HALL.out.1]; rfl, HB4.out.trans (HBE.out.mono HB4.out.size)⟩
end Go.Proofs.YtjbngddmmdcagaaDoor
