/- Layer 32: a row is put into an image. -/
import Derived.Test.YtjbngddmmdcagaaDoorY3
namespace Go.Proofs.YtjbngddmmdcagaaDoor
open Go.RowKit Go.BigFrame
set_option linter.unusedVariables false
set_option linter.unusedSimpArgs false

/-- A row was put, or none. -/
def PutTo (g m : Nat) (o : Option (Nat → Nat)) (w : World) (e : Ending) (w' : World) : Prop :=
  But g w w' ∧ (o = none → e = .returned (.bool false)) ∧ ∀ u, o = some u → e = .returned (.bool true) ∧ Wds w' g (8 * m) u
theorem digits27' (z1 z2 : Int) (b most : Nat) (e1 : z1 = (b : Int)) (e2 : z2 = (most : Int)) (hb : 2 ≤ b) (h16 : b ≤ 16) (hp : b ^ most ≤ 18446744073709551616) (h1 : 1 ≤ b ^ most) (hm : most ≤ 16) (l : List UInt8) (hl : l.length ≤ 9223372036854775807) (w : World) :
    Calls Tryd.prog 27 #[.string (txt l), .int .u64 z1, .int .i64 z2] w (NumTo (digits b most l) w) := by
  subst e1; subst e2; exact digits27 b most hb h16 hp h1 hm l hl w
theorem strs_cell {w : World} {l : List (List UInt8)} {k : Nat} (h : k < l.length) : (w.alloc (.cells (strsL l).toArray 9)).cell? ⟨w.heap.size, k, none⟩ = some (.string (txt (l[k]?.getD []))) := by
  rw [cell_in (heap_alloc_new w _)]
  simp [strsL, List.getElem?_eq_getElem h]
theorem cutAt_len (c : UInt8) : ∀ l : List UInt8, (cutAt c l).length ≤ l.length + 1
  | [] => by simp [cutAt]
  | x :: t => by
    have := cutAt_len c t
    unfold cutAt
    split
    · simp; omega
    · split
      · simp
      · rename_i h; rw [h] at this; simp at this ⊢; omega
theorem cutAt_part (c : UInt8) : ∀ (l s : List UInt8), s ∈ cutAt c l → s.length ≤ l.length
  | [], s, h => by simp [cutAt] at h; subst h; exact Nat.le_refl _
  | x :: t, s, h => by
    have ih := cutAt_part c t
    unfold cutAt at h
    split at h
    · rcases List.mem_cons.1 h with rfl | h
      · simp
      · have := ih s h; simp; omega
    · split at h
      · simp at h; subst h; simp
      · rename_i a r hr
        rcases List.mem_cons.1 h with rfl | h
        · have := ih a (by rw [hr]; simp); simp; omega
        · have := ih s (by rw [hr]; simp [h]); simp; omega
set_option maxRecDepth 100000 in
set_option maxHeartbeats 8000000 in
theorem put29 (g m cap : Nat) (hm : m ≤ 262144) (u : Nat → Nat) (r : List UInt8) (hr : r.length ≤ 4194304) (mv : Int) (w : World) (h0 : w.cell? ⟨0, 0, none⟩ = some (.int .i64 mv)) (h : Wds w g (8 * m) u) :
    Calls Tryd.prog 29 #[.slice (some ⟨g, 0, none⟩) m cap, .string (txt r)] w (PutTo g m (putP m u r) w) := by
  have HSP : Hid (Calls Tryd.prog 26 #[.string (txt r), .string ⟨#[32]⟩] w (SplitTo (cutAt 32 r) w)) := Lib.hid (split26 r 32 (by omega) mv w h0)
  unfold SplitTo at HSP
  have hcl := cutAt_len 32 r
  have hcp : ∀ s, s ∈ cutAt 32 r → s.length ≤ 4194304 := fun s hs => Nat.le_trans (cutAt_part 32 r s hs) hr
  have HPP : Hid (putP m u r = match cutAt 32 r with
      | [] => none
      | a :: ws => if a.getLast? = some 58 then
          match digits 10 6 a.dropLast with
          | some n => if n < m ∧ ws.length = 8 then (allDigits ws).map fun v => putW u n fun i => v[i]?.getD 0 else none
          | none => none
        else none) := Lib.hid rfl
  have hgl := h.lt
  have HG := Lib.hid h
  cases hcut : cutAt 32 r with
  | nil => exact absurd hcut (cutAt_ne 32 r)
  | cons a ws =>
    rw [hcut] at HSP HPP hcl hcp
    have hal : a.length ≤ 4194304 := hcp a (by simp)
    have HWL : Hid (∀ k, k < ws.length → (ws[k]?.getD []).length ≤ 4194304) := Lib.hid fun k hk => hcp _ (by rw [List.getElem?_eq_getElem hk]; simp)
    have hwl : ws.length ≤ 4194304 := by simp at hcl; omega
    have HC0 : Hid (∀ k, k < ws.length + 1 → (w.alloc (.cells (strsL (a :: ws)).toArray 9)).cell? ⟨w.heap.size, k, none⟩ = some (.string (txt ((a :: ws)[k]?.getD [])))) := Lib.hid fun k hk => strs_cell (by simpa using hk)
    obtain ⟨G, hG⟩ : ∃ G, G = w.heap.size := ⟨_, rfl⟩
    obtain ⟨W1, hW1⟩ : ∃ W1, W1 = w.alloc (.cells (strsL (a :: ws)).toArray 9) := ⟨_, rfl⟩
    rw [← hW1] at HC0
    rw [← hG] at HC0
    have HSP2 : Hid (Calls Tryd.prog 26 #[.string (txt r), .string ⟨#[32]⟩] w fun e w' => e = .returned (.slice (some ⟨G, 0, none⟩) (ws.length + 1) (ws.length + 1)) ∧ w' = W1) := Lib.hid (by
      refine HSP.out.mono ?_
      rintro e w' ⟨rfl, rfl⟩
      exact ⟨by rw [hG]; rfl, by rw [hW1]⟩)
    have HW1 : Hid (Below w.heap.size w W1) := Lib.hid (by rw [hW1]; exact (Below.refl _ w).alloc (Nat.le_refl _) _)
    have hGl : G < W1.heap.size := by rw [hG, hW1]; simp
    have hgG : g < G := by rw [hG]; exact hgl
    have HGW : Hid (Wds W1 g (8 * m) u) := Lib.hid (h.keep (HW1.out.block g hgl))
    have HCU : Hid (∀ W, Calls Tryd.prog 46 #[.string (txt a), .string ⟨#[58]⟩] W (Says (.tuple #[.string (txt (if a.getLast? = some 58 then a.dropLast else a)), .bool (decide (a.getLast? = some 58))]) W)) := Lib.hid fun W => cut46 a (by omega) W
    unfold Says at HCU
    obtain ⟨N0, hN0⟩ : ∃ N0, N0 = (if a.getLast? = some 58 then a.dropLast else a) := ⟨_, rfl⟩
    have hN0l : N0.length ≤ 4194304 := by
      rw [hN0]; split
      · rw [List.length_dropLast]; omega
      · exact hal
    rw [← hN0] at HCU
    have HN0 := Lib.hid hN0
    clear hN0
    have HQ : Hid ((10 : Int) = ((10 : Nat) : Int) ∧ (6 : Int) = ((6 : Nat) : Int) ∧ (16 : Int) = ((16 : Nat) : Int)) := Lib.hid ⟨rfl, rfl, rfl⟩
    have HD10 : Hid (∀ W, Calls Tryd.prog 27 #[.string (txt N0), .int .u64 10, .int .i64 6] W (NumTo (digits 10 6 N0) W)) := Lib.hid fun W => digits27' 10 6 10 6 rfl rfl (by decide) (by decide) (by decide) (by decide) (by decide) N0 (by omega) W
    unfold NumTo at HD10
    clear HSP h h0 hcl hcp hG hW1 hgl HG hcut
    unfold PutTo
    have c0 := HC0.out 0 (by omega)
    simp only [List.getElem?_cons_zero, Option.getD_some] at c0
    by_cases hcol : a.getLast? = some 58
    · rw [decide_eq_true hcol] at HCU
      have HNd : Hid (N0 = a.dropLast) := Lib.hid (by rw [HN0.out, if_pos hcol])
      have HP2 : Hid (putP m u r = match digits 10 6 N0 with
          | some n => if n < m ∧ ws.length = 8 then (allDigits ws).map fun v => putW u n fun i => v[i]?.getD 0 else none
          | none => none) := Lib.hid (by rw [HPP.out, HNd.out]; simp only [hcol, if_true])
      clear HPP HNd hcol
      cases ho : digits 10 6 N0 with
      | none =>
        rw [ho] at HP2
        have HN : Hid (putP m u r = none) := HP2
        simp only [ho, numV] at HD10
        clear ho HP2
        go_enter Tryd.func29, Tryd.ntmps29
        go_wp2_with (first
          | (go_at_call 26; (with_reducible refine HSP2.out.mono ?_); rintro e w2 ⟨rfl, hw⟩; cases hw)
          | (go_at_call 46; (with_reducible refine (HCU.out _).mono ?_); rintro e w2 ⟨rfl, hw⟩; cases hw)
          | (go_at_call 27; (with_reducible refine (HD10.out _).mono ?_); rintro e w2 ⟨hw, rfl⟩; cases hw))
        go_ret
        exact ⟨But.of_below HW1.out, fun _ => rfl, fun u' hu => by rw [HN.out] at hu; cases hu⟩
      | some n =>
        rw [ho] at HP2
        simp only [ho, numV] at HD10
        have hnb : n < 1000000 := by
          unfold digits at ho
          split at ho
          · cases ho
          · have := reads_lt (b := 10) (by decide) N0 0 0 n (by simp) ho
            have h6 : N0.length ≤ 6 := by omega
            have : 10 ^ (0 + N0.length) ≤ 10 ^ 6 := Nat.pow_le_pow_right (by decide) (by omega)
            omega
        clear ho
        by_cases hok : n < m ∧ ws.length = 8
        · have HP3 : Hid (putP m u r = (allDigits ws).map fun v => putW u n fun i => v[i]?.getD 0) := Lib.hid (by rw [HP2.out]; simp only [if_pos hok])
          clear HP2
          have dn : decide ((m : Int) ≤ (n : Int)) = false := bool_no (by omega)
          have dl : (((ws.length : Int) + 1) != 9) = false := by have := hok.2; rw [this]; rfl
          have hw8 := hok.2
          have hnm := hok.1
          clear hok
          have HW8 := Lib.hid hw8
          rw [hw8] at HSP2
          have hS : Hid (∀ k, k < 8 → W1.cell? ⟨G, 1 + k, none⟩ = some (.string (txt (ws[k]?.getD [])))) := Lib.hid fun k hk => by
            have h1 := HC0.out (k + 1) (by omega)
            rw [List.getElem?_cons_succ] at h1
            rw [Nat.add_comm 1 k]; exact h1
          have HDG : Hid (∀ (k : Nat) W, k < 8 → Calls Tryd.prog 27 #[.string (txt (ws[k]?.getD [])), .int .u64 16, .int .i64 16] W (NumTo (digits 16 16 (ws[k]?.getD [])) W)) := Lib.hid fun k W hk =>
            digits27' 16 16 16 16 rfl rfl (by decide) (by decide) (by decide) (by decide) (by decide) _ (by have := HWL.out k (by omega); omega) W
          have HAS : Hid (∀ (k : Nat), k < 8 → allDigits (ws.take (k + 1)) = (allDigits (ws.take k)).bind fun v => (digits 16 16 (ws[k]?.getD [])).map fun d => v ++ [d]) := Lib.hid fun k hk => by
            rw [allDigits_take ws k (by omega), List.getElem?_eq_getElem (by omega)]; rfl
          have HNO : Hid (∀ k, allDigits (ws.take k) = none → putP m u r = none) := Lib.hid fun k hk => by rw [HP3.out, allDigits_none ws k hk]; rfl
          have HYES : Hid (∀ vs, allDigits (ws.take 8) = some vs → ∀ u', putP m u r = some u' → u' = putTo u n 8 vs) := Lib.hid fun vs hv u' hu => by
            rw [List.take_of_length_le (by omega)] at hv
            rw [HP3.out, hv] at hu
            cases hu; rfl
          have HYN : Hid (∀ vs, allDigits (ws.take 8) = some vs → putP m u r ≠ none) := Lib.hid fun vs hv => by
            rw [List.take_of_length_le (by omega)] at hv
            rw [HP3.out, hv]; simp
          have HAL : Hid (∀ k vs, allDigits (ws.take k) = some vs → k ≤ 8 → vs.length = k) := Lib.hid fun k vs hv hk => by
            have := allDigits_len _ vs hv
            rw [List.length_take] at this; omega
          clear HC0 HWL HP3 dl hw8
          unfold NumTo at HDG
          have dl : (((9 : Int)) != 9) = false := by decide
          have dn2 : decide (m ≤ n) = false := bool_no (by omega)
          go_enter Tryd.func29, Tryd.ntmps29
          go_wp2_with (first
            | (go_at_call 26; (with_reducible refine HSP2.out.mono ?_); rintro e w2 ⟨rfl, hw⟩; cases hw)
            | (go_at_call 46; (with_reducible refine (HCU.out _).mono ?_); rintro e w2 ⟨rfl, hw⟩; cases hw)
            | (go_at_call 27; (with_reducible refine (HD10.out _).mono ?_); rintro e w2 ⟨hw, rfl⟩; cases hw))
          go_loopw [49] (fun i wr => ∃ (k : Nat) (vs : List Nat), k ≤ 8 ∧ i = .int .i64 k ∧ Hid (allDigits (ws.take k) = some vs) ∧ Hid (Wds wr g (8 * m) (putTo u n k vs)) ∧ Hid (But g W1 wr)) (fun i _ => 8 - (intOf i).toNat)
          case atStart => exact ⟨0, [], by omega, rfl, rfl, Lib.hid (RowAt.congr HGW.out fun p _ => by unfold putTo; rw [if_neg (by omega)]), But.refl _ _⟩
          case round =>
            obtain ⟨k, vs, hk, rfl, HV, HX, HBU⟩ := hrel
            by_cases hlt : k < 8
            · have d2 : decide ((k : Int) < 8) = true := bool_yes (by omega)
              have cs : wr.cell? ⟨G, 1 + k, none⟩ = some (.string (txt (ws[k]?.getD []))) := (cell_of_heap (HBU.out.block G hGl (by omega)) (1 + k)).trans (hS.out k hlt)
              have HDk : Hid (∀ W, Calls Tryd.prog 27 #[.string (txt (ws[k]?.getD [])), .int .u64 16, .int .i64 16] W fun e w' => w' = W ∧ e = .returned (numV (digits 16 16 (ws[k]?.getD [])))) := Lib.hid fun W => HDG.out k W hlt
              have HAk := Lib.hid (HAS.out k hlt)
              rw [HV.out] at HAk
              generalize ws[k]?.getD [] = sk at *
              cases hd : digits 16 16 sk with
              | none =>
                simp only [hd, numV] at HDk
                have HN : Hid (putP m u r = none) := Lib.hid (HNO.out (k + 1) (by rw [HAk.out, hd]; rfl))
                clear hd
                go_wp2_with (go_at_call 27; (with_reducible refine (HDk.out _).mono ?_); rintro e w2 ⟨hw, rfl⟩; cases hw)
                go_ret
                exact ⟨(But.of_below HW1.out).trans HBU.out, fun _ => rfl, fun u' hu => by rw [HN.out] at hu; cases hu⟩
              | some d =>
                simp only [hd, numV] at HDk
                have HAk2 : Hid (allDigits (ws.take (k + 1)) = some (vs ++ [d])) := Lib.hid (by rw [HAk.out, hd]; rfl)
                have HPN : Hid (putTo u n (k + 1) (vs ++ [d]) = upd (putTo u n k vs) (8 * n + k) d) := Lib.hid (putTo_next u n k vs d (HAL.out k vs HV.out hk))
                have ca := HX.out.cell (k := n * 8 + k) (by omega)
                have fa : wr.frozen? ⟨g, n * 8 + k, none⟩ = false := RowAt.free HX.out _
                have i0 : (0 : Int) ≤ (n : Int) := by omega
                have i1 : (n : Int) < (m : Int) := by omega
                have i2 : (k : Int) < 8 := by omega
                clear hd HAk
                generalize putTo u n k vs (n * 8 + k) = old at *
                go_wp2_with (go_at_call 27; (with_reducible refine (HDk.out _).mono ?_); rintro e w2 ⟨hw, rfl⟩; cases hw)
                go_roundw
                case rel => exact ⟨k + 1, vs ++ [d], by omega, by go_num, HAk2, Lib.hid (by rw [HPN.out, Nat.mul_comm 8 n]; exact HX.out.set (n * 8 + k) d), Lib.hid (HBU.out.set (n * 8 + k) _)⟩
                case measure => simp [intOf]; omega
            · obtain rfl : k = 8 := by omega
              have d2 : decide ((8 : Int) < 8) = false := by decide
              go_wp2_with fail
              go_ret
              exact ⟨(But.of_below HW1.out).trans HBU.out, fun hn => absurd hn (HYN.out vs HV.out), fun u' hu => ⟨rfl, by rw [HYES.out vs HV.out u' hu]; exact HX.out⟩⟩
        · have HN : Hid (putP m u r = none) := Lib.hid (by rw [HP2.out]; simp only [if_neg hok])
          clear HP2
          by_cases hnm : n < m
          · have dn : decide ((m : Int) ≤ (n : Int)) = false := bool_no (by omega)
            have dl : (((ws.length : Int) + 1) != 9) = true := by rw [bne_iff_ne]; omega
            go_enter Tryd.func29, Tryd.ntmps29
            go_wp2_with (first
              | (go_at_call 26; (with_reducible refine HSP2.out.mono ?_); rintro e w2 ⟨rfl, hw⟩; cases hw)
              | (go_at_call 46; (with_reducible refine (HCU.out _).mono ?_); rintro e w2 ⟨rfl, hw⟩; cases hw)
              | (go_at_call 27; (with_reducible refine (HD10.out _).mono ?_); rintro e w2 ⟨hw, rfl⟩; cases hw))
            go_ret
            exact ⟨But.of_below HW1.out, fun _ => rfl, fun u' hu => by rw [HN.out] at hu; cases hu⟩
          · have dn : decide ((m : Int) ≤ (n : Int)) = true := bool_yes (by omega)
            go_enter Tryd.func29, Tryd.ntmps29
            go_wp2_with (first
              | (go_at_call 26; (with_reducible refine HSP2.out.mono ?_); rintro e w2 ⟨rfl, hw⟩; cases hw)
              | (go_at_call 46; (with_reducible refine (HCU.out _).mono ?_); rintro e w2 ⟨rfl, hw⟩; cases hw)
              | (go_at_call 27; (with_reducible refine (HD10.out _).mono ?_); rintro e w2 ⟨hw, rfl⟩; cases hw))
            go_ret
            exact ⟨But.of_below HW1.out, fun _ => rfl, fun u' hu => by rw [HN.out] at hu; cases hu⟩
    · rw [decide_eq_false hcol] at HCU
      have HN : Hid (putP m u r = none) := Lib.hid (by rw [HPP.out]; simp [hcol])
      clear HPP
      generalize digits 10 6 N0 = o at *
      obtain ⟨x, y, hxy⟩ : ∃ x y, numV o = .tuple #[.int .u64 x, .bool y] := by cases o <;> exact ⟨_, _, rfl⟩
      simp only [hxy] at HD10
      go_enter Tryd.func29, Tryd.ntmps29
      go_wp2_with (first
        | (go_at_call 26; (with_reducible refine HSP2.out.mono ?_); rintro e w2 ⟨rfl, hw⟩; cases hw)
        | (go_at_call 46; (with_reducible refine (HCU.out _).mono ?_); rintro e w2 ⟨rfl, hw⟩; cases hw)
        | (go_at_call 27; (with_reducible refine (HD10.out _).mono ?_); rintro e w2 ⟨hw, rfl⟩; cases hw))
      go_ret
      exact ⟨But.of_below HW1.out, fun _ => rfl, fun u' hu => by rw [HN.out] at hu; cases hu⟩
end Go.Proofs.YtjbngddmmdcagaaDoor
