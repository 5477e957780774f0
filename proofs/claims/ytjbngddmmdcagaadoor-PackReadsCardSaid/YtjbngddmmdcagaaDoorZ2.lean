/- Layer 32: an image's text is read. -/
import Derived.Test.YtjbngddmmdcagaaDoorY4
import Derived.Test.YtjbngddmmdcagaaDoorZ1
import Derived.Test.YtjbngddmmdcagaaDoorW4
import Derived.Test.YtjbngddmmdcagaaDoorC40
import Derived.Test.YtjbngddmmdcagaaDoorS4
namespace Go.Proofs.YtjbngddmmdcagaaDoor
open Go.RowKit Go.BigFrame
set_option linter.unusedVariables false
set_option linter.unusedSimpArgs false

theorem putAll_snoc (m : Nat) : ∀ (l : List (List UInt8)) (x : List UInt8) (u : Nat → Nat), putAll m (l ++ [x]) u = (putAll m l u).bind fun v => putP m v x
  | [], x, u => by
    rw [List.nil_append, putAll, putAll]
    cases h : putP m u x <;> simp [putAll, h]
  | s :: l, x, u => by
    rw [List.cons_append, putAll, putAll]
    cases h : putP m u s with
    | none => rfl
    | some v => simp only [Option.bind_some]; exact putAll_snoc m l x v
theorem putAll_take (m : Nat) (l : List (List UInt8)) (u : Nat → Nat) (k : Nat) (h : k < l.length) : putAll m (l.take (k + 1)) u = (putAll m (l.take k) u).bind fun v => putP m v l[k] := by
  rw [List.take_add_one, List.getElem?_eq_getElem h]
  exact putAll_snoc m _ _ u
theorem putAll_none (m : Nat) : ∀ (l : List (List UInt8)) (u : Nat → Nat) (k : Nat), putAll m (l.take k) u = none → putAll m l u = none
  | [], u, k, h => by simp [putAll] at h
  | s :: l, u, 0, h => by simp [putAll] at h
  | s :: l, u, k + 1, h => by
    rw [List.take_succ_cons, putAll] at h
    rw [putAll]
    cases hs : putP m u s with
    | none => rfl
    | some v =>
      rw [hs] at h
      simp only [Option.bind_some] at h ⊢
      exact putAll_none m l v k h
theorem digits_lt16 {s : List UInt8} {v : Nat} (h : digits 16 16 s = some v) : v < 18446744073709551616 := by
  unfold digits at h
  split at h
  · cases h
  · have := reads_lt (b := 16) (by decide) s 0 0 v (by simp) h
    have h2 : 16 ^ (0 + s.length) ≤ 16 ^ 16 := Nat.pow_le_pow_right (by decide) (by omega)
    have h3 : (16 : Nat) ^ 16 = 18446744073709551616 := by decide
    omega
theorem allDigits_lt : ∀ (l : List (List UInt8)) (v : List Nat), allDigits l = some v → ∀ x ∈ v, x < 18446744073709551616
  | [], v, h, x, hx => by cases h; cases hx
  | s :: l, v, h, x, hx => by
    rw [allDigits] at h
    cases hs : digits 16 16 s with
    | none => rw [hs] at h; cases h
    | some y =>
      rw [hs] at h
      simp only at h
      cases h2 : allDigits l with
      | none => rw [h2] at h; cases h
      | some vs =>
        rw [h2] at h; cases h
        rcases List.mem_cons.1 hx with rfl | hx
        · exact digits_lt16 hs
        · exact allDigits_lt l vs h2 x hx
theorem putP_lt {m : Nat} {u u' : Nat → Nat} {r : List UInt8} (hu : ∀ p, u p < 18446744073709551616) (h : putP m u r = some u') : ∀ p, u' p < 18446744073709551616 := by
  unfold putP at h
  split at h
  · cases h
  · split at h
    · split at h
      · split at h
        · rename_i n _ _
          cases hd : allDigits (by assumption) with
          | none => rw [hd] at h; cases h
          | some v =>
            rw [hd] at h; cases h
            intro p
            show (if 8 * n ≤ p ∧ p < 8 * n + 8 then v[p - 8 * n]?.getD 0 else u p) < _
            split
            · cases hv : v[p - 8 * n]? with
              | none => simp
              | some x => exact allDigits_lt _ v hd x (List.mem_of_getElem? hv)
            · exact hu p
        · cases h
      · cases h
    · cases h
theorem putAll_lt {m : Nat} : ∀ (l : List (List UInt8)) (u u' : Nat → Nat), (∀ p, u p < 18446744073709551616) → putAll m l u = some u' → ∀ p, u' p < 18446744073709551616
  | [], u, u', hu, h => by cases h; exact hu
  | s :: l, u, u', hu, h => by
    rw [putAll] at h
    cases hs : putP m u s with
    | none => rw [hs] at h; cases h
    | some v =>
      rw [hs] at h
      exact putAll_lt l v u' (putP_lt hu hs) h
/-- What was read. -/
def ReadTo (o : Option (Nat × (Nat → Nat))) (w : World) (e : Ending) (w' : World) : Prop :=
  Below w.heap.size w w' ∧ (o = none → e = .returned (.tuple #[.slice none 0 0, .int .i64 3])) ∧ ∀ m u, o = some (m, u) → (∀ p, u p < 18446744073709551616) ∧ ∃ v, e = .returned (.tuple #[v, .int .i64 0]) ∧ w'.ownsRow w.heap.size 23 1 v (8 * m) (wordsL (fun j => (u j : Int)) (8 * m))
theorem words_own {w : World} {B : Nat} {v : Value} {n : Nat} {f : Nat → Nat} (h : w.ownsRow B 23 1 v n (wordsL (fun j => (f j : Int)) n)) : ∃ a c, v = .slice a n c ∧ n ≤ c ∧ c ≤ maxLen ∧ WordsAt w.heap.size w a n f := by
  rcases h.2 with ⟨rfl, rfl⟩ | ⟨g, cap, cur, rfl, hb, hg, h1, h2, h3, h4⟩
  · exact ⟨_, _, rfl, Nat.le_refl _, Nat.zero_le _, 0, 0, by omega, by omega⟩
  · refine ⟨_, _, rfl, h1, h2, g, 0, fun _ => ⟨rfl, (Array.getElem?_eq_some_iff.1 hg).1⟩, fun j hj => ?_⟩
    rw [Nat.zero_add, cell_in hg, ← Array.getElem?_toList]
    have h5 : (wordsL (fun j => (f j : Int)) n)[j]? = cur.toList[j]? := by rw [← h4, Nat.mul_one, List.getElem?_take, if_pos hj]
    rw [← h5, wordsL_get _ _ _ hj]
theorem head_get (l : List (List UInt8)) (h : l ≠ []) : l[0]?.getD [] = l.head?.getD [] := by cases l <;> rfl
set_option maxRecDepth 100000 in
set_option maxHeartbeats 8000000 in
theorem read12 (l : List UInt8) (hl : l.length ≤ 4194304) (mv : Int) (w : World) (h0 : w.cell? ⟨0, 0, none⟩ = some (.int .i64 mv)) :
    Calls Tryd.prog 12 #[.string (txt l)] w (ReadTo (parseP l) w) := by
  have hw0 : 0 < w.heap.size := by
    unfold World.cell? at h0
    split at h0
    · rename_i e; exact (Array.getElem?_eq_some_iff.1 e).1
    · cases h0
  have H0 : Hid (∀ W, Below w.heap.size w W → W.cell? ⟨0, 0, none⟩ = some (.int .i64 mv)) := Lib.hid fun W hb => (hb.cell (p := ⟨0, 0, none⟩) hw0).trans h0
  obtain ⟨rs, hrs⟩ : ∃ rs, rs = cutAt 10 l := ⟨_, rfl⟩
  have hne : rs ≠ [] := by rw [hrs]; exact cutAt_ne 10 l
  have hpos : 1 ≤ rs.length := List.length_pos_iff.2 hne
  have hrl : rs.length ≤ 4194305 := by rw [hrs]; have := cutAt_len 10 l; omega
  have HRP : Hid (∀ s, s ∈ rs → s.length ≤ 4194304) := Lib.hid fun s hs => by rw [hrs] at hs; exact Nat.le_trans (cutAt_part 10 l s hs) hl
  obtain ⟨r0, hr0⟩ : ∃ r0, r0 = rs[0]?.getD [] := ⟨_, rfl⟩
  have hr0l : r0.length ≤ 4194304 := by rw [hr0, List.getElem?_eq_getElem (by omega)]; exact HRP.out _ (List.getElem_mem _)
  obtain ⟨hs, hhs⟩ : ∃ hs, hs = cutAt 32 r0 := ⟨_, rfl⟩
  have hhpos : 1 ≤ hs.length := by rw [hhs]; exact List.length_pos_iff.2 (cutAt_ne 32 r0)
  have hhl : hs.length ≤ 4194305 := by rw [hhs]; have := cutAt_len 32 r0; omega
  have HHP : Hid (∀ s, s ∈ hs → s.length ≤ 4194304) := Lib.hid fun s hs' => by rw [hhs] at hs'; exact Nat.le_trans (cutAt_part 32 r0 s hs') hr0l
  have HP : Hid (parseP l = if rs.length < 2 ∨ hs.length ≠ 3 then none
      else match digits 10 6 (hs[1]?.getD []) with
        | none => none
        | some m => if 1 ≤ m ∧ m ≤ 262144 then
            match putAll m (rs.drop 1).dropLast (fun _ => 0) with
            | none => none
            | some w => if textT w m = l then some (m, w) else none
          else none) := Lib.hid (by rw [hhs, hr0, head_get rs hne, hrs]; rfl)
  have HS1 : Hid (Calls Tryd.prog 26 #[.string (txt l), .string ⟨#[10]⟩] w (SplitTo rs w)) := Lib.hid (by rw [hrs]; exact split26 l 10 (by omega) mv w h0)
  have HS2 : Hid (∀ W, Below w.heap.size w W → Calls Tryd.prog 26 #[.string (txt r0), .string ⟨#[32]⟩] W (SplitTo hs W)) := Lib.hid fun W hb => by rw [hhs]; exact split26 r0 32 (by omega) mv W (H0.out W hb)
  unfold SplitTo at HS1 HS2
  -- the two worlds behind the splits
  obtain ⟨W1, hW1⟩ : ∃ W1, W1 = w.alloc (.cells (strsL rs).toArray 9) := ⟨_, rfl⟩
  obtain ⟨W2, hW2⟩ : ∃ W2, W2 = W1.alloc (.cells (strsL hs).toArray 9) := ⟨_, rfl⟩
  obtain ⟨G1, hG1⟩ : ∃ G1, G1 = w.heap.size := ⟨_, rfl⟩
  obtain ⟨G2, hG2⟩ : ∃ G2, G2 = W1.heap.size := ⟨_, rfl⟩
  have HB1 : Hid (Below w.heap.size w W1) := Lib.hid (by rw [hW1]; exact (Below.refl _ w).alloc (Nat.le_refl _) _)
  have HB2 : Hid (Below w.heap.size w W2) := Lib.hid (by rw [hW2]; exact HB1.out.alloc HB1.out.size _)
  have hg12 : G1 < G2 ∧ G2 < W2.heap.size := by rw [hG1, hG2, hW2, hW1]; simp
  have HC1 : Hid (∀ k, k < rs.length → W2.cell? ⟨G1, k, none⟩ = some (.string (txt (rs[k]?.getD [])))) := Lib.hid fun k hk => by
    rw [hW2, World.cell?_alloc_old _ _ _ (by show G1 ≠ _; omega), hW1, hG1]; exact strs_cell hk
  have HC1' : Hid (∀ k, k < rs.length → W1.cell? ⟨G1, k, none⟩ = some (.string (txt (rs[k]?.getD [])))) := Lib.hid fun k hk => by
    rw [hW1, hG1]; exact strs_cell hk
  have HC2 : Hid (∀ k, k < hs.length → W2.cell? ⟨G2, k, none⟩ = some (.string (txt (hs[k]?.getD [])))) := Lib.hid fun k hk => by
    rw [hW2, hG2]; exact strs_cell hk
  have HS1' : Hid (Calls Tryd.prog 26 #[.string (txt l), .string ⟨#[10]⟩] w fun e w' => e = .returned (.slice (some ⟨G1, 0, none⟩) rs.length rs.length) ∧ w' = W1) := Lib.hid (by rw [hG1, hW1]; exact HS1.out)
  have HS2' : Hid (Calls Tryd.prog 26 #[.string (txt r0), .string ⟨#[32]⟩] W1 fun e w' => e = .returned (.slice (some ⟨G2, 0, none⟩) hs.length hs.length) ∧ w' = W2) := Lib.hid (by rw [hG2, hW2]; exact HS2.out W1 HB1.out)
  have HGW : Hid (G1 = w.heap.size) := Lib.hid hG1
  have HLL := Lib.hid (txt_size l)
  have c10 := HC1'.out 0 (by omega)
  rw [← hr0] at c10
  have es : (txt l).size = l.length := txt_size l
  have d0 : decide ((4194304 : Int) < (l.length : Int)) = false := bool_no (by omega)
  clear hrs hr0 hhs hW1 hW2 hG1 hG2 HS1 HS2 HC1' h0 hne
  unfold ReadTo
  by_cases hbad : rs.length < 2 ∨ hs.length ≠ 3
  · have HN : Hid (parseP l = none) := Lib.hid (by rw [HP.out, if_pos hbad])
    have dA : decide ((rs.length : Int) < 2) = decide (rs.length < 2) := by by_cases h : rs.length < 2 <;> simp [h] <;> omega
    by_cases h2 : rs.length < 2
    · have dB : decide ((rs.length : Int) < 2) = true := bool_yes (by omega)
      clear dA
      go_enter Tryd.func12, Tryd.ntmps12
      go_wp2_with (go_at_call 26; (first | (with_reducible refine HS1'.out.mono ?_) | (with_reducible refine HS2'.out.mono ?_)); rintro e w2 ⟨rfl, hw⟩; cases hw)
      go_ret2
      exact ⟨HB2.out, fun _ => rfl, fun m u hu => by rw [HN.out] at hu; cases hu⟩
    · have dB : decide ((rs.length : Int) < 2) = false := bool_no (by omega)
      have dC : ((hs.length : Int) != 3) = true := by rw [bne_iff_ne]; omega
      clear dA
      go_enter Tryd.func12, Tryd.ntmps12
      go_wp2_with (go_at_call 26; (first | (with_reducible refine HS1'.out.mono ?_) | (with_reducible refine HS2'.out.mono ?_)); rintro e w2 ⟨rfl, hw⟩; cases hw)
      go_ret2
      exact ⟨HB2.out, fun _ => rfl, fun m u hu => by rw [HN.out] at hu; cases hu⟩
  · have h2 : 2 ≤ rs.length := by omega
    have h3 : hs.length = 3 := by omega
    have HP2 : Hid (parseP l = match digits 10 6 (hs[1]?.getD []) with
        | none => none
        | some m => if 1 ≤ m ∧ m ≤ 262144 then
            match putAll m (rs.drop 1).dropLast (fun _ => 0) with
            | none => none
            | some w => if textT w m = l then some (m, w) else none
          else none) := Lib.hid (by rw [HP.out, if_neg hbad])
    have hsl : (hs[1]?.getD []).length ≤ 4194304 := by rw [List.getElem?_eq_getElem (by omega)]; exact HHP.out _ (List.getElem_mem _)
    have HD : Hid (∀ W, Calls Tryd.prog 27 #[.string (txt (hs[1]?.getD [])), .int .u64 10, .int .i64 6] W (NumTo (digits 10 6 (hs[1]?.getD [])) W)) := Lib.hid fun W => digits27' 10 6 10 6 rfl rfl (by decide) (by decide) (by decide) (by decide) (by decide) _ (by omega) W
    unfold NumTo at HD
    have c21 := HC2.out 1 (by omega)
    rw [h3] at HS2'
    have dB : decide ((rs.length : Int) < 2) = false := bool_no (by omega)
    clear HP HC2 HHP hbad hhl hhpos h3
    generalize hs[1]?.getD [] = s1 at *
    cases ho : digits 10 6 s1 with
    | none =>
      rw [ho] at HP2
      have HN : Hid (parseP l = none) := HP2
      simp only [ho, numV] at HD
      clear ho HP2
      go_enter Tryd.func12, Tryd.ntmps12
      go_wp2_with (first
        | (go_at_call 26; (first | (with_reducible refine HS1'.out.mono ?_) | (with_reducible refine HS2'.out.mono ?_)); rintro e w2 ⟨rfl, hw⟩; cases hw)
        | (go_at_call 27; (with_reducible refine (HD.out _).mono ?_); rintro e w2 ⟨hw, rfl⟩; cases hw))
      go_ret2
      exact ⟨HB2.out, fun _ => rfl, fun m u hu => by rw [HN.out] at hu; cases hu⟩
    | some m =>
      rw [ho] at HP2
      simp only [ho, numV] at HD
      have hmb : m < 1000000 := by
        unfold digits at ho
        split at ho
        · cases ho
        · have := reads_lt (b := 10) (by decide) s1 0 0 m (by simp) ho
          have : 10 ^ (0 + s1.length) ≤ 10 ^ 6 := Nat.pow_le_pow_right (by decide) (by omega)
          omega
      clear ho
      by_cases hm : 1 ≤ m ∧ m ≤ 262144
      · have HP3 : Hid (parseP l = match putAll m (rs.drop 1).dropLast (fun _ => 0) with
            | none => none
            | some w => if textT w m = l then some (m, w) else none) := Lib.hid (by rw [HP2.out]; simp only [if_pos hm])
        clear HP2
        have d1 : decide ((m : Int) < 1) = false := bool_no (by omega)
        have d2 : decide ((262144 : Int) < (m : Int)) = false := bool_no (by omega)
        have hm1 := hm.1
        have hm2 := hm.2
        clear hm
        have HZ := Lib.hid (zero28 m hm1 hm2 W2)
        have e1 : decide (m < 1) = false := bool_no (by omega)
        have e2 : decide (262144 < m) = false := bool_no (by omega)
        obtain ⟨R, hR⟩ : ∃ R, R = (rs.drop 1).dropLast := ⟨_, rfl⟩
        rw [← hR] at HP3
        have hRl : R.length = rs.length - 2 := by rw [hR, List.length_dropLast, List.length_drop]; omega
        have HRG : Hid (∀ k, k < R.length → rs[k + 1]?.getD [] = R[k]?.getD []) := Lib.hid fun k hk => by
          rw [hR] at hk ⊢
          rw [List.getElem?_dropLast, if_pos (by rw [List.length_dropLast] at hk; exact hk), List.getElem?_drop, Nat.add_comm 1 k]
        have HRN : Hid (∀ k, k < R.length → (R[k]?.getD []).length ≤ 4194304) := Lib.hid fun k hk => by
          rw [← HRG.out k hk, List.getElem?_eq_getElem (by omega)]; exact HRP.out _ (List.getElem_mem _)
        have HCR : Hid (∀ k, k < R.length → W2.cell? ⟨G1, 1 + k, none⟩ = some (.string (txt (R[k]?.getD [])))) := Lib.hid fun k hk => by
          rw [Nat.add_comm 1 k, HC1.out (k + 1) (by omega), HRG.out k hk]
        have HTK : Hid (∀ k u, k < R.length → putAll m (R.take k) (fun _ => 0) = some u → putAll m (R.take (k + 1)) (fun _ => 0) = putP m u (R[k]?.getD [])) := Lib.hid fun k u hk hu => by
          rw [putAll_take m R _ k hk, hu, List.getElem?_eq_getElem hk]; rfl
        have HNO : Hid (∀ k, putAll m (R.take k) (fun _ => 0) = none → parseP l = none) := Lib.hid fun k hk => by rw [HP3.out, putAll_none m R _ k hk]
        have HALL : Hid (∀ u, putAll m (R.take R.length) (fun _ => 0) = some u → (∀ p, u p < 18446744073709551616) ∧ parseP l = if textT u m = l then some (m, u) else none) := Lib.hid fun u hu => by
          rw [List.take_length] at hu
          exact ⟨putAll_lt R _ u (fun _ => by show (0 : Nat) < _; omega) hu, by rw [HP3.out, hu]⟩
        have hnr : rs.length = R.length + 2 := by omega
        have HNR : Hid (rs.length = R.length + 2) := Lib.hid hnr
        obtain ⟨nr, hnr'⟩ : ∃ nr, nr = R.length := ⟨_, rfl⟩
        rw [← hnr'] at HNR
        rw [HNR.out] at HS1' dB h2 hrl
        have HNR' : Hid (nr = R.length) := Lib.hid hnr'
        clear hR hRl HRG HP3 HC1 HRP hnr hnr'
        rw [← HNR'.out] at HRN HCR HTK HALL
        have dB' : decide ((nr : Int) + 2 < 2) = false := bool_no (by omega)
        have e5 : nr + 2 - 1 - 1 = nr := by omega
        go_enter Tryd.func12, Tryd.ntmps12
        go_wp2_with (first
          | (go_at_call 26; (first | (with_reducible refine HS1'.out.mono ?_) | (with_reducible refine HS2'.out.mono ?_)); rintro e w2 ⟨rfl, hw⟩; cases hw)
          | (go_at_call 27; (with_reducible refine (HD.out _).mono ?_); rintro e w2 ⟨hw, rfl⟩; cases hw)
          | (go_at_call 28; (with_reducible refine HZ.out.mono ?_); rintro e w3 ⟨g, rfl, hb3, hg3, hz3⟩; have HH3 := Lib.hid (And.intro hb3 (And.intro hg3 hz3)); clear hb3 hg3 hz3))
        have HB3 : Hid (Below w.heap.size w w3) := Lib.hid (HB2.out.trans (HH3.out.1.mono HB2.out.size))
        have HGG : Hid (w.heap.size ≤ g) := Lib.hid (by have := HB2.out.size; have := HH3.out.2.1; omega)
        have HC3 : Hid (∀ k, k < nr → w3.cell? ⟨G1, 1 + k, none⟩ = some (.string (txt (R[k]?.getD [])))) := Lib.hid fun k hk => (HH3.out.1.cell (p := ⟨G1, 1 + k, none⟩) (by show G1 < _; omega)).trans (HCR.out k hk)
        have HG13 : Hid (G1 < w3.heap.size ∧ G1 ≠ g) := Lib.hid ⟨by have := HH3.out.1.size; omega, by have := HH3.out.2.1; omega⟩
        rw [e5]
        go_loopw [57] (fun i wr => ∃ (k : Nat) (u : Nat → Nat), k ≤ nr ∧ i = .int .i64 k ∧ Hid (putAll m (R.take k) (fun _ => 0) = some u) ∧ Hid (Wds wr g (8 * m) u) ∧ Hid (But g w3 wr)) (fun i _ => nr - (intOf i).toNat)
        case atStart => exact ⟨0, fun _ => 0, by omega, rfl, rfl, HH3.out.2.2, But.refl _ _⟩
        case round =>
          obtain ⟨k, u, hk, rfl, HU, HX, HBU⟩ := hrel
          have hkb : k ≤ 4194305 := by omega
          have HBW : Hid (Below w.heap.size w wr) := Lib.hid (HBU.out.below HB3.out HGG.out HB3.out.size)
          by_cases hlt : k < nr
          · have d5 : decide ((k : Int) < (nr : Int)) = true := bool_yes (by omega)
            have cr : wr.cell? ⟨G1, 1 + k, none⟩ = some (.string (txt (R[k]?.getD []))) := (cell_of_heap (HBU.out.block G1 HG13.out.1 HG13.out.2) (1 + k)).trans (HC3.out k hlt)
            have HPU : Hid (Calls Tryd.prog 29 #[.slice (some ⟨g, 0, none⟩) m m, .string (txt (R[k]?.getD []))] wr (PutTo g m (putP m u (R[k]?.getD [])) wr)) := Lib.hid (put29 g m m hm2 u _ (HRN.out k hlt) mv wr (H0.out wr HBW.out) HX.out)
            have HTKk := Lib.hid (HTK.out k u hlt HU.out)
            have HNOk := Lib.hid (HNO.out (k + 1))
            unfold PutTo at HPU
            generalize R[k]?.getD [] = rk at *
            cases hp : putP m u rk with
            | none =>
              have HN : Hid (parseP l = none) := Lib.hid (HNOk.out (by rw [HTKk.out, hp]))
              have HPN : Hid (Calls Tryd.prog 29 #[.slice (some ⟨g, 0, none⟩) m m, .string (txt rk)] wr fun e w' => But g wr w' ∧ e = .returned (.bool false)) := Lib.hid (HPU.out.mono fun e w' h => ⟨h.1, h.2.1 hp⟩)
              clear hp
              go_wp2_with (go_at_call 29; (with_reducible refine HPN.out.mono ?_); rintro e w4 ⟨hb4, rfl⟩; have HB4 := Lib.hid hb4; clear hb4)
              go_ret2
              exact ⟨(HBU.out.trans HB4.out).below HB3.out HGG.out HB3.out.size, fun _ => rfl, fun m' u' hu => by rw [HN.out] at hu; cases hu⟩
            | some u2 =>
              have HPS : Hid (Calls Tryd.prog 29 #[.slice (some ⟨g, 0, none⟩) m m, .string (txt rk)] wr fun e w' => But g wr w' ∧ e = .returned (.bool true) ∧ Wds w' g (8 * m) u2) := Lib.hid (HPU.out.mono fun e w' h => ⟨h.1, (h.2.2 u2 hp).1, (h.2.2 u2 hp).2⟩)
              have HU2 : Hid (putAll m (R.take (k + 1)) (fun _ => 0) = some u2) := Lib.hid (by rw [HTKk.out, hp])
              clear hp
              go_wp2_with (go_at_call 29; (with_reducible refine HPS.out.mono ?_); rintro e w4 ⟨hb4, rfl, hx4⟩; have HB4 := Lib.hid hb4; have HX4 := Lib.hid hx4; clear hb4 hx4)
              go_roundw
              case rel => exact ⟨k + 1, u2, by omega, by go_num, HU2, HX4, Lib.hid (HBU.out.trans HB4.out)⟩
              case measure => simp [intOf]; omega
          · obtain rfl : k = nr := by omega
            have d5 : decide ((k : Int) < (k : Int)) = false := by simp
            have HAL := Lib.hid (HALL.out u HU.out)
            have HWO : Hid (Calls Tryd.prog 30 #[.slice (some ⟨g, 0, none⟩) m m] wr (NewWords (fun j => (u j : Int)) (8 * m) wr)) := Lib.hid (words42 g m m hm2 (fun j => (u j : Int)) wr HX.out)
            unfold NewWords at HWO
            go_wp2_with (go_at_call 30; (with_reducible refine HWO.out.mono ?_); rintro e w5 ⟨v5, rfl, hb5, ho5⟩; obtain ⟨a5, c5, rfl, hc5, hm5, hw5⟩ := words_own ho5; have HB5 := Lib.hid hb5; have HO5 := Lib.hid ho5; have HW5 := Lib.hid (And.intro hc5 (And.intro hm5 hw5)); clear hb5 ho5 hc5 hm5 hw5)
            have HWR : Hid (Calls Tryd.prog 6 #[.slice a5 (8 * m) c5] w5 (WriteTo u m w5)) := Lib.hid (by
              have h1 := write6 a5 (8 * m) c5 HW5.out.1 (by have := HW5.out.2.1; unfold maxLen at this; omega) (by unfold wholeE; rw [if_neg (by omega), if_neg (by omega)]) u HAL.out.1 w5 HW5.out.2.2 (by omega)
              rw [show 8 * m / 8 = m by omega] at h1
              exact h1)
            unfold WriteTo at HWR
            have HBW5 : Hid (Below w.heap.size w w5) := Lib.hid (HBW.out.trans (HB5.out.mono HBW.out.size))
            by_cases hbig : 4194304 < (textT u m).length
            · have HN : Hid (parseP l = none) := Lib.hid (by rw [HAL.out.2, if_neg]; intro e; rw [e] at hbig; omega)
              have HWB : Hid (Calls Tryd.prog 6 #[.slice a5 (8 * m) c5] w5 fun e w' => Below w5.heap.size w5 w' ∧ e = .returned (.tuple #[.string ⟨#[]⟩, .int .i64 2])) := Lib.hid (HWR.out.mono fun e w' h => ⟨h.1, h.2.2 hbig⟩)
              clear hbig
              go_wp2_with (go_at_call 6; (with_reducible refine HWB.out.mono ?_); rintro e w6 ⟨hb6, rfl⟩; have HB6 := Lib.hid hb6; clear hb6)
              go_ret2
              exact ⟨HBW5.out.trans (HB6.out.mono HBW5.out.size), fun _ => rfl, fun m' u' hu => by rw [HN.out] at hu; cases hu⟩
            · obtain ⟨T, hT⟩ : ∃ T, T = textT u m := ⟨_, rfl⟩
              have HWG : Hid (Calls Tryd.prog 6 #[.slice a5 (8 * m) c5] w5 fun e w' => Below w5.heap.size w5 w' ∧ e = .returned (.tuple #[.string (txt T), .int .i64 0])) := Lib.hid (by rw [hT]; exact HWR.out.mono fun e w' h => ⟨h.1, h.2.1 (by omega)⟩)
              by_cases hTl : T = l
              · have HS : Hid (parseP l = some (m, u)) := Lib.hid (by rw [HAL.out.2, ← hT, if_pos hTl])
                have hcmp : ((txt T).toList == (txt l).toList) = true := by rw [hTl]; simp
                clear hT hTl hbig
                go_wp2_with (go_at_call 6; (with_reducible refine HWG.out.mono ?_); rintro e w6 ⟨hb6, rfl⟩; have HB6 := Lib.hid hb6; clear hb6)
                go_ret2
                refine ⟨HBW5.out.trans (HB6.out.mono HBW5.out.size), ?_, ?_⟩
                · intro hn; rw [HS.out] at hn; cases hn
                · intro m' u' hu
                  rw [HS.out] at hu
                  cases hu
                  exact ⟨HAL.out.1, _, rfl, own_down (own_keep1 HO5.out fun q hq => HB6.out.block q (own_lt HO5.out hq).2) HBW.out.size⟩
              · have HN : Hid (parseP l = none) := Lib.hid (by rw [HAL.out.2, ← hT, if_neg hTl])
                have hcmp : ((txt T).toList == (txt l).toList) = false := by
                  rw [beq_eq_false_iff_ne]
                  intro e
                  rw [ByteArray.toList_eq, ByteArray.toList_eq, txt_list, txt_list] at e
                  exact hTl e
                clear hT hbig
                go_wp2_with (go_at_call 6; (with_reducible refine HWG.out.mono ?_); rintro e w6 ⟨hb6, rfl⟩; have HB6 := Lib.hid hb6; clear hb6)
                go_ret2
                exact ⟨HBW5.out.trans (HB6.out.mono HBW5.out.size), fun _ => rfl, fun m' u' hu => by rw [HN.out] at hu; cases hu⟩
      · have HN : Hid (parseP l = none) := Lib.hid (by rw [HP2.out]; simp only [if_neg hm])
        clear HP2
        by_cases hm1 : m < 1
        · have d1 : decide ((m : Int) < 1) = true := bool_yes (by omega)
          go_enter Tryd.func12, Tryd.ntmps12
          go_wp2_with (first
            | (go_at_call 26; (first | (with_reducible refine HS1'.out.mono ?_) | (with_reducible refine HS2'.out.mono ?_)); rintro e w2 ⟨rfl, hw⟩; cases hw)
            | (go_at_call 27; (with_reducible refine (HD.out _).mono ?_); rintro e w2 ⟨hw, rfl⟩; cases hw))
          go_ret2
          exact ⟨HB2.out, fun _ => rfl, fun m u hu => by rw [HN.out] at hu; cases hu⟩
        · have d1 : decide ((m : Int) < 1) = false := bool_no (by omega)
          have d2 : decide ((262144 : Int) < (m : Int)) = true := bool_yes (by omega)
          go_enter Tryd.func12, Tryd.ntmps12
          go_wp2_with (first
            | (go_at_call 26; (first | (with_reducible refine HS1'.out.mono ?_) | (with_reducible refine HS2'.out.mono ?_)); rintro e w2 ⟨rfl, hw⟩; cases hw)
            | (go_at_call 27; (with_reducible refine (HD.out _).mono ?_); rintro e w2 ⟨hw, rfl⟩; cases hw))
          go_ret2
          exact ⟨HB2.out, fun _ => rfl, fun m u hu => by rw [HN.out] at hu; cases hu⟩
end Go.Proofs.YtjbngddmmdcagaaDoor
