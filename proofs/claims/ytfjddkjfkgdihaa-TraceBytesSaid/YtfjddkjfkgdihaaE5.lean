/- Walk of trace.Write. -/
import Derived.Test.YtfjddkjfkgdihaaE4
namespace Go.Proofs.Ytfjddkjfkgdihaa
open Go.RowKit Go.BigFrame
set_option linter.unusedVariables false
set_option linter.unusedSimpArgs false

def WriteNo (w : World) (e : Ending) (w' : World) : Prop := e = .returned (.tuple #[.slice none 0 0, .int .i64 1]) ∧ Below w.heap.size w w'
theorem write_bad (a : Option Addr) (len cap : Nat) (c : Nat → AccD) (w : World) (h : AccsAt w a len cap c) (hb : badTo c len = true) :
    Calls Try.prog 47 #[.slice a len cap] w (WriteNo w) := by
  have HC := Lib.hid (contains_any a len cap c w h)
  rw [hb] at HC
  clear h hb
  go_enter Try.func47, Try.ntmps47
  go_wp2_with (go_at_call 66; refine HC.out.mono ?_; rintro e w' ⟨rfl, hb⟩)
  go_ret2
  exact ⟨rfl, hb⟩

theorem enc_len {x : AccD} {last : Int} (h : x.good) (hl : -1073741824 ≤ last ∧ last ≤ 1073741824) : (x.enc last).length ≤ 41 := by
  obtain ⟨hm, o0, o1, n0, n1⟩ := h
  obtain ⟨k0, k1, t0, t1, p0, p1, -⟩ := AccD.may_out hm
  have h1 := numB_len10 x.th.toNat (by omega)
  have h2 : (x.placeB last).length ≤ 10 := by
    unfold AccD.placeB; split
    · simp
    · have := sgn_lo (x.pl - last); have := sgn_hi (x.pl - last) (by omega) (by omega)
      exact numB_len10 _ (by omega)
  have h3 : x.oldB.length ≤ 10 := by
    unfold AccD.oldB; split
    · exact numB_len10 _ (by omega)
    · simp
  have h4 : x.newB.length ≤ 10 := by
    unfold AccD.newB; split
    · exact numB_len10 _ (by omega)
    · simp
  unfold AccD.enc
  simp only [List.length_cons, List.length_append]
  omega

theorem own_base {w : World} {B B' : Nat} {e : TypeId} {size : Nat} {v : Value} {n : Nat} {xs : List Value} (h : B ≤ B') (ho : w.ownsRow B' e size v n xs) : w.ownsRow B e size v n xs := by
  refine ⟨ho.1, ?_⟩
  rcases ho.2 with g | ⟨g, cap, cur, rfl, hb, rest⟩
  · exact .inl g
  · exact .inr ⟨g, cap, cur, rfl, Nat.le_trans h hb, rest⟩

def WriteYes (c : Nat → AccD) (len : Nat) (w : World) (e : Ending) (w' : World) : Prop :=
  ∃ a n cap, e = .returned (.tuple #[.slice a n cap, .int .i64 0]) ∧ w'.ownsRow w.heap.size 5 1 (.slice a n cap) n (u8s (encAll c len)) ∧ Below w.heap.size w w'

set_option maxRecDepth 100000 in
set_option maxHeartbeats 1000000 in
theorem write_ok (a : Option Addr) (len cap : Nat) (c : Nat → AccD) (w : World) (h : AccsAt w a len cap c) (hl : len ≤ 300) (hg : ∀ i, i < len → (c i).good) (hb : badTo c len = false) :
    Calls Try.prog 47 #[.slice a len cap] w (WriteYes c len w) := by
  have HCO := Lib.hid (contains_any a len cap c w h)
  rw [hb] at HCO
  have HG := Lib.hid hg
  obtain ⟨hlc, hcm, hcell⟩ := h
  unfold maxLen at hcm
  have HC := Lib.hid hcell
  clear hcell hg hb
  obtain ⟨B, hB⟩ : ∃ B, B = w.heap.size := ⟨_, rfl⟩
  have HB := Lib.hid hB; clear hB
  have HLN := Lib.hid (numB_len10 len (by omega))
  go_enter Try.func47, Try.ntmps47
  go_wp2_with fail
  refine HCO.out.mono ?_
  rintro e w1 ⟨rfl, hb1⟩
  have HB1 : Hid (Below B w w1) := Lib.hid (by rw [HB.out]; exact hb1)
  clear hb1 HCO
  go_wp2_with fail
  refine (number_any len (by omega) w1).mono ?_
  rintro e w2 ⟨v, rfl, hb2, hown⟩
  have HB2 : Hid (Below B w w2) := Lib.hid (HB1.out.trans (hb2.mono (by rw [HB.out]; exact HB1.out.size)))
  have HO2 : Hid (w2.ownsRow B 5 1 v (numB len).length (u8s (numB len ++ (bodyTo c 0).1))) := Lib.hid (by
    simp only [bodyTo, List.append_nil]; exact own_base (by rw [HB.out]; exact HB1.out.size) hown)
  clear hb2 hown
  go_wp2_with fail
  go_loopw [4, 5, 16] (fun v l i wr => ∃ k n : Nat, k ≤ len ∧ i = .int .i64 k ∧ l = .int .i64 (bodyTo c k).2 ∧ n ≤ 10 + 41 * k ∧ Hid (wr.ownsRow B 5 1 v n (u8s (numB len ++ (bodyTo c k).1))) ∧ Hid (Below B w wr)) (fun _ _ i _ => len - (intOf i).toNat)
  case atStart => exact ⟨0, (numB len).length, Nat.zero_le _, rfl, rfl, by have := HLN.out; omega, HO2, HB2⟩
  case round =>
    clear HO2 HB2 HB1
    obtain ⟨k, n, hk, rfl, rfl, hn, HO, HBE⟩ := hrel
    by_cases hlt : k < len
    · obtain ⟨b, off, rfl, hb, hc⟩ := HC.out k hlt
      obtain ⟨d0, d1, d2, d3, d4, d5⟩ := hc.of (w' := wr) fun o => HBE.out.cell (p := ⟨b, o, none⟩) (by rw [HB.out]; exact hb)
      have hsz := HBE.out.size
      have hBw : B ≤ wr.heap.size := by rw [HB.out]; exact hsz
      have hgk := HG.out k hlt
      have hlb := last_bd (c := c) (n := k) (fun i hi => (HG.out i (by omega)).1)
      have hel := enc_len hgk hlb
      have HST : Hid ((bodyTo c (k + 1)).1 = (bodyTo c k).1 ++ (c k).enc (bodyTo c k).2 ∧ (bodyTo c (k + 1)).2 = (c k).next (bodyTo c k).2) := Lib.hid ⟨rfl, rfl⟩
      have HON := Lib.hid (one_acc u4 B n (numB len ++ (bodyTo c k).1) (c k) (bodyTo c k).2 (wr.alloc (.cells (c k).cells 50)) hgk hlb (by simp; omega) (by omega) (HO.out.alloc _))
      have HBX : Hid ((wr.alloc (.cells (c k).cells 50)).heap[wr.heap.size]? = some (.cells (c k).cells 50 (0, 0))) := Lib.hid (heap_alloc_new _ _)
      have HNX : Hid ((c k).next (bodyTo c k).2 = if (c k).ki = 5 then (bodyTo c k).2 else (c k).pl) := Lib.hid rfl
      have HLB := Lib.hid hlb
      clear hc hgk hlb
      generalize c k = x at *
      generalize (bodyTo c k).2 = last at *
      have HEL := Lib.hid hel; clear hel
      generalize x.next last = nx at *
      simp only [AccD.cells] at HON
      by_cases h5 : x.ki = 5
      all_goals
        have H5 := Lib.hid h5
        clear h5
        go_wp2_with fail
        with_reducible refine HON.out.mono ?_
        rintro e w3 ⟨v3, rfl, ho3, hk3⟩
        generalize x.enc last = E at *
        obtain ⟨a3, c3, rfl, -⟩ := own_form3 ho3
        have HB3 : Hid (Below B w w3) := Lib.hid (hk3.below B w (HBE.out.alloc hBw _) (Nat.le_refl _))
        obtain ⟨f0, f1, f2, f3, f4, f5⟩ := acc_cells (hk3.other _ _ _ _ HBX.out (by decide))
        have HO3 := Lib.hid ho3
        have hnE : n + E.length ≤ 10 + 41 * (k + 1) := by have := HEL.out; omega
        clear ho3 hk3 d0 d1 d2 d3 d4 d5
        generalize n + E.length = m at *
        have hm0 : m ≤ 4194304 := by omega
        have g1 : decide ((4194304 : Int) < (m : Int)) = false := by simp; omega
        have g2 : decide (4194304 < m) = false := by simp; omega
        have HNE := Lib.hid hnE; clear hnE hm0
      · have h5 := H5.out
        have HN5 : Hid (nx = last) := Lib.hid (by rw [HNX.out, if_pos h5])
        rw [h5] at f0
        clear h5
        go_wp2_with fail
        go_roundw
        case rel => exact ⟨k + 1, m, by omega, by go_num, by rw [HST.out.2, HN5.out], HNE.out, Lib.hid (by rw [HST.out.1, ← List.append_assoc]; exact HO3.out), HB3⟩
        case measure => simp [intOf]; omega
      · have h5 := H5.out
        have e5 : (x.ki == 5) = false := by simp [h5]
        have HN5 : Hid (nx = x.pl) := Lib.hid (by rw [HNX.out, if_neg h5])
        clear h5
        go_wp2_with fail
        go_roundw
        case rel => exact ⟨k + 1, m, by omega, by go_num, by rw [HST.out.2, HN5.out], HNE.out, Lib.hid (by rw [HST.out.1, ← List.append_assoc]; exact HO3.out), HB3⟩
        case measure => simp [intOf]; omega
    · obtain rfl : k = len := by omega
      obtain ⟨a3, c3, rfl, -⟩ := own_form3 HO.out
      go_wp2_with fail
      go_ret2
      exact ⟨a3, n, c3, rfl, by rw [← HB.out]; exact HO.out, by rw [← HB.out]; exact HBE.out⟩
end Go.Proofs.Ytfjddkjfkgdihaa
