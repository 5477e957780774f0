/- Layer 3: parts of a list, a range over a function. -/
import Derived.Test.YtjbngddmmdcagaaDoorB0
import Derived.Test.YtjbngddmmdcagaaDoorC34
import Derived.Sort.LoopGhostIn
namespace Go.Proofs.YtjbngddmmdcagaaDoor
open Go.RowKit Go.BigFrame
set_option linter.unusedVariables false
set_option linter.unusedSimpArgs false

/-- What the iterator reads: what is left of a list of n elements from b, off on, behind k parts of eight. -/
def PartsAt (W : World) (b2 b3 b off n cap k : Nat) : Prop :=
  ∃ A, (8 * (k + 1) ≤ n → A = some ⟨b, off + 8 * k, none⟩) ∧ W.cell? ⟨b2, 0, none⟩ = some (.slice A (n - 8 * k) (cap - 8 * k)) ∧ W.cell? ⟨b3, 0, none⟩ = some (.int .i64 8) ∧ W.frozen? ⟨b2, 0, none⟩ = false
set_option maxRecDepth 100000 in
theorem iter71 (m l b2 b3 b off n cap : Nat) (hne : b2 ≠ b3) (hm : 1 ≤ m) (hn : n ≤ cap) (hc : cap ≤ 9223372036854775807) (J J' : Nat → World → Prop)
    (hJ : ∀ k W, J k W → PartsAt W b2 b3 b off n cap k)
    (hJ' : ∀ k W, J' k W → PartsAt W b2 b3 b off n cap k)
    (hY : ∀ k W, 8 * (k + 1) ≤ n → J k W → YieldAt Fence.wide (m - 1) Tryd.prog l #[.slice (some ⟨b, off + 8 * k, none⟩) 8 8] W fun e W' => e = .returned (.bool true) ∧ J' k W')
    (hN : ∀ k W A, 8 * (k + 1) ≤ n → J' k W → (8 * (k + 1 + 1) ≤ n → A = some ⟨b, off + 8 * (k + 1), none⟩) → J (k + 1) (W.setCell ⟨b2, 0, none⟩ (.slice A (n - 8 * (k + 1)) (cap - 8 * (k + 1)))))
    (W : World) (h0 : J 0 W) :
    CallsIn Fence.wide m Tryd.prog 48 #[.func (.yield l) #[] #[], .pointer (some ⟨b2, 0, none⟩), .pointer (some ⟨b3, 0, none⟩)] W fun e W' => (∃ v, e = .returned v) ∧ J (n / 8) W' := by
  have HJ := Lib.hid hJ
  have HJ' := Lib.hid hJ'
  have HY := Lib.hid hY
  have HN := Lib.hid hN
  have H0 := Lib.hid h0
  clear hJ hJ' hY hN h0
  refine callsIn_of_wp Tryd.func48 rfl trivial ?_ rfl
  simp only [Tryd.ntmps48, List.size_toArray, List.length_cons, List.length_nil, Nat.reduceAdd, Nat.reduceSub, Array.replicate_succ, Array.replicate_zero, List.push_toArray, List.append_toArray, List.nil_append, List.cons_append]
  gi_wp2
  gi_loopg [] (n / 8) (fun g wr => ∃ k : Nat, k + g = n / 8 ∧ Hid (J k wr))
  case atStart => exact ⟨0, by omega, H0⟩
  case round =>
    obtain ⟨k, hk, HK⟩ := hrel
    obtain ⟨A, hA, c2, c3, f2⟩ := HJ.out k wr HK.out
    by_cases hlt : 8 * (k + 1) ≤ n
    · obtain rfl := hA (by omega)
      obtain ⟨fn, tmps, assign, body, hy, hR⟩ := HY.out k wr hlt HK.out
      have HR := Lib.hid hR
      have HL := Lib.hid hlt
      obtain ⟨r, hr⟩ : ∃ r, r = n - 8 * k := ⟨_, rfl⟩
      obtain ⟨q, hq⟩ : ∃ q, q = cap - 8 * k := ⟨_, rfl⟩
      rw [← hr, ← hq] at c2
      have d1 : decide ((8 : Int) ≤ (r : Int)) = true := bool_yes (by omega)
      have i1 : (8 : Int) ≤ (q : Int) := by omega
      have i2 : (8 : Int) ≤ (r : Int) := by omega
      have i3 : (r : Int) ≤ (q : Int) := by omega
      have HRQ : Hid (r = n - 8 * k ∧ q = cap - 8 * k) := Lib.hid ⟨hr, hq⟩
      obtain ⟨o, ho⟩ : ∃ o, o = off + 8 * k := ⟨_, rfl⟩
      rw [← ho] at c2 hy
      have HO := Lib.hid ho
      clear hA hr hq ho hR hlt HY HJ
      gi_wp2
      refine HR.out.mono ?_
      rintro e W' ⟨rfl, hj⟩
      have HK2 := Lib.hid hj
      obtain ⟨A2, hA2, e2, e3, g2⟩ := HJ'.out k W' hj
      obtain rfl := hA2 (by have := HL.out; omega)
      rw [← HO.out, ← HRQ.out.1, ← HRQ.out.2] at e2
      clear hj hA2 c2 c3 f2 hy HR
      by_cases hq8 : q = 8
      · have hN1 := HN.out k W' (some ⟨b, o, none⟩) HL.out HK2.out (fun h => by have := HRQ.out.2; have := HL.out; omega)
        have hN2 : J (k + 1) (W'.setCell ⟨b2, 0, none⟩ (.slice (some ⟨b, o, none⟩) (r - 8) (q - 8))) := by
          rw [show r - 8 = n - 8 * (k + 1) by have := HRQ.out; omega, show q - 8 = cap - 8 * (k + 1) by have := HRQ.out; omega]; exact hN1
        have HN2 := Lib.hid hN2
        clear hN1 hN2
        subst hq8
        gi_wp2
        go_roundg (gk - 1)
        case rel => exact ⟨k + 1, by have := HL.out; omega, HN2⟩
        case measure => have := HL.out; omega
      · have hN1 := HN.out k W' (some ⟨b, o + 8, none⟩) HL.out HK2.out (fun _ => by rw [HO.out]; congr 2)
        have hN2 : J (k + 1) (W'.setCell ⟨b2, 0, none⟩ (.slice (some ⟨b, o + 8, none⟩) (r - 8) (q - 8))) := by
          rw [show r - 8 = n - 8 * (k + 1) by have := HRQ.out; omega, show q - 8 = cap - 8 * (k + 1) by have := HRQ.out; omega]; exact hN1
        have HN2 := Lib.hid hN2
        have q1 : (8 == q) = false := by simp; omega
        have q2 : (q == 8) = false := by simp; omega
        clear hN1 hN2
        gi_wp2
        go_roundg (gk - 1)
        case rel => exact ⟨k + 1, by have := HL.out; omega, HN2⟩
        case measure => have := HL.out; omega
    · have HL := Lib.hid hlt
      have hkn : k = n / 8 := by omega
      have HR : Hid (n - 8 * k < 8) := Lib.hid (by omega)
      generalize n - 8 * k = r at *
      have d1 : decide ((8 : Int) ≤ (r : Int)) = false := bool_no (by have := HR.out; omega)
      have HKN := Lib.hid hkn
      clear hkn hlt hA
      gi_wp2
      go_end0
      exact ⟨⟨_, rfl⟩, by rw [← HKN.out]; exact HK.out⟩
end Go.Proofs.YtjbngddmmdcagaaDoor
