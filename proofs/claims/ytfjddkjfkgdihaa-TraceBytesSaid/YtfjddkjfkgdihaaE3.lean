/- Walks of layer 37 (trace): is there one that may not be written; an access's first byte. -/
import Derived.Test.YtfjddkjfkgdihaaE2
namespace Go.Proofs.Ytfjddkjfkgdihaa
open Go.RowKit Go.BigFrame
set_option linter.unusedVariables false
set_option linter.unusedSimpArgs false

theorem wrong_any (x : AccD) (w : World) : Calls Try.prog 67 #[.agg x.cells] w (TrueOr (!x.mayB) w) := by
  have HR := Lib.hid fun w => right_acc x w
  unfold AccD.cells at *
  generalize x.mayB = r at *
  go_enter Try.func67, Try.ntmps67
  go_wp2_with (go_at_call 68; refine (HR.out _).mono ?_; rintro e w' ⟨rfl, hb⟩)
  go_ret
  exact ⟨rfl, ((Below.refl _ _).alloc (Nat.le_refl _) _).trans (hb.mono (by simp))⟩

def badTo (c : Nat → AccD) : Nat → Bool
  | 0 => false
  | k + 1 => badTo c k || !(c k).mayB
theorem badTo_false {c : Nat → AccD} {n : Nat} (h : badTo c n = false) : ∀ i, i < n → (c i).mayB = true := by
  induction n with
  | zero => intro i hi; omega
  | succ n ih =>
    simp only [badTo, Bool.or_eq_false_iff, Bool.not_eq_false'] at h
    intro i hi
    by_cases e : i = n
    · subst e; exact h.2
    · exact ih h.1 i (by omega)
theorem badTo_true {c : Nat → AccD} {n : Nat} (h : badTo c n = true) : ∃ i, i < n ∧ (c i).mayB = false := by
  induction n with
  | zero => simp [badTo] at h
  | succ n ih =>
    simp only [badTo, Bool.or_eq_true, Bool.not_eq_true'] at h
    rcases h with h | h
    · obtain ⟨i, hi, he⟩ := ih h; exact ⟨i, by omega, he⟩
    · exact ⟨n, by omega, h⟩
theorem badTo_mono {c : Nat → AccD} {n k : Nat} (hk : k ≤ n) (h : badTo c k = true) : badTo c n = true := by
  induction n with
  | zero => obtain rfl : k = 0 := by omega
            exact h
  | succ n ih =>
    by_cases e : k = n + 1
    · subst e; exact h
    · simp [badTo, ih (by omega)]

def IndexTo (b : Bool) (w : World) (e : Ending) (w' : World) : Prop := ∃ r : Int, e = .returned (.int .i64 r) ∧ -1 ≤ r ∧ r ≤ 9223372036854775807 ∧ decide (0 ≤ r) = b ∧ Below w.heap.size w w'

set_option maxRecDepth 100000 in
set_option maxHeartbeats 4000000 in
theorem index_any (a : Option Addr) (len cap : Nat) (c : Nat → AccD) (w : World) (h : AccsAt w a len cap c) :
    Calls Try.prog 81 #[.slice a len cap, .func (.func 67) #[] #[]] w (IndexTo (badTo c len) w) := by
  obtain ⟨hlc, hcm, hcell⟩ := h
  unfold maxLen at hcm
  have HC := Lib.hid hcell; clear hcell
  obtain ⟨B, hB⟩ : ∃ B, B = w.heap.size := ⟨_, rfl⟩
  have HB := Lib.hid hB; clear hB
  obtain ⟨r, hr⟩ : ∃ r, r = badTo c len := ⟨_, rfl⟩
  rw [← hr]
  have HR := Lib.hid hr; clear hr
  go_enter Try.func81, Try.ntmps81
  go_wp2_with fail
  go_loopw [8] (fun i wr => ∃ k : Nat, k ≤ len ∧ i = .int .i64 k ∧ Hid (badTo c k = false) ∧ Hid (Below B w wr)) (fun i _ => len - (intOf i).toNat)
  case atStart => exact ⟨0, Nat.zero_le _, rfl, Lib.hid rfl, by rw [HB.out]; exact Lib.hid (Below.refl _ _)⟩
  case round =>
    obtain ⟨k, hk, rfl, HK, HBE⟩ := hrel
    by_cases hlt : k < len
    · obtain ⟨b, off, rfl, hb, hc⟩ := HC.out k hlt
      obtain ⟨d0, d1, d2, d3, d4, d5⟩ := hc.of (w' := wr) fun o => HBE.out.cell (p := ⟨b, o, none⟩) (by rw [HB.out]; exact hb)
      have HST : Hid (badTo c (k + 1) = (badTo c k || !(c k).mayB)) := Lib.hid rfl
      have HW := Lib.hid fun w => wrong_any (c k) w
      unfold AccD.cells at HW
      have hsz := HBE.out.size
      clear hc
      generalize c k = x at *
      generalize x.mayB = q at *
      cases q
      · have HT : Hid (r = true) := Lib.hid (by rw [HR.out]; exact badTo_mono (show k + 1 ≤ len by omega) (by rw [HST.out]; simp))
        go_wp2_with (go_at_call 67; refine (HW.out _).mono ?_; rintro e w' ⟨rfl, hb⟩)
        go_ret
        exact ⟨k, rfl, by omega, by omega, by rw [HT.out]; simp, by rw [← HB.out]; exact HBE.out.trans (hb.mono (by rw [HB.out]; exact hsz))⟩
      · go_wp2_with (go_at_call 67; refine (HW.out _).mono ?_; rintro e w' ⟨rfl, hb⟩)
        have HB' : Hid (Below B w w') := Lib.hid (HBE.out.trans (hb.mono (by rw [HB.out]; exact hsz)))
        clear hb
        go_roundw
        case rel => exact ⟨k + 1, by omega, by go_num, Lib.hid (by rw [HST.out, HK.out]; rfl), HB'⟩
        case measure => simp [intOf]; omega
    · obtain rfl : k = len := by omega
      have HT : Hid (r = false) := Lib.hid (by rw [HR.out]; exact HK.out)
      go_wp2_with fail
      go_ret
      exact ⟨-1, rfl, by omega, by omega, by rw [HT.out]; rfl, by rw [← HB.out]; exact HBE.out⟩

theorem contains_any (a : Option Addr) (len cap : Nat) (c : Nat → AccD) (w : World) (h : AccsAt w a len cap c) :
    Calls Try.prog 66 #[.slice a len cap, .func (.func 67) #[] #[]] w (TrueOr (badTo c len) w) := by
  have HI := Lib.hid (index_any a len cap c w h)
  generalize badTo c len = r at *
  clear h
  go_enter Try.func66, Try.ntmps66
  go_wp2_with fail
  refine HI.out.mono ?_
  rintro e w' ⟨q, rfl, h1, h2, h3, hb⟩
  have HB := Lib.hid hb; clear hb
  cases r
  · have h3 : decide (0 ≤ q) = false := h3
    go_wp2
    go_ret
    exact ⟨rfl, HB.out⟩
  · have h3 : decide (0 ≤ q) = true := h3
    have h4 : 0 ≤ q := of_decide_eq_true h3
    go_wp2
    go_ret
    exact ⟨rfl, HB.out⟩

def IntOn (k : IntKind) (n : Int) (w : World) (e : Ending) (w' : World) : Prop := e = .returned (.int k n) ∧ Below w.heap.size w w'

set_option maxRecDepth 100000 in
set_option maxHeartbeats 4000000 in
theorem first_any (x : AccD) (h : x.mayB = true) (w : World) : Calls Try.prog 83 #[.agg x.cells] w (IntOn .u8 x.first w) := by
  obtain ⟨k0, k1, t0, t1, -⟩ := AccD.may_out h
  obtain ⟨f0, f1⟩ := AccD.first_bd h
  obtain ⟨ki, th, pl, ol, ne, dn⟩ := x
  simp only at k0 k1 t0 t1
  have HF : Hid (AccD.first ⟨ki, th, pl, ol, ne, dn⟩ = ki + 16 * (th % 8) + (if dn = true then 8 else 0)) := Lib.hid rfl
  generalize AccD.first ⟨ki, th, pl, ol, ne, dn⟩ = f at *
  clear h
  unfold AccD.cells
  cases dn
  · go_enter Try.func83, Try.ntmps83
    go_wp2
    go_ret
    exact ⟨by rw [HF.out]; simp, (Below.refl _ _).alloc (Nat.le_refl _) _⟩
  · go_enter Try.func83, Try.ntmps83
    go_wp2
    go_ret
    exact ⟨by rw [HF.out]; simp, (Below.refl _ _).alloc (Nat.le_refl _) _⟩
end Go.Proofs.Ytfjddkjfkgdihaa
