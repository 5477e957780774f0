/- Walk of the law TraceWrites. -/
import Derived.Test.YtfjddkjfkgdihaaE11
import Derived.Test.YtfjddkjfkgdihaaE7
import Derived.Test.YtfjddkjfkgdihaaE5
import Derived.Test.YtfjddkjfkgdihaaE6
import Derived.Test.YtfjddkjfkgdihaaT5
import Derived.Deep.RegionHeld
import Derived.Deep.RegionHeld3
namespace Go.Proofs.Ytfjddkjfkgdihaa
open Go.RowKit Go.BigFrame
set_option linter.unusedVariables false
set_option linter.unusedSimpArgs false

theorem AccsAt.congr {w : World} {a : Option Addr} {len cap : Nat} {c c' : Nat → AccD} (h : AccsAt w a len cap c) (hc : ∀ i, i < len → c i = c' i) : AccsAt w a len cap c' :=
  ⟨h.1, h.2.1, fun i hi => by rw [← hc i hi]; exact h.2.2 i hi⟩
theorem encAll_bytes (c : Nat → AccD) (n : Nat) (hg : ∀ i, i < n → (c i).good) : ∀ x ∈ encAll c n, 0 ≤ x ∧ x ≤ 255 := by
  have hn : ∀ (m : Nat) x, x ∈ numB m → 0 ≤ x ∧ x ≤ 255 := fun m x hx => numB_bytes m x hx
  have hb : ∀ m, m ≤ n → ∀ x ∈ (bodyTo c m).1, 0 ≤ x ∧ x ≤ 255 := by
    intro m
    induction m with
    | zero => intro _ x hx; cases hx
    | succ m ih =>
      intro hm x hx
      have hx : x ∈ (bodyTo c m).1 ++ (c m).enc (bodyTo c m).2 := hx
      rcases List.mem_append.1 hx with hx | hx
      · exact ih (by omega) x hx
      · unfold AccD.enc at hx
        rcases List.mem_cons.1 hx with rfl | hx
        · exact AccD.first_bd (hg m (by omega)).1
        · unfold AccD.placeB AccD.oldB AccD.newB at hx
          simp only [List.mem_append] at hx
          rcases hx with hx | hx | hx | hx
          · exact hn _ _ hx
          · split at hx
            · cases hx
            · exact hn _ _ hx
          · split at hx
            · exact hn _ _ hx
            · cases hx
          · split at hx
            · exact hn _ _ hx
            · cases hx
  intro x hx
  unfold encAll at hx
  rcases List.mem_append.1 hx with hx | hx
  · exact hn _ _ hx
  · exact hb n (Nat.le_refl _) x hx
theorem encAll_len (c : Nat → AccD) (n : Nat) (hn : n ≤ 100) (hg : ∀ i, i < n → (c i).good) : (encAll c n).length ≤ 20000 := by
  have hb : ∀ m, m ≤ n → (bodyTo c m).1.length ≤ 41 * m := by
    intro m
    induction m with
    | zero => intro _; exact Nat.le_refl _
    | succ m ih =>
      intro hm
      have h1 := ih (by omega)
      have h2 := enc_len (hg m (by omega)) (last_bd (c := c) (n := m) (fun i hi => (hg i (by omega)).1))
      show ((bodyTo c m).1 ++ (c m).enc (bodyTo c m).2).length ≤ _
      rw [List.length_append]
      omega
  have h1 := hb n (Nat.le_refl _)
  have h2 := numB_len10 n (by omega)
  unfold encAll
  rw [List.length_append]
  omega
theorem writes_long (a : Option Addr) (len cap : Nat) (w : World) (h : 100 < len) (hm : len ≤ 9223372036854775807) :
    Calls Try.prog 12 #[.slice a len cap] w (TrueOn w) := by
  go_enter Try.func12, Try.ntmps12
  go_wp2_with (go_at_call 25; refine (awake37_any _).mono ?_; rintro e w' ⟨rfl, hb⟩)
  go_ret
  exact ⟨rfl, hb⟩

set_option maxRecDepth 100000 in
set_option maxHeartbeats 4000000 in
theorem writes_bad (a : Option Addr) (len cap : Nat) (c : Nat → AccD) (w : World) (h : AccsAt w a len cap c) (hl : len ≤ 100) (hb : badTo c len = true) :
    Calls Try.prog 12 #[.slice a len cap] w (TrueOn w) := by
  have HW := Lib.hid (write_bad a len cap c w h hb)
  obtain ⟨j, hj, hbad⟩ := badTo_true hb
  have HJ := Lib.hid hbad
  have hlc := h.1
  have hcm := h.2.1
  unfold maxLen at hcm
  have H := Lib.hid h
  clear h hb hbad
  go_enter Try.func12, Try.ntmps12
  have g0 : decide ((100 : Int) < (len : Int)) = false := by simp; omega
  have g00 : ¬ (100 : Int) < (len : Int) := by omega
  go_wp2_with ((go_at_call 47; (with_reducible refine HW.out.mono ?_); rintro e w1 ⟨rfl, hb1⟩))
  go_loopw [5] (fun i wr => ∃ k : Nat, k ≤ j ∧ i = .int .i64 k ∧ Hid (Below w.heap.size w wr)) (fun i _ => j - (intOf i).toNat)
  case atStart => exact ⟨0, Nat.zero_le _, rfl, Lib.hid hb1⟩
  case round =>
    clear hb1
    obtain ⟨k, hk, rfl, HBE⟩ := hrel
    have hkn : k < len := by omega
    obtain ⟨b1, o1, rfl, hb1, hc1⟩ := (H.out.below HBE.out).2.2 k hkn
    obtain ⟨x0, x1, x2, x3, x4, x5⟩ := hc1
    clear hb1
    have k0 : (0 : Int) ≤ (k : Int) := by omega
    have k1 : (k : Int) < (len : Int) := by omega
    by_cases hm : (c k).mayB = true
    · have hkj : k < j := by
        rcases Nat.lt_or_eq_of_le hk with h | h
        · exact h
        · subst h; rw [HJ.out] at hm; cases hm
      have hq : ∀ w', Calls Try.prog 48 #[.agg (c k).cells] w' (TrueOr true w') := fun w' => by rw [← hm]; exact may_acc (c k) w'
      simp only [AccD.cells] at hq
      clear hm
      generalize c k = x at *
      go_wp2_with (go_at_call 48; (with_reducible refine (hq _).mono ?_); rintro e w2 ⟨rfl, hb2⟩; have HB2 := Lib.hid (HBE.out.trans (hb2.mono HBE.out.size)); clear hb2)
      go_roundw
      case rel => exact ⟨k + 1, by omega, by go_num, HB2⟩
      case measure => simp [intOf]; omega
    · have hm' : (c k).mayB = false := by simpa using hm
      have hq : ∀ w', Calls Try.prog 48 #[.agg (c k).cells] w' (TrueOr false w') := fun w' => by rw [← hm']; exact may_acc (c k) w'
      simp only [AccD.cells] at hq
      clear hm hm'
      generalize c k = x at *
      go_wp2_with (first | (go_at_call 48; (with_reducible refine (hq _).mono ?_); rintro e w2 ⟨rfl, hb2⟩; have HB2 := Lib.hid (HBE.out.trans (hb2.mono HBE.out.size)); clear hb2) | (go_at_call 25; refine (awake37_any _).mono ?_; rintro e w3 ⟨rfl, hb3⟩))
      go_ret
      exact ⟨rfl, HB2.out.trans (hb3.mono HB2.out.size)⟩

set_option maxRecDepth 100000 in
set_option maxHeartbeats 4000000 in
theorem writes_good (a : Option Addr) (len cap : Nat) (c : Nat → AccD) (w : World) (h : AccsAt w a len cap c) (hl : len ≤ 100) (hg : ∀ i, i < len → (c i).good) (hb : badTo c len = false) (hlen : (encAll c len).length ≤ 20000) :
    Calls Try.prog 12 #[.slice a len cap] w (TrueOn w) := by
  have HW := Lib.hid (write_ok a len cap c w h (by omega) hg hb)
  have HR : Hid (∀ w', Below w.heap.size w w' → Calls Try.prog 50 #[.slice a len cap] w' (RefWriteTo c len w')) := Lib.hid fun w' hb => refWrite_ok a len cap c w' (h.below hb) (by omega) hg
  have HG := Lib.hid hg
  have HLE := Lib.hid hlen
  have HSA : Hid (Says (encAll c len) c len) := Lib.hid ⟨hg, rfl⟩
  have hlc := h.1
  have hcm := h.2.1
  unfold maxLen at hcm
  have H := Lib.hid h
  clear h hb hg hlen
  go_enter Try.func12, Try.ntmps12
  have g0 : decide ((100 : Int) < (len : Int)) = false := by simp; omega
  have g00 : ¬ (100 : Int) < (len : Int) := by omega
  go_wp2_with ((go_at_call 47; (with_reducible refine HW.out.mono ?_); rintro e w1 ⟨a1, n1, c1, rfl, ho1, hb1⟩))
  have HO1 := Lib.hid ho1
  have HB1 := Lib.hid hb1
  clear ho1 hb1
  go_loopw [5] (fun i wr => ∃ k : Nat, k ≤ len ∧ i = .int .i64 k ∧ Hid (Below w1.heap.size w1 wr)) (fun i _ => len - (intOf i).toNat)
  case atStart => exact ⟨0, Nat.zero_le _, rfl, Lib.hid (Below.refl _ _)⟩
  case round =>
    obtain ⟨k, hk, rfl, HBE⟩ := hrel
    have HBW : Hid (Below w.heap.size w wr) := Lib.hid (HB1.out.trans (HBE.out.mono HB1.out.size))
    by_cases hkn : k < len
    · obtain ⟨b1, o1, rfl, hb1, hc1⟩ := (H.out.below HBW.out).2.2 k hkn
      obtain ⟨x0, x1, x2, x3, x4, x5⟩ := hc1
      clear hb1
      have k0 : (0 : Int) ≤ (k : Int) := by omega
      have k1 : (k : Int) < (len : Int) := by omega
      have hm := (HG.out k hkn).1
      have hq : ∀ w', Calls Try.prog 48 #[.agg (c k).cells] w' (TrueOr true w') := fun w' => by rw [← hm]; exact may_acc (c k) w'
      simp only [AccD.cells] at hq
      clear hm
      generalize c k = x at *
      go_wp2_with (go_at_call 48; (with_reducible refine (hq _).mono ?_); rintro e w2 ⟨rfl, hb2⟩; have HB2 := Lib.hid (HBE.out.trans (hb2.mono HBE.out.size)); clear hb2)
      go_roundw
      case rel => exact ⟨k + 1, by omega, by go_num, HB2⟩
      case measure => simp [intOf]; omega
    · obtain rfl : k = len := by omega
      obtain ⟨a1', c1', e1, hrd⟩ := rdB_of_own (k := .u8) HO1.out
      cases e1
      have HRD1 := Lib.hid hrd
      have HC49 : Hid (Calls Try.prog 49 #[.slice a1 n1 c1] wr (fun e w' => ∃ a2 cap2, e = .returned (.tuple #[.slice a2 k cap2, .int .i64 0]) ∧ Below wr.heap.size wr w' ∧ AccsAt w' a2 k cap2 c)) := Lib.hid (by
        refine (read_all a1 n1 c1 (encAll c k) (by have := hrd.1; have := HLE.out; omega) wr (by have := hrd.below HBE.out; exact this.mono HBE.out.size (Nat.le_refl _)) (encAll_bytes c k HG.out)).mono ?_
        rintro e w2 ⟨hb2, ⟨c', n', a2, cap2, hs, rfl, hacc⟩ | ⟨-, hno⟩⟩
        · obtain ⟨rfl, hcc⟩ := HSA.out.unique hs
          exact ⟨a2, cap2, rfl, hb2, hacc.congr fun i hi => (hcc i hi).symm⟩
        · exact absurd HSA.out (hno _ _))
      clear hrd
      go_wp2_with (go_at_call 49; (with_reducible refine HC49.out.mono ?_); rintro e w2 ⟨a2, cap2, rfl, hb2, hacc'⟩)
      · skip
        have HBW2 : Hid (Below w.heap.size w w2) := Lib.hid (HBW.out.trans (hb2.mono HBW.out.size))
        have HC2 := Lib.hid hacc'
        have HA2 := Lib.hid (H.out.below HBW2.out)
        have HRD3 := Lib.hid ((HRD1.out.below HBE.out).mono HBE.out.size (Nat.le_refl _) |>.below hb2)
        have HRD2 : Hid (RdB .u8 w2.heap.size w2 a1 n1 c1 (encAll c k)) := Lib.hid (HRD3.out.mono hb2.size (Nat.le_refl _))
        have M25 : Hid (∀ w', Below w2.heap.size w2 w' → Calls Try.prog 25 #[] w' (fun e w'' => e = .returned (.bool true) ∧ Below w2.heap.size w2 w'')) := Lib.hid fun w' hb => (awake37_any w').mono fun e w'' ⟨h1, h2⟩ => ⟨h1, hb.trans (h2.mono hb.size)⟩
        have M50 : Hid (∀ w', Below w2.heap.size w2 w' → Calls Try.prog 50 #[.slice a k cap] w' (fun e w'' => ∃ x y z, e = .returned (.slice x y z) ∧ Below w2.heap.size w2 w'' ∧ (convert 40 9 (.slice x y z)).run Try.prog w'' = .ok (.string (strOfNums (encAll c k))) w'')) := Lib.hid fun w' hb => (HR.out w' (HBW2.out.trans (hb.mono HBW2.out.size))).mono fun e w'' ⟨x, y, z, h1, h2, h3⟩ => ⟨x, y, z, h1, hb.trans (h3.mono hb.size), by
          obtain ⟨x', z', e', hr⟩ := rdB_of_own (k := .u8) h2
          cases e'
          exact hr.conv 40 9 5 Try.underlying40 Try.underlying5 Try.underlying9⟩
        have M51 : Hid (∀ w', Below w2.heap.size w2 w' → Calls Try.prog 51 #[.slice a2 k cap2, .slice a k cap] w' (fun e w'' => e = .returned (.bool true) ∧ Below w2.heap.size w2 w'')) := Lib.hid fun w' hb => (sameAccs_any a2 a k cap2 cap c w' (HC2.out.below hb) (HA2.out.below hb)).mono fun e w'' ⟨h1, h2⟩ => ⟨h1, hb.trans (h2.mono hb.size)⟩
        have MC : Hid (∀ w', Below w2.heap.size w2 w' → (convert 40 9 (.slice a1 n1 c1)).run Try.prog w' = .ok (.string (strOfNums (encAll c k))) w') := Lib.hid fun w' hb => (HRD2.out.below hb).conv 40 9 5 Try.underlying40 Try.underlying5 Try.underlying9
        clear hb2 hacc'
        generalize strOfNums (encAll c k) = S at *
        have HFIN : Hid (∀ w', Below w2.heap.size w2 w' → Below w.heap.size w w') := Lib.hid fun w' hb => HBW2.out.trans (hb.mono HBW2.out.size)
        clear HW HR HG HLE HSA H HO1 HB1 HBE HBW HC49 HRD1 HC2 HA2 HRD3 HRD2 HBW2
        go_upto_region 10 with fail
        have hc0 := MC.out _ (Below.refl _ _).drew
        go_region_held (fun w' => (convert 40 9 (.slice a1 n1 c1)).run Try.prog w' = .ok (.string S) w') (first | assumption | go_keep) (first | (go_at_call 25; refine (M25.out _ (Below.refl _ _).drew).mono ?_; rintro e w4 ⟨rfl, hb⟩; have hc4 := MC.out _ hb; have HNOW := Lib.hid hb; clear hb) | (go_at_call 50; refine (M50.out _ HNOW.out).mono ?_; rintro e w5 ⟨x, y, z, rfl, hb, hc5⟩; have hc6 := MC.out _ hb; have HNOW := Lib.hid hb; clear hb) | (go_at_call 51; refine (M51.out _ HNOW.out).mono ?_; rintro e w7 ⟨rfl, hb⟩; have hc8 := MC.out _ hb; have HNOW := Lib.hid hb; clear hb))
        all_goals
          go_wp2
          go_ret
          exact ⟨rfl, HFIN.out _ HNOW.out⟩
end Go.Proofs.Ytfjddkjfkgdihaa
