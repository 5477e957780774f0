/- The law HistoryMay, walked. -/
import Derived.Test.YtfjddkjfkgdihaaC9
namespace Go.Proofs.Ytfjddkjfkgdihaa
open Go.RowKit Go.BigFrame
set_option linter.unusedVariables false

theorem right_nil (a : Option Addr) (cap : Nat) (w : World) : Calls Try.prog 40 #[.slice a 0 cap] w (BoolOn true w) := by
  have hmm := @run_makeMap Try.prog
  go_enter Try.func40, Try.ntmps40
  go_wp2_with fail
  go_loop [11] (fun i => i = .int .i64 0) (fun _ => 0)
  case atStart => rfl
  case round =>
    obtain rfl := hrel
    go_wp2_with fail
    go_ret
    exact ⟨rfl, (Below.refl _ _).alloc (Nat.le_refl _) _⟩
theorem refRight_nil (a : Option Addr) (cap : Nat) (w : World) : Calls Try.prog 41 #[.slice a 0 cap] w (BoolOn true w) := by
  go_enter Try.func41, Try.ntmps41
  go_wp2_with fail
  go_loop [3] (fun i => i = .int .i64 0) (fun _ => 0)
  case atStart => rfl
  case round =>
    obtain rfl := hrel
    go_wp2_with fail
    go_ret
    exact ⟨rfl, Below.refl _ _⟩

theorem may_long (a : Option Addr) (len cap : Nat) (hl : 100 < len) (hc : len ≤ 9223372036854775807) (w : World) :
    Calls Try.prog 9 #[.slice a len cap] w (BoolOn true w) := by
  go_enter Try.func9, Try.ntmps9
  go_wp2_with (go_at_call 37; refine (awake24_any _).mono ?_; rintro e w' ⟨rfl, hb⟩)
  go_ret
  exact ⟨rfl, hb⟩
theorem may_nil (a : Option Addr) (cap : Nat) (w : World) : Calls Try.prog 9 #[.slice a 0 cap] w (BoolOn true w) := by
  go_enter Try.func9, Try.ntmps9
  go_wp2_with fail
  go_loop [3] (fun i => i = .int .i64 0) (fun _ => 0)
  case atStart => rfl
  case round =>
    obtain rfl := hrel
    go_wp2_with (first | (go_at_call 37; refine (awake24_any _).mono ?_; rintro e w1 ⟨rfl, hb1⟩) | (go_at_call 40; refine (right_nil _ _ _).mono ?_; rintro e w2 ⟨rfl, hb2⟩) | (go_at_call 41; refine (refRight_nil _ _ _).mono ?_; rintro e w3 ⟨rfl, hb3⟩))
    go_ret
    exact ⟨rfl, hb1.trans ((hb2.trans (hb3.mono hb2.size)).mono hb1.size)⟩

set_option maxRecDepth 100000 in
set_option maxHeartbeats 4000000 in
theorem may_law1 (b off len cap : Nat) (c : Nat → CallD) (w : World) (hl : len ≤ 100) (hb : b < w.heap.size) (hc : ∀ i, i < len → CallAt w b (off + i * 11) (c i)) :
    Calls Try.prog 9 #[.slice (some ⟨b, off, none⟩) len cap] w (BoolOn true w) := by
  have HC := Lib.hid hc; clear hc
  have HBB := Lib.hid hb; clear hb
  go_enter Try.func9, Try.ntmps9
  go_wp2_with fail
  go_loopw [3] (fun i wr => ∃ k : Nat, k ≤ len ∧ i = .int .i64 k ∧ Hid (Below w.heap.size w wr)) (fun i _ => len - (intOf i).toNat)
  case atStart => exact ⟨0, Nat.zero_le _, rfl, Below.refl _ _⟩
  case round =>
    obtain ⟨k, hk, rfl, HBE⟩ := hrel
    have hsz := HBE.out.size
    by_cases hlt : k < len
    · have HD : Hid (∀ x : Over wr.heap.size wr, CallAt x.w b (off + k * 11) (c k)) := Lib.hid fun x =>
        (HC.out k hlt).of fun o => (HBE.out.trans (x.below.mono hsz)).cell (p := ⟨b, o, none⟩) HBB.out
      have H1 := Lib.hid fun w => may_any (c k) w
      have H2 := Lib.hid fun w => refMay_any (c k) w
      simp only [CallD.cells] at H1 H2
      have i0 : (0 : Int) ≤ (k : Int) := by omega
      have i1 : (k : Int) < (len : Int) := by omega
      have d0 := fun x => (HD.out x).1
      have d1 := fun x => (HD.out x).2.1
      have d2 := fun x => (HD.out x).2.2.1
      have d3 := fun x => (HD.out x).2.2.2.1
      have d4 := fun x => (HD.out x).2.2.2.2.1
      have d5 := fun x => (HD.out x).2.2.2.2.2.1
      have d6 := fun x => (HD.out x).2.2.2.2.2.2.1
      have d7 := fun x => (HD.out x).2.2.2.2.2.2.2.1
      have d8 := fun x => (HD.out x).2.2.2.2.2.2.2.2.1
      have d9 := fun x => (HD.out x).2.2.2.2.2.2.2.2.2.1
      have d10 := fun x => (HD.out x).2.2.2.2.2.2.2.2.2.2
      generalize (c k).mayB = mb at *
      go_wp2_with fail
      refine region_quiet_of (fun x : Over wr.heap.size wr => x.w) (by kernel_rfl) (by kernel_rfl) (Over.first _ _) (Over.first_w _ _) ?_
      repeat (first | go_big_quiet_skip | (go_big_quiet_want; go_big_quiet_op; first | go_big_quiet_on | go_big_quiet_call ((rename_i x; first | (go_at_call 38; refine (H1.out _).mono ?_; rintro e w' ⟨rfl, hb⟩; exact ⟨rfl, x.on w' (hb.mono x.below.size), rfl⟩) | (go_at_call 39; refine (H2.out _).mono ?_; rintro e w' ⟨rfl, hb⟩; exact ⟨rfl, x.on w' (hb.mono x.below.size), rfl⟩)))))
      refine wpQuiet_nil ?_
      rintro _ ⟨x, rfl⟩
      go_wp2_with fail
      go_roundw
      case rel => exact ⟨k + 1, by omega, by go_num, Lib.hid (HBE.out.trans (x.below.mono hsz))⟩
      case measure => simp [intOf]; omega
    · obtain rfl : k = len := by omega
      have HR : Hid (∀ w', Below w.heap.size w w' → Calls Try.prog 40 #[.slice (some ⟨b, off, none⟩) k cap] w' (BoolOn (rightTo c k) w')) := Lib.hid fun w' h =>
        right_any b off k cap c w' hl (Nat.lt_of_lt_of_le HBB.out h.size) fun i hi => (HC.out i hi).of fun o => h.cell (p := ⟨b, o, none⟩) HBB.out
      have HR2 : Hid (∀ w', Below w.heap.size w w' → Calls Try.prog 41 #[.slice (some ⟨b, off, none⟩) k cap] w' (BoolOn (rightTo c k) w')) := Lib.hid fun w' h =>
        refRight_any b off k cap c w' hl (Nat.lt_of_lt_of_le HBB.out h.size) fun i hi => (HC.out i hi).of fun o => h.cell (p := ⟨b, o, none⟩) HBB.out
      generalize rightTo c k = rb at *
      go_wp2_with (go_at_call 37; refine (awake24_any _).mono ?_; rintro e w1 ⟨rfl, hb1⟩; have HB1 := Lib.hid (HBE.out.trans (hb1.mono hsz)); clear hb1)
      refine (HR.out _ HB1.out).mono ?_
      rintro e w2 ⟨rfl, hb2⟩
      have HB2 := Lib.hid (HB1.out.trans (hb2.mono HB1.out.size))
      clear hb2
      go_wp2_with fail
      refine (HR2.out _ HB2.out).mono ?_
      rintro e w3 ⟨rfl, hb3⟩
      have HB3 := Lib.hid (HB2.out.trans (hb3.mono HB2.out.size))
      clear hb3
      go_wp2_with fail
      go_ret
      exact ⟨rfl, HB3.out⟩

theorem may_law (a : Option Addr) (len cap : Nat) (c : Nat → CallD) (w : World) (h : CallsAt w a len cap c) : Calls Try.prog 9 #[.slice a len cap] w (BoolOn true w) := by
  obtain ⟨h1, h2, h3⟩ := h
  unfold maxLen at h2
  by_cases hl : 100 < len
  · exact may_long a len cap hl (by omega) w
  · by_cases h0 : len = 0
    · subst h0; exact may_nil a cap w
    · obtain ⟨b, off, rfl, hb, -⟩ := h3 0 (by omega)
      refine may_law1 b off len cap c w (by omega) hb fun i hi => ?_
      obtain ⟨b', off', e, -, hc⟩ := h3 i hi
      simp only [Option.some.injEq, Addr.mk.injEq] at e
      obtain ⟨rfl, rfl, -⟩ := e
      exact hc
end Go.Proofs.Ytfjddkjfkgdihaa
