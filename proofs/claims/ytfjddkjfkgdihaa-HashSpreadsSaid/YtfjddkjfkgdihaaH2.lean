/- The law HashMixes, walked. -/
import Derived.Test.YtfjddkjfkgdihaaH1
namespace Go.Proofs.Ytfjddkjfkgdihaa
open Go.RowKit
set_option linter.unusedVariables false

def MixTo (m : Int) (w : World) (e : Ending) (w' : World) : Prop := e = .returned (.int .u32 m) ∧ w = w'
def RefTo (m : Int) (w : World) (e : Ending) (w' : World) : Prop := e = .returned (.int .i64 m) ∧ w = w'

theorem mixes_core (a b m x y : Int) (x0 : 0 ≤ x) (x1 : x ≤ 4294967295) (hxy : Hid (x = y ↔ a = b))
    (ha : Hid (∀ w, Calls Try.prog 20 #[.int .u32 a] w (MixTo x w))) (hb : Hid (∀ w, Calls Try.prog 20 #[.int .u32 b] w (MixTo y w)))
    (hr : Hid (∀ w, Calls Try.prog 21 #[.int .u32 a] w (RefTo x w))) (h23 : Hid (∀ w, Calls Try.prog 23 #[.int .u32 a, .int .i64 m] w (RefTo (if m < 1 then -1 else x % m) w))) (m1 : m ≤ 9223372036854775807) (w : World) :
    Calls Try.prog 4 #[.int .u32 a, .int .u32 b, .int .i64 m] w fun e w' => e = .returned (.bool true) ∧ Grown w w' := by
  have hr1 : IntKind.u32.wrap x = x := IntWalk.u32_in x ⟨x0, x1⟩
  by_cases hab : a = b
  · subst hab
    obtain rfl : x = y := hxy.out.2 rfl
    by_cases hm : m < 1
    · have H23 : Hid (∀ w, Calls Try.prog 23 #[.int .u32 a, .int .i64 m] w (RefTo (-1) w)) := by have := h23.out; rw [if_pos hm] at this; exact this
      clear h23
      go_enter Try.func4, Try.ntmps4
      go_wp2_with (first | (go_at_call 20; refine (ha.out _).mono ?_; rintro e w' ⟨rfl, rfl⟩) | (go_at_call 21; refine (hr.out _).mono ?_; rintro e w' ⟨rfl, rfl⟩) | (go_at_call 22; refine (awake16_any _).mono ?_; rintro e w' ⟨rfl, rfl⟩) | (go_at_call 23; refine (H23.out _).mono ?_; rintro e w' ⟨rfl, rfl⟩))
      go_ret
      exact ⟨rfl, Grown.refl _⟩
    · have H23 : Hid (∀ w, Calls Try.prog 23 #[.int .u32 a, .int .i64 m] w (RefTo (x % m) w)) := by have := h23.out; rw [if_neg hm] at this; exact this
      clear h23
      have z0 := Int.emod_nonneg x (show m ≠ 0 by omega); have z1 := Int.emod_lt_of_pos x (show 0 < m by omega)
      go_enter Try.func4, Try.ntmps4
      go_wp2_with (first | (go_at_call 20; refine (ha.out _).mono ?_; rintro e w' ⟨rfl, rfl⟩) | (go_at_call 21; refine (hr.out _).mono ?_; rintro e w' ⟨rfl, rfl⟩) | (go_at_call 22; refine (awake16_any _).mono ?_; rintro e w' ⟨rfl, rfl⟩) | (go_at_call 23; refine (H23.out _).mono ?_; rintro e w' ⟨rfl, rfl⟩))
      go_ret
      exact ⟨rfl, Grown.refl _⟩
  · have hne : ¬ x = y := fun e => hab (hxy.out.1 e)
    have q1 : (x == y) = false := by simp [hne]
    have q2 : (a == b) = false := by simp [hab]
    clear hxy hne hab
    by_cases hm : m < 1
    · have H23 : Hid (∀ w, Calls Try.prog 23 #[.int .u32 a, .int .i64 m] w (RefTo (-1) w)) := by have := h23.out; rw [if_pos hm] at this; exact this
      clear h23
      go_enter Try.func4, Try.ntmps4
      go_wp2_with (first | (go_at_call 20; (first | (with_reducible refine (ha.out _).mono ?_) | (with_reducible refine (hb.out _).mono ?_)); rintro e w' ⟨rfl, rfl⟩) | (go_at_call 21; refine (hr.out _).mono ?_; rintro e w' ⟨rfl, rfl⟩) | (go_at_call 22; refine (awake16_any _).mono ?_; rintro e w' ⟨rfl, rfl⟩) | (go_at_call 23; refine (H23.out _).mono ?_; rintro e w' ⟨rfl, rfl⟩))
      go_ret
      exact ⟨rfl, Grown.refl _⟩
    · have H23 : Hid (∀ w, Calls Try.prog 23 #[.int .u32 a, .int .i64 m] w (RefTo (x % m) w)) := by have := h23.out; rw [if_neg hm] at this; exact this
      clear h23
      have z0 := Int.emod_nonneg x (show m ≠ 0 by omega); have z1 := Int.emod_lt_of_pos x (show 0 < m by omega)
      go_enter Try.func4, Try.ntmps4
      go_wp2_with (first | (go_at_call 20; (first | (with_reducible refine (ha.out _).mono ?_) | (with_reducible refine (hb.out _).mono ?_)); rintro e w' ⟨rfl, rfl⟩) | (go_at_call 21; refine (hr.out _).mono ?_; rintro e w' ⟨rfl, rfl⟩) | (go_at_call 22; refine (awake16_any _).mono ?_; rintro e w' ⟨rfl, rfl⟩) | (go_at_call 23; refine (H23.out _).mono ?_; rintro e w' ⟨rfl, rfl⟩))
      go_ret
      exact ⟨rfl, Grown.refl _⟩

theorem bucket_all (a m : Int) (h0 : 0 ≤ a) (h2 : m ≤ 9223372036854775807) (w : World) : Calls Try.prog 23 #[.int .u32 a, .int .i64 m] w (RefTo (if m < 1 then -1 else hMix a % m) w) := by
  split
  · rename_i h; exact bucket_none a m h w
  · rename_i h; exact bucket_any a m h0 (by omega) h2 w

theorem mixes_any (a b m : Int) (wa : (Lit.int .u32 a).wf = true) (wb : (Lit.int .u32 b).wf = true) (wm : (Lit.int .i64 m).wf = true) (w : World) :
    Calls Try.prog 4 #[.int .u32 a, .int .u32 b, .int .i64 m] w fun e w' => e = .returned (.bool true) ∧ Grown w w' := by
  have ba := bounds_u32 wa
  have bb := bounds_u32 wb
  have bm := bounds_i64 wm
  exact mixes_core a b m _ _ (hMix_lo a) (hMix_hi a) ⟨fun h => hMix_inj a b (by omega) (by omega) h, fun h => by rw [h]⟩ (mix_any a (by omega)) (mix_any b (by omega)) (refMix_any a (by omega) (by omega)) (bucket_all a m (by omega) (by omega)) (by omega) w
end Go.Proofs.Ytfjddkjfkgdihaa
