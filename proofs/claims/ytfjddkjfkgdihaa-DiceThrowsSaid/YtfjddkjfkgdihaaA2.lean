/- The law -/
import Derived.Test.YtfjddkjfkgdihaaA1
namespace Go.Proofs.Ytfjddkjfkgdihaa
open Go.RowKit
set_option linter.unusedVariables false

def ThrowsTo (n v : Int) (w : World) (e : Ending) (w' : World) : Prop := e = .returned (.tuple #[.int .u64 n, .int .u64 v]) ∧ w = w'
def OpTo (n k x y : Int) (w : World) (e : Ending) (w' : World) : Prop :=
  e = .returned (.tuple #[.int .u64 n, .agg #[.int .i64 k, .int .u32 x, .int .u32 y]]) ∧ ∃ c, w' = w.alloc (.cells c 27)

theorem law_core (s n v k x y : Int) (h15 : Hid (∀ w, Calls Try.prog 15 #[.int .u64 s] w (ThrowsTo n v w))) (h16 : Hid (∀ w, Calls Try.prog 16 #[.int .u64 s] w (ThrowsTo n v w)))
    (h17 : Hid (∀ w, Calls Try.prog 17 #[.int .u64 s] w (OpTo n k x y w))) (h18 : Hid (∀ w, Calls Try.prog 18 #[.int .u64 s] w (OpTo n k x y w))) (w : World) :
    Calls Try.prog 3 #[.int .u64 s] w fun e w' => e = .returned (.bool true) ∧ Grown w w' := by
  go_enter Try.func3, Try.ntmps3
  go_wp2_with (first | (go_at_call 15; refine (h15.out _).mono ?_; rintro e w' ⟨rfl, rfl⟩) | (go_at_call 16; refine (h16.out _).mono ?_; rintro e w' ⟨rfl, rfl⟩) | (go_at_call 17; refine (h17.out _).mono ?_; rintro e w' ⟨rfl, c1, rfl⟩) | (go_at_call 18; refine (h18.out _).mono ?_; rintro e w' ⟨rfl, c1, rfl⟩) | (go_at_call 19; refine (awake_any _).mono ?_; rintro e w' ⟨rfl, rfl⟩))
  go_ret
  exact ⟨rfl, by repeat (first | exact Grown.refl _ | apply Grown.drew | apply Grown.alloc)⟩

theorem law_any (s : Int) (w : World) : Calls Try.prog 3 #[.int .u64 s] w fun e w' => e = .returned (.bool true) ∧ Grown w w' :=
  law_core s _ _ _ _ _ (throw_any s) (refThrow_any s) (op_any s) (refOp_any s) w
end Go.Proofs.Ytfjddkjfkgdihaa
