/- A run reckoned in parts: function 10, whole.
   Layer 19: the law, with the example reckoned. -/
import Derived.Test.YtkdcfijebgeajaaGreatJ31
import Derived.Test.YtkdcfijebgeajaaGreatJ33
import Derived.Test.YtkdcfijebgeajaaGreatJ34
import Derived.KernelRfl
import Derived.Test.YtkdcfijebgeajaaGreatJ14
import Derived.Test.YtkdcfijebgeajaaGreatJ29
namespace Go.Proofs.YtkdcfijebgeajaaGreat
namespace Rk
set_option maxRecDepth 1000000
theorem said10 : boolOf (run env 100001 (.call 10 [] ⟨0, .nil⟩)) = true := begin_ok (by kernel_rfl) ((congrArg (saysB env 10) ((itF_ok part10_0).trans (itF_ok part10_1))).trans (lastB_ok part10_2))
end Rk
end Go.Proofs.YtkdcfijebgeajaaGreat

namespace Go.Proofs.YtkdcfijebgeajaaGreat
open Go.RowKit
theorem awake10 : Awake Tryz.prog 10 := fun w => Rk.reckoned_true Rk.envOk Rk.orcOk Rk.said10 w
theorem law3 (th sl lo bu : Int) (a : Option Addr) (n cap : Nat) (w : World) : Calls Tryz.prog 3 #[.agg (Cfg.cells ⟨th, sl, lo, bu⟩), .slice a n cap] w fun e w' => e = .returned (.bool true) ∧ Below w.heap.size w w' := by
  by_cases hn : 300 < n
  · exact counts_long (Lib.hid awake10) _ a n cap hn w
  · by_cases hf : (⟨th, sl, lo, bu⟩ : Cfg).few
    · have hf' := hf
      obtain ⟨⟨f1, f2, f3, f4, f5, f6, f7, f8⟩, f9, f10, f11, f12⟩ := hf'
      simp only at f1 f2 f3 f4 f5 f6 f7 f8 f9 f10 f11 f12
      obtain ⟨th', rfl⟩ := Int.eq_ofNat_of_zero_le (show 0 ≤ th by omega)
      obtain ⟨sl', rfl⟩ := Int.eq_ofNat_of_zero_le (show 0 ≤ sl by omega)
      obtain ⟨lo', rfl⟩ := Int.eq_ofNat_of_zero_le (show 0 ≤ lo by omega)
      obtain ⟨bu', rfl⟩ := Int.eq_ofNat_of_zero_le (show 0 ≤ bu by omega)
      exact counts_few (Lib.hid awake10) th' sl' lo' bu' hf a n cap (by omega) w
    · exact counts_many (Lib.hid awake10) _ hf a n cap (by omega) w
end Go.Proofs.YtkdcfijebgeajaaGreat
