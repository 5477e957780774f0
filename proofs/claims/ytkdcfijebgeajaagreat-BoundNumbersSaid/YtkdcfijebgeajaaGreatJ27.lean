/- A run reckoned in parts: function 36, whole.
   Layer 30: the law, with the example reckoned. -/
import Derived.Test.YtkdcfijebgeajaaGreatJ23
import Derived.Test.YtkdcfijebgeajaaGreatJ25
import Derived.Test.YtkdcfijebgeajaaGreatJ26
import Derived.KernelRfl
import Derived.Test.YtkdcfijebgeajaaGreatJ1
import Derived.Test.YtkdcfijebgeajaaGreatJ2
import Derived.Test.YtkdcfijebgeajaaGreatJ21
namespace Go.Proofs.YtkdcfijebgeajaaGreat
namespace Rk
set_option maxRecDepth 1000000
theorem said36 : boolOf (run env 100001 (.call 36 [] ⟨0, .nil⟩)) = true := begin_ok (by kernel_rfl) ((congrArg (saysB env 36) ((itF_ok part36_0).trans (itF_ok part36_1))).trans (lastB_ok part36_2))
end Rk
end Go.Proofs.YtkdcfijebgeajaaGreat

namespace Go.Proofs.YtkdcfijebgeajaaGreat
open Go.RowKit
theorem awake36 : Awake Tryz.prog 36 := fun w => Rk.reckoned_true Rk.envOk Rk.orcOk Rk.said36 w
theorem law6 (th sl lo bu : Int) (w : World) : Calls Tryz.prog 6 #[.agg (Cfg.cells ⟨th, sl, lo, bu⟩)] w fun e w' => e = .returned (.bool true) ∧ Below w.heap.size w w' := law6_with (Lib.hid awake36) th sl lo bu w
end Go.Proofs.YtkdcfijebgeajaaGreat
