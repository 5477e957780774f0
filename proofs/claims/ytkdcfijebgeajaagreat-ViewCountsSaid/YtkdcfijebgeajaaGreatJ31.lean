/- A run reckoned in parts: part 0 of function 10. -/
import Derived.Test.YtkdcfijebgeajaaGreatJ30
import Derived.KernelRfl
namespace Go.Proofs.YtkdcfijebgeajaaGreat
namespace Rk
set_option maxRecDepth 1000000
theorem part10_0 : itF env 6 (beginF env 10 100000) [] = some (k10_0_f, k10_0_k) := by kernel_rfl
end Rk
end Go.Proofs.YtkdcfijebgeajaaGreat
