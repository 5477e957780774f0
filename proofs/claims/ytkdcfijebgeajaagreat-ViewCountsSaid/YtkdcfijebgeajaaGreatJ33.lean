/- A run reckoned in parts: part 1 of function 10. -/
import Derived.Test.YtkdcfijebgeajaaGreatJ30
import Derived.Test.YtkdcfijebgeajaaGreatJ32
import Derived.KernelRfl
namespace Go.Proofs.YtkdcfijebgeajaaGreat
namespace Rk
set_option maxRecDepth 1000000
theorem part10_1 : itF env 1254 k10_0_f k10_0_k = some (k10_1_f, k10_1_k) := by kernel_rfl
end Rk
end Go.Proofs.YtkdcfijebgeajaaGreat
