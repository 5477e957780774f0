/- A run reckoned in parts: part 0 of function 16. -/
import Derived.Test.YtkdcfijebgeajaaGreatJw31
import Derived.KernelRfl
namespace Go.Proofs.YtkdcfijebgeajaaGreat
namespace Rk
set_option maxRecDepth 1000000
theorem part16_0 : itF env 12 (beginF env 16 100000) [] = some (k16_0_f, k16_0_k) := by kernel_rfl
end Rk
end Go.Proofs.YtkdcfijebgeajaaGreat
