/- A run reckoned in parts: part 0 of function 36. -/
import Derived.Test.YtkdcfijebgeajaaGreatJ22
import Derived.KernelRfl
namespace Go.Proofs.YtkdcfijebgeajaaGreat
namespace Rk
set_option maxRecDepth 1000000
theorem part36_0 : itF env 9 (beginF env 36 100000) [] = some (k36_0_f, k36_0_k) := by kernel_rfl
end Rk
end Go.Proofs.YtkdcfijebgeajaaGreat
