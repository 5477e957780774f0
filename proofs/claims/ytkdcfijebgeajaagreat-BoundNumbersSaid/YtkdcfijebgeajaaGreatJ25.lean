/- A run reckoned in parts: part 1 of function 36. -/
import Derived.Test.YtkdcfijebgeajaaGreatJ22
import Derived.Test.YtkdcfijebgeajaaGreatJ24
import Derived.KernelRfl
namespace Go.Proofs.YtkdcfijebgeajaaGreat
namespace Rk
set_option maxRecDepth 1000000
theorem part36_1 : itF env 9 k36_0_f k36_0_k = some (k36_1_f, k36_1_k) := by kernel_rfl
end Rk
end Go.Proofs.YtkdcfijebgeajaaGreat
