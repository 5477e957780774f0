/- A run reckoned in parts: part 1 of function 41. -/
import Derived.Test.YtkdcfijebgeajaaGreatJ24
import Derived.Test.YtkdcfijebgeajaaGreatJ26
import Derived.KernelRfl
namespace Go.Proofs.YtkdcfijebgeajaaGreat
namespace Rk
set_option maxRecDepth 1000000
theorem part41_1 : itF env 9 k41_0_f k41_0_k = some (k41_1_f, k41_1_k) := by kernel_rfl
end Rk
end Go.Proofs.YtkdcfijebgeajaaGreat
