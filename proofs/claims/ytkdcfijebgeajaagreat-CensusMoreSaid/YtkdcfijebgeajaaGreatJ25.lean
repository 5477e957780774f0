/- A run reckoned in parts: part 0 of function 41. -/
import Derived.Test.YtkdcfijebgeajaaGreatJ24
import Derived.KernelRfl
namespace Go.Proofs.YtkdcfijebgeajaaGreat
namespace Rk
set_option maxRecDepth 1000000
theorem part41_0 : itF env 6 (beginF env 41 100000) [] = some (k41_0_f, k41_0_k) := by kernel_rfl
end Rk
end Go.Proofs.YtkdcfijebgeajaaGreat
