/- A run reckoned in parts: part 2 of function 36. -/
import Derived.Test.YtkdcfijebgeajaaGreatJ24
import Derived.KernelRfl
namespace Go.Proofs.YtkdcfijebgeajaaGreat
namespace Rk
set_option maxRecDepth 1000000
theorem part36_2 : lastB env 36 (itF env 10 k36_1_f k36_1_k) = true := by kernel_rfl
end Rk
end Go.Proofs.YtkdcfijebgeajaaGreat
