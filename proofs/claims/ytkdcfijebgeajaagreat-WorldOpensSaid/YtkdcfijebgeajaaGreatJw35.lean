/- A run reckoned in parts: part 2 of function 16. -/
import Derived.Test.YtkdcfijebgeajaaGreatJw33
import Derived.KernelRfl
namespace Go.Proofs.YtkdcfijebgeajaaGreat
namespace Rk
set_option maxRecDepth 1000000
theorem part16_2 : lastB env 16 (itF env 957 k16_1_f k16_1_k) = true := by kernel_rfl
end Rk
end Go.Proofs.YtkdcfijebgeajaaGreat
