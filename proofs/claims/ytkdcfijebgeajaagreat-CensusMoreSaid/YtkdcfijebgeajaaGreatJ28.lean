/- A run reckoned in parts: part 2 of function 41. -/
import Derived.Test.YtkdcfijebgeajaaGreatJ26
import Derived.KernelRfl
namespace Go.Proofs.YtkdcfijebgeajaaGreat
namespace Rk
set_option maxRecDepth 1000000
theorem part41_2 : lastB env 41 (itF env 7 k41_1_f k41_1_k) = true := by kernel_rfl
end Rk
end Go.Proofs.YtkdcfijebgeajaaGreat
