/- A run reckoned in parts: part 2 of function 10. -/
import Derived.Test.YtkdcfijebgeajaaGreatJ32
import Derived.KernelRfl
namespace Go.Proofs.YtkdcfijebgeajaaGreat
namespace Rk
set_option maxRecDepth 1000000
theorem part10_2 : lastB env 10 (itF env 1075 k10_1_f k10_1_k) = true := by kernel_rfl
end Rk
end Go.Proofs.YtkdcfijebgeajaaGreat
