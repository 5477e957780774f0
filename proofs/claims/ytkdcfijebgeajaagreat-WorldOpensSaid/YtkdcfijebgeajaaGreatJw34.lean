/- A run reckoned in parts: part 1 of function 16. -/
import Derived.Test.YtkdcfijebgeajaaGreatJw31
import Derived.Test.YtkdcfijebgeajaaGreatJw33
import Derived.KernelRfl
namespace Go.Proofs.YtkdcfijebgeajaaGreat
namespace Rk
set_option maxRecDepth 1000000
theorem part16_1 : itF env 188 k16_0_f k16_0_k = some (k16_1_f, k16_1_k) := by kernel_rfl
end Rk
end Go.Proofs.YtkdcfijebgeajaaGreat
