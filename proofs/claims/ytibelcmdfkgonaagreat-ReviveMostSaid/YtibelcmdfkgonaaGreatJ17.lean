/- A run reckoned: the page's example of layer 22, by the tables. -/
import Derived.Test.YtibelcmdfkgonaaGreatJ15
namespace Go.Proofs.YtibelcmdfkgonaaGreat
namespace Rk
set_option maxRecDepth 1000000
theorem said22 : boolOf (run env 100000 (.call 22 [] ⟨0, .nil⟩)) = true := by kernel_rfl
end Rk
end Go.Proofs.YtibelcmdfkgonaaGreat
