/- The closed facts of the row Rows.worldOpensRow, one theorem each (together they outgrow the kernel's lid): 0 to 2. -/
import Derived.Test.YtkdcfijebgeajaaGreatRows
import Derived.WalkKit
import Derived.ProofKit
import Derived.OpenShut
namespace Go.Proofs.YtkdcfijebgeajaaGreat.worldOpensFacts
set_option maxRecDepth 100000
theorem k0 : (Rows.worldOpensRow.wf (OpenSpec.ofChange Rows.worldOpensSpec)) = true := by kernel_rfl
theorem k1 : (laidOutB Tryz.checked.prog) = true := by kernel_rfl
theorem k2 : (mapsRowed Tryz.checked.prog) = true := by kernel_rfl
end Go.Proofs.YtkdcfijebgeajaaGreat.worldOpensFacts
