/- The closed facts of the row Rows.censusMoreRow, one theorem each (together they outgrow the kernel's lid): 3 to 10. -/
import Derived.Test.YtkdcfijebgeajaaGreatJ30
namespace Go.Proofs.YtkdcfijebgeajaaGreat.censusMoreFacts
set_option maxRecDepth 100000
theorem k3 : (Tryz.f7.params.all (Tryz.checked.prog.readableRec ·)) = true := by kernel_rfl
theorem k4 : (namedTie Tryz.checked.prog Rows.censusMoreRow.named Rows.censusMoreSpec.vars) = true := by kernel_rfl
theorem k5 : ((Rows.censusMoreRow.stops == [])) = true := by kernel_rfl
theorem k6 : ((Tryz.checked.prog.stops == [])) = true := by kernel_rfl
theorem k7 : ((Rows.censusMoreRow.knobs == [])) = true := by kernel_rfl
theorem k8 : ((Tryz.checked.prog.stopKnobs == [])) = true := by kernel_rfl
theorem k9 : ((Rows.censusMoreRow.inPlace == Tryz.checked.prog.inPlace 7)) = true := by kernel_rfl
theorem k10 : ((Rows.censusMoreRow.unfollowed == Tryz.checked.prog.unfollowed 7)) = true := by kernel_rfl
end Go.Proofs.YtkdcfijebgeajaaGreat.censusMoreFacts
