/- The closed facts of the row Rows.viewCountsRow, one theorem each (together they outgrow the kernel's lid): 3 to 10. -/
import Derived.Test.YtkdcfijebgeajaaGreatJ36
namespace Go.Proofs.YtkdcfijebgeajaaGreat.viewCountsFacts
set_option maxRecDepth 100000
theorem k3 : (Tryz.f3.params.all (Tryz.checked.prog.readableRec ·)) = true := by kernel_rfl
theorem k4 : (namedTie Tryz.checked.prog Rows.viewCountsRow.named Rows.viewCountsSpec.vars) = true := by kernel_rfl
theorem k5 : ((Rows.viewCountsRow.stops == [])) = true := by kernel_rfl
theorem k6 : ((Tryz.checked.prog.stops == [])) = true := by kernel_rfl
theorem k7 : ((Rows.viewCountsRow.knobs == [])) = true := by kernel_rfl
theorem k8 : ((Tryz.checked.prog.stopKnobs == [])) = true := by kernel_rfl
theorem k9 : ((Rows.viewCountsRow.inPlace == Tryz.checked.prog.inPlace 3)) = true := by kernel_rfl
theorem k10 : ((Rows.viewCountsRow.unfollowed == Tryz.checked.prog.unfollowed 3)) = true := by kernel_rfl
end Go.Proofs.YtkdcfijebgeajaaGreat.viewCountsFacts
