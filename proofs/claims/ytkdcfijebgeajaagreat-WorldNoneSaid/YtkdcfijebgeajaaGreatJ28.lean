/- The closed facts of the row Rows.worldNoneRow, one theorem each (together they outgrow the kernel's lid): 3 to 10. -/
import Derived.Test.YtkdcfijebgeajaaGreatJ27
namespace Go.Proofs.YtkdcfijebgeajaaGreat.worldNoneFacts
set_option maxRecDepth 100000
theorem k3 : (Tryz.f4.params.all (Tryz.checked.prog.readableRec ·)) = true := by kernel_rfl
theorem k4 : (namedTie Tryz.checked.prog Rows.worldNoneRow.named Rows.worldNoneSpec.vars) = true := by kernel_rfl
theorem k5 : ((Rows.worldNoneRow.stops == [])) = true := by kernel_rfl
theorem k6 : ((Tryz.checked.prog.stops == [])) = true := by kernel_rfl
theorem k7 : ((Rows.worldNoneRow.knobs == [])) = true := by kernel_rfl
theorem k8 : ((Tryz.checked.prog.stopKnobs == [])) = true := by kernel_rfl
theorem k9 : ((Rows.worldNoneRow.inPlace == Tryz.checked.prog.inPlace 4)) = true := by kernel_rfl
theorem k10 : ((Rows.worldNoneRow.unfollowed == Tryz.checked.prog.unfollowed 4)) = true := by kernel_rfl
end Go.Proofs.YtkdcfijebgeajaaGreat.worldNoneFacts
