/- The closed facts of the row Rows.boundNumbersRow, one theorem each (together they outgrow the kernel's lid): 3 to 10. -/
import Derived.Test.YtkdcfijebgeajaaGreatJ28
namespace Go.Proofs.YtkdcfijebgeajaaGreat.boundNumbersFacts
set_option maxRecDepth 100000
theorem k3 : (Tryz.f6.params.all (Tryz.checked.prog.readableRec ·)) = true := by kernel_rfl
theorem k4 : (namedTie Tryz.checked.prog Rows.boundNumbersRow.named Rows.boundNumbersSpec.vars) = true := by kernel_rfl
theorem k5 : ((Rows.boundNumbersRow.stops == [])) = true := by kernel_rfl
theorem k6 : ((Tryz.checked.prog.stops == [])) = true := by kernel_rfl
theorem k7 : ((Rows.boundNumbersRow.knobs == [])) = true := by kernel_rfl
theorem k8 : ((Tryz.checked.prog.stopKnobs == [])) = true := by kernel_rfl
theorem k9 : ((Rows.boundNumbersRow.inPlace == Tryz.checked.prog.inPlace 6)) = true := by kernel_rfl
theorem k10 : ((Rows.boundNumbersRow.unfollowed == Tryz.checked.prog.unfollowed 6)) = true := by kernel_rfl
end Go.Proofs.YtkdcfijebgeajaaGreat.boundNumbersFacts
