/- The closed facts of the row Rows.markViewsRow, one theorem each (together they outgrow the kernel's lid): 3 to 10. -/
import Derived.Test.YtibelcmdfkgonaaGreatKfA
namespace Go.Proofs.YtibelcmdfkgonaaGreat.markFacts
set_option maxRecDepth 100000
theorem k3 : (Tryz.f3.params.all (Tryz.checked.prog.readableRec ·)) = true := by kernel_rfl
theorem k4 : (namedTie Tryz.checked.prog Rows.markViewsRow.named Rows.markViewsSpec.vars) = true := by kernel_rfl
theorem k5 : ((Rows.markViewsRow.stops == [])) = true := by kernel_rfl
theorem k6 : ((Tryz.checked.prog.stops == [])) = true := by kernel_rfl
theorem k7 : ((Rows.markViewsRow.knobs == [])) = true := by kernel_rfl
theorem k8 : ((Tryz.checked.prog.stopKnobs == [])) = true := by kernel_rfl
theorem k9 : ((Rows.markViewsRow.inPlace == Tryz.checked.prog.inPlace 3)) = true := by kernel_rfl
theorem k10 : ((Rows.markViewsRow.unfollowed == Tryz.checked.prog.unfollowed 3)) = true := by kernel_rfl
end Go.Proofs.YtibelcmdfkgonaaGreat.markFacts
