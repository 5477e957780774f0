/- The closed facts of the row Rows.reviveMostRow, one theorem each (together they outgrow the kernel's lid): 3 to 10. -/
import Derived.Test.YtibelcmdfkgonaaGreatJ1
namespace Go.Proofs.YtibelcmdfkgonaaGreat.mostFacts
set_option maxRecDepth 100000
theorem k3 : (Tryz.f4.params.all (Tryz.checked.prog.readableRec ·)) = true := by kernel_rfl
theorem k4 : (namedTie Tryz.checked.prog Rows.reviveMostRow.named Rows.reviveMostSpec.vars) = true := by kernel_rfl
theorem k5 : ((Rows.reviveMostRow.stops == [])) = true := by kernel_rfl
theorem k6 : ((Tryz.checked.prog.stops == [])) = true := by kernel_rfl
theorem k7 : ((Rows.reviveMostRow.knobs == [])) = true := by kernel_rfl
theorem k8 : ((Tryz.checked.prog.stopKnobs == [])) = true := by kernel_rfl
theorem k9 : ((Rows.reviveMostRow.inPlace == Tryz.checked.prog.inPlace 4)) = true := by kernel_rfl
theorem k10 : ((Rows.reviveMostRow.unfollowed == Tryz.checked.prog.unfollowed 4)) = true := by kernel_rfl
end Go.Proofs.YtibelcmdfkgonaaGreat.mostFacts
