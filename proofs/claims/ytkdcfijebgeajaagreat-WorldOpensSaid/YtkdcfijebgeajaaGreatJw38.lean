/- The closed facts of the row Rows.worldOpensRow, one theorem each (together they outgrow the kernel's lid): 3 to 10. -/
import Derived.Test.YtkdcfijebgeajaaGreatJw37
namespace Go.Proofs.YtkdcfijebgeajaaGreat.worldOpensFacts
set_option maxRecDepth 100000
theorem k3 : (Tryz.f5.params.all (Tryz.checked.prog.readableRec ·)) = true := by kernel_rfl
theorem k4 : (namedTie Tryz.checked.prog Rows.worldOpensRow.named Rows.worldOpensSpec.vars) = true := by kernel_rfl
theorem k5 : ((Rows.worldOpensRow.stops == [])) = true := by kernel_rfl
theorem k6 : ((Tryz.checked.prog.stops == [])) = true := by kernel_rfl
theorem k7 : ((Rows.worldOpensRow.knobs == [])) = true := by kernel_rfl
theorem k8 : ((Tryz.checked.prog.stopKnobs == [])) = true := by kernel_rfl
theorem k9 : ((Rows.worldOpensRow.inPlace == Tryz.checked.prog.inPlace 5)) = true := by kernel_rfl
theorem k10 : ((Rows.worldOpensRow.unfollowed == Tryz.checked.prog.unfollowed 5)) = true := by kernel_rfl
end Go.Proofs.YtkdcfijebgeajaaGreat.worldOpensFacts
