/- The closed facts of the row Rows.markViewsRow, one theorem each (together they outgrow the kernel's lid): 11 to 22. -/
import Derived.Test.YtibelcmdfkgonaaGreatKfB
namespace Go.Proofs.YtibelcmdfkgonaaGreat.markFacts
set_option maxRecDepth 100000
theorem k11 : ((Rows.markViewsRow.recurses == Tryz.checked.prog.recurses 3)) = true := by kernel_rfl
theorem k12 : ((Rows.markViewsRow.named == Tryz.checked.prog.varsNamed 3)) = true := by kernel_rfl
theorem k13 : ((Rows.markViewsRow.maps == (Tryz.f3.params.toList ++ Rows.markViewsSpec.plain.varTypes Tryz.checked.prog).any (Tryz.checked.prog.mapsRec ·))) = true := by kernel_rfl
theorem k14 : ((Rows.markViewsRow.ifaces == (Tryz.f3.params.toList ++ Rows.markViewsSpec.plain.varTypes Tryz.checked.prog).any (Tryz.checked.prog.ifacesRec ·))) = true := by kernel_rfl
theorem k15 : ((Rows.markViewsRow.mapsOut == Tryz.checked.prog.mapsAmong Tryz.f3.resultTypes.toList)) = true := by kernel_rfl
theorem k16 : ((Rows.markViewsRow.loops == (Tryz.f3.params.toList ++ Rows.markViewsSpec.plain.varTypes Tryz.checked.prog).any (Tryz.checked.prog.loopsFrom ·))) = true := by kernel_rfl
theorem k17 : ((Rows.markViewsRow.wideKeys == (Tryz.f3.params.toList ++ Rows.markViewsSpec.plain.varTypes Tryz.checked.prog ++ Tryz.f3.resultTypes.toList).any (Tryz.checked.prog.wideKeysFrom ·))) = true := by kernel_rfl
theorem k18 : (Rows.markViewsSpec.vars.all (Tryz.checked.prog.varReadable ·)) = true := by kernel_rfl
theorem k19 : (Tryz.f3.resultTypes.all (fun t => Tryz.checked.prog.readableRec t && decide (t < Tryz.checked.prog.types.size))) = true := by kernel_rfl
theorem k20 : ((Rows.markViewsRow.ifacesOut == Tryz.f3.resultTypes.toList.any (Tryz.checked.prog.ifacesRec ·))) = true := by kernel_rfl
theorem k21 : ((Rows.markViewsRow.loopsOut == Tryz.f3.resultTypes.toList.any (Tryz.checked.prog.loopsFrom ·))) = true := by kernel_rfl
theorem k22 : ((Rows.markViewsRow.plainKeys == Tryz.checked.prog.plainKeys)) = true := by kernel_rfl
end Go.Proofs.YtibelcmdfkgonaaGreat.markFacts
