/- The closed facts of the row Rows.viewCountsRow, one theorem each (together they outgrow the kernel's lid): 11 to 22. -/
import Derived.Test.YtkdcfijebgeajaaGreatJ37
namespace Go.Proofs.YtkdcfijebgeajaaGreat.viewCountsFacts
set_option maxRecDepth 100000
theorem k11 : ((Rows.viewCountsRow.recurses == Tryz.checked.prog.recurses 3)) = true := by kernel_rfl
theorem k12 : ((Rows.viewCountsRow.named == Tryz.checked.prog.varsNamed 3)) = true := by kernel_rfl
theorem k13 : ((Rows.viewCountsRow.maps == (Tryz.f3.params.toList ++ Rows.viewCountsSpec.plain.varTypes Tryz.checked.prog).any (Tryz.checked.prog.mapsRec ·))) = true := by kernel_rfl
theorem k14 : ((Rows.viewCountsRow.ifaces == (Tryz.f3.params.toList ++ Rows.viewCountsSpec.plain.varTypes Tryz.checked.prog).any (Tryz.checked.prog.ifacesRec ·))) = true := by kernel_rfl
theorem k15 : ((Rows.viewCountsRow.mapsOut == Tryz.checked.prog.mapsAmong Tryz.f3.resultTypes.toList)) = true := by kernel_rfl
theorem k16 : ((Rows.viewCountsRow.loops == (Tryz.f3.params.toList ++ Rows.viewCountsSpec.plain.varTypes Tryz.checked.prog).any (Tryz.checked.prog.loopsFrom ·))) = true := by kernel_rfl
theorem k17 : ((Rows.viewCountsRow.wideKeys == (Tryz.f3.params.toList ++ Rows.viewCountsSpec.plain.varTypes Tryz.checked.prog ++ Tryz.f3.resultTypes.toList).any (Tryz.checked.prog.wideKeysFrom ·))) = true := by kernel_rfl
theorem k18 : (Rows.viewCountsSpec.vars.all (Tryz.checked.prog.varReadable ·)) = true := by kernel_rfl
theorem k19 : (Tryz.f3.resultTypes.all (fun t => Tryz.checked.prog.readableRec t && decide (t < Tryz.checked.prog.types.size))) = true := by kernel_rfl
theorem k20 : ((Rows.viewCountsRow.ifacesOut == Tryz.f3.resultTypes.toList.any (Tryz.checked.prog.ifacesRec ·))) = true := by kernel_rfl
theorem k21 : ((Rows.viewCountsRow.loopsOut == Tryz.f3.resultTypes.toList.any (Tryz.checked.prog.loopsFrom ·))) = true := by kernel_rfl
theorem k22 : ((Rows.viewCountsRow.plainKeys == Tryz.checked.prog.plainKeys)) = true := by kernel_rfl
end Go.Proofs.YtkdcfijebgeajaaGreat.viewCountsFacts
