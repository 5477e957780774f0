/- The closed facts of the row Rows.censusMoreRow, one theorem each (together they outgrow the kernel's lid): 11 to 22. -/
import Derived.Test.YtkdcfijebgeajaaGreatJ31
namespace Go.Proofs.YtkdcfijebgeajaaGreat.censusMoreFacts
set_option maxRecDepth 100000
theorem k11 : ((Rows.censusMoreRow.recurses == Tryz.checked.prog.recurses 7)) = true := by kernel_rfl
theorem k12 : ((Rows.censusMoreRow.named == Tryz.checked.prog.varsNamed 7)) = true := by kernel_rfl
theorem k13 : ((Rows.censusMoreRow.maps == (Tryz.f7.params.toList ++ Rows.censusMoreSpec.plain.varTypes Tryz.checked.prog).any (Tryz.checked.prog.mapsRec ·))) = true := by kernel_rfl
theorem k14 : ((Rows.censusMoreRow.ifaces == (Tryz.f7.params.toList ++ Rows.censusMoreSpec.plain.varTypes Tryz.checked.prog).any (Tryz.checked.prog.ifacesRec ·))) = true := by kernel_rfl
theorem k15 : ((Rows.censusMoreRow.mapsOut == Tryz.checked.prog.mapsAmong Tryz.f7.resultTypes.toList)) = true := by kernel_rfl
theorem k16 : ((Rows.censusMoreRow.loops == (Tryz.f7.params.toList ++ Rows.censusMoreSpec.plain.varTypes Tryz.checked.prog).any (Tryz.checked.prog.loopsFrom ·))) = true := by kernel_rfl
theorem k17 : ((Rows.censusMoreRow.wideKeys == (Tryz.f7.params.toList ++ Rows.censusMoreSpec.plain.varTypes Tryz.checked.prog ++ Tryz.f7.resultTypes.toList).any (Tryz.checked.prog.wideKeysFrom ·))) = true := by kernel_rfl
theorem k18 : (Rows.censusMoreSpec.vars.all (Tryz.checked.prog.varReadable ·)) = true := by kernel_rfl
theorem k19 : (Tryz.f7.resultTypes.all (fun t => Tryz.checked.prog.readableRec t && decide (t < Tryz.checked.prog.types.size))) = true := by kernel_rfl
theorem k20 : ((Rows.censusMoreRow.ifacesOut == Tryz.f7.resultTypes.toList.any (Tryz.checked.prog.ifacesRec ·))) = true := by kernel_rfl
theorem k21 : ((Rows.censusMoreRow.loopsOut == Tryz.f7.resultTypes.toList.any (Tryz.checked.prog.loopsFrom ·))) = true := by kernel_rfl
theorem k22 : ((Rows.censusMoreRow.plainKeys == Tryz.checked.prog.plainKeys)) = true := by kernel_rfl
end Go.Proofs.YtkdcfijebgeajaaGreat.censusMoreFacts
