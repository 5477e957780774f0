/- The closed facts of the row Rows.boundNumbersRow, one theorem each (together they outgrow the kernel's lid): 11 to 22. -/
import Derived.Test.YtkdcfijebgeajaaGreatJ29
namespace Go.Proofs.YtkdcfijebgeajaaGreat.boundNumbersFacts
set_option maxRecDepth 100000
theorem k11 : ((Rows.boundNumbersRow.recurses == Tryz.checked.prog.recurses 6)) = true := by kernel_rfl
theorem k12 : ((Rows.boundNumbersRow.named == Tryz.checked.prog.varsNamed 6)) = true := by kernel_rfl
theorem k13 : ((Rows.boundNumbersRow.maps == (Tryz.f6.params.toList ++ Rows.boundNumbersSpec.plain.varTypes Tryz.checked.prog).any (Tryz.checked.prog.mapsRec ·))) = true := by kernel_rfl
theorem k14 : ((Rows.boundNumbersRow.ifaces == (Tryz.f6.params.toList ++ Rows.boundNumbersSpec.plain.varTypes Tryz.checked.prog).any (Tryz.checked.prog.ifacesRec ·))) = true := by kernel_rfl
theorem k15 : ((Rows.boundNumbersRow.mapsOut == Tryz.checked.prog.mapsAmong Tryz.f6.resultTypes.toList)) = true := by kernel_rfl
theorem k16 : ((Rows.boundNumbersRow.loops == (Tryz.f6.params.toList ++ Rows.boundNumbersSpec.plain.varTypes Tryz.checked.prog).any (Tryz.checked.prog.loopsFrom ·))) = true := by kernel_rfl
theorem k17 : ((Rows.boundNumbersRow.wideKeys == (Tryz.f6.params.toList ++ Rows.boundNumbersSpec.plain.varTypes Tryz.checked.prog ++ Tryz.f6.resultTypes.toList).any (Tryz.checked.prog.wideKeysFrom ·))) = true := by kernel_rfl
theorem k18 : (Rows.boundNumbersSpec.vars.all (Tryz.checked.prog.varReadable ·)) = true := by kernel_rfl
theorem k19 : (Tryz.f6.resultTypes.all (fun t => Tryz.checked.prog.readableRec t && decide (t < Tryz.checked.prog.types.size))) = true := by kernel_rfl
theorem k20 : ((Rows.boundNumbersRow.ifacesOut == Tryz.f6.resultTypes.toList.any (Tryz.checked.prog.ifacesRec ·))) = true := by kernel_rfl
theorem k21 : ((Rows.boundNumbersRow.loopsOut == Tryz.f6.resultTypes.toList.any (Tryz.checked.prog.loopsFrom ·))) = true := by kernel_rfl
theorem k22 : ((Rows.boundNumbersRow.plainKeys == Tryz.checked.prog.plainKeys)) = true := by kernel_rfl
end Go.Proofs.YtkdcfijebgeajaaGreat.boundNumbersFacts
