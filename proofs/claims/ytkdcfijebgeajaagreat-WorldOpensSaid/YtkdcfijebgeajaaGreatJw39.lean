/- The closed facts of the row Rows.worldOpensRow, one theorem each (together they outgrow the kernel's lid): 11 to 22. -/
import Derived.Test.YtkdcfijebgeajaaGreatJw38
namespace Go.Proofs.YtkdcfijebgeajaaGreat.worldOpensFacts
set_option maxRecDepth 100000
theorem k11 : ((Rows.worldOpensRow.recurses == Tryz.checked.prog.recurses 5)) = true := by kernel_rfl
theorem k12 : ((Rows.worldOpensRow.named == Tryz.checked.prog.varsNamed 5)) = true := by kernel_rfl
theorem k13 : ((Rows.worldOpensRow.maps == (Tryz.f5.params.toList ++ Rows.worldOpensSpec.plain.varTypes Tryz.checked.prog).any (Tryz.checked.prog.mapsRec ·))) = true := by kernel_rfl
theorem k14 : ((Rows.worldOpensRow.ifaces == (Tryz.f5.params.toList ++ Rows.worldOpensSpec.plain.varTypes Tryz.checked.prog).any (Tryz.checked.prog.ifacesRec ·))) = true := by kernel_rfl
theorem k15 : ((Rows.worldOpensRow.mapsOut == Tryz.checked.prog.mapsAmong Tryz.f5.resultTypes.toList)) = true := by kernel_rfl
theorem k16 : ((Rows.worldOpensRow.loops == (Tryz.f5.params.toList ++ Rows.worldOpensSpec.plain.varTypes Tryz.checked.prog).any (Tryz.checked.prog.loopsFrom ·))) = true := by kernel_rfl
theorem k17 : ((Rows.worldOpensRow.wideKeys == (Tryz.f5.params.toList ++ Rows.worldOpensSpec.plain.varTypes Tryz.checked.prog ++ Tryz.f5.resultTypes.toList).any (Tryz.checked.prog.wideKeysFrom ·))) = true := by kernel_rfl
theorem k18 : (Rows.worldOpensSpec.vars.all (Tryz.checked.prog.varReadable ·)) = true := by kernel_rfl
theorem k19 : (Tryz.f5.resultTypes.all (fun t => Tryz.checked.prog.readableRec t && decide (t < Tryz.checked.prog.types.size))) = true := by kernel_rfl
theorem k20 : ((Rows.worldOpensRow.ifacesOut == Tryz.f5.resultTypes.toList.any (Tryz.checked.prog.ifacesRec ·))) = true := by kernel_rfl
theorem k21 : ((Rows.worldOpensRow.loopsOut == Tryz.f5.resultTypes.toList.any (Tryz.checked.prog.loopsFrom ·))) = true := by kernel_rfl
theorem k22 : ((Rows.worldOpensRow.plainKeys == Tryz.checked.prog.plainKeys)) = true := by kernel_rfl
end Go.Proofs.YtkdcfijebgeajaaGreat.worldOpensFacts
