/- The closed facts of the row Rows.reviveMostRow, one theorem each (together they outgrow the kernel's lid): 11 to 22. -/
import Derived.Test.YtibelcmdfkgonaaGreatJ2
namespace Go.Proofs.YtibelcmdfkgonaaGreat.mostFacts
set_option maxRecDepth 100000
theorem k11 : ((Rows.reviveMostRow.recurses == Tryz.checked.prog.recurses 4)) = true := by kernel_rfl
theorem k12 : ((Rows.reviveMostRow.named == Tryz.checked.prog.varsNamed 4)) = true := by kernel_rfl
theorem k13 : ((Rows.reviveMostRow.maps == (Tryz.f4.params.toList ++ Rows.reviveMostSpec.plain.varTypes Tryz.checked.prog).any (Tryz.checked.prog.mapsRec ·))) = true := by kernel_rfl
theorem k14 : ((Rows.reviveMostRow.ifaces == (Tryz.f4.params.toList ++ Rows.reviveMostSpec.plain.varTypes Tryz.checked.prog).any (Tryz.checked.prog.ifacesRec ·))) = true := by kernel_rfl
theorem k15 : ((Rows.reviveMostRow.mapsOut == Tryz.checked.prog.mapsAmong Tryz.f4.resultTypes.toList)) = true := by kernel_rfl
theorem k16 : ((Rows.reviveMostRow.loops == (Tryz.f4.params.toList ++ Rows.reviveMostSpec.plain.varTypes Tryz.checked.prog).any (Tryz.checked.prog.loopsFrom ·))) = true := by kernel_rfl
theorem k17 : ((Rows.reviveMostRow.wideKeys == (Tryz.f4.params.toList ++ Rows.reviveMostSpec.plain.varTypes Tryz.checked.prog ++ Tryz.f4.resultTypes.toList).any (Tryz.checked.prog.wideKeysFrom ·))) = true := by kernel_rfl
theorem k18 : (Rows.reviveMostSpec.vars.all (Tryz.checked.prog.varReadable ·)) = true := by kernel_rfl
theorem k19 : (Tryz.f4.resultTypes.all (fun t => Tryz.checked.prog.readableRec t && decide (t < Tryz.checked.prog.types.size))) = true := by kernel_rfl
theorem k20 : ((Rows.reviveMostRow.ifacesOut == Tryz.f4.resultTypes.toList.any (Tryz.checked.prog.ifacesRec ·))) = true := by kernel_rfl
theorem k21 : ((Rows.reviveMostRow.loopsOut == Tryz.f4.resultTypes.toList.any (Tryz.checked.prog.loopsFrom ·))) = true := by kernel_rfl
theorem k22 : ((Rows.reviveMostRow.plainKeys == Tryz.checked.prog.plainKeys)) = true := by kernel_rfl
end Go.Proofs.YtibelcmdfkgonaaGreat.mostFacts
