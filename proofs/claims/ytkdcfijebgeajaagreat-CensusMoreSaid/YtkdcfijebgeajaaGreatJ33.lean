/- The closed facts of the row Rows.censusMoreRow, one theorem each (together they outgrow the kernel's lid): 23 to 31. -/
import Derived.Test.YtkdcfijebgeajaaGreatJ32
namespace Go.Proofs.YtkdcfijebgeajaaGreat.censusMoreFacts
set_option maxRecDepth 100000
theorem k23 : (Rows.censusMoreRow.shortTexts.isNone) = true := by kernel_rfl
theorem k24 : (Tryz.checked.prog.stopsHeard) = true := by kernel_rfl
theorem k25 : (Tryz.checked.prog.mayEnter) = true := by kernel_rfl
theorem k26 : ((Rows.censusMoreRow.lifted == Tryz.checked.prog.liftsFinal)) = true := by kernel_rfl
theorem k27 : ((Tryz.checked.prog.make == some Rows.censusMoreRow.make)) = true := by kernel_rfl
theorem k28 : ((Rows.censusMoreRow.kinds == (if Rows.censusMoreRow.domain.isEmpty then [] else Tryz.f7.params.toList.map fun t => match Tryz.checked.prog.underlying t with | some (.int k) => some k | _ => none))) = true := by kernel_rfl
theorem k29 : ((Rows.censusMoreRow.pinned == Rows.censusMoreRow.pinnedBy)) = true := by kernel_rfl
theorem k30 : ((Rows.censusMoreRow.veiled == (Tryz.f7.params.toList ++ Rows.censusMoreSpec.plain.varTypes Tryz.checked.prog ++ Tryz.f7.resultTypes.toList).any (Tryz.checked.prog.veiledRec ·))) = true := by kernel_rfl
theorem k31 : (Rows.censusMoreRow.veiledFits Tryz.checked.prog Tryz.f7.params.toList (Tryz.f7.params.toList ++ Rows.censusMoreSpec.plain.varTypes Tryz.checked.prog ++ Tryz.f7.resultTypes.toList)) = true := by kernel_rfl
theorem bothT {a b : Bool} (ha : a = true) (hb : b = true) : (a && b) = true := by rw [ha, hb]; rfl
theorem closed : joinedFacts Tryz.checked.prog 7 Tryz.f7 Rows.censusMoreSpec Rows.censusMoreRow = true :=
  (bothT (bothT (bothT (bothT (bothT (bothT (bothT (bothT (bothT (bothT (bothT (bothT (bothT (bothT (bothT (bothT (bothT (bothT (bothT (bothT (bothT (bothT (bothT (bothT (bothT (bothT (bothT (bothT (bothT (bothT (bothT k0 k1) k2) k3) k4) k5) k6) k7) k8) k9) k10) k11) k12) k13) k14) k15) k16) k17) k18) k19) k20) k21) k22) k23) k24) k25) k26) k27) k28) k29) k30) k31)
theorem named : Tryz.checked.prog.funcNamed Rows.censusMoreRow.func = some 7 := by kernel_rfl
theorem inst : Tryz.f7.isInstance Tryz.checked.prog Rows.censusMoreRow.origin Rows.censusMoreRow.targs := of_decide_eq_true (by kernel_rfl)
theorem wrap : Tryz.f7.isWrapper Tryz.checked.prog Rows.censusMoreRow.wrapper Rows.censusMoreRow.mainSum := by
  unfold Func.isWrapper
  first | (rw [if_pos (by decide +kernel)]; kernel_rfl) | (rw [if_neg (by decide +kernel)]; exact ⟨rfl, rfl⟩)
end Go.Proofs.YtkdcfijebgeajaaGreat.censusMoreFacts
