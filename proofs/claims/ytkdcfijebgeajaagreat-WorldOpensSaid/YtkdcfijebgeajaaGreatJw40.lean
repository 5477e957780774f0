/- The closed facts of the row Rows.worldOpensRow, one theorem each (together they outgrow the kernel's lid): 23 to 31. -/
import Derived.Test.YtkdcfijebgeajaaGreatJw39
namespace Go.Proofs.YtkdcfijebgeajaaGreat.worldOpensFacts
set_option maxRecDepth 100000
theorem k23 : (Rows.worldOpensRow.shortTexts.isNone) = true := by kernel_rfl
theorem k24 : (Tryz.checked.prog.stopsHeard) = true := by kernel_rfl
theorem k25 : (Tryz.checked.prog.mayEnter) = true := by kernel_rfl
theorem k26 : ((Rows.worldOpensRow.lifted == Tryz.checked.prog.liftsFinal)) = true := by kernel_rfl
theorem k27 : ((Tryz.checked.prog.make == some Rows.worldOpensRow.make)) = true := by kernel_rfl
theorem k28 : ((Rows.worldOpensRow.kinds == (if Rows.worldOpensRow.domain.isEmpty then [] else Tryz.f5.params.toList.map fun t => match Tryz.checked.prog.underlying t with | some (.int k) => some k | _ => none))) = true := by kernel_rfl
theorem k29 : ((Rows.worldOpensRow.pinned == Rows.worldOpensRow.pinnedBy)) = true := by kernel_rfl
theorem k30 : ((Rows.worldOpensRow.veiled == (Tryz.f5.params.toList ++ Rows.worldOpensSpec.plain.varTypes Tryz.checked.prog ++ Tryz.f5.resultTypes.toList).any (Tryz.checked.prog.veiledRec ·))) = true := by kernel_rfl
theorem k31 : (Rows.worldOpensRow.veiledFits Tryz.checked.prog Tryz.f5.params.toList (Tryz.f5.params.toList ++ Rows.worldOpensSpec.plain.varTypes Tryz.checked.prog ++ Tryz.f5.resultTypes.toList)) = true := by kernel_rfl
theorem bothT {a b : Bool} (ha : a = true) (hb : b = true) : (a && b) = true := by rw [ha, hb]; rfl
theorem closed : joinedFacts Tryz.checked.prog 5 Tryz.f5 Rows.worldOpensSpec Rows.worldOpensRow = true :=
  (bothT (bothT (bothT (bothT (bothT (bothT (bothT (bothT (bothT (bothT (bothT (bothT (bothT (bothT (bothT (bothT (bothT (bothT (bothT (bothT (bothT (bothT (bothT (bothT (bothT (bothT (bothT (bothT (bothT (bothT (bothT k0 k1) k2) k3) k4) k5) k6) k7) k8) k9) k10) k11) k12) k13) k14) k15) k16) k17) k18) k19) k20) k21) k22) k23) k24) k25) k26) k27) k28) k29) k30) k31)
theorem named : Tryz.checked.prog.funcNamed Rows.worldOpensRow.func = some 5 := by kernel_rfl
theorem inst : Tryz.f5.isInstance Tryz.checked.prog Rows.worldOpensRow.origin Rows.worldOpensRow.targs := of_decide_eq_true (by kernel_rfl)
theorem wrap : Tryz.f5.isWrapper Tryz.checked.prog Rows.worldOpensRow.wrapper Rows.worldOpensRow.mainSum := by
  unfold Func.isWrapper
  first | (rw [if_pos (by decide +kernel)]; kernel_rfl) | (rw [if_neg (by decide +kernel)]; exact ⟨rfl, rfl⟩)
end Go.Proofs.YtkdcfijebgeajaaGreat.worldOpensFacts
