/- -/
import Derived.Test.YtfnkmolffhfpoaaGreatHp45
set_option maxRecDepth 100000
namespace Go.Proofs.YtfnkmolffhfpoaaGreat.zd
theorem k3:(Tryz.f5.params.all (Tryz.checked.prog.readableRec ·))=true:=by kernel_rfl
theorem k4:(namedTie Tryz.checked.prog Rows.threadPlaysRow.named Rows.threadPlaysSpec.vars)=true:=by kernel_rfl
theorem k5:((Rows.threadPlaysRow.stops==[]))=true:=by kernel_rfl
theorem k6:((Tryz.checked.prog.stops==[]))=true:=by kernel_rfl
theorem k7:((Rows.threadPlaysRow.knobs==[]))=true:=by kernel_rfl
theorem k8:((Tryz.checked.prog.stopKnobs==[]))=true:=by kernel_rfl
theorem k9:((Rows.threadPlaysRow.inPlace==Tryz.checked.prog.inPlace 5))=true:=by kernel_rfl
theorem k10:((Rows.threadPlaysRow.unfollowed==Tryz.checked.prog.unfollowed 5))=true:=by kernel_rfl
theorem k11:((Rows.threadPlaysRow.recurses==Tryz.checked.prog.recurses 5))=true:=by kernel_rfl
theorem k12:((Rows.threadPlaysRow.named==Tryz.checked.prog.varsNamed 5))=true:=by kernel_rfl
theorem k13:((Rows.threadPlaysRow.maps==(Tryz.f5.params.toList++Rows.threadPlaysSpec.plain.varTypes Tryz.checked.prog).any (Tryz.checked.prog.mapsRec ·)))=true:=by kernel_rfl
theorem k14:((Rows.threadPlaysRow.ifaces==(Tryz.f5.params.toList++Rows.threadPlaysSpec.plain.varTypes Tryz.checked.prog).any (Tryz.checked.prog.ifacesRec ·)))=true:=by kernel_rfl
theorem k15:((Rows.threadPlaysRow.mapsOut==Tryz.checked.prog.mapsAmong Tryz.f5.resultTypes.toList))=true:=by kernel_rfl
theorem k16:((Rows.threadPlaysRow.loops==(Tryz.f5.params.toList++Rows.threadPlaysSpec.plain.varTypes Tryz.checked.prog).any (Tryz.checked.prog.loopsFrom ·)))=true:=by kernel_rfl
theorem k17:((Rows.threadPlaysRow.wideKeys==(Tryz.f5.params.toList++Rows.threadPlaysSpec.plain.varTypes Tryz.checked.prog++Tryz.f5.resultTypes.toList).any (Tryz.checked.prog.wideKeysFrom ·)))=true:=by kernel_rfl
theorem k18:(Rows.threadPlaysSpec.vars.all (Tryz.checked.prog.varReadable ·))=true:=by kernel_rfl
theorem k19:(Tryz.f5.resultTypes.all (fun t=>Tryz.checked.prog.readableRec t&&decide (t<Tryz.checked.prog.types.size)))=true:=by kernel_rfl
theorem k20:((Rows.threadPlaysRow.ifacesOut==Tryz.f5.resultTypes.toList.any (Tryz.checked.prog.ifacesRec ·)))=true:=by kernel_rfl
theorem k21:((Rows.threadPlaysRow.loopsOut==Tryz.f5.resultTypes.toList.any (Tryz.checked.prog.loopsFrom ·)))=true:=by kernel_rfl
theorem k22:((Rows.threadPlaysRow.plainKeys==Tryz.checked.prog.plainKeys))=true:=by kernel_rfl
theorem k23:(Rows.threadPlaysRow.shortTexts.isNone)=true:=by kernel_rfl
theorem k24:(Tryz.checked.prog.stopsHeard)=true:=by kernel_rfl
theorem k25:(Tryz.checked.prog.mayEnter)=true:=by kernel_rfl
theorem k26:((Rows.threadPlaysRow.lifted==Tryz.checked.prog.liftsFinal))=true:=by kernel_rfl
theorem k27:((Tryz.checked.prog.make==some Rows.threadPlaysRow.make))=true:=by kernel_rfl
theorem k28:((Rows.threadPlaysRow.kinds==(if Rows.threadPlaysRow.domain.isEmpty then[]else Tryz.f5.params.toList.map fun t=>match Tryz.checked.prog.underlying t with|some (.int k)=>some k|_=>none)))=true:=by kernel_rfl
theorem k29:((Rows.threadPlaysRow.pinned==Rows.threadPlaysRow.pinnedBy))=true:=by kernel_rfl
theorem k30:((Rows.threadPlaysRow.veiled==(Tryz.f5.params.toList++Rows.threadPlaysSpec.plain.varTypes Tryz.checked.prog++Tryz.f5.resultTypes.toList).any (Tryz.checked.prog.veiledRec ·)))=true:=by kernel_rfl
theorem k31:(Rows.threadPlaysRow.veiledFits Tryz.checked.prog Tryz.f5.params.toList (Tryz.f5.params.toList++Rows.threadPlaysSpec.plain.varTypes Tryz.checked.prog++Tryz.f5.resultTypes.toList))=true:=by kernel_rfl
theorem ue{a b:Bool}(ha:a=true)(hb:b=true):(a&&b)=true:=by rw [ha,hb];rfl
theorem closed:joinedFacts Tryz.checked.prog 5 Tryz.f5 Rows.threadPlaysSpec Rows.threadPlaysRow=true:=
 (ue (ue (ue (ue (ue (ue (ue (ue (ue (ue (ue (ue (ue (ue (ue (ue (ue (ue (ue (ue (ue (ue (ue (ue (ue (ue (ue (ue (ue (ue (ue k0 k1) k2) k3) k4) k5) k6) k7) k8) k9) k10) k11) k12) k13) k14) k15) k16) k17) k18) k19) k20) k21) k22) k23) k24) k25) k26) k27) k28) k29) k30) k31)
theorem named:Tryz.checked.prog.funcNamed Rows.threadPlaysRow.func=some 5:=by kernel_rfl
theorem inst:Tryz.f5.isInstance Tryz.checked.prog Rows.threadPlaysRow.origin Rows.threadPlaysRow.targs:=of_decide_eq_true (by kernel_rfl)
theorem wrap:Tryz.f5.isWrapper Tryz.checked.prog Rows.threadPlaysRow.wrapper Rows.threadPlaysRow.mainSum:=by
 unfold Func.isWrapper
 first|(rw [if_pos (by decide+kernel)];kernel_rfl)|(rw [if_neg (by decide+kernel)];exact ⟨rfl,rfl⟩)
end Go.Proofs.YtfnkmolffhfpoaaGreat.zd
