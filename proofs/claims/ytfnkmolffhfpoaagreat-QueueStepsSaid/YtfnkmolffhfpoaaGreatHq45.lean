/- -/
import Derived.Test.YtfnkmolffhfpoaaGreatHq43
import Derived.Test.YtfnkmolffhfpoaaGreatHq44
import Derived.Lib.SmallJoins
import Derived.Test.YtfnkmolffhfpoaaGreatHq37
import Derived.Test.YtfnkmolffhfpoaaGreatRows
import Derived.WalkKit
import Derived.ProofKit
import Derived.OpenShut
set_option linter.unusedVariables false
set_option linter.unusedSimpArgs false
set_option maxRecDepth 100000
namespace Go.Proofs.YtfnkmolffhfpoaaGreat
open Go.RowKit Go.BigFrame Go.ChangeShapes Go.WideShapes Go.Deep
theorem eJ:Sk.Sx Tryz.prog 7:=Sk.eJ
theorem GL:Tryz.prog.cellsOf 47=6:=by kernel_rfl
theorem wG:Kd Tryz.prog 4 47 0=some none:=by kernel_rfl
theorem WT:Kd Tryz.prog 4 47 1=some (some .i64):=by kernel_rfl
theorem XT:Kd Tryz.prog 4 47 2=some (some .i64):=by kernel_rfl
theorem YT:Kd Tryz.prog 4 47 3=some (some .i64):=by kernel_rfl
theorem ZT:Kd Tryz.prog 4 47 4=some (some .u64):=by kernel_rfl
theorem aU:Kd Tryz.prog 4 47 5=some (some .u64):=by kernel_rfl
theorem kz{H:Type}{enc:TypeId×Value->H}{w:World}{base:Nat}{spare:Nat->Bool}{held:Bool}{fuel:Nat}{a:Option Addr}{len cap:Nat}{x:DataW H×List MemPlace}
  (h:DataW.trod enc Tryz.prog w base spare held fuel 32 (Value.cells (.slice a len cap)).toList=some x):∃f,Sk.kj w a len f:=by
 obtain ⟨h1,h2,h3⟩:=Xk (P:=Tryz.prog) Tryz.underlying32 (by rw [GL];decide) ⟨4,_,wG⟩ h a len cap (by simp [Value.cells]);unfold maxLen at h2;rcases h3 with rfl|⟨b,off,rfl,hb,hc⟩
 . exact ⟨fun _=>⟨false,0,0,0,0,0⟩,fun i hi=>by omega⟩
 . rw [GL]at hc;have each:∀i,∃c:Sk.LA,i<len->w.cell? ⟨b,off+i*6,none⟩=some (.bool c.st)/\w.cell? ⟨b,off+i*6+1,none⟩=some (.int .i64 c.ki)/\w.cell? ⟨b,off+i*6+2,none⟩=some (.int .i64 c.th)/\w.cell? ⟨b,off+i*6+3,none⟩=some (.int .i64 c.pl)/\w.cell? ⟨b,off+i*6+4,none⟩=some (.int .u64 c.ol)/\w.cell? ⟨b,off+i*6+5,none⟩=some (.int .u64 c.ne)/\(-9223372036854775808<=c.pl/\c.pl<=9223372036854775807)/\Tc c.ne:=by
    intro i;by_cases hi:i<len
    . obtain ⟨_,c0,n0,rfl⟩:=hc i hi 4 0 _ (by decide) wG;obtain ⟨_,c1,n1,rfl,f1⟩:=hc i hi 4 1 _ (by decide) WT;obtain ⟨_,c2,n2,rfl,f2⟩:=hc i hi 4 2 _ (by decide) XT;obtain ⟨_,c3,n3,rfl,f3⟩:=hc i hi 4 3 _ (by decide) YT;obtain ⟨_,c4,n4,rfl,f4⟩:=hc i hi 4 4 _ (by decide) ZT;obtain ⟨_,c5,n5,rfl,f5⟩:=hc i hi 4 5 _ (by decide) aU;refine ⟨⟨n0,n1,n2,n3,n4,n5⟩,fun _=>⟨c0,c1,c2,c3,c4,c5, ?_⟩⟩;simp [Lit.wf,IntKind.min,IntKind.max,IntKind.signed,IntKind.bits]at f3 f5;unfold Tc;simp only;omega
    . exact ⟨⟨false,0,0,0,0,0⟩,fun h=>absurd h hi⟩
   exact ⟨fun i=>Classical.choose (each i),fun i hi=>⟨b,off,rfl,hb,Classical.choose_spec (each i) hi⟩⟩
theorem bU:Kd Tryz.prog 4 31 0=some (some .i64):=by kernel_rfl
theorem cU:Kd Tryz.prog 4 31 1=some (some .i64):=by kernel_rfl
theorem dU:Kd Tryz.prog 4 31 2=some (some .u32):=by kernel_rfl
theorem eU:Kd Tryz.prog 4 31 3=some (some .u32):=by kernel_rfl
set_option maxRecDepth 100000 in
theorem fU{H:Type}{enc:TypeId×Value->H}{w:World}{r:Reach}{b0 base:Nat}{spare:Nat->Bool}{held:Bool}{v:Value}{d:DataW H}{p:List MemPlace}
  (hv:Value.okWide Tryz.prog w r b0 31 v)(h:DataW.Trod enc Tryz.prog w base spare held 31 v d p):∃(t k x y:Int),v= .agg #[.int .i64 t, .int .i64 k, .int .u32 x, .int .u32 y]/\(-9223372036854775808<=t/\t<=9223372036854775807)/\(-9223372036854775808<=k/\k<=9223372036854775807)/\(0<=x/\x<=4294967295)/\(0<=y/\y<=4294967295):=by
 obtain ⟨cs,rfl,Vh⟩:=okWide_struct Tryz.underlying31 hv;obtain ⟨fuel,hf⟩:=h;have hc:Tryz.prog.cellsOf 31=4:=by kernel_rfl
 rw [hc]at Vh;obtain ⟨_,g0,n0,rfl,f0⟩:=Ie 4 31 0 _ fuel _ _ hf bU;obtain ⟨_,g1,n1,rfl,f1⟩:=Ie 4 31 1 _ fuel _ _ hf cU;obtain ⟨_,g2,n2,rfl,f2⟩:=Ie 4 31 2 _ fuel _ _ hf dU;obtain ⟨_,g3,n3,rfl,f3⟩:=Ie 4 31 3 _ fuel _ _ hf eU;simp [Lit.wf,IntKind.min,IntKind.max,IntKind.signed,IntKind.bits]at f0 f1 f2 f3;simp only [Value.cells]at g0 g1 g2 g3;obtain ⟨l⟩:=cs
 match l,Vh with
 |[c0,c1,c2,c3],_=>
  simp at g0 g1 g2 g3;subst g0 g1 g2 g3;exact ⟨n0,n1,n2,n3,rfl,by omega,by omega,by omega,by omega⟩
theorem gU{th sl Xa bu:Int}{a:Option Addr}{len cap:Nat}{at_ wv:Nat->Int}{t k x y:Int}{a2:Option Addr}{n2 zr:Nat}{f:Nat->Sk.LA}{W:World}(hl:len<=cap)(hc:cap<=maxLen)(hP:vk W a len at_ wv)(ht:-9223372036854775808<=t/\t<=9223372036854775807)(hk:-9223372036854775808<=k/\k<=9223372036854775807)(hx:0<=x/\x<=4294967295)(hy:0<=y/\y<=4294967295)(hK:Sk.kj W a2 n2 f):
  Calls Tryz.prog 3 #[.agg #[.int .i64 th, .int .i64 sl, .int .i64 Xa, .int .i64 bu, .slice a len cap], .agg #[.int .i64 t, .int .i64 k, .int .u32 x, .int .u32 y], .slice a2 n2 zr] W fun e w'=>e= .returned (.bool true)/\Below W.heap.size W w':=
 Sk.CaC (Lib.hid eJ) th sl Xa bu a len cap (by unfold maxLen at hc;omega) at_ wv t k x y ht.1 ht.2 hk.1 hk.2 hx.1 hx.2 hy.1 hy.2 a2 n2 zr f W hP hK
end Go.Proofs.YtfnkmolffhfpoaaGreat
namespace Go.Proofs.YtfnkmolffhfpoaaGreat.We
theorem k0:(Rows.queueStepsRow.wf (OpenSpec.ofChange Rows.queueStepsSpec))=true:=by kernel_rfl
theorem k1:(laidOutB Tryz.checked.prog)=true:=by kernel_rfl
theorem k2:(mapsRowed Tryz.checked.prog)=true:=by kernel_rfl
theorem k3:(Tryz.f3.params.all (Tryz.checked.prog.readableRec ·))=true:=by kernel_rfl
theorem k4:(namedTie Tryz.checked.prog Rows.queueStepsRow.named Rows.queueStepsSpec.vars)=true:=by kernel_rfl
theorem k5:((Rows.queueStepsRow.stops==[]))=true:=by kernel_rfl
theorem k6:((Tryz.checked.prog.stops==[]))=true:=by kernel_rfl
theorem k7:((Rows.queueStepsRow.knobs==[]))=true:=by kernel_rfl
theorem k8:((Tryz.checked.prog.stopKnobs==[]))=true:=by kernel_rfl
theorem k9:((Rows.queueStepsRow.inPlace==Tryz.checked.prog.inPlace 3))=true:=by kernel_rfl
theorem k10:((Rows.queueStepsRow.unfollowed==Tryz.checked.prog.unfollowed 3))=true:=by kernel_rfl
theorem k11:((Rows.queueStepsRow.recurses==Tryz.checked.prog.recurses 3))=true:=by kernel_rfl
theorem k12:((Rows.queueStepsRow.named==Tryz.checked.prog.varsNamed 3))=true:=by kernel_rfl
theorem k13:((Rows.queueStepsRow.maps==(Tryz.f3.params.toList++Rows.queueStepsSpec.plain.varTypes Tryz.checked.prog).any (Tryz.checked.prog.mapsRec ·)))=true:=by kernel_rfl
theorem k14:((Rows.queueStepsRow.ifaces==(Tryz.f3.params.toList++Rows.queueStepsSpec.plain.varTypes Tryz.checked.prog).any (Tryz.checked.prog.ifacesRec ·)))=true:=by kernel_rfl
theorem k15:((Rows.queueStepsRow.mapsOut==Tryz.checked.prog.mapsAmong Tryz.f3.resultTypes.toList))=true:=by kernel_rfl
theorem k16:((Rows.queueStepsRow.loops==(Tryz.f3.params.toList++Rows.queueStepsSpec.plain.varTypes Tryz.checked.prog).any (Tryz.checked.prog.loopsFrom ·)))=true:=by kernel_rfl
theorem k17:((Rows.queueStepsRow.wideKeys==(Tryz.f3.params.toList++Rows.queueStepsSpec.plain.varTypes Tryz.checked.prog++Tryz.f3.resultTypes.toList).any (Tryz.checked.prog.wideKeysFrom ·)))=true:=by kernel_rfl
theorem k18:(Rows.queueStepsSpec.vars.all (Tryz.checked.prog.varReadable ·))=true:=by kernel_rfl
theorem k19:(Tryz.f3.resultTypes.all (fun t=>Tryz.checked.prog.readableRec t&&decide (t<Tryz.checked.prog.types.size)))=true:=by kernel_rfl
theorem k20:((Rows.queueStepsRow.ifacesOut==Tryz.f3.resultTypes.toList.any (Tryz.checked.prog.ifacesRec ·)))=true:=by kernel_rfl
theorem k21:((Rows.queueStepsRow.loopsOut==Tryz.f3.resultTypes.toList.any (Tryz.checked.prog.loopsFrom ·)))=true:=by kernel_rfl
theorem k22:((Rows.queueStepsRow.plainKeys==Tryz.checked.prog.plainKeys))=true:=by kernel_rfl
theorem k23:(Rows.queueStepsRow.shortTexts.isNone)=true:=by kernel_rfl
theorem k24:(Tryz.checked.prog.stopsHeard)=true:=by kernel_rfl
theorem k25:(Tryz.checked.prog.mayEnter)=true:=by kernel_rfl
theorem k26:((Rows.queueStepsRow.lifted==Tryz.checked.prog.liftsFinal))=true:=by kernel_rfl
theorem k27:((Tryz.checked.prog.make==some Rows.queueStepsRow.make))=true:=by kernel_rfl
theorem k28:((Rows.queueStepsRow.kinds==(if Rows.queueStepsRow.domain.isEmpty then[]else Tryz.f3.params.toList.map fun t=>match Tryz.checked.prog.underlying t with|some (.int k)=>some k|_=>none)))=true:=by kernel_rfl
theorem k29:((Rows.queueStepsRow.pinned==Rows.queueStepsRow.pinnedBy))=true:=by kernel_rfl
theorem k30:((Rows.queueStepsRow.veiled==(Tryz.f3.params.toList++Rows.queueStepsSpec.plain.varTypes Tryz.checked.prog++Tryz.f3.resultTypes.toList).any (Tryz.checked.prog.veiledRec ·)))=true:=by kernel_rfl
theorem k31:(Rows.queueStepsRow.veiledFits Tryz.checked.prog Tryz.f3.params.toList (Tryz.f3.params.toList++Rows.queueStepsSpec.plain.varTypes Tryz.checked.prog++Tryz.f3.resultTypes.toList))=true:=by kernel_rfl
theorem Vd{a b:Bool}(ha:a=true)(hb:b=true):(a&&b)=true:=by rw [ha,hb];rfl
theorem closed:joinedFacts Tryz.checked.prog 3 Tryz.f3 Rows.queueStepsSpec Rows.queueStepsRow=true:=
 (Vd (Vd (Vd (Vd (Vd (Vd (Vd (Vd (Vd (Vd (Vd (Vd (Vd (Vd (Vd (Vd (Vd (Vd (Vd (Vd (Vd (Vd (Vd (Vd (Vd (Vd (Vd (Vd (Vd (Vd (Vd k0 k1) k2) k3) k4) k5) k6) k7) k8) k9) k10) k11) k12) k13) k14) k15) k16) k17) k18) k19) k20) k21) k22) k23) k24) k25) k26) k27) k28) k29) k30) k31)
theorem named:Tryz.checked.prog.funcNamed Rows.queueStepsRow.func=some 3:=by kernel_rfl
theorem inst:Tryz.f3.isInstance Tryz.checked.prog Rows.queueStepsRow.origin Rows.queueStepsRow.targs:=of_decide_eq_true (by kernel_rfl)
theorem wrap:Tryz.f3.isWrapper Tryz.checked.prog Rows.queueStepsRow.wrapper Rows.queueStepsRow.mainSum:=by
 unfold Func.isWrapper
 first|(rw [if_pos (by decide+kernel)];kernel_rfl)|(rw [if_neg (by decide+kernel)];exact ⟨rfl,rfl⟩)
end Go.Proofs.YtfnkmolffhfpoaaGreat.We
