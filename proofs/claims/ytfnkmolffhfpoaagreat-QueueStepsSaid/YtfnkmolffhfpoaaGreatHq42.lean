/- -/
import Derived.Test.YtfnkmolffhfpoaaGreatHq41
import Derived.Test.YtfnkmolffhfpoaaGreatHq35
import Derived.Test.YtfnkmolffhfpoaaGreatHq36
import Derived.Test.YtfnkmolffhfpoaaGreatHq40
import Derived.Sort.CutIn
import Derived.WalkSmall
import Derived.Deep.RegionHeld3
set_option maxRecDepth 100000
set_option linter.unusedVariables false
set_option linter.unusedSimpArgs false
namespace Go.Proofs.YtfnkmolffhfpoaaGreat
namespace Sk
theorem cQ0:eb sQ0 tQ0=true:=by kernel_rfl
theorem cQ1:eb sQ1 tQ1=true:=by kernel_rfl
theorem cQ2:eb sQ2 tQ2=true:=by kernel_rfl
theorem cQ3:eb sQ3 tQ3=true:=by kernel_rfl
theorem cQ4:eb sQ4 tQ4=true:=by kernel_rfl
theorem cQ5:eb sQ5 tQ5=true:=by kernel_rfl
theorem cQ6:eb sQ6 tQ6=true:=by kernel_rfl
theorem cQ7:eb sQ7 tQ7=true:=by kernel_rfl
theorem cQ8:eb sQ8 tQ8=true:=by kernel_rfl
theorem cQ9:eb sQ9 tQ9=true:=by kernel_rfl
theorem IaA:eb sam Vay=true:=by kernel_rfl
theorem JaA:eb tam Xay=true:=by kernel_rfl
theorem KaA:eb uam Yay=true:=by kernel_rfl
theorem LaA:eb vam Zay=true:=by kernel_rfl
theorem MaA:eb wam aaz=true:=by kernel_rfl
theorem NaA:eb xam baz=true:=by kernel_rfl
theorem OaA:eb yam caz=true:=by kernel_rfl
theorem PaA:eb zam daz=true:=by kernel_rfl
theorem QaA:eb Aam eaz=true:=by kernel_rfl
theorem RaA:eb Bam faz=true:=by kernel_rfl
theorem SaA:eb Cam gaz=true:=by kernel_rfl
theorem TaA:eb Dam haz=true:=by kernel_rfl
theorem UaA:eb Eam iaz=true:=by kernel_rfl
theorem VaA:eb Fam jaz=true:=by kernel_rfl
theorem WaA:eb Gam kaz=true:=by kernel_rfl
theorem XaA:eb Ham laz=true:=by kernel_rfl
theorem YaA:eb Iam maz=true:=by kernel_rfl
theorem ZaA:eb Jam naz=true:=by kernel_rfl
theorem aaB:eb Kam oaz=true:=by kernel_rfl
theorem baB:eb Lam paz=true:=by kernel_rfl
theorem caB:eb Mam qaz=true:=by kernel_rfl
theorem daB:eb Nam raz=true:=by kernel_rfl
theorem eaB:eb Oam saz=true:=by kernel_rfl
theorem faB:eb Pam taz=true:=by kernel_rfl
theorem gaB:eb Qam uaz=true:=by kernel_rfl
theorem haB:eb Ram vaz=true:=by kernel_rfl
theorem iaB:eb Sam waz=true:=by kernel_rfl
theorem jaB:eb Tam xaz=true:=by kernel_rfl
theorem kaB:eb Uam yaz=true:=by kernel_rfl
theorem laB:eb Vam zaz=true:=by kernel_rfl
theorem maB:eb Wam Aaz=true:=by kernel_rfl
theorem naB:eb Xam Baz=true:=by kernel_rfl
theorem oaB:eb Yam Caz=true:=by kernel_rfl
theorem paB:eb Zam Daz=true:=by kernel_rfl
theorem qaB:eb aan Eaz=true:=by kernel_rfl
theorem raB:eb ban Faz=true:=by kernel_rfl
theorem saB:eb dan Gaz=true:=by kernel_rfl
theorem taB:eb ean Haz=true:=by kernel_rfl
theorem uaB:eb fan Iaz=true:=by kernel_rfl
theorem vaB:eb gan Jaz=true:=by kernel_rfl
theorem waB:eb han Kaz=true:=by kernel_rfl
theorem xaB:eb ian Laz=true:=by kernel_rfl
theorem yaB:eb jan Maz=true:=by kernel_rfl
theorem zaB:eb kan Naz=true:=by kernel_rfl
theorem AaB:eb lan Oaz=true:=by kernel_rfl
theorem BaB:eb man Paz=true:=by kernel_rfl
theorem CaB:eb oan Qaz=true:=by kernel_rfl
theorem DaB:eb pan Raz=true:=by kernel_rfl
theorem EaB:eb qan Saz=true:=by kernel_rfl
theorem FaB:eb ran Taz=true:=by kernel_rfl
theorem GaB:eb san Uaz=true:=by kernel_rfl
theorem HaB:eb uan Vaz=true:=by kernel_rfl
theorem IaB:eb van Waz=true:=by kernel_rfl
theorem JaB:eb wan Xaz=true:=by kernel_rfl
theorem KaB:eb xan Yaz=true:=by kernel_rfl
theorem LaB:eb yan Zaz=true:=by kernel_rfl
theorem MaB:eb zan aaA=true:=by kernel_rfl
theorem NaB:eb Aan baA=true:=by kernel_rfl
theorem OaB:eb Ban caA=true:=by kernel_rfl
theorem PaB:eb Dan daA=true:=by kernel_rfl
theorem QaB:eb Ean eaA=true:=by kernel_rfl
theorem RaB:eb Fan faA=true:=by kernel_rfl
theorem SaB:eb Gan gaA=true:=by kernel_rfl
theorem TaB:eb Han haA=true:=by kernel_rfl
theorem UaB:eb Ian iaA=true:=by kernel_rfl
theorem VaB:eb Jan jaA=true:=by kernel_rfl
theorem WaB:eb Kan kaA=true:=by kernel_rfl
theorem XaB:eb Lan laA=true:=by kernel_rfl
theorem YaB:eb Man maA=true:=by kernel_rfl
theorem ZaB:eb Nan naA=true:=by kernel_rfl
theorem aaC:eb Oan oaA=true:=by kernel_rfl
theorem baC:eb Pan paA=true:=by kernel_rfl
theorem caC:eb Qan qaA=true:=by kernel_rfl
theorem daC:eb Ran raA=true:=by kernel_rfl
theorem eaC:eb San saA=true:=by kernel_rfl
theorem faC:eb Tan taA=true:=by kernel_rfl
theorem gaC:eb Uan uaA=true:=by kernel_rfl
theorem haC:eb Van vaA=true:=by kernel_rfl
theorem iaC:eb Wan waA=true:=by kernel_rfl
theorem jaC:eb Xan xaA=true:=by kernel_rfl
theorem kaC:eb Yan yaA=true:=by kernel_rfl
theorem laC:eb Zan zaA=true:=by kernel_rfl
theorem maC:eb aao AaA=true:=by kernel_rfl
theorem naC:eb bao BaA=true:=by kernel_rfl
theorem oaC:eb cao CaA=true:=by kernel_rfl
theorem paC:eb dao DaA=true:=by kernel_rfl
theorem qaC:eb eao EaA=true:=by kernel_rfl
theorem raC:eb fao FaA=true:=by kernel_rfl
theorem saC:eb gao GaA=true:=by kernel_rfl
theorem taC:eb hao HaA=true:=by kernel_rfl
theorem jaq:eb ZZ iao=true:=by kernel_rfl
theorem kaq:eb o0 jao=true:=by kernel_rfl
theorem laq:eb B0 kao=true:=by kernel_rfl
theorem maq:eb C0 lao=true:=by kernel_rfl
theorem naq:eb D0 mao=true:=by kernel_rfl
theorem oaq:eb F0 nao=true:=by kernel_rfl
theorem paq:eb G0 oao=true:=by kernel_rfl
theorem qaq:eb I0 pao=true:=by kernel_rfl
theorem raq:eb J0 qao=true:=by kernel_rfl
theorem saq:eb K0 rao=true:=by kernel_rfl
theorem taq:eb L0 sao=true:=by kernel_rfl
theorem uaq:eb P0 tao=true:=by kernel_rfl
theorem vaq:eb Q0 uao=true:=by kernel_rfl
theorem waq:eb S0 vao=true:=by kernel_rfl
theorem xaq:eb T0 wao=true:=by kernel_rfl
theorem yaq:eb U0 xao=true:=by kernel_rfl
theorem zaq:eb V0 yao=true:=by kernel_rfl
theorem Aaq:eb X0 zao=true:=by kernel_rfl
theorem Baq:eb Y0 Aao=true:=by kernel_rfl
theorem Caq:eb Z0 Bao=true:=by kernel_rfl
theorem Daq:eb B1 Cao=true:=by kernel_rfl
theorem Eaq:eb C1 Dao=true:=by kernel_rfl
theorem Faq:eb D1 Eao=true:=by kernel_rfl
theorem Gaq:eb E1 Fao=true:=by kernel_rfl
theorem Haq:eb G1 Gao=true:=by kernel_rfl
theorem Iaq:eb I1 Hao=true:=by kernel_rfl
theorem Jaq:eb J1 Iao=true:=by kernel_rfl
theorem Kaq:eb M1 Jao=true:=by kernel_rfl
theorem Laq:eb N1 Kao=true:=by kernel_rfl
theorem Maq:eb O1 Lao=true:=by kernel_rfl
theorem Naq:eb P1 Mao=true:=by kernel_rfl
theorem Oaq:eb Q1 Nao=true:=by kernel_rfl
theorem Paq:eb S1 Oao=true:=by kernel_rfl
theorem Qaq:eb T1 Pao=true:=by kernel_rfl
theorem Raq:eb U1 Qao=true:=by kernel_rfl
theorem Saq:eb V1 Rao=true:=by kernel_rfl
theorem Taq:eb X1 Sao=true:=by kernel_rfl
theorem Uaq:eb Y1 Tao=true:=by kernel_rfl
theorem Vaq:eb Z1 Uao=true:=by kernel_rfl
theorem Waq:eb C2 Vao=true:=by kernel_rfl
theorem Xaq:eb D2 Wao=true:=by kernel_rfl
theorem Yaq:eb E2 Xao=true:=by kernel_rfl
theorem Zaq:eb G2 Yao=true:=by kernel_rfl
theorem aar:eb I2 Zao=true:=by kernel_rfl
theorem bar:eb J2 aap=true:=by kernel_rfl
theorem car:eb K2 bap=true:=by kernel_rfl
theorem dar:eb N2 dap=true:=by kernel_rfl
theorem ear:eb P2 eap=true:=by kernel_rfl
theorem far:eb Q2 gap=true:=by kernel_rfl
theorem gar:eb S2 hap=true:=by kernel_rfl
theorem iar:eb T2 iap=true:=by kernel_rfl
theorem jar:eb U2 jap=true:=by kernel_rfl
theorem kar:eb V2 kap=true:=by kernel_rfl
theorem lar:eb X2 lap=true:=by kernel_rfl
theorem mar:eb Y2 nap=true:=by kernel_rfl
theorem nar:eb Z2 oap=true:=by kernel_rfl
theorem oar:eb j3 qap=true:=by kernel_rfl
theorem qar:eb A3 rap=true:=by kernel_rfl
theorem rar:eb C3 sap=true:=by kernel_rfl
theorem sar:eb D3 tap=true:=by kernel_rfl
theorem tar:eb E3 uap=true:=by kernel_rfl
theorem uar:eb F3 vap=true:=by kernel_rfl
theorem war:eb G3 wap=true:=by kernel_rfl
theorem xar:eb I3 xap=true:=by kernel_rfl
theorem yar:eb J3 yap=true:=by kernel_rfl
theorem zar:eb K3 zap=true:=by kernel_rfl
theorem Aar:eb M3 Aap=true:=by kernel_rfl
theorem Bar:eb N3 Bap=true:=by kernel_rfl
theorem Car:eb O3 Cap=true:=by kernel_rfl
theorem Dar:eb P3 Dap=true:=by kernel_rfl
theorem Ear:eb Q3 Eap=true:=by kernel_rfl
theorem Far:eb S3 Fap=true:=by kernel_rfl
theorem Gar:eb T3 Gap=true:=by kernel_rfl
theorem Har:eb U3 Hap=true:=by kernel_rfl
theorem Iar:eb V3 Iap=true:=by kernel_rfl
theorem Jar:eb X3 Jap=true:=by kernel_rfl
theorem Kar:eb Y3 Kap=true:=by kernel_rfl
theorem Lar:eb Z3 Lap=true:=by kernel_rfl
theorem Mar:eb j4 Nap=true:=by kernel_rfl
theorem Nar:eb A4 Oap=true:=by kernel_rfl
theorem Oar:eb C4 Pap=true:=by kernel_rfl
theorem Par:eb D4 Qap=true:=by kernel_rfl
theorem Qar:eb E4 Rap=true:=by kernel_rfl
theorem Rar:eb F4 Sap=true:=by kernel_rfl
theorem Sar:eb G4 Tap=true:=by kernel_rfl
theorem Tar:eb H4 Uap=true:=by kernel_rfl
theorem Uar:eb I4 Vap=true:=by kernel_rfl
theorem War:eb J4 Wap=true:=by kernel_rfl
theorem Xar:eb K4 Xap=true:=by kernel_rfl
theorem Yar:eb M4 Yap=true:=by kernel_rfl
theorem Zar:eb N4 Zap=true:=by kernel_rfl
theorem aas:eb P4 aaq=true:=by kernel_rfl
theorem bas:eb Q4 baq=true:=by kernel_rfl
theorem cas:eb R4 caq=true:=by kernel_rfl
theorem das:eb S4 daq=true:=by kernel_rfl
theorem eas:eb T4 eaq=true:=by kernel_rfl
theorem fas:eb U4 faq=true:=by kernel_rfl
theorem gas:eb V4 gaq=true:=by kernel_rfl
theorem ias:eb W4 haq=true:=by kernel_rfl
def csB:List (FuncId×List Value):=[(8,[.pointer (some ⟨2,0,none⟩),vr 3 0, .agg ⟨[vr 3 1,vr 6 2,vr 6 3]⟩]),(9,[.agg ⟨kH (vr 11 1)⟩,vr 3 0, .agg ⟨[vr 3 1,vr 6 2,vr 6 3]⟩])]
theorem xab:fal env csB yu (.split (sy 264 [vr 3 1,Fb 1]) (.leaf 0) (.split (sy 264 [vr 3 1,Fb 2]) (.leaf 1) (.leaf 2)))=true:=by kernel_rfl
theorem FI:Xp (fun s=>∃t,eb s t=true) yu:=
 ⟨⟨_,cQ0⟩,⟨⟨_,cQ1⟩,⟨⟨_,cQ2⟩,⟨⟨_,cQ3⟩,⟨⟨_,cQ4⟩,⟨⟨_,cQ5⟩,⟨⟨_,cQ6⟩,⟨⟨_,cQ7⟩,⟨⟨_,cQ8⟩,⟨⟨_,cQ9⟩,⟨⟨_,IaA⟩,⟨⟨_,JaA⟩,⟨⟨_,KaA⟩,⟨⟨_,LaA⟩,⟨⟨_,MaA⟩,⟨⟨_,NaA⟩,⟨⟨_,OaA⟩,⟨⟨_,PaA⟩,⟨⟨_,QaA⟩,⟨⟨_,RaA⟩,⟨⟨_,SaA⟩,⟨⟨_,TaA⟩,⟨⟨_,UaA⟩,⟨⟨_,VaA⟩,⟨⟨_,WaA⟩,⟨⟨_,XaA⟩,⟨⟨_,YaA⟩,⟨⟨_,ZaA⟩,⟨⟨_,aaB⟩,⟨⟨_,baB⟩,⟨⟨_,caB⟩,⟨⟨_,daB⟩,⟨⟨_,eaB⟩,⟨⟨_,faB⟩,⟨⟨_,gaB⟩,⟨⟨_,haB⟩,⟨⟨_,iaB⟩,⟨⟨_,jaB⟩,⟨⟨_,kaB⟩,⟨⟨_,laB⟩,⟨⟨_,maB⟩,⟨⟨_,naB⟩,⟨⟨_,oaB⟩,⟨⟨_,paB⟩,⟨⟨_,qaB⟩,⟨⟨_,raB⟩,⟨⟨_,saB⟩,⟨⟨_,taB⟩,⟨⟨_,uaB⟩,⟨⟨_,vaB⟩,⟨⟨_,waB⟩,⟨⟨_,xaB⟩,⟨⟨_,yaB⟩,⟨⟨_,zaB⟩,⟨⟨_,AaB⟩,⟨⟨_,BaB⟩,⟨⟨_,CaB⟩,⟨⟨_,DaB⟩,⟨⟨_,EaB⟩,⟨⟨_,FaB⟩,⟨⟨_,GaB⟩,⟨⟨_,HaB⟩,⟨⟨_,IaB⟩,⟨⟨_,JaB⟩,⟨⟨_,KaB⟩,⟨⟨_,LaB⟩,⟨⟨_,MaB⟩,⟨⟨_,NaB⟩,⟨⟨_,OaB⟩,⟨⟨_,PaB⟩,⟨⟨_,QaB⟩,⟨⟨_,RaB⟩,⟨⟨_,SaB⟩,⟨⟨_,TaB⟩,⟨⟨_,UaB⟩,⟨⟨_,VaB⟩,⟨⟨_,WaB⟩,⟨⟨_,XaB⟩,⟨⟨_,YaB⟩,⟨⟨_,ZaB⟩,⟨⟨_,aaC⟩,⟨⟨_,baC⟩,⟨⟨_,caC⟩,⟨⟨_,daC⟩,⟨⟨_,eaC⟩,⟨⟨_,faC⟩,⟨⟨_,gaC⟩,⟨⟨_,haC⟩,⟨⟨_,iaC⟩,⟨⟨_,jaC⟩,⟨⟨_,kaC⟩,⟨⟨_,laC⟩,⟨⟨_,maC⟩,⟨⟨_,naC⟩,⟨⟨_,oaC⟩,⟨⟨_,paC⟩,⟨⟨_,qaC⟩,⟨⟨_,raC⟩,⟨⟨_,saC⟩,⟨⟨_,taC⟩,⟨⟨_,jaq⟩,⟨⟨_,kaq⟩,⟨⟨_,laq⟩,⟨⟨_,maq⟩,⟨⟨_,naq⟩,⟨⟨_,oaq⟩,⟨⟨_,paq⟩,⟨⟨_,qaq⟩,⟨⟨_,raq⟩,⟨⟨_,saq⟩,⟨⟨_,taq⟩,⟨⟨_,uaq⟩,⟨⟨_,vaq⟩,⟨⟨_,waq⟩,⟨⟨_,xaq⟩,⟨⟨_,yaq⟩,⟨⟨_,zaq⟩,⟨⟨_,Aaq⟩,⟨⟨_,Baq⟩,⟨⟨_,Caq⟩,⟨⟨_,Daq⟩,⟨⟨_,Eaq⟩,⟨⟨_,Faq⟩,⟨⟨_,Gaq⟩,⟨⟨_,Haq⟩,⟨⟨_,Iaq⟩,⟨⟨_,Jaq⟩,⟨⟨_,Kaq⟩,⟨⟨_,Laq⟩,⟨⟨_,Maq⟩,⟨⟨_,Naq⟩,⟨⟨_,Oaq⟩,⟨⟨_,Paq⟩,⟨⟨_,Qaq⟩,⟨⟨_,Raq⟩,⟨⟨_,Saq⟩,⟨⟨_,Taq⟩,⟨⟨_,Uaq⟩,⟨⟨_,Vaq⟩,⟨⟨_,Waq⟩,⟨⟨_,Xaq⟩,⟨⟨_,Yaq⟩,⟨⟨_,Zaq⟩,⟨⟨_,aar⟩,⟨⟨_,bar⟩,⟨⟨_,car⟩,⟨⟨_,dar⟩,⟨⟨_,ear⟩,⟨⟨_,far⟩,⟨⟨_,gar⟩,⟨⟨_,iar⟩,⟨⟨_,jar⟩,⟨⟨_,kar⟩,⟨⟨_,lar⟩,⟨⟨_,mar⟩,⟨⟨_,nar⟩,⟨⟨_,oar⟩,⟨⟨_,qar⟩,⟨⟨_,rar⟩,⟨⟨_,sar⟩,⟨⟨_,tar⟩,⟨⟨_,uar⟩,⟨⟨_,war⟩,⟨⟨_,xar⟩,⟨⟨_,yar⟩,⟨⟨_,zar⟩,⟨⟨_,Aar⟩,⟨⟨_,Bar⟩,⟨⟨_,Car⟩,⟨⟨_,Dar⟩,⟨⟨_,Ear⟩,⟨⟨_,Far⟩,⟨⟨_,Gar⟩,⟨⟨_,Har⟩,⟨⟨_,Iar⟩,⟨⟨_,Jar⟩,⟨⟨_,Kar⟩,⟨⟨_,Lar⟩,⟨⟨_,Mar⟩,⟨⟨_,Nar⟩,⟨⟨_,Oar⟩,⟨⟨_,Par⟩,⟨⟨_,Qar⟩,⟨⟨_,Rar⟩,⟨⟨_,Sar⟩,⟨⟨_,Tar⟩,⟨⟨_,Uar⟩,⟨⟨_,War⟩,⟨⟨_,Xar⟩,⟨⟨_,Yar⟩,⟨⟨_,Zar⟩,⟨⟨_,aas⟩,⟨⟨_,bas⟩,⟨⟨_,cas⟩,⟨⟨_,das⟩,⟨⟨_,eas⟩,⟨⟨_,fas⟩,⟨⟨_,gas⟩,⟨⟨_,ias⟩,trivial⟩⟩⟩⟩⟩⟩⟩⟩⟩⟩⟩⟩⟩⟩⟩⟩⟩⟩⟩⟩⟩⟩⟩⟩⟩⟩⟩⟩⟩⟩⟩⟩⟩⟩⟩⟩⟩⟩⟩⟩⟩⟩⟩⟩⟩⟩⟩⟩⟩⟩⟩⟩⟩⟩⟩⟩⟩⟩⟩⟩⟩⟩⟩⟩⟩⟩⟩⟩⟩⟩⟩⟩⟩⟩⟩⟩⟩⟩⟩⟩⟩⟩⟩⟩⟩⟩⟩⟩⟩⟩⟩⟩⟩⟩⟩⟩⟩⟩⟩⟩⟩⟩⟩⟩⟩⟩⟩⟩⟩⟩⟩⟩⟩⟩⟩⟩⟩⟩⟩⟩⟩⟩⟩⟩⟩⟩⟩⟩⟩⟩⟩⟩⟩⟩⟩⟩⟩⟩⟩⟩⟩⟩⟩⟩⟩⟩⟩⟩⟩⟩⟩⟩⟩⟩⟩⟩⟩⟩⟩⟩⟩⟩⟩⟩⟩⟩⟩⟩⟩⟩⟩⟩⟩⟩⟩⟩⟩⟩⟩⟩⟩⟩⟩⟩⟩⟩⟩⟩⟩⟩⟩⟩⟩⟩⟩⟩⟩⟩⟩
theorem Xp.TW{P Q:Wa->Prop}(h:∀s,P s->Q s):∀{l:List Wa},Xp P l->Xp Q l
 |[],_=>trivial
 |_::_,g=>⟨h _ g.1,Xp.TW h g.2⟩
theorem MC{s:Wa}{t:Tree}(h:eb s t=true):tV env 100000 (Fx 10 11) (nA 8) yu 5 s t=true/\Bx env s.shape rp.obs=true/\Vs env rp s.shape=true:=by
 unfold eb at h;rw [Bool.and_eq_true,Bool.and_eq_true]at h;exact h
theorem uaC:Xp (fun s=>∃t,tV env 100000 (Fx 10 11) (nA 8) yu 5 s t=true) yu:=FI.TW fun _ ⟨t,h⟩=>⟨t,(MC h).1⟩
theorem jas:Xp (fun s=>Bx env s.shape rp.obs=true) yu:=FI.TW fun _ ⟨t,h⟩=>(MC h).2.1
theorem kas:Xp (fun s=>Vs env rp s.shape=true) yu:=FI.TW fun _ ⟨t,h⟩=>(MC h).2.2
theorem Rx:fj yu=true:=by kernel_rfl
theorem UW:Ix rp yu=true:=by kernel_rfl
end Sk
end Go.Proofs.YtfnkmolffhfpoaaGreat
namespace Go.Proofs.YtfnkmolffhfpoaaGreat
namespace Sk
open Go.RowKit Go.BigFrame
def Sx(P:Program)(f:FuncId):Prop:=∀w,Calls P f #[] w fun e w'=>e= .returned (.bool true)/\Below w.heap.size w w'
set_option maxRecDepth 100000 in
theorem VW(HA:Hid (Sx Tryz.prog 7))(c:Nc)(a:Option Addr)(len cap:Nat)(hl:len<=9223372036854775807)(at_ wv:Nat->Int)(t k x y:Int)(a2:Option Addr)(n2 zr:Nat)(W:World)(Ch:¬(c.Ho/\len<=100)):Calls Tryz.prog 3 #[.agg (wk c a len cap), .agg #[.int .i64 t, .int .i64 k, .int .u32 x, .int .u32 y], .slice a2 n2 zr] W (Cd (.bool true) W):=by
 have HL:Hid (∀w,Calls Tryz.prog 6 #[.agg (wk c a len cap)] w fun e w'=>e= .returned (.tuple #[.pointer none, .pointer none, .pointer none, .bool false])/\Below w.heap.size w w'):=Lib.hid fun w=>by
  refine (EW c a len cap hl at_ wv w Ch).mono ?_
  rintro e w' (⟨-,h1,h2⟩|⟨h,-⟩)
  . exact ⟨h1,h2⟩
  . exact absurd h Ch
 obtain ⟨th,sl,Xa,bu⟩:=c;unfold wk at*;simp only at*;have cj:Hid (Below W.heap.size W ((W.alloc (.cells #[.int .i64 th, .int .i64 sl, .int .i64 Xa, .int .i64 bu, .slice a len cap] 26)).alloc (.cells #[.int .i64 t, .int .i64 k, .int .u32 x, .int .u32 y] 31))):=Lib.hid (((Below.refl _ _).alloc (Nat.le_refl _) _).alloc (by simp) _);clear Ch hl
 go_enter Tryz.func3,Tryz.ntmps3
 go_wp2_with (first|(go_at_call 6;refine (HL.out _).mono ?_;rintro e w2 ⟨rfl,hb⟩;have H2:=Lib.hid (cj.out.trans (hb.mono cj.out.size));clear hb)|(go_at_call 7;refine (HA.out _).mono ?_;rintro e w3 ⟨rfl,hb⟩;have H3:=Lib.hid (H2.out.trans (hb.mono H2.out.size));clear hb))
 go_ret
 exact ⟨rfl,H3.out⟩
set_option maxRecDepth 100000 in
theorem bO(HA:Hid (Sx Tryz.prog 7))(th sl Xa bu:Nat)(hf:(⟨th,sl,Xa,bu⟩:Nc).Ho)(a:Option Addr)(len cap:Nat)(hl:len<=100)(at_ wv:Nat->Int)(t k x y:Int)(a2:Option Addr)(n2 zr:Nat)(W6:150<n2)(W:World)(hP:vk W a len at_ wv):Calls Tryz.prog 3 #[.agg (wk ⟨th,sl,Xa,bu⟩ a len cap), .agg #[.int .i64 t, .int .i64 k, .int .u32 x, .int .u32 y], .slice a2 n2 zr] W (Cd (.bool true) W):=by
 obtain ⟨W1,Ni⟩:∃W1,W1=((W.alloc (.cells #[.int .i64 (th:Int), .int .i64 (sl:Int), .int .i64 (Xa:Int), .int .i64 (bu:Int), .slice a len cap] 26)).alloc (.cells #[.int .i64 t, .int .i64 k, .int .u32 x, .int .u32 y] 31)):=⟨_,rfl⟩;have VJ:=Lib.hid Ni;have Fv:Below W.heap.size W W1:=by rw [Ni];exact ((Below.refl _ _).alloc (Nat.le_refl _) _).alloc (by simp) _
 have cj:=Lib.hid Fv;have HL:Hid (Calls Tryz.prog 6 #[.agg #[.int .i64 (th:Int), .int .i64 (sl:Int), .int .i64 (Xa:Int), .int .i64 (bu:Int), .slice a len cap]] W1 fun e w'=>∃l m r,e= .returned (.tuple #[.pointer (some ⟨l,0,none⟩), .pointer (some ⟨m,0,none⟩), .pointer (some ⟨r,0,none⟩), .bool true])/\Below W1.heap.size W1 w'):=Lib.hid (by
  refine (RF th sl Xa bu hf a len cap hl at_ wv W1 (hP.below Fv)).mono ?_
  rintro e w' (⟨h,-⟩|⟨-,l,M,R,rfl,h⟩)
  . exact absurd ⟨hf,hl⟩ h
  . exact ⟨l,_,_,rfl,h.below⟩)
 have d1:decide ((150:Int)<(n2:Int))=true:=decide_eq_true (by omega);have d2:decide (150<n2)=true:=decide_eq_true W6;have Fy:W1.heap[W.heap.size]?=some (.cells #[.int .i64 (th:Int), .int .i64 (sl:Int), .int .i64 (Xa:Int), .int .i64 (bu:Int), .slice a len cap] 26 (0,0)):=by rw [Ni,Below.heap_alloc _ _ _ (by simp)];exact heap_alloc_new _ _
 have UN:W1.heap[W.heap.size+1]?=some (.cells #[.int .i64 t, .int .i64 k, .int .u32 x, .int .u32 y] 31 (0,0)):=by
  have:=heap_alloc_new (W.alloc (.cells #[.int .i64 (th:Int), .int .i64 (sl:Int), .int .i64 (Xa:Int), .int .i64 (bu:Int), .slice a len cap] 26)) (.cells #[.int .i64 t, .int .i64 k, .int .u32 x, .int .u32 y] 31);rw [World.size_alloc]at this;rw [Ni];exact this
 have g0:=ja Fy 0 _ rfl;have g1:=ja Fy 1 _ rfl;have g2:=ja Fy 2 _ rfl;have g3:=ja Fy 3 _ rfl;have g4:=ja Fy 4 _ rfl;unfold wk;simp only;clear hf hl hP W6 Ni Fv Fy UN
 go_enter Tryz.func3,Tryz.ntmps3
 go_upto_region 1 with fail
 rw [<-VJ.out]
 go_wp2_with (first|(go_at_call 6;refine HL.out.mono ?_;rintro e w2 ⟨l,m,r,rfl,hb⟩;have H2:=Lib.hid (cj.out.trans (hb.mono cj.out.size));clear hb)|(go_at_call 7;refine (HA.out _).mono ?_;rintro e w3 ⟨rfl,hb⟩;have H3:=Lib.hid (H2.out.trans (hb.mono H2.out.size));clear hb))
 go_ret
 exact ⟨rfl,H3.out⟩
structure LA where
 st:Bool
 ki:Int
 th:Int
 pl:Int
 ol:Int
 ne:Int
def kj(W:World)(a:Option Addr)(n:Nat)(f:Nat->LA):Prop:=
 ∀i,i<n->∃b off,a=some ⟨b,off,none⟩/\b<W.heap.size/\W.cell? ⟨b,off+i*6,none⟩=some (.bool (f i).st)/\W.cell? ⟨b,off+i*6+1,none⟩=some (.int .i64 (f i).ki)/\W.cell? ⟨b,off+i*6+2,none⟩=some (.int .i64 (f i).th)/\W.cell? ⟨b,off+i*6+3,none⟩=some (.int .i64 (f i).pl)/\W.cell? ⟨b,off+i*6+4,none⟩=some (.int .u64 (f i).ol)/\W.cell? ⟨b,off+i*6+5,none⟩=some (.int .u64 (f i).ne)/\(-9223372036854775808<=(f i).pl/\(f i).pl<=9223372036854775807)/\Tc (f i).ne
theorem kj.below{W W':World}{a:Option Addr}{n:Nat}{f:Nat->LA}(h:kj W a n f)(hb:Below W.heap.size W W'):kj W' a n f:=fun i hi=>by
 obtain ⟨b,off,e,hl,h0,h1,h2,h3,h4,h5,h6⟩:=h i hi;have k:=fun o:Nat=>World.cell?_of_block (a:=⟨b,o,none⟩) (hb.block b hl)
 exact ⟨b,off,e,Nat.lt_of_lt_of_le hl hb.size,(k _).trans h0,(k _).trans h1,(k _).trans h2,(k _).trans h3,(k _).trans h4,(k _).trans h5,h6⟩
def Ng(W1:World)(p q m r l:Nat)(c:Nc)(n:Nat)(wr:World):Prop:=∃(A:Rv) (S:Shape) (ρ:Nat->Int) (γ:Nat->Gh),im yu W1 p q m r l A c S ρ γ (fun k=>W1.heap.size<=k) W1 wr/\(A.ck<=(n:Int)/\A.wm<=(n:Int))/\0<A.np
theorem Ng.below{W1:World}{p q m r l:Nat}{c:Nc}{n:Nat}{wr:World}(h:Ng W1 p q m r l c n wr):Below W1.heap.size W1 wr:=by
 obtain ⟨A,S,ρ,γ,⟨R,h⟩,-⟩:=h;exact h.below
theorem fG{W1:World}{p q m r l:Nat}{c:Nc}{n:Nat}{w:World}(h:Ng W1 p q m r l c n w)(hn:n<=900000):
  Calls Tryz.prog 10 #[.pointer (some ⟨p,0,none⟩), .pointer (some ⟨m,0,none⟩)] w fun e w1=>∃v,e= .returned v/\Calls Tryz.prog 11 #[.pointer (some ⟨q,0,none⟩), .pointer (some ⟨r,0,none⟩)] w1 fun e w2=>(∃u,e= .returned u)/\Ng W1 p q m r l c (n+30) w2/\∃z:Int,w2.cell? ⟨q,8,none⟩=some (.int .i64 z)/\v= .bool (decide (z=0)):=by
 obtain ⟨A,S,ρ,γ,⟨R,h⟩,hb,aq⟩:=h;have:=JN uaC Rx h (by omega) (by omega);unfold re at this;refine this.mono ?_
 rintro e w1 ⟨v,rfl,h2⟩;refine ⟨v,rfl, ?_⟩;unfold re at h2;refine h2.mono ?_
 rintro e w2 ⟨v2,rfl,h3⟩;unfold re at h3;obtain ⟨b,u,z,A',S',ρ',γ',R',hws,hp,hg,-,hz,hbz⟩:=h3;cases hws;refine ⟨⟨_,rfl⟩,⟨A',S',ρ',γ',⟨R',hp⟩,⟨by have:=hg.1.1;omega,by have:=hg.1.2;omega⟩,by rw [hg.2];exact aq⟩,z, ?_,by rw [hbz]⟩;obtain ⟨v',k1,k2⟩:=hp.cell hz;rw [@Wc (Th.at ρ' γ') _ _ _ _ k2]at k1;exact k1
theorem GI{W1:World}{p q m r l:Nat}{c:Nc}{n:Nat}{w:World}(h:Ng W1 p q m r l c n w)(hn:n<=900000)(k t a o x:Int)(q0:-9223372036854775808<=a)(q1:a<=9223372036854775807)(hx:Tc x):
  Calls Tryz.prog 12 #[.pointer (some ⟨m,0,none⟩), .agg #[.int .i64 k, .int .i64 t, .int .i64 a, .int .u64 o, .int .u64 x]] w fun e w1=>(∃v,e= .returned v)/\Below W1.heap.size W1 w1/\Calls Tryz.prog 13 #[.pointer (some ⟨r,0,none⟩), .agg #[.int .i64 k, .int .i64 t, .int .i64 a, .int .u64 o, .int .u64 x]] w1 fun e w2=>(∃v,e= .returned v)/\Ng W1 p q m r l c (n+30) w2:=by
 obtain ⟨A,S,ρ,γ,⟨R,h⟩,hb,aq⟩:=h;refine (XN Rx h (by omega) (by omega) aq k t a o x q0 q1 hx).mono ?_
 rintro e w1 ⟨hv,Fv,h2⟩;refine ⟨hv,Fv,h2.mono ?_⟩;rintro e w2 ⟨hv2,γ',hp⟩;obtain ⟨⟨g1,g2⟩,g3⟩:=VN A k t a o x;exact ⟨hv2,_,S,ρ,γ',⟨R,hp⟩,⟨by omega,by omega⟩,by rw [g3];exact aq⟩
theorem gG{W1:World}{p q m r l:Nat}{c:Nc}{n:Nat}{w:World}(h:Ng W1 p q m r l c n w)(hn:n<=900000):
  ∃(TS:World->Prop) (z x1 x2 x3 x4 x5:Int),TS w/\(∀w,TS w->Ng W1 p q m r l c n w)/\Tg rp Tryz.prog p q z x1 x2 x3 x4 x5 TS/\(∀w,TS w->Calls Tryz.prog 14 #[.pointer (some ⟨m,0,none⟩), .pointer (some ⟨r,0,none⟩)] w fun e w'=>e= .returned (.bool true)/\TS w')/\∀w n,TS w->TS (w.drewN n):=by
 obtain ⟨A,S,ρ,γ,⟨R,h⟩,hb,aq⟩:=h;obtain ⟨z,x1,x2,x3,x4,x5,hz,ht⟩:=uI rp jas Rx UW kas h (by omega) (by omega);exact ⟨_,z,x1,x2,x3,x4,x5,⟨R,h⟩,fun w hw=>⟨A,S,ρ,γ,hw,hb,aq⟩,ht,fun w hw=>WN Rx hw,fun w n ⟨R,hw⟩=>⟨R,hw.grow Rx (ab (Below.refl _ _) n)⟩⟩
end Sk
end Go.Proofs.YtfnkmolffhfpoaaGreat
