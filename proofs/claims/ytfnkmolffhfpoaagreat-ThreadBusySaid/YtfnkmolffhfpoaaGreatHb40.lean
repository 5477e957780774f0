/- -/
import Derived.Test.YtfnkmolffhfpoaaGreatHb39
import Derived.Test.YtfnkmolffhfpoaaGreatHb37
import Derived.Test.YtfnkmolffhfpoaaGreatHb38
set_option maxRecDepth 100000
set_option linter.unusedVariables false
set_option linter.unusedSimpArgs false
set_option linter.unusedSectionVars false
namespace Go.Proofs.YtfnkmolffhfpoaaGreat
namespace Sk
theorem cW1:ab sW1 tW1=true:=by kernel_rfl
theorem cW2:ab sW2 tW2=true:=by kernel_rfl
theorem cW3:ab sW3 tW3=true:=by kernel_rfl
theorem cW4:ab sW4 tW4=true:=by kernel_rfl
theorem cW5:ab sW5 tW5=true:=by kernel_rfl
theorem cW6:ab sW6 tW6=true:=by kernel_rfl
theorem cW7:ab sW7 tW7=true:=by kernel_rfl
theorem cW8:ab sW8 tW8=true:=by kernel_rfl
theorem cW9:ab sW9 tW9=true:=by kernel_rfl
theorem mat:ab xaf tar=true:=by kernel_rfl
theorem oat:ab yaf uar=true:=by kernel_rfl
theorem qat:ab zaf war=true:=by kernel_rfl
theorem tat:ab Aaf xar=true:=by kernel_rfl
theorem uat:ab Baf yar=true:=by kernel_rfl
theorem vat:ab Caf zar=true:=by kernel_rfl
theorem wat:ab Daf Aar=true:=by kernel_rfl
theorem xat:ab Eaf Bar=true:=by kernel_rfl
theorem yat:ab Faf Car=true:=by kernel_rfl
theorem zat:ab Gaf Dar=true:=by kernel_rfl
theorem Aat:ab Haf Ear=true:=by kernel_rfl
theorem Bat:ab Iaf Far=true:=by kernel_rfl
theorem Cat:ab Jaf Gar=true:=by kernel_rfl
theorem Dat:ab Kaf Har=true:=by kernel_rfl
theorem Eat:ab Laf Iar=true:=by kernel_rfl
theorem Fat:ab Maf Jar=true:=by kernel_rfl
theorem Gat:ab Naf Kar=true:=by kernel_rfl
theorem Iat:ab Oaf Lar=true:=by kernel_rfl
theorem Jat:ab Paf Mar=true:=by kernel_rfl
theorem Kat:ab Qaf Nar=true:=by kernel_rfl
theorem Lat:ab Raf Oar=true:=by kernel_rfl
theorem Mat:ab Saf Par=true:=by kernel_rfl
theorem Oat:ab Taf Qar=true:=by kernel_rfl
theorem Pat:ab Uaf Rar=true:=by kernel_rfl
theorem Qat:ab Vaf Sar=true:=by kernel_rfl
theorem Uat:ab Waf Tar=true:=by kernel_rfl
theorem Vat:ab Xaf Uar=true:=by kernel_rfl
theorem Wat:ab Yaf War=true:=by kernel_rfl
theorem Xat:ab Zaf Xar=true:=by kernel_rfl
theorem Yat:ab aag Yar=true:=by kernel_rfl
theorem Zat:ab bag Zar=true:=by kernel_rfl
theorem aau:ab cag aas=true:=by kernel_rfl
theorem bau:ab dag bas=true:=by kernel_rfl
theorem cau:ab eag cas=true:=by kernel_rfl
theorem dau:ab fag das=true:=by kernel_rfl
theorem eau:ab gag eas=true:=by kernel_rfl
theorem fau:ab iag fas=true:=by kernel_rfl
theorem gau:ab jag gas=true:=by kernel_rfl
theorem hau:ab kag ias=true:=by kernel_rfl
theorem iau:ab lag jas=true:=by kernel_rfl
theorem jau:ab mag kas=true:=by kernel_rfl
theorem kau:ab nag las=true:=by kernel_rfl
theorem lau:ab oag mas=true:=by kernel_rfl
theorem mau:ab pag nas=true:=by kernel_rfl
theorem nau:ab qag oas=true:=by kernel_rfl
theorem oau:ab rag pas=true:=by kernel_rfl
theorem pau:ab sag qas=true:=by kernel_rfl
theorem qau:ab uag ras=true:=by kernel_rfl
theorem rau:ab vag sas=true:=by kernel_rfl
theorem sau:ab wag tas=true:=by kernel_rfl
theorem tau:ab xag uas=true:=by kernel_rfl
theorem uau:ab yag vas=true:=by kernel_rfl
theorem vau:ab zag was=true:=by kernel_rfl
theorem wau:ab Aag xas=true:=by kernel_rfl
theorem xau:ab Bag yas=true:=by kernel_rfl
theorem yau:ab Cag zas=true:=by kernel_rfl
theorem zau:ab Dag Aas=true:=by kernel_rfl
theorem Aau:ab Eag Bas=true:=by kernel_rfl
theorem Bau:ab Fag Cas=true:=by kernel_rfl
theorem Cau:ab Gag Das=true:=by kernel_rfl
theorem Dau:ab Hag Eas=true:=by kernel_rfl
theorem Eau:ab Iag Fas=true:=by kernel_rfl
theorem Fau:ab Jag Gas=true:=by kernel_rfl
theorem Gau:ab Kag Ias=true:=by kernel_rfl
theorem Hau:ab Lag Jas=true:=by kernel_rfl
theorem Iau:ab Mag Kas=true:=by kernel_rfl
theorem Jau:ab Nag Las=true:=by kernel_rfl
theorem Kau:ab Oag Mas=true:=by kernel_rfl
theorem Lau:ab Pag Nas=true:=by kernel_rfl
theorem Mau:ab Qag Oas=true:=by kernel_rfl
theorem Nau:ab Rag Pas=true:=by kernel_rfl
theorem Oau:ab Sag Qas=true:=by kernel_rfl
theorem Pau:ab Uag Ras=true:=by kernel_rfl
theorem Qau:ab Vag Sas=true:=by kernel_rfl
theorem Rau:ab Wag Tas=true:=by kernel_rfl
theorem Sau:ab Xag Uas=true:=by kernel_rfl
theorem Tau:ab Yag Vas=true:=by kernel_rfl
theorem Uau:ab Zag Was=true:=by kernel_rfl
theorem Vau:ab aah Xas=true:=by kernel_rfl
theorem Wau:ab bah Yas=true:=by kernel_rfl
theorem Xau:ab cah Zas=true:=by kernel_rfl
theorem Yau:ab dah aat=true:=by kernel_rfl
theorem Zau:ab eah bat=true:=by kernel_rfl
theorem aav:ab fah dat=true:=by kernel_rfl
theorem bav:ab gah eat=true:=by kernel_rfl
theorem cav:ab hah fat=true:=by kernel_rfl
theorem dav:ab iah iat=true:=by kernel_rfl
theorem eav:ab jah jat=true:=by kernel_rfl
theorem fav:ab kah kat=true:=by kernel_rfl
theorem gav:ab lah lat=true:=by kernel_rfl
theorem eaj:ab AU mah=true:=by kernel_rfl
theorem faj:ab BU nah=true:=by kernel_rfl
theorem gaj:ab CU oah=true:=by kernel_rfl
theorem haj:ab DU pah=true:=by kernel_rfl
theorem iaj:ab EU qah=true:=by kernel_rfl
theorem jaj:ab FU rah=true:=by kernel_rfl
theorem kaj:ab GU sah=true:=by kernel_rfl
theorem laj:ab IU tah=true:=by kernel_rfl
theorem maj:ab JU uah=true:=by kernel_rfl
theorem naj:ab KU vah=true:=by kernel_rfl
theorem oaj:ab LU wah=true:=by kernel_rfl
theorem paj:ab MU xah=true:=by kernel_rfl
theorem qaj:ab NU yah=true:=by kernel_rfl
theorem raj:ab OU zah=true:=by kernel_rfl
theorem saj:ab PU Aah=true:=by kernel_rfl
theorem taj:ab QU Bah=true:=by kernel_rfl
theorem uaj:ab RU Cah=true:=by kernel_rfl
theorem vaj:ab SU Dah=true:=by kernel_rfl
theorem waj:ab TU Eah=true:=by kernel_rfl
theorem xaj:ab UU Fah=true:=by kernel_rfl
theorem yaj:ab VU Gah=true:=by kernel_rfl
theorem zaj:ab WU Hah=true:=by kernel_rfl
theorem Aaj:ab XU Iah=true:=by kernel_rfl
theorem Baj:ab YU Jah=true:=by kernel_rfl
theorem Caj:ab ZU Kah=true:=by kernel_rfl
theorem Daj:ab aV Lah=true:=by kernel_rfl
theorem Eaj:ab bV Mah=true:=by kernel_rfl
theorem Faj:ab cV Nah=true:=by kernel_rfl
theorem Gaj:ab dV Oah=true:=by kernel_rfl
theorem Haj:ab eV Pah=true:=by kernel_rfl
theorem Iaj:ab fV Qah=true:=by kernel_rfl
theorem Jaj:ab gV Rah=true:=by kernel_rfl
theorem Kaj:ab iV Sah=true:=by kernel_rfl
theorem Laj:ab jV Tah=true:=by kernel_rfl
theorem Maj:ab kV Uah=true:=by kernel_rfl
theorem Naj:ab lV Vah=true:=by kernel_rfl
theorem Oaj:ab mV Wah=true:=by kernel_rfl
theorem Paj:ab nV Xah=true:=by kernel_rfl
theorem Qaj:ab oV Yah=true:=by kernel_rfl
theorem Raj:ab rV Zah=true:=by kernel_rfl
theorem Saj:ab sV aai=true:=by kernel_rfl
theorem Taj:ab tV bai=true:=by kernel_rfl
theorem Uaj:ab uV cai=true:=by kernel_rfl
theorem Vaj:ab vV dai=true:=by kernel_rfl
theorem Waj:ab wV eai=true:=by kernel_rfl
theorem Xaj:ab xV fai=true:=by kernel_rfl
theorem Yaj:ab yV gai=true:=by kernel_rfl
theorem Zaj:ab zV hai=true:=by kernel_rfl
theorem aak:ab AV iai=true:=by kernel_rfl
theorem bak:ab BV jai=true:=by kernel_rfl
theorem cak:ab CV kai=true:=by kernel_rfl
theorem dak:ab DV lai=true:=by kernel_rfl
theorem eak:ab EV mai=true:=by kernel_rfl
theorem fak:ab FV nai=true:=by kernel_rfl
theorem gak:ab GV oai=true:=by kernel_rfl
theorem hak:ab IV pai=true:=by kernel_rfl
theorem iak:ab JV qai=true:=by kernel_rfl
theorem jak:ab KV rai=true:=by kernel_rfl
theorem kak:ab LV sai=true:=by kernel_rfl
theorem lak:ab MV tai=true:=by kernel_rfl
theorem mak:ab NV uai=true:=by kernel_rfl
theorem nak:ab OV vai=true:=by kernel_rfl
theorem oak:ab PV wai=true:=by kernel_rfl
theorem pak:ab QV xai=true:=by kernel_rfl
theorem qak:ab RV yai=true:=by kernel_rfl
theorem rak:ab SV zai=true:=by kernel_rfl
theorem sak:ab TV Aai=true:=by kernel_rfl
theorem tak:ab VV Bai=true:=by kernel_rfl
theorem uak:ab WV Cai=true:=by kernel_rfl
theorem vak:ab XV Dai=true:=by kernel_rfl
theorem wak:ab YV Eai=true:=by kernel_rfl
theorem xak:ab ZV Fai=true:=by kernel_rfl
theorem yak:ab aW Gai=true:=by kernel_rfl
theorem zak:ab bW Hai=true:=by kernel_rfl
theorem Aak:ab cW Iai=true:=by kernel_rfl
theorem Bak:ab dW Jai=true:=by kernel_rfl
theorem Cak:ab eW Kai=true:=by kernel_rfl
theorem Dak:ab fW Lai=true:=by kernel_rfl
theorem Eak:ab gW Mai=true:=by kernel_rfl
theorem Fak:ab iW Nai=true:=by kernel_rfl
theorem Gak:ab jW Oai=true:=by kernel_rfl
theorem Hak:ab kW Pai=true:=by kernel_rfl
theorem Iak:ab lW Qai=true:=by kernel_rfl
theorem Jak:ab mW Rai=true:=by kernel_rfl
theorem Kak:ab nW Sai=true:=by kernel_rfl
theorem Lak:ab oW Tai=true:=by kernel_rfl
theorem Mak:ab pW Uai=true:=by kernel_rfl
theorem Nak:ab qW Vai=true:=by kernel_rfl
theorem Oak:ab rW Wai=true:=by kernel_rfl
theorem Pak:ab sW Xai=true:=by kernel_rfl
theorem Qak:ab tW Yai=true:=by kernel_rfl
theorem Rak:ab uW Zai=true:=by kernel_rfl
theorem Sak:ab vW aaj=true:=by kernel_rfl
theorem Tak:ab wW baj=true:=by kernel_rfl
theorem Uak:ab xW caj=true:=by kernel_rfl
theorem Vak:ab yW daj=true:=by kernel_rfl
theorem Wak:ym zU.shape=false:=by kernel_rfl
theorem hav:TJ (fun s=>ym s.shape=true->∃t,DX env 100000 (dD 27) cD zF 3 s t=true) zF:=
 ⟨fun h=>absurd (Wak.symm.trans h) (by decide),⟨fun _=>⟨_,cW1⟩,⟨fun _=>⟨_,cW2⟩,⟨fun _=>⟨_,cW3⟩,⟨fun _=>⟨_,cW4⟩,⟨fun _=>⟨_,cW5⟩,⟨fun _=>⟨_,cW6⟩,⟨fun _=>⟨_,cW7⟩,⟨fun _=>⟨_,cW8⟩,⟨fun _=>⟨_,cW9⟩,⟨fun _=>⟨_,mat⟩,⟨fun _=>⟨_,oat⟩,⟨fun _=>⟨_,qat⟩,⟨fun _=>⟨_,tat⟩,⟨fun _=>⟨_,uat⟩,⟨fun _=>⟨_,vat⟩,⟨fun _=>⟨_,wat⟩,⟨fun _=>⟨_,xat⟩,⟨fun _=>⟨_,yat⟩,⟨fun _=>⟨_,zat⟩,⟨fun _=>⟨_,Aat⟩,⟨fun _=>⟨_,Bat⟩,⟨fun _=>⟨_,Cat⟩,⟨fun _=>⟨_,Dat⟩,⟨fun _=>⟨_,Eat⟩,⟨fun _=>⟨_,Fat⟩,⟨fun _=>⟨_,Gat⟩,⟨fun _=>⟨_,Iat⟩,⟨fun _=>⟨_,Jat⟩,⟨fun _=>⟨_,Kat⟩,⟨fun _=>⟨_,Lat⟩,⟨fun _=>⟨_,Mat⟩,⟨fun _=>⟨_,Oat⟩,⟨fun _=>⟨_,Pat⟩,⟨fun _=>⟨_,Qat⟩,⟨fun _=>⟨_,Uat⟩,⟨fun _=>⟨_,Vat⟩,⟨fun _=>⟨_,Wat⟩,⟨fun _=>⟨_,Xat⟩,⟨fun _=>⟨_,Yat⟩,⟨fun _=>⟨_,Zat⟩,⟨fun _=>⟨_,aau⟩,⟨fun _=>⟨_,bau⟩,⟨fun _=>⟨_,cau⟩,⟨fun _=>⟨_,dau⟩,⟨fun _=>⟨_,eau⟩,⟨fun _=>⟨_,fau⟩,⟨fun _=>⟨_,gau⟩,⟨fun _=>⟨_,hau⟩,⟨fun _=>⟨_,iau⟩,⟨fun _=>⟨_,jau⟩,⟨fun _=>⟨_,kau⟩,⟨fun _=>⟨_,lau⟩,⟨fun _=>⟨_,mau⟩,⟨fun _=>⟨_,nau⟩,⟨fun _=>⟨_,oau⟩,⟨fun _=>⟨_,pau⟩,⟨fun _=>⟨_,qau⟩,⟨fun _=>⟨_,rau⟩,⟨fun _=>⟨_,sau⟩,⟨fun _=>⟨_,tau⟩,⟨fun _=>⟨_,uau⟩,⟨fun _=>⟨_,vau⟩,⟨fun _=>⟨_,wau⟩,⟨fun _=>⟨_,xau⟩,⟨fun _=>⟨_,yau⟩,⟨fun _=>⟨_,zau⟩,⟨fun _=>⟨_,Aau⟩,⟨fun _=>⟨_,Bau⟩,⟨fun _=>⟨_,Cau⟩,⟨fun _=>⟨_,Dau⟩,⟨fun _=>⟨_,Eau⟩,⟨fun _=>⟨_,Fau⟩,⟨fun _=>⟨_,Gau⟩,⟨fun _=>⟨_,Hau⟩,⟨fun _=>⟨_,Iau⟩,⟨fun _=>⟨_,Jau⟩,⟨fun _=>⟨_,Kau⟩,⟨fun _=>⟨_,Lau⟩,⟨fun _=>⟨_,Mau⟩,⟨fun _=>⟨_,Nau⟩,⟨fun _=>⟨_,Oau⟩,⟨fun _=>⟨_,Pau⟩,⟨fun _=>⟨_,Qau⟩,⟨fun _=>⟨_,Rau⟩,⟨fun _=>⟨_,Sau⟩,⟨fun _=>⟨_,Tau⟩,⟨fun _=>⟨_,Uau⟩,⟨fun _=>⟨_,Vau⟩,⟨fun _=>⟨_,Wau⟩,⟨fun _=>⟨_,Xau⟩,⟨fun _=>⟨_,Yau⟩,⟨fun _=>⟨_,Zau⟩,⟨fun _=>⟨_,aav⟩,⟨fun _=>⟨_,bav⟩,⟨fun _=>⟨_,cav⟩,⟨fun _=>⟨_,dav⟩,⟨fun _=>⟨_,eav⟩,⟨fun _=>⟨_,fav⟩,⟨fun _=>⟨_,gav⟩,⟨fun _=>⟨_,eaj⟩,⟨fun _=>⟨_,faj⟩,⟨fun _=>⟨_,gaj⟩,⟨fun _=>⟨_,haj⟩,⟨fun _=>⟨_,iaj⟩,⟨fun _=>⟨_,jaj⟩,⟨fun _=>⟨_,kaj⟩,⟨fun _=>⟨_,laj⟩,⟨fun _=>⟨_,maj⟩,⟨fun _=>⟨_,naj⟩,⟨fun _=>⟨_,oaj⟩,⟨fun _=>⟨_,paj⟩,⟨fun _=>⟨_,qaj⟩,⟨fun _=>⟨_,raj⟩,⟨fun _=>⟨_,saj⟩,⟨fun _=>⟨_,taj⟩,⟨fun _=>⟨_,uaj⟩,⟨fun _=>⟨_,vaj⟩,⟨fun _=>⟨_,waj⟩,⟨fun _=>⟨_,xaj⟩,⟨fun _=>⟨_,yaj⟩,⟨fun _=>⟨_,zaj⟩,⟨fun _=>⟨_,Aaj⟩,⟨fun _=>⟨_,Baj⟩,⟨fun _=>⟨_,Caj⟩,⟨fun _=>⟨_,Daj⟩,⟨fun _=>⟨_,Eaj⟩,⟨fun _=>⟨_,Faj⟩,⟨fun _=>⟨_,Gaj⟩,⟨fun _=>⟨_,Haj⟩,⟨fun _=>⟨_,Iaj⟩,⟨fun _=>⟨_,Jaj⟩,⟨fun _=>⟨_,Kaj⟩,⟨fun _=>⟨_,Laj⟩,⟨fun _=>⟨_,Maj⟩,⟨fun _=>⟨_,Naj⟩,⟨fun _=>⟨_,Oaj⟩,⟨fun _=>⟨_,Paj⟩,⟨fun _=>⟨_,Qaj⟩,⟨fun _=>⟨_,Raj⟩,⟨fun _=>⟨_,Saj⟩,⟨fun _=>⟨_,Taj⟩,⟨fun _=>⟨_,Uaj⟩,⟨fun _=>⟨_,Vaj⟩,⟨fun _=>⟨_,Waj⟩,⟨fun _=>⟨_,Xaj⟩,⟨fun _=>⟨_,Yaj⟩,⟨fun _=>⟨_,Zaj⟩,⟨fun _=>⟨_,aak⟩,⟨fun _=>⟨_,bak⟩,⟨fun _=>⟨_,cak⟩,⟨fun _=>⟨_,dak⟩,⟨fun _=>⟨_,eak⟩,⟨fun _=>⟨_,fak⟩,⟨fun _=>⟨_,gak⟩,⟨fun _=>⟨_,hak⟩,⟨fun _=>⟨_,iak⟩,⟨fun _=>⟨_,jak⟩,⟨fun _=>⟨_,kak⟩,⟨fun _=>⟨_,lak⟩,⟨fun _=>⟨_,mak⟩,⟨fun _=>⟨_,nak⟩,⟨fun _=>⟨_,oak⟩,⟨fun _=>⟨_,pak⟩,⟨fun _=>⟨_,qak⟩,⟨fun _=>⟨_,rak⟩,⟨fun _=>⟨_,sak⟩,⟨fun _=>⟨_,tak⟩,⟨fun _=>⟨_,uak⟩,⟨fun _=>⟨_,vak⟩,⟨fun _=>⟨_,wak⟩,⟨fun _=>⟨_,xak⟩,⟨fun _=>⟨_,yak⟩,⟨fun _=>⟨_,zak⟩,⟨fun _=>⟨_,Aak⟩,⟨fun _=>⟨_,Bak⟩,⟨fun _=>⟨_,Cak⟩,⟨fun _=>⟨_,Dak⟩,⟨fun _=>⟨_,Eak⟩,⟨fun _=>⟨_,Fak⟩,⟨fun _=>⟨_,Gak⟩,⟨fun _=>⟨_,Hak⟩,⟨fun _=>⟨_,Iak⟩,⟨fun _=>⟨_,Jak⟩,⟨fun _=>⟨_,Kak⟩,⟨fun _=>⟨_,Lak⟩,⟨fun _=>⟨_,Mak⟩,⟨fun _=>⟨_,Nak⟩,⟨fun _=>⟨_,Oak⟩,⟨fun _=>⟨_,Pak⟩,⟨fun _=>⟨_,Qak⟩,⟨fun _=>⟨_,Rak⟩,⟨fun _=>⟨_,Sak⟩,⟨fun _=>⟨_,Tak⟩,⟨fun _=>⟨_,Uak⟩,⟨fun _=>⟨_,Vak⟩,trivial⟩⟩⟩⟩⟩⟩⟩⟩⟩⟩⟩⟩⟩⟩⟩⟩⟩⟩⟩⟩⟩⟩⟩⟩⟩⟩⟩⟩⟩⟩⟩⟩⟩⟩⟩⟩⟩⟩⟩⟩⟩⟩⟩⟩⟩⟩⟩⟩⟩⟩⟩⟩⟩⟩⟩⟩⟩⟩⟩⟩⟩⟩⟩⟩⟩⟩⟩⟩⟩⟩⟩⟩⟩⟩⟩⟩⟩⟩⟩⟩⟩⟩⟩⟩⟩⟩⟩⟩⟩⟩⟩⟩⟩⟩⟩⟩⟩⟩⟩⟩⟩⟩⟩⟩⟩⟩⟩⟩⟩⟩⟩⟩⟩⟩⟩⟩⟩⟩⟩⟩⟩⟩⟩⟩⟩⟩⟩⟩⟩⟩⟩⟩⟩⟩⟩⟩⟩⟩⟩⟩⟩⟩⟩⟩⟩⟩⟩⟩⟩⟩⟩⟩⟩⟩⟩⟩⟩⟩⟩⟩⟩⟩⟩⟩⟩⟩⟩⟩⟩⟩⟩⟩⟩⟩⟩⟩⟩⟩⟩⟩⟩⟩⟩⟩⟩⟩⟩⟩⟩⟩⟩⟩⟩⟩⟩⟩
theorem PZ:Uk zF=true:=by kernel_rfl
theorem MS:Uk [zU]=true:=by kernel_rfl
theorem iav:ez env 100000 (rZ 28) AN (Se zF) 3 (OB zU.shape.se) (.split (sy 264 [vr 3 1, .int .i64 1]) (.leaf 1) (.split (sy 264 [vr 3 1, .int .i64 2]) (.leaf 2) (.split (sy 280 [vr 3 1, .int .i64 3]) (.leaf 3) (.leaf 4)))) (mz cH Hv)=true:=by kernel_rfl
theorem jav:rF env 100000 (sZ 25) mS BN (Se [zU]) (OB Gx) (.leaf 0) Hv=true:=by kernel_rfl
end Sk
end Go.Proofs.YtfnkmolffhfpoaaGreat
namespace Go.Proofs.YtfnkmolffhfpoaaGreat
namespace Sk
open Go.RowKit
theorem Zi.grow{tab:List Ua}{W:World}{p m l:Nat}{A:Rv}{c:Dc}{S:Shape}{ρ:Nat->Int}{γ:Nat->Gh}{B:Nat->Prop}{w0:World}{R:Mp}{w w':World}(h:Zi tab W p m l A c S ρ γ B w0 R w)(hb:Below w.heap.size w w'):Zi tab W p m l A c S ρ γ B w0 R w':=
 ⟨h.tab,h.ng,⟨h.ins.facts, @Ic.same (Th.at ρ γ) _ _ _ _ _ _ h.ins.Cs hb⟩,h.r0,h.r1,h.r2,h.base,h.own⟩
def Idle(W1:World)(p m l:Nat)(c:Dc)(k x y:Int)(n:Nat)(w:World):Prop:=
 ∃(A:Rv) (S:Shape) (ρ:Nat->Int) (γ:Nat->Gh) (B:Nat->Prop) (w0:World) (R:Mp),Zi [zU] W1 p m l A c S ρ γ B w0 R w/\(A.ck<=(n:Int)/\A.wm<=(n:Int))/\ρ 1=k/\ρ 2=x/\ρ 3=y
def Hq(W1:World)(p m l:Nat)(c:Dc)(k x y:Int)(n:Nat)(w:World):Prop:=
 ∃(A:Rv) (S:Shape) (ρ:Nat->Int) (γ:Nat->Gh) (B:Nat->Prop) (w0:World) (R:Mp),Zi zF W1 p m l A c S ρ γ B w0 R w/\ym S=true/\(A.ck<=(n:Int)/\A.wm<=(n:Int))/\ρ 1=k/\ρ 2=x/\ρ 3=y
section
variable{W1:World}{p m l:Nat}{c:Dc}{k x y:Int}{n:Nat}{w:World}
theorem Idle.grow(h:Idle W1 p m l c k x y n w){w':World}(hb:Below w.heap.size w w'):Idle W1 p m l c k x y n w':=by
 obtain ⟨A,S,ρ,γ,B,w0,R,hs,h2⟩:=h;exact ⟨A,S,ρ,γ,B,w0,R,hs.grow hb,h2⟩
theorem Hq.grow(h:Hq W1 p m l c k x y n w){w':World}(hb:Below w.heap.size w w'):Hq W1 p m l c k x y n w':=by
 obtain ⟨A,S,ρ,γ,B,w0,R,hs,h2⟩:=h;exact ⟨A,S,ρ,γ,B,w0,R,hs.grow hb,h2⟩
theorem Idle.below(h:Idle W1 p m l c k x y n w):Below W1.heap.size W1 w:=by
 obtain ⟨A,S,ρ,γ,B,w0,R,hs,h2⟩:=h;exact hs.below
theorem Hq.below(h:Hq W1 p m l c k x y n w):Below W1.heap.size W1 w:=by
 obtain ⟨A,S,ρ,γ,B,w0,R,hs,h2⟩:=h;exact hs.below
theorem EH{A:Rv}{ρ:Nat->Int}(h:mA zF W1 p m l A c ρ w)(hb:A.ck<=(n:Int)/\A.wm<=(n:Int))(e1:ρ 1=k)(e2:ρ 2=x)(e3:ρ 3=y):Hq W1 p m l c k x y (n+30) w:=by
 obtain ⟨A',S',ρ',γ',B,w0,R',hs,hg,ZJ,hρ⟩:=h;exact ⟨A',S',ρ',γ',B,w0,R',hs,ZJ,⟨by have:=hg.1.1;omega,by have:=hg.1.2;omega⟩,(hρ 1 (by omega)).trans e1,(hρ 2 (by omega)).trans e2,(hρ 3 (by omega)).trans e3⟩
theorem cK(h:Hq W1 p m l c k x y n w)(hn:n<=900000):Calls Tryz.prog 27 #[.pointer (some ⟨p,0,none⟩), .pointer (some ⟨m,0,none⟩)] w (fun e w'=>(∃b,e= .returned (.bool b))/\Hq W1 p m l c k x y (n+30) w'):=by
 obtain ⟨A,S,ρ,γ,B,w0,R,hs,ZJ,hb,e1,e2,e3⟩:=h;refine (YJ hav PZ hs ZJ (by omega) (by omega)).mono ?_
 rintro e w' ⟨h1,h2⟩;exact ⟨h1,EH h2 hb e1 e2 e3⟩
theorem qO(h:Idle W1 p m l c k x y n w)(hn:n<=900000)(k0:1<=k)(k1:k<=8)(x0:0<=x)(x1:x<=4294967295)(y0:0<=y)(y1:y<=4294967295):Calls Tryz.prog 28 #[.pointer (some ⟨p,0,none⟩), .agg #[.int .i64 k, .int .u32 x, .int .u32 y]] w (fun e w'=>e= .returned (.int .i64 0)/\Hq W1 p m l c k x y (n+30) w'):=by
 obtain ⟨A,S,ρ,γ,B,w0,R,hs,hb,e1,e2,e3⟩:=h;refine (CN iav MS hs (by omega) (by omega) e1 e2 e3 k0 k1 x0 x1 y0 y1).mono ?_
 rintro e w' ⟨h1,h2⟩;exact ⟨h1,EH h2 hb e1 e2 e3⟩
theorem mn(h:Idle W1 p m l c k x y n w):w.cell? ⟨p,2,none⟩=some (.int .i64 0)/\p<w.heap.size:=by
 obtain ⟨A,S,ρ,γ,B,w0,R,hs,-⟩:=h;have hS:S=zU.shape:=by have:=hs.tab;simpa [Se]using this
 subst hS;obtain ⟨s,r0⟩:=hs.r0;obtain ⟨v,h1,h2⟩:=Tk hs.ins.Cs r0 (i:=2) (v:= .int .i64 0) (by kernel_rfl);obtain rfl:= @wc (Th.at ρ γ) _ _ _ _ h2;exact ⟨h1, @Ic.lt (Th.at ρ γ) _ _ _ _ _ hs.ins.Cs _ _ _ r0⟩
theorem ju{ρ:Nat->Int}{γ:Nat->Gh}{R:Mp}{q i:Nat}{v v':Value}(hq:q<=8)(h:isVar q i v=true)(hv: @VR (Th.at ρ γ) R v v'):v'=fk q (ρ i):=by
 letI:Interp:=Th.at ρ γ
 unfold isVar at h
 split at h
 . rename_i t s qq j c';simp only [za,Bool.and_eq_true,Ja,decide_eq_true_eq]at h;obtain ⟨rfl,rfl⟩:=h;have hk:∀t:Nat,t<=8->Ue (.func (.methodOf t s) ⟨[.int qq (.ofNat j)]⟩ c')=some t:=fun t h=>match t,h with
    |0,_=>rfl
    |1,_=>rfl
    |2,_=>rfl
    |3,_=>rfl
    |4,_=>rfl
    |5,_=>rfl
    |6,_=>rfl
    |7,_=>rfl
    |8,_=>rfl
    |i+9,h=>absurd h (by omega)
   have h2:∀t:Nat,t<=8->den (.func (.methodOf t s) ⟨[.int qq (.ofNat j)]⟩ c')= .v (fk t (ρ j)):=fun t h=>match t,h with
    |0,_=>rfl
    |1,_=>rfl
    |2,_=>rfl
    |3,_=>rfl
    |4,_=>rfl
    |5,_=>rfl
    |6,_=>rfl
    |7,_=>rfl
    |8,_=>rfl
    |i+9,h=>absurd h (by omega)
   have h1:=Wo hv (hk t hq);have h2:=h2 t hq;rw [h2]at h1;injection h1 with h1
   exact h1.symm
 . cases h
theorem AF(h:Hq W1 p m l c k x y n w)(k0:1<=k)(k1:k<=8)(x0:0<=x)(x1:x<=4294967295)(y0:0<=y)(y1:y<=4294967295):∃z:Int,z≠0/\w.cell? ⟨p,2,none⟩=some (.int .i64 z)/\w.cell? ⟨p,3,none⟩=some (.int .i64 k)/\w.cell? ⟨p,4,none⟩=some (.int .u32 x)/\w.cell? ⟨p,5,none⟩=some (.int .u32 y)/\p<w.heap.size:=by
 obtain ⟨A,S,ρ,γ,B,w0,R,hs,ZJ,-,e1,e2,e3⟩:=h;unfold ym at ZJ
 split at ZJ
 . rename_i z a b d h2 h3 h4 h5;simp only [za,Bool.and_eq_true,ke,oe]at ZJ;obtain ⟨hz,ha,hb,hd⟩:=ZJ;obtain ⟨s,r0⟩:=hs.r0;obtain ⟨v2,g2,q2⟩:=Tk hs.ins.Cs r0 h2;obtain ⟨v3,g3,q3⟩:=Tk hs.ins.Cs r0 h3;obtain ⟨v4,g4,q4⟩:=Tk hs.ins.Cs r0 h4;obtain ⟨v5,g5,q5⟩:=Tk hs.ins.Cs r0 h5;obtain rfl:= @wc (Th.at ρ γ) _ _ _ _ q2;obtain rfl:=ju (by omega) ha q3;obtain rfl:=ju (by omega) hb q4;obtain rfl:=ju (by omega) hd q5;refine ⟨z,by simpa using hz,g2, ?_, ?_, ?_, @Ic.lt (Th.at ρ γ) _ _ _ _ _ hs.ins.Cs _ _ _ r0⟩
   . rw [g3,e1]
     show some (Value.int .i64 (IntKind.i64.wrap k))=_
     rw [Rk k (by omega) (by omega)]
   . rw [g4,e2]
     show some (Value.int .u32 (IntKind.u32.wrap x))=_
     have:IntKind.u32.wrap x=x:=by simp [IntKind.wrap,IntKind.bits,IntKind.signed];omega
     rw [this]
   . rw [g5,e3]
     show some (Value.int .u32 (IntKind.u32.wrap y))=_
     have:IntKind.u32.wrap y=y:=by simp [IntKind.wrap,IntKind.bits,IntKind.signed];omega
     rw [this]
 . cases ZJ
end
theorem rO(th sl Ta bu:Nat)(hf:(⟨th,sl,Ta,bu⟩:Dc).qm)(a:Option Addr)(len cap:Nat)(hl:len<=100)(at_ wv:Nat->Int)(k x y:Int)(W1:World)(hP:Xt W1 a len at_ wv):
  Calls Tryz.prog 6 #[.agg #[.int .i64 (th:Int), .int .i64 (sl:Int), .int .i64 (Ta:Int), .int .i64 (bu:Int), .slice a len cap]] W1 fun e w2=>∃l m r,e= .returned (.tuple #[.pointer (some ⟨l,0,none⟩), .pointer (some ⟨m,0,none⟩), .pointer (some ⟨r,0,none⟩), .bool true])/\Below W1.heap.size W1 w2/\Calls Tryz.prog 25 #[.pointer (some ⟨l,0,none⟩), .int .i64 0] w2 fun e w3=>∃p,e= .returned (.pointer (some ⟨p,0,none⟩))/\Idle W1 p m l ⟨th,sl,Ta,bu⟩ k x y 200 w3:=by
 refine (wN th sl Ta bu hf a len cap hl at_ wv W1 hP).mono ?_
 rintro e w2 (⟨h,-⟩|⟨-,l,M,N,rfl,h⟩)
 . exact absurd ⟨hf,hl⟩ h
 refine ⟨l,M.m,N.m,rfl,h.below, ?_⟩;obtain ⟨M0,R0,cR,hR0,z1,z2,z3,z4,z5,z6,z7,z8,z9⟩:=h.Qg;obtain ⟨b1,b2,b3⟩:=aD M0 at_ wv len;obtain ⟨c1,c2,c3⟩:=au R0 at_ wv len;rw [<-cR]at b1 b2 b3;rw [<-hR0]at c1 c2 c3;have hu:∀i,i<len->cd (wv i):=fun i hi=>by
  obtain ⟨b,off,-,-,-,-,-,h⟩:=hP i hi;exact h
 have u0:cd 0:=⟨by omega,by omega⟩;have kav:Wd R0:=⟨fun k=>by rw [z4];exact u0,fun k=>by rw [z5];exact u0,fun k=>by rw [z6];exact u0,by omega,by omega,by omega,by omega⟩;have Dq:Wd N:=by rw [hR0];exact bD R0 kav (by omega) at_ wv len hu (by omega) len (Nat.le_refl _)
 have gX:bg M N:=⟨h.Lg,fun k hk=>by rw [b1,c1,z1,z7],by omega⟩;refine (DN (fN:=25) (s0:=zU) jav h.below h.lay (yN hf) h.mem h.ref (by have:=h.lo.1;omega) (fun k hk=>by obtain ⟨i1,i2,i3⟩:=h.lo.2.1 k hk;exact ⟨by omega,i2,i3⟩) (fun k hk=>by obtain ⟨i1,i2⟩:=h.lo.2.2 k hk;exact ⟨by omega,i2⟩) gX Dq (by omega) (by omega) 0 k x y (by omega) (by omega)).mono ?_
 rintro e w3 ⟨p,A,S,ρ,γ,R,rfl,hs,hg,e1,e2,e3⟩;exact ⟨p,rfl,A,S,ρ,γ,_,_,R,hs,⟨by have:=hg.1.1;omega,by have:=hg.1.2;omega⟩,e1,e2,e3⟩
noncomputable section
def Hp:Value:=sy Lh [vr 11 1,rb (.ofNat 1)]
def frF:Nat->List (Value×Value)
 |0=>[]
 |s+1=>(sy 280 [rb (.ofNat (Nat.succ s)),Hp],tt)::(sy 264 [Hp,rb (.ofNat (Nat.succ s))],ff)::frF s
def frK(s:Nat):List (Value×Value):=(sy 280 [rb (.ofNat (Nat.succ s)),Hp],ff)::(sy 264 [Hp,rb (.ofNat (Nat.succ s))],tt)::frF s
def FH(c:Row):Nat->Bool
 |0=>true
 |n+1=>match c.get (Nat.mul n 2),c.get (Nat.succ (Nat.mul n 2))with
  |some u,some v=>Ia (Qb 3 u) (Ia (Qb 7 v) (FH c n))
  |_,_=>false
def Yak(v:Value)(σ:AH):Bool:=
 match v with
 | .agg ⟨[a,b,c,d, .slice (some ⟨p,o,none⟩) n _]⟩=>Ia (nj 60 [a,b,c,d] (fz (vr 11 1))) (Ia (Nat.beq o 0) (Ia (Nat.ble n 100) (Ia (Nat.ble 1 n) (match σ.get p with|some (.cells c _ _)=>FH c n|_=>false))))
 |_=>false
def pd(s:Nat):Bool:=
 match runs (env.Sm (frK s)) 100000 [(24,[.agg ⟨fz (vr 11 1)⟩])] ⟨0, .nil⟩with
 |some ([v],σ)=>Yak v σ
 |_=>false
end
theorem dK[Interp](W:World):Ic (fun k=>W.heap.size<=k) W (fun _=>none) ⟨0, .nil⟩ W:=
 ⟨fun b x h=>(by cases h),fun b r s h=>(by cases h),fun b r s o h=>(by cases h),fun b1 b2 r s1 s2 h=>(by cases h),⟨rfl,rfl,rfl,Nat.le_refl _,fun k _ _=>rfl⟩,fun k hk=>hk,fun _ _=>False,fun b r s e h=>(by cases h)⟩
theorem iD{c:Row}:∀{n:Nat},FH c n=true->∀i,i<n->∃u v,c.get (i*2)=some u/\c.get (i*2+1)=some v/\Qb 3 u=true/\Qb 7 v=true
 |0,_,i,hi=>by omega
 |n+1,h,i,hi=>by
  simp only [FH]at h
  split at h
  . rename_i u v hu hv;simp only [za,Bool.and_eq_true]at h;by_cases e:i=n
    . subst e;exact ⟨u,v,hu,hv,h.1,h.2.1⟩
    . exact iD h.2.2 i (by omega)
  . cases h
section
variable{ρ:Nat->Int}{γ:Nat->Gh}
theorem NS(x y:Value){k k':IntKind}{a b:Int}(hx: @den (Th.at ρ γ) x= .v (.int k a))(hy: @den (Th.at ρ γ) y= .v (.int k' b))(h:¬a<b): @den (Th.at ρ γ) (sy 280 [x,y])= @den (Th.at ρ γ) ff:=by
 letI:Interp:=Th.at ρ γ
 have e:den (sy 280 [x,y])=rh 280 [den x,den y]:=rfl;rw [e,hx,hy]
 show tc.v (fk 8 (if a<b then 1 else 0))=tc.v (.bool false)
 rw [if_neg h];rfl
theorem GH(x y:Value){k k':IntKind}{a b:Int}(hx: @den (Th.at ρ γ) x= .v (.int k a))(hy: @den (Th.at ρ γ) y= .v (.int k' b)): @den (Th.at ρ γ) (sy 264 [x,y])= .v (.bool (decide (a=b))):=by
 letI:Interp:=Th.at ρ γ
 have e:den (sy 264 [x,y])=rh 264 [den x,den y]:=rfl;rw [e,hx,hy]
 show tc.v (fk 8 (if a=b then 1 else 0))=_
 by_cases h:a=b
 . rw [if_pos h];simp [h];rfl
 . rw [if_neg h];simp [h];rfl
theorem IH{A:Rv}{c:Dc}(h:NG γ A c)(hs:Bg c):∀(s:Nat),(s:Int)<c.sl->∀p,p∈frF s-> @den (Th.at ρ γ) p.1= @den (Th.at ρ γ) p.2
 |0,_,p,hp=>by simp [frF]at hp
 |s+1,Ab,p,hp=>by
  letI:Interp:=Th.at ρ γ
  have ds:den Hp= .v (.int .i64 c.sl):=GR hs (vi h) 1
  have dl:den (rb (.ofNat (Nat.succ s)))= .v (.int .i64 (.ofNat (Nat.succ s))):=rfl
  simp only [frF,List.mem_cons]at hp;rcases hp with rfl|rfl|hp
  . exact jn _ _ dl ds (by show((s+1:Nat):Int)<c.sl;omega)
  . refine (GH _ _ ds dl).trans ?_
    have:¬c.sl=Int.ofNat (Nat.succ s):=by show¬c.sl=((s+1:Nat):Int);omega
    rw [decide_eq_false this];rfl
  . exact IH h hs s (by omega) p hp
theorem OS{A:Rv}{c:Dc}(h:NG γ A c)(hs:Bg c)(s:Nat)(e:c.sl=(s:Int)+1):∀p,p∈frK s-> @den (Th.at ρ γ) p.1= @den (Th.at ρ γ) p.2:=by
 letI:Interp:=Th.at ρ γ
 have ds:den Hp= .v (.int .i64 c.sl):=GR hs (vi h) 1
 have dl:den (rb (.ofNat (Nat.succ s)))= .v (.int .i64 (.ofNat (Nat.succ s))):=rfl
 intro p hp;simp only [frK,List.mem_cons]at hp;rcases hp with rfl|rfl|hp
 . exact NS _ _ dl ds (by show¬((s+1:Nat):Int)<c.sl;omega)
 . refine (GH _ _ ds dl).trans ?_
   have:c.sl=Int.ofNat (Nat.succ s):=by show c.sl=((s+1:Nat):Int);omega
   rw [decide_eq_true this];rfl
 . exact IH h hs s (by omega) p hp
theorem sO{s:Nat}(Fq:pd s=true){c:Dc}(hf:Bg c)(e:c.sl=(s:Int)+1)(W:World):
  Calls Tryz.prog 24 #[.agg #[.int .i64 c.th, .int .i64 c.sl, .int .i64 c.lo, .int .i64 c.bu]] W (fun e w'=>∃(a:Option Addr) (len cap:Nat) (at_ wv:Nat->Int),e= .returned (.agg #[.int .i64 c.th, .int .i64 c.sl, .int .i64 c.lo, .int .i64 c.bu, .slice a len cap])/\Below W.heap.size W w'/\len<=100/\Xt w' a len at_ wv):=by
 unfold pd at Fq
 split at Fq
 . rename_i v σ bL;have ng:NG (Lx Vv c) Vv c:=⟨rfl,rfl,hf⟩;obtain ⟨hE,hO⟩:=Qk (fun _=>0) (Lx Vv c) (frK s) (OS ng hf s e);have hcf: @VR (Th.at (fun _=>0) (Lx Vv c)) (fun _=>none) (.agg ⟨fz (vr 11 1)⟩) (.agg #[.int .i64 c.th, .int .i64 c.sl, .int .i64 c.lo, .int .i64 c.bu]):=
    @LR.agg (Th.at (fun _=>0) (Lx Vv c)) _ _ _ (VM hf (vi ng))
   have hA: @Fk (Th.at (fun _=>0) (Lx Vv c)) (fun _=>none) [(24,[.agg ⟨fz (vr 11 1)⟩])] [(24,#[.agg #[.int .i64 c.th, .int .i64 c.sl, .int .i64 c.lo, .int .i64 c.bu]])]:=
    ⟨rfl, @lr1 (Th.at (fun _=>0) (Lx Vv c)) _ _ _ hcf,trivial⟩
   have hc:= @Fj (Th.at (fun _=>0) (Lx Vv c)) _ hE hO _ _ _ _ _ _ _ _ _ _ bL (@dK (Th.at (fun _=>0) (Lx Vv c)) W) hA;unfold Ce at hc;refine hc.mono ?_
   rintro e w' ⟨v',rfl,R',-,tZ,hS⟩;obtain ⟨v2,l1,e1,hv,-⟩:= @LR.qa (Th.at (fun _=>0) (Lx Vv c)) _ _ _ _ tZ;cases e1;unfold Yak at Fq
   split at Fq
   . rename_i a b c1 d p o n z
     letI:Interp:=Th.at (fun _=>0) (Lx Vv c)
     simp only [za,Bool.and_eq_true,jd,Ja,decide_eq_true_eq]at Fq;obtain ⟨h1,h2,h3,h4,h5⟩:=Fq;subst h2;have e4:=xl _ _ _ h1;simp only [fz,List.cons.injEq,and_true]at e4;obtain ⟨rfl,rfl,rfl,rfl⟩:=e4;obtain ⟨l',hl,rfl⟩:=wk hv;obtain ⟨x0,l0,rfl,y0,hl⟩:=hl.qa;obtain ⟨x1,l1,rfl,y1,hl⟩:=hl.qa;obtain ⟨x2,l2,rfl,y2,hl⟩:=hl.qa;obtain ⟨x3,l3,rfl,y3,hl⟩:=hl.qa;obtain ⟨x4,l4,rfl,y4,hl⟩:=hl.qa;cases hl.uc;obtain rfl:=mi hf (vi ng) y0;obtain rfl:=mi hf (vi ng) y1;obtain rfl:=mi hf (vi ng) y2;obtain rfl:=mi hf (vi ng) y3;obtain ⟨b',s',c',hb,rfl,hn,-⟩:=Hi y4 (by omega);have xD:= @Ic.below (Th.at (fun _=>0) (Lx Vv c)) _ _ _ _ _ hS
     split at h5
     . rename_i row ty full hg;obtain ⟨cc,q1,q2,q3,q4,q5⟩:=Ji (Dae _ _) hS hb hg;have key:∀i,∃x y:Int,i<n->w'.cell? ⟨b',i*2,none⟩=some (.int .i64 x)/\w'.cell? ⟨b',i*2+1,none⟩=some (.int .u64 y)/\(-9223372036854775808<=x/\x<=9223372036854775807)/\0<=y/\y<18446744073709551616:=by
        intro i;by_cases hi:i<n
        . obtain ⟨u,v,g1,g2,k1,k2⟩:=iD h5 i hi;obtain ⟨u',r1,-,r2⟩:=q5 _ _ g1;obtain ⟨v',t1,-,t2⟩:=q5 _ _ g2;obtain ⟨x,rfl,-,x0,x1⟩:=te r2 k1;obtain ⟨y,rfl,-,yu⟩:=Ho t2 k2;exact ⟨x,y,fun _=>⟨r1,t1,⟨x0,x1⟩,yu.1,yu.2⟩⟩
        . exact ⟨0,0,fun h=>absurd h hi⟩
       refine ⟨some ⟨b',0,none⟩,n,c',fun i=>Classical.choose (key i),fun i=>Classical.choose (Classical.choose_spec (key i)),rfl,⟨xD.os,xD.tape,xD.output,xD.size,fun k hk=>xD.block k hk (by omega)⟩,h3,fun i hi=> ?_⟩;obtain ⟨z1,z2,z3,z4⟩:=Classical.choose_spec (Classical.choose_spec (key i)) hi;exact ⟨b',0,rfl,hS.lt _ _ _ hb,by rw [Nat.zero_add];exact z1,by rw [Nat.zero_add];exact z2,z3,z4⟩
     . cases h5
   . cases Fq
 . cases Fq
end
end Sk
end Go.Proofs.YtfnkmolffhfpoaaGreat
namespace Go.Proofs.YtfnkmolffhfpoaaGreat
namespace Sk
theorem fr0:pd 0=true:=by kernel_rfl
theorem fr1:pd 1=true:=by kernel_rfl
theorem fr2:pd 2=true:=by kernel_rfl
theorem fr3:pd 3=true:=by kernel_rfl
theorem fr4:pd 4=true:=by kernel_rfl
theorem fr5:pd 5=true:=by kernel_rfl
theorem fr6:pd 6=true:=by kernel_rfl
theorem fr7:pd 7=true:=by kernel_rfl
theorem fr8:pd 8=true:=by kernel_rfl
theorem fr9:pd 9=true:=by kernel_rfl
theorem lav:pd 10=true:=by kernel_rfl
theorem mav:pd 11=true:=by kernel_rfl
theorem nav:pd 12=true:=by kernel_rfl
theorem oav:pd 13=true:=by kernel_rfl
theorem pav:pd 14=true:=by kernel_rfl
theorem qav:pd 15=true:=by kernel_rfl
theorem rav:pd 16=true:=by kernel_rfl
theorem sav:pd 17=true:=by kernel_rfl
theorem tav:pd 18=true:=by kernel_rfl
theorem uav:pd 19=true:=by kernel_rfl
theorem vav:pd 20=true:=by kernel_rfl
theorem wav:pd 21=true:=by kernel_rfl
theorem xav:pd 22=true:=by kernel_rfl
theorem yav:pd 23=true:=by kernel_rfl
theorem zav:pd 24=true:=by kernel_rfl
theorem Aav:pd 25=true:=by kernel_rfl
theorem Bav:pd 26=true:=by kernel_rfl
theorem Cav:pd 27=true:=by kernel_rfl
theorem Dav:pd 28=true:=by kernel_rfl
theorem Eav:pd 29=true:=by kernel_rfl
end Sk
end Go.Proofs.YtfnkmolffhfpoaaGreat
namespace Go.Proofs.YtfnkmolffhfpoaaGreat
namespace Sk
open Go.RowKit
theorem QZ:∀s,s<30->pd s=true
 |0,_=>fr0
 |1,_=>fr1
 |2,_=>fr2
 |3,_=>fr3
 |4,_=>fr4
 |5,_=>fr5
 |6,_=>fr6
 |7,_=>fr7
 |8,_=>fr8
 |9,_=>fr9
 |10,_=>lav
 |11,_=>mav
 |12,_=>nav
 |13,_=>oav
 |14,_=>pav
 |15,_=>qav
 |16,_=>rav
 |17,_=>sav
 |18,_=>tav
 |19,_=>uav
 |20,_=>vav
 |21,_=>wav
 |22,_=>xav
 |23,_=>yav
 |24,_=>zav
 |25,_=>Aav
 |26,_=>Bav
 |27,_=>Cav
 |28,_=>Dav
 |29,_=>Eav
 |s+30,h=>absurd h (by omega)
theorem PS{c:Dc}(hf:Bg c)(h30:c.sl<=30)(W:World):
  Calls Tryz.prog 24 #[.agg #[.int .i64 c.th, .int .i64 c.sl, .int .i64 c.lo, .int .i64 c.bu]] W (fun e w'=>∃(a:Option Addr) (len cap:Nat) (at_ wv:Nat->Int),e= .returned (.agg #[.int .i64 c.th, .int .i64 c.sl, .int .i64 c.lo, .int .i64 c.bu, .slice a len cap])/\Below W.heap.size W w'/\len<=100/\Xt w' a len at_ wv):=by
 have h0:=hf.qK;exact sO (QZ (c.sl.toNat -1) (by omega)) hf (by omega) W
end Sk
end Go.Proofs.YtfnkmolffhfpoaaGreat
