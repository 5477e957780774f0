/- -/
import Derived.Test.YtfnkmolffhfpoaaGreatHp27
import Derived.Test.YtfnkmolffhfpoaaGreatHp13
import Derived.Test.YtfnkmolffhfpoaaGreatHp11
import Derived.Test.YtfnkmolffhfpoaaGreatHp23
set_option linter.unusedVariables false
set_option linter.unusedSimpArgs false
set_option linter.unusedSectionVars false
namespace Go.Proofs.YtfnkmolffhfpoaaGreat
namespace Sk
open Go.RowKit
def Tr.keys{α:Type}:Tr α->List (Nat×α)
 | .nil=>[]
 | .node l v r=>(match v with|some x=>[(0,x)]|none=>[])++((l.keys.map fun p=>(2*p.1+1,p.2))++(r.keys.map fun p=>(2*p.1+2,p.2)))
theorem fy{α:Type}:∀(t:Tr α) (n:Nat) (x:α),t.get n=some x->(n,x)∈t.keys
 | .nil,n,x,h=>by rw [Tr.get_nil]at h;cases h
 | .node l v r,0,x,h=>by
   rw [Tr.qq]at h;simp only at h;subst h;simp [Tr.keys]
 | .node l v r,n+1,x,h=>by
   rw [Tr.qq]at h;simp only at h;unfold Tr.keys
   split at h
   . rename_i hb;have hb:n %2=0:=by rw [Va]at hb;exact of_decide_eq_true hb
     have:=fy l _ x h;refine List.mem_append.2 (.inr (List.mem_append.2 (.inl (List.mem_map.2 ⟨_,this, ?_⟩))))
     show(2*(n/2)+1,x)=(n+1,x)
     rw [show 2*(n/2)+1=n+1 by omega]
   . rename_i hb;have hb:¬n %2=0:=by rw [Va]at hb;exact of_decide_eq_false hb
     have:=fy r _ x h;refine List.mem_append.2 (.inr (List.mem_append.2 (.inr (List.mem_map.2 ⟨_,this, ?_⟩))))
     show(2*(n/2)+2,x)=(n+1,x)
     rw [show 2*(n/2)+2=n+1 by omega]
section
variable{ρ:Nat->Int}{γ:Nat->Gh}{F:List (Value×Value)}
def OE(ρ:Nat->Int)(γ:Nat->Gh)(F:List (Value×Value))(f:FuncId)(g:List (Value×Value)->List Value->AH->Option (Value×AH)):Prop:=
 @yG (Th.at ρ γ) Tryz.prog F g f/\∀(args:Array Value) (w:World),(callFunc f args).run Tryz.prog w= .ok (.enter f args) w
variable(hF:∀p,p∈F-> @den (Th.at ρ γ) p.1= @den (Th.at ρ γ) p.2)
include hF
theorem IaJ:OE ρ γ F 72 (UC):=⟨LP hF,fun args w=>Ca Tryz.func72 (by kernel_rfl) rfl args w⟩
theorem JaJ:OE ρ γ F 83 (oAt):=⟨Xag hF,fun args w=>Ca Tryz.func83 (by kernel_rfl) rfl args w⟩
theorem KaJ:OE ρ γ F 127 (Kc ep [3,8,6]):=⟨@Ib (Th.at ρ γ) (Ia ρ γ) _ _ hF _ _ _ (by decide) (@kaJ (Th.at ρ γ) (Ia ρ γ)),fun args w=>Ca Tryz.func127 (by kernel_rfl) rfl args w⟩
theorem LaJ:OE ρ γ F 46 (RC):=⟨IP hF,fun args w=>Ca Tryz.func46 (by kernel_rfl) rfl args w⟩
theorem MaJ:OE ρ γ F 47 (oDo):=⟨pah hF,fun args w=>Ca Tryz.func47 (by kernel_rfl) rfl args w⟩
theorem NaJ:OE ρ γ F 240 (fZ):=⟨VZ,fun args w=>Ca Tryz.func240 (by kernel_rfl) rfl args w⟩
theorem OaJ:OE ρ γ F 64 (dL):=⟨fU hF,fun args w=>Ca Tryz.func64 (by kernel_rfl) rfl args w⟩
theorem PaJ:OE ρ γ F 341 (Hz 10):=⟨Pj hF qaJ,fun args w=>Ca Tryz.func341 (by kernel_rfl) rfl args w⟩
theorem QaJ:OE ρ γ F 133 (Hz 11):=⟨Pj hF raJ,fun args w=>Ca Tryz.func133 (by kernel_rfl) rfl args w⟩
theorem RaJ:OE ρ γ F 211 (Hz 12):=⟨Pj hF saJ,fun args w=>Ca Tryz.func211 (by kernel_rfl) rfl args w⟩
theorem SaJ:OE ρ γ F 84 (Kc Tq [3,3]):=⟨@Ib (Th.at ρ γ) (Ia ρ γ) _ _ hF _ _ _ (by decide) (@jaJ (Th.at ρ γ) (Ia ρ γ)),fun args w=>Ca Tryz.func84 (by kernel_rfl) rfl args w⟩
theorem TaJ:OE ρ γ F 131 (Kc aZ [7]):=⟨@Ib (Th.at ρ γ) (Ia ρ γ) _ _ hF _ _ _ (by decide) (@iaJ (Th.at ρ γ) (Ia ρ γ)),fun args w=>Ca Tryz.func131 (by kernel_rfl) rfl args w⟩
theorem Ear:OE ρ γ F 65 (eL):=⟨gU hF,fun args w=>Ca Tryz.func65 (by kernel_rfl) rfl args w⟩
theorem Far:OE ρ γ F 66 (SC):=⟨JP hF,fun args w=>Ca Tryz.func66 (by kernel_rfl) rfl args w⟩
theorem Gar:OE ρ γ F 67 (TC):=⟨KP hF,fun args w=>Ca Tryz.func67 (by kernel_rfl) rfl args w⟩
theorem Har:OE ρ γ F 267 (Hz 5):=⟨Pj hF Zaq,fun args w=>Ca Tryz.func267 (by kernel_rfl) rfl args w⟩
theorem Iar:OE ρ γ F 120 (Kc uS [7]):=⟨@Ib (Th.at ρ γ) (Ia ρ γ) _ _ hF _ _ _ (by decide) (@waq (Th.at ρ γ) (Ia ρ γ)),fun args w=>Ca Tryz.func120 (by kernel_rfl) rfl args w⟩
theorem Jar:OE ρ γ F 288 (Hz 17):=⟨Pj hF far,fun args w=>Ca Tryz.func288 (by kernel_rfl) rfl args w⟩
theorem Kar:OE ρ γ F 124 (Hz 7):=⟨Pj hF bar,fun args w=>Ca Tryz.func124 (by kernel_rfl) rfl args w⟩
theorem Lar:OE ρ γ F 126 (Hz 6):=⟨Pj hF aar,fun args w=>Ca Tryz.func126 (by kernel_rfl) rfl args w⟩
theorem Mar:OE ρ γ F 128 (Kc JI [7]):=⟨@Ib (Th.at ρ γ) (Ia ρ γ) _ _ hF _ _ _ (by decide) (@Eaq (Th.at ρ γ) (Ia ρ γ)),fun args w=>Ca Tryz.func128 (by kernel_rfl) rfl args w⟩
theorem Nar:OE ρ γ F 132 (Kc DO [7]):=⟨@Ib (Th.at ρ γ) (Ia ρ γ) _ _ hF _ _ _ (by decide) (@Daq (Th.at ρ γ) (Ia ρ γ)),fun args w=>Ca Tryz.func132 (by kernel_rfl) rfl args w⟩
theorem Oar:OE ρ γ F 134 (Kc TA [7]):=⟨@Ib (Th.at ρ γ) (Ia ρ γ) _ _ hF _ _ _ (by decide) (@Gaq (Th.at ρ γ) (Ia ρ γ)),fun args w=>Ca Tryz.func134 (by kernel_rfl) rfl args w⟩
theorem Par:OE ρ γ F 150 (Kc aZ [7]):=⟨@Ib (Th.at ρ γ) (Ia ρ γ) _ _ hF _ _ _ (by decide) (@yaq (Th.at ρ γ) (Ia ρ γ)),fun args w=>Ca Tryz.func150 (by kernel_rfl) rfl args w⟩
theorem Qar:OE ρ γ F 153 (Kc TA [7]):=⟨@Ib (Th.at ρ γ) (Ia ρ γ) _ _ hF _ _ _ (by decide) (@Haq (Th.at ρ γ) (Ia ρ γ)),fun args w=>Ca Tryz.func153 (by kernel_rfl) rfl args w⟩
theorem Rar:OE ρ γ F 155 (Kc ep [3,8,6]):=⟨@Ib (Th.at ρ γ) (Ia ρ γ) _ _ hF _ _ _ (by decide) (@Taq (Th.at ρ γ) (Ia ρ γ)),fun args w=>Ca Tryz.func155 (by kernel_rfl) rfl args w⟩
theorem Sar:OE ρ γ F 156 (Kc JI [7]):=⟨@Ib (Th.at ρ γ) (Ia ρ γ) _ _ hF _ _ _ (by decide) (@Faq (Th.at ρ γ) (Ia ρ γ)),fun args w=>Ca Tryz.func156 (by kernel_rfl) rfl args w⟩
theorem Tar:OE ρ γ F 161 (Kc Tq [3,3]):=⟨@Ib (Th.at ρ γ) (Ia ρ γ) _ _ hF _ _ _ (by decide) (@Oaq (Th.at ρ γ) (Ia ρ γ)),fun args w=>Ca Tryz.func161 (by kernel_rfl) rfl args w⟩
theorem Uar:OE ρ γ F 217 (Kc ti [7]):=⟨@Ib (Th.at ρ γ) (Ia ρ γ) _ _ hF _ _ _ (by decide) (@Kaq (Th.at ρ γ) (Ia ρ γ)),fun args w=>Ca Tryz.func217 (by kernel_rfl) rfl args w⟩
theorem War:OE ρ γ F 212 (Hz 13):=⟨Pj hF dar,fun args w=>Ca Tryz.func212 (by kernel_rfl) rfl args w⟩
theorem Xar:OE ρ γ F 223 (eZ 8):=⟨UZ hF,fun args w=>Ca Tryz.func223 (by kernel_rfl) rfl args w⟩
theorem Yar:OE ρ γ F 224 (Kc Ls [3,3]):=⟨@Ib (Th.at ρ γ) (Ia ρ γ) _ _ hF _ _ _ (by decide) (@Paq (Th.at ρ γ) (Ia ρ γ)),fun args w=>Ca Tryz.func224 (by kernel_rfl) rfl args w⟩
theorem Zar:OE ρ γ F 236 (Kc Ah [7]):=⟨@Ib (Th.at ρ γ) (Ia ρ γ) _ _ hF _ _ _ (by decide) (@Maq (Th.at ρ γ) (Ia ρ γ)),fun args w=>Ca Tryz.func236 (by kernel_rfl) rfl args w⟩
theorem aas:OE ρ γ F 237 (iv):=⟨GJ hF,fun args w=>Ca Tryz.func237 (by kernel_rfl) rfl args w⟩
theorem bas:OE ρ γ F 243 (Kc uS [7]):=⟨@Ib (Th.at ρ γ) (Ia ρ γ) _ _ hF _ _ _ (by decide) (@xaq (Th.at ρ γ) (Ia ρ γ)),fun args w=>Ca Tryz.func243 (by kernel_rfl) rfl args w⟩
theorem cas:OE ρ γ F 244 (iZ):=⟨K0 hF,fun args w=>Ca Tryz.func244 (by kernel_rfl) rfl args w⟩
theorem das:OE ρ γ F 249 (Kc Ls [3,3]):=⟨@Ib (Th.at ρ γ) (Ia ρ γ) _ _ hF _ _ _ (by decide) (@Qaq (Th.at ρ γ) (Ia ρ γ)),fun args w=>Ca Tryz.func249 (by kernel_rfl) rfl args w⟩
theorem eas:OE ρ γ F 251 (Kc ti [7]):=⟨@Ib (Th.at ρ γ) (Ia ρ γ) _ _ hF _ _ _ (by decide) (@Laq (Th.at ρ γ) (Ia ρ γ)),fun args w=>Ca Tryz.func251 (by kernel_rfl) rfl args w⟩
theorem fas:OE ρ γ F 252 (Kc si [7]):=⟨@Ib (Th.at ρ γ) (Ia ρ γ) _ _ hF _ _ _ (by decide) (@Jaq (Th.at ρ γ) (Ia ρ γ)),fun args w=>Ca Tryz.func252 (by kernel_rfl) rfl args w⟩
theorem gas:OE ρ γ F 281 (Kc si [7]):=⟨@Ib (Th.at ρ γ) (Ia ρ γ) _ _ hF _ _ _ (by decide) (@Iaq (Th.at ρ γ) (Ia ρ γ)),fun args w=>Ca Tryz.func281 (by kernel_rfl) rfl args w⟩
theorem ias:OE ρ γ F 182 (Hz 16):=⟨Pj hF ear,fun args w=>Ca Tryz.func182 (by kernel_rfl) rfl args w⟩
theorem jas:OE ρ γ F 289 (Kc DF [3,6]):=⟨@Ib (Th.at ρ γ) (Ia ρ γ) _ _ hF _ _ _ (by decide) (@Raq (Th.at ρ γ) (Ia ρ γ)),fun args w=>Ca Tryz.func289 (by kernel_rfl) rfl args w⟩
theorem kas:OE ρ γ F 292 (Kc Ah [7]):=⟨@Ib (Th.at ρ γ) (Ia ρ γ) _ _ hF _ _ _ (by decide) (@Naq (Th.at ρ γ) (Ia ρ γ)),fun args w=>Ca Tryz.func292 (by kernel_rfl) rfl args w⟩
theorem las:OE ρ γ F 293 (Kc Tp [7]):=⟨@Ib (Th.at ρ γ) (Ia ρ γ) _ _ hF _ _ _ (by decide) (@Aaq (Th.at ρ γ) (Ia ρ γ)),fun args w=>Ca Tryz.func293 (by kernel_rfl) rfl args w⟩
theorem mas:OE ρ γ F 308 (Kc Tp [7]):=⟨@Ib (Th.at ρ γ) (Ia ρ γ) _ _ hF _ _ _ (by decide) (@zaq (Th.at ρ γ) (Ia ρ γ)),fun args w=>Ca Tryz.func308 (by kernel_rfl) rfl args w⟩
theorem nas:OE ρ γ F 309 (Kc CO [7]):=⟨@Ib (Th.at ρ γ) (Ia ρ γ) _ _ hF _ _ _ (by decide) (@Baq (Th.at ρ γ) (Ia ρ γ)),fun args w=>Ca Tryz.func309 (by kernel_rfl) rfl args w⟩
theorem oas:OE ρ γ F 301 (Kc DF [3,6]):=⟨@Ib (Th.at ρ γ) (Ia ρ γ) _ _ hF _ _ _ (by decide) (@Saq (Th.at ρ γ) (Ia ρ γ)),fun args w=>Ca Tryz.func301 (by kernel_rfl) rfl args w⟩
theorem pas:OE ρ γ F 302 (Kc CO [7]):=⟨@Ib (Th.at ρ γ) (Ia ρ γ) _ _ hF _ _ _ (by decide) (@Caq (Th.at ρ γ) (Ia ρ γ)),fun args w=>Ca Tryz.func302 (by kernel_rfl) rfl args w⟩
theorem qas:OE ρ γ F 343 (Hz 9):=⟨Pj hF car,fun args w=>Ca Tryz.func343 (by kernel_rfl) rfl args w⟩
theorem rah:OE ρ γ F 185 oHd:=⟨Yag hF,fun args w=>Ca Tryz.func185 (by kernel_rfl) rfl args w⟩
theorem ras:OE ρ γ F 94 gZ:=⟨P0 hF,fun args w=>Ca Tryz.func94 (by kernel_rfl) rfl args w⟩
omit hF in
theorem Ha{c:Nat}{g g0:List (Value×Value)->List Value->AH->Option (Value×AH)}(h:Faf c=some g)(h0:Faf c=some g0):g=g0:=by rw [h0]at h;cases h;rfl
def zU:List (Nat×Nat):=[(72,33),(83,27),(127,14),(46,29),(47,35),(240,26),(64,28),(341,20),(133,21),(211,22),(84,11),(131,2),(65,30),(66,31),(67,32),(267,15),(120,1),(288,25),(124,17),(126,16),(128,6),(132,5),(134,7),(150,2),(153,7),(155,14),(156,6),(161,11),(217,9),(212,23),(223,18),(224,12),(236,10),(237,34),(243,1),(244,36),(249,12),(251,9),(252,8),(281,8),(182,24),(289,13),(292,10),(293,3),(308,3),(309,4),(301,13),(302,4),(343,19),(185,37),(94,38)]
omit hF in
theorem AU:(Gaf.keys.all fun p=>zU.any fun q=>Nat.beq p.1 q.1&&Nat.beq p.2 q.2)=true:=by kernel_rfl
omit hF in
theorem Q0{f c:Nat}(h:Gaf.get f=some c):(f,c)∈zU:=by
 have h1:=List.all_eq_true.1 AU _ (fy _ _ _ h)
 obtain ⟨q,hq,h2⟩:=List.any_eq_true.1 h1
 rw [Bool.and_eq_true,Va,Va]at h2;have e1:=of_decide_eq_true h2.1
 have e2:=of_decide_eq_true h2.2
 obtain ⟨a,b⟩:=q;simp only at e1 e2;subst e1 e2;exact hq
theorem S0{f:FuncId}{g:List (Value×Value)->List Value->AH->Option (Value×AH)}(h:jZ f=some g):OE ρ γ F f g:=by
 unfold jZ at h
 split at h
 . rename_i c hc;have hm:=Q0 hc;simp only [zU,List.mem_cons,Prod.mk.injEq,List.not_mem_nil,or_false]at hm;rcases hm with⟨rfl,rfl⟩|⟨rfl,rfl⟩|⟨rfl,rfl⟩|⟨rfl,rfl⟩|⟨rfl,rfl⟩|⟨rfl,rfl⟩|⟨rfl,rfl⟩|⟨rfl,rfl⟩|⟨rfl,rfl⟩|⟨rfl,rfl⟩|⟨rfl,rfl⟩|⟨rfl,rfl⟩|⟨rfl,rfl⟩|⟨rfl,rfl⟩|⟨rfl,rfl⟩|⟨rfl,rfl⟩|⟨rfl,rfl⟩|⟨rfl,rfl⟩|⟨rfl,rfl⟩|⟨rfl,rfl⟩|⟨rfl,rfl⟩|⟨rfl,rfl⟩|⟨rfl,rfl⟩|⟨rfl,rfl⟩|⟨rfl,rfl⟩|⟨rfl,rfl⟩|⟨rfl,rfl⟩|⟨rfl,rfl⟩|⟨rfl,rfl⟩|⟨rfl,rfl⟩|⟨rfl,rfl⟩|⟨rfl,rfl⟩|⟨rfl,rfl⟩|⟨rfl,rfl⟩|⟨rfl,rfl⟩|⟨rfl,rfl⟩|⟨rfl,rfl⟩|⟨rfl,rfl⟩|⟨rfl,rfl⟩|⟨rfl,rfl⟩|⟨rfl,rfl⟩|⟨rfl,rfl⟩|⟨rfl,rfl⟩|⟨rfl,rfl⟩|⟨rfl,rfl⟩|⟨rfl,rfl⟩|⟨rfl,rfl⟩|⟨rfl,rfl⟩|⟨rfl,rfl⟩|⟨rfl,rfl⟩|⟨rfl,rfl⟩
   . rw [Ha h rfl];exact IaJ hF
   . rw [Ha h rfl];exact JaJ hF
   . rw [Ha h rfl];exact KaJ hF
   . rw [Ha h rfl];exact LaJ hF
   . rw [Ha h rfl];exact MaJ hF
   . rw [Ha h rfl];exact NaJ hF
   . rw [Ha h rfl];exact OaJ hF
   . rw [Ha h rfl];exact PaJ hF
   . rw [Ha h rfl];exact QaJ hF
   . rw [Ha h rfl];exact RaJ hF
   . rw [Ha h rfl];exact SaJ hF
   . rw [Ha h rfl];exact TaJ hF
   . rw [Ha h rfl];exact Ear hF
   . rw [Ha h rfl];exact Far hF
   . rw [Ha h rfl];exact Gar hF
   . rw [Ha h rfl];exact Har hF
   . rw [Ha h rfl];exact Iar hF
   . rw [Ha h rfl];exact Jar hF
   . rw [Ha h rfl];exact Kar hF
   . rw [Ha h rfl];exact Lar hF
   . rw [Ha h rfl];exact Mar hF
   . rw [Ha h rfl];exact Nar hF
   . rw [Ha h rfl];exact Oar hF
   . rw [Ha h rfl];exact Par hF
   . rw [Ha h rfl];exact Qar hF
   . rw [Ha h rfl];exact Rar hF
   . rw [Ha h rfl];exact Sar hF
   . rw [Ha h rfl];exact Tar hF
   . rw [Ha h rfl];exact Uar hF
   . rw [Ha h rfl];exact War hF
   . rw [Ha h rfl];exact Xar hF
   . rw [Ha h rfl];exact Yar hF
   . rw [Ha h rfl];exact Zar hF
   . rw [Ha h rfl];exact aas hF
   . rw [Ha h rfl];exact bas hF
   . rw [Ha h rfl];exact cas hF
   . rw [Ha h rfl];exact das hF
   . rw [Ha h rfl];exact eas hF
   . rw [Ha h rfl];exact fas hF
   . rw [Ha h rfl];exact gas hF
   . rw [Ha h rfl];exact ias hF
   . rw [Ha h rfl];exact jas hF
   . rw [Ha h rfl];exact kas hF
   . rw [Ha h rfl];exact las hF
   . rw [Ha h rfl];exact mas hF
   . rw [Ha h rfl];exact nas hF
   . rw [Ha h rfl];exact oas hF
   . rw [Ha h rfl];exact pas hF
   . rw [Ha h rfl];exact qas hF
   . rw [Ha h rfl];exact rah hF
   . rw [Ha h rfl];exact ras hF
 . cases h
theorem sah{E:Env}(hP:E.P=Tryz.prog)(ho:E.orc=jZ)(hf:E.facts=F): @yk (Th.at ρ γ) E:=by
 letI:Interp:=Th.at ρ γ
 intro f g hg args σ v σ' Vj B w0 R w args' hS hl;rw [ho]at hg;rw [hf]at Vj;obtain ⟨h1,h2⟩:=S0 hF hg;rw [hP];refine ⟨h2 args' w,fun Fe hFe n=> ?_⟩;exact hFe.calls (h1 args σ v σ' Vj B w0 R w args'.toList hS hl)
end
theorem SG:Tryz.prog.follows .mixedOrders=true:=by kernel_rfl
theorem Kn(ρ:Nat->Int)(γ:Nat->Gh)(F:List (Value×Value))(hF:∀p,p∈F-> @den (Th.at ρ γ) p.1= @den (Th.at ρ γ) p.2): @Yb (Th.at ρ γ) (env.Ll F)/\ @yk (Th.at ρ γ) (env.Ll F):=by
 letI:Interp:=Th.at ρ γ
 haveI:Wc:=Ia ρ γ
 have h0:Yb env:=lS fL VA gL WA SG (fun F hF v c hv=>wG F hF v c hv) (fun e o ty v h g r O w hd hg=>NZ e o ty v h g r O w hd hg);exact ⟨h0.Ll hF,sah hF rfl rfl rfl⟩
end Sk
end Go.Proofs.YtfnkmolffhfpoaaGreat
namespace Go.Proofs.YtfnkmolffhfpoaaGreat
namespace Sk
noncomputable section
def Uf(Sb:List ah)(b i:Nat):Option Value:=
 match Xf Sb b with
 |some (.cells l _ _)=>match Xf l i with|some o=>o|none=>none
 |_=>none
def TG(u:Value)(o:Option Value):Bool:=match o with|some v=>re 60 u v|none=>false
def TJ(b c:Bool):Bool:=match b with|true=>c|false=>Wg c
def fM(o:Option Value)(b:Bool):Bool:=
 match o with
 |some (.int .i64 n)=>TJ b (ae n 0)
 |_=>false
def isVar(k i:Nat)(v:Value):Bool:=
 match v with
 | .func (.methodOf t _) ⟨[.int _ (.ofNat j)]⟩ _=>La (Nat.beq t k) (Nat.beq j i)
 |_=>false
def arity(t n:Nat):Bool:=BE (La (Nat.beq t 25) (Nat.beq n 2)) (BE (La (Nat.beq t 41) (Nat.beq n 3)) (BE (La (Nat.beq t 57) (Nat.beq n 4)) (BE (La (Nat.beq t 73) (Nat.beq n 2)) (La (Nat.beq t 89) (Nat.beq n 1)))))
def T0:Nat->Value->Bool
 |0,_=>false
 |d+1,e=>match e with
  | .func (.methodOf t _) ⟨l⟩ _=>match Nat.beq t 9 with
    |true=>true
    |false=>match l with
     |x::ys=>match arity t (Ze ys)with|true=>T0 d x|false=>false
     |[]=>false
  |_=>false
def gM(η:List Value):Bool:=
 match η with
 |e::l::_=>match deep 30 e with|some (_,r)=>La (T0 30 e) (La (isVar 9 0 r) (isVar 11 1 l))|none=>false
 |_=>false
def idT:Nat->List Value->Bool
 |_,[]=>true
 |i,u::us=>match QC u with|some j=>La (Nat.beq j i) (idT (Nat.succ i) us)|none=>false
def idG:List Value->Bool
 |e::l::[]=>La (isVar 9 0 e) (isVar 11 1 l)
 |_=>false
def idS(s:Bd):Bool:=La (idT 0 s.θ) (idG s.η)
structure Ob where
 cs:List (FuncId×List Value)
 ok:List ah->List Value->Bool
def tah(E:Env)(S:Shape)(o:Ob):Bool:=Ml E 100000 o.cs (fun S vs s=>La (idS s) (o.ok S.Sb vs)) [S] 5 (Rp S.Sb) (.leaf 0) (pj S.facts Ak)
structure uah where
 done:Nat
 result:Nat
 holds:Nat
 vah:Nat
 Vq:Nat
 gy:Nat
 writes:Nat
 line:Nat
 last:Nat
def pV:Value:= .pointer (some ⟨0,0,none⟩)
def qV:Value:= .pointer (some ⟨1,0,none⟩)
def BU(f:Nat)(g:List ah->Value->Bool):Ob:=⟨[(f,[pV])],fun Sb vs=>match vs with|[v]=>g Sb v|_=>false⟩
def vi(k:Nat)(v:Value):Bool:=match Wf v with|some j=>Nat.beq j k|none=>false
def uah.obs(t:uah):List Ob:=
 [BU t.done fun Sb v=>(match v with| .bool b=>fM (Uf Sb 1 t.line) b|_=>false),
  BU t.result fun Sb v=>(match v with| .agg ⟨[a,b]⟩=>La (La (vi 3 a) (vi 6 b)) (La (TG a (Uf Sb 1 t.last)) (TG b (Uf Sb 1 (Nat.add t.last 1))))|_=>false),
  ⟨[(t.holds,[pV]),(t.vah,[qV])],fun Sb vs=>match vs with|[a,b]=>La (vi 3 a) (re 60 a b)|_=>false⟩,
  BU t.Vq fun Sb v=>La (vi 3 v) (TG v (Uf Sb 1 (Nat.add t.last 2))),
  BU t.gy fun Sb v=>La (vi 3 v) (TG v (Uf Sb 1 (Nat.add t.last 3))),
  BU t.writes fun Sb v=>La (vi 3 v) (TG v (Uf Sb 1 (Nat.add t.last 4)))]
def CU(line:Nat)(S:Shape)(vs:List Value)(s:Bd):Bool:=
 match vs with
 |[.bool b,_]=>La (fM (Uf S.Sb 1 line) b) (gM s.η)
 |_=>false
end
end Sk
end Go.Proofs.YtfnkmolffhfpoaaGreat
namespace Go.Proofs.YtfnkmolffhfpoaaGreat
namespace Sk
open Go.RowKit
noncomputable section
def tas(E0:Env)(n:Nat)(cs:List (FuncId×List Value))(f0:List Value->List Nat)(post:Shape->List Value->Bd->Bool)(tab:List Shape)(σ:AH):Tree->List (Value×Value)->Bool
 | .leaf j,F=>match runs (E0.Ll F) n cs σ with
   |some (vs,σ')=>match Xf tab j with
    |some S=>match II σ' 0 ⟨f0 vs,[],[]⟩ S.Sb with
     |s=>match OQ (E0.Ll F) S 0 σ' s with|true=>post S vs s|false=>false
    |none=>false
   |none=>false
 | .no t lo hi,F=>VY F t lo hi
 | .split c l r,F=>match isB c with
   |true=>match tas E0 n cs f0 post tab σ l ((c, .bool true)::F)with
    |true=>tas E0 n cs f0 post tab σ r ((c, .bool false)::F)
    |false=>false
   |false=>false
def WaJ:List Nat->List Nat->Bool
 |[],_=>true
 |a::az,b::bs=>match Nat.beq a b with|true=>WaJ az bs|false=>false
 |_::_,[]=>false
def vaR(vs:List Value):List Nat:=
 match vs with
 |[u,v]=>[jn u,jn v,0,1,2]
 |_=>[]
def UJ(v:Value):Bool:=
 match v with
 | .pointer (some ⟨_,o,none⟩)=>Nat.beq o 0
 |_=>false
section
variable{T:Kj}{E0:Env}
end
end
def notM(t:Nat)(l:List Value):Bool:=
 match Nat.ble 16 t with
 |true=>true
 |false=>match Nat.ble (Nat.mod t 16) 8 with
  |true=>true
  |false=>match l with
   |[.int _ (.ofNat (i+1))]=>true
   |_=>false
mutual
def Ev:Nat->Value->Bool
 |0,_=>false
 |d+1,v=>match v with
  | .func f ⟨a⟩ ⟨c⟩=>match f with
    | .methodOf t _=>La (notM t a) (Su d a)
    |_=>La (Su d a) (Su d c)
  | .agg ⟨l⟩=>Su d l
  | .tuple ⟨l⟩=>Su d l
  | .iface _ u=>Ev d u
  |_=>true
def Su:Nat->List Value->Bool
 |0,_=>false
 |d+1,l=>match l with
  |[]=>true
  |x::xs=>match Ev d x with|true=>Su d xs|false=>false
end
section
variable{ρ:Nat->Int}{γ γ':Nat->Gh}(hγ:∀i,1<=i->γ i=γ' i)
include hγ
theorem Er:∀(d:Nat),(∀v,Ev d v=true-> @den (Th.at ρ γ) v= @den (Th.at ρ γ') v)/\(∀l,Su d l=true-> @mc (Th.at ρ γ) l= @mc (Th.at ρ γ') l)
 |0=>⟨fun v h=>by simp [Ev]at h,fun l h=>by simp [Su]at h⟩
 |d+1=>by
  obtain ⟨ih1,ih2⟩:=Er d;refine ⟨fun v h=> ?_,fun l h=> ?_⟩
  . cases v with
    |func f a c=>
     obtain ⟨a⟩:=a;obtain ⟨c⟩:=c;cases f with
     |methodOf t s=>
      simp only [Ev,Da,Bool.and_eq_true]at h;obtain ⟨h1,h2⟩:=h;have e:=ih2 a h2
      show @Bh (Th.at ρ γ) t (@mc (Th.at ρ γ) a)= @Bh (Th.at ρ γ') t (@mc (Th.at ρ γ') a)
      rw [e];unfold Bh
      split
      . rfl
      . rename_i hk;unfold notM at h1
        split at h1
        . rename_i ht;rw [xd]at ht;have ht:=of_decide_eq_true ht;have:∃n,Nat.div t 16=n+1:=Nat.exists_eq_succ_of_ne_zero (Nat.ne_of_gt (Nat.div_pos ht (by decide)));obtain ⟨n,hn⟩:=this;rw [hn];rfl
        . rw [hk]at h1;simp only at h1
          split at h1
          . rename_i q i;have: @mc (Th.at ρ γ') [Value.int q (Int.ofNat (i+1))]=[.v (.int q (Int.ofNat (i+1)))]:=rfl;rw [this];cases hn:Nat.div t 16 with
            |zero=>
             show Tc.g (Ru (Nat.mod t 16) (γ (i+1)))=Tc.g (Ru (Nat.mod t 16) (γ' (i+1)))
             rw [hγ (i+1) (by omega)]
            |succ n=>rfl
          . cases h1
     |_=>rfl
    |_=>rfl
  . cases l with
    |nil=>rfl
    |cons x xs=>
     simp only [Su]at h
     split at h
     . rename_i hx
       show @den (Th.at ρ γ) x:: @mc (Th.at ρ γ) xs= @den (Th.at ρ γ') x:: @mc (Th.at ρ γ') xs
       rw [ih1 x hx,ih2 xs h]
     . cases h
theorem wah{R:Mp}{v v':Value}(h: @VR (Th.at ρ γ) R v v'):∀(d:Nat),Ev d v=true-> @VR (Th.at ρ γ') R v v':=by
 letI:Interp:=Th.at ρ γ'
 have lst:∀(d:Nat) (l:List Value),Su d l=true->∀(i:Nat) (x:Value),l[i]?=some x->∃e,Ev e x=true:=by
  intro d
  induction d with
  |zero=>intro l h;simp [Su]at h
  |succ d ih=>
   intro l h i x hx;cases l with
   |nil=>simp at hx
   |cons y ys=>
    simp only [Su]at h
    split at h
    . rename_i hy;cases i with
      |zero=>simp at hx;subst hx;exact ⟨d,hy⟩
      |succ i=>exact ih ys h i x (by simpa using hx)
    . cases h
 induction h with
 |flat v h=>intro d _;exact .flat v h
 |sym t s l c v' h=>
  intro d hd;exact .sym t s l c v' (((Er hγ d).1 _ hd).symm.trans h)
 |ptr b o b' s h=>intro d _;exact .ptr b o b' s h
 |Fz b o b' s n z c' h hz hc hn=>intro d _;exact .Fz b o b' s n z c' h hz hc hn
 |MQ b o b' s n z c h hz hn=>intro d _;exact .MQ b o b' s n z c h hz hn
 |dI a c'=>intro d _;exact .dI a c'
 |XN a=>intro d _;exact .XN a
 |map r r' s h=>intro d _;exact .map r r' s h
 |fn f a a' c c' ha hc h1 h2 i1 i2=>
  intro d hd;cases d with
  |zero=>simp [Ev]at hd
  |succ d=>
   simp only [Ev,Da,Bool.and_eq_true]at hd;refine .fn f a a' c c' ha hc (fun i x y hx hy=> ?_) (fun i x y hx hy=> ?_)
   . obtain ⟨e,he⟩:=lst d a hd.1 i x hx
     exact i1 i x y hx hy e he
   . obtain ⟨e,he⟩:=lst d c hd.2 i x hx
     exact i2 i x y hx hy e he
 |yl l l' s h=>intro d _;exact .yl l l' s h
 |Kv t v v' h ih=>
  intro d hd;cases d with
  |zero=>simp [Ev]at hd
  |succ d=>exact .Kv t v v' (ih d (by simpa [Ev]using hd))
 |agg l l' hs h ih=>
  intro d hd;cases d with
  |zero=>simp [Ev]at hd
  |succ d=>
   refine .agg l l' hs fun i x y hx hy=> ?_
   obtain ⟨e,he⟩:=lst d l (by simpa [Ev]using hd) i x hx;exact ih i x y hx hy e he
 |kI l l' hs h ih=>
  intro d hd;cases d with
  |zero=>simp [Ev]at hd
  |succ d=>
   refine .kI l l' hs fun i x y hx hy=> ?_
   obtain ⟨e,he⟩:=lst d l (by simpa [Ev]using hd) i x hx;exact ih i x y hx hy e he
end
def VJ:List (Option Value)->Bool
 |[]=>true
 |none::l=>VJ l
 |some v::l=>match Ev 60 v with|true=>VJ l|false=>false
def UG:Nat->List ah->Bool
 |_,[]=>true
 |i,o::os=>match o with
  | .cells l _ _=>match Nat.beq i 2,Nat.beq i 3 with
    |false,false=>(match VJ l with|true=>UG (Nat.succ i) os|false=>false)
    |_,_=>false
  | .gh e=>match i with
    |2=>(match isVar 9 0 e with|true=>UG (Nat.succ i) os|false=>false)
    |3=>(match VC e with|some m=>(match isVar 9 0 m with|true=>UG (Nat.succ i) os|false=>false)|none=>false)
    |_=>(match Ev 60 e with|true=>UG (Nat.succ i) os|false=>false)
def U0:List (Value×Value)->Bool
 |[]=>true
 |p::ps=>match La (Ev 60 p.1) (Ev 60 p.2)with|true=>U0 ps|false=>false
def bQ(S:Shape):Bool:=La (UG 0 S.Sb) (U0 S.facts)
theorem ft:∀{l:List (Option Value)},VJ l=true->∀(i:Nat) (v:Value),l[i]?=some (some v)->Ev 60 v=true
 |[],h,i,v,hv=>by simp at hv
 |none::l,h,i,v,hv=>by
  cases i with
  |zero=>simp at hv
  |succ i=>exact ft (l:=l) (by simpa [VJ]using h) i v (by simpa using hv)
 |some u::l,h,i,v,hv=>by
  simp only [VJ]at h
  split at h
  . rename_i hu;cases i with
    |zero=>simp at hv;subst hv;exact hu
    |succ i=>exact ft h i v (by simpa using hv)
  . cases h
theorem xB:∀{l:List (Value×Value)},U0 l=true->∀p,p∈l->Ev 60 p.1=true/\Ev 60 p.2=true
 |[],h,p,hp=>by simp at hp
 |q::l,h,p,hp=>by
  simp only [U0]at h
  split at h
  . rename_i hq;simp only [Da,Bool.and_eq_true]at hq;rcases List.mem_cons.1 hp with rfl|hp
    . exact hq
    . exact xB h p hp
  . cases h
def uas(i:Nat)(o:ah):Prop:=
 match o with
 | .cells l _ _=>i≠2/\i≠3/\VJ l=true
 | .gh e=>(i=2/\isVar 9 0 e=true)\/(i=3/\∃m,VC e=some m/\isVar 9 0 m=true)\/(i≠2/\i≠3/\Ev 60 e=true)
theorem yB:∀{l:List ah} {i:Nat},UG i l=true->∀(j:Nat) (o:ah),l[j]?=some o->uas (i+j) o
 |[],i,h,j,o,ho=>by simp at ho
 |p::l,i,h,j,o,ho=>by
  have key:uas i p/\UG (Nat.succ i) l=true:=by
   simp only [UG]at h
   split at h
   . rename_i q e f
     split at h
     . rename_i h2 h3
       split at h
       . rename_i hq;rw [Va]at h2 h3;exact ⟨⟨of_decide_eq_false h2,of_decide_eq_false h3,hq⟩,h⟩
       . cases h
     . cases h
   . rename_i e
     split at h
     . split at h
       . rename_i hv;exact ⟨.inl ⟨rfl,hv⟩,h⟩
       . cases h
     . split at h
       . rename_i m hm
         split at h
         . rename_i hv;exact ⟨.inr (.inl ⟨rfl,m,hm,hv⟩),h⟩
         . cases h
       . cases h
     . rename_i h2 h3
       split at h
       . rename_i hv;exact ⟨.inr (.inr ⟨h2,h3,hv⟩),h⟩
       . cases h
  cases j with
  |zero=>simp at ho;subst ho;exact key.1
  |succ j=>
   have:=yB key.2 j o (by simpa using ho)
   rw [show Nat.succ i+j=i+(j+1)by omega]at this;exact this
theorem zB{ρ:Nat->Int}{γ:Nat->Gh}{v:Value}(h:isVar 9 0 v=true): @den (Th.at ρ γ) v= .g (Gh.mem (γ 0).A):=by
 unfold isVar at h
 split at h
 . rename_i t s q j c;simp only [Da,Bool.and_eq_true,Va,decide_eq_true_eq]at h;have h1:t=9:=h.1
   have h2:j=0:=h.2
   subst h1 h2;rfl
 . cases h
theorem InS.mem{S:Shape}{ρ:Nat->Int}{γ:Nat->Gh}{B:Nat->Prop}{w0:World}{R:Mp}{w:World}(hI:InS Th S ρ γ B w0 R w)(hS:bQ S=true){m r s2 s3:Nat}(h2:R 2=some (m,s2))(h3:R 3=some (r,s3))(l2:∃e,S.Sb[2]?=some (.gh e))(l3:∃e,S.Sb[3]?=some (.gh e)):
  ∃(M:Mv) (N:Rv),Ga w M/\M.m=m/\jd M (γ 0).A/\Wd (γ 0).A/\za w N/\N.m=r/\Rb N (γ 0).A/\(∀k,M.own k->¬N.own k)/\(∀k,M.own k->B k)/\(∀k,N.own k->B k)/\
   (∀b q s o,b≠2->b≠3->R b=some (q,s)->(Rp S.Sb).get b=some o->¬M.own q/\¬N.own q)/\
   ∀(w':World) (γ':Nat->Gh) (M':Mv) (N':Rv),(∀i,1<=i->γ i=γ' i)->Ga w' M'->M'.m=m->jd M' (γ' 0).A->Wd (γ' 0).A->za w' N'->N'.m=r->Rb N' (γ' 0).A->
    (∀k,M'.own k->M.own k\/w.heap.size<=k)->(∀k,N'.own k->N.own k)->Ci (fun k=>M.own k\/N.own k) w w'->InS Th S ρ γ' B w0 R w':=by
 letI:Interp:=Th.at ρ γ
 unfold bQ at hS;simp only [Da,Bool.and_eq_true]at hS;obtain ⟨hO,hFa⟩:=hS;have ho:=fun j o h=>by have:=yB hO j o h;rw [Nat.zero_add]at this;exact this
 obtain ⟨facts,Yj⟩:=hI;obtain ⟨O,gO⟩:=Yj.MK;obtain ⟨e2,l2⟩:=l2;obtain ⟨e3,l3⟩:=l3;have g2:(Rp S.Sb).get 2=some (.gh e2):=by rw [Zf,l2];rfl
 have g3:(Rp S.Sb).get 3=some (.gh e3):=by rw [Zf,l3];rfl
 obtain ⟨⟨x2,a1,a2⟩,a3,a4⟩:=gO 2 m s2 e2 h2 g2;obtain ⟨⟨x3,b1,b2⟩,b3,b4⟩:=gO 3 r s3 e3 h3 g3;have v2:isVar 9 0 e2=true:=by
  rcases ho 2 _ l2 with⟨_,q⟩|⟨q,_⟩|⟨q,_⟩
  . exact q
  . cases q
  . exact absurd rfl q
 have v3:∃mm,VC e3=some mm/\isVar 9 0 mm=true:=by
  rcases ho 3 _ l3 with⟨q,_⟩|⟨_,q⟩|⟨_,q,_⟩
  . cases q
  . exact q
  . exact absurd rfl q
 obtain ⟨mm,v3,v3'⟩:=v3;have d2:∀γ:Nat->Gh, @den (Th.at ρ γ) e2= .g (Gh.mem (γ 0).A):=fun γ=>zB v2
 have d3:∀γ:Nat->Gh, @den (Th.at ρ γ) e3= .g (Gh.ref (γ 0).A):=fun γ=>by
  obtain ⟨_,A,q1,q2⟩:=Gx (ρ:=ρ) (γ:=γ) v3;rw [zB v3']at q1;injection q1 with q1
  injection q1 with q1
  rw [q2,<-q1]
 rw [d2 γ]at a1;injection a1 with a1
 subst a1;rw [d3 γ]at b1;injection b1 with b1
 subst b1;obtain ⟨M,m1,m2,m3,m4,m5⟩:=a2;obtain ⟨N,n1,n2,n3,n4,n5⟩:=b2;have dis:∀k,M.own k->¬N.own k:=fun k hk hn=>(a4 3 r s3 _ (by decide) h3 g3).2 e3 rfl k (by rw [m3];exact hk) (by rw [n3];exact hn)
 have vas:∀b q s o,b≠2->b≠3->R b=some (q,s)->(Rp S.Sb).get b=some o->¬M.own q/\¬N.own q:=fun b q s o c2 c3 hb hg=>⟨fun h=>(a4 b q s o c2 hb hg).1 (by rw [m3];exact h),fun h=>(b4 b q s o c3 hb hg).1 (by rw [n3];exact h)⟩
 refine ⟨M,N,m1,m2,m4,m5,n1,n2,n4,dis,fun k hk=>a3 k (by rw [m3];exact hk),fun k hk=>b3 k (by rw [n3];exact hk),vas, ?_⟩;intro w' γ' M' N' hγ p1 p2 p3 p4 p5 p6 p7 p8 p9 pT;have Db:∀b q s e,R b=some (q,s)->(Rp S.Sb).get b=some (.gh e)->∀k,O b k->k<w.heap.size:=fun b q s e hb hg k hk=>by
  obtain ⟨⟨x,y1,y2⟩,_⟩:=gO b q s e hb hg;exact Th.gh_lt x q (O b) w y2 k hk
 refine ⟨fun p hp=> ?_, ?_⟩
 . obtain ⟨f1,f2⟩:=xB hFa p hp;rw [<-(Er hγ 60).1 _ f1,<-(Er hγ 60).1 _ f2];exact facts p hp
 . refine @Qc.mk (Th.at ρ γ') B w0 R (Rp S.Sb) w' Yj.tC (fun b q s hb=>Nat.lt_of_lt_of_le (Yj.lt b q s hb) pT.size) (fun b q s o hb hg=> ?_) Yj.inj ⟨pT.os.trans Yj.below.os,pT.tape.trans Yj.below.tape,pT.output.trans Yj.below.output,Nat.le_trans Yj.below.size pT.size,fun k hk hB=> ?_⟩ Yj.base ?_
   . obtain ⟨c1,c2⟩:=Yj.obj b q s o hb hg;refine ⟨c1, ?_⟩;have hl:=hg;rw [Zf]at hl;cases ho1:S.Sb[b]?with
     |none=>rw [ho1]at hl;cases hl
     |some po=>
      rw [ho1]at hl;cases hl;cases po with
      |gh e=>trivial
      |cells l e full=>
       obtain ⟨z2,z3,z4⟩:=ho b _ ho1;obtain ⟨f1,f2⟩:=vas b q s _ z2 z3 hb hg;rw [pT.block q (Yj.lt b q s hb) (fun h=>h.elim f1 f2)];obtain ⟨c',y1,y2,y3,y4,y5⟩:=c2;refine ⟨c',y1,y2,y3,y4,fun i v hv=> ?_⟩;obtain ⟨t1,v',t2,t3⟩:=y5 i v hv;exact ⟨t1,v',t2,wah hγ t3 60 (ft z4 i v (Lw l e full i v hv))⟩
   . rw [pT.block k (Nat.lt_of_lt_of_le hk Yj.below.size) (fun h=>hB (h.elim (fun h=>a3 k (by rw [m3];exact h)) fun h=>b3 k (by rw [n3];exact h)))];exact Yj.below.block k hk hB
   . obtain ⟨O',u2,u3,ub⟩:∃O':Nat->Nat->Prop,O' 2=M'.own/\O' 3=N'.own/\∀b,b≠2->b≠3->O' b=O b:=
      ⟨fun b=>if b=2 then M'.own else if b=3 then N'.own else O b,if_pos rfl,(if_neg (by decide)).trans (if_pos rfl),fun b c2 c3=>(if_neg c2).trans (if_neg c3)⟩
     refine ⟨O',fun b q s e hb hg=> ?_⟩;by_cases e2':b=2
     . subst e2';rw [h2]at hb;cases hb;rw [g2]at hg;cases hg;rw [u2];refine ⟨⟨_,d2 γ',M',p1,p2,rfl,p3,p4⟩,fun k hk=> ?_,fun b2 r2 t2 o2 Jc Uj Sr=> ?_⟩
       . rcases p8 k hk with h|h
         . exact a3 k (by rw [m3];exact h)
         . exact Yj.base k (Nat.le_trans Yj.below.size h)
       . refine ⟨fun h=> ?_,fun e' he k hk=> ?_⟩
         . rcases p8 _ h with h|h
           . exact (a4 b2 r2 t2 o2 Jc Uj Sr).1 (by rw [m3];exact h)
           . have:=Yj.lt b2 r2 t2 Uj;omega
         . by_cases P5:b2=3
           . subst P5;rw [u3];intro hn;have hn:=p9 k hn;rcases p8 k hk with h|h
             . exact dis k h hn
             . have:=n1.lt hn;omega
           . rw [ub b2 Jc P5];intro hn;rcases p8 k hk with h|h
             . exact (a4 b2 r2 t2 o2 Jc Uj Sr).2 e' he k (by rw [m3];exact h) hn
             . subst he;have:=Db b2 r2 t2 e' Uj Sr k hn;omega
     . by_cases P5:b=3
       . subst P5;rw [h3]at hb;cases hb;rw [g3]at hg;cases hg;rw [u3];refine ⟨⟨_,d3 γ',N',p5,p6,rfl,p7,p4⟩,fun k hk=>b3 k (by rw [n3];exact p9 k hk),fun b2 r2 t2 o2 Jc Uj Sr=> ?_⟩;refine ⟨fun h=>(b4 b2 r2 t2 o2 Jc Uj Sr).1 (by rw [n3];exact p9 _ h),fun e' he k hk=> ?_⟩;have hk:=p9 k hk;by_cases e4:b2=2
         . subst e4;rw [u2];intro hm;rcases p8 k hm with h|h
           . exact dis k h hk
           . have:=n1.lt hk;omega
         . rw [ub b2 e4 Jc];exact (b4 b2 r2 t2 o2 Jc Uj Sr).2 e' he k (by rw [n3];exact hk)
       . rw [ub b e2' P5];obtain ⟨⟨x,y1,y2⟩,y3,y4⟩:=gO b q s e hb hg;have NK:Ev 60 e=true:=by
          have hl:=hg;rw [Zf]at hl;cases ho1:S.Sb[b]?with
          |none=>rw [ho1]at hl;cases hl
          |some po=>
           rw [ho1]at hl;cases po with
           |cells l t f=>cases hl
           |gh e'=>
            cases hl;rcases ho b _ ho1 with⟨q,_⟩|⟨q,_⟩|⟨_,_,q⟩
            . exact absurd q e2'
            . exact absurd q P5
            . exact q
         refine ⟨⟨x,by rw [<-(Er hγ 60).1 _ NK];exact y1,Th.gh_keep x q (O b) w w' y2 pT.size fun k hk=> ?_⟩,y3,fun b2 r2 t2 o2 Jc Uj Sr=> ?_⟩
         . refine pT.block k (Th.gh_lt x q (O b) w y2 k hk) fun h=> ?_
           rcases h with h|h
           . exact (a4 b q s _ e2' hb hg).2 e rfl k (by rw [m3];exact h) hk
           . exact (b4 b q s _ P5 hb hg).2 e rfl k (by rw [n3];exact h) hk
         . refine ⟨(y4 b2 r2 t2 o2 Jc Uj Sr).1,fun e' he k hk=> ?_⟩;have hks:=Th.gh_lt x q (O b) w y2 k hk;by_cases c2:b2=2
           . subst c2;rw [u2];intro hm;rcases p8 k hm with h|h
             . exact (a4 b q s _ e2' hb hg).2 e rfl k (by rw [m3];exact h) hk
             . omega
           . by_cases c3:b2=3
             . subst c3;rw [u3];intro hm;exact (b4 b q s _ P5 hb hg).2 e rfl k (by rw [n3];exact p9 k hm) hk
             . rw [ub b2 c2 c3];exact (y4 b2 r2 t2 o2 Jc Uj Sr).2 e' he k hk
structure NG(γ:Nat->Gh)(A:Rv)(c:Xc):Prop where
 g0:γ 0= .mem A
 g1:γ 1= .lay c
 Cn:Xh c
section
variable{ρ:Nat->Int}{γ:Nat->Gh}{A:Rv}{c:Xc}
theorem iy(h:NG γ A c): @den (Th.at ρ γ) (vr 9 0)= .g (.mem A):=by
 have e: @den (Th.at ρ γ) (vr 9 0)= .g (.mem (γ 0).A):=rfl
 rw [e,h.g0];rfl
theorem jy(h:NG γ A c): @den (Th.at ρ γ) (vr 11 1)= .g (.lay c):=by
 have e: @den (Th.at ρ γ) (vr 11 1)= .g (.lay (Cn (γ 1).C)):=rfl
 have e2:(γ 1).C=c:=by rw [h.g1];rfl
 rw [e,e2,mT h.Cn]
theorem Ln(z:Int)(h0:-1000000000<=z)(h1:z<=1000000000):IntKind.i64.wrap z=z:=by simp [IntKind.wrap,IntKind.bits,IntKind.signed];omega
theorem jt(x y:Value){k k':IntKind}{a b:Int}(hx: @den (Th.at ρ γ) x= .v (.int k a))(hy: @den (Th.at ρ γ) y= .v (.int k' b))(h:a<b): @den (Th.at ρ γ) (sy 280 [x,y])= @den (Th.at ρ γ) tt:=by
 letI:Interp:=Th.at ρ γ
 have e:den (sy 280 [x,y])=Bh 280 [den x,den y]:=rfl;rw [e,hx,hy]
 show Tc.v (fk 8 (if a<b then 1 else 0))=Tc.v (.bool true)
 rw [if_pos h];rfl
theorem zah(h:NG γ A c)(h0:0<=A.ck)(h1:A.ck<=2000000): @den (Th.at ρ γ) (sy EO [vr 9 0])= .v (.int .i64 A.ck):=by
 letI:Interp:=Th.at ρ γ
 have e:den (sy EO [vr 9 0])=Bh EO [den (vr 9 0)]:=rfl;rw [e,iy h]
 show Tc.v (Value.int .i64 (IntKind.i64.wrap A.ck))=_
 rw [Ln _ (by omega) (by omega)]
theorem Aah(h:NG γ A c)(h0:0<=A.wm)(h1:A.wm<=2000000): @den (Th.at ρ γ) (sy tWm [vr 9 0])= .v (.int .i64 A.wm):=by
 letI:Interp:=Th.at ρ γ
 have e:den (sy tWm [vr 9 0])=Bh tWm [den (vr 9 0)]:=rfl;rw [e,iy h]
 show Tc.v (Value.int .i64 (IntKind.i64.wrap A.wm))=_
 rw [Ln _ (by omega) (by omega)]
theorem RD(h:NG γ A c)(i:Nat):∃z, @den (Th.at ρ γ) (sy dh [vr 11 1,Cb (.ofNat i)])= .v (.int .i64 z)/\0<z:=by
 letI:Interp:=Th.at ρ γ
 have e:den (sy dh [vr 11 1,Cb (.ofNat i)])=Bh dh [den (vr 11 1), .v (.int .i64 (.ofNat i))]:=rfl;rw [e,jy h];refine ⟨_,rfl, ?_⟩
 show 0<IntKind.i64.wrap (dj c (.ofNat i))
 have h2:=h.Cn;unfold dj;have:=h2.gJ;have:=h2.th;have:=h2.gP;have:=h2.sl;have:=h2.TQ;have:=h2.lo;have:=h2.UH;have:=h2.bu
 split
 . rw [Ln _ (by omega) (by omega)];omega
 . split
   . rw [Ln _ (by omega) (by omega)];omega
   . split
     . rw [Ln _ (by omega) (by omega)];omega
     . rw [Ln _ (by omega) (by omega)];omega
theorem Bah(h:NG γ A c)(c0:0<=A.ck)(c1:A.ck<999000)(w0:0<=A.wm)(w1:A.wm<999000):∀p,p∈Ak-> @den (Th.at ρ γ) p.1= @den (Th.at ρ γ) p.2:=by
 letI:Interp:=Th.at ρ γ
 have hl:∀n:Int,den (Cb n)= .v (.int .i64 n):=fun n=>rfl
 intro p hp;simp only [Ak,List.mem_cons,List.not_mem_nil,or_false]at hp;rcases hp with rfl|rfl|rfl|rfl|rfl|rfl
 . exact jt _ _ (zah h c0 (by omega)) (hl _) c1
 . exact jt _ _ (Aah h w0 (by omega)) (hl _) w1
 . obtain ⟨z,e,hz⟩:= @RD ρ γ A c h 0;exact jt _ _ (hl _) e hz
 . obtain ⟨z,e,hz⟩:= @RD ρ γ A c h 1;exact jt _ _ (hl _) e hz
 . obtain ⟨z,e,hz⟩:= @RD ρ γ A c h 2;exact jt _ _ (hl _) e hz
 . obtain ⟨z,e,hz⟩:= @RD ρ γ A c h 3;exact jt _ _ (hl _) e hz
theorem ly{F1:List (Value×Value)}:∀{F2:List (Value×Value)} {p:Value×Value},p∈pj F1 F2->p∈F1\/p∈F2
 |[],p,h=> .inl h
 |q::qs,p,h=>by
  simp only [pj]at h;rcases List.mem_cons.1 h with e|e
  . exact .inr (List.mem_cons.2 (.inl e))
  . exact (ly e).imp id fun k=>List.mem_cons.2 (.inr k)
theorem Fv(A:Rv)(x:Acc)(nw:Int)(pu:Bool):(A.Ye x nw pu).np=A.np:=by
 unfold Rv.Ye Rv.note Rv.put
 split
 . split<;>(first|rfl|(split<;>rfl))
 . rfl
theorem AB(A:Rv)(t a:Int):(A.Ka t a).np=A.np:=by unfold Rv.Ka;split<;>rfl
theorem BB(A:Rv)(t:Int):(A.Ma t).np=A.np:=by unfold Rv.Ma;split<;>rfl
theorem Cah{l:List Value}(h:Ze l=2):∃a b,l=[a,b]:=by
 rw [Dc]at h
 match l,h with
 |[a,b],_=>exact ⟨a,b,rfl⟩
theorem YaJ{l:List Value}(h:Ze l=3):∃a b c,l=[a,b,c]:=by
 rw [Dc]at h
 match l,h with
 |[a,b,c],_=>exact ⟨a,b,c,rfl⟩
theorem ZaJ{l:List Value}(h:Ze l=4):∃a b c d,l=[a,b,c,d]:=by
 rw [Dc]at h
 match l,h with
 |[a,b,c,d],_=>exact ⟨a,b,c,d,rfl⟩
theorem aaK{l:List Value}(h:Ze l=1):∃a,l=[a]:=by
 rw [Dc]at h
 match l,h with
 |[a],_=>exact ⟨a,rfl⟩
theorem iM:∀(d:Nat) (e:Value) (n:Nat) (r:Value),deep d e=some (n,r)->T0 d e=true->∃A A0, @den (Th.at ρ γ) e= .g (Gh.mem A)/\ @den (Th.at ρ γ) r= .g (Gh.mem A0)/\A.np=A0.np
 |0,e,n,r,h,_=>by simp [deep]at h
 |d+1,e,n,r,h,ha=>by
  letI:Interp:=Th.at ρ γ
  simp only [deep]at h
  split at h
  . rename_i t s l c
    split at h
    . rename_i ht;rw [Va]at ht;have ht:=of_decide_eq_true ht;subst ht;cases h;obtain ⟨A,hA⟩:=Av (ρ:=ρ) (γ:=γ) (e:= .func (.methodOf 9 s) ⟨l⟩ c) rfl;exact ⟨A,A,hA,hA,rfl⟩
    . rename_i h9
      split at h
      . rename_i x l ht
        split at h
        . rename_i m r' hx;cases h;simp only [T0]at ha;rw [h9]at ha;simp only at ha
          split at ha
          . rename_i har;obtain ⟨Ax,A0,h2,h3,h4⟩:=iM d x m r hx ha;unfold arity at har;simp only [zl,Da,Bool.or_eq_true,Bool.and_eq_true,Va,decide_eq_true_eq]at har;rcases har with⟨rfl,hl⟩|⟨rfl,hl⟩|⟨rfl,hl⟩|⟨rfl,hl⟩|⟨rfl,hl⟩
            . obtain ⟨a,b,rfl⟩:=Cah hl;have e: @den (Th.at ρ γ) (.func (.methodOf 25 s) ⟨[x,a,b]⟩ c)=(Tc.g (Gh.mem (Dm 1 [@den (Th.at ρ γ) x, @den (Th.at ρ γ) a, @den (Th.at ρ γ) b]).A):Tc Gh):=rfl;rw [h2]at e;exact ⟨_,A0,e,h3,(Fv Ax _ _ _).trans h4⟩
            . obtain ⟨a,b,c2,rfl⟩:=YaJ hl;have e: @den (Th.at ρ γ) (.func (.methodOf 41 s) ⟨[x,a,b,c2]⟩ c)=(Tc.g (Gh.mem (Dm 2 [@den (Th.at ρ γ) x, @den (Th.at ρ γ) a, @den (Th.at ρ γ) b, @den (Th.at ρ γ) c2]).A):Tc Gh):=rfl;rw [h2]at e;exact ⟨_,A0,e,h3,(Fv Ax _ _ _).trans h4⟩
            . obtain ⟨a,b,c2,d2,rfl⟩:=ZaJ hl;have e: @den (Th.at ρ γ) (.func (.methodOf 57 s) ⟨[x,a,b,c2,d2]⟩ c)=(Tc.g (Gh.mem (Dm 3 [@den (Th.at ρ γ) x, @den (Th.at ρ γ) a, @den (Th.at ρ γ) b, @den (Th.at ρ γ) c2, @den (Th.at ρ γ) d2]).A):Tc Gh):=rfl;rw [h2]at e;exact ⟨_,A0,e,h3,(Fv Ax _ _ _).trans h4⟩
            . obtain ⟨a,b,rfl⟩:=Cah hl;have e: @den (Th.at ρ γ) (.func (.methodOf 73 s) ⟨[x,a,b]⟩ c)=(Tc.g (Gh.mem (Dm 4 [@den (Th.at ρ γ) x, @den (Th.at ρ γ) a, @den (Th.at ρ γ) b]).A):Tc Gh):=rfl;rw [h2]at e;exact ⟨_,A0,e,h3,(AB Ax _ _).trans h4⟩
            . obtain ⟨a,rfl⟩:=aaK hl;have e: @den (Th.at ρ γ) (.func (.methodOf 89 s) ⟨[x,a]⟩ c)=(Tc.g (Gh.mem (Dm 5 [@den (Th.at ρ γ) x, @den (Th.at ρ γ) a]).A):Tc Gh):=rfl;rw [h2]at e;exact ⟨_,A0,e,h3,(BB Ax _).trans h4⟩
          . cases ha
        . cases h
      . cases h
  . cases h
theorem Mn{k i:Nat}(hk:k=9\/k=11){v:Value}(h:isVar k i v=true): @den (Th.at ρ γ) v= @den (Th.at ρ γ) (vr k i):=by
 unfold isVar at h
 split at h
 . rename_i t s q j c';simp only [Da,Bool.and_eq_true,Va,decide_eq_true_eq]at h;obtain ⟨h1,h2⟩:=h;rcases hk with rfl|rfl
   . subst h1 h2;rfl
   . subst h1 h2;rfl
 . cases h
theorem qt(h:NG γ A c)(c0:0<=A.ck)(w0:0<=A.wm){θ η:List Value}(hm:gM η=true)(fj:Xh c):∃A',NG (zk (T:=Th) ρ γ η) A' c/\((A'.ck<=A.ck+30/\A'.wm<=A.wm+30)/\A'.np=A.np):=by
 unfold gM at hm
 split at hm
 . rename_i e l x
   split at hm
   . rename_i n r hd;simp only [Da,Bool.and_eq_true]at hm;obtain ⟨har,hr,hl⟩:=hm;obtain ⟨hn,A',hA,hb⟩:= @AD ρ γ 30 e n r hd;have e1:zk (T:=Th) ρ γ (e::l::x) 0= .mem A':=by
      unfold zk;simp only [List.getElem?_cons_zero];rw [hA]
     have e2:zk (T:=Th) ρ γ (e::l::x) 1= .lay c:=by
      unfold zk;simp only [List.getElem?_cons_succ,List.getElem?_cons_zero];rw [Mn (.inr rfl) hl,jy h]
     refine ⟨A',⟨e1,e2,fj⟩, ?_, ?_⟩
     . rcases hb with⟨h1,h2⟩|⟨A0,h0,h1,h2,h3,h4⟩
       . exact ⟨by omega,by omega⟩
       . rw [Mn (.inl rfl) hr,iy h]at h0;cases h0;exact ⟨by omega,by omega⟩
     . obtain ⟨A1,A0,k1,k2,k3⟩:= @iM ρ γ 30 e n r hd har;rw [hA]at k1;cases k1;rw [Mn (.inl rfl) hr,iy h]at k2;cases k2;exact k3
   . cases hm
 . cases hm
end
def Nn(P:Vc->Prop):List Vc->Prop
 |[]=>True
 |s::ss=>P s/\Nn P ss
theorem Nn.of{P:Vc->Prop}:∀{tab:List Vc},Nn P tab->∀{S:Shape},S∈ug tab->∃s,S=s.shape/\P s
 |[],h,S,hS=>by simp [ug]at hS
 |s::ss,h,S,hS=>by
  simp only [ug,List.mem_cons]at hS;rcases hS with rfl|hS
  . exact ⟨s,rfl,h.1⟩
  . exact Nn.of h.2 hS
theorem xas(ρ:Nat->Int)(γ:Nat->Gh): @Yb (Th.at ρ γ) (env.Ll []):=(Kn ρ γ [] (fun p hp=>by cases hp)).1
section
variable{ρ:Nat->Int}{γ:Nat->Gh}
theorem DU(l:List (Option Value))(j:Nat)(v:Value)(h:l[j]?=some (some v)):(⟨Ze l,none,rowP (Ze l) 0 l .nil⟩:Row).get j=some v:=by
 have hj:j<l.length:=(List.getElem?_eq_some_iff.1 h).1
 unfold Row.get;simp only [Dc];rw [<-Dc];rw [Qq (Ze l) l 0 .nil j (by rw [Dc];omega),if_pos (Nat.zero_le _),Nat.sub_zero,h]
theorem VG{Sb:List ah}{B:Nat->Prop}{w0:World}{R:Mp}{w:World}(hS: @Qc (Th.at ρ γ) B w0 R (Rp Sb) w){b r s i:Nat}{v:Value}(hb:R b=some (r,s))(h:Uf Sb b i=some v):∃v',w.cell? ⟨r,i,none⟩=some v'/\ @VR (Th.at ρ γ) R v v':=by
 unfold Uf at h
 split at h
 . rename_i l e full ho
   split at h
   . rename_i o hl;subst h;rw [Pc]at ho hl;have hg:(Rp Sb).get b=some (.cells ⟨Ze l,none,rowP (Ze l) 0 l .nil⟩ e full):=by rw [Zf,ho];rfl
     obtain ⟨c',h1,h2,h3,h4,h5⟩:= @Xm (Th.at ρ γ) _ (xas ρ γ) B w0 R (Rp Sb) w hS b r s hb _ _ _ hg;obtain ⟨v',q1,-,q2⟩:=h5 i v (DU l i v hl);exact ⟨v',q1,q2⟩
   . cases h
 . cases h
theorem WG{R:Mp}{v x:Value}{k:Nat}(hk:vi k v=true)(h: @VR (Th.at ρ γ) R v x): @den (Th.at ρ γ) v= .v x/\ @Sc k x:=by
 unfold vi at hk
 split at hk
 . rename_i j hj;rw [Va]at hk;obtain rfl:=of_decide_eq_true hk;have h1:= @js (Th.at ρ γ) R _ _ h _ hj;obtain ⟨a',h2,h3⟩:= @Zr (Th.at ρ γ) _ _ hj;rw [h1]at h2;cases h2;exact ⟨h1,h3⟩
 . cases hk
theorem cQ{k:Nat}{a u:Value}(hk:vi k a=true)(h:re 60 a u=true):vi k u=true:=by
 unfold re at h
 split at h
 . split at h
   . rename_i ht;rw [Va]at ht;obtain rfl:=of_decide_eq_true ht;exact hk
   . cases h
 . split at h
   . rename_i ht;rw [Va]at ht;have ht:=of_decide_eq_true ht;unfold vi Wf at hk⊢;simp only at hk⊢;rw [<-ht];exact hk
   . cases h
 . exact hk
 . cases h
end
end Sk
end Go.Proofs.YtfnkmolffhfpoaaGreat
