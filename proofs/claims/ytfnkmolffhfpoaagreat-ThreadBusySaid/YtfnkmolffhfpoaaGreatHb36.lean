/- -/
import Derived.Test.YtfnkmolffhfpoaaGreatHb35
import Derived.Test.YtfnkmolffhfpoaaGreatHb18
import Derived.Test.YtfnkmolffhfpoaaGreatHb16
import Derived.Test.YtfnkmolffhfpoaaGreatHb30
set_option linter.unusedVariables false
set_option linter.unusedSimpArgs false
set_option linter.unusedSectionVars false
namespace Go.Proofs.YtfnkmolffhfpoaaGreat
namespace Sk
open Go.RowKit
def Tr.keys{α:Type}:Tr α->List (Nat×α)
 | .nil=>[]
 | .node l v r=>(match v with|some x=>[(0,x)]|none=>[])++((l.keys.map fun p=>(2*p.1+1,p.2))++(r.keys.map fun p=>(2*p.1+2,p.2)))
theorem Tt{α:Type}:∀(t:Tr α) (n:Nat) (x:α),t.get n=some x->(n,x)∈t.keys
 | .nil,n,x,h=>by rw [Tr.get_nil]at h;cases h
 | .node l v r,0,x,h=>by
   rw [Tr.En]at h;simp only at h;subst h;simp [Tr.keys]
 | .node l v r,n+1,x,h=>by
   rw [Tr.En]at h;simp only at h;unfold Tr.keys
   split at h
   . rename_i hb;have hb:n %2=0:=by rw [Ja]at hb;exact of_decide_eq_true hb
     have:=Tt l _ x h;refine List.mem_append.2 (.inr (List.mem_append.2 (.inl (List.mem_map.2 ⟨_,this, ?_⟩))))
     show(2*(n/2)+1,x)=(n+1,x)
     rw [show 2*(n/2)+1=n+1 by omega]
   . rename_i hb;have hb:¬n %2=0:=by rw [Ja]at hb;exact of_decide_eq_false hb
     have:=Tt r _ x h;refine List.mem_append.2 (.inr (List.mem_append.2 (.inr (List.mem_map.2 ⟨_,this, ?_⟩))))
     show(2*(n/2)+2,x)=(n+1,x)
     rw [show 2*(n/2)+2=n+1 by omega]
section
variable{ρ:Nat->Int}{γ:Nat->Gh}{F:List (Value×Value)}
def OE(ρ:Nat->Int)(γ:Nat->Gh)(F:List (Value×Value))(f:FuncId)(g:List (Value×Value)->List Value->AH->Option (Value×AH)):Prop:=
 @yD (Th.at ρ γ) Tryz.prog F g f/\∀(args:Array Value) (w:World),(callFunc f args).run Tryz.prog w= .ok (.enter f args) w
variable(hF:∀p,p∈F-> @den (Th.at ρ γ) p.1= @den (Th.at ρ γ) p.2)
include hF
theorem Raq:OE ρ γ F 72 (lz):=⟨BJ hF,fun args w=>ja Tryz.func72 (by kernel_rfl) rfl args w⟩
theorem Saq:OE ρ γ F 83 (oAt):=⟨LY hF,fun args w=>ja Tryz.func83 (by kernel_rfl) rfl args w⟩
theorem Taq:OE ρ γ F 127 (Zb gm [3,8,6]):=⟨@Db (Th.at ρ γ) (ua ρ γ) _ _ hF _ _ _ (by decide) (@xaq (Th.at ρ γ) (ua ρ γ)),fun args w=>ja Tryz.func127 (by kernel_rfl) rfl args w⟩
theorem Uaq:OE ρ γ F 46 (iz):=⟨yJ hF,fun args w=>ja Tryz.func46 (by kernel_rfl) rfl args w⟩
theorem Vaq:OE ρ γ F 47 (oDo):=⟨aZ hF,fun args w=>ja Tryz.func47 (by kernel_rfl) rfl args w⟩
theorem Waq:OE ρ γ F 240 (MQ):=⟨KR,fun args w=>ja Tryz.func240 (by kernel_rfl) rfl args w⟩
theorem Xaq:OE ρ γ F 64 (sG):=⟨aN hF,fun args w=>ja Tryz.func64 (by kernel_rfl) rfl args w⟩
theorem Yaq:OE ρ γ F 341 (gv 10):=⟨ui hF zaq,fun args w=>ja Tryz.func341 (by kernel_rfl) rfl args w⟩
theorem Zaq:OE ρ γ F 133 (gv 11):=⟨ui hF Aaq,fun args w=>ja Tryz.func133 (by kernel_rfl) rfl args w⟩
theorem aar:OE ρ γ F 211 (gv 12):=⟨ui hF Baq,fun args w=>ja Tryz.func211 (by kernel_rfl) rfl args w⟩
theorem bar:OE ρ γ F 84 (Zb mo [3,3]):=⟨@Db (Th.at ρ γ) (ua ρ γ) _ _ hF _ _ _ (by decide) (@waq (Th.at ρ γ) (ua ρ γ)),fun args w=>ja Tryz.func84 (by kernel_rfl) rfl args w⟩
theorem car:OE ρ γ F 131 (Zb GQ [7]):=⟨@Db (Th.at ρ γ) (ua ρ γ) _ _ hF _ _ _ (by decide) (@vaq (Th.at ρ γ) (ua ρ γ)),fun args w=>ja Tryz.func131 (by kernel_rfl) rfl args w⟩
theorem Nad:OE ρ γ F 65 (tG):=⟨cN hF,fun args w=>ja Tryz.func65 (by kernel_rfl) rfl args w⟩
theorem Oad:OE ρ γ F 66 (jz):=⟨zJ hF,fun args w=>ja Tryz.func66 (by kernel_rfl) rfl args w⟩
theorem Pad:OE ρ γ F 67 (kz):=⟨AJ hF,fun args w=>ja Tryz.func67 (by kernel_rfl) rfl args w⟩
theorem Qad:OE ρ γ F 267 (gv 5):=⟨ui hF mad,fun args w=>ja Tryz.func267 (by kernel_rfl) rfl args w⟩
theorem Rad:OE ρ γ F 120 (Zb LL [7]):=⟨@Db (Th.at ρ γ) (ua ρ γ) _ _ hF _ _ _ (by decide) (@Iac (Th.at ρ γ) (ua ρ γ)),fun args w=>ja Tryz.func120 (by kernel_rfl) rfl args w⟩
theorem Sad:OE ρ γ F 288 (gv 17):=⟨ui hF tad,fun args w=>ja Tryz.func288 (by kernel_rfl) rfl args w⟩
theorem Tad:OE ρ γ F 124 (gv 7):=⟨ui hF oad,fun args w=>ja Tryz.func124 (by kernel_rfl) rfl args w⟩
theorem Uad:OE ρ γ F 126 (gv 6):=⟨ui hF nad,fun args w=>ja Tryz.func126 (by kernel_rfl) rfl args w⟩
theorem Vad:OE ρ γ F 128 (Zb iE [7]):=⟨@Db (Th.at ρ γ) (ua ρ γ) _ _ hF _ _ _ (by decide) (@Qac (Th.at ρ γ) (ua ρ γ)),fun args w=>ja Tryz.func128 (by kernel_rfl) rfl args w⟩
theorem Wad:OE ρ γ F 132 (Zb DI [7]):=⟨@Db (Th.at ρ γ) (ua ρ γ) _ _ hF _ _ _ (by decide) (@Pac (Th.at ρ γ) (ua ρ γ)),fun args w=>ja Tryz.func132 (by kernel_rfl) rfl args w⟩
theorem Xad:OE ρ γ F 134 (Zb Sw [7]):=⟨@Db (Th.at ρ γ) (ua ρ γ) _ _ hF _ _ _ (by decide) (@Sac (Th.at ρ γ) (ua ρ γ)),fun args w=>ja Tryz.func134 (by kernel_rfl) rfl args w⟩
theorem Yad:OE ρ γ F 150 (Zb GQ [7]):=⟨@Db (Th.at ρ γ) (ua ρ γ) _ _ hF _ _ _ (by decide) (@Kac (Th.at ρ γ) (ua ρ γ)),fun args w=>ja Tryz.func150 (by kernel_rfl) rfl args w⟩
theorem Zad:OE ρ γ F 153 (Zb Sw [7]):=⟨@Db (Th.at ρ γ) (ua ρ γ) _ _ hF _ _ _ (by decide) (@Tac (Th.at ρ γ) (ua ρ γ)),fun args w=>ja Tryz.func153 (by kernel_rfl) rfl args w⟩
theorem aae:OE ρ γ F 155 (Zb gm [3,8,6]):=⟨@Db (Th.at ρ γ) (ua ρ γ) _ _ hF _ _ _ (by decide) (@gad (Th.at ρ γ) (ua ρ γ)),fun args w=>ja Tryz.func155 (by kernel_rfl) rfl args w⟩
theorem bae:OE ρ γ F 156 (Zb iE [7]):=⟨@Db (Th.at ρ γ) (ua ρ γ) _ _ hF _ _ _ (by decide) (@Rac (Th.at ρ γ) (ua ρ γ)),fun args w=>ja Tryz.func156 (by kernel_rfl) rfl args w⟩
theorem cae:OE ρ γ F 161 (Zb mo [3,3]):=⟨@Db (Th.at ρ γ) (ua ρ γ) _ _ hF _ _ _ (by decide) (@aad (Th.at ρ γ) (ua ρ γ)),fun args w=>ja Tryz.func161 (by kernel_rfl) rfl args w⟩
theorem dae:OE ρ γ F 217 (Zb Tg [7]):=⟨@Db (Th.at ρ γ) (ua ρ γ) _ _ hF _ _ _ (by decide) (@Wac (Th.at ρ γ) (ua ρ γ)),fun args w=>ja Tryz.func217 (by kernel_rfl) rfl args w⟩
theorem eae:OE ρ γ F 212 (gv 13):=⟨ui hF rad,fun args w=>ja Tryz.func212 (by kernel_rfl) rfl args w⟩
theorem fae:OE ρ γ F 223 (LQ 8):=⟨JR hF,fun args w=>ja Tryz.func223 (by kernel_rfl) rfl args w⟩
theorem gae:OE ρ γ F 224 (Zb vp [3,3]):=⟨@Db (Th.at ρ γ) (ua ρ γ) _ _ hF _ _ _ (by decide) (@cad (Th.at ρ γ) (ua ρ γ)),fun args w=>ja Tryz.func224 (by kernel_rfl) rfl args w⟩
theorem hae:OE ρ γ F 236 (Zb tg [7]):=⟨@Db (Th.at ρ γ) (ua ρ γ) _ _ hF _ _ _ (by decide) (@Yac (Th.at ρ γ) (ua ρ γ)),fun args w=>ja Tryz.func236 (by kernel_rfl) rfl args w⟩
theorem iae:OE ρ γ F 237 (Mq):=⟨fF hF,fun args w=>ja Tryz.func237 (by kernel_rfl) rfl args w⟩
theorem jae:OE ρ γ F 243 (Zb LL [7]):=⟨@Db (Th.at ρ γ) (ua ρ γ) _ _ hF _ _ _ (by decide) (@Jac (Th.at ρ γ) (ua ρ γ)),fun args w=>ja Tryz.func243 (by kernel_rfl) rfl args w⟩
theorem kae:OE ρ γ F 244 (NQ):=⟨ZR hF,fun args w=>ja Tryz.func244 (by kernel_rfl) rfl args w⟩
theorem lae:OE ρ γ F 249 (Zb vp [3,3]):=⟨@Db (Th.at ρ γ) (ua ρ γ) _ _ hF _ _ _ (by decide) (@dad (Th.at ρ γ) (ua ρ γ)),fun args w=>ja Tryz.func249 (by kernel_rfl) rfl args w⟩
theorem mae:OE ρ γ F 251 (Zb Tg [7]):=⟨@Db (Th.at ρ γ) (ua ρ γ) _ _ hF _ _ _ (by decide) (@Xac (Th.at ρ γ) (ua ρ γ)),fun args w=>ja Tryz.func251 (by kernel_rfl) rfl args w⟩
theorem nae:OE ρ γ F 252 (Zb Sg [7]):=⟨@Db (Th.at ρ γ) (ua ρ γ) _ _ hF _ _ _ (by decide) (@Vac (Th.at ρ γ) (ua ρ γ)),fun args w=>ja Tryz.func252 (by kernel_rfl) rfl args w⟩
theorem oae:OE ρ γ F 281 (Zb Sg [7]):=⟨@Db (Th.at ρ γ) (ua ρ γ) _ _ hF _ _ _ (by decide) (@Uac (Th.at ρ γ) (ua ρ γ)),fun args w=>ja Tryz.func281 (by kernel_rfl) rfl args w⟩
theorem pae:OE ρ γ F 182 (gv 16):=⟨ui hF sad,fun args w=>ja Tryz.func182 (by kernel_rfl) rfl args w⟩
theorem qae:OE ρ γ F 289 (Zb TB [3,6]):=⟨@Db (Th.at ρ γ) (ua ρ γ) _ _ hF _ _ _ (by decide) (@ead (Th.at ρ γ) (ua ρ γ)),fun args w=>ja Tryz.func289 (by kernel_rfl) rfl args w⟩
theorem rae:OE ρ γ F 292 (Zb tg [7]):=⟨@Db (Th.at ρ γ) (ua ρ γ) _ _ hF _ _ _ (by decide) (@Zac (Th.at ρ γ) (ua ρ γ)),fun args w=>ja Tryz.func292 (by kernel_rfl) rfl args w⟩
theorem sae:OE ρ γ F 293 (Zb Wm [7]):=⟨@Db (Th.at ρ γ) (ua ρ γ) _ _ hF _ _ _ (by decide) (@Mac (Th.at ρ γ) (ua ρ γ)),fun args w=>ja Tryz.func293 (by kernel_rfl) rfl args w⟩
theorem tae:OE ρ γ F 308 (Zb Wm [7]):=⟨@Db (Th.at ρ γ) (ua ρ γ) _ _ hF _ _ _ (by decide) (@Lac (Th.at ρ γ) (ua ρ γ)),fun args w=>ja Tryz.func308 (by kernel_rfl) rfl args w⟩
theorem uae:OE ρ γ F 309 (Zb CI [7]):=⟨@Db (Th.at ρ γ) (ua ρ γ) _ _ hF _ _ _ (by decide) (@Nac (Th.at ρ γ) (ua ρ γ)),fun args w=>ja Tryz.func309 (by kernel_rfl) rfl args w⟩
theorem vae:OE ρ γ F 301 (Zb TB [3,6]):=⟨@Db (Th.at ρ γ) (ua ρ γ) _ _ hF _ _ _ (by decide) (@fad (Th.at ρ γ) (ua ρ γ)),fun args w=>ja Tryz.func301 (by kernel_rfl) rfl args w⟩
theorem wae:OE ρ γ F 302 (Zb CI [7]):=⟨@Db (Th.at ρ γ) (ua ρ γ) _ _ hF _ _ _ (by decide) (@Oac (Th.at ρ γ) (ua ρ γ)),fun args w=>ja Tryz.func302 (by kernel_rfl) rfl args w⟩
theorem xae:OE ρ γ F 343 (gv 9):=⟨ui hF qad,fun args w=>ja Tryz.func343 (by kernel_rfl) rfl args w⟩
theorem bZ:OE ρ γ F 185 oHd:=⟨MY hF,fun args w=>ja Tryz.func185 (by kernel_rfl) rfl args w⟩
omit hF in
theorem ta{c:Nat}{g g0:List (Value×Value)->List Value->AH->Option (Value×AH)}(h:BX c=some g)(h0:BX c=some g0):g=g0:=by rw [h0]at h;cases h;rfl
def qN:List (Nat×Nat):=[(72,33),(83,27),(127,14),(46,29),(47,35),(240,26),(64,28),(341,20),(133,21),(211,22),(84,11),(131,2),(65,30),(66,31),(67,32),(267,15),(120,1),(288,25),(124,17),(126,16),(128,6),(132,5),(134,7),(150,2),(153,7),(155,14),(156,6),(161,11),(217,9),(212,23),(223,18),(224,12),(236,10),(237,34),(243,1),(244,36),(249,12),(251,9),(252,8),(281,8),(182,24),(289,13),(292,10),(293,3),(308,3),(309,4),(301,13),(302,4),(343,19),(185,37)]
omit hF in
theorem rN:(CX.keys.all fun p=>qN.any fun q=>Nat.beq p.1 q.1&&Nat.beq p.2 q.2)=true:=by kernel_rfl
omit hF in
theorem bS{f c:Nat}(h:CX.get f=some c):(f,c)∈qN:=by
 have h1:=List.all_eq_true.1 rN _ (Tt _ _ _ h)
 obtain ⟨q,hq,h2⟩:=List.any_eq_true.1 h1
 rw [Bool.and_eq_true,Ja,Ja]at h2;have e1:=of_decide_eq_true h2.1
 have e2:=of_decide_eq_true h2.2
 obtain ⟨a,b⟩:=q;simp only at e1 e2;subst e1 e2;exact hq
theorem cS{f:FuncId}{g:List (Value×Value)->List Value->AH->Option (Value×AH)}(h:OQ f=some g):OE ρ γ F f g:=by
 unfold OQ at h
 split at h
 . rename_i c hc;have hm:=bS hc;simp only [qN,List.mem_cons,Prod.mk.injEq,List.not_mem_nil,or_false]at hm;rcases hm with⟨rfl,rfl⟩|⟨rfl,rfl⟩|⟨rfl,rfl⟩|⟨rfl,rfl⟩|⟨rfl,rfl⟩|⟨rfl,rfl⟩|⟨rfl,rfl⟩|⟨rfl,rfl⟩|⟨rfl,rfl⟩|⟨rfl,rfl⟩|⟨rfl,rfl⟩|⟨rfl,rfl⟩|⟨rfl,rfl⟩|⟨rfl,rfl⟩|⟨rfl,rfl⟩|⟨rfl,rfl⟩|⟨rfl,rfl⟩|⟨rfl,rfl⟩|⟨rfl,rfl⟩|⟨rfl,rfl⟩|⟨rfl,rfl⟩|⟨rfl,rfl⟩|⟨rfl,rfl⟩|⟨rfl,rfl⟩|⟨rfl,rfl⟩|⟨rfl,rfl⟩|⟨rfl,rfl⟩|⟨rfl,rfl⟩|⟨rfl,rfl⟩|⟨rfl,rfl⟩|⟨rfl,rfl⟩|⟨rfl,rfl⟩|⟨rfl,rfl⟩|⟨rfl,rfl⟩|⟨rfl,rfl⟩|⟨rfl,rfl⟩|⟨rfl,rfl⟩|⟨rfl,rfl⟩|⟨rfl,rfl⟩|⟨rfl,rfl⟩|⟨rfl,rfl⟩|⟨rfl,rfl⟩|⟨rfl,rfl⟩|⟨rfl,rfl⟩|⟨rfl,rfl⟩|⟨rfl,rfl⟩|⟨rfl,rfl⟩|⟨rfl,rfl⟩|⟨rfl,rfl⟩|⟨rfl,rfl⟩
   . rw [ta h rfl];exact Raq hF
   . rw [ta h rfl];exact Saq hF
   . rw [ta h rfl];exact Taq hF
   . rw [ta h rfl];exact Uaq hF
   . rw [ta h rfl];exact Vaq hF
   . rw [ta h rfl];exact Waq hF
   . rw [ta h rfl];exact Xaq hF
   . rw [ta h rfl];exact Yaq hF
   . rw [ta h rfl];exact Zaq hF
   . rw [ta h rfl];exact aar hF
   . rw [ta h rfl];exact bar hF
   . rw [ta h rfl];exact car hF
   . rw [ta h rfl];exact Nad hF
   . rw [ta h rfl];exact Oad hF
   . rw [ta h rfl];exact Pad hF
   . rw [ta h rfl];exact Qad hF
   . rw [ta h rfl];exact Rad hF
   . rw [ta h rfl];exact Sad hF
   . rw [ta h rfl];exact Tad hF
   . rw [ta h rfl];exact Uad hF
   . rw [ta h rfl];exact Vad hF
   . rw [ta h rfl];exact Wad hF
   . rw [ta h rfl];exact Xad hF
   . rw [ta h rfl];exact Yad hF
   . rw [ta h rfl];exact Zad hF
   . rw [ta h rfl];exact aae hF
   . rw [ta h rfl];exact bae hF
   . rw [ta h rfl];exact cae hF
   . rw [ta h rfl];exact dae hF
   . rw [ta h rfl];exact eae hF
   . rw [ta h rfl];exact fae hF
   . rw [ta h rfl];exact gae hF
   . rw [ta h rfl];exact hae hF
   . rw [ta h rfl];exact iae hF
   . rw [ta h rfl];exact jae hF
   . rw [ta h rfl];exact kae hF
   . rw [ta h rfl];exact lae hF
   . rw [ta h rfl];exact mae hF
   . rw [ta h rfl];exact nae hF
   . rw [ta h rfl];exact oae hF
   . rw [ta h rfl];exact pae hF
   . rw [ta h rfl];exact qae hF
   . rw [ta h rfl];exact rae hF
   . rw [ta h rfl];exact sae hF
   . rw [ta h rfl];exact tae hF
   . rw [ta h rfl];exact uae hF
   . rw [ta h rfl];exact vae hF
   . rw [ta h rfl];exact wae hF
   . rw [ta h rfl];exact xae hF
   . rw [ta h rfl];exact bZ hF
 . cases h
theorem cZ{E:Env}(hP:E.P=Tryz.prog)(ho:E.NW=OQ)(hf:E.facts=F): @Dk (Th.at ρ γ) E:=by
 letI:Interp:=Th.at ρ γ
 intro f g hg args σ v σ' wi B w0 R w args' hS hl;rw [ho]at hg;rw [hf]at wi;obtain ⟨h1,h2⟩:=cS hF hg;rw [hP];refine ⟨h2 args' w,fun Fe hFe n=> ?_⟩;exact hFe.calls (h1 args σ v σ' wi B w0 R w args'.toList hS hl)
end
theorem WC:Tryz.prog.follows .mixedOrders=true:=by kernel_rfl
theorem Qk(ρ:Nat->Int)(γ:Nat->Gh)(F:List (Value×Value))(hF:∀p,p∈F-> @den (Th.at ρ γ) p.1= @den (Th.at ρ γ) p.2): @Pb (Th.at ρ γ) (env.Sm F)/\ @Dk (Th.at ρ γ) (env.Sm F):=by
 letI:Interp:=Th.at ρ γ
 haveI:Bc:=ua ρ γ
 have h0:Pb env:=DL uG Uw vG Vw WC (fun F hF v c hv=>FC F hF v c hv) (fun e o ty v h g r O w hd hg=>zR e o ty v h g r O w hd hg);exact ⟨h0.Sm hF,cZ hF rfl rfl rfl⟩
end Sk
end Go.Proofs.YtfnkmolffhfpoaaGreat
namespace Go.Proofs.YtfnkmolffhfpoaaGreat
namespace Sk
noncomputable section
def Wj(se:List yh)(b i:Nat):Option Value:=
 match Qf se b with
 |some (.cells l _ _)=>match Qf l i with|some o=>o|none=>none
 |_=>none
def XC(u:Value)(o:Option Value):Bool:=match o with|some v=>Jg 60 u v|none=>false
def dar(b c:Bool):Bool:=match b with|true=>c|false=>Pg c
def yae(o:Option Value)(b:Bool):Bool:=
 match o with
 |some (.int .i64 n)=>dar b (Of n 0)
 |_=>false
def isVar(k i:Nat)(v:Value):Bool:=
 match v with
 | .func (.methodOf t _) ⟨[.int _ (.ofNat j)]⟩ _=>Ia (Nat.beq t k) (Nat.beq j i)
 |_=>false
def arity(t n:Nat):Bool:=VA (Ia (Nat.beq t 25) (Nat.beq n 2)) (VA (Ia (Nat.beq t 41) (Nat.beq n 3)) (VA (Ia (Nat.beq t 57) (Nat.beq n 4)) (VA (Ia (Nat.beq t 73) (Nat.beq n 2)) (Ia (Nat.beq t 89) (Nat.beq n 1)))))
def dS:Nat->Value->Bool
 |0,_=>false
 |d+1,e=>match e with
  | .func (.methodOf t _) ⟨l⟩ _=>match Nat.beq t 9 with
    |true=>true
    |false=>match l with
     |x::ys=>match arity t (Be ys)with|true=>dS d x|false=>false
     |[]=>false
  |_=>false
def Fx(η:List Value):Bool:=
 match η with
 |e::l::_=>match deep 30 e with|some (_,r)=>Ia (dS 30 e) (Ia (isVar 9 0 r) (isVar 11 1 l))|none=>false
 |_=>false
def V2:Nat->List Value->Bool
 |_,[]=>true
 |i,u::us=>match cz u with|some j=>Ia (Nat.beq j i) (V2 (Nat.succ i) us)|none=>false
def idG:List Value->Bool
 |e::l::[]=>Ia (isVar 9 0 e) (isVar 11 1 l)
 |_=>false
structure Ob where
 cs:List (FuncId×List Value)
 ok:List yh->List Value->Bool
structure zae where
 done:Nat
 result:Nat
 holds:Nat
 dZ:Nat
 XB:Nat
 eZ:Nat
 writes:Nat
 line:Nat
 last:Nat
def pV:Value:= .pointer (some ⟨0,0,none⟩)
def qV:Value:= .pointer (some ⟨1,0,none⟩)
def sN(f:Nat)(g:List yh->Value->Bool):Ob:=⟨[(f,[pV])],fun se vs=>match vs with|[v]=>g se v|_=>false⟩
def OJ(k:Nat)(v:Value):Bool:=match Ue v with|some j=>Nat.beq j k|none=>false
def zae.obs(t:zae):List Ob:=
 [sN t.done fun se v=>(match v with| .bool b=>yae (Wj se 1 t.line) b|_=>false),
  sN t.result fun se v=>(match v with| .agg ⟨[a,b]⟩=>Ia (Ia (OJ 3 a) (OJ 6 b)) (Ia (XC a (Wj se 1 t.last)) (XC b (Wj se 1 (Nat.add t.last 1))))|_=>false),
  ⟨[(t.holds,[pV]),(t.dZ,[qV])],fun se vs=>match vs with|[a,b]=>Ia (OJ 3 a) (Jg 60 a b)|_=>false⟩,
  sN t.XB fun se v=>Ia (OJ 3 v) (XC v (Wj se 1 (Nat.add t.last 2))),
  sN t.eZ fun se v=>Ia (OJ 3 v) (XC v (Wj se 1 (Nat.add t.last 3))),
  sN t.writes fun se v=>Ia (OJ 3 v) (XC v (Wj se 1 (Nat.add t.last 4)))]
end
end Sk
end Go.Proofs.YtfnkmolffhfpoaaGreat
namespace Go.Proofs.YtfnkmolffhfpoaaGreat
namespace Sk
open Go.RowKit
noncomputable section
def rF(E0:Env)(n:Nat)(cs:List (FuncId×List Value))(f0:List Value->List Nat)(post:Shape->List Value->Bd->Bool)(tab:List Shape)(σ:AH):Tree->List (Value×Value)->Bool
 | .leaf j,F=>match runs (E0.Sm F) n cs σ with
   |some (vs,σ')=>match Qf tab j with
    |some S=>match KL σ' 0 ⟨f0 vs,[],[]⟩ S.se with
     |s=>match BP (E0.Sm F) S 0 σ' s with|true=>post S vs s|false=>false
    |none=>false
   |none=>false
 | .split c l r,F=>match isB c with
   |true=>match rF E0 n cs f0 post tab σ l ((c, .bool true)::F)with
    |true=>rF E0 n cs f0 post tab σ r ((c, .bool false)::F)
    |false=>false
   |false=>false
def eS:List Nat->List Nat->Bool
 |[],_=>true
 |a::az,b::bs=>match Nat.beq a b with|true=>eS az bs|false=>false
 |_::_,[]=>false
def taA(vs:List Value):List Nat:=
 match vs with
 |[u,v]=>[Ij u,Ij v,0,1,2]
 |_=>[]
def PJ(v:Value):Bool:=
 match v with
 | .pointer (some ⟨_,o,none⟩)=>Nat.beq o 0
 |_=>false
def Gx:List yh:=[.gh (vr 9 0), .gh (sy xp [vr 9 0]), .gh (vr 11 1)]
section
variable{T:si}{E0:Env}
def Aae(T:si)(tab:List Shape)(f0:List Value->List Nat)(post:Shape->List Value->Bd->Bool)(ρ:Nat->Int)(γ:Nat->T.G)(B:Nat->Prop)(w0:World)(R:Mp)(ws:List Value)(w':World):Prop:=
 ∃(j:Nat) (S:Shape) (vs:List Value) (s:Bd) (R1:Mp),tab[j]?=some S/\post S vs s=true/\R.le R1/\ @LR (T.at ρ γ) R1 vs ws/\InS T S (dm ρ γ s.θ) (Ek ρ γ s.η) B w0 (Nl s.f R1) w'
theorem gn(hE:∀(ρ:Nat->Int) (γ:Nat->T.G) (F:List (Value×Value)),(∀p,p∈F-> @den (T.at ρ γ) p.1= @den (T.at ρ γ) p.2)-> @Pb (T.at ρ γ) (E0.Sm F)/\ @Dk (T.at ρ γ) (E0.Sm F))
  {n:Nat}{cs:List (FuncId×List Value)}{f0:List Value->List Nat}{post:Shape->List Value->Bd->Bool}{tab:List Shape}{σ:AH}{ρ:Nat->Int}{γ:Nat->T.G}{B:Nat->Prop}{w0:World}{R:Mp}{w:World}(hS: @Ic (T.at ρ γ) B w0 R σ w){ds:List (FuncId×Array Value)}(hA: @Fk (T.at ρ γ) R cs ds):
  ∀{t:Tree} {F:List (Value×Value)},rF E0 n cs f0 post tab σ t F=true->(∀p,p∈F-> @den (T.at ρ γ) p.1= @den (T.at ρ γ) p.2)->Ce E0.P ds (Aae T tab f0 post ρ γ B w0 R) w
 | .leaf j,F,h,hF=>by
   simp only [rF]at h
   split at h
   . rename_i vs σ' hr
     split at h
     . rename_i S N4
       split at h
       . rename_i hh;obtain ⟨tX,hO1⟩:=hE ρ γ F hF;have:= @Fj (T.at ρ γ) _ tX hO1 _ _ _ _ _ _ _ _ _ _ hr hS hA;refine this.mono ?_
         rintro ws w' ⟨R1,q1,q2,q3⟩;generalize KL σ' 0 ⟨f0 vs,[],[]⟩ S.se=s at h hh;unfold BP at hh;simp only [za,Bool.and_eq_true,jd,decide_eq_true_eq]at hh;obtain ⟨h1,h2,h3,h4,h5⟩:=hh;rw [Gc]at N4;exact ⟨j,S,vs,s,R1,N4,h,q1,q2,⟨Kq ρ γ s.θ s.η tX h3,reshape ρ γ s.θ s.η tX q3 h1 h2⟩⟩
       . cases h
     . cases h
   . cases h
 | .split c l r,F,h,hF=>by
   simp only [rF]at h
   split at h
   . rename_i hc
     split at h
     . rename_i hl;have h8:Ue c=some 8:=by
        unfold isB at hc
        split at hc
        . rename_i k hk;rw [Ja]at hc;rw [hk,of_decide_eq_true hc]
        . cases hc
       obtain ⟨c',hd,hs⟩:= @Fy (T.at ρ γ) _ _ h8;obtain ⟨b,rfl⟩:= @Sc.bool (T.at ρ γ) _ hs;have P4:∀p,p∈((c,Value.bool b)::F)-> @den (T.at ρ γ) p.1= @den (T.at ρ γ) p.2:=by
        intro p hp;rcases List.mem_cons.1 hp with e|e
        . rw [e,hd];rfl
        . exact hF p e
       cases b with
       |true=>exact gn hE hS hA hl P4
       |false=>exact gn hE hS hA h P4
     . cases h
   . cases h
end
end
def notM(t:Nat)(l:List Value):Bool:=
 match Nat.ble 16 t with
 |true=>true
 |false=>match Nat.ble (Nat.mod t 16) 8 with
  |true=>true
  |false=>match l with
   |[.int _ (.ofNat (i+1))]=>true
   |_=>false
mutual
def noM:Nat->Value->Bool
 |0,_=>false
 |d+1,v=>match v with
  | .func f ⟨a⟩ ⟨c⟩=>match f with
    | .methodOf t _=>Ia (notM t a) (QJ d a)
    |_=>Ia (QJ d a) (QJ d c)
  | .agg ⟨l⟩=>QJ d l
  | .tuple ⟨l⟩=>QJ d l
  | .iface _ u=>noM d u
  |_=>true
def QJ:Nat->List Value->Bool
 |0,_=>false
 |d+1,l=>match l with
  |[]=>true
  |x::xs=>match noM d x with|true=>QJ d xs|false=>false
end
section
variable{ρ:Nat->Int}{γ γ':Nat->Gh}(hγ:∀i,1<=i->γ i=γ' i)
include hγ
end
def fZ:List (Option Value)->Bool
 |[]=>true
 |none::l=>fZ l
 |some v::l=>match noM 60 v with|true=>fZ l|false=>false
def gS:Nat->List yh->Bool
 |_,[]=>true
 |i,o::os=>match o with
  | .cells l _ _=>match Nat.beq i 2,Nat.beq i 3 with
    |false,false=>(match fZ l with|true=>gS (Nat.succ i) os|false=>false)
    |_,_=>false
  | .gh e=>match i with
    |2=>(match isVar 9 0 e with|true=>gS (Nat.succ i) os|false=>false)
    |3=>(match lE e with|some m=>(match isVar 9 0 m with|true=>gS (Nat.succ i) os|false=>false)|none=>false)
    |_=>(match noM 60 e with|true=>gS (Nat.succ i) os|false=>false)
structure NG(γ:Nat->Gh)(A:Rv)(c:Dc):Prop where
 g0:γ 0= .mem A
 g1:γ 1= .lay c
 qm:Bg c
section
variable{ρ:Nat->Int}{γ:Nat->Gh}{A:Rv}{c:Dc}
theorem Ut(h:NG γ A c): @den (Th.at ρ γ) (vr 9 0)= .g (.mem A):=by
 have e: @den (Th.at ρ γ) (vr 9 0)= .g (.mem (γ 0).A):=rfl
 rw [e,h.g0];rfl
theorem vi(h:NG γ A c): @den (Th.at ρ γ) (vr 11 1)= .g (.lay c):=by
 have e: @den (Th.at ρ γ) (vr 11 1)= .g (.lay (qm (γ 1).C)):=rfl
 have e2:(γ 1).C=c:=by rw [h.g1];rfl
 rw [e,e2,nM h.qm]
theorem Rk(z:Int)(h0:-1000000000<=z)(h1:z<=1000000000):IntKind.i64.wrap z=z:=by simp [IntKind.wrap,IntKind.bits,IntKind.signed];omega
theorem jn(x y:Value){k k':IntKind}{a b:Int}(hx: @den (Th.at ρ γ) x= .v (.int k a))(hy: @den (Th.at ρ γ) y= .v (.int k' b))(h:a<b): @den (Th.at ρ γ) (sy 280 [x,y])= @den (Th.at ρ γ) tt:=by
 letI:Interp:=Th.at ρ γ
 have e:den (sy 280 [x,y])=rh 280 [den x,den y]:=rfl;rw [e,hx,hy]
 show tc.v (fk 8 (if a<b then 1 else 0))=tc.v (.bool true)
 rw [if_pos h];rfl
theorem gZ(h:NG γ A c)(h0:0<=A.ck)(h1:A.ck<=2000000): @den (Th.at ρ γ) (sy EI [vr 9 0])= .v (.int .i64 A.ck):=by
 letI:Interp:=Th.at ρ γ
 have e:den (sy EI [vr 9 0])=rh EI [den (vr 9 0)]:=rfl;rw [e,Ut h]
 show tc.v (Value.int .i64 (IntKind.i64.wrap A.ck))=_
 rw [Rk _ (by omega) (by omega)]
theorem iZ(h:NG γ A c)(h0:0<=A.wm)(h1:A.wm<=2000000): @den (Th.at ρ γ) (sy V1 [vr 9 0])= .v (.int .i64 A.wm):=by
 letI:Interp:=Th.at ρ γ
 have e:den (sy V1 [vr 9 0])=rh V1 [den (vr 9 0)]:=rfl;rw [e,Ut h]
 show tc.v (Value.int .i64 (IntKind.i64.wrap A.wm))=_
 rw [Rk _ (by omega) (by omega)]
theorem gA(h:NG γ A c)(i:Nat):∃z, @den (Th.at ρ γ) (sy Lh [vr 11 1,rb (.ofNat i)])= .v (.int .i64 z)/\0<z:=by
 letI:Interp:=Th.at ρ γ
 have e:den (sy Lh [vr 11 1,rb (.ofNat i)])=rh Lh [den (vr 11 1), .v (.int .i64 (.ofNat i))]:=rfl;rw [e,vi h];refine ⟨_,rfl, ?_⟩
 show 0<IntKind.i64.wrap (Nj c (.ofNat i))
 have h2:=h.qm;unfold Nj;have:=h2.WI;have:=h2.th;have:=h2.qK;have:=h2.sl;have:=h2.GP;have:=h2.lo;have:=h2.XI;have:=h2.bu
 split
 . rw [Rk _ (by omega) (by omega)];omega
 . split
   . rw [Rk _ (by omega) (by omega)];omega
   . split
     . rw [Rk _ (by omega) (by omega)];omega
     . rw [Rk _ (by omega) (by omega)];omega
theorem sF(h:NG γ A c)(c0:0<=A.ck)(c1:A.ck<999000)(w0:0<=A.wm)(w1:A.wm<999000):∀p,p∈Hv-> @den (Th.at ρ γ) p.1= @den (Th.at ρ γ) p.2:=by
 letI:Interp:=Th.at ρ γ
 have hl:∀n:Int,den (rb n)= .v (.int .i64 n):=fun n=>rfl
 intro p hp;simp only [Hv,List.mem_cons,List.not_mem_nil,or_false]at hp;rcases hp with rfl|rfl|rfl|rfl|rfl|rfl
 . exact jn _ _ (gZ h c0 (by omega)) (hl _) c1
 . exact jn _ _ (iZ h w0 (by omega)) (hl _) w1
 . obtain ⟨z,e,hz⟩:= @gA ρ γ A c h 0;exact jn _ _ (hl _) e hz
 . obtain ⟨z,e,hz⟩:= @gA ρ γ A c h 1;exact jn _ _ (hl _) e hz
 . obtain ⟨z,e,hz⟩:= @gA ρ γ A c h 2;exact jn _ _ (hl _) e hz
 . obtain ⟨z,e,hz⟩:= @gA ρ γ A c h 3;exact jn _ _ (hl _) e hz
theorem Vt{F1:List (Value×Value)}:∀{F2:List (Value×Value)} {p:Value×Value},p∈mz F1 F2->p∈F1\/p∈F2
 |[],p,h=> .inl h
 |q::qs,p,h=>by
  simp only [mz]at h;rcases List.mem_cons.1 h with e|e
  . exact .inr (List.mem_cons.2 (.inl e))
  . exact (Vt e).imp id fun k=>List.mem_cons.2 (.inr k)
theorem iA(A:Rv)(x:Acc)(nw:Int)(pu:Bool):(A.Oe x nw pu).np=A.np:=by
 unfold Rv.Oe Rv.note Rv.put
 split
 . split<;>(first|rfl|(split<;>rfl))
 . rfl
theorem RJ(A:Rv)(t a:Int):(A.Ka t a).np=A.np:=by unfold Rv.Ka;split<;>rfl
theorem SJ(A:Rv)(t:Int):(A.Oa t).np=A.np:=by unfold Rv.Oa;split<;>rfl
theorem Bae{l:List Value}(h:Be l=2):∃a b,l=[a,b]:=by
 rw [Pc]at h
 match l,h with
 |[a,b],_=>exact ⟨a,b,rfl⟩
theorem ear{l:List Value}(h:Be l=3):∃a b c,l=[a,b,c]:=by
 rw [Pc]at h
 match l,h with
 |[a,b,c],_=>exact ⟨a,b,c,rfl⟩
theorem far{l:List Value}(h:Be l=4):∃a b c d,l=[a,b,c,d]:=by
 rw [Pc]at h
 match l,h with
 |[a,b,c,d],_=>exact ⟨a,b,c,d,rfl⟩
theorem gar{l:List Value}(h:Be l=1):∃a,l=[a]:=by
 rw [Pc]at h
 match l,h with
 |[a],_=>exact ⟨a,rfl⟩
theorem bH:∀(d:Nat) (e:Value) (n:Nat) (r:Value),deep d e=some (n,r)->dS d e=true->∃A A0, @den (Th.at ρ γ) e= .g (Gh.mem A)/\ @den (Th.at ρ γ) r= .g (Gh.mem A0)/\A.np=A0.np
 |0,e,n,r,h,_=>by simp [deep]at h
 |d+1,e,n,r,h,ha=>by
  letI:Interp:=Th.at ρ γ
  simp only [deep]at h
  split at h
  . rename_i t s l c
    split at h
    . rename_i ht;rw [Ja]at ht;have ht:=of_decide_eq_true ht;subst ht;cases h;obtain ⟨A,hA⟩:=Wq (ρ:=ρ) (γ:=γ) (e:= .func (.methodOf 9 s) ⟨l⟩ c) rfl;exact ⟨A,A,hA,hA,rfl⟩
    . rename_i h9
      split at h
      . rename_i x l ht
        split at h
        . rename_i m r' hx;cases h;simp only [dS]at ha;rw [h9]at ha;simp only at ha
          split at ha
          . rename_i har;obtain ⟨Ax,A0,h2,h3,h4⟩:=bH d x m r hx ha;unfold arity at har;simp only [sj,za,Bool.or_eq_true,Bool.and_eq_true,Ja,decide_eq_true_eq]at har;rcases har with⟨rfl,hl⟩|⟨rfl,hl⟩|⟨rfl,hl⟩|⟨rfl,hl⟩|⟨rfl,hl⟩
            . obtain ⟨a,b,rfl⟩:=Bae hl;have e: @den (Th.at ρ γ) (.func (.methodOf 25 s) ⟨[x,a,b]⟩ c)=(tc.g (Gh.mem (Yj 1 [@den (Th.at ρ γ) x, @den (Th.at ρ γ) a, @den (Th.at ρ γ) b]).A):tc Gh):=rfl;rw [h2]at e;exact ⟨_,A0,e,h3,(iA Ax _ _ _).trans h4⟩
            . obtain ⟨a,b,c2,rfl⟩:=ear hl;have e: @den (Th.at ρ γ) (.func (.methodOf 41 s) ⟨[x,a,b,c2]⟩ c)=(tc.g (Gh.mem (Yj 2 [@den (Th.at ρ γ) x, @den (Th.at ρ γ) a, @den (Th.at ρ γ) b, @den (Th.at ρ γ) c2]).A):tc Gh):=rfl;rw [h2]at e;exact ⟨_,A0,e,h3,(iA Ax _ _ _).trans h4⟩
            . obtain ⟨a,b,c2,d2,rfl⟩:=far hl;have e: @den (Th.at ρ γ) (.func (.methodOf 57 s) ⟨[x,a,b,c2,d2]⟩ c)=(tc.g (Gh.mem (Yj 3 [@den (Th.at ρ γ) x, @den (Th.at ρ γ) a, @den (Th.at ρ γ) b, @den (Th.at ρ γ) c2, @den (Th.at ρ γ) d2]).A):tc Gh):=rfl;rw [h2]at e;exact ⟨_,A0,e,h3,(iA Ax _ _ _).trans h4⟩
            . obtain ⟨a,b,rfl⟩:=Bae hl;have e: @den (Th.at ρ γ) (.func (.methodOf 73 s) ⟨[x,a,b]⟩ c)=(tc.g (Gh.mem (Yj 4 [@den (Th.at ρ γ) x, @den (Th.at ρ γ) a, @den (Th.at ρ γ) b]).A):tc Gh):=rfl;rw [h2]at e;exact ⟨_,A0,e,h3,(RJ Ax _ _).trans h4⟩
            . obtain ⟨a,rfl⟩:=gar hl;have e: @den (Th.at ρ γ) (.func (.methodOf 89 s) ⟨[x,a]⟩ c)=(tc.g (Gh.mem (Yj 5 [@den (Th.at ρ γ) x, @den (Th.at ρ γ) a]).A):tc Gh):=rfl;rw [h2]at e;exact ⟨_,A0,e,h3,(SJ Ax _).trans h4⟩
          . cases ha
        . cases h
      . cases h
  . cases h
theorem No{k i:Nat}(hk:k=9\/k=11){v:Value}(h:isVar k i v=true): @den (Th.at ρ γ) v= @den (Th.at ρ γ) (vr k i):=by
 unfold isVar at h
 split at h
 . rename_i t s q j c';simp only [za,Bool.and_eq_true,Ja,decide_eq_true_eq]at h;obtain ⟨h1,h2⟩:=h;rcases hk with rfl|rfl
   . subst h1 h2;rfl
   . subst h1 h2;rfl
 . cases h
theorem Ix(h:NG γ A c)(c0:0<=A.ck)(w0:0<=A.wm){θ η:List Value}(hm:Fx η=true)(Pl:Bg c):∃A',NG (Ek (T:=Th) ρ γ η) A' c/\((A'.ck<=A.ck+30/\A'.wm<=A.wm+30)/\A'.np=A.np):=by
 unfold Fx at hm
 split at hm
 . rename_i e l x
   split at hm
   . rename_i n r hd;simp only [za,Bool.and_eq_true]at hm;obtain ⟨har,hr,hl⟩:=hm;obtain ⟨hn,A',hA,hb⟩:= @Qz ρ γ 30 e n r hd;have e1:Ek (T:=Th) ρ γ (e::l::x) 0= .mem A':=by
      unfold Ek;simp only [List.getElem?_cons_zero];rw [hA]
     have e2:Ek (T:=Th) ρ γ (e::l::x) 1= .lay c:=by
      unfold Ek;simp only [List.getElem?_cons_succ,List.getElem?_cons_zero];rw [No (.inr rfl) hl,vi h]
     refine ⟨A',⟨e1,e2,Pl⟩, ?_, ?_⟩
     . rcases hb with⟨h1,h2⟩|⟨A0,h0,h1,h2,h3,h4⟩
       . exact ⟨by omega,by omega⟩
       . rw [No (.inl rfl) hr,Ut h]at h0;cases h0;exact ⟨by omega,by omega⟩
     . obtain ⟨A1,A0,k1,k2,k3⟩:= @bH ρ γ 30 e n r hd har;rw [hA]at k1;cases k1;rw [No (.inl rfl) hr,Ut h]at k2;cases k2;exact k3
   . cases hm
 . cases hm
end
def TJ(P:Ua->Prop):List Ua->Prop
 |[]=>True
 |s::ss=>P s/\TJ P ss
theorem TJ.of{P:Ua->Prop}:∀{tab:List Ua},TJ P tab->∀{S:Shape},S∈Se tab->∃s,S=s.shape/\P s
 |[],h,S,hS=>by simp [Se]at hS
 |s::ss,h,S,hS=>by
  simp only [Se,List.mem_cons]at hS;rcases hS with rfl|hS
  . exact ⟨s,rfl,h.1⟩
  . exact TJ.of h.2 hS
theorem Dae(ρ:Nat->Int)(γ:Nat->Gh): @Pb (Th.at ρ γ) (env.Sm []):=(Qk ρ γ [] (fun p hp=>by cases hp)).1
section
variable{ρ:Nat->Int}{γ:Nat->Gh}
theorem tN(l:List (Option Value))(j:Nat)(v:Value)(h:l[j]?=some (some v)):(⟨Be l,none,rowP (Be l) 0 l .nil⟩:Row).get j=some v:=by
 have hj:j<l.length:=(List.getElem?_eq_some_iff.1 h).1
 unfold Row.get;simp only [Pc];rw [<-Pc];rw [ko (Be l) l 0 .nil j (by rw [Pc];omega),if_pos (Nat.zero_le _),Nat.sub_zero,h]
theorem Tk{se:List yh}{B:Nat->Prop}{w0:World}{R:Mp}{w:World}(hS: @Ic (Th.at ρ γ) B w0 R (OB se) w){b r s i:Nat}{v:Value}(hb:R b=some (r,s))(h:Wj se b i=some v):∃v',w.cell? ⟨r,i,none⟩=some v'/\ @VR (Th.at ρ γ) R v v':=by
 unfold Wj at h
 split at h
 . rename_i l e full ho
   split at h
   . rename_i o hl;subst h;rw [Gc]at ho hl;have hg:(OB se).get b=some (.cells ⟨Be l,none,rowP (Be l) 0 l .nil⟩ e full):=by rw [Yh,ho];rfl
     obtain ⟨c',h1,h2,h3,h4,h5⟩:= @Ji (Th.at ρ γ) _ (Dae ρ γ) B w0 R (OB se) w hS b r s hb _ _ _ hg;obtain ⟨v',q1,-,q2⟩:=h5 i v (tN l i v hl);exact ⟨v',q1,q2⟩
   . cases h
 . cases h
end
def Grown(A A':Rv):Prop:=(A'.ck<=A.ck+30/\A'.wm<=A.wm+30)/\A'.np=A.np
theorem Wt:∀{l:List Value} {i:Nat},V2 i l=true->∀(j:Nat) (u:Value),l[j]?=some u->cz u=some (i+j)
 |[],i,h,j,u,hu=>by simp at hu
 |v::vs,i,h,j,u,hu=>by
  simp only [V2]at h
  split at h
  . rename_i k hk;simp only [za,Bool.and_eq_true,Ja,decide_eq_true_eq]at h;cases j with
    |zero=>simp at hu;subst hu;rw [hk,h.1];rfl
    |succ j=>
     have:=Wt h.2 j u (by simpa using hu)
     rw [this];congr 1;omega
  . cases h
section
variable{tab:List Ua}{W:World}{p q m r l:Nat}{A:Rv}{c:Dc}{S:Shape}{ρ:Nat->Int}{γ:Nat->Gh}{B:Nat->Prop}{w0:World}{R:Mp}{w:World}
theorem Eae{θ η:List Value}(h:V2 0 θ=true):dm (T:=Th) ρ γ θ=ρ:=by
 funext i
 unfold dm;cases hi:θ[i]?with
 |none=>rfl
 |some u=>
  have:=Wt h i u hi;rw [Nat.zero_add]at this;simp only [this]
theorem lr1[Interp]{R:Mp}{a a':Value}(h:VR R a a'):LR R [a] [a']:=LR.cons h (LR.nil R)
theorem lr2[Interp]{R:Mp}{a a' b b':Value}(h:VR R a a')(k:VR R b b'):LR R [a,b] [a',b']:=LR.cons h (lr1 k)
end
end Sk
end Go.Proofs.YtfnkmolffhfpoaaGreat
