/- -/
import Derived.Test.YtfnkmolffhfpoaaGreatHq34
import Derived.Test.YtfnkmolffhfpoaaGreatHq16
import Derived.Test.YtfnkmolffhfpoaaGreatHq14
set_option linter.unusedVariables false
set_option linter.unusedSimpArgs false
set_option linter.unusedSectionVars false
namespace Go.Proofs.YtfnkmolffhfpoaaGreat
namespace Sk
open Go.RowKit
def Tr.keys{α:Type}:Tr α->List (Nat×α)
 | .nil=>[]
 | .node l v r=>(match v with|some x=>[(0,x)]|none=>[])++((l.keys.map fun p=>(2*p.1+1,p.2))++(r.keys.map fun p=>(2*p.1+2,p.2)))
theorem zx{α:Type}:∀(t:Tr α) (n:Nat) (x:α),t.get n=some x->(n,x)∈t.keys
 | .nil,n,x,h=>by rw [Tr.get_nil]at h;cases h
 | .node l v r,0,x,h=>by
   rw [Tr.fq]at h;simp only at h;subst h;simp [Tr.keys]
 | .node l v r,n+1,x,h=>by
   rw [Tr.fq]at h;simp only at h;unfold Tr.keys
   split at h
   . rename_i hb;have hb:n %2=0:=by rw [Na]at hb;exact of_decide_eq_true hb
     have:=zx l _ x h;refine List.mem_append.2 (.inr (List.mem_append.2 (.inl (List.mem_map.2 ⟨_,this, ?_⟩))))
     show(2*(n/2)+1,x)=(n+1,x)
     rw [show 2*(n/2)+1=n+1 by omega]
   . rename_i hb;have hb:¬n %2=0:=by rw [Na]at hb;exact of_decide_eq_false hb
     have:=zx r _ x h;refine List.mem_append.2 (.inr (List.mem_append.2 (.inr (List.mem_map.2 ⟨_,this, ?_⟩))))
     show(2*(n/2)+2,x)=(n+1,x)
     rw [show 2*(n/2)+2=n+1 by omega]
section
variable{ρ:Nat->Int}{γ:Nat->Gh}{F:List (Value×Value)}
def OE(ρ:Nat->Int)(γ:Nat->Gh)(F:List (Value×Value))(f:FuncId)(g:List (Value×Value)->List Value->AH->Option (Value×AH)):Prop:=
 @SH (Th.at ρ γ) Tryz.prog F g f/\∀(args:Array Value) (w:World),(callFunc f args).run Tryz.prog w= .ok (.enter f args) w
variable(hF:∀p,p∈F-> @den (Th.at ρ γ) p.1= @den (Th.at ρ γ) p.2)
include hF
theorem cay:OE ρ γ F 72 (QB):=⟨tN hF,fun args w=>ya Tryz.func72 (by kernel_rfl) rfl args w⟩
theorem eay:OE ρ γ F 83 (oAt):=⟨iaa hF,fun args w=>ya Tryz.func83 (by kernel_rfl) rfl args w⟩
theorem fay:OE ρ γ F 127 (tc Vo [3,8,6]):=⟨@Eb (Th.at ρ γ) (Da ρ γ) _ _ hF _ _ _ (by decide) (@Hax (Th.at ρ γ) (Da ρ γ)),fun args w=>ya Tryz.func127 (by kernel_rfl) rfl args w⟩
theorem gay:OE ρ γ F 46 (NB):=⟨qN hF,fun args w=>ya Tryz.func46 (by kernel_rfl) rfl args w⟩
theorem hay:OE ρ γ F 47 (oDo):=⟨yaa hF,fun args w=>ya Tryz.func47 (by kernel_rfl) rfl args w⟩
theorem iay:OE ρ γ F 240 (oV):=⟨eW,fun args w=>ya Tryz.func240 (by kernel_rfl) rfl args w⟩
theorem jay:OE ρ γ F 64 (zJ):=⟨jR hF,fun args w=>ya Tryz.func64 (by kernel_rfl) rfl args w⟩
theorem kay:OE ρ γ F 341 (oy 10):=⟨tk hF Jax,fun args w=>ya Tryz.func341 (by kernel_rfl) rfl args w⟩
theorem nay:OE ρ γ F 133 (oy 11):=⟨tk hF Kax,fun args w=>ya Tryz.func133 (by kernel_rfl) rfl args w⟩
theorem oay:OE ρ γ F 211 (oy 12):=⟨tk hF Lax,fun args w=>ya Tryz.func211 (by kernel_rfl) rfl args w⟩
theorem pay:OE ρ γ F 84 (tc Mq [3,3]):=⟨@Eb (Th.at ρ γ) (Da ρ γ) _ _ hF _ _ _ (by decide) (@Gax (Th.at ρ γ) (Da ρ γ)),fun args w=>ya Tryz.func84 (by kernel_rfl) rfl args w⟩
theorem qay:OE ρ γ F 131 (tc jV [7]):=⟨@Eb (Th.at ρ γ) (Da ρ γ) _ _ hF _ _ _ (by decide) (@Fax (Th.at ρ γ) (Da ρ γ)),fun args w=>ya Tryz.func131 (by kernel_rfl) rfl args w⟩
theorem sak:OE ρ γ F 65 (AJ):=⟨kR hF,fun args w=>ya Tryz.func65 (by kernel_rfl) rfl args w⟩
theorem tak:OE ρ γ F 66 (OB):=⟨rN hF,fun args w=>ya Tryz.func66 (by kernel_rfl) rfl args w⟩
theorem uak:OE ρ γ F 67 (PB):=⟨sN hF,fun args w=>ya Tryz.func67 (by kernel_rfl) rfl args w⟩
theorem vak:OE ρ γ F 267 (oy 5):=⟨tk hF Raj,fun args w=>ya Tryz.func267 (by kernel_rfl) rfl args w⟩
theorem wak:OE ρ γ F 120 (tc DP [7]):=⟨@Eb (Th.at ρ γ) (Da ρ γ) _ _ hF _ _ _ (by decide) (@naj (Th.at ρ γ) (Da ρ γ)),fun args w=>ya Tryz.func120 (by kernel_rfl) rfl args w⟩
theorem xak:OE ρ γ F 288 (oy 17):=⟨tk hF Xaj,fun args w=>ya Tryz.func288 (by kernel_rfl) rfl args w⟩
theorem yak:OE ρ γ F 124 (oy 7):=⟨tk hF Taj,fun args w=>ya Tryz.func124 (by kernel_rfl) rfl args w⟩
theorem zak:OE ρ γ F 126 (oy 6):=⟨tk hF Saj,fun args w=>ya Tryz.func126 (by kernel_rfl) rfl args w⟩
theorem Aak:OE ρ γ F 128 (tc hH [7]):=⟨@Eb (Th.at ρ γ) (Da ρ γ) _ _ hF _ _ _ (by decide) (@vaj (Th.at ρ γ) (Da ρ γ)),fun args w=>ya Tryz.func128 (by kernel_rfl) rfl args w⟩
theorem Bak:OE ρ γ F 132 (tc qM [7]):=⟨@Eb (Th.at ρ γ) (Da ρ γ) _ _ hF _ _ _ (by decide) (@uaj (Th.at ρ γ) (Da ρ γ)),fun args w=>ya Tryz.func132 (by kernel_rfl) rfl args w⟩
theorem Cak:OE ρ γ F 134 (tc Hz [7]):=⟨@Eb (Th.at ρ γ) (Da ρ γ) _ _ hF _ _ _ (by decide) (@xaj (Th.at ρ γ) (Da ρ γ)),fun args w=>ya Tryz.func134 (by kernel_rfl) rfl args w⟩
theorem Dak:OE ρ γ F 150 (tc jV [7]):=⟨@Eb (Th.at ρ γ) (Da ρ γ) _ _ hF _ _ _ (by decide) (@paj (Th.at ρ γ) (Da ρ γ)),fun args w=>ya Tryz.func150 (by kernel_rfl) rfl args w⟩
theorem Eak:OE ρ γ F 153 (tc Hz [7]):=⟨@Eb (Th.at ρ γ) (Da ρ γ) _ _ hF _ _ _ (by decide) (@yaj (Th.at ρ γ) (Da ρ γ)),fun args w=>ya Tryz.func153 (by kernel_rfl) rfl args w⟩
theorem Fak:OE ρ γ F 155 (tc Vo [3,8,6]):=⟨@Eb (Th.at ρ γ) (Da ρ γ) _ _ hF _ _ _ (by decide) (@Kaj (Th.at ρ γ) (Da ρ γ)),fun args w=>ya Tryz.func155 (by kernel_rfl) rfl args w⟩
theorem Gak:OE ρ γ F 156 (tc hH [7]):=⟨@Eb (Th.at ρ γ) (Da ρ γ) _ _ hF _ _ _ (by decide) (@waj (Th.at ρ γ) (Da ρ γ)),fun args w=>ya Tryz.func156 (by kernel_rfl) rfl args w⟩
theorem Hak:OE ρ γ F 161 (tc Mq [3,3]):=⟨@Eb (Th.at ρ γ) (Da ρ γ) _ _ hF _ _ _ (by decide) (@Faj (Th.at ρ γ) (Da ρ γ)),fun args w=>ya Tryz.func161 (by kernel_rfl) rfl args w⟩
theorem Iak:OE ρ γ F 217 (tc Hh [7]):=⟨@Eb (Th.at ρ γ) (Da ρ γ) _ _ hF _ _ _ (by decide) (@Baj (Th.at ρ γ) (Da ρ γ)),fun args w=>ya Tryz.func217 (by kernel_rfl) rfl args w⟩
theorem Jak:OE ρ γ F 212 (oy 13):=⟨tk hF Vaj,fun args w=>ya Tryz.func212 (by kernel_rfl) rfl args w⟩
theorem Kak:OE ρ γ F 223 (nV 8):=⟨dW hF,fun args w=>ya Tryz.func223 (by kernel_rfl) rfl args w⟩
theorem Lak:OE ρ γ F 224 (tc Bs [3,3]):=⟨@Eb (Th.at ρ γ) (Da ρ γ) _ _ hF _ _ _ (by decide) (@Gaj (Th.at ρ γ) (Da ρ γ)),fun args w=>ya Tryz.func224 (by kernel_rfl) rfl args w⟩
theorem Mak:OE ρ γ F 236 (tc Rg [7]):=⟨@Eb (Th.at ρ γ) (Da ρ γ) _ _ hF _ _ _ (by decide) (@Daj (Th.at ρ γ) (Da ρ γ)),fun args w=>ya Tryz.func236 (by kernel_rfl) rfl args w⟩
theorem Nak:OE ρ γ F 237 (Eu):=⟨fI hF,fun args w=>ya Tryz.func237 (by kernel_rfl) rfl args w⟩
theorem Oak:OE ρ γ F 243 (tc DP [7]):=⟨@Eb (Th.at ρ γ) (Da ρ γ) _ _ hF _ _ _ (by decide) (@oaj (Th.at ρ γ) (Da ρ γ)),fun args w=>ya Tryz.func243 (by kernel_rfl) rfl args w⟩
theorem Pak:OE ρ γ F 244 (rV):=⟨rW hF,fun args w=>ya Tryz.func244 (by kernel_rfl) rfl args w⟩
theorem Qak:OE ρ γ F 249 (tc Bs [3,3]):=⟨@Eb (Th.at ρ γ) (Da ρ γ) _ _ hF _ _ _ (by decide) (@Haj (Th.at ρ γ) (Da ρ γ)),fun args w=>ya Tryz.func249 (by kernel_rfl) rfl args w⟩
theorem Rak:OE ρ γ F 251 (tc Hh [7]):=⟨@Eb (Th.at ρ γ) (Da ρ γ) _ _ hF _ _ _ (by decide) (@Caj (Th.at ρ γ) (Da ρ γ)),fun args w=>ya Tryz.func251 (by kernel_rfl) rfl args w⟩
theorem Sak:OE ρ γ F 252 (tc Fh [7]):=⟨@Eb (Th.at ρ γ) (Da ρ γ) _ _ hF _ _ _ (by decide) (@Aaj (Th.at ρ γ) (Da ρ γ)),fun args w=>ya Tryz.func252 (by kernel_rfl) rfl args w⟩
theorem Tak:OE ρ γ F 281 (tc Fh [7]):=⟨@Eb (Th.at ρ γ) (Da ρ γ) _ _ hF _ _ _ (by decide) (@zaj (Th.at ρ γ) (Da ρ γ)),fun args w=>ya Tryz.func281 (by kernel_rfl) rfl args w⟩
theorem Uak:OE ρ γ F 182 (oy 16):=⟨tk hF Waj,fun args w=>ya Tryz.func182 (by kernel_rfl) rfl args w⟩
theorem Vak:OE ρ γ F 289 (tc nE [3,6]):=⟨@Eb (Th.at ρ γ) (Da ρ γ) _ _ hF _ _ _ (by decide) (@Iaj (Th.at ρ γ) (Da ρ γ)),fun args w=>ya Tryz.func289 (by kernel_rfl) rfl args w⟩
theorem Wak:OE ρ γ F 292 (tc Rg [7]):=⟨@Eb (Th.at ρ γ) (Da ρ γ) _ _ hF _ _ _ (by decide) (@Eaj (Th.at ρ γ) (Da ρ γ)),fun args w=>ya Tryz.func292 (by kernel_rfl) rfl args w⟩
theorem Xak:OE ρ γ F 293 (tc Np [7]):=⟨@Eb (Th.at ρ γ) (Da ρ γ) _ _ hF _ _ _ (by decide) (@raj (Th.at ρ γ) (Da ρ γ)),fun args w=>ya Tryz.func293 (by kernel_rfl) rfl args w⟩
theorem Yak:OE ρ γ F 308 (tc Np [7]):=⟨@Eb (Th.at ρ γ) (Da ρ γ) _ _ hF _ _ _ (by decide) (@qaj (Th.at ρ γ) (Da ρ γ)),fun args w=>ya Tryz.func308 (by kernel_rfl) rfl args w⟩
theorem Zak:OE ρ γ F 309 (tc pM [7]):=⟨@Eb (Th.at ρ γ) (Da ρ γ) _ _ hF _ _ _ (by decide) (@saj (Th.at ρ γ) (Da ρ γ)),fun args w=>ya Tryz.func309 (by kernel_rfl) rfl args w⟩
theorem aal:OE ρ γ F 301 (tc nE [3,6]):=⟨@Eb (Th.at ρ γ) (Da ρ γ) _ _ hF _ _ _ (by decide) (@Jaj (Th.at ρ γ) (Da ρ γ)),fun args w=>ya Tryz.func301 (by kernel_rfl) rfl args w⟩
theorem bal:OE ρ γ F 302 (tc pM [7]):=⟨@Eb (Th.at ρ γ) (Da ρ γ) _ _ hF _ _ _ (by decide) (@taj (Th.at ρ γ) (Da ρ γ)),fun args w=>ya Tryz.func302 (by kernel_rfl) rfl args w⟩
theorem cal:OE ρ γ F 343 (oy 9):=⟨tk hF Uaj,fun args w=>ya Tryz.func343 (by kernel_rfl) rfl args w⟩
omit hF in
theorem Ca{c:Nat}{g g0:List (Value×Value)->List Value->AH->Option (Value×AH)}(h:V7 c=some g)(h0:V7 c=some g0):g=g0:=by rw [h0]at h;cases h;rfl
def xR:List (Nat×Nat):=[(72,33),(83,27),(127,14),(46,29),(47,35),(240,26),(64,28),(341,20),(133,21),(211,22),(84,11),(131,2),(65,30),(66,31),(67,32),(267,15),(120,1),(288,25),(124,17),(126,16),(128,6),(132,5),(134,7),(150,2),(153,7),(155,14),(156,6),(161,11),(217,9),(212,23),(223,18),(224,12),(236,10),(237,34),(243,1),(244,36),(249,12),(251,9),(252,8),(281,8),(182,24),(289,13),(292,10),(293,3),(308,3),(309,4),(301,13),(302,4),(343,19)]
omit hF in
theorem yR:(W7.keys.all fun p=>xR.any fun q=>Nat.beq p.1 q.1&&Nat.beq p.2 q.2)=true:=by kernel_rfl
omit hF in
theorem tW{f c:Nat}(h:W7.get f=some c):(f,c)∈xR:=by
 have h1:=List.all_eq_true.1 yR _ (zx _ _ _ h)
 obtain ⟨q,hq,h2⟩:=List.any_eq_true.1 h1
 rw [Bool.and_eq_true,Na,Na]at h2;have e1:=of_decide_eq_true h2.1
 have e2:=of_decide_eq_true h2.2
 obtain ⟨a,b⟩:=q;simp only at e1 e2;subst e1 e2;exact hq
theorem uW{f:FuncId}{g:List (Value×Value)->List Value->AH->Option (Value×AH)}(h:sV f=some g):OE ρ γ F f g:=by
 unfold sV at h
 split at h
 . rename_i c hc;have hm:=tW hc;simp only [xR,List.mem_cons,Prod.mk.injEq,List.not_mem_nil,or_false]at hm;rcases hm with⟨rfl,rfl⟩|⟨rfl,rfl⟩|⟨rfl,rfl⟩|⟨rfl,rfl⟩|⟨rfl,rfl⟩|⟨rfl,rfl⟩|⟨rfl,rfl⟩|⟨rfl,rfl⟩|⟨rfl,rfl⟩|⟨rfl,rfl⟩|⟨rfl,rfl⟩|⟨rfl,rfl⟩|⟨rfl,rfl⟩|⟨rfl,rfl⟩|⟨rfl,rfl⟩|⟨rfl,rfl⟩|⟨rfl,rfl⟩|⟨rfl,rfl⟩|⟨rfl,rfl⟩|⟨rfl,rfl⟩|⟨rfl,rfl⟩|⟨rfl,rfl⟩|⟨rfl,rfl⟩|⟨rfl,rfl⟩|⟨rfl,rfl⟩|⟨rfl,rfl⟩|⟨rfl,rfl⟩|⟨rfl,rfl⟩|⟨rfl,rfl⟩|⟨rfl,rfl⟩|⟨rfl,rfl⟩|⟨rfl,rfl⟩|⟨rfl,rfl⟩|⟨rfl,rfl⟩|⟨rfl,rfl⟩|⟨rfl,rfl⟩|⟨rfl,rfl⟩|⟨rfl,rfl⟩|⟨rfl,rfl⟩|⟨rfl,rfl⟩|⟨rfl,rfl⟩|⟨rfl,rfl⟩|⟨rfl,rfl⟩|⟨rfl,rfl⟩|⟨rfl,rfl⟩|⟨rfl,rfl⟩|⟨rfl,rfl⟩|⟨rfl,rfl⟩|⟨rfl,rfl⟩
   . rw [Ca h rfl];exact cay hF
   . rw [Ca h rfl];exact eay hF
   . rw [Ca h rfl];exact fay hF
   . rw [Ca h rfl];exact gay hF
   . rw [Ca h rfl];exact hay hF
   . rw [Ca h rfl];exact iay hF
   . rw [Ca h rfl];exact jay hF
   . rw [Ca h rfl];exact kay hF
   . rw [Ca h rfl];exact nay hF
   . rw [Ca h rfl];exact oay hF
   . rw [Ca h rfl];exact pay hF
   . rw [Ca h rfl];exact qay hF
   . rw [Ca h rfl];exact sak hF
   . rw [Ca h rfl];exact tak hF
   . rw [Ca h rfl];exact uak hF
   . rw [Ca h rfl];exact vak hF
   . rw [Ca h rfl];exact wak hF
   . rw [Ca h rfl];exact xak hF
   . rw [Ca h rfl];exact yak hF
   . rw [Ca h rfl];exact zak hF
   . rw [Ca h rfl];exact Aak hF
   . rw [Ca h rfl];exact Bak hF
   . rw [Ca h rfl];exact Cak hF
   . rw [Ca h rfl];exact Dak hF
   . rw [Ca h rfl];exact Eak hF
   . rw [Ca h rfl];exact Fak hF
   . rw [Ca h rfl];exact Gak hF
   . rw [Ca h rfl];exact Hak hF
   . rw [Ca h rfl];exact Iak hF
   . rw [Ca h rfl];exact Jak hF
   . rw [Ca h rfl];exact Kak hF
   . rw [Ca h rfl];exact Lak hF
   . rw [Ca h rfl];exact Mak hF
   . rw [Ca h rfl];exact Nak hF
   . rw [Ca h rfl];exact Oak hF
   . rw [Ca h rfl];exact Pak hF
   . rw [Ca h rfl];exact Qak hF
   . rw [Ca h rfl];exact Rak hF
   . rw [Ca h rfl];exact Sak hF
   . rw [Ca h rfl];exact Tak hF
   . rw [Ca h rfl];exact Uak hF
   . rw [Ca h rfl];exact Vak hF
   . rw [Ca h rfl];exact Wak hF
   . rw [Ca h rfl];exact Xak hF
   . rw [Ca h rfl];exact Yak hF
   . rw [Ca h rfl];exact Zak hF
   . rw [Ca h rfl];exact aal hF
   . rw [Ca h rfl];exact bal hF
   . rw [Ca h rfl];exact cal hF
 . cases h
theorem zaa{E:Env}(hP:E.P=Tryz.prog)(ho:E.E6=sV)(hf:E.facts=F): @Yl (Th.at ρ γ) E:=by
 letI:Interp:=Th.at ρ γ
 intro f g hg args σ v σ' yk B w0 R w args' hS hl;rw [ho]at hg;rw [hf]at yk;obtain ⟨h1,h2⟩:=uW hF hg;rw [hP];refine ⟨h2 args' w,fun Fe hFe n=> ?_⟩;exact hFe.calls (h1 args σ v σ' yk B w0 R w args'.toList hS hl)
end
theorem DF:Tryz.prog.follows .mixedOrders=true:=by kernel_rfl
theorem pr(ρ:Nat->Int)(γ:Nat->Gh)(F:List (Value×Value))(hF:∀p,p∈F-> @den (Th.at ρ γ) p.1= @den (Th.at ρ γ) p.2): @Rb (Th.at ρ γ) (env.Jl F)/\ @Yl (Th.at ρ γ) (env.Jl F):=by
 letI:Interp:=Th.at ρ γ
 haveI:Lc:=Da ρ γ
 have h0:Rb env:=yP BJ Jz CJ Kz DF (fun F hF v c hv=>mF F hF v c hv) (fun e o ty v h g r O w hd hg=>WV e o ty v h g r O w hd hg);exact ⟨h0.Jl hF,zaa hF rfl rfl rfl⟩
end Sk
end Go.Proofs.YtfnkmolffhfpoaaGreat
namespace Go.Proofs.YtfnkmolffhfpoaaGreat
namespace Sk
noncomputable section
def Lg(Yb:List dh)(b i:Nat):Option Value:=
 match Rf Yb b with
 |some (.cells l _ _)=>match Rf l i with|some o=>o|none=>none
 |_=>none
def mA(u:Value)(o:Option Value):Bool:=match o with|some v=>Lf 60 u v|none=>false
def dal(b c:Bool):Bool:=match b with|true=>c|false=>Qh c
def uK(o:Option Value)(b:Bool):Bool:=
 match o with
 |some (.int .i64 n)=>dal b (Pg n 0)
 |_=>false
def isVar(k i:Nat)(v:Value):Bool:=
 match v with
 | .func (.methodOf t _) ⟨[.int _ (.ofNat j)]⟩ _=>Ra (Nat.beq t k) (Nat.beq j i)
 |_=>false
def arity(t n:Nat):Bool:=mD (Ra (Nat.beq t 25) (Nat.beq n 2)) (mD (Ra (Nat.beq t 41) (Nat.beq n 3)) (mD (Ra (Nat.beq t 57) (Nat.beq n 4)) (mD (Ra (Nat.beq t 73) (Nat.beq n 2)) (Ra (Nat.beq t 89) (Nat.beq n 1)))))
def vW:Nat->Value->Bool
 |0,_=>false
 |d+1,e=>match e with
  | .func (.methodOf t _) ⟨l⟩ _=>match Nat.beq t 9 with
    |true=>true
    |false=>match l with
     |x::ys=>match arity t (Ue ys)with|true=>vW d x|false=>false
     |[]=>false
  |_=>false
def vK(η:List Value):Bool:=
 match η with
 |e::l::_=>match deep 30 e with|some (_,r)=>Ra (vW 30 e) (Ra (isVar 9 0 r) (isVar 11 1 l))|none=>false
 |_=>false
def idT:Nat->List Value->Bool
 |_,[]=>true
 |i,u::us=>match iE u with|some j=>Ra (Nat.beq j i) (idT (Nat.succ i) us)|none=>false
def idG:List Value->Bool
 |e::l::[]=>Ra (isVar 9 0 e) (isVar 11 1 l)
 |_=>false
def idS(s:Bd):Bool:=Ra (idT 0 s.θ) (idG s.η)
structure Ob where
 cs:List (FuncId×List Value)
 ok:List dh->List Value->Bool
def FN(E:Env)(S:Shape)(o:Ob):Bool:=MB E 100000 o.cs (fun S vs s=>Ra (idS s) (o.ok S.Yb vs)) [S] 5 (Cu S.Yb) (.leaf 0) (lu S.facts ku)
def Bx(E:Env)(S:Shape):List Ob->Bool
 |[]=>true
 |o::os=>match FN E S o with|true=>Bx E S os|false=>false
structure uu where
 done:Nat
 result:Nat
 holds:Nat
 IC:Nat
 Sg:Nat
 Mg:Nat
 writes:Nat
 line:Nat
 last:Nat
def pV:Value:= .pointer (some ⟨0,0,none⟩)
def qV:Value:= .pointer (some ⟨1,0,none⟩)
def rI(f:Nat)(g:List dh->Value->Bool):Ob:=⟨[(f,[pV])],fun Yb vs=>match vs with|[v]=>g Yb v|_=>false⟩
def Cn(k:Nat)(v:Value):Bool:=match Gf v with|some j=>Nat.beq j k|none=>false
def uu.obs(t:uu):List Ob:=
 [rI t.done fun Yb v=>(match v with| .bool b=>uK (Lg Yb 1 t.line) b|_=>false),
  rI t.result fun Yb v=>(match v with| .agg ⟨[a,b]⟩=>Ra (Ra (Cn 3 a) (Cn 6 b)) (Ra (mA a (Lg Yb 1 t.last)) (mA b (Lg Yb 1 (Nat.add t.last 1))))|_=>false),
  ⟨[(t.holds,[pV]),(t.IC,[qV])],fun Yb vs=>match vs with|[a,b]=>Ra (Cn 3 a) (Lf 60 a b)|_=>false⟩,
  rI t.Sg fun Yb v=>Ra (Cn 3 v) (mA v (Lg Yb 1 (Nat.add t.last 2))),
  rI t.Mg fun Yb v=>Ra (Cn 3 v) (mA v (Lg Yb 1 (Nat.add t.last 3))),
  rI t.writes fun Yb v=>Ra (Cn 3 v) (mA v (Lg Yb 1 (Nat.add t.last 4)))]
def nA(line:Nat)(S:Shape)(vs:List Value)(s:Bd):Bool:=
 match vs with
 |[.bool b,_]=>Ra (uK (Lg S.Yb 1 line) b) (vK s.η)
 |_=>false
end
end Sk
end Go.Proofs.YtfnkmolffhfpoaaGreat
namespace Go.Proofs.YtfnkmolffhfpoaaGreat
namespace Sk
open Go.RowKit
noncomputable section
def GN(E0:Env)(n:Nat)(cs:List (FuncId×List Value))(f0:List Value->List Nat)(post:Shape->List Value->Bd->Bool)(tab:List Shape)(σ:AH):Tree->List (Value×Value)->Bool
 | .leaf j,F=>match runs (E0.Jl F) n cs σ with
   |some (vs,σ')=>match Rf tab j with
    |some S=>match oM σ' 0 ⟨f0 vs,[],[]⟩ S.Yb with
     |s=>match PO (E0.Jl F) S 0 σ' s with|true=>post S vs s|false=>false
    |none=>false
   |none=>false
 | .split c l r,F=>match isB c with
   |true=>match GN E0 n cs f0 post tab σ l ((c, .bool true)::F)with
    |true=>GN E0 n cs f0 post tab σ r ((c, .bool false)::F)
    |false=>false
   |false=>false
def wW:List Nat->List Nat->Bool
 |[],_=>true
 |a::az,b::bs=>match Nat.beq a b with|true=>wW az bs|false=>false
 |_::_,[]=>false
def Aaa(vs:List Value):List Nat:=
 match vs with
 |[u,v]=>[Bm u,Bm v,0,1,2]
 |_=>[]
def EF(v:Value):Bool:=
 match v with
 | .pointer (some ⟨_,o,none⟩)=>Nat.beq o 0
 |_=>false
def YX(S:Shape)(vs:List Value)(s:Bd):Bool:=
 match vs with
 |[u,v]=>Ra (EF u) (Ra (EF v) (Ra (wW (Aaa vs) s.f) (vK s.η)))
 |_=>false
def FF:List dh:=[.gh (vr 9 0), .gh (sy Cs [vr 9 0]), .gh (vr 11 1)]
def fal(E0:Env)(cs:List (FuncId×List Value))(tab:List Wa)(t:Tree):Bool:=GN E0 100000 cs Aaa YX (Ag tab) (Cu FF) t ku
section
variable{T:ti}{E0:Env}
def gal(T:ti)(tab:List Shape)(f0:List Value->List Nat)(post:Shape->List Value->Bd->Bool)(ρ:Nat->Int)(γ:Nat->T.G)(B:Nat->Prop)(w0:World)(R:Mp)(ws:List Value)(w':World):Prop:=
 ∃(j:Nat) (S:Shape) (vs:List Value) (s:Bd) (R1:Mp),tab[j]?=some S/\post S vs s=true/\R.le R1/\ @LR (T.at ρ γ) R1 vs ws/\InS T S (aw ρ γ s.θ) (Zl ρ γ s.η) B w0 (Kp s.f R1) w'
end
end
def notM(t:Nat)(l:List Value):Bool:=
 match Nat.ble 16 t with
 |true=>true
 |false=>match Nat.ble (Nat.mod t 16) 8 with
  |true=>true
  |false=>match l with
   |[.int _ (.ofNat (i+1))]=>true
   |_=>false
mutual
def Ru:Nat->Value->Bool
 |0,_=>false
 |d+1,v=>match v with
  | .func f ⟨a⟩ ⟨c⟩=>match f with
    | .methodOf t _=>Ra (notM t a) (vu d a)
    |_=>Ra (vu d a) (vu d c)
  | .agg ⟨l⟩=>vu d l
  | .tuple ⟨l⟩=>vu d l
  | .iface _ u=>Ru d u
  |_=>true
def vu:Nat->List Value->Bool
 |0,_=>false
 |d+1,l=>match l with
  |[]=>true
  |x::xs=>match Ru d x with|true=>vu d xs|false=>false
end
section
variable{ρ:Nat->Int}{γ γ':Nat->Gh}(hγ:∀i,1<=i->γ i=γ' i)
include hγ
theorem sr:∀(d:Nat),(∀v,Ru d v=true-> @den (Th.at ρ γ) v= @den (Th.at ρ γ') v)/\(∀l,vu d l=true-> @Tb (Th.at ρ γ) l= @Tb (Th.at ρ γ') l)
 |0=>⟨fun v h=>by simp [Ru]at h,fun l h=>by simp [vu]at h⟩
 |d+1=>by
  obtain ⟨ih1,ih2⟩:=sr d;refine ⟨fun v h=> ?_,fun l h=> ?_⟩
  . cases v with
    |func f a c=>
     obtain ⟨a⟩:=a;obtain ⟨c⟩:=c;cases f with
     |methodOf t s=>
      simp only [Ru,Aa,Bool.and_eq_true]at h;obtain ⟨h1,h2⟩:=h;have e:=ih2 a h2
      show @ni (Th.at ρ γ) t (@Tb (Th.at ρ γ) a)= @ni (Th.at ρ γ') t (@Tb (Th.at ρ γ') a)
      rw [e];unfold ni
      split
      . rfl
      . rename_i hk;unfold notM at h1
        split at h1
        . rename_i ht;rw [yd]at ht;have ht:=of_decide_eq_true ht;have:∃n,Nat.div t 16=n+1:=Nat.exists_eq_succ_of_ne_zero (Nat.ne_of_gt (Nat.div_pos ht (by decide)));obtain ⟨n,hn⟩:=this;rw [hn];rfl
        . rw [hk]at h1;simp only at h1
          split at h1
          . rename_i q i;have: @Tb (Th.at ρ γ') [Value.int q (Int.ofNat (i+1))]=[.v (.int q (Int.ofNat (i+1)))]:=rfl;rw [this];cases hn:Nat.div t 16 with
            |zero=>
             show Qc.g (tu (Nat.mod t 16) (γ (i+1)))=Qc.g (tu (Nat.mod t 16) (γ' (i+1)))
             rw [hγ (i+1) (by omega)]
            |succ n=>rfl
          . cases h1
     |_=>rfl
    |_=>rfl
  . cases l with
    |nil=>rfl
    |cons x xs=>
     simp only [vu]at h
     split at h
     . rename_i hx
       show @den (Th.at ρ γ) x:: @Tb (Th.at ρ γ) xs= @den (Th.at ρ γ') x:: @Tb (Th.at ρ γ') xs
       rw [ih1 x hx,ih2 xs h]
     . cases h
theorem Baa{R:Mp}{v v':Value}(h: @VR (Th.at ρ γ) R v v'):∀(d:Nat),Ru d v=true-> @VR (Th.at ρ γ') R v v':=by
 letI:Interp:=Th.at ρ γ'
 have lst:∀(d:Nat) (l:List Value),vu d l=true->∀(i:Nat) (x:Value),l[i]?=some x->∃e,Ru e x=true:=by
  intro d
  induction d with
  |zero=>intro l h;simp [vu]at h
  |succ d ih=>
   intro l h i x hx;cases l with
   |nil=>simp at hx
   |cons y ys=>
    simp only [vu]at h
    split at h
    . rename_i hy;cases i with
      |zero=>simp at hx;subst hx;exact ⟨d,hy⟩
      |succ i=>exact ih ys h i x (by simpa using hx)
    . cases h
 induction h with
 |flat v h=>intro d _;exact .flat v h
 |sym t s l c v' h=>
  intro d hd;exact .sym t s l c v' (((sr hγ d).1 _ hd).symm.trans h)
 |ptr b o b' s h=>intro d _;exact .ptr b o b' s h
 |ly b o b' s n z c' h hz hc hn=>intro d _;exact .ly b o b' s n z c' h hz hc hn
 |iO b o b' s n z c h hz hn=>intro d _;exact .iO b o b' s n z c h hz hn
 |FG a c'=>intro d _;exact .FG a c'
 |ML a=>intro d _;exact .ML a
 |map r r' s h=>intro d _;exact .map r r' s h
 |fn f a a' c c' ha hc h1 h2 i1 i2=>
  intro d hd;cases d with
  |zero=>simp [Ru]at hd
  |succ d=>
   simp only [Ru,Aa,Bool.and_eq_true]at hd;refine .fn f a a' c c' ha hc (fun i x y hx hy=> ?_) (fun i x y hx hy=> ?_)
   . obtain ⟨e,he⟩:=lst d a hd.1 i x hx
     exact i1 i x y hx hy e he
   . obtain ⟨e,he⟩:=lst d c hd.2 i x hx
     exact i2 i x y hx hy e he
 |yl l l' s h=>intro d _;exact .yl l l' s h
 |Wu t v v' h ih=>
  intro d hd;cases d with
  |zero=>simp [Ru]at hd
  |succ d=>exact .Wu t v v' (ih d (by simpa [Ru]using hd))
 |agg l l' hs h ih=>
  intro d hd;cases d with
  |zero=>simp [Ru]at hd
  |succ d=>
   refine .agg l l' hs fun i x y hx hy=> ?_
   obtain ⟨e,he⟩:=lst d l (by simpa [Ru]using hd) i x hx;exact ih i x y hx hy e he
 |LG l l' hs h ih=>
  intro d hd;cases d with
  |zero=>simp [Ru]at hd
  |succ d=>
   refine .LG l l' hs fun i x y hx hy=> ?_
   obtain ⟨e,he⟩:=lst d l (by simpa [Ru]using hd) i x hx;exact ih i x y hx hy e he
end
def sI:List (Option Value)->Bool
 |[]=>true
 |none::l=>sI l
 |some v::l=>match Ru 60 v with|true=>sI l|false=>false
def GF:Nat->List dh->Bool
 |_,[]=>true
 |i,o::os=>match o with
  | .cells l _ _=>match Nat.beq i 2,Nat.beq i 3 with
    |false,false=>(match sI l with|true=>GF (Nat.succ i) os|false=>false)
    |_,_=>false
  | .gh e=>match i with
    |2=>(match isVar 9 0 e with|true=>GF (Nat.succ i) os|false=>false)
    |3=>(match RB e with|some m=>(match isVar 9 0 m with|true=>GF (Nat.succ i) os|false=>false)|none=>false)
    |_=>(match Ru 60 e with|true=>GF (Nat.succ i) os|false=>false)
def xW:List (Value×Value)->Bool
 |[]=>true
 |p::ps=>match Ra (Ru 60 p.1) (Ru 60 p.2)with|true=>xW ps|false=>false
def yW(S:Shape):Bool:=Ra (GF 0 S.Yb) (xW S.facts)
theorem Ts:∀{l:List (Option Value)},sI l=true->∀(i:Nat) (v:Value),l[i]?=some (some v)->Ru 60 v=true
 |[],h,i,v,hv=>by simp at hv
 |none::l,h,i,v,hv=>by
  cases i with
  |zero=>simp at hv
  |succ i=>exact Ts (l:=l) (by simpa [sI]using h) i v (by simpa using hv)
 |some u::l,h,i,v,hv=>by
  simp only [sI]at h
  split at h
  . rename_i hu;cases i with
    |zero=>simp at hv;subst hv;exact hu
    |succ i=>exact Ts h i v (by simpa using hv)
  . cases h
theorem oA:∀{l:List (Value×Value)},xW l=true->∀p,p∈l->Ru 60 p.1=true/\Ru 60 p.2=true
 |[],h,p,hp=>by simp at hp
 |q::l,h,p,hp=>by
  simp only [xW]at h
  split at h
  . rename_i hq;simp only [Aa,Bool.and_eq_true]at hq;rcases List.mem_cons.1 hp with rfl|hp
    . exact hq
    . exact oA h p hp
  . cases h
def ial(i:Nat)(o:dh):Prop:=
 match o with
 | .cells l _ _=>i≠2/\i≠3/\sI l=true
 | .gh e=>(i=2/\isVar 9 0 e=true)\/(i=3/\∃m,RB e=some m/\isVar 9 0 m=true)\/(i≠2/\i≠3/\Ru 60 e=true)
theorem pA:∀{l:List dh} {i:Nat},GF i l=true->∀(j:Nat) (o:dh),l[j]?=some o->ial (i+j) o
 |[],i,h,j,o,ho=>by simp at ho
 |p::l,i,h,j,o,ho=>by
  have key:ial i p/\GF (Nat.succ i) l=true:=by
   simp only [GF]at h
   split at h
   . rename_i q e f
     split at h
     . rename_i h2 h3
       split at h
       . rename_i hq;rw [Na]at h2 h3;exact ⟨⟨of_decide_eq_false h2,of_decide_eq_false h3,hq⟩,h⟩
       . cases h
     . cases h
   . rename_i e
     split at h
     . split at h
       . rename_i hv;exact ⟨.inl ⟨rfl,hv⟩,h⟩
       . cases h
     . split at h
       . rename_i m hm
         split at h
         . rename_i hv;exact ⟨.inr (.inl ⟨rfl,m,hm,hv⟩),h⟩
         . cases h
       . cases h
     . rename_i h2 h3
       split at h
       . rename_i hv;exact ⟨.inr (.inr ⟨h2,h3,hv⟩),h⟩
       . cases h
  cases j with
  |zero=>simp at ho;subst ho;exact key.1
  |succ j=>
   have:=pA key.2 j o (by simpa using ho)
   rw [show Nat.succ i+j=i+(j+1)by omega]at this;exact this
theorem qA{ρ:Nat->Int}{γ:Nat->Gh}{v:Value}(h:isVar 9 0 v=true): @den (Th.at ρ γ) v= .g (Gh.mem (γ 0).A):=by
 unfold isVar at h
 split at h
 . rename_i t s q j c;simp only [Aa,Bool.and_eq_true,Na,decide_eq_true_eq]at h;have h1:t=9:=h.1
   have h2:j=0:=h.2
   subst h1 h2;rfl
 . cases h
theorem InS.mem{S:Shape}{ρ:Nat->Int}{γ:Nat->Gh}{B:Nat->Prop}{w0:World}{R:Mp}{w:World}(hI:InS Th S ρ γ B w0 R w)(hS:yW S=true){m r s2 s3:Nat}(h2:R 2=some (m,s2))(h3:R 3=some (r,s3))(l2:∃e,S.Yb[2]?=some (.gh e))(l3:∃e,S.Yb[3]?=some (.gh e)):
  ∃(M:Mv) (N:Rv),za w M/\M.m=m/\Ic M (γ 0).A/\Wd (γ 0).A/\ua w N/\N.m=r/\Mb N (γ 0).A/\(∀k,M.own k->¬N.own k)/\(∀k,M.own k->B k)/\(∀k,N.own k->B k)/\
   (∀b q s o,b≠2->b≠3->R b=some (q,s)->(Cu S.Yb).get b=some o->¬M.own q/\¬N.own q)/\
   ∀(w':World) (γ':Nat->Gh) (M':Mv) (N':Rv),(∀i,1<=i->γ i=γ' i)->za w' M'->M'.m=m->Ic M' (γ' 0).A->Wd (γ' 0).A->ua w' N'->N'.m=r->Mb N' (γ' 0).A->
    (∀k,M'.own k->M.own k\/w.heap.size<=k)->(∀k,N'.own k->N.own k)->Lh (fun k=>M.own k\/N.own k) w w'->InS Th S ρ γ' B w0 R w':=by
 letI:Interp:=Th.at ρ γ
 unfold yW at hS;simp only [Aa,Bool.and_eq_true]at hS;obtain ⟨hO,hFa⟩:=hS;have ho:=fun j o h=>by have:=pA hO j o h;rw [Nat.zero_add]at this;exact this
 obtain ⟨facts,Qo⟩:=hI;obtain ⟨O,gO⟩:=Qo.kO;obtain ⟨e2,l2⟩:=l2;obtain ⟨e3,l3⟩:=l3;have g2:(Cu S.Yb).get 2=some (.gh e2):=by rw [zg,l2];rfl
 have g3:(Cu S.Yb).get 3=some (.gh e3):=by rw [zg,l3];rfl
 obtain ⟨⟨x2,a1,a2⟩,a3,a4⟩:=gO 2 m s2 e2 h2 g2;obtain ⟨⟨x3,b1,b2⟩,b3,b4⟩:=gO 3 r s3 e3 h3 g3;have v2:isVar 9 0 e2=true:=by
  rcases ho 2 _ l2 with⟨_,q⟩|⟨q,_⟩|⟨q,_⟩
  . exact q
  . cases q
  . exact absurd rfl q
 have v3:∃mm,RB e3=some mm/\isVar 9 0 mm=true:=by
  rcases ho 3 _ l3 with⟨q,_⟩|⟨_,q⟩|⟨_,q,_⟩
  . cases q
  . exact q
  . exact absurd rfl q
 obtain ⟨mm,v3,v3'⟩:=v3;have d2:∀γ:Nat->Gh, @den (Th.at ρ γ) e2= .g (Gh.mem (γ 0).A):=fun γ=>qA v2
 have d3:∀γ:Nat->Gh, @den (Th.at ρ γ) e3= .g (Gh.ref (γ 0).A):=fun γ=>by
  obtain ⟨_,A,q1,q2⟩:=Rw (ρ:=ρ) (γ:=γ) v3;rw [qA v3']at q1;injection q1 with q1
  injection q1 with q1
  rw [q2,<-q1]
 rw [d2 γ]at a1;injection a1 with a1
 subst a1;rw [d3 γ]at b1;injection b1 with b1
 subst b1;obtain ⟨M,m1,m2,m3,m4,m5⟩:=a2;obtain ⟨N,n1,n2,n3,n4,n5⟩:=b2;have dis:∀k,M.own k->¬N.own k:=fun k hk hn=>(a4 3 r s3 _ (by decide) h3 g3).2 e3 rfl k (by rw [m3];exact hk) (by rw [n3];exact hn)
 have jal:∀b q s o,b≠2->b≠3->R b=some (q,s)->(Cu S.Yb).get b=some o->¬M.own q/\¬N.own q:=fun b q s o c2 c3 hb hg=>⟨fun h=>(a4 b q s o c2 hb hg).1 (by rw [m3];exact h),fun h=>(b4 b q s o c3 hb hg).1 (by rw [n3];exact h)⟩
 refine ⟨M,N,m1,m2,m4,m5,n1,n2,n4,dis,fun k hk=>a3 k (by rw [m3];exact hk),fun k hk=>b3 k (by rw [n3];exact hk),jal, ?_⟩;intro w' γ' M' N' hγ p1 p2 p3 p4 p5 p6 p7 p8 p9 pT;have zb:∀b q s e,R b=some (q,s)->(Cu S.Yb).get b=some (.gh e)->∀k,O b k->k<w.heap.size:=fun b q s e hb hg k hk=>by
  obtain ⟨⟨x,y1,y2⟩,_⟩:=gO b q s e hb hg;exact Th.gh_lt x q (O b) w y2 k hk
 refine ⟨fun p hp=> ?_, ?_⟩
 . obtain ⟨f1,f2⟩:=oA hFa p hp;rw [<-(sr hγ 60).1 _ f1,<-(sr hγ 60).1 _ f2];exact facts p hp
 . refine @Vc.mk (Th.at ρ γ') B w0 R (Cu S.Yb) w' Qo.DD (fun b q s hb=>Nat.lt_of_lt_of_le (Qo.lt b q s hb) pT.size) (fun b q s o hb hg=> ?_) Qo.inj ⟨pT.os.trans Qo.below.os,pT.tape.trans Qo.below.tape,pT.output.trans Qo.below.output,Nat.le_trans Qo.below.size pT.size,fun k hk hB=> ?_⟩ Qo.base ?_
   . obtain ⟨c1,c2⟩:=Qo.obj b q s o hb hg;refine ⟨c1, ?_⟩;have hl:=hg;rw [zg]at hl;cases ho1:S.Yb[b]?with
     |none=>rw [ho1]at hl;cases hl
     |some po=>
      rw [ho1]at hl;cases hl;cases po with
      |gh e=>trivial
      |cells l e full=>
       obtain ⟨z2,z3,z4⟩:=ho b _ ho1;obtain ⟨f1,f2⟩:=jal b q s _ z2 z3 hb hg;rw [pT.block q (Qo.lt b q s hb) (fun h=>h.elim f1 f2)];obtain ⟨c',y1,y2,y3,y4,y5⟩:=c2;refine ⟨c',y1,y2,y3,y4,fun i v hv=> ?_⟩;obtain ⟨t1,v',t2,t3⟩:=y5 i v hv;exact ⟨t1,v',t2,Baa hγ t3 60 (Ts z4 i v (kE l e full i v hv))⟩
   . rw [pT.block k (Nat.lt_of_lt_of_le hk Qo.below.size) (fun h=>hB (h.elim (fun h=>a3 k (by rw [m3];exact h)) fun h=>b3 k (by rw [n3];exact h)))];exact Qo.below.block k hk hB
   . obtain ⟨O',u2,u3,ub⟩:∃O':Nat->Nat->Prop,O' 2=M'.own/\O' 3=N'.own/\∀b,b≠2->b≠3->O' b=O b:=
      ⟨fun b=>if b=2 then M'.own else if b=3 then N'.own else O b,if_pos rfl,(if_neg (by decide)).trans (if_pos rfl),fun b c2 c3=>(if_neg c2).trans (if_neg c3)⟩
     refine ⟨O',fun b q s e hb hg=> ?_⟩;by_cases e2':b=2
     . subst e2';rw [h2]at hb;cases hb;rw [g2]at hg;cases hg;rw [u2];refine ⟨⟨_,d2 γ',M',p1,p2,rfl,p3,p4⟩,fun k hk=> ?_,fun b2 r2 t2 o2 bc Zp Hr=> ?_⟩
       . rcases p8 k hk with h|h
         . exact a3 k (by rw [m3];exact h)
         . exact Qo.base k (Nat.le_trans Qo.below.size h)
       . refine ⟨fun h=> ?_,fun e' he k hk=> ?_⟩
         . rcases p8 _ h with h|h
           . exact (a4 b2 r2 t2 o2 bc Zp Hr).1 (by rw [m3];exact h)
           . have:=Qo.lt b2 r2 t2 Zp;omega
         . by_cases ZX:b2=3
           . subst ZX;rw [u3];intro hn;have hn:=p9 k hn;rcases p8 k hk with h|h
             . exact dis k h hn
             . have:=n1.lt hn;omega
           . rw [ub b2 bc ZX];intro hn;rcases p8 k hk with h|h
             . exact (a4 b2 r2 t2 o2 bc Zp Hr).2 e' he k (by rw [m3];exact h) hn
             . subst he;have:=zb b2 r2 t2 e' Zp Hr k hn;omega
     . by_cases ZX:b=3
       . subst ZX;rw [h3]at hb;cases hb;rw [g3]at hg;cases hg;rw [u3];refine ⟨⟨_,d3 γ',N',p5,p6,rfl,p7,p4⟩,fun k hk=>b3 k (by rw [n3];exact p9 k hk),fun b2 r2 t2 o2 bc Zp Hr=> ?_⟩;refine ⟨fun h=>(b4 b2 r2 t2 o2 bc Zp Hr).1 (by rw [n3];exact p9 _ h),fun e' he k hk=> ?_⟩;have hk:=p9 k hk;by_cases e4:b2=2
         . subst e4;rw [u2];intro hm;rcases p8 k hm with h|h
           . exact dis k h hk
           . have:=n1.lt hk;omega
         . rw [ub b2 e4 bc];exact (b4 b2 r2 t2 o2 bc Zp Hr).2 e' he k (by rw [n3];exact hk)
       . rw [ub b e2' ZX];obtain ⟨⟨x,y1,y2⟩,y3,y4⟩:=gO b q s e hb hg;have nJ:Ru 60 e=true:=by
          have hl:=hg;rw [zg]at hl;cases ho1:S.Yb[b]?with
          |none=>rw [ho1]at hl;cases hl
          |some po=>
           rw [ho1]at hl;cases po with
           |cells l t f=>cases hl
           |gh e'=>
            cases hl;rcases ho b _ ho1 with⟨q,_⟩|⟨q,_⟩|⟨_,_,q⟩
            . exact absurd q e2'
            . exact absurd q ZX
            . exact q
         refine ⟨⟨x,by rw [<-(sr hγ 60).1 _ nJ];exact y1,Th.gh_keep x q (O b) w w' y2 pT.size fun k hk=> ?_⟩,y3,fun b2 r2 t2 o2 bc Zp Hr=> ?_⟩
         . refine pT.block k (Th.gh_lt x q (O b) w y2 k hk) fun h=> ?_
           rcases h with h|h
           . exact (a4 b q s _ e2' hb hg).2 e rfl k (by rw [m3];exact h) hk
           . exact (b4 b q s _ ZX hb hg).2 e rfl k (by rw [n3];exact h) hk
         . refine ⟨(y4 b2 r2 t2 o2 bc Zp Hr).1,fun e' he k hk=> ?_⟩;have hks:=Th.gh_lt x q (O b) w y2 k hk;by_cases c2:b2=2
           . subst c2;rw [u2];intro hm;rcases p8 k hm with h|h
             . exact (a4 b q s _ e2' hb hg).2 e rfl k (by rw [m3];exact h) hk
             . omega
           . by_cases c3:b2=3
             . subst c3;rw [u3];intro hm;exact (b4 b q s _ ZX hb hg).2 e rfl k (by rw [n3];exact p9 k hm) hk
             . rw [ub b2 c2 c3];exact (y4 b2 r2 t2 o2 bc Zp Hr).2 e' he k hk
end Sk
end Go.Proofs.YtfnkmolffhfpoaaGreat
