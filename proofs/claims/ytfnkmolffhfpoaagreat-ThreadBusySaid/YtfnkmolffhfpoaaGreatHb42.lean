/- -/
import Derived.Test.YtfnkmolffhfpoaaGreatHb41
import Derived.KernelRfl
import Derived.Test.YtfnkmolffhfpoaaGreatHb36
import Derived.Lib.SmallJoins
import Derived.Test.YtfnkmolffhfpoaaGreatHb37
import Derived.Test.YtfnkmolffhfpoaaGreatRows
import Derived.WalkKit
import Derived.ProofKit
import Derived.OpenShut
set_option maxRecDepth 1000000
set_option linter.unusedVariables false
set_option linter.unusedSimpArgs false
set_option maxRecDepth 100000
namespace Go.Proofs.YtfnkmolffhfpoaaGreat
namespace Sk
open Sh
noncomputable section
def Lb:Value:=i 1
def tf:Tr Value:=l Lb
def Cm:ya:=q 4 23 (m (m tf (i 3) z) Lb tf)
def FO:Value:= .slice (some ⟨566,0,none⟩) 4 2
def GO:ya:=q 5 26 (m (m tf (i 3) z) Lb (m (l FO) Lb z))
def Fb:Value:=i 0
def La:Tr Value:=l Fb
def lD:ya:=q 3 154 (m La (i 4) La)
def mD:ya:=q 3 154 (m La (i 11) La)
def Wk:Tr Value:=l (u 0)
def gal:ya:=q 1 43 Wk
def Dm:Tr Value:=l (i 2)
def nD:ya:=q 3 154 (m La Lb Dm)
def Bf:Tr Value:=m La Fb La
def ia:ya:=q 3 154 Bf
def oD:ya:=q 3 154 (m La Lb La)
def pD:ya:=q 3 154 (m La (i 9) La)
def JO:Tr Value:=l (.slice (some ⟨1342,0,none⟩) 11 1)
def ial:ya:=q 1 225 JO
def qu:ya:=q 3 154 (m La (i 6) La)
def ru:ya:=q 3 154 (m Dm (i 11) La)
def Jp:ya:=q 3 154 (m La (i 2) La)
def su:ya:=q 3 154 (m Dm (i 9) La)
def tu:ya:=q 3 154 (m La (i 5) La)
def uu:ya:=q 3 154 (m tf (i 11) La)
def vu:ya:=q 3 154 (m tf Lb Dm)
def wu:ya:=q 3 154 (m tf Lb La)
def zu:ya:=q 3 154 (m tf (i 9) La)
def oA:Tr Value:=m Wk Fb (l (.bool true))
def KO:Tr Value:=m (l (u 2)) (.int .i64 (.negSucc 1)) z
def pA:ya:=q 6 112 (m oA (i 2) KO)
def Au:ya:=q 3 154 (m La (i 8) La)
def DF:ya:=q 3 154 (m La (i 17) La)
def Kp:ya:=q 3 154 (m La (i 3) La)
def LO:ya:=q 1 3 La
def Lp:Tr Value:=m Wk (u 0) z
def EF:Tr Value:=m Lp (u 0) Lp
def FF:Tr Value:=m Lp (u 0) Wk
def qA:Tr Value:=m EF (u 0) FF
def rA:Tr Value:=m qA (u 0) qA
def MO:Tr Value:=m (m (m EF (u 0) EF) (u 0) qA) (u 0) rA
def NO:Tr Value:=m MO (u 0) (m (m (m (m Lp (u 1) Lp) (u 0) (m Lp (u 1) Wk)) (u 0) qA) (u 0) rA)
def OO:ya:= .cells ⟨88,none,NO⟩ 43 false
def Bu:ya:=q 3 154 (m La Lb (l (i 6)))
def Cu:ya:=q 3 154 (m La Lb (l (i 4)))
def Du:ya:=q 3 154 (m La (i 13) La)
def sA:ya:=q 6 112 (m oA (i 2) (m (l (u 1)) (i 16) z))
def Eu:ya:=q 3 154 (m Dm (i 13) La)
def Fu:ya:=q 3 154 (m tf Lb (l (i 6)))
def Gu:ya:=q 3 154 (m tf Lb (l (i 4)))
def Hu:ya:=q 3 154 (m tf (i 13) La)
def PO:Tr Value:=m (l (u 3)) (.int .i64 (.negSucc 4)) z
def tA:ya:=q 6 112 (m oA (i 2) PO)
def VZ:ya:= .cells ⟨88,none,NO⟩ 259 false
def uA:ya:=q 1 3 (l (i 32))
def GF:ya:=q 3 154 (m Dm (i 17) La)
def QO:Tr Value:=m MO (u 0) (m rA (u 0) rA)
def WZ:ya:= .cells ⟨88,none,QO⟩ 259 false
def XZ:ya:=q 2 110 (m (l (u 1)) (i 24) z)
def vA:ya:=q 6 112 (m oA (i 2) (m (l (u 1)) (i 24) z))
def RO:ya:= .cells ⟨6,some (u 0),(y (l (u 2)) (y (l (u 3)) z))⟩ 43 true
def YZ:ya:=q 1 3 (l (i 8))
def ZZ:ya:=q 1 3 (l (i 11))
def Iu:ya:=q 3 154 (m La (i 12) La)
def Ju:ya:=q 3 154 (m La Lb (l (i 3)))
def Ku:ya:=q 3 154 (m La Lb tf)
def Lu:ya:=q 3 154 (m La (i 10) La)
def SO:Tr Value:=m (m (l (u 3)) (i 2) z) (i 4) (l (.int .i64 (.negSucc 4)))
def o0:ya:=q 10 141 (m (m (m Wk Fb z) (.slice (some ⟨987,0,none⟩) 6 1) (m (l (.bool true)) Fb z)) (p 988 0) SO)
def Mu:ya:=q 3 154 (m La (i 7) La)
def Nu:ya:=q 3 154 (m Dm (i 12) La)
def Ou:ya:=q 3 154 (m Dm (i 10) La)
def Pu:ya:=q 3 154 (m tf (i 12) La)
def Qu:ya:=q 3 154 (m tf Lb (l (i 3)))
def Ru:ya:=q 3 154 (m tf Lb tf)
def Su:ya:=q 3 154 (m tf (i 10) La)
def wA:ya:=q 3 154 (m tf (i 17) La)
def IF:ya:=q 3 154 (m La (i 16) La)
def Tu:ya:=q 3 154 (m La Lb (l (i 7)))
def Uu:ya:=q 3 154 (m La Lb (l (i 5)))
def Vu:ya:=q 3 154 (m tf Lb (l (i 7)))
def Wu:ya:=q 3 154 (m tf Lb (l (i 5)))
def TO:ya:=q 1 3 (l (i 7))
def UO:Value:= .slice (some ⟨979,0,none⟩) 11 8
def B0:ya:=q 1 176 (l UO)
def C0:ya:= .cells ⟨1,some (.slice none 0 0),z⟩ 285 true
def Xu:Tr Value:=m La Fb z
def Yu:Tr Value:=m Xu Fb La
def xA:Tr Value:=m La Fb tf
def Zu:Tr Value:=m Bf Fb (m La Fb Dm)
def yA:Tr Value:=m Bf Lb Bf
def JF:Tr Value:=m La Fb (l (i 12))
def VO:Tr Value:=m (m Yu Lb xA) Lb (m Bf Fb Bf)
def KF:Tr Value:=m La Fb (l (i 13))
def av:ya:= .cells ⟨264,none,(m (m (m (m (m (m Yu Lb xA) Lb (m Bf (i 7) Bf)) Fb (m (m Yu Lb Bf) (i 7) Zu)) Lb (m (m (m (m Xu Fb (l (i 10))) (i 3) Bf) Fb (m (m (l (i 7)) Fb La) Fb (m La Fb (l (i 10))))) (i 3) (m yA Lb (m (m La Fb (l (i 10))) Fb Bf)))) Fb (m (m (m (m Yu Lb JF) (i 5) Zu) Lb (m (m JF (i 5) Bf) Lb (m xA Fb JF))) Lb (m VO Fb (m yA Lb Zu)))) Lb (m (m (m (m (m (m Xu Fb (l (i 9))) (i 2) (m La (i 4) La)) Fb (m (m (l (i 6)) Fb La) (i 2) (m La Fb (l (i 9))))) (i 2) (m (m (m La (i 3) La) Lb (m (l (i 8)) Fb La)) Lb (m (m La Fb (l (i 9))) Fb (m La (i 5) La)))) Fb (m (m (m Yu Lb KF) (i 6) Zu) Lb (m (m KF (i 6) Bf) Lb (m xA Fb KF)))) Fb (m (m VO Fb (m yA Fb Zu)) Lb (m (m (m (m Xu Fb (l (i 11))) (i 4) Bf) Fb (m Bf Fb (m La Fb (l (i 11))))) (i 4) (m yA Lb (m (m La Fb (l (i 11))) Fb Bf))))))⟩ 154 false
def D0:ya:=q 2 110 PO
def F0:ya:=q 2 110 KO
def WO:ya:= .cells ⟨11,some Fb,z⟩ 3 true
def LF:Value:= .slice (some ⟨942,0,none⟩) 88 1
def G0:ya:= .loop .exhausted none 0 ⟨23,some (.tuple ⟨[]⟩),(m (y (m (l LF) Fb (l (.bool false))) (m La (p 953 0) (l LF))) LF (m (m (l (i 88)) Fb z) (.slice none 0 0) (y La (l (.func (.func 274) ⟨[]⟩ ⟨[p 954 0,p 955 0]⟩)))))⟩ #[15] (mu fal [1,1,1,0,1,0,0]) (mu fal [1,1,1,0,1,0,1]) 956
def I0:ya:= .cells ⟨1,none,JO⟩ 225 false
def MF:ya:=q 8 259 (m FF (u 0) (m Wk (u 0) Wk))
def XO:ya:=q 8 259 (m FF (u 1) (m Wk (u 0) Wk))
def NF:ya:=q 6 154 (m (m (l (i 15)) Fb La) (i 14) Xu)
def J0:ya:=q 1 43 (l (u 1))
def K0:ya:=q 4 188 (m (m (l (.slice (some ⟨981,0,none⟩) 1 1)) (.slice (some ⟨983,0,none⟩) 11 8) z) UO (l (.slice (some ⟨980,0,none⟩) 11 1)))
def OF:ya:= .cells ⟨18,none,(m (m (m (m (l (i 17)) Fb z) (i 15) La) Fb (m (m La (i 17) z) Fb tf)) (i 14) (m (m (m Dm Fb z) Fb (l (i 17))) Fb (m La (i 16) La)))⟩ 154 false
def L0:ya:=q 1 43 (l (u 3))
def P0:ya:=q 4 148 (m (m (l (.slice (some ⟨1344,0,none⟩) 1 1)) (.slice (some ⟨1340,0,none⟩) 88 1) z) (.slice (some ⟨1338,0,none⟩) 88 1) (l (.slice (some ⟨1341,0,none⟩) 11 1)))
def Q0:ya:= .ey false
def S0:ya:=q 9 174 (m (m (m (l (i 8)) Lb z) (i 3) (l (i 7))) Lb (m (m (l (i 11)) (i 6) z) Lb tf))
def T0:ya:=q 10 181 (m (m (m Wk Fb z) (.slice (some ⟨985,0,none⟩) 6 1) (m (l (.bool true)) Fb z)) (p 984 0) SO)
def U0:ya:=q 2 110 (m (l (u 1)) (i 16) z)
def V0:ya:= .cells ⟨88,none,QO⟩ 43 false
def X0:ya:=q 1 99 (l (.slice (some ⟨0,0,some 1⟩) 0 0))
def Y0:ya:=q 0 259 z
def Z0:ya:= .cells ⟨8,none,(m (m (m (l (u 3)) (u 1) z) (u 1) (l (u 2))) (i 16) (m (l (.int .i64 (.negSucc 1))) (i 24) (l (.int .i64 (.negSucc 4)))))⟩ 110 false
def B1:ya:=q 1 43 (l (u 2))
def C1:ya:= .cells ⟨88,some (u 0),z⟩ 43 true
def D1:ya:= .cells ⟨11,some (.bool false),z⟩ 4 true
def YO:Tr Value:=l (.tuple ⟨[p 764 0,p 986 0,p 1345 0, .bool true]⟩)
def SS:Tm:=⟨39,some (.tuple ⟨[]⟩),(m (m (m (y (l (.bool true)) z) (p 1345 0) YO) (p 764 0) (y (l (.agg ⟨[Lb,i 3,Lb,Lb]⟩)) (l (p 986 0)))) (.bool false) (m (m YO (.bool true) (l (p 764 0))) (p 986 0) (y (l (.agg ⟨[Lb,i 3,Lb,Lb,FO]⟩)) (l (p 1345 0)))))⟩
def Na:Tr ya:=l gal
def uf:Tr ya:=y Na z
def Ib:Tr ya:=m Na ia z
def Wa:Tr ya:=y z z
def pn:Tr ya:=m Ib ia Wa
def Va:Tr ya:=y Wa z
def qn:Tr ya:=m Ib ia uf
def PF:Tr ya:=y qn pn
def QF:Tr ya:=m Ib ia Na
def Np:Tr ya:=m Na Cm z
def ZO:Tr ya:=m (m Na GF z) ia uf
def RF:Tr ya:=m Ib ia Va
def rn:Tr ya:=y Va (l MF)
def Pp:Tr ya:=m Wa ia z
def vn:Tr ya:=y Va Pp
def Tj:Tr ya:=y Va Wa
def aP:Tr ya:=y (y Va (m (l pA) ia z)) rn
def Ug:Tr ya:=y Va (l ia)
def bP:Tr ya:=y (y Va (m (l J0) ia z)) rn
def cv:Tr ya:=y Va (m (l MF) ia z)
def zA:Tr ya:=y cv Tj
def cP:Tr ya:=y Va (m (l tA) ia z)
def AA:Tr ya:=m Wa Cm z
def dP:Tr ya:=y (m Va Cm (l ia)) (y AA Wa)
def eP:Tr ya:=y (y Va (m (l sA) ia z)) rn
def fP:Tr ya:=y (y Va (m (l vA) ia z)) rn
def TS:AH:=⟨1392,(m (m (m (y (y (y (y (y (m (m Na mD z) lD uf) (m Ib nD Wa)) (m (m (m Na nD z) pD (y (l ial) z)) oD (m (m Na mD z) ia Wa))) (y (y (m (m Na ru z) qu uf) pn) (m (m Ib su Va) Jp (m (m Na ru z) ia Na)))) (y (y (y (m (m Na uu z) tu uf) (m Ib vu Wa)) (m (m (m Na vu z) zu (y (l pA) z)) wu (m (m Na uu z) ia Wa))) (y (y (m (m Na DF z) Au uf) (m Ib ia (l Cm))) (m (m Ib LO (y (l OO) z)) Kp (m (m Na DF z) ia Na))))) (y (y (y (y qn (m Ib Bu Wa)) (m (m (m Na Bu z) Du (y (l sA) z)) Cu pn)) (y PF (m (m Ib Eu Va) ia QF))) (y (y (y qn (m Ib Fu Wa)) (m (m (m Na Fu z) Hu (y (l tA) z)) Gu (m Ib ia (l VZ)))) (y (m (m Np ia uf) uA (m Ib ia (l GF))) (m (m Ib Cm Wa) ia (m Np ia Na)))))) Cm (y (y (y (y (y (m (m Na Du z) ia uf) (m Ib Cu Wa)) (m (m (m Na Cu z) mD (y (l sA) z)) nD (m (m Na Du z) ia Wa))) (y (y (m (m Na Eu z) ia uf) pn) (m (m Ib ru Va) ia (m (m Na Eu z) ia Na)))) (y (y (y (m (m Na Hu z) ia uf) (m Ib Gu Wa)) (m (m (m Na Gu z) uu (y (l pA) z)) vu (m (m Na Hu z) ia (l WZ)))) (y (y ZO (m Ib ia (l DF))) (m (m Ib XZ Wa) ia (m (m Na GF z) ia Na))))) (y (y (y (y (m (m Na zu z) ia uf) (m (m Na tu z) wu Wa)) (m (m (m Na wu z) ia (y (l vA) z)) Bu (m (m Na zu z) tu Wa))) (y (y (m Np ia uf) (m (m Na Au z) Kp Wa)) (m (m (m Na Kp z) ia Va) ia (m Np Au Na)))) (y (y (y (m (m Na su z) ia uf) (m (m Na qu z) Jp Wa)) (m (m (m Na Jp z) ia Va) Fu (m (m Na su z) qu (l RO)))) (y (y (m (m Na oD z) ia uf) (m (m Na pD z) lD (l YZ))) (m (m (m Na lD z) oD Wa) ia (m (m Na ZZ z) pD Na))))))) GO (m (y (y (y (y (y (m (m Na Iu z) ia uf) (m Ib Ju Wa)) (m (m (m Na Ju z) Lu (y (l o0) z)) Ku (m (m Na Iu z) ia Wa))) (y (y (m (m Na Nu z) Mu uf) pn) (m (m Ib Ou Va) ia (m (m Na Nu z) ia Na)))) (y (y (y (m (m Na Pu z) ia uf) (m Ib Qu Wa)) (m (m (m Na Qu z) Su (y (l pA) z)) Ru (m (m Na Pu z) ia Wa))) (y (y (m (m Na wA z) ia uf) (m Ib ia (l IF))) (m (m Ib uA Wa) ia (m (m Na wA z) ia Na))))) (y (y (y (y qn (m Ib Tu Wa)) (m (m (m Na Tu z) ia (y (l vA) z)) Uu pn)) (y PF (m RF ia QF))) (y (y (y qn (m Ib Vu Wa)) (m (m (m Na Vu z) ia (y (l tA) z)) Wu (m Ib ia (l RO)))) (y (m ZO TO (m Ib ia (l B0))) (m (m Ib wA Wa) ia (m Np ia Na)))))) Cm (y (y (y (y (y qn (m Ib Uu Wa)) (m (m (m Na Uu z) Iu (y (l sA) z)) Ju pn)) (y PF (m (m Ib Nu Va) ia QF))) (y (y (y qn (m Ib Wu Wa)) (m (m (m Na Wu z) Pu (y (l tA) z)) Qu (m Ib ia (l C0)))) (y (m (m (m Na D0 z) ia uf) av (m Ib ia (l wA))) (m (m Ib F0 Wa) ia (m (m Na GO z) ia Na))))) (y (y (y (y (m (m Na Su z) ia uf) (m Ib Ru Wa)) (m (m (m Na Ru z) ia (y (l vA) z)) Tu (m (m Na Su z) ia Wa))) (y (y (m (m Na IF z) ia uf) (m Ib ia (l av))) (m RF ia (m (m Na IF z) ia Na)))) (y (y (y (m (m Na Ou z) ia uf) (m (m Na Mu z) ia Wa)) (m RF Vu (m (m Na Ou z) Mu Na))) (y (m (m (m Na Ku z) ia (y (l WO) z)) Kp (m (m Na Lu z) ia (l G0))) (m (m Ib Ku Wa) ia (m Np Lu Na)))))))) Cm (m (m (m (m (m (m (m (y Va (m Wa Ku z)) ia (y Va (l Lu))) ia (y (y Va (m (l I0) ia z)) rn)) Wu (m (m vn ia (y Va (l Ou))) ia (y (y Va (m (l XO) Mu z)) Tj))) Uu (m (m (m (y Va (m Wa Ru z)) ia (y Va (l Su))) ia aP) ia (m (m vn ia (y Va (l NF))) ia (y (m Va uA (l ia)) Tj)))) Ku (m (m (m (m (y Va (m Wa Uu z)) Lu Ug) ia bP) ia (m (m vn Ou Ug) Mu zA)) Ru (m (m (m (y Va (m Wa Wu z)) Su Ug) ia (y cP (y Va (l K0)))) ia (m (m (y AA Pp) uA (y Va (l OF))) ia dP)))) Jp (m (m (m (m (m (y Va (m Wa Ju z)) ia (y Va (l Iu))) ia eP) Vu (m (m vn ia (y Va (l Nu))) ia zA)) Tu (m (m (m (y Va (m Wa Qu z)) ia (y Va (l Pu))) ia (y (y Va (m (l L0) ia z)) (y Va (l WO)))) ia (m (m (y (m Wa OF z) Pp) ia Tj) ia (y Ug (y (m Wa OF z) Wa))))) Ju (m (m (m (m (y Va (m Wa Tu z)) Iu Ug) ia fP) ia (m (m (y (m Wa NF z) Pp) Nu Ug) ia (y cv (y (m Wa NF z) Wa)))) Qu (m (m (m (y Va (m Wa Vu z)) Pu Ug) ia (y cv (y Va (l P0)))) ia (m (m (y Va (m (l OO) ia z)) Cm (y Va (l Q0))) ia (y Ug (y (m Wa S0 z) Wa))))))) GO (m (m (m (m (m (m (y Va (m Wa nD z)) ia (y Va (l mD))) ia bP) Fu (m (m vn ia (y Va (l ru))) ia zA)) Bu (m (m (m (y Va (m Wa vu z)) ia (y Va (l uu))) ia aP) ia (m (m vn ia Tj) ia (y (m Va TO (l ia)) Tj)))) nD (m (m (m (m (y Va (m Wa Bu z)) mD Ug) ia fP) ia (m (m (y (m Wa av z) Pp) ru Ug) ia (y cv (y (m Wa av z) Wa)))) vu (m (m (m (y Va (m Wa Fu z)) uu Ug) ia (y cv (y Va (l T0)))) ia (m (m (y AA (m (l V0) ia z)) U0 (y Va (l X0))) ia dP)))) oD (m (m (m (m (m (y Va (m Wa Cu z)) pD (y Va (l Du))) lD eP) Jp (m (m vn su (y Va (l Eu))) qu zA)) wu (m (m (m (y Va (m Wa Gu z)) zu (y Va (l Hu))) tu (y cP (y Va (l Y0)))) Kp (m (m (y (m Wa Z0 z) Pp) LO Tj) Au (y Ug (y AA Wa))))) Cu (m (m (m (m (y Va (m Wa wu z)) Du (y Va (l zu))) ia (y (y Va (m (l B1) tu z)) rn)) ia (m (m (y Va (m Wa Kp z)) Eu (y Va (l C1))) ia (y (m Va av (m (l MF) Au z)) Tj))) Gu (m (m (m (y Va (m Wa Jp z)) Hu (y Va (l su))) ia (y (y Va (m (l XO) qu z)) Tj)) ia (m (m (y Va (m (l D1) lD z)) Cm rn) ia (y (y Va (l pD)) (y (m Wa oD z) Wa)))))))))⟩
def MH:Fo:= .code 99998 (mu b23 [1,1]) SS [] TS
def NH:List Fm:=[]
end
end Sk
end Go.Proofs.YtfnkmolffhfpoaaGreat
namespace Go.Proofs.YtfnkmolffhfpoaaGreat
namespace Sk
theorem gP:UZ vw 6 (CF vw 23 100000) []=some (MH,NH):=by kernel_rfl
theorem iP:CO vw 23 (UZ vw 13 MH NH)=true:=by kernel_rfl
theorem E1:Um (run vw 100001 (.call 23 [] ⟨0, .nil⟩))=true:=EO (by kernel_rfl) ((congrArg (LH vw 23) (BF gP)).trans (DO iP))
end Sk
end Go.Proofs.YtfnkmolffhfpoaaGreat
namespace Go.Proofs.YtfnkmolffhfpoaaGreat
namespace Sk
open Go.RowKit
theorem US: @Pb (Th.at (fun _=>0) fun _=> .mem Vv) vw:=by
 letI:Interp:=Th.at (fun _=>0) fun _=> .mem Vv
 exact DL uG Uw vG Vw WC (fun F hF v c hv=>⟨⟨c,hv⟩,rfl⟩) (fun e o ty v h=>by cases h)
theorem VS: @Dk (Th.at (fun _=>0) fun _=> .mem Vv) vw:=by
 intro f g hg;cases hg
theorem WS(w:World):Calls Tryz.prog 23 #[] w fun e w'=>e= .returned (.bool true)/\Below w.heap.size w w':=by
 letI:Interp:=Th.at (fun _=>0) fun _=> .mem Vv
 exact Fv US VS E1 w
end Sk
end Go.Proofs.YtfnkmolffhfpoaaGreat
namespace Go.Proofs.YtfnkmolffhfpoaaGreat
open Go.RowKit Go.BigFrame Go.ChangeShapes Go.WideShapes Go.Deep
theorem BA{P:Program}{w:World}{r:Reach}{b0:Nat}{T e:TypeId}{n:Nat}{v:Value}(ht:P.underlying T=some (.array n e))(h:Value.okWide P w r b0 T v):∃cs,v= .agg cs/\cs.size=P.cellsOf T:=by
 simp only [Value.okWide,ht]at h;obtain ⟨cs,h1,h2,_⟩:=h;exact ⟨cs,h1,h2⟩
theorem jP:Af Tryz.prog 4 23 0=some (some .i64):=by kernel_rfl
theorem kP:Af Tryz.prog 4 23 1=some (some .i64):=by kernel_rfl
theorem lP:Af Tryz.prog 4 23 2=some (some .i64):=by kernel_rfl
theorem mP:Af Tryz.prog 4 23 3=some (some .i64):=by kernel_rfl
set_option maxRecDepth 100000 in
theorem nP{H:Type}{enc:TypeId×Value->H}{w:World}{r:Reach}{b0 base:Nat}{spare:Nat->Bool}{held:Bool}{v:Value}{d:DataW H}{p:List MemPlace}
  (hv:Value.okWide Tryz.prog w r b0 23 v)(h:DataW.Trod enc Tryz.prog w base spare held 23 v d p):∃(a0 a1 a2 a3:Int),v= .agg #[.int .i64 a0, .int .i64 a1, .int .i64 a2, .int .i64 a3]:=by
 obtain ⟨cs,rfl,Xg⟩:=okWide_struct Tryz.underlying23 hv;obtain ⟨fuel,hf⟩:=h;have hc:Tryz.prog.cellsOf 23=4:=by kernel_rfl
 rw [hc]at Xg;obtain ⟨_,g0,n0,rfl,f0⟩:=Cd 4 23 0 _ fuel _ _ hf jP;obtain ⟨_,g1,n1,rfl,f1⟩:=Cd 4 23 1 _ fuel _ _ hf kP;obtain ⟨_,g2,n2,rfl,f2⟩:=Cd 4 23 2 _ fuel _ _ hf lP;obtain ⟨_,g3,n3,rfl,f3⟩:=Cd 4 23 3 _ fuel _ _ hf mP;simp only [Value.cells]at g0 g1 g2 g3;obtain ⟨l⟩:=cs
 match l,Xg with
 |[c0,c1,c2,c3],_=>
  simp at g0 g1 g2 g3;subst g0 g1 g2 g3;exact ⟨n0,n1,n2,n3,rfl⟩
theorem oP:Af Tryz.prog 4 69 0=some (some .i64):=by kernel_rfl
theorem pP:Af Tryz.prog 4 69 1=some (some .u32):=by kernel_rfl
theorem qP:Af Tryz.prog 4 69 2=some (some .u32):=by kernel_rfl
theorem rP:Af Tryz.prog 4 69 3=some (some .i64):=by kernel_rfl
theorem sP:Af Tryz.prog 4 69 4=some (some .u32):=by kernel_rfl
theorem tP:Af Tryz.prog 4 69 5=some (some .u32):=by kernel_rfl
set_option maxRecDepth 100000 in
theorem uP{H:Type}{enc:TypeId×Value->H}{w:World}{r:Reach}{b0 base:Nat}{spare:Nat->Bool}{held:Bool}{v:Value}{d:DataW H}{p:List MemPlace}
  (hv:Value.okWide Tryz.prog w r b0 69 v)(h:DataW.Trod enc Tryz.prog w base spare held 69 v d p):∃(a0 a1 a2 a3 a4 a5:Int),v= .agg #[.int .i64 a0, .int .u32 a1, .int .u32 a2, .int .i64 a3, .int .u32 a4, .int .u32 a5]/\(0<=a1/\a1<=4294967295)/\(0<=a2/\a2<=4294967295)/\(0<=a4/\a4<=4294967295)/\(0<=a5/\a5<=4294967295):=by
 obtain ⟨cs,rfl,Xg⟩:=BA Tryz.underlying69 hv;obtain ⟨fuel,hf⟩:=h;have hc:Tryz.prog.cellsOf 69=6:=by kernel_rfl
 rw [hc]at Xg;obtain ⟨_,g0,n0,rfl,f0⟩:=Cd 4 69 0 _ fuel _ _ hf oP;obtain ⟨_,g1,n1,rfl,f1⟩:=Cd 4 69 1 _ fuel _ _ hf pP;obtain ⟨_,g2,n2,rfl,f2⟩:=Cd 4 69 2 _ fuel _ _ hf qP;obtain ⟨_,g3,n3,rfl,f3⟩:=Cd 4 69 3 _ fuel _ _ hf rP;obtain ⟨_,g4,n4,rfl,f4⟩:=Cd 4 69 4 _ fuel _ _ hf sP;obtain ⟨_,g5,n5,rfl,f5⟩:=Cd 4 69 5 _ fuel _ _ hf tP;simp [Lit.wf,IntKind.min,IntKind.max,IntKind.signed,IntKind.bits]at f1 f2 f4 f5;simp only [Value.cells]at g0 g1 g2 g3 g4 g5;obtain ⟨l⟩:=cs
 match l,Xg with
 |[c0,c1,c2,c3,c4,c5],_=>
  simp at g0 g1 g2 g3 g4 g5;subst g0 g1 g2 g3 g4 g5;exact ⟨n0,n1,n2,n3,n4,n5,rfl,by omega,by omega,by omega,by omega⟩
theorem G1:Af Tryz.prog 4 70 0=some (some .u16):=by kernel_rfl
set_option maxRecDepth 100000 in
theorem SF{H:Type}{enc:TypeId×Value->H}{w:World}{r:Reach}{b0 base:Nat}{spare:Nat->Bool}{held:Bool}{v:Value}{d:DataW H}{p:List MemPlace}
  (hv:Value.okWide Tryz.prog w r b0 70 v)(h:DataW.Trod enc Tryz.prog w base spare held 70 v d p):∃n:Int,v= .int .u16 n/\0<=n:=by
 obtain ⟨n,rfl⟩:=okWide_int Tryz.underlying70 hv;obtain ⟨fuel,hf⟩:=h;obtain ⟨_,g0,n0,rfl,f0⟩:=Cd 4 70 0 _ fuel _ _ hf G1;simp [Lit.wf,IntKind.min,IntKind.max,IntKind.signed,IntKind.bits]at f0;simp [Value.cells]at g0;subst g0;exact ⟨_,rfl,by omega⟩
theorem vP(th sl Ta bu k x y k2 x2 y2 n:Int)(W:World)(hx:0<=x/\x<=4294967295)(hy:0<=y/\y<=4294967295)(hn:0<=n):
  Calls Tryz.prog 4 #[.agg #[.int .i64 th, .int .i64 sl, .int .i64 Ta, .int .i64 bu], .agg #[.int .i64 k, .int .u32 x, .int .u32 y, .int .i64 k2, .int .u32 x2, .int .u32 y2], .int .u16 n] W fun e w'=>e= .returned (.bool true)/\Below W.heap.size W w':=by
 have HA:Hid Sk.Ip:=Lib.hid Sk.WS;by_cases hf:(⟨th,sl,Ta,bu⟩:Dc).qm
 . by_cases h1:k<1
   . exact Sk.SZ HA th sl Ta bu k x y k2 x2 y2 n W hf h1
   . by_cases h2:8<k
     . exact Sk.QS HA th sl Ta bu k x y k2 x2 y2 n W hf h2
     . by_cases h3:2000<n
       . exact Sk.RS HA th sl Ta bu k x y k2 x2 y2 n W hf ⟨by omega,by omega⟩ h3
       . have hf':=hf;obtain ⟨⟨f1,f2,f3,f4,f5,f6,f7,f8⟩,f9,f10,f11,f12⟩:=hf';simp only at f1 f2 f3 f4 f5 f6 f7 f8 f9 f10 f11 f12;obtain ⟨a,rfl⟩:=Int.eq_ofNat_of_zero_le (show 0<=th by omega);obtain ⟨b,rfl⟩:=Int.eq_ofNat_of_zero_le (show 0<=sl by omega);obtain ⟨c,rfl⟩:=Int.eq_ofNat_of_zero_le (show 0<=Ta by omega);obtain ⟨d,rfl⟩:=Int.eq_ofNat_of_zero_le (show 0<=bu by omega);obtain ⟨m,rfl⟩:=Int.eq_ofNat_of_zero_le hn;exact Sk.Zak HA a b c d m k x y k2 x2 y2 W hf (by omega) (by omega) hx.1 hx.2 hy.1 hy.2 (by omega)
 . exact Sk.RZ HA th sl Ta bu k x y k2 x2 y2 n W hf
end Go.Proofs.YtfnkmolffhfpoaaGreat
namespace Go.Proofs.YtfnkmolffhfpoaaGreat.De
theorem k0:(Rows.threadBusyRow.wf (OpenSpec.ofChange Rows.threadBusySpec))=true:=by kernel_rfl
theorem k1:(laidOutB Tryz.checked.prog)=true:=by kernel_rfl
theorem k2:(mapsRowed Tryz.checked.prog)=true:=by kernel_rfl
theorem k3:(Tryz.f4.params.all (Tryz.checked.prog.readableRec ·))=true:=by kernel_rfl
theorem k4:(namedTie Tryz.checked.prog Rows.threadBusyRow.named Rows.threadBusySpec.vars)=true:=by kernel_rfl
theorem k5:((Rows.threadBusyRow.stops==[]))=true:=by kernel_rfl
theorem k6:((Tryz.checked.prog.stops==[]))=true:=by kernel_rfl
theorem k7:((Rows.threadBusyRow.knobs==[]))=true:=by kernel_rfl
theorem k8:((Tryz.checked.prog.stopKnobs==[]))=true:=by kernel_rfl
theorem k9:((Rows.threadBusyRow.inPlace==Tryz.checked.prog.inPlace 4))=true:=by kernel_rfl
theorem k10:((Rows.threadBusyRow.unfollowed==Tryz.checked.prog.unfollowed 4))=true:=by kernel_rfl
theorem k11:((Rows.threadBusyRow.recurses==Tryz.checked.prog.recurses 4))=true:=by kernel_rfl
theorem k12:((Rows.threadBusyRow.named==Tryz.checked.prog.varsNamed 4))=true:=by kernel_rfl
theorem k13:((Rows.threadBusyRow.maps==(Tryz.f4.params.toList++Rows.threadBusySpec.plain.varTypes Tryz.checked.prog).any (Tryz.checked.prog.mapsRec ·)))=true:=by kernel_rfl
theorem k14:((Rows.threadBusyRow.ifaces==(Tryz.f4.params.toList++Rows.threadBusySpec.plain.varTypes Tryz.checked.prog).any (Tryz.checked.prog.ifacesRec ·)))=true:=by kernel_rfl
theorem k15:((Rows.threadBusyRow.mapsOut==Tryz.checked.prog.mapsAmong Tryz.f4.resultTypes.toList))=true:=by kernel_rfl
theorem k16:((Rows.threadBusyRow.loops==(Tryz.f4.params.toList++Rows.threadBusySpec.plain.varTypes Tryz.checked.prog).any (Tryz.checked.prog.loopsFrom ·)))=true:=by kernel_rfl
theorem k17:((Rows.threadBusyRow.wideKeys==(Tryz.f4.params.toList++Rows.threadBusySpec.plain.varTypes Tryz.checked.prog++Tryz.f4.resultTypes.toList).any (Tryz.checked.prog.wideKeysFrom ·)))=true:=by kernel_rfl
theorem k18:(Rows.threadBusySpec.vars.all (Tryz.checked.prog.varReadable ·))=true:=by kernel_rfl
theorem k19:(Tryz.f4.resultTypes.all (fun t=>Tryz.checked.prog.readableRec t&&decide (t<Tryz.checked.prog.types.size)))=true:=by kernel_rfl
theorem k20:((Rows.threadBusyRow.ifacesOut==Tryz.f4.resultTypes.toList.any (Tryz.checked.prog.ifacesRec ·)))=true:=by kernel_rfl
theorem k21:((Rows.threadBusyRow.loopsOut==Tryz.f4.resultTypes.toList.any (Tryz.checked.prog.loopsFrom ·)))=true:=by kernel_rfl
theorem k22:((Rows.threadBusyRow.plainKeys==Tryz.checked.prog.plainKeys))=true:=by kernel_rfl
theorem k23:(Rows.threadBusyRow.shortTexts.isNone)=true:=by kernel_rfl
theorem k24:(Tryz.checked.prog.stopsHeard)=true:=by kernel_rfl
theorem k25:(Tryz.checked.prog.mayEnter)=true:=by kernel_rfl
theorem k26:((Rows.threadBusyRow.lifted==Tryz.checked.prog.liftsFinal))=true:=by kernel_rfl
theorem k27:((Tryz.checked.prog.make==some Rows.threadBusyRow.make))=true:=by kernel_rfl
theorem k28:((Rows.threadBusyRow.kinds==(if Rows.threadBusyRow.domain.isEmpty then[]else Tryz.f4.params.toList.map fun t=>match Tryz.checked.prog.underlying t with|some (.int k)=>some k|_=>none)))=true:=by kernel_rfl
theorem k29:((Rows.threadBusyRow.pinned==Rows.threadBusyRow.pinnedBy))=true:=by kernel_rfl
theorem k30:((Rows.threadBusyRow.veiled==(Tryz.f4.params.toList++Rows.threadBusySpec.plain.varTypes Tryz.checked.prog++Tryz.f4.resultTypes.toList).any (Tryz.checked.prog.veiledRec ·)))=true:=by kernel_rfl
theorem k31:(Rows.threadBusyRow.veiledFits Tryz.checked.prog Tryz.f4.params.toList (Tryz.f4.params.toList++Rows.threadBusySpec.plain.varTypes Tryz.checked.prog++Tryz.f4.resultTypes.toList))=true:=by kernel_rfl
theorem Md{a b:Bool}(ha:a=true)(hb:b=true):(a&&b)=true:=by rw [ha,hb];rfl
theorem closed:joinedFacts Tryz.checked.prog 4 Tryz.f4 Rows.threadBusySpec Rows.threadBusyRow=true:=
 (Md (Md (Md (Md (Md (Md (Md (Md (Md (Md (Md (Md (Md (Md (Md (Md (Md (Md (Md (Md (Md (Md (Md (Md (Md (Md (Md (Md (Md (Md (Md k0 k1) k2) k3) k4) k5) k6) k7) k8) k9) k10) k11) k12) k13) k14) k15) k16) k17) k18) k19) k20) k21) k22) k23) k24) k25) k26) k27) k28) k29) k30) k31)
theorem named:Tryz.checked.prog.funcNamed Rows.threadBusyRow.func=some 4:=by kernel_rfl
theorem inst:Tryz.f4.isInstance Tryz.checked.prog Rows.threadBusyRow.origin Rows.threadBusyRow.targs:=of_decide_eq_true (by kernel_rfl)
theorem wrap:Tryz.f4.isWrapper Tryz.checked.prog Rows.threadBusyRow.wrapper Rows.threadBusyRow.mainSum:=by
 unfold Func.isWrapper
 first|(rw [if_pos (by decide+kernel)];kernel_rfl)|(rw [if_neg (by decide+kernel)];exact ⟨rfl,rfl⟩)
end Go.Proofs.YtfnkmolffhfpoaaGreat.De
