/- -/
import Derived.Test.YtfnkmolffhfpoaaGreatHq43
import Derived.KernelRfl
import Derived.Test.YtfnkmolffhfpoaaGreatHq35
set_option maxRecDepth 1000000
namespace Go.Proofs.YtfnkmolffhfpoaaGreat
namespace Sk
open Sh
noncomputable section
def Wb:Value:=i 1
def Xf:Tr Value:=l Wb
def uf:qa:=q 4 23 (m (m Xf (i 4) z) Wb (l (i 4)))
def Z4:Value:= .slice (some ⟨1230,0,none⟩) 7 2
def cO:qa:=q 5 26 (m (m Xf (i 4) z) Wb (m (l Z4) (i 4) z))
def Ya:Value:=i 0
def qb:Tr Value:=l Ya
def mh:Value:=i 2
def Ko:qa:=q 3 154 (m qb mh qb)
def On:Tr Value:=l (i 3)
def Ar:qa:=q 3 154 (m qb Wb On)
def Br:qa:=q 3 154 (m Xf Wb On)
def Pn:Tr Value:=m qb Ya qb
def ba:qa:=q 3 154 Pn
def Cr:qa:=q 3 154 (m qb (i 8) On)
def Lo:qa:=q 3 154 (m qb (i 3) qb)
def kG:qa:=q 3 154 (m On (i 17) qb)
def Pc:Value:=u 0
def Ed:Tr Value:=l Pc
def IaC:qa:=q 1 43 Ed
def Ah:Tr Value:=l mh
def lj:qa:=q 3 154 (m Ah (i 10) qb)
def mj:qa:=q 3 154 (m On (i 9) qb)
def nj:qa:=q 3 154 (m qb (i 5) qb)
def pj:qa:=q 3 154 (m On (i 12) qb)
def qj:qa:=q 3 154 (m qb (i 8) qb)
def rj:qa:=q 3 154 (m Xf Wb qb)
def sj:qa:=q 3 154 (m qb (i 7) qb)
def tj:qa:=q 3 154 (m Xf (i 9) qb)
def uj:qa:=q 3 154 (m Xf (i 12) qb)
def vj:qa:=q 3 154 (m Xf Wb (l (i 7)))
def Xt:qa:=q 3 154 (m qb (i 16) qb)
def wj:qa:=q 3 154 (m qb Wb (l (i 5)))
def vp:qa:=q 3 154 (m Xf (i 17) qb)
def xj:qa:=q 3 154 (m qb Wb Xf)
def Ug:Tr Value:=l (.bool true)
def xe:Tr Value:=m Ed Ya Ug
def Oh:Tr Value:=l (u 1)
def Ux:qa:=q 6 112 (m xe mh (m Oh (i 24) z))
def yj:qa:=q 3 154 (m qb (i 10) qb)
def Ph:qa:=q 3 154 (m qb (i 12) qb)
def zj:qa:=q 3 154 (m qb (i 4) qb)
def Aj:qa:=q 3 154 (m qb Wb (l (i 7)))
def Bj:qa:=q 3 154 (m On (i 10) qb)
def lG:Tr Value:=m Ed (i 67) z
def j5:qa:=q 2 110 lG
def Cj:qa:=q 3 154 (m qb (i 6) qb)
def Dj:qa:=q 3 154 (m qb Wb qb)
def Ej:qa:=q 3 154 (m qb (i 9) qb)
def US:Tr Value:=m (m Oh mh z) (i 7) (l (.int .i64 (.negSucc 2)))
def A5:qa:=q 10 141 (m (m (m Ed Ya z) (.slice (some ⟨1481,0,none⟩) 7 1) (m Ug Ya z)) (p 1482 0) US)
def Fj:qa:=q 3 154 (m qb (i 8) Xf)
def Gj:qa:=q 3 154 (m Ah (i 9) qb)
def Hj:qa:=q 3 154 (m Ah (i 12) qb)
def Ij:qa:=q 3 154 (m Xf Wb (l (i 5)))
def Jj:qa:=q 3 154 (m Xf Wb Xf)
def Yt:Tr Value:=l (u 4)
def jL:Value:= .int .i64 (.negSucc 5)
def Vx:qa:=q 6 112 (m xe mh (m Yt jL z))
def Kj:qa:=q 3 154 (m Xf (i 10) qb)
def Lj:qa:=q 3 154 (m On (i 13) qb)
def Mj:qa:=q 3 154 (m Xf Wb (l (i 4)))
def Nj:qa:=q 3 154 (m Xf (i 13) qb)
def Hi:Tr Value:=l (u 3)
def VS:qa:= .cells ⟨7,some Pc,(y (m z (u 2) Yt) (m Hi (u 1) z))⟩ 43 true
def WS:qa:=q 1 3 (l (i 8))
def zm:Tr Value:=l (u 2)
def Wx:Value:= .int .i64 (.negSucc 1)
def C5:qa:=q 6 112 (m xe mh (m zm Wx z))
def Dr:Tr Value:=m qb Ya z
def Er:Tr Value:=m Dr Ya qb
def XS:Tr Value:=m Dr Ya Xf
def mG:Tr Value:=m On Ya z
def KI:Tr Value:=m Er Ya (m qb Ya Ah)
def YS:Tr Value:=m (l (i 8)) Ya qb
def ZS:Tr Value:=m (m Er Wb (m qb Ya Xf)) Wb (m (m mG Ya qb) Ya Pn)
def Oj:qa:= .cells ⟨288,none,(m (m (m (m (m (m Er Wb XS) Wb (m (m mG Ya qb) (i 7) Pn)) Ya (m (m Er Wb Pn) (i 7) KI)) Wb (m (m (m (m Dr Ya (l (i 10))) (i 3) Pn) Ya (m (m (m qb (i 7) z) Ya qb) Ya (m On Ya (l (i 10))))) (i 3) (m (m (m (m (l (i 10)) Ya z) Ya qb) Wb YS) Wb (m (m Dr Ya (l (i 10))) Ya Pn)))) Ya (m (m (m (m Er Wb (m qb Ya (l (i 12)))) (i 5) (m (m (m (l (i 12)) Ya z) Ya qb) Ya (m (l (i 8)) Ya Ah))) Wb (m (m (m mG Ya (l (i 12))) (i 5) Pn) Wb (m XS Ya (m qb Ya (l (i 12)))))) Wb (m ZS Ya (m (m Er Wb (m Xf Ya qb)) Wb KI)))) Wb (m (m (m (m (m (m Dr Ya (l (i 9))) mh (m qb (i 4) qb)) Ya (m (m (m qb (i 6) z) Ya qb) mh (m Ah Ya (l (i 9))))) mh (m (m (m (m (l (i 9)) Ya z) (i 3) qb) Wb YS) Wb (m (m Dr Ya (l (i 9))) Ya (m qb (i 5) qb)))) Ya (m (m (m Er Wb (m qb Ya (l (i 13)))) (i 6) (m (m (m (l (i 13)) Ya z) Ya qb) Ya (m qb Ya Ah))) Wb (m (m (m mG Ya (l (i 13))) (i 6) Pn) Wb (m XS Ya (m qb Ya (l (i 13))))))) Ya (m (m ZS Ya (m (m Er Wb Pn) Ya KI)) Wb (m (m (m (m Dr Ya (l (i 11))) (i 4) Pn) Ya (m Er Ya (m qb Ya (l (i 11))))) (i 4) (m (m (m (m (l (i 11)) Ya z) Ya qb) Wb YS) Wb (m (m Dr Ya (l (i 11))) Ya Pn))))))⟩ 154 false
def Pj:qa:=q 3 154 (m qb Wb (l (i 4)))
def Qj:qa:=q 3 154 (m qb (i 13) qb)
def D5:qa:=q 2 110 (m zm Wx z)
def nG:qa:=q 6 112 (m xe mh lG)
def Rj:qa:=q 3 154 (m Ah (i 13) qb)
def E5:Tr Value:=m Oh (.int .i64 (.negSucc 2)) z
def oG:qa:=q 6 112 (m xe mh E5)
def Xx:qa:=q 3 154 (m Ah (i 17) qb)
def Sj:qa:=q 3 154 (m On (i 11) qb)
def Tj:qa:=q 3 154 (m qb (i 8) Ah)
def Uj:qa:=q 3 154 (m Xf Wb Ah)
def Vj:qa:=q 3 154 (m Xf (i 11) qb)
def MA:Value:= .slice none 0 0
def oas:qa:= .cells ⟨1,some MA,z⟩ 285 true
def Wj:qa:=q 3 154 (m qb Wb Ah)
def Xj:qa:=q 3 154 (m qb (i 11) qb)
def F5:qa:=q 6 112 (m xe mh (m Oh (i 16) z))
def Yj:qa:=q 3 154 (m Ah (i 11) qb)
def Zt:qa:=q 3 154 (m qb (i 17) qb)
def Zj:qa:=q 3 154 (m Xf Wb (l (i 6)))
def aT:qa:= .cells ⟨12,some Ya,z⟩ 3 true
def kL:Value:= .int .i64 (.negSucc 4)
def pG:qa:=q 6 112 (m xe mh (m Hi kL z))
def ak:qa:=q 3 154 (m qb Wb (l (i 6)))
def G5:qa:=q 2 110 (m Yt jL z)
def bT:Tr Value:=m Ed Pc Ed
def mg:Tr Value:=m Ed Pc z
def lL:Tr Value:=m mg Pc mg
def LI:Tr Value:=m (m bT Pc mg) Pc lL
def bt:Tr Value:=m lL Pc lL
def Yx:Tr Value:=m bt Pc bt
def cT:Tr Value:=m (m LI Pc bt) Pc Yx
def eT:Tr Value:=m cT Pc (m Yx Pc Yx)
def pas:qa:= .cells ⟨96,none,eT⟩ 259 false
def gT:Tr Value:=m cT Pc (m (m (m (m mg (u 1) mg) Pc (m mg (u 1) mg)) Pc bt) Pc Yx)
def mL:qa:= .cells ⟨96,none,gT⟩ 43 false
def H5:qa:=q 2 110 (m Oh (i 16) z)
def I5:qa:=q 2 110 (m Hi kL z)
def iT:Value:= .slice (some ⟨1432,0,none⟩) 96 1
def NA:Tr Value:=l (.bool false)
def J5:qa:= .loop .exhausted none 0 ⟨23,some (.tuple ⟨[]⟩),(m (y (m (l iT) Ya NA) (m qb (p 1445 0) (l iT))) iT (m (m (l (i 96)) Ya z) MA (y qb (l (.func (.func 274) ⟨[]⟩ ⟨[p 1446 0,p 1447 0]⟩)))))⟩ #[15] (zu nas [1,1,1,0,1,0,0]) (zu nas [1,1,1,0,1,0,1]) 1448
def qas:qa:= .cells ⟨96,none,gT⟩ 259 false
def K5:Value:= .slice (some ⟨1473,0,none⟩) 12 8
def L5:qa:=q 1 176 (l K5)
def M5:qa:=q 2 110 (m Oh (i 24) z)
def N5:qa:=q 1 3 (l (i 12))
def O5:Tr Value:=l (.slice (some ⟨1868,0,none⟩) 12 1)
def P5:qa:=q 1 225 O5
def Q5:qa:=q 2 110 E5
def OA:Value:= .int .i64 (.negSucc 0)
def nL:qa:=q 3 119 (m (l OA) MA NA)
def oL:qa:=q 8 259 (m (m mg Pc Ed) (u 1) bT)
def ras:qa:=q 8 259 (m (m mg Pc Ed) Pc bT)
def Zx:qa:=q 1 43 Oh
def au:qa:=q 6 154 (m (m (l (i 15)) Ya qb) (i 14) Dr)
def R5:qa:= .cells ⟨96,none,eT⟩ 43 false
def S5:Value:= .slice (some ⟨1479,0,none⟩) 7 1
def sas:qa:=q 10 181 (m (m (m Ed Ya z) S5 (m Ug Ya z)) (p 1478 0) US)
def du:qa:= .cells ⟨21,none,(m (m (m (m (l (i 17)) Ya z) (i 15) mG) Ya (m (m qb (i 17) z) Ya Xf)) (i 14) (m (m (m Ah Ya z) Ya (m qb (i 17) z)) Ya (m (m (l (i 17)) Ya z) (i 16) qb)))⟩ 154 false
def T5:qa:= .XA false
def qG:qa:=q 1 43 Hi
def U5:qa:= .cells ⟨96,some Pc,z⟩ 43 true
def V5:qa:=q 0 259 z
def X5:qa:= .cells ⟨12,some (.bool false),z⟩ 4 true
def tas:qa:=q 1 43 zm
def Y5:qa:=q 4 148 (m (m (l (.slice (some ⟨1870,0,none⟩) 1 1)) (.slice (some ⟨1866,0,none⟩) 96 1) z) (.slice (some ⟨1864,0,none⟩) 96 1) (l (.slice (some ⟨1867,0,none⟩) 12 1)))
def Z5:qa:=q 4 188 (m (m (l (.slice (some ⟨1475,0,none⟩) 1 1)) (.slice (some ⟨1477,0,none⟩) 12 8) z) K5 (l (.slice (some ⟨1474,0,none⟩) 12 1)))
def e6:qa:=q 1 99 (l (.slice (some ⟨0,0,some 1⟩) 0 0))
def g6:qa:=q 9 174 (m (m (m (l (i 8)) Wb z) (i 4) (l (i 7))) Wb (m (m (l (i 12)) (i 6) z) (i 4) Xf))
def jT:qa:= .cells ⟨1,none,O5⟩ 225 false
def kT:qa:= .cells ⟨14,none,(m (m (m zm Pc Yt) (u 1) (m Hi (u 1) Oh)) (i 16) (m (m (l kL) (i 24) (l (.int .i64 (.negSucc 2)))) (i 67) (m (l jL) Wx z)))⟩ 110 false
def lT:qa:=q 1 43 Yt
def mT:Value:= .agg ⟨[MA,OA, .bool false]⟩
def Gr:Value:=p 1480 0
def Ii:Value:=p 1238 0
def ay:Value:=p 1871 0
def nT:Tr Value:=l (.tuple ⟨[Ii,Gr,ay, .bool true]⟩)
def oT:Tr Value:=l (.agg ⟨[Wb,i 4,i 4,Wb,Z4]⟩)
def pL:Value:= .agg ⟨[Wb,i 4,i 4,Wb]⟩
def Aab:Tm:=⟨74,some (.tuple ⟨[]⟩),(m (m (m (y (l mT) z) Gr (y (l Gr) z)) (p 0 0) (m (y nT z) (.bool true) (m Ug (.tuple ⟨[Ii,Gr,ay, .bool true]⟩) z))) (.bool false) (m (m (y oT z) ay (m (l ay) pL z)) Ii (y (y (l Ii) z) (l pL))))⟩
def ia:Tr qa:=l IaC
def qT:Tr qa:=m (l kG) ba ia
def ma:Tr qa:=y z z
def zc:Tr qa:=l ba
def pg:Tr qa:=m zc ba ia
def Bf:Tr qa:=m ma ba ia
def Vg:Tr qa:=m ma ba ma
def PA:Tr qa:=m ma ba (l C5)
def QA:Tr qa:=m ma ba (l nG)
def jz:Tr qa:=l uf
def qL:Tr qa:=m jz ba ia
def RA:Tr qa:=m ma ba (l oG)
def cy:Tr qa:=m ma ba z
def SA:Tr qa:=m ma ba (l F5)
def rL:Tr qa:=m ma ba (l Vx)
def rG:Tr qa:=m ia ba z
def sL:Tr qa:=m ma uf ia
def TA:Tr qa:=m ma ba (l pG)
def OC:Tr qa:=m Bf ba rG
def tL:Tr qa:=m ma ba (l Ux)
def uL:Tr qa:=m ma Xx ia
def ey:Tr qa:=y jz ma
def Md:Tr qa:=y zc ma
def Qa:Tr qa:=y ma ma
def Bh:Tr qa:=y Qa Md
def Le:Tr qa:=l ras
def Pe:Tr qa:=y ma z
def vL:Tr qa:=y zc (l Zx)
def sG:Tr qa:=y Qa (y Le z)
def Yp:Tr qa:=y Bh sG
def wL:Tr qa:=y zc Le
def MI:Tr qa:=y Bh (y Qa wL)
def xL:Tr qa:=y zc (l C5)
def rT:Tr qa:=y Bh (m Qa uf (y zc z))
def yL:Tr qa:=y zc (l F5)
def zL:Tr qa:=m zc uf ma
def fy:Tr qa:=l tas
def Bab:AH:=⟨1938,(m (m (m (m (m (m (m (m (m qT Lo (m ma lj ia)) Cr (m pg mj (m ma nj ma))) ba (m (m pg qj (m ma rj ia)) pj (m (m zc sj ia) ba (m ma tj z)))) Br (m (m (m (m (l vj) ba ia) nj (m ma Xt ia)) uj (m pg wj (m (l vp) qj z))) ba (m (m (m zc xj ia) tj (m ma Lo (l Ux))) rj (m (m ma yj ia) ba (m ia mj z))))) Ar (m (m (m (m (m (l Aj) ba ia) zj (m ma Bj ia)) Ph (m pg j5 (m ma Cj ma))) ba (m (m pg Ej (m ma Ko (l A5))) Dj (m (m (l cO) Fj ia) ba (m ia Gj z)))) ba (m (m (m pg Cj (m ma Dj ia)) Hj (m pg Ij (m ma Ej z))) ba (m (m (m zc Jj ia) Gj (m ma zj (l Vx))) Ko (m (m ma Kj ia) ba (m ia uf z)))))) Ko (m (m (m (m (m (m (l Ar) Fj ia) ba Bf) ba (m (m (l Ph) ba ia) Lj Vg)) ba (m (m (m zc Bj ia) ba (m ma Mj ia)) ba (m (m (l vp) ba ia) ba (m (l VS) Nj z)))) vj (m (m (m (m zc Kj ia) ba (m ma kG ia)) ba (m (m (l Hj) ba ia) Jj (m (l WS) ba z))) ba (m (m (m zc wj ia) Nj PA) Mj (m Bf ba (m ia Lj z))))) Aj (m (m (m (m (m (l Br) yj ia) ba Bf) ba (m (m (l uj) ba ia) xj (m (l Oj) ba z))) ba (m (m (m zc D5 ia) Qj QA) Pj (m qL ba (m ia Rj z)))) ba (m (m (m (m zc lj ia) ba (m ma Pj ia)) ba (m (m (l pj) ba ia) ba (m ma Qj z))) ba (m (m (m (l Cr) Ij ia) Rj RA) ba (m Bf sj (m ia Xx z))))))) cO (m (m (m (m (m (m (m (l xj) ba ia) ba (m ma Hj ia)) ba (m (m (l yj) ba ia) Sj Vg)) ba (m (m pg Tj (m ma Uj ia)) ba (m (m (l Xt) ba ia) ba (m (l oas) Vj z)))) Ij (m (m (m pg ba (m ma vp ia)) ba (m (m (l lj) ba ia) Aj (m (l kG) Tj z))) ba (m (m (m (l sj) Ar ia) Vj PA) Uj (m (m ma Ph ia) ba (m ia Sj z))))) wj (m (m (m (m (m (l Jj) ba ia) ba (m ma pj ia)) ba (m (m (l Kj) ba ia) Lo cy)) ba (m (m pg Xj SA) Wj (m (m jz Cr ia) ba (m ia Yj z)))) ba (m (m (m pg ba (m ma Wj ia)) ba (m (m (l Bj) ba ia) vj (m ma Xj z))) ba (m (m (m (l Fj) Br ia) Yj rL) ba (m (m ma uj ia) ba (m ia Zt z)))))) xj (m (m (m (m (m (m (l wj) Cr ia) ba Bf) yj (m pg ba Vg)) ba (m (m (m zc pj ia) ba (m ma Zj (l aT))) uf (m qT ba rG))) ba (m (m (m (m zc uj ia) ba sL) lj (m pg Br cy)) sj (m (m (m zc Aj ia) ba TA) Zj OC))) Jj (m (m (m (m (m (l Ij) Ph ia) ba Bf) Kj (m pg Ar (m (l Xt) ba z))) ba (m (m (m zc vp ia) ba QA) ak OC)) ba (m (m (m (m zc Hj ia) ba (m ma ak ia)) Bj (m pg ba cy)) Fj (m (m (m zc vj ia) ba Vg) ba (m Bf ba (m ia G5 z)))))))) uf (m (m (m (m (m (m (m (m (l Dj) ba ia) ba (m ma Yj ia)) ba (m (m (l Ej) ba ia) Bj Vg)) ba (m (m (m (l zj) ba ia) Fj (m ma Jj ia)) Lj (m qL ba (m (l pas) Kj z)))) Mj (m (m (m (m (l Ko) ba ia) ba (m ma Zt ia)) Nj (m (m (l Gj) ba ia) ak (m (l Xx) Fj z))) ba (m (m (m (l Cj) Wj ia) Kj tL) Jj (m (m ma Xj ia) ba (m ia Bj z))))) Pj (m (m (m (m (m (l rj) ba ia) ba (m ma Sj ia)) Qj (m (m (l tj) ba ia) uf (m ma sj (l mL)))) ba (m (m (m (l nj) ba ia) yj SA) xj (m (m jz Tj ia) ba (m ia lj z)))) ba (m (m (m (m (l Lo) ba ia) sj (m ma xj ia)) Rj (m (m (l mj) ba ia) Zj (m ma yj z))) ba (m (m (m (l qj) Uj ia) lj rL) ba (m (m ma Vj ia) ba (m ia Xt z)))))) Dj (m (m (m (m (m (m (l Pj) Tj ia) ba Bf) Ej (m (m (l Qj) ba ia) ba Vg)) zj (m (m (m zc Sj ia) ba (m ma Ij ia)) H5 (m (m (l Xx) ba ia) ba (m (l VS) ba z)))) Ko (m (m (m (m zc Vj ia) ba (m ma I5 ia)) Gj (m (m (l Rj) ba ia) Uj (m (l J5) ba z))) Cj (m (m (m zc ak ia) ba TA) Ij OC))) rj (m (m (m (m (m (l Mj) Xj ia) ba Bf) tj (m (m (l Nj) ba ia) Wj (m jz ba z))) nj (m (m (m zc uf ia) ba QA) wj OC)) Lo (m (m (m (m zc Yj ia) ba (m ma wj ia)) mj (m (m (l Lj) ba ia) ba cy)) qj (m (m (m zc Zj ia) ba RA) ba (m Bf ba (m ia kG z))))))) uf (m (m (m (m (m (m (m (l Wj) qj ia) ba (m ma Rj ia)) ba (m (m (l Xj) ba ia) pj Vg)) ba (m (m (m zc mj ia) Cr (m ma Br ia)) ba (m (m (l Zt) ba ia) Lo (m (l qas) uj z)))) Zj (m (m (m (m zc tj ia) ba uL) ba (m (m (l Yj) ba ia) rj (m (l L5) Cr z))) ba (m (m (m zc Pj ia) uj PA) Br (m (m ma Qj ia) nj (m ia pj z))))) ak (m (m (m (m (m (l Uj) Ej ia) ba (m ma Lj ia)) ba (m (m (l Vj) ba ia) Dj cy)) ba (m (m (m zc M5 ia) Ph SA) Ar (m (m (l N5) ba ia) zj (m ia Hj z)))) ba (m (m (m (m zc Gj ia) ba (m ma Ar ia)) ba (m (m (l Sj) ba ia) Ko (m ma Ph z))) ba (m (m (m (l Tj) Mj ia) Hj RA) ba (m (m ma Nj ia) Cj (m ia vp z)))))) Wj (m (m (m (m (m (m (l ak) ba ia) ba (m ma mj ia)) Xj (m (m zc Lo ia) ba Vg)) ba (m (m (m zc Lj ia) ba (m ma vj (l P5))) Ph (m (m (l Q5) qj ia) ba rG))) ba (m (m (m (m zc Nj ia) ba uL) Yj (m (m zc nj ia) Mj cy)) ba (m (m (m zc rj ia) ba TA) vj (m (m ma tj ia) ba rG)))) Uj (m (m (m (m (m (l Zj) Qj ia) ba sL) Vj (m (m zc zj ia) Pj (m (l Zt) ba z))) ba (m (m (m zc Dj ia) ba tL) Aj (m (m ma Ej ia) ba rG))) ba (m (m (m (m zc Rj ia) ba (m ma Aj ia)) Sj (m (m zc Cj ia) ba cy)) Tj (m (m (m zc Ko ia) ba Vg) ba (m (m ma Gj ia) ba (m ia uf z))))))))) uf (m (m (m (y (y (y (y (y ey Md) (y Qa (y (l Rj) (l oL)))) (y Bh (y (y (l Oj) ma) (y Le z)))) (y (y Bh (y Qa Pe)) (y (y Qa (y (l Qj) (l Ux))) (y (y (l Pj) ma) Pe)))) (y (y (y Bh (y Qa (y (l Lj) Le))) (y (y Qa vL) (y ey Pe))) (y Yp (y (y Qa (y (l Nj) (l Vx))) (y (y (l Mj) ma) (m ma au z)))))) uf (y (y (y (y (y Qa (y (l Lo) ma)) (y Qa (y (l mj) Le))) (m (y Qa (y (l qj) (l R5))) Oj (y Qa (y (l sas) z)))) (y (y (y Qa (m (l nj) du ma)) (y Qa (y (l T5) z))) (y (y Qa (y (l tj) (l qG))) (y (y (l rj) ma) Pe)))) (y (y (y (y Qa (y (l zj) ma)) (y Qa (y (l U5) z))) (y (y Qa (y (l Ej) (l nG))) (y (y (l Dj) ma) Pe))) (y (y (y Qa (y (l Cj) ma)) sG) (y (y Qa (y (l Gj) (l oG))) (y (y (l Ko) ma) Pe)))))) cO (y (y (y (y MI (y Bh (y Qa (y (l V5) z)))) (y (y Bh (y Qa (y (l du) z))) (y (y Qa xL) (y (y (l ak) ma) Pe)))) (y (y rT (y (y (m ma Oj ma) yL) (y ey Pe))) (y Yp (y (y Qa vL) (y (y (l Zj) ma) Pe))))) (y (y (y (y Bh (y Qa (y (l Sj) Le))) (m (y Qa (y (l Tj) (l X5))) uf (y (y (l du) ma) Pe))) (y (y (y Qa zL) sG) (y (y Qa (y (l Vj) (l pG))) (y (y (l Uj) ma) Pe)))) (y (y (y (y Qa (m zc Oj ma)) (y Qa Pe)) (y (y (m ma uf ma) (y (l Xj) (l Zx))) (y (y (l Wj) ma) Pe))) (y Yp (y (y Qa (y (l Yj) Le)) (y Md Pe))))))) nL (m (y (y (y (y MI (y Bh (y (y (l au) ma) (y (l aT) z)))) (y (y Bh (y Qa Pe)) (y (y Qa (y zc fy)) (y (y (l wj) ma) Pe)))) (y (y rT (y (y Qa yL) (y ey Pe))) (y Yp (y (y Qa (y zc (l Vx))) (y (y (l Ij) ma) Pe))))) (y (y (y (y Bh (y Qa (y (l Bj) Le))) (m (y Qa (y (l Fj) (l mL))) nL (y Qa (y (l Y5) z)))) (y Yp (y (y Qa (y (l Kj) (l pG))) (y (y (l Jj) ma) Pe)))) (y (y (y Bh (y Qa (y (l au) z))) (y (y (m ma uf ma) (y (l yj) (l nG))) (y (y (l xj) ma) Pe))) (y (y (y Qa (y (l sj) ma)) sG) (y (y Qa (y (l lj) Le)) (y Md (m ma du z))))))) uf (y (y (y (y MI (y Bh (y Qa (y (l Z5) z)))) (y (y Bh (y Qa (y (l e6) z))) (y (y Qa xL) (y (y (l Aj) ma) Pe)))) (y (y (y Bh (y Qa (y zc z))) (y (y Qa (y zc ia)) (y (y (l g6) ma) Pe))) (y Yp (y (y Qa (y zc (l oG))) (y (y (l vj) ma) Pe))))) (y (y (y (y Bh (m Qa Oj (y (l pj) Le))) (m (y Qa (y (l Cr) (l jT))) uf (y (y (l kT) ma) Pe))) (y (y (y Qa zL) sG) (y (y Qa (y (l uj) (l lT))) (y (y (l Br) ma) (m ma Oj z))))) (y (y (y (y Qa (m zc au ma)) (y Qa Pe)) (y (y Qa (y (l Ph) (l Ux))) (y (y (l Ar) ma) Pe))) (y Yp (y (y Qa (y (l Hj) (l oL))) (y Md (m ma uf z))))))))))⟩
def uT:Fo:= .code 99997 (zu b7 [1,1,1]) Aab [] Bab
def vT:List Fm:=[]
end
end Sk
end Go.Proofs.YtfnkmolffhfpoaaGreat
namespace Go.Proofs.YtfnkmolffhfpoaaGreat
namespace Sk
theorem XW:Y4 Tx 9 (JI Tx 7 100000) []=some (uT,vT):=by kernel_rfl
end Sk
end Go.Proofs.YtfnkmolffhfpoaaGreat
namespace Go.Proofs.YtfnkmolffhfpoaaGreat
namespace Sk
open Sh
noncomputable section
def NI:qa:=q 6 112 (m xe mh (m Oh (i 80) z))
def OI:qa:=q 6 112 (m xe mh (m Oh (i 72) z))
def Cab:qa:=q 1 3 qb
def tG:Tr Value:=m zm Ya Ug
def wT:Tr Value:=m Ed (i 49) z
def PI:qa:=q 6 112 (m tG mh wT)
def QI:qa:=q 6 112 (m (m Hi Ya Ug) mh wT)
def Dab:qa:= .cells ⟨1,none,(l (i 10))⟩ 3 false
def xT:qa:= .cells ⟨1,none,(l (i 9))⟩ 3 false
def Eab:qa:=q 1 3 (l (i 32))
def AL:Tr Value:=l (u 9223372036854775811)
def PC:qa:=q 6 112 (m xe (i 3) (m AL (i 75) z))
def BL:Tr Value:=l (u 9223372036854775810)
def QC:qa:=q 6 112 (m xe (i 3) (m BL (i 67) z))
def RI:qa:=q 6 112 (m xe mh (m Ed (i 83) z))
def Fab:qa:= .cells ⟨7,some Pc,(y (m z (u 8589934596) Yt) (m Hi (u 1) z))⟩ 43 true
def CL:Tr Value:=m Ed (i 75) z
def SI:qa:=q 6 112 (m xe mh CL)
def Gab:qa:=q 8 269 (m (m (m Xf (u 3) z) (i 75) Ed) Ya (m (l (i 44)) (i 4) Ug))
def Hab:qa:=q 8 269 (m (m (m qb (u 2) z) (i 67) Ed) Ya (m (l (i 23)) (i 4) Ug))
def uG:Tr Value:=l (u 4294967299)
def RC:qa:=q 6 112 (m (m uG Ya Ug) Wb (m Ed Wx z))
def SC:qa:=q 6 112 (m tG Wb (m Ed Wx z))
def TC:qa:=q 6 112 (m tG Wb (m Ed (i 24) z))
def UC:qa:=q 6 112 (m (m Oh Ya Ug) Wb (m Ed (i 24) z))
def VC:qa:=q 6 112 (m xe (i 4) wT)
def yT:qa:=q 6 112 (m xe (i 4) CL)
def zT:qa:=q 6 112 (m xe (i 4) lG)
def WC:qa:=q 6 112 (m (m BL Ya Ug) (i 3) (m zm (i 67) z))
def XC:qa:=q 6 112 (m (m AL Ya Ug) (i 3) (m Hi (i 75) z))
def TI:qa:=q 6 112 (m xe mh (m (l (u 6)) (i 82) z))
def Iab:qa:= .cells ⟨1,some MA,(l MA)⟩ 285 true
def UI:qa:=q 6 112 (m xe mh (m (l (u 5)) (i 74) z))
def VI:qa:=q 6 112 (m (m Yt Ya Ug) Wb (m Ed jL z))
def WI:qa:=q 6 112 (m (m Hi Ya Ug) Wb (m Ed kL z))
def gy:Value:= .int .u32 (.ofNat 0)
def iy:Tr Value:=l gy
def Qn:Value:= .pointer none
def DL:Tr Value:=m Ed Qn z
def AT:Value:= .int .u32 (.ofNat 6)
def Jab:qa:=q 27 130 (m (m (m (m Ed (p 2138 0) iy) gy DL) Ya (m (m Ed Qn (l (i 75))) Ya (m NA Qn z))) Ii (m (m (m zm (p 2151 0) (l (i 44))) AT (m iy Qn z)) Wb (m (m Hi Qn Xf) (p 2068 0) (m Xf OA z))))
def CT:Value:= .int .u32 (.ofNat 5)
def Kab:qa:=q 27 130 (m (m (m (m Ed (p 2010 0) iy) gy DL) Ya (m (m Ed Qn (l (i 67))) Ya (m NA Qn z))) Ii (m (m (m Oh (p 2023 0) (l (i 23))) CT (m iy Qn z)) Wb (m (m zm Qn qb) (p 1940 0) (m Xf OA z))))
def Lab:qa:=q 6 112 (m xe (i 5) (m Ed Ya z))
def XI:qa:=q 6 112 (m xe mh (m Hi (i 49) z))
def YI:qa:=q 6 112 (m xe mh (m zm (i 49) z))
def YC:qa:=q 6 112 (m (m Oh Ya Ug) (i 3) (m zm (i 24) z))
def ZC:qa:=q 6 112 (m tG (i 3) (m Hi (i 24) z))
def ZI:qa:=q 6 112 (m xe mh (m Oh (i 84) z))
def aJ:qa:=q 6 112 (m xe mh (m Oh (i 76) z))
def aD:qa:=q 6 112 (m (m uG Ya Ug) (i 3) (m (l (u 8589934596)) Wx z))
def bJ:qa:=q 6 112 (m tG (i 3) (m uG Wx z))
def bD:qa:=q 1 3 (l (i 7))
def cD:qa:=q 6 112 (m xe Wb CL)
def dD:qa:=q 6 112 (m xe Wb lG)
def eD:qa:=q 6 112 (m xe Wb (m Ed (i 80) z))
def cJ:qa:=q 6 112 (m xe Wb (m Ed (i 72) z))
def EL:Tr Value:=m Oh Pc z
def dJ:Tr Value:=m (m mg Pc EL) Pc (m EL Pc mg)
def DT:Tr Value:=m (m (m mg Pc (m (l (u 6)) Pc z)) Pc (m (m (l (u 5)) Pc z) Pc mg)) Pc bt
def Mab:qa:= .cells ⟨96,none,(m (m (m LI Pc (m (m (m BL Pc z) Pc mg) Pc (m (m AL Pc z) Pc mg))) Pc (m (m (m mg Pc (m Ed (u 3) z)) Pc lL) Pc bt)) Pc (m (m dJ Pc dJ) Pc DT))⟩ 259 false
def jy:qa:=q 2 60 (m iy Wb z)
def ET:qa:=q 6 112 (m xe (i 4) (m Ed (i 82) z))
def FT:qa:=q 6 112 (m xe (i 4) (m Ed (i 74) z))
def Nab:qa:=q 1 43 (l (u 8589934596))
def IT:qa:=q 1 43 uG
def Oab:qa:= .cells ⟨96,none,(m (m (m LI Pc (m (m (m zm Pc z) Pc mg) Pc (m (m Hi Pc z) Pc mg))) Pc Yx) Pc (m (m (m (m mg (u 1) EL) Pc (m EL (u 3) mg)) Pc dJ) Pc DT))⟩ 259 false
def Pab:qa:=q 6 299 (m (m uG Ya Ah) Ii (m Yt (i 3) z))
def Qab:qa:=q 6 299 (m (m zm Ya Xf) Ii (m Hi (i 3) z))
def JT:qa:= .cells ⟨1,none,(l (i 6))⟩ 3 false
def Rab:qa:= .cells ⟨1,none,(l (i 8))⟩ 3 false
def KT:qa:=q 1 43 AL
def MT:qa:=q 1 43 BL
def Sab:qa:=q 10 181 (m (m (m Hi Ya z) S5 (m Ug Ya z)) (p 1478 0) (m (m Ed mh z) (i 49) (l (i 49))))
def Tab:qa:=q 11 194 (m (m (m NA (.func (.func 344) ⟨[p 2068 0]⟩ ⟨[]⟩) z) Ya DL) Ii (m (m Ah (p 2069 0) z) (.bool true) (m (l OA) Qn z)))
def Uab:qa:=q 11 194 (m (m (m NA (.func (.func 344) ⟨[p 1940 0]⟩ ⟨[]⟩) z) Ya DL) Ii (m (m Xf (p 1941 0) z) (.bool true) (m (l OA) Qn z)))
def NT:qa:=q 1 3 (l (i 6))
def OT:qa:=q 1 3 (l (i 9))
def Vab:qa:=q 1 43 (l (u 6))
def Wab:qa:= .cells ⟨12,some Ya,(y (y z (y Ah z)) (y (y Xf z) (m Xf mh z)))⟩ 3 true
def Xab:qa:=q 1 43 (l (u 5))
def Yab:qa:=q 3 29 (m iy Wb (l AT))
def Zab:qa:=q 3 29 (m iy Wb (l CT))
def aac:qa:=q 5 267 (m CL Ya (m (l (i 43)) (i 4) z))
def bac:qa:=q 5 267 (m lG Ya (m (l (i 22)) (i 4) z))
def cac:qa:=q 1 3 (l (i 10))
def dac:Tm:=⟨74,some (.tuple ⟨[]⟩),(m (m (m (m (m (l (.agg ⟨[Wb,gy]⟩)) mT z) (p 2193 0) (l Ii)) Gr (y (l Gr) (l Gr))) (p 0 0) (m (y nT (l (p 1939 0))) (.bool true) (m Ug (.tuple ⟨[Ii,Gr,ay, .bool true]⟩) (l (.agg ⟨[Wb,gy,AT]⟩))))) (.bool false) (m (m (y oT (l (.agg ⟨[Wb,gy,CT]⟩))) ay (m (l ay) pL (l Ii))) Ii (m (y (l Ii) (l (.agg ⟨[Wb,gy]⟩))) (p 2065 0) (m (l Gr) pL (l (p 2067 0))))))⟩
def Ji:Tr qa:=l Cab
def bk:Tr qa:=l Eab
def eu:Tr qa:=m bk ba z
def xp:Tr qa:=l Lab
def PT:Tr qa:=m Bf ba (m ia ba bk)
def QT:Tr qa:=y (y (y (y (l VI) z) ma) Md) (y Qa (y ma (l WI)))
def UA:Tr qa:=y (y bk z) ma
def VA:Tr qa:=y ma bk
def RT:Tr qa:=y (y (y (l jy) z) ma) Md
def yp:Tr qa:=y (y Ji z) ma
def vG:Tr qa:=y ma Ji
def TT:Tr qa:=y (y xp z) ma
def FL:Tr qa:=y (y ia z) ma
def j6:Tr qa:=y Qa (y Le (l bJ))
def A6:Tr qa:=y Qa (y Le (l cJ))
def C6:Tr qa:=y (y (y (l Zx) z) ma) Md
def eac:AH:=⟨2194,(m (m (m (m (m (m (m (m (m (m (m fy kG z) ba ia) Lo (m ma lj ia)) Cr (m (m (m (l qG) ba z) ba ia) mj (m ma nj ma))) ba (m (m (m (m (l NI) ba z) ba ia) qj (m ma rj ia)) pj (m (m zc sj ia) ba (m ma tj (l OI))))) Br (m (m (m (m (m jz vj z) ba ia) nj (m ma Xt ia)) uj (m pg wj (m (l vp) qj jz))) ba (m (m (m (m Ji ba z) xj ia) tj (m ma Lo (l Ux))) rj (m (m ma yj ia) ba (m ia mj Ji))))) Ar (m (m (m (m (m (m (l PI) Aj z) ba ia) zj (m ma Bj ia)) Ph (m (m (m (l QI) ba z) ba ia) j5 (m ma Cj ma))) ba (m (m (m (m (l Dab) ba z) ba ia) Ej (m ma Ko (l A5))) Dj (m (m (l cO) Fj ia) ba (m ia Gj (l xT))))) ba (m (m (m (m eu ba ia) Cj (m ma Dj ia)) Hj (m pg Ij (m ma Ej bk))) ba (m (m (m (m (l PC) ba z) Jj ia) Gj (m ma zj (l Vx))) Ko (m (m ma Kj ia) ba (m ia uf (l QC))))))) Ko (m (m (m (m (m (m (m fy Ar z) Fj ia) ba Bf) ba (m (m (m (l qG) Ph z) ba ia) Lj Vg)) ba (m (m (m (m (l RI) ba z) Bj ia) ba (m ma Mj ia)) ba (m (m (l vp) ba ia) ba (m (l Fab) Nj (l SI))))) vj (m (m (m (m eu Kj ia) ba (m ma kG ia)) ba (m (m (l Hj) ba ia) Jj (m (l WS) ba bk))) ba (m (m (m (m (l Gab) ba z) wj ia) Nj PA) Mj (m Bf ba (m ia Lj (l Hab)))))) Aj (m (m (m (m (m (m (l RC) Br z) yj ia) ba Bf) ba (m (m (l uj) ba ia) xj (m (l Oj) ba (l SC)))) ba (m (m (m (m (l TC) ba z) D5 ia) Qj QA) Pj (m qL ba (m ia Rj (l UC))))) ba (m (m (m (m (m (l VC) ba z) lj ia) ba (m ma Pj ia)) ba (m (m (l pj) ba ia) ba (m ma Qj (l VC)))) ba (m (m (m (m (l yT) Cr z) Ij ia) Rj RA) ba (m Bf sj (m ia Xx (l zT)))))))) cO (m (m (m (m (m (m (m (m (l WC) xj z) ba ia) ba (m ma Hj ia)) ba (m (m (m (l XC) yj z) ba ia) Sj Vg)) ba (m (m (m (m (l TI) ba z) ba ia) Tj (m ma Uj ia)) ba (m (m (l Xt) ba ia) ba (m (l Iab) Vj (l UI))))) Ij (m (m (m (m (m (l VI) ba z) ba ia) ba (m ma vp ia)) ba (m (m (l lj) ba ia) Aj (m (l kG) Tj (l WI)))) ba (m (m (m (m Ji sj z) Ar ia) Vj PA) Uj (m (m ma Ph ia) ba (m ia Sj Ji))))) wj (m (m (m (m (m (m (l Jab) Jj z) ba ia) ba (m ma pj ia)) ba (m (m (l Kj) ba ia) Lo (m ma ba (l Kab)))) ba (m (m (m (m xp ba z) ba ia) Xj SA) Wj (m (m jz Cr ia) ba (m ia Yj xp)))) ba (m (m (m (m (m (l XI) ba z) ba ia) ba (m ma Wj ia)) ba (m (m (l Bj) ba ia) vj (m ma Xj (l YI)))) ba (m (m (m (m bk Fj z) Br ia) Yj rL) ba (m (m ma uj ia) ba (m ia Zt bk)))))) xj (m (m (m (m (m (m (m (l YC) wj z) Cr ia) ba Bf) yj (m (m (m (l ZC) ba z) ba ia) ba Vg)) ba (m (m (m (m (l ZI) ba z) pj ia) ba (m ma Zj (l aT))) uf (m qT ba (m ia ba (l aJ))))) ba (m (m (m (m (m (l aD) ba z) uj ia) ba sL) lj (m pg Br (m ma ba (l bJ)))) sj (m (m (m (m (l bD) ba z) Aj ia) ba TA) Zj (m Bf ba (m ia ba (l bD)))))) Jj (m (m (m (m (m (m Ji Ij z) Ph ia) ba Bf) Kj (m pg Ar (m (l Xt) ba Ji))) ba (m (m (m (m (l cD) ba z) vp ia) ba QA) ak (m Bf ba (m ia ba (l dD))))) ba (m (m (m (m (m (l eD) ba z) Hj ia) ba (m ma ak ia)) Bj (m pg ba (m ma ba (l cJ)))) Fj (m (m (m (m xp ba z) vj ia) ba Vg) ba (m Bf ba (m ia G5 xp)))))))) uf (m (m (m (m (m (m (m (m (m (l WC) Dj z) ba ia) ba (m ma Yj ia)) ba (m (m (m (l XC) Ej z) ba ia) Bj Vg)) ba (m (m (m (m (l NI) zj z) ba ia) Fj (m ma Jj ia)) Lj (m qL ba (m (l Mab) Kj (l OI))))) Mj (m (m (m (m (m (l VI) Ko z) ba ia) ba (m ma Zt ia)) Nj (m (m (l Gj) ba ia) ak (m (l Xx) Fj (l WI)))) ba (m (m (m (m Ji Cj z) Wj ia) Kj tL) Jj (m (m ma Xj ia) ba (m ia Bj Ji))))) Pj (m (m (m (m (m (m (l jy) rj z) ba ia) ba (m ma Sj ia)) Qj (m (m (m (l jy) tj z) ba ia) uf (m ma sj (l mL)))) ba (m (m (m (m (l ET) nj z) ba ia) yj SA) xj (m (m jz Tj ia) ba (m ia lj (l FT))))) ba (m (m (m (m (m (l XI) Lo z) ba ia) sj (m ma xj ia)) Rj (m (m (l mj) ba ia) Zj (m ma yj (l YI)))) ba (m (m (m (m (l PC) qj z) Uj ia) lj rL) ba (m (m ma Vj ia) ba (m ia Xt (l QC))))))) Dj (m (m (m (m (m (m (m (l YC) Pj z) Tj ia) ba Bf) Ej (m (m (m (l ZC) Qj z) ba ia) ba Vg)) zj (m (m (m (m (l RI) ba z) Sj ia) ba (m ma Ij ia)) H5 (m (m (l Xx) ba ia) ba (m (l VS) ba (l SI))))) Ko (m (m (m (m (m (l Nab) ba z) Vj ia) ba (m ma I5 ia)) Gj (m (m (l Rj) ba ia) Uj (m (l J5) ba (l IT)))) Cj (m (m (m eu ak ia) ba TA) Ij PT))) rj (m (m (m (m (m (m (l RC) Mj z) Xj ia) ba Bf) tj (m (m (l Nj) ba ia) Wj (m jz ba (l SC)))) nj (m (m (m eu uf ia) ba QA) wj PT)) Lo (m (m (m (m (m xp ba z) Yj ia) ba (m ma wj ia)) mj (m (m (l Lj) ba ia) ba (m ma ba xp))) qj (m (m (m eu Zj ia) ba RA) ba (m Bf ba (m ia kG bk))))))) uf (m (m (m (m (m (m (m (m bk Wj z) qj ia) ba (m ma Rj ia)) ba (m (m (m bk Xj z) ba ia) pj Vg)) ba (m (m (m (m (l TI) ba z) mj ia) Cr (m ma Br ia)) ba (m (m (l Zt) ba ia) Lo (m (l Oab) uj (l UI))))) Zj (m (m (m (m eu tj ia) ba uL) ba (m (m (l Yj) ba ia) rj (m (l L5) Cr bk))) ba (m (m (m eu Pj ia) uj PA) Br (m (m ma Qj ia) nj (m ia pj bk))))) ak (m (m (m (m (m (m (l Pab) Uj z) Ej ia) ba (m ma Lj ia)) ba (m (m (l Vj) ba ia) Dj (m ma ba (l Qab)))) ba (m (m (m (m (l TC) ba z) M5 ia) Ph SA) Ar (m (m (l N5) ba ia) zj (m ia Hj (l UC))))) ba (m (m (m (m (m (l JT) ba z) Gj ia) ba (m ma Ar ia)) ba (m (m (l Sj) ba ia) Ko (m ma Ph (l JT)))) ba (m (m (m (m (l xT) Tj z) Mj ia) Hj RA) ba (m (m ma Nj ia) Cj (m ia vp (l Rab))))))) Wj (m (m (m (m (m (m (m (l PI) ak z) ba ia) ba (m ma mj ia)) Xj (m (m (m (l QI) ba z) Lo ia) ba Vg)) ba (m (m (m (m (l ZI) ba z) Lj ia) ba (m ma vj (l P5))) Ph (m (m (l Q5) qj ia) ba (m ia ba (l aJ))))) ba (m (m (m (m (m (l aD) ba z) Nj ia) ba uL) Yj (m (m zc nj ia) Mj (m ma ba (l bJ)))) ba (m (m (m (m (l KT) ba z) rj ia) ba TA) vj (m (m ma tj ia) ba (m ia ba (l MT)))))) Uj (m (m (m (m (m (m Ji Zj z) Qj ia) ba sL) Vj (m (m zc zj ia) Pj (m (l Zt) ba Ji))) ba (m (m (m (m (l cD) ba z) Dj ia) ba tL) Aj (m (m ma Ej ia) ba (m ia ba (l dD))))) ba (m (m (m (m (m (l eD) ba z) Rj ia) ba (m ma Aj ia)) Sj (m (m zc Cj ia) ba (m ma ba (l cJ)))) Tj (m (m (m eu Ko ia) ba Vg) ba (m (m ma Gj ia) ba (m ia uf bk))))))))) uf (m (m (m (y (y (y (y (y (y (m (l WC) uf z) ma) Md) (y (y (y (l XC) z) ma) (y (l Rj) (l oL)))) (y (y (y (y (l NI) z) ma) Md) (y (y (l Oj) ma) (y Le (l OI))))) (y QT (y (y UA (y (l Qj) (l Ux))) (y (y (l Pj) ma) VA)))) (y (y (y RT (y (y (y (l jy) z) ma) (y (l Lj) Le))) (y (y (y (y (l ET) z) ma) vL) (y ey (y ma (l FT))))) (y (y (y (y (y (l qG) z) ma) Md) (y Qa (y Le fy))) (y (y (y (y (l PC) z) ma) (y (l Nj) (l Vx))) (y (y (l Mj) ma) (m ma au (l QC))))))) uf (y (y (y (y (y (y (y (l YC) z) ma) (y (l Lo) ma)) (y (y (y (l ZC) z) ma) (y (l mj) Le))) (m (y (y (y (l RI) z) ma) (y (l qj) (l R5))) Oj (y Qa (y (l Sab) (l SI))))) (y (y (y (y (y (l IT) z) ma) (m (l nj) du ma)) (y Qa (y (l T5) fy))) (y (y yp (y (l tj) (l qG))) (y (y (l rj) ma) vG)))) (y (y (y (y (y (y (l RC) z) ma) (y (l zj) ma)) (y Qa (y (l U5) (l SC)))) (y (y yp (y (l Ej) (l nG))) (y (y (l Dj) ma) vG))) (y (y (y TT (y (l Cj) ma)) (y Qa (y Le xp))) (y (y yp (y (l Gj) (l oG))) (y (y (l Ko) ma) vG)))))) cO (y (y (y (y (y (y yp Md) (y yp wL)) (y (y (y (y (l TI) z) ma) Md) (y Qa (y (l V5) (l UI))))) (y (y (y yp Md) (y Qa (y (l du) Ji))) (y (y UA xL) (y (y (l ak) ma) VA)))) (y (y (y (y (y (y (l Tab) z) ma) Md) (m Qa uf (y zc (l Uab)))) (y (y (m (y (l TC) z) Oj ma) yL) (y ey (y ma (l UC))))) (y (y (y (y (y (l NT) z) ma) Md) (y Qa (y Le (l NT)))) (y (y (y (y (l OT) z) ma) vL) (y (y (l Zj) ma) (y ma (l WS))))))) (y (y (y (y (y FL Md) (y FL (y (l Sj) Le))) (m (y (y (y (l ZI) z) ma) (y (l Tj) (l X5))) uf (y (y (l du) ma) (y ma (l aJ))))) (y (y (y (y (y (l aD) z) ma) zL) j6) (y (y FL (y (l Vj) (l pG))) (y (y (l Uj) ma) (y ma ia))))) (y (y (y (y UA (m zc Oj ma)) (y Qa VA)) (y (y (m (y (l cD) z) uf ma) (y (l Xj) (l Zx))) (y (y (l Wj) ma) (y ma (l dD))))) (y (y (y (y (y (l eD) z) ma) Md) A6) (y (y yp (y (l Yj) Le)) (y Md vG))))))) nL (m (y (y (y (y (y (y (y (y (l WC) z) ma) Md) (y (y (y (l XC) z) ma) wL)) (y (y (y (y (l Vab) z) ma) Md) (y (y (l au) ma) (y (l Wab) (l Xab))))) (y QT (y (y UA (y zc fy)) (y (y (l wj) ma) VA)))) (y (y (y (y (y (y (l Yab) z) ma) Md) (m Qa uf (y zc (l Zab)))) (y (y TT yL) (y ey (y ma xp)))) (y (y (y (y (y (l XI) z) ma) Md) (y Qa (y Le (l YI)))) (y (y yp (y zc (l Vx))) (y (y (l Ij) ma) vG))))) (y (y (y (y (y (y (y (l YC) z) ma) Md) (y (y (y (l ZC) z) ma) (y (l Bj) Le))) (m (y (y (y (l Zx) z) ma) (y (l Fj) (l mL))) nL (y Qa (y (l Y5) (l Zx))))) (y (y (y (y (y (l aD) z) ma) Md) j6) (y (y UA (y (l Kj) (l pG))) (y (y (l Jj) ma) VA)))) (y (y (y (y (y (y (l RC) z) ma) Md) (y Qa (y (l au) (l SC)))) (y (y (m (y (l aac) z) uf ma) (y (l yj) (l nG))) (y (y (l xj) ma) (y ma (l bac))))) (y (y (y (y (y (l eD) z) ma) (y (l sj) ma)) A6) (y (y TT (y (l lj) Le)) (y Md (m ma du xp))))))) uf (y (y (y (y (y C6 (y (y (y fy z) ma) wL)) (y (y FL Md) (y Qa (y (l Z5) ia)))) (y (y (y yp Md) (y Qa (y (l e6) Ji))) (y (y (y (y (l bD) z) ma) xL) (y (y (l Aj) ma) (y ma (l bD)))))) (y (y (y RT (y Qa (y zc (l jy)))) (y (y (y (y (l TC) z) ma) (y zc ia)) (y (y (l g6) ma) (y ma (l UC))))) (y (y (y (y (y (l VC) z) ma) Md) (y Qa (y Le (l VC)))) (y (y (y (y (l yT) z) ma) (y zc (l oG))) (y (y (l vj) ma) (y ma (l zT))))))) (y (y (y (y (y (y (y (l PI) z) ma) Md) (m (y (y (l QI) z) ma) Oj (y (l pj) Le))) (m (y (y (y (l cac) z) ma) (y (l Cr) (l jT))) uf (y (y (l kT) ma) (y ma (l OT))))) (y (y (y yp zL) (y Qa (y Le Ji))) (y (y (y (y (l PC) z) ma) (y (l uj) (l lT))) (y (y (l Br) ma) (m ma Oj (l QC)))))) (y (y (y (y UA (m zc au ma)) (y Qa VA)) (y (y (y (y (l cD) z) ma) (y (l Ph) (l Ux))) (y (y (l Ar) ma) (y ma (l dD))))) (y (y C6 (y Qa (y Le (l Zx)))) (y (y (y (y (l KT) z) ma) (y (l Hj) (l oL))) (y Md (m ma uf (l MT)))))))))))⟩
def UT:Fo:= .code 99995 (zu b7 [1,1,1,1,1]) dac [] eac
def VT:List Fm:=[]
end
end Sk
end Go.Proofs.YtfnkmolffhfpoaaGreat
namespace Go.Proofs.YtfnkmolffhfpoaaGreat
namespace Sk
theorem YW:Y4 Tx 6 uT vT=some (UT,VT):=by kernel_rfl
theorem ZW:QS Tx 7 (Y4 Tx 16 UT VT)=true:=by kernel_rfl
theorem uas:Jp (run Tx 100001 (.call 7 [] ⟨0, .nil⟩))=true:=SS (by kernel_rfl) ((congrArg (iL Tx 7) ((NC XW).trans (NC YW))).trans (RS ZW))
end Sk
end Go.Proofs.YtfnkmolffhfpoaaGreat
namespace Go.Proofs.YtfnkmolffhfpoaaGreat
namespace Sk
open Go.RowKit
theorem aX: @Rb (Th.at (fun _=>0) fun _=> .mem tQ) Tx:=by
 letI:Interp:=Th.at (fun _=>0) fun _=> .mem tQ
 exact yP BJ Jz CJ Kz DF (fun F hF v c hv=>⟨⟨c,hv⟩,rfl⟩) (fun e o ty v h=>by cases h)
theorem bX: @Yl (Th.at (fun _=>0) fun _=> .mem tQ) Tx:=by
 intro f g hg;cases hg
theorem eJ(w:World):Calls Tryz.prog 7 #[] w fun e w'=>e= .returned (.bool true)/\Below w.heap.size w w':=by
 letI:Interp:=Th.at (fun _=>0) fun _=> .mem tQ
 exact Gy aX bX uas w
end Sk
end Go.Proofs.YtfnkmolffhfpoaaGreat
