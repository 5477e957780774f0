/- -/
import Derived.Test.YtfnkmolffhfpoaaGreatHp10
set_option linter.unusedVariables false
namespace Go.Proofs.YtfnkmolffhfpoaaGreat
namespace Sk
noncomputable section
def uS:=1027
def aZ:=1043
def Tp:=1059
def CO:=1078
def DO:=1094
def JI:=1107
def TA:=1128
def si:=1144
def ti:=1159
def Ah:=1175
def Tq:=1191
def Ls:=1207
def DF:=1223
def ep:=1239
def E4:=1283
def dh:=1299
def tHd:=1315
def Zt:=1447
def au:=1464
def EO:=1475
def tWr:=1491
def tIs:=1528
def tWm:=1539
def bZ:=1560
def cZ:=1576
def EF:=25
def Qw:=41
def tm:=57
def Rw:=73
def Sw:=89
def Uq:=330
def isT(t:Nat)(v:Value):Bool:=
 match v with
 | .func (.methodOf u _) _ _=>Nat.beq t u
 |_=>false
def Sf(t:Nat)(v:Value):Option (List Value):=
 match v with
 | .func (.methodOf u _) ⟨l⟩ _=>match Nat.beq t u with|true=>some l|false=>none
 |_=>none
def FO(v:Value):Option Nat:=
 match v with
 | .int _ (.ofNat n)=>some n
 |_=>none
def isLit(k:Nat)(n:Int)(v:Value):Bool:=
 match v with
 | .int q m=>match Nat.beq (Hc q) k with|true=>ae m n|false=>false
 |_=>false
def known(F:List (Value×Value))(c:Value):Option Bool:=
 match Nt F c with
 | .bool b=>some b
 |_=>none
def zj(n:Nat):Value:= .int .u64 (.ofNat n)
def Cb(n:Int):Value:= .int .i64 n
def tt:Value:= .bool true
def ff:Value:= .bool false
def neq(F:List (Value×Value))(c:Value):Value:=
 match Nt F c with
 | .bool b=> .bool (Wg b)
 |v=>sy 296 [v]
def Tw(v:Value):Bool:=
 match Sf E4 v with
 |some [_,k,a,b]=>match FO k with|some n=>La (Nat.ble n 13) (La (tc 3 a) (tc 3 b))|none=>false
 |_=>false
def Xz(k:Nat)(v:Value):Bool:=
 match v with
 | .func (.methodOf t _) _ _=>Nat.beq (Nat.mod t 16) k
 |_=>false
def dZ(x:Value)(b:Int):Option Value:=
 match Sf 19 x with
 |some [y, .int .i64 a]=>match Xz 3 y with
  |true=>match Int.add a b with
   | .ofNat 0=>some y
   |c=>match ae (Vo .i64 c) c with|true=>some (sy 19 [y, .int .i64 c])|false=>none
  |false=>none
 |_=>none
def zaf(x:Value):Option Value:=
 match Sf 199 x with
 |some [w,y]=>match La (Xz 7 w) (isLit 7 4294967296 y)with|true=>some (sy DO [w])|false=>none
 |_=>match Xz 7 x with|true=>some (sy DO [x])|false=>none
def Aaf(x:Value):Option Value:=
 match Sf 19 x with
 |some [y, .int .i64 (.ofNat n)]=>match La (Xz 3 y) (Nat.ble n 1000000)with|true=>some (sy 23 [sy 167 [y],zj n])|false=>none
 |_=>none
def KI(F:List (Value×Value))(x:Value):Option Value:=
 match La (Xz 7 x) (match known F (sy si [x])with|some b=>Wg b|none=>false)with
 |true=>some x
 |false=>match Sf ti x with
  |some [w]=>(match Xz 7 w with|true=>some x|false=>none)
  |_=>none
def LI(x:Value):Option Value:=
 match Sf ti x with
 |some [w]=>(match Xz 7 w with|true=>some ff|false=>none)
 |_=>none
def vS(F:List (Value×Value))(x:Value):Option Value:=
 match Sf ti x with
 |some [w]=>match Xz 7 w with
  |true=>match known F (sy si [w])with
   |some true=>some w
   |_=>some (sy Ah [w])
  |false=>none
 |_=>none
def UA(z:Value):List (Value×Value)->Bool
 |[]=>false
 |p::ps=>match Sf 280 p.1,p.2 with
  |some [u,v], .bool true=>match La (Xz 3 v) (re 60 u z)with|true=>true|false=>UA z ps
  |_,_=>UA z ps
def FF(z:Value)(n:Nat):Value:=match n with|0=>z|m+1=>sy 19 [z,Cb (.ofNat (Nat.succ m))]
def Baf(F:List (Value×Value))(x:Value):Option Value:=
 match BE (isT uS x) (BE (isT aZ x) (isT Tp x))with
 |true=>match x with
  | .func (.methodOf _ _) ⟨[w]⟩ _=>match Xz 7 w with|true=>some (sy 264 [x,Cb (-1)])|false=>none
  |_=>none
 |false=>match Tw x with
  |true=>some ff
  |false=>match Sf 19 x with
   |some [z, .int .i64 (.ofNat (n+1))]=>match La (Xz 3 z) (Nat.ble n 1000000)with
    |true=>match known F (sy 280 [FF z n,Cb 0]),UA (FF z n) F with
     |some false,true=>some ff
     |_,_=>none
    |false=>none
   |_=>none
def rLt(F:List (Value×Value))(x y:Value):Option Value:=
 match isLit 3 0 y with
 |true=>Baf F x
 |false=>match Xz 3 y with
  |false=>none
  |true=>match x with
   | .int .i64 (.ofNat (n+1))=>match Nat.ble n 1000000,known F (sy 280 [Cb (.ofNat n),y])with
     |true,some true=>some (neq F (sy 264 [y,x]))
     |_,_=>none
   |_=>match Sf 19 x with
    |some [z, .int .i64 (.ofNat (n+1))]=>match La (Xz 3 z) (Nat.ble n 1000000),known F (sy 280 [FF z n,y])with
     |true,some true=>some (neq F (sy 264 [x,y]))
     |_,_=>none
    |_=>none
def Ms(x:Value)(m:Int):List (Value×Value)->Option Value
 |[]=>none
 |p::ps=>match Sf 264 p.1,p.2 with
  |some [u, .int _ n], .bool true=>match re 60 u x with|true=>some (.bool (ae n m))|false=>Ms x m ps
  |_,_=>Ms x m ps
def cL(F:List (Value×Value))(x:Value)(m:Int):Option Value:=
 match m with
 | .negSucc _=>match Xz 3 x,known F (sy 280 [x,Cb 0])with
   |true,some false=>some ff
   |_,_=>match Tw x with|true=>some ff|false=>none
 |_=>none
def rEq(F:List (Value×Value))(x y:Value):Option Value:=
 match y with
 | .int q m=>match Ms x m F with
   |some v=>some v
   |none=>match q with
    | .i64=>match Sf 19 x with
      |some [z, .int .i64 a]=>match Xz 3 z with
       |true=>match La (ae (Vo .i64 m) m) (ae (Vo .i64 (Int.sub m a)) (Int.sub m a))with
        |true=>some (match cL F z (Int.sub m a)with|some v=>v|none=>sy 264 [z,Cb (Int.sub m a)])
        |false=>none
       |false=>none
      |_=>cL F x m
    |_=>none
 |_=>none
def Caf(x y:Value):Option Value:=
 match y with
 | .int .i64 (.ofNat (n+1))=>match La (Xz 3 x) (Nat.ble n 1000000)with
   |true=>some (match dZ x (.negSucc n)with|some v=>v|none=>sy 19 [x,Cb (.negSucc n)])
   |false=>none
 |_=>none
def wS(x y:Value):Option Value:=
 match Sf uS x with
 |some [w]=>match Xz 7 w with
  |true=>match isLit 3 (-1) y with
   |true=>some (sy 199 [w,zj 4294967296])
   |false=>match tc 3 y with
    |true=>some (sy 23 [sy 199 [w,zj 4294967296],sy Tq [Cb (-1),y]])
    |false=>none
  |false=>none
 |_=>none
def Daf(x y:Value):Option Value:=
 match Sf uS x with
 |some [w]=>match La (Xz 7 w) (isLit 6 0 y)with
  |true=>some (sy 199 [w,zj 4294967296])
  |false=>none
 |_=>none
def xS(x y z:Value):Option Value:=
 match Sf JI x with
 |some [w]=>match Sf ep w with
  |some [q,a,b]=>match La (La (tc 8 y) (tc 6 z)) (La (tc 3 q) (La (tc 8 a) (tc 6 b)))with|true=>some (sy ep [q,y,z])|false=>none
  |_=>none
 |_=>none
def yS(t:Nat)(l:List Value):Option Value:=
 match l with
 |[.int k a]=>match k,a with
  | .u64, .ofNat n=>match Nat.beq t uS with
    |true=>some (.int .i64 (Int.sub (.ofNat (Nat.mod n 4294967296)) (.ofNat 1)))
    |false=>match Nat.beq t aZ with
     |true=>some (.int .i64 (Int.sub (.ofNat (Nat.mod (Nat.div n 4294967296) 128)) (.ofNat 1)))
     |false=>match Nat.beq t si with
      |true=>some (.bool (Nat.beq (Nat.div n 9223372036854775808) 1))
      |false=>match Nat.beq t ti with
       |true=>some (.int .u64 (.ofNat (Nat.mod n 9223372036854775808)))
       |false=>none
  |_,_=>none
 |[.int k a, .int k' b]=>match Nat.beq (Hc k) (Hc k')with
  |true=>match Nat.beq t 280 with
   |true=>some (.bool (Wg (LQ b a)))
   |false=>match Nat.beq t 264 with
    |true=>some (.bool (ae a b))
    |false=>match Nat.beq t (Nat.add 16 (Hc k))with
     |true=>some (.int k (Vo k (Int.add a b)))
     |false=>none
  |false=>none
 |_=>none
def zS(F:List (Value×Value))(t:Nat)(l:List Value):Option Value:=
 match l with
 |[x]=>match Nat.beq t 166 with
  |true=>zaf x
  |false=>match Nat.beq t 167 with
   |true=>Aaf x
   |false=>match Nat.beq t ti with
    |true=>KI F x
    |false=>match Nat.beq t si with
     |true=>LI x
     |false=>match Nat.beq t Ah with|true=>vS F x|false=>none
 |[x,y]=>match Nat.beq t 280 with
  |true=>rLt F x y
  |false=>match Nat.beq t 264 with
   |true=>rEq F x y
   |false=>match Nat.beq t 19 with
    |true=>match y with| .int .i64 b=>dZ x b|_=>none
    |false=>match Nat.beq t 35 with
     |true=>Caf x y
     |false=>match Nat.beq t Tq with
      |true=>wS x y
      |false=>match Nat.beq t DF with|true=>Daf x y|false=>none
 |[x,y,z]=>match Nat.beq t ep with
  |true=>xS x y z
  |false=>none
 |_=>none
def GF(F:List (Value×Value))(v:Value):Value:=
 match v with
 | .func (.methodOf t _) ⟨l⟩ _=>match yS t l with
   |some u=>u
   |none=>match zS F t l with
    |some u=>match Wf u with|some _=>u|none=>v
    |none=>v
 |_=>v
def mk(F:List (Value×Value))(t:Nat)(l:List Value):Value:=Nt F (GF F (sy t l))
def Ql:List Nat->List Value->Bool
 |[],[]=>true
 |k::ks,v::vs=>match tc k v with|true=>Ql ks vs|false=>false
 |_,_=>false
def F4:List Value->Bool
 |[]=>false
 |v::vs=>match Bm v with|true=>true|false=>F4 vs
def Kc(t:Nat)(ks:List Nat)(F:List (Value×Value))(args:List Value)(σ:AH):Option (Value×AH):=
 match F4 args,Ql ks args with
 |true,true=>some (mk F t args,σ)
 |_,_=>none
def sE(k:Nat)(σ:AH)(v:Value):Option Value:=
 match v with
 | .pointer (some ⟨b,o,none⟩)=>match o with
   |0=>match σ.get b with
    |some (.gh e)=>match gn k e with|true=>some e|false=>none
    |_=>none
   |_=>none
 |_=>none
def jn(v:Value):Nat:=
 match v with
 | .pointer (some a)=>a.block
 |_=>Nat.zero
def Hz(kind:Nat)(F:List (Value×Value))(args:List Value)(σ:AH):Option (Value×AH):=
 match args with
 |[p,a]=>match sE 11 σ p,tc 3 a with
  |some e,true=>some (mk F E4 [e,Cb (.ofNat kind),a,Cb 0],σ)
  |_,_=>none
 |_=>none
def eZ(kind:Nat)(F:List (Value×Value))(args:List Value)(σ:AH):Option (Value×AH):=
 match args with
 |[p,a,b]=>match sE 11 σ p,tc 3 a,tc 3 b with
  |some e,true,true=>some (mk F E4 [e,Cb (.ofNat kind),a,b],σ)
  |_,_,_=>none
 |_=>none
def GO(e:Value):List Value:=[sy dh [e,Cb 0],sy dh [e,Cb 1],sy dh [e,Cb 2],sy dh [e,Cb 3]]
def fZ(F:List (Value×Value))(args:List Value)(σ:AH):Option (Value×AH):=
 match args with
 |[p]=>match sE 11 σ p with
  |some e=>some (.agg ⟨GO e⟩,σ)
  |none=>none
 |_=>none
def oHd(F:List (Value×Value))(args:List Value)(σ:AH):Option (Value×AH):=
 match args with
 |[p, .agg ⟨[k,x,_]⟩]=>match sE 11 σ p,tc 3 k,tc 6 x with
  |some e,true,true=>some (mk F tHd [e,k,x],σ)
  |_,_,_=>none
 |_=>none
def gZ(F:List (Value×Value))(args:List Value)(σ:AH):Option (Value×AH):=
 match args with
 |[.agg ⟨c⟩, .agg ⟨[k,x,_]⟩]=>match c with
  |c0::cs=>match Sf dh c0 with
   |some [e,_]=>match gn 11 e,ql 60 (c0::cs) (GO e)with
    |true,true=>match La (tc 3 k) (tc 6 x)with|true=>some (mk F tHd [e,k,x],σ)|false=>none
    |_,_=>none
   |_=>none
  |[]=>none
 |_=>none
def oAt(F:List (Value×Value))(args:List Value)(σ:AH):Option (Value×AH):=
 match args with
 |[.agg ⟨c⟩, .agg ⟨[k,a,b]⟩]=>match c with
  |c0::cs=>match Sf dh c0 with
   |some [e,_]=>match gn 11 e,ql 60 (c0::cs) (GO e),FO k with
    |true,true,some n=>match La (tc 3 k) (La (tc 3 a) (La (tc 3 b) (La (Nat.ble 2 n) (Nat.ble n 17))))with
     |true=>match Nat.ble n 4 with
      |true=>match La (isLit 3 0 a) (isLit 3 0 b)with|true=>some (Cb (.ofNat (Nat.mul 8 n)),σ)|false=>none
      |false=>match BE (Nat.beq n 14) (Nat.beq n 15)with|true=>none|false=>some (mk F E4 [e,Cb (.ofNat n),a,b],σ)
     |false=>none
    |_,_,_=>none
   |_=>none
  |[]=>none
 |_=>none
def deep:Nat->Value->Option (Nat×Value)
 |0,_=>none
 |d+1,e=>match e with
  | .func (.methodOf t _) ⟨l⟩ _=>match Nat.beq t 9 with
    |true=>some (0,e)
    |false=>match BE (Nat.beq t EF) (BE (Nat.beq t Qw) (BE (Nat.beq t tm) (BE (Nat.beq t Rw) (Nat.beq t Sw)))),l with
     |true,x::_=>match deep d x with|some (n,r)=>some (Nat.succ n,r)|none=>none
     |_,_=>none
  |_=>none
def Rl(F:List (Value×Value))(e:Value):Bool:=
 match deep 30 e with
 |some (_,r)=>match known F (sy 280 [sy EO [r],Cb 999000]),known F (sy 280 [sy tWm [r],Cb 999000])with
  |some true,some true=>true
  |_,_=>false
 |none=>false
def dL(F:List (Value×Value))(args:List Value)(σ:AH):Option (Value×AH):=
 match args with
 |[p,t,a]=>match sE 9 σ p,tc 3 t,tc 3 a with
  |some e,true,true=>match Rl F e with
   |true=>some (mk F Zt [e,a],σ.oe (jn p) (some (.gh (sy EF [e,t,a]))) id)
   |false=>none
  |_,_,_=>none
 |_=>none
def RC(F:List (Value×Value))(args:List Value)(σ:AH):Option (Value×AH):=
 match args with
 |[p,t,a,x]=>match sE 9 σ p,tc 3 t,tc 3 a,tc 7 x with
  |some e,true,true,true=>match Rl F e with
   |true=>some (undef,σ.oe (jn p) (some (.gh (sy Qw [e,t,a,x]))) id)
   |false=>none
  |_,_,_,_=>none
 |_=>none
def eL(F:List (Value×Value))(args:List Value)(σ:AH):Option (Value×AH):=
 match args with
 |[p,t,a,o,x]=>match sE 9 σ p,tc 3 t,tc 3 a,tc 7 o,tc 7 x with
  |some e,true,true,true,true=>match Rl F e with
   |true=>some (mk F au [e,a,o],σ.oe (jn p) (some (.gh (sy tm [e,t,a,o,x]))) id)
   |false=>none
  |_,_,_,_,_=>none
 |_=>none
def SC(F:List (Value×Value))(args:List Value)(σ:AH):Option (Value×AH):=
 match args with
 |[p,t,a]=>match sE 9 σ p,tc 3 t,tc 3 a with
  |some e,true,true=>match Rl F e with
   |true=>some (undef,σ.oe (jn p) (some (.gh (sy Rw [e,t,a]))) id)
   |false=>none
  |_,_,_=>none
 |_=>none
def TC(F:List (Value×Value))(args:List Value)(σ:AH):Option (Value×AH):=
 match args with
 |[p,t]=>match sE 9 σ p,tc 3 t with
  |some e,true=>match Rl F e with
   |true=>some (undef,σ.oe (jn p) (some (.gh (sy Sw [e,t]))) id)
   |false=>none
  |_,_=>none
 |_=>none
def UC(F:List (Value×Value))(args:List Value)(σ:AH):Option (Value×AH):=
 match args with
 |[p]=>match sE 9 σ p with
  |some e=>some (mk F EO [e],σ)
  |none=>none
 |_=>none
def iv(F:List (Value×Value))(args:List Value)(σ:AH):Option (Value×AH):=
 match args with
 |[p,a]=>match sE 9 σ p,tc 3 a with
  |some e,true=>some (mk F tWr [e,a],σ)
  |_,_=>none
 |_=>none
def VC(e:Value):Option Value:=
 match Sf Uq e with
 |some [m]=>(match gn 9 m with|true=>some m|false=>none)
 |_=>none
def oDo(F:List (Value×Value))(args:List Value)(σ:AH):Option (Value×AH):=
 match args with
 |[p,k,t,a,o,x]=>match sE 10 σ p with
  |some e=>match VC e,FO k with
   |some m,some n=>match La (tc 3 k) (La (tc 3 t) (La (tc 3 a) (La (tc 7 o) (tc 7 x)))),Rl F m with
    |true,true=>match n with
     |1=>some (.agg ⟨[k,t,a,mk F Zt [m,a],zj 0,mk F tIs [m,a]]⟩,σ.oe (jn p) (some (.gh (sy Uq [sy EF [m,t,a]]))) id)
     |2=>some (.agg ⟨[k,t,a,mk F Zt [m,a],x,mk F tIs [m,a]]⟩,σ.oe (jn p) (some (.gh (sy Uq [sy Qw [m,t,a,x]]))) id)
     |3=>some (.agg ⟨[k,t,a,mk F Zt [m,a],x,mk F au [m,a,o]]⟩,σ.oe (jn p) (some (.gh (sy Uq [sy tm [m,t,a,o,x]]))) id)
     |4=>some (.agg ⟨[k,t,a,zj 0,zj 0,mk F bZ [m,t,a]]⟩,σ.oe (jn p) (some (.gh (sy Uq [sy Rw [m,t,a]]))) id)
     |5=>some (.agg ⟨[k,t,Cb 0,zj 0,zj 0,mk F cZ [m,t]]⟩,σ.oe (jn p) (some (.gh (sy Uq [sy Sw [m,t]]))) id)
     |_=>none
    |_,_=>none
   |_,_=>none
  |none=>none
 |_=>none
def iZ(F:List (Value×Value))(args:List Value)(σ:AH):Option (Value×AH):=
 match args with
 |[.pointer (some ⟨s,o,none⟩),p]=>match o with
  |0=>match σ.get s with
   |some (.cells c ty true)=>match Nat.beq c.n 8,Row.from c 0 8 with
    |true,some [t,a, .int .i64 (.ofNat 1),old,new,put,Vq,wr]=>match sE 10 σ p with
     |some e=>match VC e with
      |some m=>match La (tc 3 t) (La (tc 3 a) (La (tc 7 old) (La (tc 7 new) (BE (isLit 3 0 wr) (match known F (mk F 280 [a,Cb 0])with|some b=>Wg b|none=>false))))),Rl F m with
       |true,true=>match mk F Ah [new]with
        |sn=>match tc 7 sn,known F (mk F au [m,a,old])with
         |true,some b=>
          let m':=sy tm [m,t,a,old,sn]
          match b with
          |true=>σ.oe (jn p) (some (.gh (sy Uq [m']))) fun σ1=>Row.nil.ext [t,a,Cb 2,old,new,tt,mk F EO [m'],mk F tWr [m',a]] fun c2=>σ1.oe s (some (.cells c2 ty true)) fun σ2=>some (undef,σ2)
          |false=>σ.oe (jn p) (some (.gh (sy Uq [m']))) fun σ1=>Row.nil.ext [t,a,Cb 0,old,new,put,Vq,wr] fun c2=>σ1.oe s (some (.cells c2 ty true)) fun σ2=>some (undef,σ2)
         |_,_=>none
       |_,_=>none
      |none=>none
     |none=>none
    |_,_=>none
   |_=>none
  |_=>none
 |_=>none
def Eaf(e:Value)(o:Nat)(ty:TypeId):Option Value:=
 match VC e with
 |some m=>match La (Nat.beq o 2) (La (gn 10 e) (Nat.beq ty 3))with|true=>some (sy EO [m])|false=>none
 |none=>none
def zak(k j c:Nat):Value:=
 match k with
 |3=>match c with
  |0=>sy 280 [vr 3 j,Cb 0]
  |1=>sy 264 [vr 3 j,Cb (-1)]
  |2=>sy 280 [sy 19 [vr 3 j,Cb 1],Cb 0]
  |3=>sy 280 [vr 3 j,sy dh [vr 11 1,Cb 0]]
  |4=>sy 264 [sy 19 [vr 3 j,Cb 1],sy dh [vr 11 1,Cb 0]]
  |5=>sy 280 [sy 19 [vr 3 j,Cb 1],sy dh [vr 11 1,Cb 0]]
  |6=>sy 280 [vr 3 j,sy dh [vr 11 1,Cb 2]]
  |7=>sy 264 [sy 19 [vr 3 j,Cb 1],sy dh [vr 11 1,Cb 2]]
  |8=>sy 280 [sy 19 [vr 3 j,Cb 1],sy dh [vr 11 1,Cb 2]]
  |9=>match j with|1=>sy 280 [Cb 2,vr 3 1]|_=>vr 3 j
  |_=>match j with|1=>sy 264 [vr 3 1,Cb 8]|_=>vr 3 j
 |7=>match c with
  |0=>sy si [vr 7 j]
  |1=>sy 264 [sy uS [vr 7 j],Cb (-1)]
  |_=>sy 264 [sy aZ [vr 7 j],Cb (-1)]
 |_=>tt
inductive bY where
 |o
 |x(i:Nat)
 |i(n:Nat)
 |m
 |w(n:Nat)
 |u(n:Nat)
 |t
 |f
 |p(b:Nat)
 |z
 |k(n:Nat)
 |e(v:Value)
def bY.val(ks:List Nat):bY->Option Value
 | .o=>none
 | .x j=>match Xf ks j with|some q=>some (vr q j)|none=>none
 | .i n=>some (Cb (.ofNat n))
 | .m=>some (Cb (.negSucc 0))
 | .w n=>some (zj n)
 | .u n=>some (.int .u32 (.ofNat n))
 | .t=>some tt
 | .f=>some ff
 | .p j=>some (.pointer (some ⟨j,0,none⟩))
 | .z=>some (.pointer none)
 | .k j=>some (sy dh [vr 11 1,Cb (.ofNat j)])
 | .e y=>some y
def G4(ks:List Nat):List bY->List (Option Value)
 |[]=>[]
 |x::xs=>x.val ks::G4 ks xs
def Faf(c:Nat):Option (List (Value×Value)->List Value->AH->Option (Value×AH)):=
 match c with
 |1=>some (Kc uS [7])|2=>some (Kc aZ [7])|3=>some (Kc Tp [7])|4=>some (Kc CO [7])|5=>some (Kc DO [7])
 |6=>some (Kc JI [7])|7=>some (Kc TA [7])|8=>some (Kc si [7])|9=>some (Kc ti [7])|10=>some (Kc Ah [7])
 |11=>some (Kc Tq [3,3])|12=>some (Kc Ls [3,3])|13=>some (Kc DF [3,6])|14=>some (Kc ep [3,8,6])
 |15=>some (Hz 5)|16=>some (Hz 6)|17=>some (Hz 7)|18=>some (eZ 8)|19=>some (Hz 9)|20=>some (Hz 10)|21=>some (Hz 11)|22=>some (Hz 12)|23=>some (Hz 13)
 |24=>some (Hz 16)|25=>some (Hz 17)|26=>some fZ|27=>some oAt
 |28=>some dL|29=>some RC|30=>some eL|31=>some SC|32=>some TC|33=>some UC|34=>some iv|35=>some oDo|36=>some iZ|37=>some oHd|38=>some gZ
 |_=>none
def Gaf:Tr Nat:=(.node (.node (.node (.node (.node (.node (.node (.node .nil (some 14) .nil) none .nil) none (.node .nil none (.node .nil (some 18) .nil))) none (.node .nil (some 35) .nil)) none (.node .nil none (.node (.node .nil none (.node (.node .nil (some 19) .nil) none .nil)) none .nil))) none (.node (.node (.node (.node (.node .nil (some 2) .nil) (some 32) .nil) none .nil) none (.node (.node .nil (some 27) (.node .nil (some 22) .nil)) none (.node .nil none (.node .nil (some 1) .nil)))) none (.node (.node (.node (.node (.node .nil (some 15) .nil) none .nil) none .nil) none .nil) none (.node (.node (.node .nil (some 14) .nil) none .nil) none (.node .nil none (.node .nil (some 9) .nil)))))) none (.node (.node (.node (.node (.node .nil (some 30) .nil) none (.node (.node (.node .nil (some 13) .nil) (some 11) .nil) none .nil)) none .nil) none (.node .nil none (.node (.node (.node (.node .nil (some 8) .nil) (some 7) .nil) none (.node .nil (some 9) .nil)) none (.node (.node .nil (some 37) .nil) none (.node .nil (some 12) .nil))))) none (.node (.node (.node (.node (.node .nil (some 21) .nil) none .nil) none (.node (.node (.node .nil (some 3) .nil) none .nil) none .nil)) none (.node (.node .nil none (.node (.node .nil (some 20) .nil) none .nil)) none (.node (.node (.node .nil (some 4) .nil) none .nil) none .nil))) none (.node (.node .nil none (.node (.node (.node .nil (some 13) .nil) none .nil) none (.node .nil (some 34) .nil))) none .nil)))) none (.node (.node (.node (.node (.node (.node (.node .nil (some 6) .nil) (some 28) .nil) none (.node (.node (.node .nil (some 25) .nil) none .nil) none (.node .nil (some 12) .nil))) none (.node .nil none (.node .nil none (.node .nil (some 26) .nil)))) none (.node (.node (.node .nil (some 33) .nil) none .nil) none (.node .nil none (.node .nil (some 1) .nil)))) none (.node (.node (.node (.node (.node .nil (some 5) .nil) none .nil) none (.node (.node (.node .nil (some 10) .nil) none .nil) none .nil)) none (.node (.node .nil (some 11) (.node .nil (some 23) .nil)) none (.node (.node (.node .nil (some 3) .nil) none .nil) none (.node .nil (some 36) .nil)))) none (.node (.node .nil none (.node .nil none (.node .nil (some 10) .nil))) none (.node (.node (.node .nil (some 6) .nil) none .nil) none (.node .nil (some 17) (.node .nil (some 8) .nil)))))) none (.node (.node (.node (.node (.node .nil (some 31) .nil) none .nil) none .nil) none .nil) none (.node (.node (.node (.node (.node .nil (some 7) .nil) none .nil) none .nil) none (.node (.node (.node .nil (some 2) .nil) none .nil) none (.node (.node .nil (some 24) .nil) none .nil))) none (.node (.node .nil (some 29) (.node (.node (.node .nil (some 4) .nil) none .nil) none .nil)) none (.node (.node .nil (some 38) .nil) none (.node .nil (some 16) .nil)))))))
def jZ(f:FuncId):Option (List (Value×Value)->List Value->AH->Option (Value×AH)):=match Gaf.get f with|some c=>Faf c|none=>none
end
noncomputable section
inductive MI where
 |c(e:TypeId)(full:Bool)(l:List bY)
 |g(v:Value)
def MI.obj(ks:List Nat):MI->ah
 | .c e full l=> .cells (G4 ks l) e full
 | .g v=> .gh v
def I4(ks:List Nat):List MI->List ah
 |[]=>[]
 |t::ts=>t.obj ks::I4 ks ts
def Aak:Nat->Value
 |0=>ff
 |_+1=>tt
def NI(ks:List Nat):List (Nat×Nat×Nat)->List (Value×Value)
 |[]=>[]
 |q::qs=>match Xf ks q.1 with
  |some k=>(zak k q.1 q.2.1,Aak q.2.2)::NI ks qs
  |none=>NI ks qs
structure Vc where
 ks:List Nat
 Sb:List MI
 fs:List (Nat×Nat×Nat)
def Vc.shape(s:Vc):Shape:=⟨I4 s.ks s.Sb,NI s.ks s.fs,s.ks,2⟩
def ug:List Vc->List Shape
 |[]=>[]
 |s::ss=>s.shape::ug ss
def Ak:List (Value×Value):=[(sy 280 [sy EO [vr 9 0],Cb 999000],tt),(sy 280 [sy tWm [vr 9 0],Cb 999000],tt),(sy 280 [Cb 0,sy dh [vr 11 1,Cb 0]],tt),(sy 280 [Cb 0,sy dh [vr 11 1,Cb 1]],tt),(sy 280 [Cb 0,sy dh [vr 11 1,Cb 2]],tt),(sy 280 [Cb 0,sy dh [vr 11 1,Cb 3]],tt)]
def pj(F:List (Value×Value)):List (Value×Value)->List (Value×Value)
 |[]=>F
 |p::ps=>p::pj F ps
def uaG(E0:Env)(n:Nat)(cs:List (FuncId×List Value))(post:Shape->List Value->Bd->Bool)(tab:List Vc)(roots:Nat)(S:Vc)(t:Tree):Bool:=
 match S.shape with
 |⟨Sb,facts,_,_⟩=>Ml E0 n cs post (ug tab) roots (Rp Sb) t (pj facts Ak)
end
end Sk
end Go.Proofs.YtfnkmolffhfpoaaGreat
