/- -/
import Derived.Test.YtfnkmolffhfpoaaGreatHb15
set_option linter.unusedVariables false
namespace Go.Proofs.YtfnkmolffhfpoaaGreat
namespace Sk
noncomputable section
def LL:=1027
def GQ:=1043
def Wm:=1059
def CI:=1078
def DI:=1094
def iE:=1107
def Sw:=1128
def Sg:=1144
def Tg:=1159
def tg:=1175
def mo:=1191
def vp:=1207
def TB:=1223
def gm:=1239
def zT:=1283
def Lh:=1299
def tHd:=1315
def kq:=1447
def mq:=1464
def EI:=1475
def uX:=1491
def Q4:=1528
def V1:=1539
def IQ:=1560
def JQ:=1576
def UB:=25
def Ks:=41
def Vj:=57
def Ls:=73
def Ms:=89
def xp:=330
def isT(t:Nat)(v:Value):Bool:=
 match v with
 | .func (.methodOf u _) _ _=>Nat.beq t u
 |_=>false
def Ye(t:Nat)(v:Value):Option (List Value):=
 match v with
 | .func (.methodOf u _) ⟨l⟩ _=>match Nat.beq t u with|true=>some l|false=>none
 |_=>none
def FI(v:Value):Option Nat:=
 match v with
 | .int _ (.ofNat n)=>some n
 |_=>none
def isLit(k:Nat)(n:Int)(v:Value):Bool:=
 match v with
 | .int q m=>match Nat.beq (Xb q) k with|true=>Of m n|false=>false
 |_=>false
def known(F:List (Value×Value))(c:Value):Option Bool:=
 match Vp F c with
 | .bool b=>some b
 |_=>none
def Zh(n:Nat):Value:= .int .u64 (.ofNat n)
def rb(n:Int):Value:= .int .i64 n
def tt:Value:= .bool true
def ff:Value:= .bool false
def neq(F:List (Value×Value))(c:Value):Value:=
 match Vp F c with
 | .bool b=> .bool (Pg b)
 |v=>sy 296 [v]
def Ns(v:Value):Bool:=
 match Ye zT v with
 |some [_,k,a,b]=>match FI k with|some n=>Ia (Nat.ble n 13) (Ia (Qb 3 a) (Qb 3 b))|none=>false
 |_=>false
def Gv(k:Nat)(v:Value):Bool:=
 match v with
 | .func (.methodOf t _) _ _=>Nat.beq (Nat.mod t 16) k
 |_=>false
def KQ(x:Value)(b:Int):Option Value:=
 match Ye 19 x with
 |some [y, .int .i64 a]=>match Gv 3 y with
  |true=>match Int.add a b with
   | .ofNat 0=>some y
   |c=>match Of (Tl .i64 c) c with|true=>some (sy 19 [y, .int .i64 c])|false=>none
  |false=>none
 |_=>none
def vX(x:Value):Option Value:=
 match Ye 199 x with
 |some [w,y]=>match Ia (Gv 7 w) (isLit 7 4294967296 y)with|true=>some (sy DI [w])|false=>none
 |_=>match Gv 7 x with|true=>some (sy DI [x])|false=>none
def wX(x:Value):Option Value:=
 match Ye 19 x with
 |some [y, .int .i64 (.ofNat n)]=>match Ia (Gv 3 y) (Nat.ble n 1000000)with|true=>some (sy 23 [sy 167 [y],Zh n])|false=>none
 |_=>none
def jE(F:List (Value×Value))(x:Value):Option Value:=
 match Ia (Gv 7 x) (match known F (sy Sg [x])with|some b=>Pg b|none=>false)with
 |true=>some x
 |false=>match Ye Tg x with
  |some [w]=>(match Gv 7 w with|true=>some x|false=>none)
  |_=>none
def kE(x:Value):Option Value:=
 match Ye Tg x with
 |some [w]=>(match Gv 7 w with|true=>some ff|false=>none)
 |_=>none
def ML(F:List (Value×Value))(x:Value):Option Value:=
 match Ye Tg x with
 |some [w]=>match Gv 7 w with
  |true=>match known F (sy Sg [w])with
   |some true=>some w
   |_=>some (sy tg [w])
  |false=>none
 |_=>none
def Tw(z:Value):List (Value×Value)->Bool
 |[]=>false
 |p::ps=>match Ye 280 p.1,p.2 with
  |some [u,v], .bool true=>match Ia (Gv 3 v) (Jg 60 u z)with|true=>true|false=>Tw z ps
  |_,_=>Tw z ps
def VB(z:Value)(n:Nat):Value:=match n with|0=>z|m+1=>sy 19 [z,rb (.ofNat (Nat.succ m))]
def xX(F:List (Value×Value))(x:Value):Option Value:=
 match VA (isT LL x) (VA (isT GQ x) (isT Wm x))with
 |true=>match x with
  | .func (.methodOf _ _) ⟨[w]⟩ _=>match Gv 7 w with|true=>some (sy 264 [x,rb (-1)])|false=>none
  |_=>none
 |false=>match Ns x with
  |true=>some ff
  |false=>match Ye 19 x with
   |some [z, .int .i64 (.ofNat (n+1))]=>match Ia (Gv 3 z) (Nat.ble n 1000000)with
    |true=>match known F (sy 280 [VB z n,rb 0]),Tw (VB z n) F with
     |some false,true=>some ff
     |_,_=>none
    |false=>none
   |_=>none
def rLt(F:List (Value×Value))(x y:Value):Option Value:=
 match isLit 3 0 y with
 |true=>xX F x
 |false=>match Gv 3 y with
  |false=>none
  |true=>match x with
   | .int .i64 (.ofNat (n+1))=>match Nat.ble n 1000000,known F (sy 280 [rb (.ofNat n),y])with
     |true,some true=>some (neq F (sy 264 [y,x]))
     |_,_=>none
   |_=>match Ye 19 x with
    |some [z, .int .i64 (.ofNat (n+1))]=>match Ia (Gv 3 z) (Nat.ble n 1000000),known F (sy 280 [VB z n,y])with
     |true,some true=>some (neq F (sy 264 [x,y]))
     |_,_=>none
    |_=>none
def yp(x:Value)(m:Int):List (Value×Value)->Option Value
 |[]=>none
 |p::ps=>match Ye 264 p.1,p.2 with
  |some [u, .int _ n], .bool true=>match Jg 60 u x with|true=>some (.bool (Of n m))|false=>yp x m ps
  |_,_=>yp x m ps
def rG(F:List (Value×Value))(x:Value)(m:Int):Option Value:=
 match m with
 | .negSucc _=>match Gv 3 x,known F (sy 280 [x,rb 0])with
   |true,some false=>some ff
   |_,_=>match Ns x with|true=>some ff|false=>none
 |_=>none
def rEq(F:List (Value×Value))(x y:Value):Option Value:=
 match y with
 | .int q m=>match yp x m F with
   |some v=>some v
   |none=>match q with
    | .i64=>match Ye 19 x with
      |some [z, .int .i64 a]=>match Gv 3 z with
       |true=>match Ia (Of (Tl .i64 m) m) (Of (Tl .i64 (Int.sub m a)) (Int.sub m a))with
        |true=>some (match rG F z (Int.sub m a)with|some v=>v|none=>sy 264 [z,rb (Int.sub m a)])
        |false=>none
       |false=>none
      |_=>rG F x m
    |_=>none
 |_=>none
def yX(x y:Value):Option Value:=
 match y with
 | .int .i64 (.ofNat (n+1))=>match Ia (Gv 3 x) (Nat.ble n 1000000)with
   |true=>some (match KQ x (.negSucc n)with|some v=>v|none=>sy 19 [x,rb (.negSucc n)])
   |false=>none
 |_=>none
def NL(x y:Value):Option Value:=
 match Ye LL x with
 |some [w]=>match Gv 7 w with
  |true=>match isLit 3 (-1) y with
   |true=>some (sy 199 [w,Zh 4294967296])
   |false=>match Qb 3 y with
    |true=>some (sy 23 [sy 199 [w,Zh 4294967296],sy mo [rb (-1),y]])
    |false=>none
  |false=>none
 |_=>none
def zX(x y:Value):Option Value:=
 match Ye LL x with
 |some [w]=>match Ia (Gv 7 w) (isLit 6 0 y)with
  |true=>some (sy 199 [w,Zh 4294967296])
  |false=>none
 |_=>none
def OL(x y z:Value):Option Value:=
 match Ye iE x with
 |some [w]=>match Ye gm w with
  |some [q,a,b]=>match Ia (Ia (Qb 8 y) (Qb 6 z)) (Ia (Qb 3 q) (Ia (Qb 8 a) (Qb 6 b)))with|true=>some (sy gm [q,y,z])|false=>none
  |_=>none
 |_=>none
def PL(t:Nat)(l:List Value):Option Value:=
 match l with
 |[.int k a]=>match k,a with
  | .u64, .ofNat n=>match Nat.beq t LL with
    |true=>some (.int .i64 (Int.sub (.ofNat (Nat.mod n 4294967296)) (.ofNat 1)))
    |false=>match Nat.beq t GQ with
     |true=>some (.int .i64 (Int.sub (.ofNat (Nat.mod (Nat.div n 4294967296) 128)) (.ofNat 1)))
     |false=>match Nat.beq t Sg with
      |true=>some (.bool (Nat.beq (Nat.div n 9223372036854775808) 1))
      |false=>match Nat.beq t Tg with
       |true=>some (.int .u64 (.ofNat (Nat.mod n 9223372036854775808)))
       |false=>none
  |_,_=>none
 |[.int k a, .int k' b]=>match Nat.beq (Xb k) (Xb k')with
  |true=>match Nat.beq t 280 with
   |true=>some (.bool (Pg (jK b a)))
   |false=>match Nat.beq t 264 with
    |true=>some (.bool (Of a b))
    |false=>match Nat.beq t (Nat.add 16 (Xb k))with
     |true=>some (.int k (Tl k (Int.add a b)))
     |false=>none
  |false=>none
 |_=>none
def QL(F:List (Value×Value))(t:Nat)(l:List Value):Option Value:=
 match l with
 |[x]=>match Nat.beq t 166 with
  |true=>vX x
  |false=>match Nat.beq t 167 with
   |true=>wX x
   |false=>match Nat.beq t Tg with
    |true=>jE F x
    |false=>match Nat.beq t Sg with
     |true=>kE x
     |false=>match Nat.beq t tg with|true=>ML F x|false=>none
 |[x,y]=>match Nat.beq t 280 with
  |true=>rLt F x y
  |false=>match Nat.beq t 264 with
   |true=>rEq F x y
   |false=>match Nat.beq t 19 with
    |true=>match y with| .int .i64 b=>KQ x b|_=>none
    |false=>match Nat.beq t 35 with
     |true=>yX x y
     |false=>match Nat.beq t mo with
      |true=>NL x y
      |false=>match Nat.beq t TB with|true=>zX x y|false=>none
 |[x,y,z]=>match Nat.beq t gm with
  |true=>OL x y z
  |false=>none
 |_=>none
def WB(F:List (Value×Value))(v:Value):Value:=
 match v with
 | .func (.methodOf t _) ⟨l⟩ _=>match PL t l with
   |some u=>u
   |none=>match QL F t l with
    |some u=>match Ue u with|some _=>u|none=>v
    |none=>v
 |_=>v
def mk(F:List (Value×Value))(t:Nat)(l:List Value):Value:=Vp F (WB F (sy t l))
def Hj:List Nat->List Value->Bool
 |[],[]=>true
 |k::ks,v::vs=>match Qb k v with|true=>Hj ks vs|false=>false
 |_,_=>false
def AT:List Value->Bool
 |[]=>false
 |v::vs=>match Xj v with|true=>true|false=>AT vs
def Zb(t:Nat)(ks:List Nat)(F:List (Value×Value))(args:List Value)(σ:AH):Option (Value×AH):=
 match AT args,Hj ks args with
 |true,true=>some (mk F t args,σ)
 |_,_=>none
def DA(k:Nat)(σ:AH)(v:Value):Option Value:=
 match v with
 | .pointer (some ⟨b,o,none⟩)=>match o with
   |0=>match σ.get b with
    |some (.gh e)=>match Ml k e with|true=>some e|false=>none
    |_=>none
   |_=>none
 |_=>none
def Ij(v:Value):Nat:=
 match v with
 | .pointer (some a)=>a.block
 |_=>Nat.zero
def gv(kind:Nat)(F:List (Value×Value))(args:List Value)(σ:AH):Option (Value×AH):=
 match args with
 |[p,a]=>match DA 11 σ p,Qb 3 a with
  |some e,true=>some (mk F zT [e,rb (.ofNat kind),a,rb 0],σ)
  |_,_=>none
 |_=>none
def LQ(kind:Nat)(F:List (Value×Value))(args:List Value)(σ:AH):Option (Value×AH):=
 match args with
 |[p,a,b]=>match DA 11 σ p,Qb 3 a,Qb 3 b with
  |some e,true,true=>some (mk F zT [e,rb (.ofNat kind),a,b],σ)
  |_,_,_=>none
 |_=>none
def fz(e:Value):List Value:=[sy Lh [e,rb 0],sy Lh [e,rb 1],sy Lh [e,rb 2],sy Lh [e,rb 3]]
def MQ(F:List (Value×Value))(args:List Value)(σ:AH):Option (Value×AH):=
 match args with
 |[p]=>match DA 11 σ p with
  |some e=>some (.agg ⟨fz e⟩,σ)
  |none=>none
 |_=>none
def oHd(F:List (Value×Value))(args:List Value)(σ:AH):Option (Value×AH):=
 match args with
 |[p, .agg ⟨[k,x,_]⟩]=>match DA 11 σ p,Qb 3 k,Qb 6 x with
  |some e,true,true=>some (mk F tHd [e,k,x],σ)
  |_,_,_=>none
 |_=>none
def oAt(F:List (Value×Value))(args:List Value)(σ:AH):Option (Value×AH):=
 match args with
 |[.agg ⟨c⟩, .agg ⟨[k,a,b]⟩]=>match c with
  |c0::cs=>match Ye Lh c0 with
   |some [e,_]=>match Ml 11 e,nj 60 (c0::cs) (fz e),FI k with
    |true,true,some n=>match Ia (Qb 3 k) (Ia (Qb 3 a) (Ia (Qb 3 b) (Ia (Nat.ble 2 n) (Nat.ble n 17))))with
     |true=>match Nat.ble n 4 with
      |true=>match Ia (isLit 3 0 a) (isLit 3 0 b)with|true=>some (rb (.ofNat (Nat.mul 8 n)),σ)|false=>none
      |false=>match VA (Nat.beq n 14) (Nat.beq n 15)with|true=>none|false=>some (mk F zT [e,rb (.ofNat n),a,b],σ)
     |false=>none
    |_,_,_=>none
   |_=>none
  |[]=>none
 |_=>none
def deep:Nat->Value->Option (Nat×Value)
 |0,_=>none
 |d+1,e=>match e with
  | .func (.methodOf t _) ⟨l⟩ _=>match Nat.beq t 9 with
    |true=>some (0,e)
    |false=>match VA (Nat.beq t UB) (VA (Nat.beq t Ks) (VA (Nat.beq t Vj) (VA (Nat.beq t Ls) (Nat.beq t Ms)))),l with
     |true,x::_=>match deep d x with|some (n,r)=>some (Nat.succ n,r)|none=>none
     |_,_=>none
  |_=>none
def Jj(F:List (Value×Value))(e:Value):Bool:=
 match deep 30 e with
 |some (_,r)=>match known F (sy 280 [sy EI [r],rb 999000]),known F (sy 280 [sy V1 [r],rb 999000])with
  |some true,some true=>true
  |_,_=>false
 |none=>false
def sG(F:List (Value×Value))(args:List Value)(σ:AH):Option (Value×AH):=
 match args with
 |[p,t,a]=>match DA 9 σ p,Qb 3 t,Qb 3 a with
  |some e,true,true=>match Jj F e with
   |true=>some (mk F kq [e,a],σ.Dd (Ij p) (some (.gh (sy UB [e,t,a]))) id)
   |false=>none
  |_,_,_=>none
 |_=>none
def iz(F:List (Value×Value))(args:List Value)(σ:AH):Option (Value×AH):=
 match args with
 |[p,t,a,x]=>match DA 9 σ p,Qb 3 t,Qb 3 a,Qb 7 x with
  |some e,true,true,true=>match Jj F e with
   |true=>some (undef,σ.Dd (Ij p) (some (.gh (sy Ks [e,t,a,x]))) id)
   |false=>none
  |_,_,_,_=>none
 |_=>none
def tG(F:List (Value×Value))(args:List Value)(σ:AH):Option (Value×AH):=
 match args with
 |[p,t,a,o,x]=>match DA 9 σ p,Qb 3 t,Qb 3 a,Qb 7 o,Qb 7 x with
  |some e,true,true,true,true=>match Jj F e with
   |true=>some (mk F mq [e,a,o],σ.Dd (Ij p) (some (.gh (sy Vj [e,t,a,o,x]))) id)
   |false=>none
  |_,_,_,_,_=>none
 |_=>none
def jz(F:List (Value×Value))(args:List Value)(σ:AH):Option (Value×AH):=
 match args with
 |[p,t,a]=>match DA 9 σ p,Qb 3 t,Qb 3 a with
  |some e,true,true=>match Jj F e with
   |true=>some (undef,σ.Dd (Ij p) (some (.gh (sy Ls [e,t,a]))) id)
   |false=>none
  |_,_,_=>none
 |_=>none
def kz(F:List (Value×Value))(args:List Value)(σ:AH):Option (Value×AH):=
 match args with
 |[p,t]=>match DA 9 σ p,Qb 3 t with
  |some e,true=>match Jj F e with
   |true=>some (undef,σ.Dd (Ij p) (some (.gh (sy Ms [e,t]))) id)
   |false=>none
  |_,_=>none
 |_=>none
def lz(F:List (Value×Value))(args:List Value)(σ:AH):Option (Value×AH):=
 match args with
 |[p]=>match DA 9 σ p with
  |some e=>some (mk F EI [e],σ)
  |none=>none
 |_=>none
def Mq(F:List (Value×Value))(args:List Value)(σ:AH):Option (Value×AH):=
 match args with
 |[p,a]=>match DA 9 σ p,Qb 3 a with
  |some e,true=>some (mk F uX [e,a],σ)
  |_,_=>none
 |_=>none
def lE(e:Value):Option Value:=
 match Ye xp e with
 |some [m]=>(match Ml 9 m with|true=>some m|false=>none)
 |_=>none
def oDo(F:List (Value×Value))(args:List Value)(σ:AH):Option (Value×AH):=
 match args with
 |[p,k,t,a,o,x]=>match DA 10 σ p with
  |some e=>match lE e,FI k with
   |some m,some n=>match Ia (Qb 3 k) (Ia (Qb 3 t) (Ia (Qb 3 a) (Ia (Qb 7 o) (Qb 7 x)))),Jj F m with
    |true,true=>match n with
     |1=>some (.agg ⟨[k,t,a,mk F kq [m,a],Zh 0,mk F Q4 [m,a]]⟩,σ.Dd (Ij p) (some (.gh (sy xp [sy UB [m,t,a]]))) id)
     |2=>some (.agg ⟨[k,t,a,mk F kq [m,a],x,mk F Q4 [m,a]]⟩,σ.Dd (Ij p) (some (.gh (sy xp [sy Ks [m,t,a,x]]))) id)
     |3=>some (.agg ⟨[k,t,a,mk F kq [m,a],x,mk F mq [m,a,o]]⟩,σ.Dd (Ij p) (some (.gh (sy xp [sy Vj [m,t,a,o,x]]))) id)
     |4=>some (.agg ⟨[k,t,a,Zh 0,Zh 0,mk F IQ [m,t,a]]⟩,σ.Dd (Ij p) (some (.gh (sy xp [sy Ls [m,t,a]]))) id)
     |5=>some (.agg ⟨[k,t,rb 0,Zh 0,Zh 0,mk F JQ [m,t]]⟩,σ.Dd (Ij p) (some (.gh (sy xp [sy Ms [m,t]]))) id)
     |_=>none
    |_,_=>none
   |_,_=>none
  |none=>none
 |_=>none
def NQ(F:List (Value×Value))(args:List Value)(σ:AH):Option (Value×AH):=
 match args with
 |[.pointer (some ⟨s,o,none⟩),p]=>match o with
  |0=>match σ.get s with
   |some (.cells c ty true)=>match Nat.beq c.n 8,Row.from c 0 8 with
    |true,some [t,a, .int .i64 (.ofNat 1),old,new,put,XB,wr]=>match DA 10 σ p with
     |some e=>match lE e with
      |some m=>match Ia (Qb 3 t) (Ia (Qb 3 a) (Ia (Qb 7 old) (Ia (Qb 7 new) (VA (isLit 3 0 wr) (match known F (mk F 280 [a,rb 0])with|some b=>Pg b|none=>false))))),Jj F m with
       |true,true=>match mk F tg [new]with
        |sn=>match Qb 7 sn,known F (mk F mq [m,a,old])with
         |true,some b=>
          let m':=sy Vj [m,t,a,old,sn]
          match b with
          |true=>σ.Dd (Ij p) (some (.gh (sy xp [m']))) fun σ1=>Row.nil.ext [t,a,rb 2,old,new,tt,mk F EI [m'],mk F uX [m',a]] fun c2=>σ1.Dd s (some (.cells c2 ty true)) fun σ2=>some (undef,σ2)
          |false=>σ.Dd (Ij p) (some (.gh (sy xp [m']))) fun σ1=>Row.nil.ext [t,a,rb 0,old,new,put,XB,wr] fun c2=>σ1.Dd s (some (.cells c2 ty true)) fun σ2=>some (undef,σ2)
         |_,_=>none
       |_,_=>none
      |none=>none
     |none=>none
    |_,_=>none
   |_=>none
  |_=>none
 |_=>none
def AX(e:Value)(o:Nat)(ty:TypeId):Option Value:=
 match lE e with
 |some m=>match Ia (Nat.beq o 2) (Ia (Ml 10 e) (Nat.beq ty 3))with|true=>some (sy EI [m])|false=>none
 |none=>none
def R4(k j c:Nat):Value:=
 match k with
 |3=>match c with
  |0=>sy 280 [vr 3 j,rb 0]
  |1=>sy 264 [vr 3 j,rb (-1)]
  |2=>sy 280 [sy 19 [vr 3 j,rb 1],rb 0]
  |3=>sy 280 [vr 3 j,sy Lh [vr 11 1,rb 0]]
  |4=>sy 264 [sy 19 [vr 3 j,rb 1],sy Lh [vr 11 1,rb 0]]
  |5=>sy 280 [sy 19 [vr 3 j,rb 1],sy Lh [vr 11 1,rb 0]]
  |6=>sy 280 [vr 3 j,sy Lh [vr 11 1,rb 2]]
  |7=>sy 264 [sy 19 [vr 3 j,rb 1],sy Lh [vr 11 1,rb 2]]
  |_=>sy 280 [sy 19 [vr 3 j,rb 1],sy Lh [vr 11 1,rb 2]]
 |7=>match c with
  |0=>sy Sg [vr 7 j]
  |1=>sy 264 [sy LL [vr 7 j],rb (-1)]
  |_=>sy 264 [sy GQ [vr 7 j],rb (-1)]
 |_=>tt
inductive Tok where
 |o
 |x(i:Nat)
 |i(n:Nat)
 |m
 |w(n:Nat)
 |u(n:Nat)
 |t
 |f
 |p(b:Nat)
 |z
 |k(n:Nat)
 |e(v:Value)
def Tok.val(ks:List Nat):Tok->Option Value
 | .o=>none
 | .x j=>match Qf ks j with|some q=>some (vr q j)|none=>none
 | .i n=>some (rb (.ofNat n))
 | .m=>some (rb (.negSucc 0))
 | .w n=>some (Zh n)
 | .u n=>some (.int .u32 (.ofNat n))
 | .t=>some tt
 | .f=>some ff
 | .p j=>some (.pointer (some ⟨j,0,none⟩))
 | .z=>some (.pointer none)
 | .k j=>some (sy Lh [vr 11 1,rb (.ofNat j)])
 | .e y=>some y
def CT(ks:List Nat):List Tok->List (Option Value)
 |[]=>[]
 |x::xs=>x.val ks::CT ks xs
def BX(c:Nat):Option (List (Value×Value)->List Value->AH->Option (Value×AH)):=
 match c with
 |1=>some (Zb LL [7])|2=>some (Zb GQ [7])|3=>some (Zb Wm [7])|4=>some (Zb CI [7])|5=>some (Zb DI [7])
 |6=>some (Zb iE [7])|7=>some (Zb Sw [7])|8=>some (Zb Sg [7])|9=>some (Zb Tg [7])|10=>some (Zb tg [7])
 |11=>some (Zb mo [3,3])|12=>some (Zb vp [3,3])|13=>some (Zb TB [3,6])|14=>some (Zb gm [3,8,6])
 |15=>some (gv 5)|16=>some (gv 6)|17=>some (gv 7)|18=>some (LQ 8)|19=>some (gv 9)|20=>some (gv 10)|21=>some (gv 11)|22=>some (gv 12)|23=>some (gv 13)
 |24=>some (gv 16)|25=>some (gv 17)|26=>some MQ|27=>some oAt
 |28=>some sG|29=>some iz|30=>some tG|31=>some jz|32=>some kz|33=>some lz|34=>some Mq|35=>some oDo|36=>some NQ|37=>some oHd
 |_=>none
def CX:Tr Nat:=(.node (.node (.node (.node (.node (.node (.node (.node .nil (some 14) .nil) none .nil) none (.node .nil none (.node .nil (some 18) .nil))) none (.node .nil (some 35) .nil)) none (.node .nil none (.node (.node .nil none (.node (.node .nil (some 19) .nil) none .nil)) none .nil))) none (.node (.node (.node (.node (.node .nil (some 2) .nil) (some 32) .nil) none .nil) none (.node (.node .nil (some 27) (.node .nil (some 22) .nil)) none (.node .nil none (.node .nil (some 1) .nil)))) none (.node (.node (.node (.node (.node .nil (some 15) .nil) none .nil) none .nil) none .nil) none (.node (.node (.node .nil (some 14) .nil) none .nil) none (.node .nil none (.node .nil (some 9) .nil)))))) none (.node (.node (.node (.node (.node .nil (some 30) .nil) none (.node (.node (.node .nil (some 13) .nil) (some 11) .nil) none .nil)) none .nil) none (.node .nil none (.node (.node (.node (.node .nil (some 8) .nil) (some 7) .nil) none (.node .nil (some 9) .nil)) none (.node (.node .nil (some 37) .nil) none (.node .nil (some 12) .nil))))) none (.node (.node (.node (.node (.node .nil (some 21) .nil) none .nil) none (.node (.node (.node .nil (some 3) .nil) none .nil) none .nil)) none (.node (.node .nil none (.node (.node .nil (some 20) .nil) none .nil)) none (.node (.node (.node .nil (some 4) .nil) none .nil) none .nil))) none (.node (.node .nil none (.node (.node (.node .nil (some 13) .nil) none .nil) none (.node .nil (some 34) .nil))) none .nil)))) none (.node (.node (.node (.node (.node (.node (.node .nil (some 6) .nil) (some 28) .nil) none (.node (.node (.node .nil (some 25) .nil) none .nil) none (.node .nil (some 12) .nil))) none (.node .nil none (.node .nil none (.node .nil (some 26) .nil)))) none (.node (.node (.node .nil (some 33) .nil) none .nil) none (.node .nil none (.node .nil (some 1) .nil)))) none (.node (.node (.node (.node (.node .nil (some 5) .nil) none .nil) none (.node (.node (.node .nil (some 10) .nil) none .nil) none .nil)) none (.node (.node .nil (some 11) (.node .nil (some 23) .nil)) none (.node (.node (.node .nil (some 3) .nil) none .nil) none (.node .nil (some 36) .nil)))) none (.node (.node .nil none (.node .nil none (.node .nil (some 10) .nil))) none (.node (.node (.node .nil (some 6) .nil) none .nil) none (.node .nil (some 17) (.node .nil (some 8) .nil)))))) none (.node (.node (.node (.node (.node .nil (some 31) .nil) none .nil) none .nil) none .nil) none (.node (.node (.node (.node (.node .nil (some 7) .nil) none .nil) none .nil) none (.node (.node (.node .nil (some 2) .nil) none .nil) none (.node (.node .nil (some 24) .nil) none .nil))) none (.node (.node .nil (some 29) (.node (.node (.node .nil (some 4) .nil) none .nil) none .nil)) none (.node .nil none (.node .nil (some 16) .nil)))))))
def OQ(f:FuncId):Option (List (Value×Value)->List Value->AH->Option (Value×AH)):=match CX.get f with|some c=>BX c|none=>none
end
noncomputable section
inductive Cb where
 |c(e:TypeId)(full:Bool)(l:List Tok)
 |g(v:Value)
def Cb.obj(ks:List Nat):Cb->yh
 | .c e full l=> .cells (CT ks l) e full
 | .g v=> .gh v
def DT(ks:List Nat):List Cb->List yh
 |[]=>[]
 |t::ts=>t.obj ks::DT ks ts
def S4:Nat->Value
 |0=>ff
 |_+1=>tt
def mE(ks:List Nat):List (Nat×Nat×Nat)->List (Value×Value)
 |[]=>[]
 |q::qs=>match Qf ks q.1 with
  |some k=>(R4 k q.1 q.2.1,S4 q.2.2)::mE ks qs
  |none=>mE ks qs
structure Ua where
 ks:List Nat
 se:List Cb
 fs:List (Nat×Nat×Nat)
def Ua.shape(s:Ua):Shape:=⟨DT s.ks s.se,mE s.ks s.fs,s.ks,2⟩
def Se:List Ua->List Shape
 |[]=>[]
 |s::ss=>s.shape::Se ss
def Hv:List (Value×Value):=[(sy 280 [sy EI [vr 9 0],rb 999000],tt),(sy 280 [sy V1 [vr 9 0],rb 999000],tt),(sy 280 [rb 0,sy Lh [vr 11 1,rb 0]],tt),(sy 280 [rb 0,sy Lh [vr 11 1,rb 1]],tt),(sy 280 [rb 0,sy Lh [vr 11 1,rb 2]],tt),(sy 280 [rb 0,sy Lh [vr 11 1,rb 3]],tt)]
def mz(F:List (Value×Value)):List (Value×Value)->List (Value×Value)
 |[]=>F
 |p::ps=>p::mz F ps
def DX(E0:Env)(n:Nat)(cs:List (FuncId×List Value))(post:Shape->List Value->Bd->Bool)(tab:List Ua)(roots:Nat)(S:Ua)(t:Tree):Bool:=
 match S.shape with
 |⟨se,facts,_,_⟩=>ez E0 n cs post (Se tab) roots (OB se) t (mz facts Hv)
end
end Sk
end Go.Proofs.YtfnkmolffhfpoaaGreat
