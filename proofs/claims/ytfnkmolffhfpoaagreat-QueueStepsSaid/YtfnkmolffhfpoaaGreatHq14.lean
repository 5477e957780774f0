/- -/
import Derived.Test.YtfnkmolffhfpoaaGreatHq13
set_option linter.unusedVariables false
namespace Go.Proofs.YtfnkmolffhfpoaaGreat
namespace Sk
noncomputable section
def DP:=1027
def jV:=1043
def Np:=1059
def pM:=1078
def qM:=1094
def hH:=1107
def Hz:=1128
def Fh:=1144
def Hh:=1159
def Rg:=1175
def Mq:=1191
def Bs:=1207
def nE:=1223
def Vo:=1239
def wX:=1283
def Yh:=1299
def Ft:=1447
def Gt:=1464
def rM:=1475
def N7:=1491
def tIs:=1528
def tWm:=1539
def kV:=1560
def lV:=1576
def oE:=25
def qw:=41
def cm:=57
def tw:=73
def uw:=89
def Cs:=330
def isT(t:Nat)(v:Value):Bool:=
 match v with
 | .func (.methodOf u _) _ _=>Nat.beq t u
 |_=>false
def Nf(t:Nat)(v:Value):Option (List Value):=
 match v with
 | .func (.methodOf u _) ⟨l⟩ _=>match Nat.beq t u with|true=>some l|false=>none
 |_=>none
def sM(v:Value):Option Nat:=
 match v with
 | .int _ (.ofNat n)=>some n
 |_=>none
def isLit(k:Nat)(n:Int)(v:Value):Bool:=
 match v with
 | .int q m=>match Nat.beq (jc q) k with|true=>Pg m n|false=>false
 |_=>false
def known(F:List (Value×Value))(c:Value):Option Bool:=
 match ct F c with
 | .bool b=>some b
 |_=>none
def Zi(n:Nat):Value:= .int .u64 (.ofNat n)
def Fb(n:Int):Value:= .int .i64 n
def tt:Value:= .bool true
def ff:Value:= .bool false
def neq(F:List (Value×Value))(c:Value):Value:=
 match ct F c with
 | .bool b=> .bool (Qh b)
 |v=>sy 296 [v]
def vw(v:Value):Bool:=
 match Nf wX v with
 |some [_,k,a,b]=>match sM k with|some n=>Ra (Nat.ble n 13) (Ra (qc 3 a) (qc 3 b))|none=>false
 |_=>false
def Hy(k:Nat)(v:Value):Bool:=
 match v with
 | .func (.methodOf t _) _ _=>Nat.beq (Nat.mod t 16) k
 |_=>false
def mV(x:Value)(b:Int):Option Value:=
 match Nf 19 x with
 |some [y, .int .i64 a]=>match Hy 3 y with
  |true=>match Int.add a b with
   | .ofNat 0=>some y
   |c=>match Pg (Mo .i64 c) c with|true=>some (sy 19 [y, .int .i64 c])|false=>none
  |false=>none
 |_=>none
def O7(x:Value):Option Value:=
 match Nf 199 x with
 |some [w,y]=>match Ra (Hy 7 w) (isLit 7 4294967296 y)with|true=>some (sy qM [w])|false=>none
 |_=>match Hy 7 x with|true=>some (sy qM [x])|false=>none
def P7(x:Value):Option Value:=
 match Nf 19 x with
 |some [y, .int .i64 (.ofNat n)]=>match Ra (Hy 3 y) (Nat.ble n 1000000)with|true=>some (sy 23 [sy 167 [y],Zi n])|false=>none
 |_=>none
def iH(F:List (Value×Value))(x:Value):Option Value:=
 match Ra (Hy 7 x) (match known F (sy Fh [x])with|some b=>Qh b|none=>false)with
 |true=>some x
 |false=>match Nf Hh x with
  |some [w]=>(match Hy 7 w with|true=>some x|false=>none)
  |_=>none
def jH(x:Value):Option Value:=
 match Nf Hh x with
 |some [w]=>(match Hy 7 w with|true=>some ff|false=>none)
 |_=>none
def EP(F:List (Value×Value))(x:Value):Option Value:=
 match Nf Hh x with
 |some [w]=>match Hy 7 w with
  |true=>match known F (sy Fh [w])with
   |some true=>some w
   |_=>some (sy Rg [w])
  |false=>none
 |_=>none
def Iz(z:Value):List (Value×Value)->Bool
 |[]=>false
 |p::ps=>match Nf 280 p.1,p.2 with
  |some [u,v], .bool true=>match Ra (Hy 3 v) (Lf 60 u z)with|true=>true|false=>Iz z ps
  |_,_=>Iz z ps
def pE(z:Value)(n:Nat):Value:=match n with|0=>z|m+1=>sy 19 [z,Fb (.ofNat (Nat.succ m))]
def Q7(F:List (Value×Value))(x:Value):Option Value:=
 match mD (isT DP x) (mD (isT jV x) (isT Np x))with
 |true=>match x with
  | .func (.methodOf _ _) ⟨[w]⟩ _=>match Hy 7 w with|true=>some (sy 264 [x,Fb (-1)])|false=>none
  |_=>none
 |false=>match vw x with
  |true=>some ff
  |false=>match Nf 19 x with
   |some [z, .int .i64 (.ofNat (n+1))]=>match Ra (Hy 3 z) (Nat.ble n 1000000)with
    |true=>match known F (sy 280 [pE z n,Fb 0]),Iz (pE z n) F with
     |some false,true=>some ff
     |_,_=>none
    |false=>none
   |_=>none
def rLt(F:List (Value×Value))(x y:Value):Option Value:=
 match isLit 3 0 y with
 |true=>Q7 F x
 |false=>match Hy 3 y with
  |false=>none
  |true=>match x with
   | .int .i64 (.ofNat (n+1))=>match Nat.ble n 1000000,known F (sy 280 [Fb (.ofNat n),y])with
     |true,some true=>some (neq F (sy 264 [y,x]))
     |_,_=>none
   |_=>match Nf 19 x with
    |some [z, .int .i64 (.ofNat (n+1))]=>match Ra (Hy 3 z) (Nat.ble n 1000000),known F (sy 280 [pE z n,y])with
     |true,some true=>some (neq F (sy 264 [x,y]))
     |_,_=>none
    |_=>none
def Es(x:Value)(m:Int):List (Value×Value)->Option Value
 |[]=>none
 |p::ps=>match Nf 264 p.1,p.2 with
  |some [u, .int _ n], .bool true=>match Lf 60 u x with|true=>some (.bool (Pg n m))|false=>Es x m ps
  |_,_=>Es x m ps
def yJ(F:List (Value×Value))(x:Value)(m:Int):Option Value:=
 match m with
 | .negSucc _=>match Hy 3 x,known F (sy 280 [x,Fb 0])with
   |true,some false=>some ff
   |_,_=>match vw x with|true=>some ff|false=>none
 |_=>none
def rEq(F:List (Value×Value))(x y:Value):Option Value:=
 match y with
 | .int q m=>match Es x m F with
   |some v=>some v
   |none=>match q with
    | .i64=>match Nf 19 x with
      |some [z, .int .i64 a]=>match Hy 3 z with
       |true=>match Ra (Pg (Mo .i64 m) m) (Pg (Mo .i64 (Int.sub m a)) (Int.sub m a))with
        |true=>some (match yJ F z (Int.sub m a)with|some v=>v|none=>sy 264 [z,Fb (Int.sub m a)])
        |false=>none
       |false=>none
      |_=>yJ F x m
    |_=>none
 |_=>none
def S7(x y:Value):Option Value:=
 match y with
 | .int .i64 (.ofNat (n+1))=>match Ra (Hy 3 x) (Nat.ble n 1000000)with
   |true=>some (match mV x (.negSucc n)with|some v=>v|none=>sy 19 [x,Fb (.negSucc n)])
   |false=>none
 |_=>none
def FP(x y:Value):Option Value:=
 match Nf DP x with
 |some [w]=>match Hy 7 w with
  |true=>match isLit 3 (-1) y with
   |true=>some (sy 199 [w,Zi 4294967296])
   |false=>match qc 3 y with
    |true=>some (sy 23 [sy 199 [w,Zi 4294967296],sy Mq [Fb (-1),y]])
    |false=>none
  |false=>none
 |_=>none
def T7(x y:Value):Option Value:=
 match Nf DP x with
 |some [w]=>match Ra (Hy 7 w) (isLit 6 0 y)with
  |true=>some (sy 199 [w,Zi 4294967296])
  |false=>none
 |_=>none
def GP(x y z:Value):Option Value:=
 match Nf hH x with
 |some [w]=>match Nf Vo w with
  |some [q,a,b]=>match Ra (Ra (qc 8 y) (qc 6 z)) (Ra (qc 3 q) (Ra (qc 8 a) (qc 6 b)))with|true=>some (sy Vo [q,y,z])|false=>none
  |_=>none
 |_=>none
def IP(t:Nat)(l:List Value):Option Value:=
 match l with
 |[.int k a]=>match k,a with
  | .u64, .ofNat n=>match Nat.beq t DP with
    |true=>some (.int .i64 (Int.sub (.ofNat (Nat.mod n 4294967296)) (.ofNat 1)))
    |false=>match Nat.beq t jV with
     |true=>some (.int .i64 (Int.sub (.ofNat (Nat.mod (Nat.div n 4294967296) 128)) (.ofNat 1)))
     |false=>match Nat.beq t Fh with
      |true=>some (.bool (Nat.beq (Nat.div n 9223372036854775808) 1))
      |false=>match Nat.beq t Hh with
       |true=>some (.int .u64 (.ofNat (Nat.mod n 9223372036854775808)))
       |false=>none
  |_,_=>none
 |[.int k a, .int k' b]=>match Nat.beq (jc k) (jc k')with
  |true=>match Nat.beq t 280 with
   |true=>some (.bool (Qh (fO b a)))
   |false=>match Nat.beq t 264 with
    |true=>some (.bool (Pg a b))
    |false=>match Nat.beq t (Nat.add 16 (jc k))with
     |true=>some (.int k (Mo k (Int.add a b)))
     |false=>none
  |false=>none
 |_=>none
def JP(F:List (Value×Value))(t:Nat)(l:List Value):Option Value:=
 match l with
 |[x]=>match Nat.beq t 166 with
  |true=>O7 x
  |false=>match Nat.beq t 167 with
   |true=>P7 x
   |false=>match Nat.beq t Hh with
    |true=>iH F x
    |false=>match Nat.beq t Fh with
     |true=>jH x
     |false=>match Nat.beq t Rg with|true=>EP F x|false=>none
 |[x,y]=>match Nat.beq t 280 with
  |true=>rLt F x y
  |false=>match Nat.beq t 264 with
   |true=>rEq F x y
   |false=>match Nat.beq t 19 with
    |true=>match y with| .int .i64 b=>mV x b|_=>none
    |false=>match Nat.beq t 35 with
     |true=>S7 x y
     |false=>match Nat.beq t Mq with
      |true=>FP x y
      |false=>match Nat.beq t nE with|true=>T7 x y|false=>none
 |[x,y,z]=>match Nat.beq t Vo with
  |true=>GP x y z
  |false=>none
 |_=>none
def qE(F:List (Value×Value))(v:Value):Value:=
 match v with
 | .func (.methodOf t _) ⟨l⟩ _=>match IP t l with
   |some u=>u
   |none=>match JP F t l with
    |some u=>match Gf u with|some _=>u|none=>v
    |none=>v
 |_=>v
def mk(F:List (Value×Value))(t:Nat)(l:List Value):Value:=ct F (qE F (sy t l))
def Ll:List Nat->List Value->Bool
 |[],[]=>true
 |k::ks,v::vs=>match qc k v with|true=>Ll ks vs|false=>false
 |_,_=>false
def xX:List Value->Bool
 |[]=>false
 |v::vs=>match Am v with|true=>true|false=>xX vs
def tc(t:Nat)(ks:List Nat)(F:List (Value×Value))(args:List Value)(σ:AH):Option (Value×AH):=
 match xX args,Ll ks args with
 |true,true=>some (mk F t args,σ)
 |_,_=>none
def rE(k:Nat)(σ:AH)(v:Value):Option Value:=
 match v with
 | .pointer (some ⟨b,o,none⟩)=>match o with
   |0=>match σ.get b with
    |some (.gh e)=>match Eo k e with|true=>some e|false=>none
    |_=>none
   |_=>none
 |_=>none
def Bm(v:Value):Nat:=
 match v with
 | .pointer (some a)=>a.block
 |_=>Nat.zero
def oy(kind:Nat)(F:List (Value×Value))(args:List Value)(σ:AH):Option (Value×AH):=
 match args with
 |[p,a]=>match rE 11 σ p,qc 3 a with
  |some e,true=>some (mk F wX [e,Fb (.ofNat kind),a,Fb 0],σ)
  |_,_=>none
 |_=>none
def nV(kind:Nat)(F:List (Value×Value))(args:List Value)(σ:AH):Option (Value×AH):=
 match args with
 |[p,a,b]=>match rE 11 σ p,qc 3 a,qc 3 b with
  |some e,true,true=>some (mk F wX [e,Fb (.ofNat kind),a,b],σ)
  |_,_,_=>none
 |_=>none
def kH(e:Value):List Value:=[sy Yh [e,Fb 0],sy Yh [e,Fb 1],sy Yh [e,Fb 2],sy Yh [e,Fb 3]]
def oV(F:List (Value×Value))(args:List Value)(σ:AH):Option (Value×AH):=
 match args with
 |[p]=>match rE 11 σ p with
  |some e=>some (.agg ⟨kH e⟩,σ)
  |none=>none
 |_=>none
def oAt(F:List (Value×Value))(args:List Value)(σ:AH):Option (Value×AH):=
 match args with
 |[.agg ⟨c⟩, .agg ⟨[k,a,b]⟩]=>match c with
  |c0::cs=>match Nf Yh c0 with
   |some [e,_]=>match Eo 11 e,Jm 60 (c0::cs) (kH e),sM k with
    |true,true,some n=>match Ra (qc 3 k) (Ra (qc 3 a) (Ra (qc 3 b) (Ra (Nat.ble 2 n) (Nat.ble n 17))))with
     |true=>match Nat.ble n 4 with
      |true=>match Ra (isLit 3 0 a) (isLit 3 0 b)with|true=>some (Fb (.ofNat (Nat.mul 8 n)),σ)|false=>none
      |false=>match mD (Nat.beq n 14) (Nat.beq n 15)with|true=>none|false=>some (mk F wX [e,Fb (.ofNat n),a,b],σ)
     |false=>none
    |_,_,_=>none
   |_=>none
  |[]=>none
 |_=>none
def deep:Nat->Value->Option (Nat×Value)
 |0,_=>none
 |d+1,e=>match e with
  | .func (.methodOf t _) ⟨l⟩ _=>match Nat.beq t 9 with
    |true=>some (0,e)
    |false=>match mD (Nat.beq t oE) (mD (Nat.beq t qw) (mD (Nat.beq t cm) (mD (Nat.beq t tw) (Nat.beq t uw)))),l with
     |true,x::_=>match deep d x with|some (n,r)=>some (Nat.succ n,r)|none=>none
     |_,_=>none
  |_=>none
def Ml(F:List (Value×Value))(e:Value):Bool:=
 match deep 30 e with
 |some (_,r)=>match known F (sy 280 [sy rM [r],Fb 999000]),known F (sy 280 [sy tWm [r],Fb 999000])with
  |some true,some true=>true
  |_,_=>false
 |none=>false
def zJ(F:List (Value×Value))(args:List Value)(σ:AH):Option (Value×AH):=
 match args with
 |[p,t,a]=>match rE 9 σ p,qc 3 t,qc 3 a with
  |some e,true,true=>match Ml F e with
   |true=>some (mk F Ft [e,a],σ.Qd (Bm p) (some (.gh (sy oE [e,t,a]))) id)
   |false=>none
  |_,_,_=>none
 |_=>none
def NB(F:List (Value×Value))(args:List Value)(σ:AH):Option (Value×AH):=
 match args with
 |[p,t,a,x]=>match rE 9 σ p,qc 3 t,qc 3 a,qc 7 x with
  |some e,true,true,true=>match Ml F e with
   |true=>some (undef,σ.Qd (Bm p) (some (.gh (sy qw [e,t,a,x]))) id)
   |false=>none
  |_,_,_,_=>none
 |_=>none
def AJ(F:List (Value×Value))(args:List Value)(σ:AH):Option (Value×AH):=
 match args with
 |[p,t,a,o,x]=>match rE 9 σ p,qc 3 t,qc 3 a,qc 7 o,qc 7 x with
  |some e,true,true,true,true=>match Ml F e with
   |true=>some (mk F Gt [e,a,o],σ.Qd (Bm p) (some (.gh (sy cm [e,t,a,o,x]))) id)
   |false=>none
  |_,_,_,_,_=>none
 |_=>none
def OB(F:List (Value×Value))(args:List Value)(σ:AH):Option (Value×AH):=
 match args with
 |[p,t,a]=>match rE 9 σ p,qc 3 t,qc 3 a with
  |some e,true,true=>match Ml F e with
   |true=>some (undef,σ.Qd (Bm p) (some (.gh (sy tw [e,t,a]))) id)
   |false=>none
  |_,_,_=>none
 |_=>none
def PB(F:List (Value×Value))(args:List Value)(σ:AH):Option (Value×AH):=
 match args with
 |[p,t]=>match rE 9 σ p,qc 3 t with
  |some e,true=>match Ml F e with
   |true=>some (undef,σ.Qd (Bm p) (some (.gh (sy uw [e,t]))) id)
   |false=>none
  |_,_=>none
 |_=>none
def QB(F:List (Value×Value))(args:List Value)(σ:AH):Option (Value×AH):=
 match args with
 |[p]=>match rE 9 σ p with
  |some e=>some (mk F rM [e],σ)
  |none=>none
 |_=>none
def Eu(F:List (Value×Value))(args:List Value)(σ:AH):Option (Value×AH):=
 match args with
 |[p,a]=>match rE 9 σ p,qc 3 a with
  |some e,true=>some (mk F N7 [e,a],σ)
  |_,_=>none
 |_=>none
def RB(e:Value):Option Value:=
 match Nf Cs e with
 |some [m]=>(match Eo 9 m with|true=>some m|false=>none)
 |_=>none
def oDo(F:List (Value×Value))(args:List Value)(σ:AH):Option (Value×AH):=
 match args with
 |[p,k,t,a,o,x]=>match rE 10 σ p with
  |some e=>match RB e,sM k with
   |some m,some n=>match Ra (qc 3 k) (Ra (qc 3 t) (Ra (qc 3 a) (Ra (qc 7 o) (qc 7 x)))),Ml F m with
    |true,true=>match n with
     |1=>some (.agg ⟨[k,t,a,mk F Ft [m,a],Zi 0,mk F tIs [m,a]]⟩,σ.Qd (Bm p) (some (.gh (sy Cs [sy oE [m,t,a]]))) id)
     |2=>some (.agg ⟨[k,t,a,mk F Ft [m,a],x,mk F tIs [m,a]]⟩,σ.Qd (Bm p) (some (.gh (sy Cs [sy qw [m,t,a,x]]))) id)
     |3=>some (.agg ⟨[k,t,a,mk F Ft [m,a],x,mk F Gt [m,a,o]]⟩,σ.Qd (Bm p) (some (.gh (sy Cs [sy cm [m,t,a,o,x]]))) id)
     |4=>some (.agg ⟨[k,t,a,Zi 0,Zi 0,mk F kV [m,t,a]]⟩,σ.Qd (Bm p) (some (.gh (sy Cs [sy tw [m,t,a]]))) id)
     |5=>some (.agg ⟨[k,t,Fb 0,Zi 0,Zi 0,mk F lV [m,t]]⟩,σ.Qd (Bm p) (some (.gh (sy Cs [sy uw [m,t]]))) id)
     |_=>none
    |_,_=>none
   |_,_=>none
  |none=>none
 |_=>none
def rV(F:List (Value×Value))(args:List Value)(σ:AH):Option (Value×AH):=
 match args with
 |[.pointer (some ⟨s,o,none⟩),p]=>match o with
  |0=>match σ.get s with
   |some (.cells c ty true)=>match Nat.beq c.n 8,Row.from c 0 8 with
    |true,some [t,a, .int .i64 (.ofNat 1),old,new,put,Sg,wr]=>match rE 10 σ p with
     |some e=>match RB e with
      |some m=>match Ra (qc 3 t) (Ra (qc 3 a) (Ra (qc 7 old) (Ra (qc 7 new) (mD (isLit 3 0 wr) (match known F (mk F 280 [a,Fb 0])with|some b=>Qh b|none=>false))))),Ml F m with
       |true,true=>match mk F Rg [new]with
        |sn=>match qc 7 sn,known F (mk F Gt [m,a,old])with
         |true,some b=>
          let m':=sy cm [m,t,a,old,sn]
          match b with
          |true=>σ.Qd (Bm p) (some (.gh (sy Cs [m']))) fun σ1=>Row.nil.ext [t,a,Fb 2,old,new,tt,mk F rM [m'],mk F N7 [m',a]] fun c2=>σ1.Qd s (some (.cells c2 ty true)) fun σ2=>some (undef,σ2)
          |false=>σ.Qd (Bm p) (some (.gh (sy Cs [m']))) fun σ1=>Row.nil.ext [t,a,Fb 0,old,new,put,Sg,wr] fun c2=>σ1.Qd s (some (.cells c2 ty true)) fun σ2=>some (undef,σ2)
         |_,_=>none
       |_,_=>none
      |none=>none
     |none=>none
    |_,_=>none
   |_=>none
  |_=>none
 |_=>none
def U7(e:Value)(o:Nat)(ty:TypeId):Option Value:=
 match RB e with
 |some m=>match Ra (Nat.beq o 2) (Ra (Eo 10 e) (Nat.beq ty 3))with|true=>some (sy rM [m])|false=>none
 |none=>none
def Cad(k j c:Nat):Value:=
 match k with
 |3=>match c with
  |0=>sy 280 [vr 3 j,Fb 0]
  |1=>sy 264 [vr 3 j,Fb (-1)]
  |2=>sy 280 [sy 19 [vr 3 j,Fb 1],Fb 0]
  |3=>sy 280 [vr 3 j,sy Yh [vr 11 1,Fb 0]]
  |4=>sy 264 [sy 19 [vr 3 j,Fb 1],sy Yh [vr 11 1,Fb 0]]
  |5=>sy 280 [sy 19 [vr 3 j,Fb 1],sy Yh [vr 11 1,Fb 0]]
  |6=>sy 280 [vr 3 j,sy Yh [vr 11 1,Fb 2]]
  |7=>sy 264 [sy 19 [vr 3 j,Fb 1],sy Yh [vr 11 1,Fb 2]]
  |_=>sy 280 [sy 19 [vr 3 j,Fb 1],sy Yh [vr 11 1,Fb 2]]
 |7=>match c with
  |0=>sy Fh [vr 7 j]
  |1=>sy 264 [sy DP [vr 7 j],Fb (-1)]
  |_=>sy 264 [sy jV [vr 7 j],Fb (-1)]
 |_=>tt
inductive Tok where
 |o
 |x(i:Nat)
 |i(n:Nat)
 |m
 |w(n:Nat)
 |u(n:Nat)
 |t
 |f
 |p(b:Nat)
 |z
 |k(n:Nat)
 |e(v:Value)
def Tok.val(ks:List Nat):Tok->Option Value
 | .o=>none
 | .x j=>match Rf ks j with|some q=>some (vr q j)|none=>none
 | .i n=>some (Fb (.ofNat n))
 | .m=>some (Fb (.negSucc 0))
 | .w n=>some (Zi n)
 | .u n=>some (.int .u32 (.ofNat n))
 | .t=>some tt
 | .f=>some ff
 | .p j=>some (.pointer (some ⟨j,0,none⟩))
 | .z=>some (.pointer none)
 | .k j=>some (sy Yh [vr 11 1,Fb (.ofNat j)])
 | .e y=>some y
def yX(ks:List Nat):List Tok->List (Option Value)
 |[]=>[]
 |x::xs=>x.val ks::yX ks xs
def V7(c:Nat):Option (List (Value×Value)->List Value->AH->Option (Value×AH)):=
 match c with
 |1=>some (tc DP [7])|2=>some (tc jV [7])|3=>some (tc Np [7])|4=>some (tc pM [7])|5=>some (tc qM [7])
 |6=>some (tc hH [7])|7=>some (tc Hz [7])|8=>some (tc Fh [7])|9=>some (tc Hh [7])|10=>some (tc Rg [7])
 |11=>some (tc Mq [3,3])|12=>some (tc Bs [3,3])|13=>some (tc nE [3,6])|14=>some (tc Vo [3,8,6])
 |15=>some (oy 5)|16=>some (oy 6)|17=>some (oy 7)|18=>some (nV 8)|19=>some (oy 9)|20=>some (oy 10)|21=>some (oy 11)|22=>some (oy 12)|23=>some (oy 13)
 |24=>some (oy 16)|25=>some (oy 17)|26=>some oV|27=>some oAt
 |28=>some zJ|29=>some NB|30=>some AJ|31=>some OB|32=>some PB|33=>some QB|34=>some Eu|35=>some oDo|36=>some rV
 |_=>none
def W7:Tr Nat:=(.node (.node (.node (.node (.node (.node (.node (.node .nil (some 14) .nil) none .nil) none (.node .nil none (.node .nil (some 18) .nil))) none (.node .nil (some 35) .nil)) none (.node .nil none (.node (.node .nil none (.node (.node .nil (some 19) .nil) none .nil)) none .nil))) none (.node (.node (.node (.node (.node .nil (some 2) .nil) (some 32) .nil) none .nil) none (.node (.node .nil (some 27) (.node .nil (some 22) .nil)) none (.node .nil none (.node .nil (some 1) .nil)))) none (.node (.node (.node (.node (.node .nil (some 15) .nil) none .nil) none .nil) none .nil) none (.node (.node (.node .nil (some 14) .nil) none .nil) none (.node .nil none (.node .nil (some 9) .nil)))))) none (.node (.node (.node (.node (.node .nil (some 30) .nil) none (.node (.node (.node .nil (some 13) .nil) (some 11) .nil) none .nil)) none .nil) none (.node .nil none (.node (.node (.node (.node .nil (some 8) .nil) (some 7) .nil) none (.node .nil (some 9) .nil)) none (.node .nil none (.node .nil (some 12) .nil))))) none (.node (.node (.node (.node (.node .nil (some 21) .nil) none .nil) none (.node (.node (.node .nil (some 3) .nil) none .nil) none .nil)) none (.node (.node .nil none (.node (.node .nil (some 20) .nil) none .nil)) none (.node (.node (.node .nil (some 4) .nil) none .nil) none .nil))) none (.node (.node .nil none (.node (.node (.node .nil (some 13) .nil) none .nil) none (.node .nil (some 34) .nil))) none .nil)))) none (.node (.node (.node (.node (.node (.node (.node .nil (some 6) .nil) (some 28) .nil) none (.node (.node (.node .nil (some 25) .nil) none .nil) none (.node .nil (some 12) .nil))) none (.node .nil none (.node .nil none (.node .nil (some 26) .nil)))) none (.node (.node (.node .nil (some 33) .nil) none .nil) none (.node .nil none (.node .nil (some 1) .nil)))) none (.node (.node (.node (.node (.node .nil (some 5) .nil) none .nil) none (.node (.node (.node .nil (some 10) .nil) none .nil) none .nil)) none (.node (.node .nil (some 11) (.node .nil (some 23) .nil)) none (.node (.node (.node .nil (some 3) .nil) none .nil) none (.node .nil (some 36) .nil)))) none (.node (.node .nil none (.node .nil none (.node .nil (some 10) .nil))) none (.node (.node (.node .nil (some 6) .nil) none .nil) none (.node .nil (some 17) (.node .nil (some 8) .nil)))))) none (.node (.node (.node (.node (.node .nil (some 31) .nil) none .nil) none .nil) none .nil) none (.node (.node (.node (.node (.node .nil (some 7) .nil) none .nil) none .nil) none (.node (.node (.node .nil (some 2) .nil) none .nil) none (.node (.node .nil (some 24) .nil) none .nil))) none (.node (.node .nil (some 29) (.node (.node (.node .nil (some 4) .nil) none .nil) none .nil)) none (.node .nil none (.node .nil (some 16) .nil)))))))
def sV(f:FuncId):Option (List (Value×Value)->List Value->AH->Option (Value×AH)):=match W7.get f with|some c=>V7 c|none=>none
end
noncomputable section
inductive Ga where
 |c(e:TypeId)(full:Bool)(l:List Tok)
 |g(v:Value)
def Ga.obj(ks:List Nat):Ga->dh
 | .c e full l=> .cells (yX ks l) e full
 | .g v=> .gh v
def zX(ks:List Nat):List Ga->List dh
 |[]=>[]
 |t::ts=>t.obj ks::zX ks ts
def Dad:Nat->Value
 |0=>ff
 |_+1=>tt
def lH(ks:List Nat):List (Nat×Nat×Nat)->List (Value×Value)
 |[]=>[]
 |q::qs=>match Rf ks q.1 with
  |some k=>(Cad k q.1 q.2.1,Dad q.2.2)::lH ks qs
  |none=>lH ks qs
structure Wa where
 ks:List Nat
 Yb:List Ga
 fs:List (Nat×Nat×Nat)
def Wa.shape(s:Wa):Shape:=⟨zX s.ks s.Yb,lH s.ks s.fs,s.ks,2⟩
def Ag:List Wa->List Shape
 |[]=>[]
 |s::ss=>s.shape::Ag ss
def ku:List (Value×Value):=[(sy 280 [sy rM [vr 9 0],Fb 999000],tt),(sy 280 [sy tWm [vr 9 0],Fb 999000],tt),(sy 280 [Fb 0,sy Yh [vr 11 1,Fb 0]],tt),(sy 280 [Fb 0,sy Yh [vr 11 1,Fb 1]],tt),(sy 280 [Fb 0,sy Yh [vr 11 1,Fb 2]],tt),(sy 280 [Fb 0,sy Yh [vr 11 1,Fb 3]],tt)]
def lu(F:List (Value×Value)):List (Value×Value)->List (Value×Value)
 |[]=>F
 |p::ps=>p::lu F ps
def tV(E0:Env)(n:Nat)(cs:List (FuncId×List Value))(post:Shape->List Value->Bd->Bool)(tab:List Wa)(roots:Nat)(S:Wa)(t:Tree):Bool:=
 match S.shape with
 |⟨Yb,facts,_,_⟩=>MB E0 n cs post (Ag tab) roots (Cu Yb) t (lu facts ku)
end
end Sk
end Go.Proofs.YtfnkmolffhfpoaaGreat
