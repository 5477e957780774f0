/- -/
import Derived.Test.YtfnkmolffhfpoaaGreatHq14
import Derived.Test.YtfnkmolffhfpoaaGreatHq20
import Derived.Test.YtfnkmolffhfpoaaGreatHq22
import Derived.Test.YtfnkmolffhfpoaaGreatHq21
import Derived.Test.YtfnkmolffhfpoaaGreatHq24
set_option linter.unusedVariables false
set_option linter.unusedSimpArgs false
set_option linter.unusedSectionVars false
namespace Go.Proofs.YtfnkmolffhfpoaaGreat
namespace Sk
open Go.RowKit
noncomputable section
inductive Gh where
 |mem(A:Rv)
 |ref(A:Rv)
 |lay(c:Nc)
def tQ:Rv:=⟨0,0,0,0,0,0,0,0,0,0,0,0,0,0,0,fun _=>0,fun _=>0,fun _=>0,fun _=>0,fun _=>0,fun _=>0,fun _ _=>false,0,0,⟨0,0,0,0,0,false⟩,0⟩
def Gh.A:Gh->Rv
 | .mem A=>A
 | .ref A=>A
 | .lay _=>tQ
def Gh.C:Gh->Nc
 | .lay c=>c
 |_=>⟨0,0,0,0⟩
def Dm:Qc Gh->Gh
 | .g g=>g
 | .v _=> .mem tQ
def bN(b:Bool):Int:=if b then 1 else 0
def Ci(c:Nc)(i:Int):Int:=if i=0 then c.th else if i=1 then c.sl else if i=2 then c.lo else c.bu
structure sk(c:Nc):Prop where
 RM:1<=c.th
 th:c.th<=64
 kQ:1<=c.sl
 sl:c.sl<=1000
 uU:1<=c.lo
 lo:c.lo<=64
 lQ:1<=c.bu
 bu:c.bu<=64
def gF(v:Lv)(k a b:Int):Int:=
 if k=8 then(if hasB b v.lo then v.word a v.th v.pl v.ls b else v.ln*8)
 else if b≠0 then v.ln*8
 else if k=5 then(if hasB a v.bu then 40+a else v.ln*8)
 else if k=6 then v.word a v.th v.pt 1 0
 else if k=7 then v.word a v.th v.pt 1 1
 else if k=16 then(if hasB a v.th then-3 -a else v.ln*8)
 else if k=17 then(if hasB a v.sl then-3 -v.th -a else v.ln*8)
 else if 9<=k/\k<=13 then v.slot a (k -9)else 0
open Classical in
def Pw(c:Nc)(k a b:Int):Int:=if sk c then gF c.lv k a b else 0
theorem sk.ok{c:Nc}(h:sk c):c.lv.Ok:=Nc.GX c ⟨h.RM,h.th,h.kQ,by have:=h.sl;omega,h.uU,h.lo,h.lQ,h.bu⟩
theorem Lu{v:Lv}(h:v.Ok){n many first size at_:Int}(hm:many<=65536)(f0:0<=first)(f1:first<=1000)(s0:0<=size)(s1:size<=8)(a0:0<=at_)(a1:at_<=100):0<=v.word n many first size at_/\v.word n many first size at_<=10000000:=by
 have l0:=h.mQ;have l1:=h.nQ;unfold Lv.word hasB
 split
 . rename_i hn;have hn:=of_decide_eq_true hn;have:=IH size n 8 65536 s0 s1 hn.1 (by omega)
   omega
 . omega
theorem uQ{v:Lv}(h:v.Ok){k a b:Int}(k1:k<=13):0<=gF v k a b/\gF v k a b<=10000000:=by
 obtain ⟨RM,tU,kQ,W8,uU,lo1,lQ,bu1,FX,pt1,X8,pl1,Y8,b9,c9,qU,mQ,nQ⟩:=h;have h:v.Ok:=⟨RM,tU,kQ,W8,uU,lo1,lQ,bu1,FX,pt1,X8,pl1,Y8,b9,c9,qU,mQ,nQ⟩;unfold gF
 split
 . split
   . rename_i hb;unfold hasB at hb;have hb:=of_decide_eq_true hb;exact Lu h (by omega) X8 (by omega) Y8 b9 (by omega) (by omega)
   . omega
 . split
   . omega
   . split
     . split
       . rename_i hb;unfold hasB at hb;have hb:=of_decide_eq_true hb;omega
       . omega
     . split
       . exact Lu h (by omega) FX (by omega) (by omega) (by omega) (by omega) (by omega)
       . split
         . exact Lu h (by omega) FX (by omega) (by omega) (by omega) (by omega) (by omega)
         . rw [if_neg (by omega),if_neg (by omega)]
           split
           . unfold Lv.slot;exact Lu h (by omega) c9 (by omega) (by omega) (by omega) (by omega) (by omega)
           . omega
theorem vQ(c:Nc){k a b:Int}(k1:k<=13):0<=Pw c k a b/\Pw c k a b<=10000000:=by
 unfold Pw
 split
 . rename_i h;exact uQ h.ok k1
 . omega
open Classical in
def Ho(c:Nc):Nc:=if sk c then c else⟨1,1,1,1⟩
theorem XJ(c:Nc):sk (Ho c):=by
 unfold Ho
 split
 . assumption
 . constructor<;>decide
theorem wQ{c:Nc}(h:sk c):Ho c=c:=by unfold Ho;rw [if_pos h]
def Rk(A:Rv)(a:Int):Int:=if 0<=a/\a/8<(A.n:Int)then A.wr (a/8).toNat else 0
def tax(op:Nat)(l:List (Qc Gh)):Int:=
 match op,l with
 |64,[x]=>KE (Ma x)
 |65,[x]=>MM (Ma x)
 |66,[x]=>yi (Ma x)
 |67,[x]=>Ry (Ma x)
 |68,[x]=>bQ (Ma x)
 |69,[x]=>ld 33 31 (Ma x)
 |70,[x]=>bN (ld 32 1 (Ma x)==1)
 |71,[x]=>bN (Pf (Ma x))
 |72,[x]=>Yd (Ma x)
 |73,[x]=>gb (Ma x)
 |74,[x,y]=>zi (Ma x) (Ma y)
 |75,[x,y]=>Ai (Ma x) (Ma y)
 |76,[x,y]=>su (Ma x) (Ma y)
 |77,[x,y,z]=>cellW (Ma x) (decide (Ma y≠0)) (Ma z)
 |80,[g,k,a,b]=>Pw (Dm g).C (Ma k) (Ma a) (Ma b)
 |81,[g,i]=>Ci (Dm g).C (Ma i)
 |90,[g,a]=>((Dm g).A.La (Ma a)).1
 |91,[g,a,o]=>bN (((Dm g).A.La (Ma a)).2&&((Dm g).A.La (Ma a)).1==Ma o)
 |92,[g]=>(Dm g).A.ck
 |93,[g,a]=>Rk (Dm g).A (Ma a)
 |95,[g,a]=>bN ((Dm g).A.La (Ma a)).2
 |96,[g]=>(Dm g).A.wm
 |97,[g,t,a]=>bN ((Dm g).A.Fa (Ma t) (Ma a)).la.dn
 |98,[g,t]=>bN ((Dm g).A.Ha (Ma t)).la.dn
 |_,_=>0
def Em(op:Nat)(l:List (Qc Gh)):Gh:=
 match op,l with
 |1,[g,t,a]=> .mem ((Dm g).A.load (Ma t) (Ma a))
 |2,[g,t,a,x]=> .mem ((Dm g).A.store (Ma t) (Ma a) (Ma x))
 |3,[g,t,a,o,x]=> .mem ((Dm g).A.swap (Ma t) (Ma a) (Ma o) (Ma x))
 |4,[g,t,a]=> .mem ((Dm g).A.Fa (Ma t) (Ma a))
 |5,[g,t]=> .mem ((Dm g).A.Ha (Ma t))
 |20,[g]=> .ref (Dm g).A
 |_,_=> .mem tQ
def tu(k:Nat)(g:Gh):Gh:=
 match k with
 |9=> .mem g.A
 |10=> .ref g.A
 |11=> .lay (Ho g.C)
 |_=>g
structure Wd(A:Rv):Prop where
 seen:∀k,Tc (A.seen k)
 kept:∀k,Tc (A.kept k)
 pass:∀k,Tc (A.pass k)
 Cm:0<=A.ck
 ck:A.ck<=2000000
 tO:0<=A.wm
 wm:A.wm<=2000000
structure Mb(R A:Rv):Prop where
 n:R.n=A.n
 nt:R.nt=A.nt
 np:R.np=A.np
 kept:R.kept=A.kept
 seen:R.seen=A.seen
 pass:R.pass=A.pass
 wr:R.wr=A.wr
 fl:R.fl=A.fl
 ck:R.ck=A.ck
 bd:R.bd=A.bd
 la:R.la=A.la
 wm:R.wm=A.wm
structure Ic(M:Mv)(A:Rv):Prop where
 ud:Alike M A
 wr:∀k,k<M.n->M.wr k=A.wr k
 wm:M.wm<=A.wm
def xQ(g:Gh)(r:Nat)(O:Nat->Prop)(w:World):Prop:=
 match g with
 | .mem A=>∃M:Mv,za w M/\M.m=r/\O=M.own/\Ic M A/\Wd A
 | .ref A=>∃R:Rv,ua w R/\R.m=r/\O=R.own/\Mb R A/\Wd A
 | .lay c=>Kc w r c.lv/\O=(fun k=>k=r)/\sk c
theorem YM(g:Gh)(r:Nat)(O:Nat->Prop)(w w':World)(h:xQ g r O w)(hs:w.heap.size<=w'.heap.size)(hk:∀k,O k->w'.heap[k]?=w.heap[k]?):xQ g r O w':=by
 cases g with
 |mem A=>obtain ⟨M,h1,h2,rfl,h4⟩:=h;exact ⟨M,h1.keep hk,h2,rfl,h4⟩
 |ref A=>obtain ⟨R,h1,h2,rfl,h4⟩:=h;exact ⟨R,h1.keep hk,h2,rfl,h4⟩
 |lay c=>obtain ⟨h1,rfl,h3⟩:=h;exact ⟨h1.keep (hk r rfl),rfl,h3⟩
def Th:ti where
 G:=Gh
 U:=tax
 V:=Em
 W:=tu
 W_W:=fun k g=>by
  by_cases h9:k=9
  . subst h9;rfl
  . by_cases h10:k=10
    . subst h10;rfl
    . by_cases h11:k=11
      . subst h11;show Gh.lay (Ho (Ho g.C))=Gh.lay (Ho g.C);rw [wQ (XJ _)]
      . have:∀g,tu k g=g:=fun g=>by unfold tu;split<;>simp_all
        rw [this,this]
 gh:=xQ
 gh_lt:=fun g r O w h k hk=>by
  cases g with
  |mem A=>obtain ⟨M,h1,h2,rfl,h4⟩:=h;exact h1.lt hk
  |ref A=>obtain ⟨R,h1,h2,rfl,h4⟩:=h;exact h1.lt hk
  |lay c=>obtain ⟨h1,rfl,h3⟩:=h;cases hk;exact h1.lt
 gh_own:=fun g r O w h=>by
  cases g with
  |mem A=>obtain ⟨M,h1,rfl,rfl,h4⟩:=h;exact .inl (by simp [Mv.blocks])
  |ref A=>obtain ⟨R,h1,rfl,rfl,h4⟩:=h;exact .inl (by simp [Rv.blocks])
  |lay c=>obtain ⟨h1,rfl,h3⟩:=h;rfl
 gh_keep:=YM
end
class Lc [Interp]:Prop where
 wTo:∀x:Value,Interp.U 64 [.v x]=KE (Ma (.v x:Qc Interp.G))
 wBy:∀x:Value,Interp.U 65 [.v x]=MM (Ma (.v x:Qc Interp.G))
 G9:∀x:Value,Interp.U 66 [.v x]=yi (Ma (.v x:Qc Interp.G))
 uax:∀x:Value,Interp.U 67 [.v x]=Ry (Ma (.v x:Qc Interp.G))
 vax:∀x:Value,Interp.U 68 [.v x]=bQ (Ma (.v x:Qc Interp.G))
 wax:∀x:Value,Interp.U 69 [.v x]=ld 33 31 (Ma (.v x:Qc Interp.G))
 aaj:∀x:Value,Interp.U 70 [.v x]=bN (ld 32 1 (Ma (.v x:Qc Interp.G))==1)
 I9:∀x:Value,Interp.U 71 [.v x]=bN (Pf (Ma (.v x:Qc Interp.G)))
 J9:∀x:Value,Interp.U 72 [.v x]=Yd (Ma (.v x:Qc Interp.G))
 baj:∀x:Value,Interp.U 73 [.v x]=gb (Ma (.v x:Qc Interp.G))
 caj:∀x y:Value,Interp.U 74 [.v x, .v y]=zi (Ma (.v x:Qc Interp.G)) (Ma (.v y:Qc Interp.G))
 K9:∀x y:Value,Interp.U 75 [.v x, .v y]=Ai (Ma (.v x:Qc Interp.G)) (Ma (.v y:Qc Interp.G))
 xax:∀x y:Value,Interp.U 76 [.v x, .v y]=su (Ma (.v x:Qc Interp.G)) (Ma (.v y:Qc Interp.G))
 daj:∀x y z:Value,Interp.U 77 [.v x, .v y, .v z]=cellW (Ma (.v x:Qc Interp.G)) (decide (Ma (.v y:Qc Interp.G)≠0)) (Ma (.v z:Qc Interp.G))
 at_:∀(g:Qc Interp.G) (k a b:Value),Ma (.v k:Qc Interp.G)<=13->0<=Ma (.v k:Qc Interp.G)->0<=Interp.U 80 [g, .v k, .v a, .v b]/\Interp.U 80 [g, .v k, .v a, .v b]<=9223372036854775807
section
variable[Interp]
theorem Ac{t:Nat}{v:Value}{l:List Value}(h:Nf t v=some l):den v=den (sy t l)/\Am v=true:=by
 unfold Nf at h
 split at h
 . rename_i u s l' c
   split at h
   . rename_i hb;rw [Na]at hb;have:=of_decide_eq_true hb;subst this;cases h;exact ⟨rfl,rfl⟩
   . cases h
 . cases h
theorem yQ{t:Nat}{v:Value}{l:List Value}(h:Nf t v=some l):∃s c,v= .func (.methodOf t s) ⟨l⟩ c:=by
 unfold Nf at h
 split at h
 . rename_i u s l' c
   split at h
   . rename_i hb;rw [Na]at hb;have:=of_decide_eq_true hb;subst this;cases h;exact ⟨_,_,rfl⟩
   . cases h
 . cases h
def In(k:Nat)(v:Value)(n:Int):Prop:=∃q,jc q=k/\den v= .v (.int q n)/\q.wrap n=n
theorem ej{k:Nat}{v:Value}(h:qc k v=true)(hk:k<=7):∃n,In k v n/\Gf v=some k:=by
 cases v with
 |int q n=>
  simp only [qc]at h
  split at h
  . rename_i hb;rw [Na]at hb;have:=of_decide_eq_true hb;rw [Ce,Mm]at h;exact ⟨n,⟨q,this,rfl,of_decide_eq_true h⟩,by simp [Gf,this]⟩
  . cases h
 |bool b=>
  simp only [qc,Na]at h;have:=of_decide_eq_true h;omega
 |func f a c=>cases f with
  |methodOf t s=>
   simp only [qc,Na]at h;have ht:t %16=k:=of_decide_eq_true h;obtain ⟨q,h1,h2⟩:=pB (c:=k) hk;refine ⟨_,⟨q,h2,by rw [Df,xl _ (by rw [ht];omega),ht,<-h2,Rc],wrap_wrap _ _⟩, ?_⟩;simp only [Gf];rw [show Nat.mod t 16=k from ht,show Nat.ble k 8=true by rw [yd];exact decide_eq_true (by omega)]
  |_=>simp [qc]at h
 |_=>simp [qc]at h
theorem N9{k:Nat}{v:Value}(h:Hy k v=true):qc k v=true:=by
 unfold Hy at h
 split at h
 . exact h
 . cases h
theorem pf{k:Nat}{v:Value}(h:Hy k v=true)(hk:k<=7):∃n,In k v n/\Gf v=some k:=ej (N9 h) hk
theorem In.k3{v:Value}{n:Int}(h:In 3 v n):den v= .v (.int .i64 n)/\-9223372036854775808<=n/\n<=9223372036854775807:=by
 obtain ⟨q,h1,h2,h3⟩:=h;have:q= .i64:=Qb (by rw [Na];exact decide_eq_true h1)
 subst this;rw [IntKind.wrap_i64]at h3;exact ⟨h2,by omega,by omega⟩
theorem In.k7{v:Value}{n:Int}(h:In 7 v n):den v= .v (.int .u64 n)/\Tc n:=by
 obtain ⟨q,h1,h2,h3⟩:=h;have:q= .u64:=Qb (by rw [Na];exact decide_eq_true h1)
 subst this;rw [IntKind.wrap_u64]at h3;exact ⟨h2,by unfold Tc;omega⟩
theorem In.k6{v:Value}{n:Int}(h:In 6 v n):den v= .v (.int .u32 n)/\0<=n/\n<4294967296:=by
 obtain ⟨q,h1,h2,h3⟩:=h;have:q= .u32:=Qb (by rw [Na];exact decide_eq_true h1)
 subst this;rw [IntKind.wrap_u32]at h3;exact ⟨h2,by omega,by omega⟩
theorem zQ{v:Value}(h:qc 8 v=true):∃b,den v= .v (.bool b)/\Gf v=some 8:=by
 cases v with
 |int q n=>
  simp only [qc]at h
  split at h
  . rename_i hb;rw [Na]at hb;have:=of_decide_eq_true hb;have:=Tf q;omega
  . cases h
 |bool b=>exact ⟨b,rfl,rfl⟩
 |func f a c=>cases f with
  |methodOf t s=>
   simp only [qc,Na]at h;have ht:t %16=8:=of_decide_eq_true h;refine ⟨_,by rw [Df,xl _ (by rw [ht];omega),ht,jd], ?_⟩;simp only [Gf];rw [show Nat.mod t 16=8 from ht]
  |_=>simp [qc]at h
 |_=>simp [qc]at h
theorem Di{k:Nat}{n:Int}{v:Value}(h:isLit k n v=true):∃q,jc q=k/\v= .int q n:=by
 unfold isLit at h
 split at h
 . rename_i q m
   split at h
   . rename_i hb;rw [Na]at hb;rw [Ce]at h;rw [of_decide_eq_true h];exact ⟨q,of_decide_eq_true hb,rfl⟩
   . cases h
 . cases h
theorem Ye{F:List (Value×Value)}(hF:∀p,p∈F->den p.1=den p.2){c:Value}{b:Bool}(h:known F c=some b):den c= .v (.bool b):=by
 unfold known at h
 split at h
 . rename_i b' hb;cases h;rw [<-Xn hF c,hb];rfl
 . cases h
theorem eh{n k:Nat}(hk:k<=8)(hn:64<=n)(l:List Value):den (sy (16*n+k) l)= .v (fk k (Interp.U n (Tb l))):=by
 have e1:(16*n+k) %16=k:=by omega
 have e2:(16*n+k)/16=n:=by omega
 unfold sy;rw [Df,xl _ (by omega),e1,e2];have:Nat.ble 64 n=true:=by rw [yd];exact decide_eq_true hn
 rw [this];rfl
theorem YJ(n:Int):fk 3 n= .int .i64 (IntKind.i64.wrap n):=Rc .i64 n
theorem fk6(n:Int):fk 6 n= .int .u32 (IntKind.u32.wrap n):=Rc .u32 n
theorem zU(n:Int):fk 7 n= .int .u64 (IntKind.u64.wrap n):=Rc .u64 n
theorem yb(n:Int):den (Fb n)= .v (.int .i64 n):=rfl
theorem Xz(n:Nat):den (Zi n)= .v (.int .u64 (n:Int)):=rfl
theorem jC{x y:Value}{a b:Int}(hx:den x= .v (.int .i64 a))(hy:den y= .v (.int .i64 b)):den (sy 19 [x,y])= .v (.int .i64 (IntKind.i64.wrap (a+b))):=by
 have:=Xg (n:=1) (k:=3) (by decide) (by decide) [x,y];simp only [Tb,hx,hy,List.map,Ma,Pm,rq,YJ]at this;exact this
theorem LX{x y:Value}{a b:Int}(hx:den x= .v (.int .u64 a))(hy:den y= .v (.int .u64 b)):den (sy 23 [x,y])= .v (.int .u64 (IntKind.u64.wrap (a+b))):=by
 have:=Xg (n:=1) (k:=7) (by decide) (by decide) [x,y];simp only [Tb,hx,hy,List.map,Ma,Pm,rq,zU]at this;exact this
theorem zax{x y:Value}{a b:Int}(hx:den x= .v (.int .i64 a))(hy:den y= .v (.int .i64 b)):den (sy 35 [x,y])= .v (.int .i64 (IntKind.i64.wrap (a -b))):=by
 have:=Xg (n:=2) (k:=3) (by decide) (by decide) [x,y];simp only [Tb,hx,hy,List.map,Ma,Pm,rq,YJ]at this;exact this
theorem ZJ{x y:Value}{k:IntKind}{a b:Int}(hx:den x= .v (.int k a))(hy:den y= .v (.int k b)):den (sy 280 [x,y])= .v (.bool (decide (a<b))):=by
 have:=Xg (n:=17) (k:=8) (by decide) (by decide) [x,y];simp only [Tb,hx,hy,List.map,Ma,Pm,rq,jd]at this;by_cases h:a<b<;>simp [h]at this⊢<;>exact this
theorem MX{x y:Value}{k:IntKind}{a b:Int}(hx:den x= .v (.int k a))(hy:den y= .v (.int k b)):den (sy 264 [x,y])= .v (.bool (decide (a=b))):=by
 have:=Xg (n:=16) (k:=8) (by decide) (by decide) [x,y];simp only [Tb,hx,hy,List.map,Ma,Pm,rq,jd]at this;by_cases h:a=b<;>simp [h]at this⊢<;>exact this
theorem Aax{x:Value}{b:Bool}(hx:den x= .v (.bool b)):den (sy 296 [x])= .v (.bool (!b)):=by
 have:=Xg (n:=18) (k:=8) (by decide) (by decide) [x];simp only [Tb,hx,List.map,Ma,Pm,rq,jd]at this;cases b<;>simp at this⊢<;>exact this
theorem NV{x:Value}{a:Int}(hx:den x= .v (.int .u64 a))(h:Tc a):den (sy 199 [x,Zi 4294967296])= .v (.int .u64 (a %4294967296)):=by
 have:=Xg (n:=12) (k:=7) (by decide) (by decide) [x,Zi 4294967296];simp only [Tb,hx,Xz,List.map,Ma,Pm,rq,zU]at this;refine this.trans ?_
 have e:a.tmod ((4294967296:Nat):Int)=a %4294967296:=Int.tmod_eq_emod_of_nonneg h.1
 rw [e,IntKind.wrap_u64]
 congr 2
 omega
theorem eaj{x:Value}{k:IntKind}{a:Int}(hx:den x= .v (.int k a)):den (sy 166 [x])= .v (.int .u32 (a %4294967296)):=by
 have:=Xg (n:=10) (k:=6) (by decide) (by decide) [x];simp only [Tb,hx,List.map,Ma,Pm,rq,fk6]at this;rw [IntKind.wrap_u32]at this;exact this
theorem faj{x:Value}{k:IntKind}{a:Int}(hx:den x= .v (.int k a)):den (sy 167 [x])= .v (.int .u64 (a %18446744073709551616)):=by
 have:=Xg (n:=10) (k:=7) (by decide) (by decide) [x];simp only [Tb,hx,List.map,Ma,Pm,rq,zU]at this;rw [IntKind.wrap_u64]at this;exact this
variable[Lc]
theorem AQ{a:Int}(h:Tc a):-1<=KE a/\KE a<4294967295:=by have:=qk 0 32 a;have:=ph 0 32 a;unfold KE;omega
theorem BQ{a:Int}(h:Tc a):-1<=MM a/\MM a<127:=by have:=qk 32 7 a;have:=ph 32 7 a;unfold MM;omega
theorem Yz{a:Int}(h:Tc a):-1<=yi a/\yi a<4294967295:=by have:=qk 32 32 a;have:=ph 32 32 a;unfold yi;omega
theorem dTo{x:Value}{a:Int}(hx:den x= .v (.int .u64 a))(h:Tc a):den (sy DP [x])= .v (.int .i64 (KE a)):=by
 have:=eh (n:=64) (k:=3) (by decide) (by decide) [x];simp only [Tb,hx,Lc.wTo,Ma,YJ]at this;refine this.trans ?_
 have:=AQ h;rw [IntKind.wrap_i64];congr 2;omega
theorem dBy{x:Value}{a:Int}(hx:den x= .v (.int .u64 a))(h:Tc a):den (sy jV [x])= .v (.int .i64 (MM a)):=by
 have:=eh (n:=65) (k:=3) (by decide) (by decide) [x];simp only [Tb,hx,Lc.wBy,Ma,YJ]at this;refine this.trans ?_
 have:=BQ h;rw [IntKind.wrap_i64];congr 2;omega
theorem PH{x:Value}{a:Int}(hx:den x= .v (.int .u64 a))(h:Tc a):den (sy Np [x])= .v (.int .i64 (yi a)):=by
 have:=eh (n:=66) (k:=3) (by decide) (by decide) [x];simp only [Tb,hx,Lc.G9,Ma,YJ]at this;refine this.trans ?_
 have:=Yz h;rw [IntKind.wrap_i64];congr 2;omega
theorem O9{x:Value}{a:Int}(hx:den x= .v (.int .u64 a))(h:Tc a):den (sy qM [x])= .v (.int .u32 (a %4294967296)):=by
 have:=eh (n:=68) (k:=6) (by decide) (by decide) [x];simp only [Tb,hx,Lc.vax,Ma,fk6]at this;refine this.trans ?_
 rw [IntKind.wrap_u32];unfold bQ;congr 2;omega
theorem P9{x:Value}{a:Int}(hx:den x= .v (.int .u64 a))(h:Tc a):den (sy hH [x])= .v (.int .i64 (ld 33 31 a)):=by
 have:=eh (n:=69) (k:=3) (by decide) (by decide) [x];simp only [Tb,hx,Lc.wax,Ma,YJ]at this;refine this.trans ?_
 have:=qk 33 31 a;have:=ph 33 31 a;rw [IntKind.wrap_i64];congr 2;omega
theorem Ms{x:Value}{a:Int}(hx:den x= .v (.int .u64 a)):den (sy Fh [x])= .v (.bool (Pf a)):=by
 have:=eh (n:=71) (k:=8) (by decide) (by decide) [x];simp only [Tb,hx,Lc.I9,Ma,jd]at this;refine this.trans ?_
 cases Pf a<;>rfl
theorem QH(a:Int):Tc (Yd a):=by unfold Yd Tc;omega
theorem Zz(a:Int):Tc (gb a):=by unfold gb Yd Tc;omega
theorem xd{a:Int}(h:Tc a):IntKind.u64.wrap a=a:=by rw [IntKind.wrap_u64];unfold Tc at h;omega
theorem yn{x:Value}{a:Int}(hx:den x= .v (.int .u64 a)):den (sy Hh [x])= .v (.int .u64 (Yd a)):=by
 have:=eh (n:=72) (k:=7) (by decide) (by decide) [x];simp only [Tb,hx,Lc.J9,Ma,zU]at this;rw [xd (QH a)]at this;exact this
theorem aA{x:Value}{a:Int}(hx:den x= .v (.int .u64 a)):den (sy Rg [x])= .v (.int .u64 (gb a)):=by
 have:=eh (n:=73) (k:=7) (by decide) (by decide) [x];simp only [Tb,hx,Lc.baj,Ma,zU]at this;rw [xd (Zz a)]at this;exact this
theorem bA(a b:Int):Tc (zi a b):=by unfold zi Ub td Tc;omega
theorem iF{x y:Value}{a b:Int}(hx:den x= .v (.int .i64 a))(hy:den y= .v (.int .i64 b)):den (sy Mq [x,y])= .v (.int .u64 (zi a b)):=by
 have:=eh (n:=74) (k:=7) (by decide) (by decide) [x,y];simp only [Tb,hx,hy,Lc.caj,Ma,zU]at this;rw [xd (bA a b)]at this;exact this
theorem Q9{x y:Value}{a b:Int}(hx:den x= .v (.int .i64 a))(hy:den y= .v (.int .u32 b)):den (sy nE [x,y])= .v (.int .u64 (IntKind.u64.wrap (su a b))):=by
 have:=eh (n:=76) (k:=7) (by decide) (by decide) [x,y];simp only [Tb,hx,hy,Lc.xax,Ma,zU]at this;exact this
theorem haj{x:Value}{a:Int}(hx:den x= .v (.int .u64 a))(h:Tc a):den (sy pM [x])= .v (.int .u32 (Ry a)):=by
 have:=eh (n:=67) (k:=6) (by decide) (by decide) [x];simp only [Tb,hx,Lc.uax,Ma,fk6]at this;refine this.trans ?_
 have:=h.1;have:=h.2
 rw [IntKind.wrap_u32];unfold Ry;congr 2;omega
theorem NX{x:Value}{a:Int}(hx:den x= .v (.int .u64 a)):den (sy Hz [x])= .v (.bool (ld 32 1 a==1)):=by
 have:=eh (n:=70) (k:=8) (by decide) (by decide) [x];simp only [Tb,hx,Lc.aaj,Ma,jd]at this;refine this.trans ?_
 cases (ld 32 1 a==1)<;>rfl
theorem RH(a b:Int):Tc (Ai a b):=by unfold Ai Ub td Tc;omega
theorem CQ{x y:Value}{a b:Int}(hx:den x= .v (.int .i64 a))(hy:den y= .v (.int .i64 b)):den (sy Bs [x,y])= .v (.int .u64 (Ai a b)):=by
 have:=eh (n:=75) (k:=7) (by decide) (by decide) [x,y];simp only [Tb,hx,hy,Lc.K9,Ma,zU]at this;rw [xd (RH a b)]at this;exact this
theorem jF{a b:Int}(h0:0<=b)(h1:b<4294967296):Tc (su a b):=by unfold su Ub td Tc;omega
theorem kF{x y z:Value}{a c:Int}{b:Bool}(hx:den x= .v (.int .i64 a))(hy:den y= .v (.bool b))(hz:den z= .v (.int .u32 c)):den (sy Vo [x,y,z])= .v (.int .u64 (IntKind.u64.wrap (cellW a b c))):=by
 have:=eh (n:=77) (k:=7) (by decide) (by decide) [x,y,z];simp only [Tb,hx,hy,hz,Lc.daj,Ma,zU]at this;refine this.trans ?_
 cases b<;>rfl
end
end Sk
end Go.Proofs.YtfnkmolffhfpoaaGreat
