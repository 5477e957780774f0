/- -/
import Derived.Test.YtfnkmolffhfpoaaGreatHq25
set_option linter.unusedVariables false
set_option linter.unusedSimpArgs false
set_option linter.unusedSectionVars false
namespace Go.Proofs.YtfnkmolffhfpoaaGreat
namespace Sk
open Go.RowKit
section
variable[Interp][Lc]
def jD(u v:Value):Prop:=(∃c,Gf u=some c)/\den u=den v
theorem Qp{t k:Nat}(l:List Value)(h:t %16=k)(hk:k<=8):Gf (sy t l)=some k:=by rw [vD l (by omega),h]
theorem DQ{a:Int}(h:Tc a):td (KE a)=a %4294967296:=by
 have h1:=qk 0 32 a;have h2:=ph 0 32 a;unfold td KE;have:ld 0 32 a=a %4294967296:=by unfold ld;simp
 omega
theorem aK{x u:Value}{b:Int}(h:mV x b=some u):jD u (sy 19 [x,Fb b]):=by
 unfold mV at h
 split at h
 . rename_i y a hx;obtain ⟨hd,_⟩:=Ac hx
   split at h
   . rename_i hk;obtain ⟨n,ag,FQ⟩:=pf hk (by decide);obtain ⟨dy,b1,b2⟩:=ag.k3;have dx:den x= .v (.int .i64 (IntKind.i64.wrap (n+a))):=hd.trans (jC dy (yb a))
     have dl:=jC dx (yb b)
     split at h
     . rename_i hz;cases h;refine ⟨⟨3,FQ⟩, ?_⟩;rw [dl,dy]
       congr 2
       have:a+b=0:=hz;rw [IntKind.wrap_i64,IntKind.wrap_i64];omega
     . rename_i c hz hc
       split at h
       . rename_i hw;cases h;refine ⟨⟨3,Qp _ rfl (by decide)⟩, ?_⟩;rw [dl];have d2:=jC dy (yb (Int.add a b));refine Eq.trans d2 ?_
         congr 2
         show IntKind.i64.wrap (n+(a+b))=_
         rw [IntKind.wrap_i64,IntKind.wrap_i64,IntKind.wrap_i64];omega
       . cases h
   . cases h
 . cases h
theorem OV{x u:Value}(h:O7 x=some u):jD u (sy 166 [x]):=by
 unfold O7 at h
 split at h
 . rename_i w y hx;obtain ⟨hd,_⟩:=Ac hx
   split at h
   . rename_i hc;simp only [Aa,Bool.and_eq_true]at hc;cases h;obtain ⟨n,ag,FQ⟩:=pf hc.1 (by decide)
     obtain ⟨dw,hu⟩:=ag.k7;obtain ⟨q,hq,rfl⟩:=Di hc.2
     have:q= .u64:=Qb (by rw [Na];exact decide_eq_true hq)
     subst this;have dx:=hd.trans (NV dw hu);refine ⟨⟨6,Qp _ rfl (by decide)⟩, ?_⟩;rw [O9 dw hu,eaj dx]
     congr 2;omega
   . cases h
 . split at h
   . rename_i hk;cases h;obtain ⟨n,ag,FQ⟩:=pf hk (by decide);obtain ⟨dx,hu⟩:=ag.k7;exact ⟨⟨6,Qp _ rfl (by decide)⟩,by rw [O9 dx hu,eaj dx]⟩
   . cases h
theorem PV{x u:Value}(h:P7 x=some u):jD u (sy 167 [x]):=by
 unfold P7 at h
 split at h
 . rename_i y n hx;obtain ⟨hd,_⟩:=Ac hx
   split at h
   . rename_i hc;simp only [Aa,Bool.and_eq_true,yd,decide_eq_true_eq]at hc;cases h;obtain ⟨a,ag,FQ⟩:=pf hc.1 (by decide)
     obtain ⟨dy,b1,b2⟩:=ag.k3;have dx:den x=_:=hd.trans (jC dy (yb (Int.ofNat n)));refine ⟨⟨7,Qp _ rfl (by decide)⟩, ?_⟩;rw [faj dx,LX (faj dy) (Xz n)]
     congr 2
     rw [IntKind.wrap_u64,IntKind.wrap_i64]
     show(a %18446744073709551616+(n:Int)) %18446744073709551616=_
     have:(Int.ofNat n)=(n:Int):=rfl;rw [this];omega
   . cases h
 . cases h
theorem GQ{a:Int}(h:Tc a)(hd:Pf a=false):Yd a=a:=by
 unfold Pf at hd;unfold Yd;have:=h.1;have:=h.2
 have hd:¬(a/9223372036854775808=1):=by simpa using hd
 omega
theorem ZM{F:List (Value×Value)}(hF:∀p,p∈F->den p.1=den p.2){x u:Value}(h:iH F x=some u):jD u (sy Hh [x]):=by
 unfold iH at h
 split at h
 . rename_i hc;simp only [Aa,Bool.and_eq_true]at hc;cases h;obtain ⟨n,ag,FQ⟩:=pf hc.1 (by decide)
   obtain ⟨dx,hu⟩:=ag.k7;have hb:Pf n=false:=by
    have h2:=hc.2
    split at h2
    . rename_i b hk;have:=Ye hF hk;rw [Ms dx]at this;rw [Ae]at h2;cases b
      . injection this with this;injection this
      . cases h2
    . cases h2
   exact ⟨⟨7,FQ⟩,by rw [yn dx,dx,GQ hu hb]⟩
 . split at h
   . rename_i w hx;obtain ⟨hd,_⟩:=Ac hx
     split at h
     . rename_i hk;cases h;obtain ⟨n,ag,FQ⟩:=pf hk (by decide);obtain ⟨dw,hu⟩:=ag.k7;have dx:den x=_:=hd.trans (yn dw);obtain ⟨s,c,rfl⟩:=yQ hx;refine ⟨⟨7,rfl⟩, ?_⟩;rw [yn dx,dx]
       congr 2
       unfold Yd;omega
     . cases h
   . cases h
theorem aN{x u:Value}(h:jH x=some u):jD u (sy Fh [x]):=by
 unfold jH at h
 split at h
 . rename_i w hx;obtain ⟨hd,_⟩:=Ac hx
   split at h
   . rename_i hk;cases h;obtain ⟨n,ag,FQ⟩:=pf hk (by decide);obtain ⟨dw,hu⟩:=ag.k7;have dx:den x=_:=hd.trans (yn dw);refine ⟨⟨8,rfl⟩, ?_⟩;rw [Ms dx];have:Pf (Yd n)=false:=by
      unfold Pf Yd;have:n %9223372036854775808/9223372036854775808=0:=by omega
      rw [this];rfl
     rw [this];rfl
   . cases h
 . cases h
theorem IQ{F:List (Value×Value)}(hF:∀p,p∈F->den p.1=den p.2){x u:Value}(h:EP F x=some u):jD u (sy Rg [x]):=by
 unfold EP at h
 split at h
 . rename_i w hx;obtain ⟨hd,_⟩:=Ac hx
   split at h
   . rename_i hk;obtain ⟨n,ag,FQ⟩:=pf hk (by decide);obtain ⟨dw,hu⟩:=ag.k7;have dx:den x=_:=hd.trans (yn dw);have e:gb (Yd n)=gb n:=by unfold gb Yd;omega
     split at h
     . rename_i bq;cases h;have:=Ye hF bq;rw [Ms dw]at this;have hb:Pf n=true:=by injection this with this;injection this
       refine ⟨⟨7,FQ⟩, ?_⟩;rw [aA dx,dw,e]
       congr 2
       unfold Pf at hb;have hb:n/9223372036854775808=1:=by simpa using hb
       have:=hu.1;have:=hu.2
       unfold gb Yd;omega
     . cases h;exact ⟨⟨7,Qp _ rfl (by decide)⟩,by rw [aA dx,aA dw,e]⟩
   . cases h
 . cases h
theorem Qw{z:Value}:∀{F:List (Value×Value)},(∀p,p∈F->den p.1=den p.2)->∀{a:Int},den z= .v (.int .i64 a)->Iz z F=true->a<9223372036854775807
 |[],hF,a,hz,h=>by simp [Iz]at h
 |p::ps,hF,a,hz,h=>by
  simp only [Iz]at h;have ih:=Qw (z:=z) (F:=ps) (fun q hq=>hF q (List.mem_cons_of_mem _ hq)) hz
  split at h
  . rename_i u v h1 h2
    split at h
    . rename_i hc;simp only [Aa,Bool.and_eq_true]at hc;obtain ⟨n,ag,_⟩:=pf hc.1 (by decide)
      obtain ⟨dv,b1,b2⟩:=ag.k3;have hd:=(Ac h1).1
      have hu:=Ee 60 u z hc.2
      rw [hz]at hu;have:=hF p (List.mem_cons_self ..);rw [hd,h2,ZJ hu dv]at this;injection this with this
      injection this with this
      have:=of_decide_eq_true this;omega
    . exact ih h
  . exact ih h
theorem Ot{x:Value}(h:vw x=true):∃a,den x= .v (.int .i64 a)/\0<=a:=by
 unfold vw at h
 split at h
 . rename_i g k a b hx;obtain ⟨hd,_⟩:=Ac hx
   split at h
   . rename_i n hn;simp only [Aa,Bool.and_eq_true,yd,decide_eq_true_eq]at h;obtain ⟨h1,h2,h3⟩:=h;obtain ⟨na,ha,_⟩:=ej h2 (by decide);obtain ⟨nb,hb,_⟩:=ej h3 (by decide);have hk:∃q,k= .int q (Int.ofNat n):=by
      unfold sM at hn
      split at hn
      . rename_i q m;cases hn;exact ⟨q,rfl⟩
      . cases hn
     obtain ⟨q,rfl⟩:=hk;have hda:=ha.k3.1
     have hdb:=hb.k3.1
     have hdk:den (Value.int q (Int.ofNat n))= .v (.int q (Int.ofNat n)):=rfl
     have hU:=eh (n:=80) (k:=3) (by decide) (by decide) [g, .int q (Int.ofNat n),a,b];simp only [Tb,hda,hdb,hdk,YJ]at hU;obtain ⟨l1,l2⟩:=Lc.at_ (den g) (.int q (Int.ofNat n)) (.int .i64 na) (.int .i64 nb) (by show(n:Int)<=13;omega) (by show(0:Int)<=(n:Int);omega);refine ⟨_,hd.trans hU, ?_⟩;rw [IntKind.wrap_i64];omega
   . cases h
 . cases h
theorem cA{z:Value}{n:Nat}{a:Int}(hz:den z= .v (.int .i64 a))(hb:-9223372036854775808<=a/\a<=9223372036854775807):den (pE z n)= .v (.int .i64 (IntKind.i64.wrap (a+n))):=by
 cases n with
 |zero=>simp only [pE];rw [hz];congr 2;rw [IntKind.wrap_i64];omega
 |succ n=>exact jC hz (yb _)
theorem QV{F:List (Value×Value)}(hF:∀p,p∈F->den p.1=den p.2){x u:Value}(h:Q7 F x=some u):jD u (sy 280 [x,Fb 0]):=by
 unfold Q7 at h
 split at h
 . rename_i ht
   split at h
   . rename_i t s w c
     split at h
     . rename_i hk;cases h;obtain ⟨n,ag,FQ⟩:=pf hk (by decide);obtain ⟨dw,hu⟩:=ag.k7;simp only [rl,Bool.or_eq_true,isT,Na,decide_eq_true_eq]at ht;have:∃a,den (Value.func (.methodOf t s) ⟨[w]⟩ c)= .v (.int .i64 a)/\-1<=a:=by
        rcases ht with rfl|rfl|rfl
        . exact ⟨_,dTo dw hu,(AQ hu).1⟩
        . exact ⟨_,dBy dw hu,(BQ hu).1⟩
        . exact ⟨_,PH dw hu,(Yz hu).1⟩
       obtain ⟨a,da,ha⟩:=this;refine ⟨⟨8,Qp _ rfl (by decide)⟩, ?_⟩;rw [MX da (yb (-1)),ZJ da (yb 0)]
       congr 2
       rw [decide_eq_decide];omega
     . cases h
   . cases h
 . split at h
   . rename_i hl;cases h;obtain ⟨a,da,ha⟩:=Ot hl;refine ⟨⟨8,rfl⟩, ?_⟩;rw [ZJ da (yb 0)];have:decide (a<0)=false:=decide_eq_false (by omega);rw [this];rfl
   . split at h
     . rename_i z n hx;obtain ⟨hd,_⟩:=Ac hx
       split at h
       . rename_i hc;simp only [Aa,Bool.and_eq_true,yd,decide_eq_true_eq]at hc;obtain ⟨a,ag,_⟩:=pf hc.1 (by decide)
         obtain ⟨dz,b1,b2⟩:=ag.k3
         split at h
         . rename_i hk hl;cases h;have dl:=cA (n:=n) dz ⟨b1,b2⟩;have h1:=Ye hF hk;rw [ZJ dl (yb 0)]at h1;injection h1 with h1
           injection h1 with h1
           have h1:=of_decide_eq_false h1;have h2:=Qw hF dl hl;have dx:den x=_:=hd.trans (jC dz (yb (Int.ofNat (n+1))));refine ⟨⟨8,rfl⟩, ?_⟩;rw [ZJ dx (yb 0)];have e:(Int.ofNat (n+1))=(n:Int)+1:=rfl;have:decide (IntKind.i64.wrap (a+Int.ofNat (n+1))<0)=false:=decide_eq_false (by
            rw [e];rw [IntKind.wrap_i64]at h1 h2⊢;omega)
           rw [this];rfl
         . cases h
       . cases h
     . cases h
theorem JQ{F:List (Value×Value)}(hF:∀p,p∈F->den p.1=den p.2){c:Value}{b:Bool}(hc:den c= .v (.bool b))(hk:Gf c=some 8):(∃k,Gf (neq F c)=some k)/\den (neq F c)= .v (.bool (!b)):=by
 have h1:=Xn hF c;obtain ⟨k,h2⟩:=uv (F:=F) hk;unfold neq
 split
 . rename_i b' hb;rw [hb,hc]at h1;injection h1 with h1
   injection h1 with h1
   subst h1;exact ⟨⟨8,rfl⟩,by rw [Ae];rfl⟩
 . refine ⟨⟨8,Qp _ rfl (by decide)⟩,Aax (by rw [h1,hc])⟩
theorem S9{F:List (Value×Value)}(hF:∀p,p∈F->den p.1=den p.2){x y u:Value}(h:rLt F x y=some u):jD u (sy 280 [x,y]):=by
 unfold rLt at h
 split at h
 . rename_i hl;obtain ⟨q,hq,rfl⟩:=Di hl;have:q= .i64:=Qb (by rw [Na];exact decide_eq_true hq)
   subst this;exact QV hF h
 . split at h
   . cases h
   . rename_i hk;obtain ⟨b,ag,_⟩:=pf hk (by decide);obtain ⟨dy,b1,b2⟩:=ag.k3
     split at h
     . rename_i n
       split at h
       . rename_i hn bq;cases h;rw [yd]at hn;have hn:=of_decide_eq_true hn;have h1:=Ye hF bq;rw [ZJ (yb _) dy]at h1;injection h1 with h1
         injection h1 with h1
         have h1:=of_decide_eq_true h1;have dx:den (Value.int .i64 (Int.ofNat (n+1)))= .v (.int .i64 (Int.ofNat (n+1))):=rfl
         obtain ⟨k1,k2⟩:=JQ hF (MX dy dx) (Qp _ rfl (by decide));refine ⟨k1, ?_⟩;rw [k2,ZJ dx dy,<-decide_not]
         congr 2
         rw [decide_eq_decide];have e:(Int.ofNat (n+1))=(n:Int)+1:=rfl;have e2:(Int.ofNat n)=(n:Int):=rfl;rw [e];rw [e2]at h1;omega
       . cases h
     . split at h
       . rename_i z n hx;obtain ⟨hd,_⟩:=Ac hx
         split at h
         . rename_i hc bq;cases h;simp only [Aa,Bool.and_eq_true,yd,decide_eq_true_eq]at hc;obtain ⟨a,Dax,_⟩:=pf hc.1 (by decide)
           obtain ⟨dz,c1,c2⟩:=Dax.k3;have dl:=cA (n:=n) dz ⟨c1,c2⟩;have h1:=Ye hF bq;rw [ZJ dl dy]at h1;injection h1 with h1
           injection h1 with h1
           have h1:=of_decide_eq_true h1;have dx:den x=_:=hd.trans (jC dz (yb (Int.ofNat (n+1))));obtain ⟨k1,k2⟩:=JQ hF (MX dx dy) (Qp _ rfl (by decide));refine ⟨k1, ?_⟩;rw [k2,ZJ dx dy,<-decide_not]
           congr 2
           rw [decide_eq_decide];have e:(Int.ofNat (n+1))=(n:Int)+1:=rfl;rw [e];rw [IntKind.wrap_i64]at h1⊢;omega
         . cases h
       . cases h
theorem KQ(x y:Value):den (sy 264 [x,y])= .v (.bool (decide (Ma (den x)=Ma (den y)))):=by
 have:=Xg (n:=16) (k:=8) (by decide) (by decide) [x,y];simp only [Tb,List.map,Pm,rq,jd]at this;by_cases h:Ma (den x)=Ma (den y)<;>simp [h]at this⊢<;>exact this
theorem dA{x:Value}{q:IntKind}{m:Int}:∀{F:List (Value×Value)},(∀p,p∈F->den p.1=den p.2)->∀{u:Value},Es x m F=some u->jD u (sy 264 [x, .int q m])
 |[],hF,u,h=>by simp [Es]at h
 |p::ps,hF,u,h=>by
  simp only [Es]at h;have ih:=fun u=>dA (x:=x) (q:=q) (m:=m) (F:=ps) (fun r hr=>hF r (List.mem_cons_of_mem _ hr)) (u:=u)
  split at h
  . rename_i v q' n h1 h2
    split at h
    . rename_i hs;cases h;have hu:=Ee 60 v x hs;have:=hF p (List.mem_cons_self ..);rw [(Ac h1).1,h2,KQ,hu]at this;injection this with this
      injection this with this
      have:=of_decide_eq_true this;have e:Ma (den (Value.int q' n):Qc Interp.G)=n:=rfl;rw [e]at this;refine ⟨⟨8,rfl⟩, ?_⟩;rw [KQ,this,Ce];rfl
    . exact ih u h
  . exact ih u h
theorem lF{F:List (Value×Value)}(hF:∀p,p∈F->den p.1=den p.2){x u:Value}{m:Int}(h:yJ F x m=some u):jD u (sy 264 [x,Fb m]):=by
 unfold yJ at h
 split at h
 . rename_i m;have last:∀{u:Value},(match vw x with|true=>some ff|false=>none)=some u->jD u (sy 264 [x,Fb (Int.negSucc m)]):=fun{u} h=>by
    split at h
    . rename_i hl;cases h;obtain ⟨a,da,ha⟩:=Ot hl;refine ⟨⟨8,rfl⟩, ?_⟩;rw [MX da (yb _)];have:decide (a=Int.negSucc m)=false:=decide_eq_false (by have:=Int.negSucc_lt_zero m;omega);rw [this];rfl
    . cases h
   split at h
   . rename_i hk bq;cases h;obtain ⟨a,ag,_⟩:=pf hk (by decide);obtain ⟨dx,b1,b2⟩:=ag.k3;have h1:=Ye hF bq;rw [ZJ dx (yb 0)]at h1;injection h1 with h1
     injection h1 with h1
     have h1:=of_decide_eq_false h1;refine ⟨⟨8,rfl⟩, ?_⟩;rw [MX dx (yb _)];have:decide (a=Int.negSucc m)=false:=decide_eq_false (by have:=Int.negSucc_lt_zero m;omega);rw [this];rfl
   . exact last h
 . cases h
theorem T9{F:List (Value×Value)}(hF:∀p,p∈F->den p.1=den p.2){x y u:Value}(h:rEq F x y=some u):jD u (sy 264 [x,y]):=by
 unfold rEq at h
 split at h
 . rename_i q m
   split at h
   . rename_i v hv;cases h;exact dA hF hv
   . split at h
     . split at h
       . rename_i z a hx;obtain ⟨hd,_⟩:=Ac hx
         split at h
         . rename_i hk
           split at h
           . rename_i hc;simp only [Aa,Bool.and_eq_true,Ce,Mm,decide_eq_true_eq]at hc;obtain ⟨c1,c2⟩:=hc;obtain ⟨n,ag,_⟩:=pf hk (by decide);obtain ⟨dz,b1,b2⟩:=ag.k3;have dx:den x=_:=hd.trans (jC dz (yb a));have key:den (sy 264 [z,Fb (Int.sub m a)])=den (sy 264 [x, .int .i64 m]):=by
              refine (MX dz (yb _)).trans (Eq.trans ?_ (MX dx (yb m)).symm)
              congr 2
              rw [decide_eq_decide];have e:Int.sub m a=m -a:=rfl;rw [e]at c2⊢;rw [IntKind.wrap_i64]at c1 c2⊢;omega
             cases h
             split
             . rename_i v hv;obtain ⟨k1,k2⟩:=lF hF hv;exact ⟨k1,k2.trans key⟩
             . exact ⟨⟨8,Qp _ rfl (by decide)⟩,key⟩
           . cases h
         . cases h
       . exact lF hF h
     . cases h
 . cases h
theorem RV{x y u:Value}(h:S7 x y=some u):jD u (sy 35 [x,y]):=by
 unfold S7 at h
 split at h
 . rename_i n
   split at h
   . rename_i hc;simp only [Aa,Bool.and_eq_true,yd,decide_eq_true_eq]at hc;obtain ⟨a,ag,_⟩:=pf hc.1 (by decide)
     obtain ⟨dx,b1,b2⟩:=ag.k3;have key:den (sy 19 [x,Fb (Int.negSucc n)])=den (sy 35 [x, .int .i64 (Int.ofNat (n+1))]):=by
      refine (jC dx (yb _)).trans (Eq.trans ?_ (zax dx (yb (Int.ofNat (n+1)))).symm)
      congr 3
     cases h
     split
     . rename_i v hv;obtain ⟨k1,k2⟩:=aK hv;exact ⟨k1,k2.trans key⟩
     . exact ⟨⟨3,Qp _ rfl (by decide)⟩,key⟩
   . cases h
 . cases h
theorem kC{a b:Int}(h:Tc a):zi (KE a) b=a %4294967296+zi (-1) b:=by
 unfold zi;rw [DQ h];have:Ub 0 32 (td (-1))=0:=by unfold Ub td;rfl
 rw [this];have e:Ub 0 32 (a %4294967296)=a %4294967296:=by unfold Ub;simp
 rw [e];omega
theorem SV:zi (-1) (-1)=0:=by decide
theorem LQ{x y u:Value}(h:FP x y=some u):jD u (sy Mq [x,y]):=by
 unfold FP at h
 split at h
 . rename_i w hx;obtain ⟨hd,_⟩:=Ac hx
   split at h
   . rename_i hk;obtain ⟨n,ag,_⟩:=pf hk (by decide);obtain ⟨dw,hu⟩:=ag.k7;have dx:den x=_:=hd.trans (dTo dw hu)
     split at h
     . rename_i hl;cases h;obtain ⟨q,hq,rfl⟩:=Di hl;have:q= .i64:=Qb (by rw [Na];exact decide_eq_true hq)
       subst this;refine ⟨⟨7,Qp _ rfl (by decide)⟩, ?_⟩;refine (NV dw hu).trans (Eq.trans ?_ (iF dx (yb (-1))).symm)
       rw [kC hu,SV];simp
     . split at h
       . rename_i hy;cases h;obtain ⟨b,Eax,_⟩:=ej hy (by decide);obtain ⟨dy,_⟩:=Eax.k3;refine ⟨⟨7,Qp _ rfl (by decide)⟩, ?_⟩;rw [LX (NV dw hu) (iF (yb (-1)) dy),iF dx dy,kC hu]
         congr 2
         have:=kC (b:=b) hu;have h2:=bA (KE n) b;rw [this]at h2;exact xd h2
       . cases h
   . cases h
 . cases h
theorem TV{x y u:Value}(h:T7 x y=some u):jD u (sy nE [x,y]):=by
 unfold T7 at h
 split at h
 . rename_i w hx;obtain ⟨hd,_⟩:=Ac hx
   split at h
   . rename_i hc;simp only [Aa,Bool.and_eq_true]at hc;cases h;obtain ⟨n,ag,_⟩:=pf hc.1 (by decide)
     obtain ⟨dw,hu⟩:=ag.k7;obtain ⟨q,hq,rfl⟩:=Di hc.2
     have:q= .u32:=Qb (by rw [Na];exact decide_eq_true hq)
     subst this;have dx:den x=_:=hd.trans (dTo dw hu);have d0:den (Value.int .u32 0)= .v (.int .u32 0):=rfl
     refine ⟨⟨7,Qp _ rfl (by decide)⟩, ?_⟩;rw [NV dw hu,Q9 dx d0]
     congr 2
     unfold su;rw [DQ hu];have e:Ub 0 32 (n %4294967296)=n %4294967296:=by unfold Ub;simp
     rw [e,IntKind.wrap_u64];omega
   . cases h
 . cases h
theorem Ns{q v:Int}{d:Bool}(h0:0<=v)(h1:v<4294967296):Tc (cellW q d v):=by
 unfold cellW Ub Tc;cases d<;>simp<;>omega
theorem MQ{q v:Int}{d:Bool}(h0:0<=v)(h1:v<4294967296)(e:Bool)(u:Int):cellW (ld 33 31 (cellW q d v)) e u=cellW q e u:=by
 have:ld 33 31 (cellW q d v)=q %2147483648:=by
  unfold ld cellW Ub;cases d<;>simp<;>omega
 rw [this];unfold cellW;have:Ub 33 31 (q %2147483648)=Ub 33 31 q:=by unfold Ub;simp
 rw [this]
theorem NQ{x y z u:Value}(h:GP x y z=some u):jD u (sy Vo [x,y,z]):=by
 unfold GP at h
 split at h
 . rename_i w hx;obtain ⟨hd,_⟩:=Ac hx
   split at h
   . rename_i q a b hw;obtain ⟨hdw,_⟩:=Ac hw
     split at h
     . rename_i hc;cases h;simp only [Aa,Bool.and_eq_true]at hc;obtain ⟨⟨hy,hz⟩,hq,ha,hb⟩:=hc;obtain ⟨nq,hq,_⟩:=ej hq (by decide);obtain ⟨dq,_⟩:=hq.k3;obtain ⟨na,da,_⟩:=zQ ha;obtain ⟨nb,hb,_⟩:=ej hb (by decide);obtain ⟨db,v0,v1⟩:=hb.k6;obtain ⟨ny,dy,_⟩:=zQ hy;obtain ⟨nz,hz,_⟩:=ej hz (by decide);obtain ⟨dz,z0,z1⟩:=hz.k6;have cu:=Ns (q:=nq) (d:=na) v0 v1;have dw:den w= .v (.int .u64 (cellW nq na nb)):=by rw [hdw,kF dq da db,xd cu]
       have dx:den x=_:=hd.trans (P9 dw cu);exact ⟨⟨7,Qp _ rfl (by decide)⟩,by rw [kF dq dy dz,kF dx dy dz,MQ v0 v1]⟩
     . cases h
   . cases h
 . cases h
end
section
variable[Interp][Lc]
theorem br(q:IntKind)(n:Int):den (Value.int q n)= .v (.int q n):=rfl
theorem iaj{q:IntKind}{x y:Value}{a b:Int}(hx:den x= .v (.int q a))(hy:den y= .v (.int q b)):den (sy (16+jc q) [x,y])= .v (.int q (q.wrap (a+b))):=by
 have:=Xg (n:=1) (k:=jc q) (by have:=Tf q;omega) (by decide) [x,y];simp only [Tb,hx,hy,List.map,Ma,Pm,rq,Rc]at this;exact this
theorem jaj(n m:Nat):Int.sub (Int.ofNat (Nat.mod n m)) (Int.ofNat 1)=((n %m:Nat):Int) -1:=rfl
theorem OQ(n d m:Nat):Int.sub (Int.ofNat (Nat.mod (Nat.div n d) m)) (Int.ofNat 1)=((n/d %m:Nat):Int) -1:=rfl
theorem kaj(n d:Nat):Nat.beq (Nat.div n d) 1=decide (n/d=1):=Na _ _
theorem U9(n m:Nat):Int.ofNat (Nat.mod n m)=(n:Int) %m:=rfl
theorem PQ{t:Nat}{l:List Value}{u:Value}(h:IP t l=some u):jD u (sy t l):=by
 unfold IP at h
 split at h
 . rename_i k a
   split at h
   . rename_i n;have hx:den (Value.int .u64 (Int.ofNat n))= .v (.int .u64 (n:Int)):=rfl
     split at h
     . rename_i ht;rw [Na]at ht;have ht:=of_decide_eq_true ht;cases h;refine ⟨⟨3,rfl⟩, ?_⟩;subst ht;have:=eh (n:=64) (k:=3) (by decide) (by decide) [Value.int .u64 (Int.ofNat n)];simp only [Tb,hx,Lc.wTo,Ma,YJ]at this;refine Eq.trans ?_ this.symm
       rw [jaj,br,IntKind.wrap_i64];have e:KE (n:Int)=(n:Int) %4294967296 -1:=by
        unfold KE ld;rw [show((2:Int)^0)=1 by decide,show((2:Int)^32)=4294967296 by decide,Int.ediv_one]
       rw [e]
       congr 2
       omega
     . split at h
       . rename_i ht;rw [Na]at ht;have ht:=of_decide_eq_true ht;cases h;refine ⟨⟨3,rfl⟩, ?_⟩;subst ht;have:=eh (n:=65) (k:=3) (by decide) (by decide) [Value.int .u64 (Int.ofNat n)];simp only [Tb,hx,Lc.wBy,Ma,YJ]at this;refine Eq.trans ?_ this.symm
         rw [OQ,br,IntKind.wrap_i64];have e:MM (n:Int)=(n:Int)/4294967296 %128 -1:=by
          unfold MM ld;rw [show((2:Int)^32)=4294967296 by decide,show((2:Int)^7)=128 by decide]
         rw [e];exact congrArg (fun z=>(Qc.v (Value.int .i64 z):Qc Interp.G)) (by omega)
       . split at h
         . rename_i ht;rw [Na]at ht;have ht:=of_decide_eq_true ht;cases h;refine ⟨⟨8,rfl⟩, ?_⟩;subst ht;refine Eq.trans ?_ (Ms hx).symm
           rw [kaj];refine congrArg (fun z=>(Qc.v (Value.bool z):Qc Interp.G)) ?_
           unfold Pf;by_cases h2:n/9223372036854775808=1
           . rw [decide_eq_true h2];have:((n:Int)/9223372036854775808)=1:=by omega
             rw [this];rfl
           . rw [decide_eq_false h2];have:¬((n:Int)/9223372036854775808)=1:=by omega
             simpa using this
         . split at h
           . rename_i ht;rw [Na]at ht;have ht:=of_decide_eq_true ht;cases h;refine ⟨⟨7,rfl⟩, ?_⟩;subst ht;refine Eq.trans ?_ (yn hx).symm
             rw [U9,br];rfl
           . cases h
   . cases h
 . rename_i k a k' b
   split at h
   . rename_i hk;rw [Na]at hk;have hk:=of_decide_eq_true hk;have:k'=k:=Qb (by rw [Na];exact decide_eq_true hk.symm);subst this
     split at h
     . rename_i ht;rw [Na]at ht;have ht:=of_decide_eq_true ht;subst ht;cases h;refine ⟨⟨8,rfl⟩, ?_⟩;refine Eq.trans ?_ (ZJ (br _ _) (br _ _)).symm
       show Qc.v (Value.bool _)=_
       congr 2
       rw [Ae,lB,<-decide_not];rw [decide_eq_decide];omega
     . split at h
       . rename_i ht;rw [Na]at ht;have ht:=of_decide_eq_true ht;subst ht;cases h;refine ⟨⟨8,rfl⟩, ?_⟩;refine Eq.trans ?_ (MX (br _ _) (br _ _)).symm
         rw [Ce];rfl
       . split at h
         . rename_i ht;rw [Na]at ht;have ht:=of_decide_eq_true ht;cases h;refine ⟨⟨jc k',rfl⟩, ?_⟩;subst ht;refine Eq.trans ?_ (iaj (br _ _) (br _ _)).symm
           rw [Mm];rfl
         . cases h
   . cases h
 . cases h
theorem QQ{F:List (Value×Value)}(hF:∀p,p∈F->den p.1=den p.2){t:Nat}{l:List Value}{u:Value}(h:JP F t l=some u):jD u (sy t l):=by
 have uO:∀{a:Nat},Nat.beq t a=true->t=a:=fun h=>by rw [Na]at h;exact of_decide_eq_true h
 unfold JP at h
 split at h
 . split at h
   . rename_i ht;rw [uO ht];exact OV h
   . split at h
     . rename_i ht;rw [uO ht];exact PV h
     . split at h
       . rename_i ht;rw [uO ht];exact ZM hF h
       . split at h
         . rename_i ht;rw [uO ht];exact aN h
         . split at h
           . rename_i ht;rw [uO ht];exact IQ hF h
           . cases h
 . split at h
   . rename_i ht;rw [uO ht];exact S9 hF h
   . split at h
     . rename_i ht;rw [uO ht];exact T9 hF h
     . split at h
       . rename_i ht;rw [uO ht]
         split at h
         . exact aK h
         . cases h
       . split at h
         . rename_i ht;rw [uO ht];exact RV h
         . split at h
           . rename_i ht;rw [uO ht];exact LQ h
           . split at h
             . rename_i ht;rw [uO ht];exact TV h
             . cases h
 . split at h
   . rename_i ht;rw [uO ht];exact NQ h
   . cases h
 . cases h
theorem mF(F:List (Value×Value))(hF:∀p,p∈F->den p.1=den p.2)(v:Value)(c:Nat)(hv:Gf v=some c):(∃c',Gf (qE F v)=some c')/\den (qE F v)=den v:=by
 unfold qE
 split
 . rename_i t s l c'
   split
   . rename_i u hu;exact PQ hu
   . split
     . rename_i u hu
       split
       . exact QQ hF hu
       . exact ⟨⟨_,hv⟩,rfl⟩
     . exact ⟨⟨_,hv⟩,rfl⟩
 . exact ⟨⟨_,hv⟩,rfl⟩
end
theorem Da(ρ:Nat->Int)(γ:Nat->Gh): @Lc (Th.at ρ γ):=by
 letI:Interp:=Th.at ρ γ
 exact ⟨fun x=>rfl,fun x=>rfl,fun x=>rfl,fun x=>rfl,fun x=>rfl,fun x=>rfl,fun x=>rfl,fun x=>rfl,fun x=>rfl,fun x=>rfl,fun x y=>rfl,fun x y=>rfl,fun x y=>rfl,fun x y z=>rfl,fun g k a b h1 h0=>by
  have:=vQ (Dm g).C (k:=Ma (.v k:Qc Gh)) (a:=Ma (.v a:Qc Gh)) (b:=Ma (.v b:Qc Gh)) h1
  exact ⟨this.1,Int.le_trans this.2 (by decide)⟩⟩
theorem VV{k:Nat}{e:Value}(h:Eo k e=true):∃t s a c,e= .func (.methodOf t s) a c/\t %16=k/\9<=k:=by
 unfold Eo at h
 split at h
 . rename_i t s a c;simp only [Aa,Bool.and_eq_true,Na,yd,Ae,decide_eq_true_eq,Bool.not_eq_true',decide_eq_false_iff_not]at h;have h1:¬t %16<=8:=h.1
   have h2:t %16=k:=h.2
   exact ⟨t,s,a,c,rfl,h2,by omega⟩
 . cases h
theorem V9[Interp]{t:Nat}(l:List (Qc Interp.G))(h:¬t %16<=8):∃g,ni t l= .g (Interp.W (t %16) g):=by
 have:Nat.ble (Nat.mod t 16) 8=false:=by rw [yd];exact decide_eq_false h
 unfold ni;rw [this];exact ⟨_,rfl⟩
section
variable{ρ:Nat->Int}{γ:Nat->Gh}
theorem nF{k:Nat}{e:Value}(h:Eo k e=true):∃g, @den (Th.at ρ γ) e= .g g/\tu k g=g:=by
 letI:Interp:=Th.at ρ γ
 obtain ⟨t,s,a,c,rfl,h1,h2⟩:=VV h;obtain ⟨g,hg⟩:= @V9 (Th.at ρ γ) t (KG a) (fun h=>by rw [h1]at h;exact absurd h (by omega));refine ⟨_,hg, ?_⟩;rw [h1];exact Th.W_W k g
theorem Mu{e:Value}(h:Eo 9 e=true):∃A, @den (Th.at ρ γ) e= .g (Gh.mem A):=by
 obtain ⟨g,h1,h2⟩:=nF (ρ:=ρ) (γ:=γ) h;have h2:Gh.mem g.A=g:=h2;exact ⟨g.A,by rw [h1,h2]⟩
theorem bK{e:Value}(h:Eo 11 e=true):∃c, @den (Th.at ρ γ) e= .g (Gh.lay c)/\sk c:=by
 obtain ⟨g,h1,h2⟩:=nF (ρ:=ρ) (γ:=γ) h;have h2:Gh.lay (Ho g.C)=g:=h2;exact ⟨Ho g.C,by rw [h1,h2],XJ _⟩
theorem Rw{e m:Value}(h:RB e=some m):Eo 9 m=true/\∃A, @den (Th.at ρ γ) m= .g (Gh.mem A)/\ @den (Th.at ρ γ) e= .g (Gh.ref A):=by
 letI:Interp:=Th.at ρ γ
 unfold RB at h
 split at h
 . rename_i m' hm
   split at h
   . rename_i hg;cases h;obtain ⟨A,hA⟩:=Mu (ρ:=ρ) (γ:=γ) hg;refine ⟨hg,A,hA, ?_⟩;rw [(Ac hm).1]
     show ni Cs [den m]=_
     rw [hA];rfl
   . cases h
 . cases h
theorem dCk{m:Value}{A:Rv}(h: @den (Th.at ρ γ) m= .g (Gh.mem A)): @den (Th.at ρ γ) (sy rM [m])= .v (.int .i64 (IntKind.i64.wrap A.ck)):=by
 letI:Interp:=Th.at ρ γ
 have:= @eh (Th.at ρ γ) 92 3 (by decide) (by decide) [m];rw [YJ]at this;have e: @Tb (Th.at ρ γ) [m]=[.g (Gh.mem A)]:=by
  show[@den (Th.at ρ γ) m]=_
  rw [h]
 rw [e]at this;exact this
theorem dWm{m:Value}{A:Rv}(h: @den (Th.at ρ γ) m= .g (Gh.mem A)): @den (Th.at ρ γ) (sy tWm [m])= .v (.int .i64 (IntKind.i64.wrap A.wm)):=by
 letI:Interp:=Th.at ρ γ
 have:= @eh (Th.at ρ γ) 96 3 (by decide) (by decide) [m];rw [YJ]at this;have e: @Tb (Th.at ρ γ) [m]=[.g (Gh.mem A)]:=by
  show[@den (Th.at ρ γ) m]=_
  rw [h]
 rw [e]at this;exact this
theorem RQ(r o:Nat)(n:Int)(w:World)(h:w.cell? ⟨r,o,none⟩=some (.int .i64 n)):(loadVar 3 ⟨r,o,none⟩).run Tryz.prog w= .ok (.int .i64 n) w:=by
 have P6:(isAgg 3).run Tryz.prog w= .ok false w:=by go_simp
 simp [loadVar,P6,Result.andThen,h]
theorem WV(e:Value)(o:Nat)(ty:TypeId)(v:Value)(h:U7 e o ty=some v)(g:Gh)(r:Nat)(O:Nat->Prop)(w:World)(hd: @den (Th.at ρ γ) e= .g g)(hg:xQ g r O w):
  ∃v',(∃c,Gf v=some c)/\ @den (Th.at ρ γ) v= .v v'/\(loadVar ty ⟨r,o,none⟩).run Tryz.prog w= .ok v' w:=by
 unfold U7 at h
 split at h
 . rename_i m hm
   split at h
   . rename_i hc;simp only [Aa,Bool.and_eq_true,Na,decide_eq_true_eq]at hc;cases h;obtain ⟨_,A,h1,h2⟩:=Rw (ρ:=ρ) (γ:=γ) hm;rw [h2]at hd;injection hd with hd
     subst hd;obtain ⟨R,k1,k2,k3,k4,k5⟩:=hg;obtain ⟨q1,q2,q3⟩:=hc;refine ⟨_,⟨3,rfl⟩,dCk h1, ?_⟩;have c0:=k5.Cm;have c1:=k5.ck;have:IntKind.i64.wrap A.ck=R.ck:=by rw [k4.ck,IntKind.wrap_i64];omega
     rw [this,show o=2 from q1,show ty=3 from q3];refine RQ r 2 R.ck w ?_
     rw [<-k2,Oa k1.row];rfl
   . cases h
 . cases h
end
end Sk
end Go.Proofs.YtfnkmolffhfpoaaGreat
