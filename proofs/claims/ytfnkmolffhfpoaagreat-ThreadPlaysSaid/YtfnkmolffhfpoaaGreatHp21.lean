/- -/
import Derived.Test.YtfnkmolffhfpoaaGreatHp20
import Derived.Test.YtfnkmolffhfpoaaGreatHp17
set_option linter.unusedVariables false
set_option linter.unusedSimpArgs false
set_option linter.unusedSectionVars false
namespace Go.Proofs.YtfnkmolffhfpoaaGreat
namespace Sk
open Go.RowKit
section
variable[Interp][Wc]
def wE(u v:Value):Prop:=(∃c,Wf u=some c)/\den u=den v
theorem Vp{t k:Nat}(l:List Value)(h:t %16=k)(hk:k<=8):Wf (sy t l)=some k:=by rw [PE l (by omega),h]
theorem wT{a:Int}(h:ud a):Ld (ZF a)=a %4294967296:=by
 have h1:=Nj 0 32 a;have h2:=Nh 0 32 a;unfold Ld ZF;have:Ed 0 32 a=a %4294967296:=by unfold Ed;simp
 omega
theorem ML{x u:Value}{b:Int}(h:dZ x b=some u):wE u (sy 19 [x,Cb b]):=by
 unfold dZ at h
 split at h
 . rename_i y a hx;obtain ⟨hd,_⟩:=Oc hx
   split at h
   . rename_i hk;obtain ⟨n,Bg,xT⟩:=Mf hk (by decide);obtain ⟨dy,b1,b2⟩:=Bg.k3;have dx:den x= .v (.int .i64 (IntKind.i64.wrap (n+a))):=hd.trans (qD dy (Eb a))
     have dl:=qD dx (Eb b)
     split at h
     . rename_i hz;cases h;refine ⟨⟨3,xT⟩, ?_⟩;rw [dl,dy]
       congr 2
       have:a+b=0:=hz;rw [IntKind.wrap_i64,IntKind.wrap_i64];omega
     . rename_i c hz hc
       split at h
       . rename_i hw;cases h;refine ⟨⟨3,Vp _ rfl (by decide)⟩, ?_⟩;rw [dl];have d2:=qD dy (Eb (Int.add a b));refine Eq.trans d2 ?_
         congr 2
         show IntKind.i64.wrap (n+(a+b))=_
         rw [IntKind.wrap_i64,IntKind.wrap_i64,IntKind.wrap_i64];omega
       . cases h
   . cases h
 . cases h
theorem FZ{x u:Value}(h:zaf x=some u):wE u (sy 166 [x]):=by
 unfold zaf at h
 split at h
 . rename_i w y hx;obtain ⟨hd,_⟩:=Oc hx
   split at h
   . rename_i hc;simp only [Da,Bool.and_eq_true]at hc;cases h;obtain ⟨n,Bg,xT⟩:=Mf hc.1 (by decide)
     obtain ⟨dw,hu⟩:=Bg.k7;obtain ⟨q,hq,rfl⟩:=ej hc.2
     have:q= .u64:=Zb (by rw [Va];exact decide_eq_true hq)
     subst this;have dx:=hd.trans (EZ dw hu);refine ⟨⟨6,Vp _ rfl (by decide)⟩, ?_⟩;rw [Fag dw hu,maq dx]
     congr 2;omega
   . cases h
 . split at h
   . rename_i hk;cases h;obtain ⟨n,Bg,xT⟩:=Mf hk (by decide);obtain ⟨dx,hu⟩:=Bg.k7;exact ⟨⟨6,Vp _ rfl (by decide)⟩,by rw [Fag dx hu,maq dx]⟩
   . cases h
theorem GZ{x u:Value}(h:Aaf x=some u):wE u (sy 167 [x]):=by
 unfold Aaf at h
 split at h
 . rename_i y n hx;obtain ⟨hd,_⟩:=Oc hx
   split at h
   . rename_i hc;simp only [Da,Bool.and_eq_true,xd,decide_eq_true_eq]at hc;cases h;obtain ⟨a,Bg,xT⟩:=Mf hc.1 (by decide)
     obtain ⟨dy,b1,b2⟩:=Bg.k3;have dx:den x=_:=hd.trans (qD dy (Eb (Int.ofNat n)));refine ⟨⟨7,Vp _ rfl (by decide)⟩, ?_⟩;rw [naq dx,C5 (naq dy) (lB n)]
     congr 2
     rw [IntKind.wrap_u64,IntKind.wrap_i64]
     show(a %18446744073709551616+(n:Int)) %18446744073709551616=_
     have:(Int.ofNat n)=(n:Int):=rfl;rw [this];omega
   . cases h
 . cases h
theorem yT{a:Int}(h:ud a)(hd:vg a=false):ze a=a:=by
 unfold vg at hd;unfold ze;have:=h.1;have:=h.2
 have hd:¬(a/9223372036854775808=1):=by simpa using hd
 omega
theorem tP{F:List (Value×Value)}(hF:∀p,p∈F->den p.1=den p.2){x u:Value}(h:KI F x=some u):wE u (sy ti [x]):=by
 unfold KI at h
 split at h
 . rename_i hc;simp only [Da,Bool.and_eq_true]at hc;cases h;obtain ⟨n,Bg,xT⟩:=Mf hc.1 (by decide)
   obtain ⟨dx,hu⟩:=Bg.k7;have hb:vg n=false:=by
    have h2:=hc.2
    split at h2
    . rename_i b hk;have:=Kf hF hk;rw [Ws dx]at this;rw [Cd]at h2;cases b
      . injection this with this;injection this
      . cases h2
    . cases h2
   exact ⟨⟨7,xT⟩,by rw [En dx,dx,yT hu hb]⟩
 . split at h
   . rename_i w hx;obtain ⟨hd,_⟩:=Oc hx
     split at h
     . rename_i hk;cases h;obtain ⟨n,Bg,xT⟩:=Mf hk (by decide);obtain ⟨dw,hu⟩:=Bg.k7;have dx:den x=_:=hd.trans (En dw);obtain ⟨s,c,rfl⟩:=oT hx;refine ⟨⟨7,rfl⟩, ?_⟩;rw [En dx,dx]
       congr 2
       unfold ze;omega
     . cases h
   . cases h
theorem uP{x u:Value}(h:LI x=some u):wE u (sy si [x]):=by
 unfold LI at h
 split at h
 . rename_i w hx;obtain ⟨hd,_⟩:=Oc hx
   split at h
   . rename_i hk;cases h;obtain ⟨n,Bg,xT⟩:=Mf hk (by decide);obtain ⟨dw,hu⟩:=Bg.k7;have dx:den x=_:=hd.trans (En dw);refine ⟨⟨8,rfl⟩, ?_⟩;rw [Ws dx];have:vg (ze n)=false:=by
      unfold vg ze;have:n %9223372036854775808/9223372036854775808=0:=by omega
      rw [this];rfl
     rw [this];rfl
   . cases h
 . cases h
theorem zT{F:List (Value×Value)}(hF:∀p,p∈F->den p.1=den p.2){x u:Value}(h:vS F x=some u):wE u (sy Ah [x]):=by
 unfold vS at h
 split at h
 . rename_i w hx;obtain ⟨hd,_⟩:=Oc hx
   split at h
   . rename_i hk;obtain ⟨n,Bg,xT⟩:=Mf hk (by decide);obtain ⟨dw,hu⟩:=Bg.k7;have dx:den x=_:=hd.trans (En dw);have e:yb (ze n)=yb n:=by unfold yb ze;omega
     split at h
     . rename_i mq;cases h;have:=Kf hF mq;rw [Ws dw]at this;have hb:vg n=true:=by injection this with this;injection this
       refine ⟨⟨7,xT⟩, ?_⟩;rw [oB dx,dw,e]
       congr 2
       unfold vg at hb;have hb:n/9223372036854775808=1:=by simpa using hb
       have:=hu.1;have:=hu.2
       unfold yb ze;omega
     . cases h;exact ⟨⟨7,Vp _ rfl (by decide)⟩,by rw [oB dx,oB dw,e]⟩
   . cases h
 . cases h
theorem Fx{z:Value}:∀{F:List (Value×Value)},(∀p,p∈F->den p.1=den p.2)->∀{a:Int},den z= .v (.int .i64 a)->UA z F=true->a<9223372036854775807
 |[],hF,a,hz,h=>by simp [UA]at h
 |p::ps,hF,a,hz,h=>by
  simp only [UA]at h;have ih:=Fx (z:=z) (F:=ps) (fun q hq=>hF q (List.mem_cons_of_mem _ hq)) hz
  split at h
  . rename_i u v h1 h2
    split at h
    . rename_i hc;simp only [Da,Bool.and_eq_true]at hc;obtain ⟨n,Bg,_⟩:=Mf hc.1 (by decide)
      obtain ⟨dv,b1,b2⟩:=Bg.k3;have hd:=(Oc h1).1
      have hu:=Hf 60 u z hc.2
      rw [hz]at hu;have:=hF p (List.mem_cons_self ..);rw [hd,h2,KL hu dv]at this;injection this with this
      injection this with this
      have:=of_decide_eq_true this;omega
    . exact ih h
  . exact ih h
theorem lu{x:Value}(h:Tw x=true):∃a,den x= .v (.int .i64 a)/\0<=a:=by
 unfold Tw at h
 split at h
 . rename_i g k a b hx;obtain ⟨hd,_⟩:=Oc hx
   split at h
   . rename_i n hn;simp only [Da,Bool.and_eq_true,xd,decide_eq_true_eq]at h;obtain ⟨h1,h2,h3⟩:=h;obtain ⟨na,ha,_⟩:=Dj h2 (by decide);obtain ⟨nb,hb,_⟩:=Dj h3 (by decide);have hk:∃q,k= .int q (Int.ofNat n):=by
      unfold FO at hn
      split at hn
      . rename_i q m;cases hn;exact ⟨q,rfl⟩
      . cases hn
     obtain ⟨q,rfl⟩:=hk;have hda:=ha.k3.1
     have hdb:=hb.k3.1
     have hdk:den (Value.int q (Int.ofNat n))= .v (.int q (Int.ofNat n)):=rfl
     have hU:=yh (n:=80) (k:=3) (by decide) (by decide) [g, .int q (Int.ofNat n),a,b];simp only [mc,hda,hdb,hdk,rJ]at hU;obtain ⟨l1,l2⟩:=Wc.at_ (den g) (.int q (Int.ofNat n)) (.int .i64 na) (.int .i64 nb) (by show(n:Int)<=13;omega) (by show(0:Int)<=(n:Int);omega);refine ⟨_,hd.trans hU, ?_⟩;rw [IntKind.wrap_i64];omega
   . cases h
 . cases h
theorem qB{z:Value}{n:Nat}{a:Int}(hz:den z= .v (.int .i64 a))(hb:-9223372036854775808<=a/\a<=9223372036854775807):den (FF z n)= .v (.int .i64 (IntKind.i64.wrap (a+n))):=by
 cases n with
 |zero=>simp only [FF];rw [hz];congr 2;rw [IntKind.wrap_i64];omega
 |succ n=>exact qD hz (Eb _)
theorem IZ{F:List (Value×Value)}(hF:∀p,p∈F->den p.1=den p.2){x u:Value}(h:Baf F x=some u):wE u (sy 280 [x,Cb 0]):=by
 unfold Baf at h
 split at h
 . rename_i ht
   split at h
   . rename_i t s w c
     split at h
     . rename_i hk;cases h;obtain ⟨n,Bg,xT⟩:=Mf hk (by decide);obtain ⟨dw,hu⟩:=Bg.k7;simp only [zl,Bool.or_eq_true,isT,Va,decide_eq_true_eq]at ht;have:∃a,den (Value.func (.methodOf t s) ⟨[w]⟩ c)= .v (.int .i64 a)/\-1<=a:=by
        rcases ht with rfl|rfl|rfl
        . exact ⟨_,dTo dw hu,(rT hu).1⟩
        . exact ⟨_,dBy dw hu,(uT hu).1⟩
        . exact ⟨_,sJ dw hu,(mB hu).1⟩
       obtain ⟨a,da,ha⟩:=this;refine ⟨⟨8,Vp _ rfl (by decide)⟩, ?_⟩;rw [D5 da (Eb (-1)),KL da (Eb 0)]
       congr 2
       rw [decide_eq_decide];omega
     . cases h
   . cases h
 . split at h
   . rename_i hl;cases h;obtain ⟨a,da,ha⟩:=lu hl;refine ⟨⟨8,rfl⟩, ?_⟩;rw [KL da (Eb 0)];have:decide (a<0)=false:=decide_eq_false (by omega);rw [this];rfl
   . split at h
     . rename_i z n hx;obtain ⟨hd,_⟩:=Oc hx
       split at h
       . rename_i hc;simp only [Da,Bool.and_eq_true,xd,decide_eq_true_eq]at hc;obtain ⟨a,Bg,_⟩:=Mf hc.1 (by decide)
         obtain ⟨dz,b1,b2⟩:=Bg.k3
         split at h
         . rename_i hk hl;cases h;have dl:=qB (n:=n) dz ⟨b1,b2⟩;have h1:=Kf hF hk;rw [KL dl (Eb 0)]at h1;injection h1 with h1
           injection h1 with h1
           have h1:=of_decide_eq_false h1;have h2:=Fx hF dl hl;have dx:den x=_:=hd.trans (qD dz (Eb (Int.ofNat (n+1))));refine ⟨⟨8,rfl⟩, ?_⟩;rw [KL dx (Eb 0)];have e:(Int.ofNat (n+1))=(n:Int)+1:=rfl;have:decide (IntKind.i64.wrap (a+Int.ofNat (n+1))<0)=false:=decide_eq_false (by
            rw [e];rw [IntKind.wrap_i64]at h1 h2⊢;omega)
           rw [this];rfl
         . cases h
       . cases h
     . cases h
theorem AT{F:List (Value×Value)}(hF:∀p,p∈F->den p.1=den p.2){c:Value}{b:Bool}(hc:den c= .v (.bool b))(hk:Wf c=some 8):(∃k,Wf (neq F c)=some k)/\den (neq F c)= .v (.bool (!b)):=by
 have h1:=so hF c;obtain ⟨k,h2⟩:=ew (F:=F) hk;unfold neq
 split
 . rename_i b' hb;rw [hb,hc]at h1;injection h1 with h1
   injection h1 with h1
   subst h1;exact ⟨⟨8,rfl⟩,by rw [Cd];rfl⟩
 . refine ⟨⟨8,Vp _ rfl (by decide)⟩,eaJ (by rw [h1,hc])⟩
theorem Iag{F:List (Value×Value)}(hF:∀p,p∈F->den p.1=den p.2){x y u:Value}(h:rLt F x y=some u):wE u (sy 280 [x,y]):=by
 unfold rLt at h
 split at h
 . rename_i hl;obtain ⟨q,hq,rfl⟩:=ej hl;have:q= .i64:=Zb (by rw [Va];exact decide_eq_true hq)
   subst this;exact IZ hF h
 . split at h
   . cases h
   . rename_i hk;obtain ⟨b,Bg,_⟩:=Mf hk (by decide);obtain ⟨dy,b1,b2⟩:=Bg.k3
     split at h
     . rename_i n
       split at h
       . rename_i hn mq;cases h;rw [xd]at hn;have hn:=of_decide_eq_true hn;have h1:=Kf hF mq;rw [KL (Eb _) dy]at h1;injection h1 with h1
         injection h1 with h1
         have h1:=of_decide_eq_true h1;have dx:den (Value.int .i64 (Int.ofNat (n+1)))= .v (.int .i64 (Int.ofNat (n+1))):=rfl
         obtain ⟨k1,k2⟩:=AT hF (D5 dy dx) (Vp _ rfl (by decide));refine ⟨k1, ?_⟩;rw [k2,KL dx dy,<-decide_not]
         congr 2
         rw [decide_eq_decide];have e:(Int.ofNat (n+1))=(n:Int)+1:=rfl;have e2:(Int.ofNat n)=(n:Int):=rfl;rw [e];rw [e2]at h1;omega
       . cases h
     . split at h
       . rename_i z n hx;obtain ⟨hd,_⟩:=Oc hx
         split at h
         . rename_i hc mq;cases h;simp only [Da,Bool.and_eq_true,xd,decide_eq_true_eq]at hc;obtain ⟨a,gaJ,_⟩:=Mf hc.1 (by decide)
           obtain ⟨dz,c1,c2⟩:=gaJ.k3;have dl:=qB (n:=n) dz ⟨c1,c2⟩;have h1:=Kf hF mq;rw [KL dl dy]at h1;injection h1 with h1
           injection h1 with h1
           have h1:=of_decide_eq_true h1;have dx:den x=_:=hd.trans (qD dz (Eb (Int.ofNat (n+1))));obtain ⟨k1,k2⟩:=AT hF (D5 dx dy) (Vp _ rfl (by decide));refine ⟨k1, ?_⟩;rw [k2,KL dx dy,<-decide_not]
           congr 2
           rw [decide_eq_decide];have e:(Int.ofNat (n+1))=(n:Int)+1:=rfl;rw [e];rw [IntKind.wrap_i64]at h1⊢;omega
         . cases h
       . cases h
theorem CT(x y:Value):den (sy 264 [x,y])= .v (.bool (decide (Oa (den x)=Oa (den y)))):=by
 have:=Ch (n:=16) (k:=8) (by decide) (by decide) [x,y];simp only [mc,List.map,Sm,Aq,Dd]at this;by_cases h:Oa (den x)=Oa (den y)<;>simp [h]at this⊢<;>exact this
theorem rB{x:Value}{q:IntKind}{m:Int}:∀{F:List (Value×Value)},(∀p,p∈F->den p.1=den p.2)->∀{u:Value},Ms x m F=some u->wE u (sy 264 [x, .int q m])
 |[],hF,u,h=>by simp [Ms]at h
 |p::ps,hF,u,h=>by
  simp only [Ms]at h;have ih:=fun u=>rB (x:=x) (q:=q) (m:=m) (F:=ps) (fun r hr=>hF r (List.mem_cons_of_mem _ hr)) (u:=u)
  split at h
  . rename_i v q' n h1 h2
    split at h
    . rename_i hs;cases h;have hu:=Hf 60 v x hs;have:=hF p (List.mem_cons_self ..);rw [(Oc h1).1,h2,CT,hu]at this;injection this with this
      injection this with this
      have:=of_decide_eq_true this;have e:Oa (den (Value.int q' n):Tc Interp.G)=n:=rfl;rw [e]at this;refine ⟨⟨8,rfl⟩, ?_⟩;rw [CT,this,Sd];rfl
    . exact ih u h
  . exact ih u h
theorem vG{F:List (Value×Value)}(hF:∀p,p∈F->den p.1=den p.2){x u:Value}{m:Int}(h:cL F x m=some u):wE u (sy 264 [x,Cb m]):=by
 unfold cL at h
 split at h
 . rename_i m;have last:∀{u:Value},(match Tw x with|true=>some ff|false=>none)=some u->wE u (sy 264 [x,Cb (Int.negSucc m)]):=fun{u} h=>by
    split at h
    . rename_i hl;cases h;obtain ⟨a,da,ha⟩:=lu hl;refine ⟨⟨8,rfl⟩, ?_⟩;rw [D5 da (Eb _)];have:decide (a=Int.negSucc m)=false:=decide_eq_false (by have:=Int.negSucc_lt_zero m;omega);rw [this];rfl
    . cases h
   split at h
   . rename_i hk mq;cases h;obtain ⟨a,Bg,_⟩:=Mf hk (by decide);obtain ⟨dx,b1,b2⟩:=Bg.k3;have h1:=Kf hF mq;rw [KL dx (Eb 0)]at h1;injection h1 with h1
     injection h1 with h1
     have h1:=of_decide_eq_false h1;refine ⟨⟨8,rfl⟩, ?_⟩;rw [D5 dx (Eb _)];have:decide (a=Int.negSucc m)=false:=decide_eq_false (by have:=Int.negSucc_lt_zero m;omega);rw [this];rfl
   . exact last h
 . cases h
theorem Jag{F:List (Value×Value)}(hF:∀p,p∈F->den p.1=den p.2){x y u:Value}(h:rEq F x y=some u):wE u (sy 264 [x,y]):=by
 unfold rEq at h
 split at h
 . rename_i q m
   split at h
   . rename_i v hv;cases h;exact rB hF hv
   . split at h
     . split at h
       . rename_i z a hx;obtain ⟨hd,_⟩:=Oc hx
         split at h
         . rename_i hk
           split at h
           . rename_i hc;simp only [Da,Bool.and_eq_true,Sd,Qm,decide_eq_true_eq]at hc;obtain ⟨c1,c2⟩:=hc;obtain ⟨n,Bg,_⟩:=Mf hk (by decide);obtain ⟨dz,b1,b2⟩:=Bg.k3;have dx:den x=_:=hd.trans (qD dz (Eb a));have key:den (sy 264 [z,Cb (Int.sub m a)])=den (sy 264 [x, .int .i64 m]):=by
              refine (D5 dz (Eb _)).trans (Eq.trans ?_ (D5 dx (Eb m)).symm)
              congr 2
              rw [decide_eq_decide];have e:Int.sub m a=m -a:=rfl;rw [e]at c2⊢;rw [IntKind.wrap_i64]at c1 c2⊢;omega
             cases h
             split
             . rename_i v hv;obtain ⟨k1,k2⟩:=vG hF hv;exact ⟨k1,k2.trans key⟩
             . exact ⟨⟨8,Vp _ rfl (by decide)⟩,key⟩
           . cases h
         . cases h
       . exact vG hF h
     . cases h
 . cases h
theorem JZ{x y u:Value}(h:Caf x y=some u):wE u (sy 35 [x,y]):=by
 unfold Caf at h
 split at h
 . rename_i n
   split at h
   . rename_i hc;simp only [Da,Bool.and_eq_true,xd,decide_eq_true_eq]at hc;obtain ⟨a,Bg,_⟩:=Mf hc.1 (by decide)
     obtain ⟨dx,b1,b2⟩:=Bg.k3;have key:den (sy 19 [x,Cb (Int.negSucc n)])=den (sy 35 [x, .int .i64 (Int.ofNat (n+1))]):=by
      refine (qD dx (Eb _)).trans (Eq.trans ?_ (daJ dx (Eb (Int.ofNat (n+1)))).symm)
      congr 3
     cases h
     split
     . rename_i v hv;obtain ⟨k1,k2⟩:=ML hv;exact ⟨k1,k2.trans key⟩
     . exact ⟨⟨3,Vp _ rfl (by decide)⟩,key⟩
   . cases h
 . cases h
theorem rD{a b:Int}(h:ud a):aj (ZF a) b=a %4294967296+aj (-1) b:=by
 unfold aj;rw [wT h];have:uc 0 32 (Ld (-1))=0:=by unfold uc Ld;rfl
 rw [this];have e:uc 0 32 (a %4294967296)=a %4294967296:=by unfold uc;simp
 rw [e];omega
theorem KZ:aj (-1) (-1)=0:=by decide
theorem DT{x y u:Value}(h:wS x y=some u):wE u (sy Tq [x,y]):=by
 unfold wS at h
 split at h
 . rename_i w hx;obtain ⟨hd,_⟩:=Oc hx
   split at h
   . rename_i hk;obtain ⟨n,Bg,_⟩:=Mf hk (by decide);obtain ⟨dw,hu⟩:=Bg.k7;have dx:den x=_:=hd.trans (dTo dw hu)
     split at h
     . rename_i hl;cases h;obtain ⟨q,hq,rfl⟩:=ej hl;have:q= .i64:=Zb (by rw [Va];exact decide_eq_true hq)
       subst this;refine ⟨⟨7,Vp _ rfl (by decide)⟩, ?_⟩;refine (EZ dw hu).trans (Eq.trans ?_ (sG dx (Eb (-1))).symm)
       rw [rD hu,KZ];simp
     . split at h
       . rename_i hy;cases h;obtain ⟨b,haJ,_⟩:=Dj hy (by decide);obtain ⟨dy,_⟩:=haJ.k3;refine ⟨⟨7,Vp _ rfl (by decide)⟩, ?_⟩;rw [C5 (EZ dw hu) (sG (Eb (-1)) dy),sG dx dy,rD hu]
         congr 2
         have:=rD (b:=b) hu;have h2:=pB (ZF n) b;rw [this]at h2;exact Nd h2
       . cases h
   . cases h
 . cases h
theorem LZ{x y u:Value}(h:Daf x y=some u):wE u (sy DF [x,y]):=by
 unfold Daf at h
 split at h
 . rename_i w hx;obtain ⟨hd,_⟩:=Oc hx
   split at h
   . rename_i hc;simp only [Da,Bool.and_eq_true]at hc;cases h;obtain ⟨n,Bg,_⟩:=Mf hc.1 (by decide)
     obtain ⟨dw,hu⟩:=Bg.k7;obtain ⟨q,hq,rfl⟩:=ej hc.2
     have:q= .u32:=Zb (by rw [Va];exact decide_eq_true hq)
     subst this;have dx:den x=_:=hd.trans (dTo dw hu);have d0:den (Value.int .u32 0)= .v (.int .u32 0):=rfl
     refine ⟨⟨7,Vp _ rfl (by decide)⟩, ?_⟩;rw [EZ dw hu,Hag dx d0]
     congr 2
     unfold Qu;rw [wT hu];have e:uc 0 32 (n %4294967296)=n %4294967296:=by unfold uc;simp
     rw [e,IntKind.wrap_u64];omega
   . cases h
 . cases h
theorem Xs{q v:Int}{d:Bool}(h0:0<=v)(h1:v<4294967296):ud (cellW q d v):=by
 unfold cellW uc ud;cases d<;>simp<;>omega
theorem ET{q v:Int}{d:Bool}(h0:0<=v)(h1:v<4294967296)(e:Bool)(u:Int):cellW (Ed 33 31 (cellW q d v)) e u=cellW q e u:=by
 have:Ed 33 31 (cellW q d v)=q %2147483648:=by
  unfold Ed cellW uc;cases d<;>simp<;>omega
 rw [this];unfold cellW;have:uc 33 31 (q %2147483648)=uc 33 31 q:=by unfold uc;simp
 rw [this]
theorem FT{x y z u:Value}(h:xS x y z=some u):wE u (sy ep [x,y,z]):=by
 unfold xS at h
 split at h
 . rename_i w hx;obtain ⟨hd,_⟩:=Oc hx
   split at h
   . rename_i q a b hw;obtain ⟨hdw,_⟩:=Oc hw
     split at h
     . rename_i hc;cases h;simp only [Da,Bool.and_eq_true]at hc;obtain ⟨⟨hy,hz⟩,hq,ha,hb⟩:=hc;obtain ⟨nq,hq,_⟩:=Dj hq (by decide);obtain ⟨dq,_⟩:=hq.k3;obtain ⟨na,da,_⟩:=qT ha;obtain ⟨nb,hb,_⟩:=Dj hb (by decide);obtain ⟨db,v0,v1⟩:=hb.k6;obtain ⟨ny,dy,_⟩:=qT hy;obtain ⟨nz,hz,_⟩:=Dj hz (by decide);obtain ⟨dz,z0,z1⟩:=hz.k6;have cu:=Xs (q:=nq) (d:=na) v0 v1;have dw:den w= .v (.int .u64 (cellW nq na nb)):=by rw [hdw,uG dq da db,Nd cu]
       have dx:den x=_:=hd.trans (Gag dw cu);exact ⟨⟨7,Vp _ rfl (by decide)⟩,by rw [uG dq dy dz,uG dx dy dz,ET v0 v1]⟩
     . cases h
   . cases h
 . cases h
end
section
variable[Interp][Wc]
theorem pr(q:IntKind)(n:Int):den (Value.int q n)= .v (.int q n):=rfl
theorem raq{q:IntKind}{x y:Value}{a b:Int}(hx:den x= .v (.int q a))(hy:den y= .v (.int q b)):den (sy (16+Hc q) [x,y])= .v (.int q (q.wrap (a+b))):=by
 have:=Ch (n:=1) (k:=Hc q) (by have:=Ag q;omega) (by decide) [x,y];simp only [mc,hx,hy,List.map,Oa,Sm,Aq,pd]at this;exact this
theorem saq(n m:Nat):Int.sub (Int.ofNat (Nat.mod n m)) (Int.ofNat 1)=((n %m:Nat):Int) -1:=rfl
theorem IT(n d m:Nat):Int.sub (Int.ofNat (Nat.mod (Nat.div n d) m)) (Int.ofNat 1)=((n/d %m:Nat):Int) -1:=rfl
theorem taq(n d:Nat):Nat.beq (Nat.div n d) 1=decide (n/d=1):=Va _ _
theorem Kag(n m:Nat):Int.ofNat (Nat.mod n m)=(n:Int) %m:=rfl
theorem JT{t:Nat}{l:List Value}{u:Value}(h:yS t l=some u):wE u (sy t l):=by
 unfold yS at h
 split at h
 . rename_i k a
   split at h
   . rename_i n;have hx:den (Value.int .u64 (Int.ofNat n))= .v (.int .u64 (n:Int)):=rfl
     split at h
     . rename_i ht;rw [Va]at ht;have ht:=of_decide_eq_true ht;cases h;refine ⟨⟨3,rfl⟩, ?_⟩;subst ht;have:=yh (n:=64) (k:=3) (by decide) (by decide) [Value.int .u64 (Int.ofNat n)];simp only [mc,hx,Wc.wTo,Oa,rJ]at this;refine Eq.trans ?_ this.symm
       rw [saq,pr,IntKind.wrap_i64];have e:ZF (n:Int)=(n:Int) %4294967296 -1:=by
        unfold ZF Ed;rw [show((2:Int)^0)=1 by decide,show((2:Int)^32)=4294967296 by decide,Int.ediv_one]
       rw [e]
       congr 2
       omega
     . split at h
       . rename_i ht;rw [Va]at ht;have ht:=of_decide_eq_true ht;cases h;refine ⟨⟨3,rfl⟩, ?_⟩;subst ht;have:=yh (n:=65) (k:=3) (by decide) (by decide) [Value.int .u64 (Int.ofNat n)];simp only [mc,hx,Wc.wBy,Oa,rJ]at this;refine Eq.trans ?_ this.symm
         rw [IT,pr,IntKind.wrap_i64];have e:aP (n:Int)=(n:Int)/4294967296 %128 -1:=by
          unfold aP Ed;rw [show((2:Int)^32)=4294967296 by decide,show((2:Int)^7)=128 by decide]
         rw [e];exact congrArg (fun z=>(Tc.v (Value.int .i64 z):Tc Interp.G)) (by omega)
       . split at h
         . rename_i ht;rw [Va]at ht;have ht:=of_decide_eq_true ht;cases h;refine ⟨⟨8,rfl⟩, ?_⟩;subst ht;refine Eq.trans ?_ (Ws hx).symm
           rw [taq];refine congrArg (fun z=>(Tc.v (Value.bool z):Tc Interp.G)) ?_
           unfold vg;by_cases h2:n/9223372036854775808=1
           . rw [decide_eq_true h2];have:((n:Int)/9223372036854775808)=1:=by omega
             rw [this];rfl
           . rw [decide_eq_false h2];have:¬((n:Int)/9223372036854775808)=1:=by omega
             simpa using this
         . split at h
           . rename_i ht;rw [Va]at ht;have ht:=of_decide_eq_true ht;cases h;refine ⟨⟨7,rfl⟩, ?_⟩;subst ht;refine Eq.trans ?_ (En hx).symm
             rw [Kag,pr];rfl
           . cases h
   . cases h
 . rename_i k a k' b
   split at h
   . rename_i hk;rw [Va]at hk;have hk:=of_decide_eq_true hk;have:k'=k:=Zb (by rw [Va];exact decide_eq_true hk.symm);subst this
     split at h
     . rename_i ht;rw [Va]at ht;have ht:=of_decide_eq_true ht;subst ht;cases h;refine ⟨⟨8,rfl⟩, ?_⟩;refine Eq.trans ?_ (KL (pr _ _) (pr _ _)).symm
       show Tc.v (Value.bool _)=_
       congr 2
       rw [Cd,lC,<-decide_not];rw [decide_eq_decide];omega
     . split at h
       . rename_i ht;rw [Va]at ht;have ht:=of_decide_eq_true ht;subst ht;cases h;refine ⟨⟨8,rfl⟩, ?_⟩;refine Eq.trans ?_ (D5 (pr _ _) (pr _ _)).symm
         rw [Sd];rfl
       . split at h
         . rename_i ht;rw [Va]at ht;have ht:=of_decide_eq_true ht;cases h;refine ⟨⟨Hc k',rfl⟩, ?_⟩;subst ht;refine Eq.trans ?_ (raq (pr _ _) (pr _ _)).symm
           rw [Qm];rfl
         . cases h
   . cases h
 . cases h
theorem KT{F:List (Value×Value)}(hF:∀p,p∈F->den p.1=den p.2){t:Nat}{l:List Value}{u:Value}(h:zS F t l=some u):wE u (sy t l):=by
 have XQ:∀{a:Nat},Nat.beq t a=true->t=a:=fun h=>by rw [Va]at h;exact of_decide_eq_true h
 unfold zS at h
 split at h
 . split at h
   . rename_i ht;rw [XQ ht];exact FZ h
   . split at h
     . rename_i ht;rw [XQ ht];exact GZ h
     . split at h
       . rename_i ht;rw [XQ ht];exact tP hF h
       . split at h
         . rename_i ht;rw [XQ ht];exact uP h
         . split at h
           . rename_i ht;rw [XQ ht];exact zT hF h
           . cases h
 . split at h
   . rename_i ht;rw [XQ ht];exact Iag hF h
   . split at h
     . rename_i ht;rw [XQ ht];exact Jag hF h
     . split at h
       . rename_i ht;rw [XQ ht]
         split at h
         . exact ML h
         . cases h
       . split at h
         . rename_i ht;rw [XQ ht];exact JZ h
         . split at h
           . rename_i ht;rw [XQ ht];exact DT h
           . split at h
             . rename_i ht;rw [XQ ht];exact LZ h
             . cases h
 . split at h
   . rename_i ht;rw [XQ ht];exact FT h
   . cases h
 . cases h
theorem wG(F:List (Value×Value))(hF:∀p,p∈F->den p.1=den p.2)(v:Value)(c:Nat)(hv:Wf v=some c):(∃c',Wf (GF F v)=some c')/\den (GF F v)=den v:=by
 unfold GF
 split
 . rename_i t s l c'
   split
   . rename_i u hu;exact JT hu
   . split
     . rename_i u hu
       split
       . exact KT hF hu
       . exact ⟨⟨_,hv⟩,rfl⟩
     . exact ⟨⟨_,hv⟩,rfl⟩
 . exact ⟨⟨_,hv⟩,rfl⟩
end
theorem Ia(ρ:Nat->Int)(γ:Nat->Gh): @Wc (Th.at ρ γ):=by
 letI:Interp:=Th.at ρ γ
 exact ⟨fun x=>rfl,fun x=>rfl,fun x=>rfl,fun x=>rfl,fun x=>rfl,fun x=>rfl,fun x=>rfl,fun x=>rfl,fun x=>rfl,fun x=>rfl,fun x y=>rfl,fun x y=>rfl,fun x y=>rfl,fun x y z=>rfl,fun g k a b h1 h0=>by
  have:=lT (Wl g).C (k:=Oa (.v k:Tc Gh)) (a:=Oa (.v a:Tc Gh)) (b:=Oa (.v b:Tc Gh)) h1
  exact ⟨this.1,Int.le_trans this.2 (by decide)⟩⟩
theorem MZ{k:Nat}{e:Value}(h:gn k e=true):∃t s a c,e= .func (.methodOf t s) a c/\t %16=k/\9<=k:=by
 unfold gn at h
 split at h
 . rename_i t s a c;simp only [Da,Bool.and_eq_true,Va,xd,Cd,decide_eq_true_eq,Bool.not_eq_true',decide_eq_false_iff_not]at h;have h1:¬t %16<=8:=h.1
   have h2:t %16=k:=h.2
   exact ⟨t,s,a,c,rfl,h2,by omega⟩
 . cases h
theorem Lag[Interp]{t:Nat}(l:List (Tc Interp.G))(h:¬t %16<=8):∃g,Bh t l= .g (Interp.W (t %16) g):=by
 have:Nat.ble (Nat.mod t 16) 8=false:=by rw [xd];exact decide_eq_false h
 unfold Bh;rw [this];exact ⟨_,rfl⟩
section
variable{ρ:Nat->Int}{γ:Nat->Gh}
theorem xG{k:Nat}{e:Value}(h:gn k e=true):∃g, @den (Th.at ρ γ) e= .g g/\Ru k g=g:=by
 letI:Interp:=Th.at ρ γ
 obtain ⟨t,s,a,c,rfl,h1,h2⟩:=MZ h;obtain ⟨g,hg⟩:= @Lag (Th.at ρ γ) t (jI a) (fun h=>by rw [h1]at h;exact absurd h (by omega));refine ⟨_,hg, ?_⟩;rw [h1];exact Th.W_W k g
theorem Av{e:Value}(h:gn 9 e=true):∃A, @den (Th.at ρ γ) e= .g (Gh.mem A):=by
 obtain ⟨g,h1,h2⟩:=xG (ρ:=ρ) (γ:=γ) h;have h2:Gh.mem g.A=g:=h2;exact ⟨g.A,by rw [h1,h2]⟩
theorem sD{e:Value}(h:gn 11 e=true):∃c, @den (Th.at ρ γ) e= .g (Gh.lay c)/\Xh c:=by
 obtain ⟨g,h1,h2⟩:=xG (ρ:=ρ) (γ:=γ) h;have h2:Gh.lay (Cn g.C)=g:=h2;exact ⟨Cn g.C,by rw [h1,h2],JL _⟩
theorem Gx{e m:Value}(h:VC e=some m):gn 9 m=true/\∃A, @den (Th.at ρ γ) m= .g (Gh.mem A)/\ @den (Th.at ρ γ) e= .g (Gh.ref A):=by
 letI:Interp:=Th.at ρ γ
 unfold VC at h
 split at h
 . rename_i m' hm
   split at h
   . rename_i hg;cases h;obtain ⟨A,hA⟩:=Av (ρ:=ρ) (γ:=γ) hg;refine ⟨hg,A,hA, ?_⟩;rw [(Oc hm).1]
     show Bh Uq [den m]=_
     rw [hA];rfl
   . cases h
 . cases h
theorem dCk{m:Value}{A:Rv}(h: @den (Th.at ρ γ) m= .g (Gh.mem A)): @den (Th.at ρ γ) (sy EO [m])= .v (.int .i64 (IntKind.i64.wrap A.ck)):=by
 letI:Interp:=Th.at ρ γ
 have:= @yh (Th.at ρ γ) 92 3 (by decide) (by decide) [m];rw [rJ]at this;have e: @mc (Th.at ρ γ) [m]=[.g (Gh.mem A)]:=by
  show[@den (Th.at ρ γ) m]=_
  rw [h]
 rw [e]at this;exact this
theorem dWm{m:Value}{A:Rv}(h: @den (Th.at ρ γ) m= .g (Gh.mem A)): @den (Th.at ρ γ) (sy tWm [m])= .v (.int .i64 (IntKind.i64.wrap A.wm)):=by
 letI:Interp:=Th.at ρ γ
 have:= @yh (Th.at ρ γ) 96 3 (by decide) (by decide) [m];rw [rJ]at this;have e: @mc (Th.at ρ γ) [m]=[.g (Gh.mem A)]:=by
  show[@den (Th.at ρ γ) m]=_
  rw [h]
 rw [e]at this;exact this
theorem MT(r o:Nat)(n:Int)(w:World)(h:w.cell? ⟨r,o,none⟩=some (.int .i64 n)):(loadVar 3 ⟨r,o,none⟩).run Tryz.prog w= .ok (.int .i64 n) w:=by
 have hag:(isAgg 3).run Tryz.prog w= .ok false w:=by go_simp
 simp [loadVar,hag,Result.andThen,h]
theorem NZ(e:Value)(o:Nat)(ty:TypeId)(v:Value)(h:Eaf e o ty=some v)(g:Gh)(r:Nat)(O:Nat->Prop)(w:World)(hd: @den (Th.at ρ γ) e= .g g)(hg:nT g r O w):
  ∃v',(∃c,Wf v=some c)/\ @den (Th.at ρ γ) v= .v v'/\(loadVar ty ⟨r,o,none⟩).run Tryz.prog w= .ok v' w:=by
 unfold Eaf at h
 split at h
 . rename_i m hm
   split at h
   . rename_i hc;simp only [Da,Bool.and_eq_true,Va,decide_eq_true_eq]at hc;cases h;obtain ⟨_,A,h1,h2⟩:=Gx (ρ:=ρ) (γ:=γ) hm;rw [h2]at hd;injection hd with hd
     subst hd;obtain ⟨R,k1,k2,k3,k4,k5⟩:=hg;obtain ⟨q1,q2,q3⟩:=hc;refine ⟨_,⟨3,rfl⟩,dCk h1, ?_⟩;have c0:=k5.Cm;have c1:=k5.ck;have:IntKind.i64.wrap A.ck=R.ck:=by rw [k4.ck,IntKind.wrap_i64];omega
     rw [this,show o=2 from q1,show ty=3 from q3];refine MT r 2 R.ck w ?_
     rw [<-k2,Wa k1.row];rfl
   . cases h
 . cases h
end
end Sk
end Go.Proofs.YtfnkmolffhfpoaaGreat
namespace Go.Proofs.YtfnkmolffhfpoaaGreat
open Go.RowKit Go.BigFrame
theorem Xl(x d:Int)(h:0<=x):Int.tdiv x d=x/d:=Int.tdiv_eq_ediv_of_nonneg h
theorem Tf(x d:Int)(h:0<=x):Int.tmod x d=x %d:=Int.tmod_eq_emod_of_nonneg h
theorem Ix(n d:Int):(0<=n/\n.tmod d=n %d)\/(n<0/\n.tmod d=-((-n) %d)):=by
 by_cases h:0<=n
 . exact .inl ⟨h,Int.tmod_eq_emod_of_nonneg h⟩
 . refine .inr ⟨by omega, ?_⟩
   rw [<-Int.tmod_eq_emod_of_nonneg (show 0<=-n by omega),Int.neg_tmod];omega
theorem p2:((2:Int)^0=1/\(2:Int)^1=2/\(2:Int)^7=128/\(2:Int)^31=2147483648)/\(2:Int)^32=4294967296/\(2:Int)^33=8589934592:=by decide
theorem Mag(x:Int)(h:ud x)(w:World):Calls Tryz.prog 243 #[.int .u64 x] w (Gc (.int .i64 (ZF x)) w):=by
 have HC:Hid (wrap64 (wrap64 (x.tmod 4294967296)+-1)=ZF x):=Lib.hid (by
  have h0:=h.1
  have h1:=h.2
  obtain ⟨⟨p0,p1,p7,NL⟩,tD,OL⟩:=p2;simp only [Tf x _ h0,Xl x _ h0,IntKind.wrap_u64];unfold ZF Ed wrap64;rw [p0,tD];omega)
 clear h
 go_enter Tryz.func243,Tryz.ntmps243
 go_wp2_with fail
 go_ret
 exact ⟨Ta HC.out,rfl⟩
theorem Nag(x:Int)(h:ud x)(w:World):Calls Tryz.prog 150 #[.int .u64 x] w (Gc (.int .i64 (aP x)) w):=by
 have HC:Hid (wrap64 (wrap64 ((IntKind.u64.wrap (x.tdiv 4294967296)).tmod 128)+-1)=aP x):=Lib.hid (by
  have h0:=h.1
  have h1:=h.2
  obtain ⟨⟨p0,p1,p7,NL⟩,tD,OL⟩:=p2;simp only [Tf x _ h0,Xl x _ h0,IntKind.wrap_u64];rw [Tf _ _ (by omega)];unfold aP Ed wrap64;rw [p7,tD];omega)
 clear h
 go_enter Tryz.func150,Tryz.ntmps150
 go_wp2_with fail
 go_ret
 exact ⟨Ta HC.out,rfl⟩
theorem vP(x:Int)(h:ud x)(w:World):Calls Tryz.prog 252 #[.int .u64 x] w (Gc (.bool (vg x)) w):=by
 have HC:Hid ((IntKind.u64.wrap (x.tdiv 9223372036854775808)==1)=vg x):=Lib.hid (by
  have h0:=h.1
  have h1:=h.2
  obtain ⟨⟨p0,p1,p7,NL⟩,tD,OL⟩:=p2;simp only [Tf x _ h0,Xl x _ h0,IntKind.wrap_u64];have e:x/9223372036854775808 %18446744073709551616=x/9223372036854775808:=by omega
  rw [e];rfl)
 clear h
 go_enter Tryz.func252,Tryz.ntmps252
 go_wp2_with fail
 go_ret
 exact ⟨px HC.out,rfl⟩
theorem wP(x:Int)(h:ud x)(w:World):Calls Tryz.prog 251 #[.int .u64 x] w (Gc (.int .u64 (ze x)) w):=by
 have HC:Hid (x.tmod 9223372036854775808=ze x):=Lib.hid (by
  have h0:=h.1
  have h1:=h.2
  obtain ⟨⟨p0,p1,p7,NL⟩,tD,OL⟩:=p2;simp only [Tf x _ h0,Xl x _ h0,IntKind.wrap_u64];rfl)
 clear h
 go_enter Tryz.func251,Tryz.ntmps251
 go_wp2_with fail
 go_ret
 exact ⟨Ta HC.out,rfl⟩
theorem sr(x:Int)(h:ud x)(w:World):Calls Tryz.prog 292 #[.int .u64 x] w (Gc (.int .u64 (yb x)) w):=by
 have HC:Hid (IntKind.u64.wrap (x.tmod 9223372036854775808+9223372036854775808)=yb x):=Lib.hid (by
  have h0:=h.1
  have h1:=h.2
  obtain ⟨⟨p0,p1,p7,NL⟩,tD,OL⟩:=p2;simp only [Tf x _ h0,Xl x _ h0,IntKind.wrap_u64];unfold yb ze;omega)
 clear h
 go_enter Tryz.func292,Tryz.ntmps292
 go_wp2_with fail
 go_ret
 exact ⟨Ta HC.out,rfl⟩
theorem xP(x:Int)(h:ud x)(w:World):Calls Tryz.prog 293 #[.int .u64 x] w (Gc (.int .i64 (Zi x)) w):=by
 have HC:Hid (wrap64 (wrap64 (IntKind.u64.wrap (x.tdiv 4294967296))+-1)=Zi x):=Lib.hid (by
  have h0:=h.1
  have h1:=h.2
  obtain ⟨⟨p0,p1,p7,NL⟩,tD,OL⟩:=p2;simp only [Tf x _ h0,Xl x _ h0,IntKind.wrap_u64];unfold Zi Ed wrap64;rw [tD];omega)
 clear h
 go_enter Tryz.func293,Tryz.ntmps293
 go_wp2_with fail
 go_ret
 exact ⟨Ta HC.out,rfl⟩
theorem OZ(x:Int)(h:ud x)(w:World):Calls Tryz.prog 156 #[.int .u64 x] w (Gc (.int .i64 (Ed 33 31 x)) w):=by
 have HC:Hid (wrap64 (IntKind.u64.wrap (x.tdiv 8589934592))=Ed 33 31 x):=Lib.hid (by
  have h0:=h.1
  have h1:=h.2
  obtain ⟨⟨p0,p1,p7,NL⟩,tD,OL⟩:=p2;simp only [Tf x _ h0,Xl x _ h0,IntKind.wrap_u64];unfold Ed wrap64;rw [NL,OL];omega)
 clear h
 go_enter Tryz.func156,Tryz.ntmps156
 go_wp2_with fail
 go_ret
 exact ⟨Ta HC.out,rfl⟩
theorem NT(x:Int)(h:ud x)(w:World):Calls Tryz.prog 153 #[.int .u64 x] w (Gc (.bool (Ed 32 1 x==1)) w):=by
 have HC:Hid (((IntKind.u64.wrap (x.tdiv 4294967296)).tmod 2==1)=(Ed 32 1 x==1)):=Lib.hid (by
  have h0:=h.1
  have h1:=h.2
  obtain ⟨⟨p0,p1,p7,NL⟩,tD,OL⟩:=p2;simp only [Tf x _ h0,Xl x _ h0,IntKind.wrap_u64];rw [Tf _ _ (by omega)];unfold Ed;rw [p1,tD];have e:x/4294967296 %18446744073709551616=x/4294967296:=by omega
  rw [e])
 clear h
 go_enter Tryz.func153,Tryz.ntmps153
 go_wp2_with fail
 go_ret
 exact ⟨px HC.out,rfl⟩
theorem PZ(x:Int)(h:ud x)(w:World):Calls Tryz.prog 302 #[.int .u64 x] w (Gc (.int .u32 (jA x)) w):=by
 have HC:Hid (IntKind.u64.wrap (x.tdiv 4294967296) %4294967296=jA x):=Lib.hid (by
  have h0:=h.1
  have h1:=h.2
  obtain ⟨⟨p0,p1,p7,NL⟩,tD,OL⟩:=p2;simp only [Tf x _ h0,Xl x _ h0,IntKind.wrap_u64];unfold jA;omega)
 clear h
 go_enter Tryz.func302,Tryz.ntmps302
 go_wp2_with fail
 go_ret
 exact ⟨Ta HC.out,rfl⟩
theorem uD(n:Int)(h0:-9223372036854775808<=n)(h1:n<=9223372036854775807)(w:World):Calls Tryz.prog 250 #[.int .i64 n, .int .i64 4294967296] w (Gc (.int .i64 ((n+1) %4294967296)) w):=by
 have HC:Hid (∀t,n.tmod 4294967296=t->(t<0->(wrap64 (wrap64 (t+4294967296)+1)).tmod 4294967296=(n+1) %4294967296)/\(0<=t->(wrap64 (t+1)).tmod 4294967296=(n+1) %4294967296)):=Lib.hid (by
  intro t ht;rcases Ix n 4294967296 with⟨a,b⟩|⟨a,b⟩
  . rw [b]at ht;refine ⟨fun h=>by omega,fun h=> ?_⟩;have e:wrap64 (t+1)=t+1:=by unfold wrap64;omega
    rw [e,Tf _ _ (by omega)];omega
  . rw [b]at ht;refine ⟨fun h=> ?_,fun h=> ?_⟩
    . have e:wrap64 (wrap64 (t+4294967296)+1)=t+4294967296+1:=by unfold wrap64;omega
      rw [e,Tf _ _ (by omega)];omega
    . have e:wrap64 (t+1)=t+1:=by unfold wrap64;omega
      rw [e,Tf _ _ (by omega)];omega)
 obtain ⟨t,ht⟩:∃t,t=n.tmod 4294967296:=⟨_,rfl⟩;have HT:=Lib.hid ht;clear ht h0 h1
 go_enter Tryz.func250,Tryz.ntmps250
 go_wp2_with fail
 . rename_i q
   go_ret
   exact ⟨Ta ((HC.out _ rfl).1 q),rfl⟩
 . rename_i q
   go_ret
   exact ⟨Ta ((HC.out _ rfl).2 q),rfl⟩
theorem uaq(n:Int)(h0:-9223372036854775808<=n)(h1:n<=9223372036854775807)(w:World):Calls Tryz.prog 250 #[.int .i64 n, .int .i64 128] w (Gc (.int .i64 ((n+1) %128)) w):=by
 have HC:Hid (∀t,n.tmod 128=t->(t<0->(wrap64 (wrap64 (t+128)+1)).tmod 128=(n+1) %128)/\(0<=t->(wrap64 (t+1)).tmod 128=(n+1) %128)):=Lib.hid (by
  intro t ht;rcases Ix n 128 with⟨a,b⟩|⟨a,b⟩
  . rw [b]at ht;refine ⟨fun h=>by omega,fun h=> ?_⟩;have e:wrap64 (t+1)=t+1:=by unfold wrap64;omega
    rw [e,Tf _ _ (by omega)];omega
  . rw [b]at ht;refine ⟨fun h=> ?_,fun h=> ?_⟩
    . have e:wrap64 (wrap64 (t+128)+1)=t+128+1:=by unfold wrap64;omega
      rw [e,Tf _ _ (by omega)];omega
    . have e:wrap64 (t+1)=t+1:=by unfold wrap64;omega
      rw [e,Tf _ _ (by omega)];omega)
 obtain ⟨t,ht⟩:∃t,t=n.tmod 128:=⟨_,rfl⟩;have HT:=Lib.hid ht;clear ht h0 h1
 go_enter Tryz.func250,Tryz.ntmps250
 go_wp2_with fail
 . rename_i q
   go_ret
   exact ⟨Ta ((HC.out _ rfl).1 q),rfl⟩
 . rename_i q
   go_ret
   exact ⟨Ta ((HC.out _ rfl).2 q),rfl⟩
theorem OT(t b:Int)(t0:-9223372036854775808<=t)(t1:t<=9223372036854775807)(b0:-9223372036854775808<=b)(b1:b<=9223372036854775807)(w:World):Calls Tryz.prog 161 #[.int .i64 t, .int .i64 b] w (Gc (.int .u64 (aj t b)) w):=by
 have HC:Hid ((t+1) %4294967296+4294967296*((b+1) %128)=aj t b):=Lib.hid (by
  obtain ⟨⟨p0,p1,p7,NL⟩,tD,OL⟩:=p2;unfold aj uc Ld;rw [p0,tD,p7];omega)
 have H1:=Lib.hid fun w=>uD t t0 t1 w
 have H2:=Lib.hid fun w=>uaq b b0 b1 w
 clear t0 t1 b0 b1
 go_enter Tryz.func161,Tryz.ntmps161
 go_wp2_with fail
 refine (H1.out _).mono ?_
 rintro e w1 ⟨rfl,rfl⟩
 go_wp2_with fail
 refine (H2.out _).mono ?_
 rintro e w1 ⟨rfl,rfl⟩
 go_wp2_with fail
 go_ret
 exact ⟨Ta HC.out,rfl⟩
theorem yP(t b:Int)(t0:-9223372036854775808<=t)(t1:t<=9223372036854775807)(b0:-9223372036854775808<=b)(b1:b<=9223372036854775807)(w:World):Calls Tryz.prog 249 #[.int .i64 t, .int .i64 b] w (Gc (.int .u64 (bj t b)) w):=by
 have HC:Hid ((t+1) %4294967296+4294967296*((b+1) %4294967296)=bj t b):=Lib.hid (by
  obtain ⟨⟨p0,p1,p7,NL⟩,tD,OL⟩:=p2;unfold bj uc Ld;rw [p0,tD];omega)
 have H1:=Lib.hid fun w=>uD t t0 t1 w
 have H2:=Lib.hid fun w=>uD b b0 b1 w
 clear t0 t1 b0 b1
 go_enter Tryz.func249,Tryz.ntmps249
 go_wp2_with fail
 refine (H1.out _).mono ?_
 rintro e w1 ⟨rfl,rfl⟩
 go_wp2_with fail
 refine (H2.out _).mono ?_
 rintro e w1 ⟨rfl,rfl⟩
 go_wp2_with fail
 go_ret
 exact ⟨Ta HC.out,rfl⟩
theorem QZ(t v:Int)(t0:-9223372036854775808<=t)(t1:t<=9223372036854775807)(h0:0<=v)(h1:v<4294967296)(w:World):Calls Tryz.prog 301 #[.int .i64 t, .int .u32 v] w (Gc (.int .u64 (Qu t v)) w):=by
 have HC:Hid ((t+1) %4294967296+4294967296*v=Qu t v):=Lib.hid (by
  obtain ⟨⟨p0,p1,p7,NL⟩,tD,OL⟩:=p2;unfold Qu uc Ld;rw [p0,tD];omega)
 have H1:=Lib.hid fun w=>uD t t0 t1 w
 clear t0 t1
 go_enter Tryz.func301,Tryz.ntmps301
 go_wp2_with fail
 refine (H1.out _).mono ?_
 rintro e w1 ⟨rfl,rfl⟩
 go_wp2_with fail
 go_ret
 exact ⟨Ta HC.out,rfl⟩
theorem PT(q v:Int)(d:Bool)(q0:-9223372036854775808<=q)(q1:q<=9223372036854775807)(h0:0<=v)(h1:v<4294967296)(w:World):Calls Tryz.prog 155 #[.int .i64 q, .bool d, .int .u32 v] w (Gc (.int .u64 (cellW q d v)) w):=by
 go_enter Tryz.func155,Tryz.ntmps155
 cases d
 all_goals go_wp2_with fail
 all_goals go_ret
 all_goals refine ⟨Ta (?_:_=_),rfl⟩
 all_goals
  obtain ⟨⟨p0,p1,p7,NL⟩,tD,OL⟩:=p2;simp only [IntKind.wrap_u64];unfold cellW uc;rw [NL,OL];simp only [Bool.false_eq_true,if_false,if_true]
  try unfold wrap64
  rcases Ix q 2147483648 with⟨a,b⟩|⟨a,b⟩
  all_goals omega
end Go.Proofs.YtfnkmolffhfpoaaGreat
namespace Go.Proofs.YtfnkmolffhfpoaaGreat
namespace Sk
open Go.RowKit
section
variable[Interp]
theorem Qc.same{B:Nat->Prop}{w0:World}{R:Mp}{σ:AH}{w w':World}(hS:Qc B w0 R σ w)(h:Below w.heap.size w w'):Qc B w0 R σ w' where
 tC:=hS.tC
 lt:=fun b r s hb=>Nat.lt_of_lt_of_le (hS.lt b r s hb) h.size
 obj:=fun b r s o hb ho=>⟨(hS.obj b r s o hb ho).1,by rw [h.block r (hS.lt b r s hb)];exact (hS.obj b r s o hb ho).2⟩
 inj:=hS.inj
 below:=⟨h.os.trans hS.below.os,h.tape.trans hS.below.tape,h.output.trans hS.below.output,Nat.le_trans hS.below.size h.size,fun k hk hb=>(h.block k (Nat.lt_of_lt_of_le hk hS.below.size)).trans (hS.below.block k hk hb)⟩
 base:=hS.base
 MK:=by
  obtain ⟨O,hO⟩:=hS.MK;refine ⟨O,fun b r s e hb he=> ?_⟩;obtain ⟨⟨g,h1,h2⟩,h3⟩:=hO b r s e hb he;exact ⟨⟨g,h1,Interp.gh_keep g r (O b) w w' h2 h.size fun k hk=>h.block k (Interp.gh_lt g r (O b) w h2 k hk)⟩,h3⟩
theorem QT{R:Mp}{k:Nat}{v v':Value}(h:VR R v v')(hs:tc k v=true)(hk:k<=7):∃n q,Hc q=k/\v'= .int q n/\den v= .v (.int q n)/\q.wrap n=n:=by
 obtain ⟨n,⟨q,h1,h2,h3⟩,h4⟩:=Dj hs hk;have:=js h h4;rw [h2]at this;injection this with this
 exact ⟨n,q,h1,this.symm,h2,h3⟩
theorem Te{R:Mp}{v v':Value}(h:VR R v v')(hs:tc 3 v=true):∃n,v'= .int .i64 n/\den v= .v (.int .i64 n)/\-9223372036854775808<=n/\n<=9223372036854775807:=by
 obtain ⟨n,q,h1,h2,h3,h4⟩:=QT h hs (by decide);have:q= .i64:=Zb (by rw [Va];exact decide_eq_true h1)
 subst this;rw [IntKind.wrap_i64]at h4;exact ⟨n,h2,h3,by omega,by omega⟩
theorem mu{R:Mp}{v v':Value}(h:VR R v v')(hs:tc 7 v=true):∃n,v'= .int .u64 n/\den v= .v (.int .u64 n)/\ud n:=by
 obtain ⟨n,q,h1,h2,h3,h4⟩:=QT h hs (by decide);have:q= .u64:=Zb (by rw [Va];exact decide_eq_true h1)
 subst this;rw [IntKind.wrap_u64]at h4;exact ⟨n,h2,h3,by unfold ud;omega⟩
theorem PL{R:Mp}{v v':Value}(h:VR R v v')(hs:tc 6 v=true):∃n,v'= .int .u32 n/\den v= .v (.int .u32 n)/\0<=n/\n<4294967296:=by
 obtain ⟨n,q,h1,h2,h3,h4⟩:=QT h hs (by decide);have:q= .u32:=Zb (by rw [Va];exact decide_eq_true h1)
 subst this;rw [IntKind.wrap_u32]at h4;exact ⟨n,h2,h3,by omega,by omega⟩
theorem vaq{R:Mp}{v v':Value}(h:VR R v v')(hs:tc 8 v=true):∃b,v'= .bool b/\den v= .v (.bool b):=by
 obtain ⟨b,h1,h2⟩:=qT hs;have:=js h h2;rw [h1]at this;injection this with this
 exact ⟨b,this.symm,h1⟩
def yG(P:Program)(F:List (Value×Value))(g:List (Value×Value)->List Value->AH->Option (Value×AH))(f:FuncId):Prop:=
 ∀args σ v σ',g F args σ=some (v,σ')->∀(B:Nat->Prop) (w0:World) (R:Mp) (w:World) (args':List Value),Qc B w0 R σ w->LR R args args'->Calls P f ⟨args'⟩ w (Lh B w0 R σ v σ')
theorem Eg{P:Program}{f:FuncId}{args':Array Value}{B:Nat->Prop}{w0:World}{R:Mp}{σ:AH}{w:World}{v v':Value}(hS:Qc B w0 R σ w)(hv:VR R v v')(h:Calls P f args' w (Fc v' w)):Calls P f args' w (Lh B w0 R σ v σ):=by
 refine h.mono ?_
 rintro e w' ⟨rfl,hb⟩;exact ⟨R,v',rfl,Ext.refl R σ,hv,hS.same hb⟩
variable[Wc]
theorem Ue{F:List (Value×Value)}(hF:∀p,p∈F->den p.1=den p.2){t:Nat}(l:List Value)(ht:t %16<=8):(∃c,Wf (mk F t l)=some c)/\den (mk F t l)=den (sy t l):=by
 unfold mk;obtain ⟨⟨c,h1⟩,h2⟩:=wG F hF (sy t l) (t %16) (PE l ht);exact ⟨ew h1,(so hF _).trans h2⟩
def Lc(P:Program)(f t:Nat)(ks:List Nat):Prop:=∀(args args':List Value) (R:Mp),Ql ks args=true->LR R args args'->∃v',den (sy t args)= .v v'/\∀w,Calls P f ⟨args'⟩ w (Fc v' w)
theorem Ib{P:Program}{F:List (Value×Value)}(hF:∀p,p∈F->den p.1=den p.2){f t:Nat}{ks:List Nat}(ht:t %16<=8)(h:Lc P f t ks):yG P F (Kc t ks) f:=by
 intro args σ v σ' hg B w0 R w args' hS hl;unfold Kc at hg
 split at hg
 . rename_i h1 h2;cases hg;obtain ⟨v',k1,k2⟩:=h args args' R h2 hl;obtain ⟨⟨c,q1⟩,q2⟩:=Ue hF args ht;exact Eg hS (Yc R q1 (q2.trans k1)) (k2 w)
 . cases hg
end
end Sk
end Go.Proofs.YtfnkmolffhfpoaaGreat
