/- -/
import Derived.Test.YtfnkmolffhfpoaaGreatHb26
set_option linter.unusedVariables false
set_option linter.unusedSimpArgs false
set_option linter.unusedSectionVars false
namespace Go.Proofs.YtfnkmolffhfpoaaGreat
namespace Sk
open Go.RowKit
class Bc [Interp]:Prop where
 wTo:∀x:Value,Interp.U 64 [.v x]=KA (Ha (.v x:tc Interp.G))
 wBy:∀x:Value,Interp.U 65 [.v x]=QH (Ha (.v x:tc Interp.G))
 nY:∀x:Value,Interp.U 66 [.v x]=mh (Ha (.v x:tc Interp.G))
 kaq:∀x:Value,Interp.U 67 [.v x]=iv (Ha (.v x:tc Interp.G))
 laq:∀x:Value,Interp.U 68 [.v x]=vK (Ha (.v x:tc Interp.G))
 maq:∀x:Value,Interp.U 69 [.v x]=Nc 33 31 (Ha (.v x:tc Interp.G))
 vac:∀x:Value,Interp.U 70 [.v x]=bN (Nc 32 1 (Ha (.v x:tc Interp.G))==1)
 oY:∀x:Value,Interp.U 71 [.v x]=bN (vf (Ha (.v x:tc Interp.G)))
 pY:∀x:Value,Interp.U 72 [.v x]=Od (Ha (.v x:tc Interp.G))
 wac:∀x:Value,Interp.U 73 [.v x]=Xa (Ha (.v x:tc Interp.G))
 xac:∀x y:Value,Interp.U 74 [.v x, .v y]=nh (Ha (.v x:tc Interp.G)) (Ha (.v y:tc Interp.G))
 qY:∀x y:Value,Interp.U 75 [.v x, .v y]=oh (Ha (.v x:tc Interp.G)) (Ha (.v y:tc Interp.G))
 naq:∀x y:Value,Interp.U 76 [.v x, .v y]=vq (Ha (.v x:tc Interp.G)) (Ha (.v y:tc Interp.G))
 yac:∀x y z:Value,Interp.U 77 [.v x, .v y, .v z]=cellW (Ha (.v x:tc Interp.G)) (decide (Ha (.v y:tc Interp.G)≠0)) (Ha (.v z:tc Interp.G))
 at_:∀(g:tc Interp.G) (k a b:Value),Ha (.v k:tc Interp.G)<=13->0<=Ha (.v k:tc Interp.G)->0<=Interp.U 80 [g, .v k, .v a, .v b]/\Interp.U 80 [g, .v k, .v a, .v b]<=9223372036854775807
section
variable[Interp]
theorem qc{t:Nat}{v:Value}{l:List Value}(h:Ye t v=some l):den v=den (sy t l)/\Xj v=true:=by
 unfold Ye at h
 split at h
 . rename_i u s l' c
   split at h
   . rename_i hb;rw [Ja]at hb;have:=of_decide_eq_true hb;subst this;cases h;exact ⟨rfl,rfl⟩
   . cases h
 . cases h
theorem qM{t:Nat}{v:Value}{l:List Value}(h:Ye t v=some l):∃s c,v= .func (.methodOf t s) ⟨l⟩ c:=by
 unfold Ye at h
 split at h
 . rename_i u s l' c
   split at h
   . rename_i hb;rw [Ja]at hb;have:=of_decide_eq_true hb;subst this;cases h;exact ⟨_,_,rfl⟩
   . cases h
 . cases h
def In(k:Nat)(v:Value)(n:Int):Prop:=∃q,Xb q=k/\den v= .v (.int q n)/\q.wrap n=n
theorem ji{k:Nat}{v:Value}(h:Qb k v=true)(hk:k<=7):∃n,In k v n/\Ue v=some k:=by
 cases v with
 |int q n=>
  simp only [Qb]at h
  split at h
  . rename_i hb;rw [Ja]at hb;have:=of_decide_eq_true hb;rw [oe,tk]at h;exact ⟨n,⟨q,this,rfl,of_decide_eq_true h⟩,by simp [Ue,this]⟩
  . cases h
 |bool b=>
  simp only [Qb,Ja]at h;have:=of_decide_eq_true h;omega
 |func f a c=>cases f with
  |methodOf t s=>
   simp only [Qb,Ja]at h;have ht:t %16=k:=of_decide_eq_true h;obtain ⟨q,h1,h2⟩:=Ey (c:=k) hk;refine ⟨_,⟨q,h2,by rw [Qe,uj _ (by rw [ht];omega),ht,<-h2,Hc],wrap_wrap _ _⟩, ?_⟩;simp only [Ue];rw [show Nat.mod t 16=k from ht,show Nat.ble k 8=true by rw [jd];exact decide_eq_true (by omega)]
  |_=>simp [Qb]at h
 |_=>simp [Qb]at h
theorem rY{k:Nat}{v:Value}(h:Gv k v=true):Qb k v=true:=by
 unfold Gv at h
 split at h
 . exact h
 . cases h
theorem Ie{k:Nat}{v:Value}(h:Gv k v=true)(hk:k<=7):∃n,In k v n/\Ue v=some k:=ji (rY h) hk
theorem In.k3{v:Value}{n:Int}(h:In 3 v n):den v= .v (.int .i64 n)/\-9223372036854775808<=n/\n<=9223372036854775807:=by
 obtain ⟨q,h1,h2,h3⟩:=h;have:q= .i64:=Nb (by rw [Ja];exact decide_eq_true h1)
 subst this;rw [IntKind.wrap_i64]at h3;exact ⟨h2,by omega,by omega⟩
theorem In.k7{v:Value}{n:Int}(h:In 7 v n):den v= .v (.int .u64 n)/\cd n:=by
 obtain ⟨q,h1,h2,h3⟩:=h;have:q= .u64:=Nb (by rw [Ja];exact decide_eq_true h1)
 subst this;rw [IntKind.wrap_u64]at h3;exact ⟨h2,by unfold cd;omega⟩
theorem In.k6{v:Value}{n:Int}(h:In 6 v n):den v= .v (.int .u32 n)/\0<=n/\n<4294967296:=by
 obtain ⟨q,h1,h2,h3⟩:=h;have:q= .u32:=Nb (by rw [Ja];exact decide_eq_true h1)
 subst this;rw [IntKind.wrap_u32]at h3;exact ⟨h2,by omega,by omega⟩
theorem rM{v:Value}(h:Qb 8 v=true):∃b,den v= .v (.bool b)/\Ue v=some 8:=by
 cases v with
 |int q n=>
  simp only [Qb]at h
  split at h
  . rename_i hb;rw [Ja]at hb;have:=of_decide_eq_true hb;have:=Ef q;omega
  . cases h
 |bool b=>exact ⟨b,rfl,rfl⟩
 |func f a c=>cases f with
  |methodOf t s=>
   simp only [Qb,Ja]at h;have ht:t %16=8:=of_decide_eq_true h;refine ⟨_,by rw [Qe,uj _ (by rw [ht];omega),ht,Qc], ?_⟩;simp only [Ue];rw [show Nat.mod t 16=8 from ht]
  |_=>simp [Qb]at h
 |_=>simp [Qb]at h
theorem Eh{k:Nat}{n:Int}{v:Value}(h:isLit k n v=true):∃q,Xb q=k/\v= .int q n:=by
 unfold isLit at h
 split at h
 . rename_i q m
   split at h
   . rename_i hb;rw [Ja]at hb;rw [oe]at h;rw [of_decide_eq_true h];exact ⟨q,of_decide_eq_true hb,rfl⟩
   . cases h
 . cases h
theorem Ge{F:List (Value×Value)}(hF:∀p,p∈F->den p.1=den p.2){c:Value}{b:Bool}(h:known F c=some b):den c= .v (.bool b):=by
 unfold known at h
 split at h
 . rename_i b' hb;cases h;rw [<-ql hF c,hb];rfl
 . cases h
theorem mg{n k:Nat}(hk:k<=8)(hn:64<=n)(l:List Value):den (sy (16*n+k) l)= .v (fk k (Interp.U n (jc l))):=by
 have e1:(16*n+k) %16=k:=by omega
 have e2:(16*n+k)/16=n:=by omega
 unfold sy;rw [Qe,uj _ (by omega),e1,e2];have:Nat.ble 64 n=true:=by rw [jd];exact decide_eq_true hn
 rw [this];rfl
theorem ME(n:Int):fk 3 n= .int .i64 (IntKind.i64.wrap n):=Hc .i64 n
theorem fk6(n:Int):fk 6 n= .int .u32 (IntKind.u32.wrap n):=Hc .u32 n
theorem NP(n:Int):fk 7 n= .int .u64 (IntKind.u64.wrap n):=Hc .u64 n
theorem mb(n:Int):den (rb n)= .v (.int .i64 n):=rfl
theorem jx(n:Nat):den (Zh n)= .v (.int .u64 (n:Int)):=rfl
theorem Gz{x y:Value}{a b:Int}(hx:den x= .v (.int .i64 a))(hy:den y= .v (.int .i64 b)):den (sy 19 [x,y])= .v (.int .i64 (IntKind.i64.wrap (a+b))):=by
 have:=xg (n:=1) (k:=3) (by decide) (by decide) [x,y];simp only [jc,hx,hy,List.map,Ha,vk,Pn,ME]at this;exact this
theorem TT{x y:Value}{a b:Int}(hx:den x= .v (.int .u64 a))(hy:den y= .v (.int .u64 b)):den (sy 23 [x,y])= .v (.int .u64 (IntKind.u64.wrap (a+b))):=by
 have:=xg (n:=1) (k:=7) (by decide) (by decide) [x,y];simp only [jc,hx,hy,List.map,Ha,vk,Pn,NP]at this;exact this
theorem paq{x y:Value}{a b:Int}(hx:den x= .v (.int .i64 a))(hy:den y= .v (.int .i64 b)):den (sy 35 [x,y])= .v (.int .i64 (IntKind.i64.wrap (a -b))):=by
 have:=xg (n:=2) (k:=3) (by decide) (by decide) [x,y];simp only [jc,hx,hy,List.map,Ha,vk,Pn,ME]at this;exact this
theorem IG{x y:Value}{k:IntKind}{a b:Int}(hx:den x= .v (.int k a))(hy:den y= .v (.int k b)):den (sy 280 [x,y])= .v (.bool (decide (a<b))):=by
 have:=xg (n:=17) (k:=8) (by decide) (by decide) [x,y];simp only [jc,hx,hy,List.map,Ha,vk,Pn,Qc]at this;by_cases h:a<b<;>simp [h]at this⊢<;>exact this
theorem UT{x y:Value}{k:IntKind}{a b:Int}(hx:den x= .v (.int k a))(hy:den y= .v (.int k b)):den (sy 264 [x,y])= .v (.bool (decide (a=b))):=by
 have:=xg (n:=16) (k:=8) (by decide) (by decide) [x,y];simp only [jc,hx,hy,List.map,Ha,vk,Pn,Qc]at this;by_cases h:a=b<;>simp [h]at this⊢<;>exact this
theorem qaq{x:Value}{b:Bool}(hx:den x= .v (.bool b)):den (sy 296 [x])= .v (.bool (!b)):=by
 have:=xg (n:=18) (k:=8) (by decide) (by decide) [x];simp only [jc,hx,List.map,Ha,vk,Pn,Qc]at this;cases b<;>simp at this⊢<;>exact this
theorem rR{x:Value}{a:Int}(hx:den x= .v (.int .u64 a))(h:cd a):den (sy 199 [x,Zh 4294967296])= .v (.int .u64 (a %4294967296)):=by
 have:=xg (n:=12) (k:=7) (by decide) (by decide) [x,Zh 4294967296];simp only [jc,hx,jx,List.map,Ha,vk,Pn,NP]at this;refine this.trans ?_
 have e:a.tmod ((4294967296:Nat):Int)=a %4294967296:=Int.tmod_eq_emod_of_nonneg h.1
 rw [e,IntKind.wrap_u64]
 congr 2
 omega
theorem zac{x:Value}{k:IntKind}{a:Int}(hx:den x= .v (.int k a)):den (sy 166 [x])= .v (.int .u32 (a %4294967296)):=by
 have:=xg (n:=10) (k:=6) (by decide) (by decide) [x];simp only [jc,hx,List.map,Ha,vk,Pn,fk6]at this;rw [IntKind.wrap_u32]at this;exact this
theorem Aac{x:Value}{k:IntKind}{a:Int}(hx:den x= .v (.int k a)):den (sy 167 [x])= .v (.int .u64 (a %18446744073709551616)):=by
 have:=xg (n:=10) (k:=7) (by decide) (by decide) [x];simp only [jc,hx,List.map,Ha,vk,Pn,NP]at this;rw [IntKind.wrap_u64]at this;exact this
variable[Bc]
theorem sM{a:Int}(h:cd a):-1<=KA a/\KA a<4294967295:=by have:=ni 0 32 a;have:=Eg 0 32 a;unfold KA;omega
theorem tM{a:Int}(h:cd a):-1<=QH a/\QH a<127:=by have:=ni 32 7 a;have:=Eg 32 7 a;unfold QH;omega
theorem ox{a:Int}(h:cd a):-1<=mh a/\mh a<4294967295:=by have:=ni 32 32 a;have:=Eg 32 32 a;unfold mh;omega
theorem dTo{x:Value}{a:Int}(hx:den x= .v (.int .u64 a))(h:cd a):den (sy LL [x])= .v (.int .i64 (KA a)):=by
 have:=mg (n:=64) (k:=3) (by decide) (by decide) [x];simp only [jc,hx,Bc.wTo,Ha,ME]at this;refine this.trans ?_
 have:=sM h;rw [IntKind.wrap_i64];congr 2;omega
theorem dBy{x:Value}{a:Int}(hx:den x= .v (.int .u64 a))(h:cd a):den (sy GQ [x])= .v (.int .i64 (QH a)):=by
 have:=mg (n:=65) (k:=3) (by decide) (by decide) [x];simp only [jc,hx,Bc.wBy,Ha,ME]at this;refine this.trans ?_
 have:=tM h;rw [IntKind.wrap_i64];congr 2;omega
theorem PE{x:Value}{a:Int}(hx:den x= .v (.int .u64 a))(h:cd a):den (sy Wm [x])= .v (.int .i64 (mh a)):=by
 have:=mg (n:=66) (k:=3) (by decide) (by decide) [x];simp only [jc,hx,Bc.nY,Ha,ME]at this;refine this.trans ?_
 have:=ox h;rw [IntKind.wrap_i64];congr 2;omega
theorem sY{x:Value}{a:Int}(hx:den x= .v (.int .u64 a))(h:cd a):den (sy DI [x])= .v (.int .u32 (a %4294967296)):=by
 have:=mg (n:=68) (k:=6) (by decide) (by decide) [x];simp only [jc,hx,Bc.laq,Ha,fk6]at this;refine this.trans ?_
 rw [IntKind.wrap_u32];unfold vK;congr 2;omega
theorem tY{x:Value}{a:Int}(hx:den x= .v (.int .u64 a))(h:cd a):den (sy iE [x])= .v (.int .i64 (Nc 33 31 a)):=by
 have:=mg (n:=69) (k:=3) (by decide) (by decide) [x];simp only [jc,hx,Bc.maq,Ha,ME]at this;refine this.trans ?_
 have:=ni 33 31 a;have:=Eg 33 31 a;rw [IntKind.wrap_i64];congr 2;omega
theorem Dp{x:Value}{a:Int}(hx:den x= .v (.int .u64 a)):den (sy Sg [x])= .v (.bool (vf a)):=by
 have:=mg (n:=71) (k:=8) (by decide) (by decide) [x];simp only [jc,hx,Bc.oY,Ha,Qc]at this;refine this.trans ?_
 cases vf a<;>rfl
theorem QE(a:Int):cd (Od a):=by unfold Od cd;omega
theorem px(a:Int):cd (Xa a):=by unfold Xa Od cd;omega
theorem Yc{a:Int}(h:cd a):IntKind.u64.wrap a=a:=by rw [IntKind.wrap_u64];unfold cd at h;omega
theorem Lk{x:Value}{a:Int}(hx:den x= .v (.int .u64 a)):den (sy Tg [x])= .v (.int .u64 (Od a)):=by
 have:=mg (n:=72) (k:=7) (by decide) (by decide) [x];simp only [jc,hx,Bc.pY,Ha,NP]at this;rw [Yc (QE a)]at this;exact this
theorem qx{x:Value}{a:Int}(hx:den x= .v (.int .u64 a)):den (sy tg [x])= .v (.int .u64 (Xa a)):=by
 have:=mg (n:=73) (k:=7) (by decide) (by decide) [x];simp only [jc,hx,Bc.wac,Ha,NP]at this;rw [Yc (px a)]at this;exact this
theorem tx(a b:Int):cd (nh a b):=by unfold nh Sb Tc cd;omega
theorem BC{x y:Value}{a b:Int}(hx:den x= .v (.int .i64 a))(hy:den y= .v (.int .i64 b)):den (sy mo [x,y])= .v (.int .u64 (nh a b)):=by
 have:=mg (n:=74) (k:=7) (by decide) (by decide) [x,y];simp only [jc,hx,hy,Bc.xac,Ha,NP]at this;rw [Yc (tx a b)]at this;exact this
theorem uY{x y:Value}{a b:Int}(hx:den x= .v (.int .i64 a))(hy:den y= .v (.int .u32 b)):den (sy TB [x,y])= .v (.int .u64 (IntKind.u64.wrap (vq a b))):=by
 have:=mg (n:=76) (k:=7) (by decide) (by decide) [x,y];simp only [jc,hx,hy,Bc.naq,Ha,NP]at this;exact this
theorem Cac{x:Value}{a:Int}(hx:den x= .v (.int .u64 a))(h:cd a):den (sy CI [x])= .v (.int .u32 (iv a)):=by
 have:=mg (n:=67) (k:=6) (by decide) (by decide) [x];simp only [jc,hx,Bc.kaq,Ha,fk6]at this;refine this.trans ?_
 have:=h.1;have:=h.2
 rw [IntKind.wrap_u32];unfold iv;congr 2;omega
theorem VT{x:Value}{a:Int}(hx:den x= .v (.int .u64 a)):den (sy Sw [x])= .v (.bool (Nc 32 1 a==1)):=by
 have:=mg (n:=70) (k:=8) (by decide) (by decide) [x];simp only [jc,hx,Bc.vac,Ha,Qc]at this;refine this.trans ?_
 cases (Nc 32 1 a==1)<;>rfl
theorem RE(a b:Int):cd (oh a b):=by unfold oh Sb Tc cd;omega
theorem uM{x y:Value}{a b:Int}(hx:den x= .v (.int .i64 a))(hy:den y= .v (.int .i64 b)):den (sy vp [x,y])= .v (.int .u64 (oh a b)):=by
 have:=mg (n:=75) (k:=7) (by decide) (by decide) [x,y];simp only [jc,hx,hy,Bc.qY,Ha,NP]at this;rw [Yc (RE a b)]at this;exact this
theorem CC{a b:Int}(h0:0<=b)(h1:b<4294967296):cd (vq a b):=by unfold vq Sb Tc cd;omega
theorem DC{x y z:Value}{a c:Int}{b:Bool}(hx:den x= .v (.int .i64 a))(hy:den y= .v (.bool b))(hz:den z= .v (.int .u32 c)):den (sy gm [x,y,z])= .v (.int .u64 (IntKind.u64.wrap (cellW a b c))):=by
 have:=mg (n:=77) (k:=7) (by decide) (by decide) [x,y,z];simp only [jc,hx,hy,hz,Bc.yac,Ha,NP]at this;refine this.trans ?_
 cases b<;>rfl
end
section
variable[Interp][Bc]
def IA(u v:Value):Prop:=(∃c,Ue u=some c)/\den u=den v
theorem Ym{t k:Nat}(l:List Value)(h:t %16=k)(hk:k<=8):Ue (sy t l)=some k:=by rw [eB l (by omega),h]
theorem vM{a:Int}(h:cd a):Tc (KA a)=a %4294967296:=by
 have h1:=ni 0 32 a;have h2:=Eg 0 32 a;unfold Tc KA;have:Nc 0 32 a=a %4294967296:=by unfold Nc;simp
 omega
theorem JG{x u:Value}{b:Int}(h:KQ x b=some u):IA u (sy 19 [x,rb b]):=by
 unfold KQ at h
 split at h
 . rename_i y a hx;obtain ⟨hd,_⟩:=qc hx
   split at h
   . rename_i hk;obtain ⟨n,Cf,wM⟩:=Ie hk (by decide);obtain ⟨dy,b1,b2⟩:=Cf.k3;have dx:den x= .v (.int .i64 (IntKind.i64.wrap (n+a))):=hd.trans (Gz dy (mb a))
     have dl:=Gz dx (mb b)
     split at h
     . rename_i hz;cases h;refine ⟨⟨3,wM⟩, ?_⟩;rw [dl,dy]
       congr 2
       have:a+b=0:=hz;rw [IntKind.wrap_i64,IntKind.wrap_i64];omega
     . rename_i c hz hc
       split at h
       . rename_i hw;cases h;refine ⟨⟨3,Ym _ rfl (by decide)⟩, ?_⟩;rw [dl];have d2:=Gz dy (mb (Int.add a b));refine Eq.trans d2 ?_
         congr 2
         show IntKind.i64.wrap (n+(a+b))=_
         rw [IntKind.wrap_i64,IntKind.wrap_i64,IntKind.wrap_i64];omega
       . cases h
   . cases h
 . cases h
theorem sR{x u:Value}(h:vX x=some u):IA u (sy 166 [x]):=by
 unfold vX at h
 split at h
 . rename_i w y hx;obtain ⟨hd,_⟩:=qc hx
   split at h
   . rename_i hc;simp only [za,Bool.and_eq_true]at hc;cases h;obtain ⟨n,Cf,wM⟩:=Ie hc.1 (by decide)
     obtain ⟨dw,hu⟩:=Cf.k7;obtain ⟨q,hq,rfl⟩:=Eh hc.2
     have:q= .u64:=Nb (by rw [Ja];exact decide_eq_true hq)
     subst this;have dx:=hd.trans (rR dw hu);refine ⟨⟨6,Ym _ rfl (by decide)⟩, ?_⟩;rw [sY dw hu,zac dx]
     congr 2;omega
   . cases h
 . split at h
   . rename_i hk;cases h;obtain ⟨n,Cf,wM⟩:=Ie hk (by decide);obtain ⟨dx,hu⟩:=Cf.k7;exact ⟨⟨6,Ym _ rfl (by decide)⟩,by rw [sY dx hu,zac dx]⟩
   . cases h
theorem tR{x u:Value}(h:wX x=some u):IA u (sy 167 [x]):=by
 unfold wX at h
 split at h
 . rename_i y n hx;obtain ⟨hd,_⟩:=qc hx
   split at h
   . rename_i hc;simp only [za,Bool.and_eq_true,jd,decide_eq_true_eq]at hc;cases h;obtain ⟨a,Cf,wM⟩:=Ie hc.1 (by decide)
     obtain ⟨dy,b1,b2⟩:=Cf.k3;have dx:den x=_:=hd.trans (Gz dy (mb (Int.ofNat n)));refine ⟨⟨7,Ym _ rfl (by decide)⟩, ?_⟩;rw [Aac dx,TT (Aac dy) (jx n)]
     congr 2
     rw [IntKind.wrap_u64,IntKind.wrap_i64]
     show(a %18446744073709551616+(n:Int)) %18446744073709551616=_
     have:(Int.ofNat n)=(n:Int):=rfl;rw [this];omega
   . cases h
 . cases h
theorem xM{a:Int}(h:cd a)(hd:vf a=false):Od a=a:=by
 unfold vf at hd;unfold Od;have:=h.1;have:=h.2
 have hd:¬(a/9223372036854775808=1):=by simpa using hd
 omega
theorem jJ{F:List (Value×Value)}(hF:∀p,p∈F->den p.1=den p.2){x u:Value}(h:jE F x=some u):IA u (sy Tg [x]):=by
 unfold jE at h
 split at h
 . rename_i hc;simp only [za,Bool.and_eq_true]at hc;cases h;obtain ⟨n,Cf,wM⟩:=Ie hc.1 (by decide)
   obtain ⟨dx,hu⟩:=Cf.k7;have hb:vf n=false:=by
    have h2:=hc.2
    split at h2
    . rename_i b hk;have:=Ge hF hk;rw [Dp dx]at this;rw [ke]at h2;cases b
      . injection this with this;injection this
      . cases h2
    . cases h2
   exact ⟨⟨7,wM⟩,by rw [Lk dx,dx,xM hu hb]⟩
 . split at h
   . rename_i w hx;obtain ⟨hd,_⟩:=qc hx
     split at h
     . rename_i hk;cases h;obtain ⟨n,Cf,wM⟩:=Ie hk (by decide);obtain ⟨dw,hu⟩:=Cf.k7;have dx:den x=_:=hd.trans (Lk dw);obtain ⟨s,c,rfl⟩:=qM hx;refine ⟨⟨7,rfl⟩, ?_⟩;rw [Lk dx,dx]
       congr 2
       unfold Od;omega
     . cases h
   . cases h
theorem kJ{x u:Value}(h:kE x=some u):IA u (sy Sg [x]):=by
 unfold kE at h
 split at h
 . rename_i w hx;obtain ⟨hd,_⟩:=qc hx
   split at h
   . rename_i hk;cases h;obtain ⟨n,Cf,wM⟩:=Ie hk (by decide);obtain ⟨dw,hu⟩:=Cf.k7;have dx:den x=_:=hd.trans (Lk dw);refine ⟨⟨8,rfl⟩, ?_⟩;rw [Dp dx];have:vf (Od n)=false:=by
      unfold vf Od;have:n %9223372036854775808/9223372036854775808=0:=by omega
      rw [this];rfl
     rw [this];rfl
   . cases h
 . cases h
theorem yM{F:List (Value×Value)}(hF:∀p,p∈F->den p.1=den p.2){x u:Value}(h:ML F x=some u):IA u (sy tg [x]):=by
 unfold ML at h
 split at h
 . rename_i w hx;obtain ⟨hd,_⟩:=qc hx
   split at h
   . rename_i hk;obtain ⟨n,Cf,wM⟩:=Ie hk (by decide);obtain ⟨dw,hu⟩:=Cf.k7;have dx:den x=_:=hd.trans (Lk dw);have e:Xa (Od n)=Xa n:=by unfold Xa Od;omega
     split at h
     . rename_i yn;cases h;have:=Ge hF yn;rw [Dp dw]at this;have hb:vf n=true:=by injection this with this;injection this
       refine ⟨⟨7,wM⟩, ?_⟩;rw [qx dx,dw,e]
       congr 2
       unfold vf at hb;have hb:n/9223372036854775808=1:=by simpa using hb
       have:=hu.1;have:=hu.2
       unfold Xa Od;omega
     . cases h;exact ⟨⟨7,Ym _ rfl (by decide)⟩,by rw [qx dx,qx dw,e]⟩
   . cases h
 . cases h
theorem xt{z:Value}:∀{F:List (Value×Value)},(∀p,p∈F->den p.1=den p.2)->∀{a:Int},den z= .v (.int .i64 a)->Tw z F=true->a<9223372036854775807
 |[],hF,a,hz,h=>by simp [Tw]at h
 |p::ps,hF,a,hz,h=>by
  simp only [Tw]at h;have ih:=xt (z:=z) (F:=ps) (fun q hq=>hF q (List.mem_cons_of_mem _ hq)) hz
  split at h
  . rename_i u v h1 h2
    split at h
    . rename_i hc;simp only [za,Bool.and_eq_true]at hc;obtain ⟨n,Cf,_⟩:=Ie hc.1 (by decide)
      obtain ⟨dv,b1,b2⟩:=Cf.k3;have hd:=(qc h1).1
      have hu:=Xe 60 u z hc.2
      rw [hz]at hu;have:=hF p (List.mem_cons_self ..);rw [hd,h2,IG hu dv]at this;injection this with this
      injection this with this
      have:=of_decide_eq_true this;omega
    . exact ih h
  . exact ih h
theorem rq{x:Value}(h:Ns x=true):∃a,den x= .v (.int .i64 a)/\0<=a:=by
 unfold Ns at h
 split at h
 . rename_i g k a b hx;obtain ⟨hd,_⟩:=qc hx
   split at h
   . rename_i n hn;simp only [za,Bool.and_eq_true,jd,decide_eq_true_eq]at h;obtain ⟨h1,h2,h3⟩:=h;obtain ⟨na,ha,_⟩:=ji h2 (by decide);obtain ⟨nb,hb,_⟩:=ji h3 (by decide);have hk:∃q,k= .int q (Int.ofNat n):=by
      unfold FI at hn
      split at hn
      . rename_i q m;cases hn;exact ⟨q,rfl⟩
      . cases hn
     obtain ⟨q,rfl⟩:=hk;have hda:=ha.k3.1
     have hdb:=hb.k3.1
     have hdk:den (Value.int q (Int.ofNat n))= .v (.int q (Int.ofNat n)):=rfl
     have hU:=mg (n:=80) (k:=3) (by decide) (by decide) [g, .int q (Int.ofNat n),a,b];simp only [jc,hda,hdb,hdk,ME]at hU;obtain ⟨l1,l2⟩:=Bc.at_ (den g) (.int q (Int.ofNat n)) (.int .i64 na) (.int .i64 nb) (by show(n:Int)<=13;omega) (by show(0:Int)<=(n:Int);omega);refine ⟨_,hd.trans hU, ?_⟩;rw [IntKind.wrap_i64];omega
   . cases h
 . cases h
theorem vx{z:Value}{n:Nat}{a:Int}(hz:den z= .v (.int .i64 a))(hb:-9223372036854775808<=a/\a<=9223372036854775807):den (VB z n)= .v (.int .i64 (IntKind.i64.wrap (a+n))):=by
 cases n with
 |zero=>simp only [VB];rw [hz];congr 2;rw [IntKind.wrap_i64];omega
 |succ n=>exact Gz hz (mb _)
theorem uR{F:List (Value×Value)}(hF:∀p,p∈F->den p.1=den p.2){x u:Value}(h:xX F x=some u):IA u (sy 280 [x,rb 0]):=by
 unfold xX at h
 split at h
 . rename_i ht
   split at h
   . rename_i t s w c
     split at h
     . rename_i hk;cases h;obtain ⟨n,Cf,wM⟩:=Ie hk (by decide);obtain ⟨dw,hu⟩:=Cf.k7;simp only [sj,Bool.or_eq_true,isT,Ja,decide_eq_true_eq]at ht;have:∃a,den (Value.func (.methodOf t s) ⟨[w]⟩ c)= .v (.int .i64 a)/\-1<=a:=by
        rcases ht with rfl|rfl|rfl
        . exact ⟨_,dTo dw hu,(sM hu).1⟩
        . exact ⟨_,dBy dw hu,(tM hu).1⟩
        . exact ⟨_,PE dw hu,(ox hu).1⟩
       obtain ⟨a,da,ha⟩:=this;refine ⟨⟨8,Ym _ rfl (by decide)⟩, ?_⟩;rw [UT da (mb (-1)),IG da (mb 0)]
       congr 2
       rw [decide_eq_decide];omega
     . cases h
   . cases h
 . split at h
   . rename_i hl;cases h;obtain ⟨a,da,ha⟩:=rq hl;refine ⟨⟨8,rfl⟩, ?_⟩;rw [IG da (mb 0)];have:decide (a<0)=false:=decide_eq_false (by omega);rw [this];rfl
   . split at h
     . rename_i z n hx;obtain ⟨hd,_⟩:=qc hx
       split at h
       . rename_i hc;simp only [za,Bool.and_eq_true,jd,decide_eq_true_eq]at hc;obtain ⟨a,Cf,_⟩:=Ie hc.1 (by decide)
         obtain ⟨dz,b1,b2⟩:=Cf.k3
         split at h
         . rename_i hk hl;cases h;have dl:=vx (n:=n) dz ⟨b1,b2⟩;have h1:=Ge hF hk;rw [IG dl (mb 0)]at h1;injection h1 with h1
           injection h1 with h1
           have h1:=of_decide_eq_false h1;have h2:=xt hF dl hl;have dx:den x=_:=hd.trans (Gz dz (mb (Int.ofNat (n+1))));refine ⟨⟨8,rfl⟩, ?_⟩;rw [IG dx (mb 0)];have e:(Int.ofNat (n+1))=(n:Int)+1:=rfl;have:decide (IntKind.i64.wrap (a+Int.ofNat (n+1))<0)=false:=decide_eq_false (by
            rw [e];rw [IntKind.wrap_i64]at h1 h2⊢;omega)
           rw [this];rfl
         . cases h
       . cases h
     . cases h
theorem zM{F:List (Value×Value)}(hF:∀p,p∈F->den p.1=den p.2){c:Value}{b:Bool}(hc:den c= .v (.bool b))(hk:Ue c=some 8):(∃k,Ue (neq F c)=some k)/\den (neq F c)= .v (.bool (!b)):=by
 have h1:=ql hF c;obtain ⟨k,h2⟩:=Ir (F:=F) hk;unfold neq
 split
 . rename_i b' hb;rw [hb,hc]at h1;injection h1 with h1
   injection h1 with h1
   subst h1;exact ⟨⟨8,rfl⟩,by rw [ke];rfl⟩
 . refine ⟨⟨8,Ym _ rfl (by decide)⟩,qaq (by rw [h1,hc])⟩
theorem vY{F:List (Value×Value)}(hF:∀p,p∈F->den p.1=den p.2){x y u:Value}(h:rLt F x y=some u):IA u (sy 280 [x,y]):=by
 unfold rLt at h
 split at h
 . rename_i hl;obtain ⟨q,hq,rfl⟩:=Eh hl;have:q= .i64:=Nb (by rw [Ja];exact decide_eq_true hq)
   subst this;exact uR hF h
 . split at h
   . cases h
   . rename_i hk;obtain ⟨b,Cf,_⟩:=Ie hk (by decide);obtain ⟨dy,b1,b2⟩:=Cf.k3
     split at h
     . rename_i n
       split at h
       . rename_i hn yn;cases h;rw [jd]at hn;have hn:=of_decide_eq_true hn;have h1:=Ge hF yn;rw [IG (mb _) dy]at h1;injection h1 with h1
         injection h1 with h1
         have h1:=of_decide_eq_true h1;have dx:den (Value.int .i64 (Int.ofNat (n+1)))= .v (.int .i64 (Int.ofNat (n+1))):=rfl
         obtain ⟨k1,k2⟩:=zM hF (UT dy dx) (Ym _ rfl (by decide));refine ⟨k1, ?_⟩;rw [k2,IG dx dy,<-decide_not]
         congr 2
         rw [decide_eq_decide];have e:(Int.ofNat (n+1))=(n:Int)+1:=rfl;have e2:(Int.ofNat n)=(n:Int):=rfl;rw [e];rw [e2]at h1;omega
       . cases h
     . split at h
       . rename_i z n hx;obtain ⟨hd,_⟩:=qc hx
         split at h
         . rename_i hc yn;cases h;simp only [za,Bool.and_eq_true,jd,decide_eq_true_eq]at hc;obtain ⟨a,taq,_⟩:=Ie hc.1 (by decide)
           obtain ⟨dz,c1,c2⟩:=taq.k3;have dl:=vx (n:=n) dz ⟨c1,c2⟩;have h1:=Ge hF yn;rw [IG dl dy]at h1;injection h1 with h1
           injection h1 with h1
           have h1:=of_decide_eq_true h1;have dx:den x=_:=hd.trans (Gz dz (mb (Int.ofNat (n+1))));obtain ⟨k1,k2⟩:=zM hF (UT dx dy) (Ym _ rfl (by decide));refine ⟨k1, ?_⟩;rw [k2,IG dx dy,<-decide_not]
           congr 2
           rw [decide_eq_decide];have e:(Int.ofNat (n+1))=(n:Int)+1:=rfl;rw [e];rw [IntKind.wrap_i64]at h1⊢;omega
         . cases h
       . cases h
theorem AM(x y:Value):den (sy 264 [x,y])= .v (.bool (decide (Ha (den x)=Ha (den y)))):=by
 have:=xg (n:=16) (k:=8) (by decide) (by decide) [x,y];simp only [jc,List.map,vk,Pn,Qc]at this;by_cases h:Ha (den x)=Ha (den y)<;>simp [h]at this⊢<;>exact this
theorem wx{x:Value}{q:IntKind}{m:Int}:∀{F:List (Value×Value)},(∀p,p∈F->den p.1=den p.2)->∀{u:Value},yp x m F=some u->IA u (sy 264 [x, .int q m])
 |[],hF,u,h=>by simp [yp]at h
 |p::ps,hF,u,h=>by
  simp only [yp]at h;have ih:=fun u=>wx (x:=x) (q:=q) (m:=m) (F:=ps) (fun r hr=>hF r (List.mem_cons_of_mem _ hr)) (u:=u)
  split at h
  . rename_i v q' n h1 h2
    split at h
    . rename_i hs;cases h;have hu:=Xe 60 v x hs;have:=hF p (List.mem_cons_self ..);rw [(qc h1).1,h2,AM,hu]at this;injection this with this
      injection this with this
      have:=of_decide_eq_true this;have e:Ha (den (Value.int q' n):tc Interp.G)=n:=rfl;rw [e]at this;refine ⟨⟨8,rfl⟩, ?_⟩;rw [AM,this,oe];rfl
    . exact ih u h
  . exact ih u h
theorem EC{F:List (Value×Value)}(hF:∀p,p∈F->den p.1=den p.2){x u:Value}{m:Int}(h:rG F x m=some u):IA u (sy 264 [x,rb m]):=by
 unfold rG at h
 split at h
 . rename_i m;have last:∀{u:Value},(match Ns x with|true=>some ff|false=>none)=some u->IA u (sy 264 [x,rb (Int.negSucc m)]):=fun{u} h=>by
    split at h
    . rename_i hl;cases h;obtain ⟨a,da,ha⟩:=rq hl;refine ⟨⟨8,rfl⟩, ?_⟩;rw [UT da (mb _)];have:decide (a=Int.negSucc m)=false:=decide_eq_false (by have:=Int.negSucc_lt_zero m;omega);rw [this];rfl
    . cases h
   split at h
   . rename_i hk yn;cases h;obtain ⟨a,Cf,_⟩:=Ie hk (by decide);obtain ⟨dx,b1,b2⟩:=Cf.k3;have h1:=Ge hF yn;rw [IG dx (mb 0)]at h1;injection h1 with h1
     injection h1 with h1
     have h1:=of_decide_eq_false h1;refine ⟨⟨8,rfl⟩, ?_⟩;rw [UT dx (mb _)];have:decide (a=Int.negSucc m)=false:=decide_eq_false (by have:=Int.negSucc_lt_zero m;omega);rw [this];rfl
   . exact last h
 . cases h
theorem wY{F:List (Value×Value)}(hF:∀p,p∈F->den p.1=den p.2){x y u:Value}(h:rEq F x y=some u):IA u (sy 264 [x,y]):=by
 unfold rEq at h
 split at h
 . rename_i q m
   split at h
   . rename_i v hv;cases h;exact wx hF hv
   . split at h
     . split at h
       . rename_i z a hx;obtain ⟨hd,_⟩:=qc hx
         split at h
         . rename_i hk
           split at h
           . rename_i hc;simp only [za,Bool.and_eq_true,oe,tk,decide_eq_true_eq]at hc;obtain ⟨c1,c2⟩:=hc;obtain ⟨n,Cf,_⟩:=Ie hk (by decide);obtain ⟨dz,b1,b2⟩:=Cf.k3;have dx:den x=_:=hd.trans (Gz dz (mb a));have key:den (sy 264 [z,rb (Int.sub m a)])=den (sy 264 [x, .int .i64 m]):=by
              refine (UT dz (mb _)).trans (Eq.trans ?_ (UT dx (mb m)).symm)
              congr 2
              rw [decide_eq_decide];have e:Int.sub m a=m -a:=rfl;rw [e]at c2⊢;rw [IntKind.wrap_i64]at c1 c2⊢;omega
             cases h
             split
             . rename_i v hv;obtain ⟨k1,k2⟩:=EC hF hv;exact ⟨k1,k2.trans key⟩
             . exact ⟨⟨8,Ym _ rfl (by decide)⟩,key⟩
           . cases h
         . cases h
       . exact EC hF h
     . cases h
 . cases h
theorem vR{x y u:Value}(h:yX x y=some u):IA u (sy 35 [x,y]):=by
 unfold yX at h
 split at h
 . rename_i n
   split at h
   . rename_i hc;simp only [za,Bool.and_eq_true,jd,decide_eq_true_eq]at hc;obtain ⟨a,Cf,_⟩:=Ie hc.1 (by decide)
     obtain ⟨dx,b1,b2⟩:=Cf.k3;have key:den (sy 19 [x,rb (Int.negSucc n)])=den (sy 35 [x, .int .i64 (Int.ofNat (n+1))]):=by
      refine (Gz dx (mb _)).trans (Eq.trans ?_ (paq dx (mb (Int.ofNat (n+1)))).symm)
      congr 3
     cases h
     split
     . rename_i v hv;obtain ⟨k1,k2⟩:=JG hv;exact ⟨k1,k2.trans key⟩
     . exact ⟨⟨3,Ym _ rfl (by decide)⟩,key⟩
   . cases h
 . cases h
theorem Hz{a b:Int}(h:cd a):nh (KA a) b=a %4294967296+nh (-1) b:=by
 unfold nh;rw [vM h];have:Sb 0 32 (Tc (-1))=0:=by unfold Sb Tc;rfl
 rw [this];have e:Sb 0 32 (a %4294967296)=a %4294967296:=by unfold Sb;simp
 rw [e];omega
theorem wR:nh (-1) (-1)=0:=by decide
theorem BM{x y u:Value}(h:NL x y=some u):IA u (sy mo [x,y]):=by
 unfold NL at h
 split at h
 . rename_i w hx;obtain ⟨hd,_⟩:=qc hx
   split at h
   . rename_i hk;obtain ⟨n,Cf,_⟩:=Ie hk (by decide);obtain ⟨dw,hu⟩:=Cf.k7;have dx:den x=_:=hd.trans (dTo dw hu)
     split at h
     . rename_i hl;cases h;obtain ⟨q,hq,rfl⟩:=Eh hl;have:q= .i64:=Nb (by rw [Ja];exact decide_eq_true hq)
       subst this;refine ⟨⟨7,Ym _ rfl (by decide)⟩, ?_⟩;refine (rR dw hu).trans (Eq.trans ?_ (BC dx (mb (-1))).symm)
       rw [Hz hu,wR];simp
     . split at h
       . rename_i hy;cases h;obtain ⟨b,uaq,_⟩:=ji hy (by decide);obtain ⟨dy,_⟩:=uaq.k3;refine ⟨⟨7,Ym _ rfl (by decide)⟩, ?_⟩;rw [TT (rR dw hu) (BC (mb (-1)) dy),BC dx dy,Hz hu]
         congr 2
         have:=Hz (b:=b) hu;have h2:=tx (KA n) b;rw [this]at h2;exact Yc h2
       . cases h
   . cases h
 . cases h
theorem xR{x y u:Value}(h:zX x y=some u):IA u (sy TB [x,y]):=by
 unfold zX at h
 split at h
 . rename_i w hx;obtain ⟨hd,_⟩:=qc hx
   split at h
   . rename_i hc;simp only [za,Bool.and_eq_true]at hc;cases h;obtain ⟨n,Cf,_⟩:=Ie hc.1 (by decide)
     obtain ⟨dw,hu⟩:=Cf.k7;obtain ⟨q,hq,rfl⟩:=Eh hc.2
     have:q= .u32:=Nb (by rw [Ja];exact decide_eq_true hq)
     subst this;have dx:den x=_:=hd.trans (dTo dw hu);have d0:den (Value.int .u32 0)= .v (.int .u32 0):=rfl
     refine ⟨⟨7,Ym _ rfl (by decide)⟩, ?_⟩;rw [rR dw hu,uY dx d0]
     congr 2
     unfold vq;rw [vM hu];have e:Sb 0 32 (n %4294967296)=n %4294967296:=by unfold Sb;simp
     rw [e,IntKind.wrap_u64];omega
   . cases h
 . cases h
theorem Ep{q v:Int}{d:Bool}(h0:0<=v)(h1:v<4294967296):cd (cellW q d v):=by
 unfold cellW Sb cd;cases d<;>simp<;>omega
theorem CM{q v:Int}{d:Bool}(h0:0<=v)(h1:v<4294967296)(e:Bool)(u:Int):cellW (Nc 33 31 (cellW q d v)) e u=cellW q e u:=by
 have:Nc 33 31 (cellW q d v)=q %2147483648:=by
  unfold Nc cellW Sb;cases d<;>simp<;>omega
 rw [this];unfold cellW;have:Sb 33 31 (q %2147483648)=Sb 33 31 q:=by unfold Sb;simp
 rw [this]
theorem DM{x y z u:Value}(h:OL x y z=some u):IA u (sy gm [x,y,z]):=by
 unfold OL at h
 split at h
 . rename_i w hx;obtain ⟨hd,_⟩:=qc hx
   split at h
   . rename_i q a b hw;obtain ⟨hdw,_⟩:=qc hw
     split at h
     . rename_i hc;cases h;simp only [za,Bool.and_eq_true]at hc;obtain ⟨⟨hy,hz⟩,hq,ha,hb⟩:=hc;obtain ⟨nq,hq,_⟩:=ji hq (by decide);obtain ⟨dq,_⟩:=hq.k3;obtain ⟨na,da,_⟩:=rM ha;obtain ⟨nb,hb,_⟩:=ji hb (by decide);obtain ⟨db,v0,v1⟩:=hb.k6;obtain ⟨ny,dy,_⟩:=rM hy;obtain ⟨nz,hz,_⟩:=ji hz (by decide);obtain ⟨dz,z0,z1⟩:=hz.k6;have cu:=Ep (q:=nq) (d:=na) v0 v1;have dw:den w= .v (.int .u64 (cellW nq na nb)):=by rw [hdw,DC dq da db,Yc cu]
       have dx:den x=_:=hd.trans (tY dw cu);exact ⟨⟨7,Ym _ rfl (by decide)⟩,by rw [DC dq dy dz,DC dx dy dz,CM v0 v1]⟩
     . cases h
   . cases h
 . cases h
end
end Sk
end Go.Proofs.YtfnkmolffhfpoaaGreat
