/- -/
import Derived.Test.YtfnkmolffhfpoaaGreatHb14
set_option linter.unusedVariables false
set_option linter.unusedSimpArgs false
set_option linter.unusedSectionVars false
namespace Go.Proofs.YtfnkmolffhfpoaaGreat
namespace Sk
open Go.RowKit
noncomputable section
theorem FL[Interp]{k:Nat}{u:Value}(h:Qb k u=true)(hk:k<=8):∃x,den u= .v x/\fk k (Ha (.v x:tc Interp.G))=x:=by
 cases u with
 |int q n=>
  simp only [Qb]at h
  split at h
  . rename_i hb;rw [Ja]at hb;have:=of_decide_eq_true hb;subst this;rw [oe,tk]at h;have:=of_decide_eq_true h;exact ⟨_,rfl,by rw [Hc];simp only [Ha];rw [this]⟩
  . cases h
 |bool b=>
  simp only [Qb,Ja]at h;have:=of_decide_eq_true h;subst this;exact ⟨_,rfl,by rw [Qc];cases b<;>rfl⟩
 |func f a c=>cases f with
  |methodOf t s=>
   simp only [Qb,Ja]at h;have ht:t %16=k:=of_decide_eq_true h;rw [Qe,uj _ (by rw [ht];exact hk)];refine ⟨_,rfl, ?_⟩;rw [ht];by_cases h8:k=8
   . subst h8;rw [Qc,Qc];generalize (match Nat.ble 64 (t/16)with|true=>Interp.U (t/16) (LD a)|false=>vk Interp.ρ (t/16) ((LD a).map Ha) ((eQ 8).getD .i64))=z;by_cases hz:z=0<;>simp [Ha,hz]
   . obtain ⟨q,h1,h2⟩:=Ey (c:=k) (by omega);subst h2;rw [Hc,Hc];simp only [Ha];rw [wrap_wrap]
  |_=>simp [Qb]at h
 |_=>simp [Qb]at h
theorem pX[Interp]{k:Nat}{u:Value}(h:Ml k u=true):∃g,den u= .g (Interp.W k g):=by
 cases u with
 |func f a c=>cases f with
  |methodOf t s=>
   simp only [Ml,ke,za,Bool.and_eq_true,Ja,decide_eq_true_eq]at h;obtain ⟨h,rfl⟩:=h;rw [Qe];unfold rh;cases hb:Nat.ble (Nat.mod t 16) 8 with
   |true=>rw [hb]at h;cases h
   |false=>exact ⟨_,rfl⟩
  |_=>simp [Ml]at h
 |_=>simp [Ml]at h
variable{T:si}(ρ:Nat->Int)(γ:Nat->T.G)(θ η:List Value)
def cz(u:Value):Option Nat:=
 match u with
 | .func f a c=>match f with
   | .methodOf t _=>match Nat.div t 16 with
     |0=>match a with
      |⟨l⟩=>match l with
       |[.int _ (.ofNat i)]=>some i
       |_=>none
     |_+1=>none
   |_=>none
 |_=>none
def dm(i:Nat):Int:=match θ[i]?with|some u=>(match cz u with|some j=>ρ j|none=>Ha (@den (T.at ρ γ) u))|none=>ρ i
def Ek(i:Nat):T.G:=match η[i]?with|some u=>(match @den (T.at ρ γ) u with| .g g=>g| .v _=>γ i)|none=>γ i
theorem GL{u:Value}{j k:Nat}(h:cz u=some j)(hs:Qb k u=true)(hk:k<=8): @den (T.at ρ γ) u= .v (@fk k (ρ j)):=by
 letI:Interp:=T.at ρ γ
 cases u with
 |func f a c=>cases f with
  |methodOf t s=>
   simp only [cz]at h
   split at h
   . rename_i hdiv;obtain ⟨l⟩:=a;simp only at h
     split at h
     . rename_i q i;cases h;simp only [Qb,Ja]at hs;have ht:t %16=k:=of_decide_eq_true hs;rw [@Qe (T.at ρ γ), @uj (T.at ρ γ) _ _ (by rw [ht];exact hk)];have hl: @LD (T.at ρ γ) ⟨[.int q (.ofNat j)]⟩=[.v (.int q (.ofNat j))]:=rfl;rw [hl];have e1:t/16=0:=hdiv;have e0:Nat.ble 64 (t/16)=false:=by rw [e1];rfl
       rw [e0,e1,ht];rfl
     . cases h
   . cases h
  |_=>simp [cz]at h
 |_=>simp [cz]at h
@[reducible] def dh:Interp:=T.at (dm ρ γ θ) (Ek ρ γ η)
variable{E:Env}(hE: @Pb (T.at ρ γ) E)
include hE
mutual
theorem jo:∀(d:Nat) (v u:Value),gE E θ η d v=some u-> @den (dh ρ γ θ η) v= @den (T.at ρ γ) u
 |0,v,u,h=>by simp [gE]at h
 |d+1,v,u,h=>by
  letI:Interp:=T.at ρ γ
  simp only [gE]at h
  split at h
  . rename_i f a c
    split at h
    . rename_i t s;obtain ⟨l⟩:=a;simp only at h
      split at h
      . rename_i hdiv
        split at h
        . rename_i q i;have hl:∀J:Interp, @LD J ⟨[.int q (.ofNat i)]⟩=[.v (.int q (.ofNat i))]:=fun J=>rfl
          split at h
          . rename_i hk;rw [jd]at hk;have hk:t %16<=8:=of_decide_eq_true hk
            split at h
            . rename_i u0 hu
              split at h
              . rename_i hsc;cases h;obtain ⟨x,h1,h2⟩:= @FL (T.at ρ γ) _ _ hsc hk;rw [Gc]at hu;rw [@Qe (dh ρ γ θ η), @uj (dh ρ γ θ η) _ _ hk,hl,h1];have e0:Nat.ble 64 (t/16)=false:=by rw [show t/16=0 from hdiv];rfl
                have e1:t/16=0:=hdiv;rw [e0,e1];simp only [List.map,Ha,vk]
                congr 1
                show fk (t %16) (dm ρ γ θ (Int.toNat (Int.ofNat i)))=_
                unfold dm;rw [show(Int.toNat (Int.ofNat i))=i from rfl,hu];simp only;cases hvn:cz u with
                |none=>
                 simp only;rw [h1];exact h2
                |some j=>
                 simp only;have:=GL ρ γ hvn hsc hk;rw [h1]at this;injection this with this
                 exact this.symm
              . cases h
            . cases h
          . rename_i hk
            split at h
            . rename_i u0 hu
              split at h
              . rename_i hg;cases h;obtain ⟨g,h1⟩:= @pX (T.at ρ γ) _ _ hg;rw [Gc]at hu;rw [@Qe (dh ρ γ θ η),hl,h1];unfold rh;rw [hk];have e1:Nat.div t 16=0:=hdiv;rw [e1];simp only [Ha];have:Ek ρ γ η (Int.toNat (Int.ofNat i))=T.W (Nat.mod t 16) g:=by
                 unfold Ek;rw [show(Int.toNat (Int.ofNat i))=i from rfl,hu];simp only;rw [h1];rfl
                exact congrArg tc.g ((congrArg (T.W (Nat.mod t 16)) this).trans (T.W_W _ _))
              . cases h
            . cases h
        . cases h
      . rename_i n hdiv
        split at h
        . rename_i l' hl;have ran:=QB d l l' hl;have e: @den (dh ρ γ θ η) (.func (.methodOf t s) ⟨l⟩ c)= @den (T.at ρ γ) (sy t l'):=by
           rw [@Qe (dh ρ γ θ η)];unfold sy;rw [@Qe (T.at ρ γ)]
           show @rh (dh ρ γ θ η) t (@jc (dh ρ γ θ η) l)= @rh (T.at ρ γ) t (@jc (T.at ρ γ) l')
           rw [ran];have e1:Nat.div t 16=n+1:=hdiv;unfold rh;rw [e1];rfl
          rw [e]
          split at h
          . rename_i hk;rw [jd]at hk;have hk:t %16<=8:=of_decide_eq_true hk;cases h;exact (@dB (T.at ρ γ) E hE _ _ (eB l' hk)).symm
          . cases h;rfl
        . cases h
    . cases h
  . cases h;rfl
  . cases h;rfl
  . cases h
theorem QB:∀(d:Nat) (l m:List Value),BI E θ η d l=some m-> @jc (dh ρ γ θ η) l= @jc (T.at ρ γ) m
 |0,l,m,h=>by simp [BI]at h
 |d+1,[],m,h=>by simp [BI]at h;subst h;rfl
 |d+1,x::xs,m,h=>by
  simp only [BI]at h
  split at h
  . rename_i y hy
    split at h
    . rename_i ys hys;cases h;simp only [jc];rw [jo d x y hy,QB d xs ys hys]
    . cases h
  . cases h
end
def Nl(f:List Nat)(R:Mp):Mp:=fun b=>match f[b]?with|some c=>R c|none=>none
mutual
theorem qp(f:List Nat)(R:Mp):∀(d:Nat) (p v w:Value),nX E θ η f d p v=true-> @VR (T.at ρ γ) R v w-> @VR (dh ρ γ θ η) (Nl f R) p w
 |0,p,v,w,h,hv=>by simp [nX]at h
 |d+1,p,v,w,h,hv=>by
  letI:Interp:=T.at ρ γ
  simp only [nX]at h
  split at h
  . rename_i b o
    split at h
    . rename_i b' o'
      split at h
      . rename_i c hc;simp only [za,Bool.and_eq_true,Ja,decide_eq_true_eq]at h;obtain ⟨rfl,rfl⟩:=h;rw [Gc]at hc;obtain ⟨r,s,h1,rfl⟩:= @wg (T.at ρ γ) _ _ _ _ hv;exact @VR.ptr (dh ρ γ θ η) _ b o r s (by unfold Nl;rw [hc];exact h1)
      . cases h
    . cases h
  . rename_i b o n z
    split at h
    . rename_i b' o' n' z'
      split at h
      . cases h
      . rename_i z
        split at h
        . rename_i c hc;simp only [za,Bool.and_eq_true,Ja,decide_eq_true_eq]at h;obtain ⟨rfl,rfl,rfl,rfl⟩:=h;rw [Gc]at hc;cases hv with
          |flat v h=>simp [ic]at h
          |Fw b1 o b2 s n z c' h1 h2 h3 h4=>exact @VR.Fw (dh ρ γ θ η) _ b o b2 s n _ c' (by unfold Nl;rw [hc];exact h1) h2 h3 h4
        . cases h
    . cases h
  . rename_i t u
    split at h
    . rename_i t' u'
      split at h
      . rename_i ht;rw [Ja]at ht;have ht:=of_decide_eq_true ht;subst ht;cases hv with
        |flat v h=>simp [ic]at h
        |mv t v v' hv=>exact @VR.mv (dh ρ γ θ η) _ t u v' (qp f R d u u' v' h hv)
      . cases h
    . cases h
  . rename_i g a c
    split at h
    . rename_i t s
      split at h
      . rename_i u hu;simp only [za,Bool.and_eq_true]at h;obtain ⟨h1,h2,h3⟩:=h;have e1:=jo ρ γ θ η hE 60 _ u hu;have e2:= @Xe (T.at ρ γ) 60 u v h3;cases hk:Ue v with
        |none=>rw [hk]at h1;cases h1
        |some k=>
         have e3:= @Wo (T.at ρ γ) _ _ _ hv _ hk;exact @VR.sym (dh ρ γ θ η) _ t s _ _ w (by rw [e1,e2,e3])
      . cases h
    . rename_i g
      split at h
      . rename_i g' a' c'
        split at h
        . rename_i hg;rw [Ja]at hg;have hg:=of_decide_eq_true hg;subst hg
          split at h
          . rename_i ha;cases hv with
            |flat v hf=>
             simp only [ic]at hf;cases a' with
             |nil=>cases c' with
              |nil=>
               have q1:=oG f d a ha;have q2:=oG f d c h;subst q1;subst q2;exact @VR.flat (dh ρ γ θ η) _ _ rfl
              |cons x y=>simp at hf
             |cons x y=>simp at hf
            |fn f0 a1 a2 c1 c2 k1 k2 k3 k4=>
             have l1:=rp f R d a a' a2 ha ⟨k1,k3⟩;have l2:=rp f R d c c' c2 h ⟨k2,k4⟩;exact @VR.fn (dh ρ γ θ η) _ _ a a2 c c2 l1.1 l2.1 l1.2 l2.2
          . cases h
        . cases h
      . cases h
    . cases h
  . split at h
    . rename_i hp;have:=AB h;subst this;rw [@Yb (T.at ρ γ) _ _ _ hv hp];exact @VR.flat (dh ρ γ θ η) _ _ hp
    . cases h
theorem oG(f:List Nat):∀(d:Nat) (p:List Value),EL E θ η f d p []=true->p=[]
 |0,p,h=>by simp [EL]at h
 |d+1,[],h=>rfl
 |d+1,x::xs,h=>by simp [EL]at h
theorem rp(f:List Nat)(R:Mp):∀(d:Nat) (p v w:List Value),EL E θ η f d p v=true-> @LR (T.at ρ γ) R v w-> @LR (dh ρ γ θ η) (Nl f R) p w
 |0,p,v,w,h,hv=>by cases p<;>cases v<;>simp [EL]at h
 |d+1,[],[],w,h,hv=>by
  have:= @LR.uc (T.at ρ γ) _ _ hv;subst this;exact @LR.nil (dh ρ γ θ η) _
 |d+1,[],y::ys,w,h,hv=>by simp [EL]at h
 |d+1,x::xs,[],w,h,hv=>by simp [EL]at h
 |d+1,x::xs,y::ys,w,h,hv=>by
  simp only [EL]at h
  split at h
  . rename_i h1;obtain ⟨z,zs,rfl,k1,k2⟩:= @LR.qa (T.at ρ γ) _ _ _ _ hv;exact @LR.cons (dh ρ γ θ η) _ _ _ _ _ (qp f R d x y z h1 k1) (rp f R d xs ys zs h k2)
  . cases h
end
end
noncomputable section
theorem ko(n:Nat):∀(l:List (Option Value)) (i:Nat) (t:Tr Value) (j:Nat),i+l.length<=n->(rowP n i l t).get j=if i<=j then(match l[j -i]?with|some (some v)=>some v|_=>t.get j)else t.get j
 |[],i,t,j,h=>by simp [rowP]
 |none::l,i,t,j,h=>by
  simp only [rowP];rw [ko n l (Nat.succ i) t j (by simp at h;omega)];by_cases h1:i<=j
  . rw [if_pos h1];by_cases h2:Nat.succ i<=j
    . rw [if_pos h2];have:j -i=(j -Nat.succ i)+1:=by omega
      rw [this,List.getElem?_cons_succ]
    . rw [if_neg h2];have:j -i=0:=by omega
      rw [this,List.getElem?_cons_zero]
  . rw [if_neg h1,if_neg (by omega)]
 |some v::l,i,t,j,h=>by
  simp only [rowP];rw [ko n l (Nat.succ i) _ j (by simp at h;omega)];have hi:i<Nat.succ n:=by simp at h;omega
  rw [Yg _ _ _ _ _ hi];by_cases h1:i<=j
  . rw [if_pos h1];by_cases h2:Nat.succ i<=j
    . rw [if_pos h2];have:j -i=(j -Nat.succ i)+1:=by omega
      rw [this,List.getElem?_cons_succ,if_neg (by omega)]
    . rw [if_neg h2];have h3:j=i:=by omega
      subst h3;simp
  . rw [if_neg h1,if_neg (by omega),if_neg (by omega)]
theorem IL(l:List (Option Value))(e:TypeId)(full:Bool)(j:Nat)(v:Value)(h:(⟨Be l,none,rowP (Be l) 0 l .nil⟩:Row).get j=some v):l[j]?=some (some v):=by
 unfold Row.get at h;simp only at h;rw [ko _ _ _ _ _ (by rw [Pc];omega)]at h;rw [if_pos (Nat.zero_le _),Nat.sub_zero,Tr.get_nil]at h;cases hl:l[j]?with
 |none=>rw [hl]at h;simp only at h;split at h<;>cases h
 |some o=>
  cases o with
  |none=>rw [hl]at h;simp only at h;split at h<;>cases h
  |some u=>rw [hl]at h;simp at h;rw [h]
theorem pG(n:Nat):∀(l:List yh) (i:Nat) (t:Tr ya) (j:Nat),i+l.length<=n->(T1 n i l t).get j=if i<=j then(match l[j -i]?with|some o=>some o.obj|none=>t.get j)else t.get j
 |[],i,t,j,h=>by simp [T1]
 |o::l,i,t,j,h=>by
  simp only [T1];rw [pG n l (Nat.succ i) _ j (by simp at h;omega)];have hi:i<Nat.succ n:=by simp at h;omega
  rw [Yg _ _ _ _ _ hi];by_cases h1:i<=j
  . rw [if_pos h1];by_cases h2:Nat.succ i<=j
    . rw [if_pos h2];have:j -i=(j -Nat.succ i)+1:=by omega
      rw [this,List.getElem?_cons_succ,if_neg (by omega)]
    . rw [if_neg h2];have h3:j=i:=by omega
      subst h3;simp
  . rw [if_neg h1,if_neg (by omega),if_neg (by omega)]
theorem Yh(l:List yh)(b:Nat):(OB l).get b=(l[b]?).map yh.obj:=by
 show(T1 (Be l) 0 l .nil).get b=_
 rw [pG _ _ _ _ _ (by rw [Pc];omega),if_pos (Nat.zero_le _),Nat.sub_zero,Tr.get_nil];cases l[b]?<;>rfl
theorem RB{E:Env}{θ η:List Value}{f0:List Nat}{σ:AH}:∀{f:List Nat} {l:List yh},oX E θ η f0 σ f l=true->f.length=l.length/\∀(b c:Nat),f[b]?=some c->∃po,l[b]?=some po/\CQ E θ η f0 po (σ.get c)=true
 |[],[],h=>⟨rfl,fun b c h=>by simp at h⟩
 |[],o::os,h=>by simp [oX]at h
 |b::bs,[],h=>by simp [oX]at h
 |b::bs,o::os,h=>by
  simp only [oX]at h
  split at h
  . rename_i h1;obtain ⟨k1,k2⟩:=RB h;refine ⟨by simp [k1],fun c d hc=> ?_⟩;cases c with
    |zero=>simp at hc;subst hc;exact ⟨o,rfl,h1⟩
    |succ c=>simpa using k2 c d (by simpa using hc)
  . cases h
theorem Qw:∀{n:Nat} {l:List Nat},DQ n l=false->n∉l
 |n,[],h=>by simp
 |n,m::ms,h=>by
  simp only [DQ]at h
  split at h
  . cases h
  . rename_i hb;rw [Ja]at hb;have:=of_decide_eq_false hb;simp only [List.mem_cons,not_or];exact ⟨this,Qw h⟩
theorem Vm:∀{l:List Nat},PB l=true->∀(i j c:Nat),l[i]?=some c->l[j]?=some c->i=j
 |[],h,i,j,c,hi,hj=>by simp at hi
 |n::ns,h,i,j,c,hi,hj=>by
  simp only [PB]at h
  split at h
  . cases h
  . rename_i hb;have hn:=Qw hb;cases i with
    |zero=>cases j with
     |zero=>rfl
     |succ j=>
      simp at hi hj;subst hi;exact absurd (List.mem_of_getElem? hj) hn
    |succ i=>cases j with
     |zero=>
      simp at hi hj;subst hj;exact absurd (List.mem_of_getElem? hi) hn
     |succ j=>
      have:=Vm h i j c (by simpa using hi) (by simpa using hj);omega
theorem Hs{E:Env}{θ η:List Value}{f:List Nat}{c':Row}:∀{l:List (Option Value)} {i:Nat},U1 E θ η f c' i l=true->∀(j:Nat) (v:Value),l[j]?=some (some v)->∃u,c'.get (i+j)=some u/\nX E θ η f 20 v u=true
 |[],i,h,j,v,hv=>by simp at hv
 |none::l,i,h,j,v,hv=>by
  simp only [U1]at h;cases j with
  |zero=>simp at hv
  |succ j=>
   obtain ⟨u,k1,k2⟩:=Hs h j v (by simpa using hv);exact ⟨u,by rw [<-k1];congr 1;omega,k2⟩
 |some v0::l,i,h,j,v,hv=>by
  simp only [U1]at h
  split at h
  . rename_i u hu
    split at h
    . rename_i hm;cases j with
      |zero=>simp at hv;subst hv;exact ⟨u,hu,hm⟩
      |succ j=>
       obtain ⟨u,k1,k2⟩:=Hs h j v (by simpa using hv);exact ⟨u,by rw [<-k1];congr 1;omega,k2⟩
    . cases h
  . cases h
section
variable{T:si}(ρ:Nat->Int)(γ:Nat->T.G)(θ η:List Value){E:Env}(hE: @Pb (T.at ρ γ) E)
include hE
theorem reshape{B:Nat->Prop}{w0:World}{R:Mp}{σ:AH}{w:World}(hS: @Ic (T.at ρ γ) B w0 R σ w){f:List Nat}{l:List yh}(h:oX E θ η f σ f l=true)(hn:PB f=true): @Ic (dh ρ γ θ η) B w0 (Nl f R) (OB l) w:=by
 obtain ⟨hlen,hal⟩:=RB h;obtain ⟨Pay,slt,san,uan,Is,K4,O,hO⟩:=hS;have hR:∀b x,Nl f R b=some x->∃c,f[b]?=some c/\R c=some x:=fun b x hb=>by
  unfold Nl at hb;cases hc:f[b]?with
  |none=>rw [hc]at hb;cases hb
  |some c=>rw [hc]at hb;exact ⟨c,rfl,hb⟩
 have live:∀b c,f[b]?=some c->∃po x,l[b]?=some po/\σ.get c=some x/\CQ E θ η f po (some x)=true:=fun b c hc=>by
  obtain ⟨po,h1,h2⟩:=hal b c hc;cases hx:σ.get c with
  |none=>rw [hx]at h2;cases po<;>simp [CQ]at h2
  |some x=>rw [hx]at h2;exact ⟨po,x,h1,rfl,h2⟩
 refine @Ic.mk (dh ρ γ θ η) _ _ _ _ _ (fun b x hb=> ?_) (fun b r s hb=> ?_) (fun b r s o hb hg=> ?_) (fun b1 b2 r s1 s2 h1 h2 Jc=> ?_) ⟨Is.os,Is.tape,Is.output,Is.size,Is.block⟩ K4 ?_
 . obtain ⟨c,h1,h2⟩:=hR b x hb;have:=(List.getElem?_eq_some_iff.1 h1).1
   show b<Be l
   rw [Pc];omega
 . obtain ⟨c,h1,h2⟩:=hR b _ hb;exact slt c r s h2
 . obtain ⟨c,h1,h2⟩:=hR b _ hb;obtain ⟨po,x,k1,k2,k3⟩:=live b c h1;rw [Yh,k1]at hg;cases hg;obtain ⟨hB,ho⟩:=san c r s x h2 k2;refine ⟨hB, ?_⟩;cases po with
   |gh e=>trivial
   |cells q e full=>
    cases x with
    |cells c' e' yT=>
     simp only [CQ]at k3
     split at k3
     . rename_i hc;simp only [za,Bool.and_eq_true,Ja,decide_eq_true_eq,Fi,beq_iff_eq]at hc;obtain ⟨rfl,hq,rfl⟩:=hc;obtain ⟨cs,h3,h4,h5,h6,h7⟩:=ho;refine ⟨cs,h3,h4,by show Be q<=s;omega,fun e=>by show Be q=s;rw [hq];exact h6 e,fun i v hv=> ?_⟩;have hv:=IL q e full i v hv;obtain ⟨u,m1,m2⟩:=Hs k3 i v hv;rw [Nat.zero_add]at m1;obtain ⟨_,v',n1,n2⟩:=h7 i u m1;refine ⟨by show i<Be q;rw [Pc];exact (List.getElem?_eq_some_iff.1 hv).1,v',n1,qp ρ γ θ η hE f R 20 v u v' m2 n2⟩
     . cases k3
    |_=>simp [CQ]at k3
 . obtain ⟨c1,a1,a2⟩:=hR b1 _ h1;obtain ⟨c2,a3,a4⟩:=hR b2 _ h2;obtain ⟨_,x1,_,k1,_⟩:=live b1 c1 a1;obtain ⟨_,x2,_,k2,_⟩:=live b2 c2 a3;have hc:c1≠c2:=fun e=>by subst e;exact Jc (Vm hn b1 b2 c1 a1 a3)
   rcases uan c1 c2 r s1 s2 a2 a4 hc with k|k
   . rw [k1]at k;cases k
   . rw [k2]at k;cases k
 . refine ⟨fun b=>match f[b]?with|some c=>O c|none=>fun _=>False,fun b r s e hb hg=> ?_⟩;obtain ⟨c,h1,h2⟩:=hR b _ hb;obtain ⟨po,x,k1,k2,k3⟩:=live b c h1;rw [Yh,k1]at hg;cases po with
   |cells q e full=>cases hg
   |gh e0=>
    have he:e0=e:=by simp only [Option.map_some,yh.obj]at hg;cases hg;rfl
    subst he;cases x with
    |gh e'=>
     simp only [CQ]at k3
     split at k3
     . rename_i u hu;have k4:=k3;obtain ⟨⟨g,m1,m2⟩,m3,m4⟩:=hO c r s e' h2 k2;simp only [h1];refine ⟨⟨g, ?_,m2⟩,m3,fun b2 r2 s2 o2 Jc Ih CA=> ?_⟩
       . rw [jo ρ γ θ η hE 60 _ u hu, @Xe (T.at ρ γ) 60 u e' k4,m1]
       . obtain ⟨c2,a1,a2⟩:=hR b2 _ Ih;obtain ⟨po2,x2,p1,p2,p3⟩:=live b2 c2 a1;have hc:c2≠c:=fun q=>by subst q;exact Jc (Vm hn b2 b c2 a1 h1)
         obtain ⟨z1,z2⟩:=m4 c2 r2 s2 x2 hc a2 p2;refine ⟨z1,fun e2 he2 k hk=> ?_⟩;simp only [a1];rw [Yh,p1]at CA;subst he2;cases po2 with
         |cells q e full=>cases CA
         |gh e3=>
          cases x2 with
          |gh e4=>exact z2 e4 rfl k hk
          |_=>simp [CQ]at p3
     . cases k3
    |_=>simp [CQ]at k3
theorem Kq:∀{F:List (Value×Value)},J4 E θ η F=true->∀p,p∈F-> @den (dh ρ γ θ η) p.1= @den (dh ρ γ θ η) p.2
 |[],h,p,hp=>by cases hp
 |q::F,h,p,hp=>by
  simp only [J4]at h
  split at h
  . rename_i u c b hu hc he
    split at h
    . rename_i hs;rcases List.mem_cons.1 hp with rfl|hp
      . rw [jo ρ γ θ η hE 60 _ u hu, @Xe (T.at ρ γ) 60 _ _ hs,he];rfl
      . exact Kq h p hp
    . cases h
  . rename_i u c k n hu hc he
    split at h
    . rename_i hs;rcases List.mem_cons.1 hp with rfl|hp
      . rw [jo ρ γ θ η hE 60 _ u hu, @Xe (T.at ρ γ) 60 _ _ hs,he];rfl
      . exact Kq h p hp
    . cases h
  . cases h
end
end
section
variable[Interp]{B:Nat->Prop}{w0:World}{R:Mp}{σ:AH}{w:World}
theorem Ic.gat(h:Ic B w0 R σ w){b r s:Nat}{e0:Value}(hb:R b=some (r,s))(hg:σ.get b=some (.gh e0)):
  ∃(g0:Interp.G) (O0:Nat->Prop),den e0= .g g0/\Interp.gh g0 r O0 w/\(∀k,O0 k->B k)/\(∀b2 r2 s2 o2,b2≠b->R b2=some (r2,s2)->σ.get b2=some o2->¬O0 r2)/\∀(w':World) (e:Value) (g:Interp.G) (O':Nat->Prop),den e= .g g->Interp.gh g r O' w'->(∀k,O' k->O0 k\/w.heap.size<=k)->yk O0 w w'->Ic B w0 R (σ.put b (some (.gh e))) w':=by
 obtain ⟨O,hO⟩:=h.lK;obtain ⟨⟨g0,k1,k2⟩,k3,k4⟩:=hO b r s e0 hb hg;refine ⟨g0,O b,k1,k2,k3,fun b2 r2 s2 o2 h1 h2 h3=>(k4 b2 r2 s2 o2 h1 h2 h3).1,fun w' e g O' m1 m2 m3 m4=> ?_⟩;have Ab:∀k,O b k->k<w.heap.size:=fun k hk=>hO.lt hb hg hk
 have oth:∀c q t y,c≠b->R c=some (q,t)->σ.get c=some y->w'.heap[q]?=w.heap[q]?:=fun c q t y hc h1 h2=>m4.block q (h.lt c q t h1) (k4 c q t y hc h1 h2).1
 refine ⟨h.tD,fun c q t h1=>Nat.lt_of_lt_of_le (h.lt c q t h1) m4.size,fun c q t y h1 h2=> ?_,fun b1 b2 q s1 s2 h1 h2 Jc=> ?_, ?_,h.base, ?_⟩
 . rw [ib]at h2;by_cases hc:c=b
   . subst hc;rw [if_pos rfl]at h2;cases h2;exact ⟨(h.obj c q t _ h1 hg).1,trivial⟩
   . rw [if_neg hc]at h2;obtain ⟨p1,p2⟩:=h.obj c q t y h1 h2;exact ⟨p1,by rw [oth c q t y hc h1 h2];exact p2⟩
 . rw [ib,ib];by_cases e1:b1=b
   . subst e1;right;rw [if_neg (Ne.symm Jc)];rcases h.inj b1 b2 q s1 s2 h1 h2 Jc with k|k
     . rw [hg]at k;cases k
     . exact k
   . rw [if_neg e1];by_cases e2:b2=b
     . subst e2;left;rcases h.inj b1 b2 q s1 s2 h1 h2 Jc with k|k
       . exact k
       . rw [hg]at k;cases k
     . rw [if_neg e2];exact h.inj b1 b2 q s1 s2 h1 h2 Jc
 . exact ⟨m4.os.trans h.below.os,m4.tape.trans h.below.tape,m4.output.trans h.below.output,Nat.le_trans h.below.size m4.size,fun k hk hn=>by
    rw [m4.block k (Nat.lt_of_lt_of_le hk h.below.size) (fun ho=>hn (k3 k ho))];exact h.below.block k hk hn⟩
 . refine ⟨fun c=>if c=b then O' else O c,fun c q t y h1 h2=> ?_⟩;rw [ib]at h2;by_cases hc:c=b
   . subst hc;rw [if_pos rfl]at h2;cases h2;rw [hb]at h1;cases h1;simp only [if_true];refine ⟨⟨g,m1,m2⟩,fun k hk=> ?_,fun b2 r2 s2 o2 Jc h3 h4=> ?_⟩
     . rcases m3 k hk with p|p
       . exact k3 k p
       . exact h.base k (Nat.le_trans h.below.size p)
     . rw [ib,if_neg Jc]at h4;obtain ⟨p1,p2⟩:=k4 b2 r2 s2 o2 Jc h3 h4;refine ⟨fun hk=> ?_,fun e2 he k hk=> ?_⟩
       . rcases m3 _ hk with p|p
         . exact p1 p
         . have:=h.lt b2 r2 s2 h3;omega
       . rw [if_neg Jc];rcases m3 _ hk with p|p
         . exact p2 e2 he k p
         . intro JL;subst he;have:=hO.lt h3 h4 JL;omega
   . rw [if_neg hc]at h2;simp only [if_neg hc];obtain ⟨⟨g2,p1,p2⟩,p3,p4⟩:=hO c q t y h1 h2;have M4:∀k,O c k->¬O b k:=fun k hk=>(p4 b r s _ (Ne.symm hc) hb hg).2 e0 rfl k hk
     refine ⟨⟨g2,p1,Interp.gh_keep _ _ _ _ _ p2 m4.size fun k hk=>m4.block k (hO.lt h1 h2 hk) (M4 k hk)⟩,p3,fun b2 r2 s2 o2 Jc h3 h4=> ?_⟩;rw [ib]at h4;by_cases Ih:b2=b
     . subst Ih;rw [if_pos rfl]at h4;cases h4;obtain ⟨z1,z2⟩:=p4 b2 r2 s2 _ Jc h3 hg;refine ⟨z1,fun e2 he k hk=> ?_⟩;simp only [if_true];intro JL;rcases m3 k JL with p|p
       . exact M4 k hk p
       . have:=hO.lt h1 h2 hk;omega
     . rw [if_neg Ih]at h4;simp only [if_neg Ih];exact p4 b2 r2 s2 o2 Jc h3 h4
end
def Ce(P:Program):List (FuncId×Array Value)->(List Value->World->Prop)->World->Prop
 |[],Q,w=>Q [] w
 |c::cs,Q,w=>Calls P c.1 c.2 w fun e w'=>∃v,e= .returned v/\Ce P cs (fun vs w''=>Q (v::vs) w'') w'
theorem Ce.mono{P:Program}:∀{cs:List (FuncId×Array Value)} {Q Q':List Value->World->Prop} {w:World},Ce P cs Q w->(∀vs w',Q vs w'->Q' vs w')->Ce P cs Q' w
 |[],Q,Q',w,h,k=>k _ _ h
 |c::cs,Q,Q',w,h,k=>Calls.mono h fun e w' q=>by
  obtain ⟨v,rfl,h2⟩:=q;exact ⟨v,rfl,h2.mono fun vs w''=>k _ _⟩
noncomputable section
def runs(E:Env)(n:Nat):List (FuncId×List Value)->AH->Option (List Value×AH)
 |[],σ=>some ([],σ)
 |c::cs,σ=>match run E n (.call c.1 c.2 σ)with
  |some (.val v σ1)=>match runs E n cs σ1 with
   |some (vs,σ2)=>some (v::vs,σ2)
   |none=>none
  |_=>none
end
def Fk[Interp](R:Mp):List (FuncId×List Value)->List (FuncId×Array Value)->Prop
 |[],[]=>True
 |c::cs,d::ds=>c.1=d.1/\LR R c.2 d.2.toList/\Fk R cs ds
 |_,_=>False
theorem Fk.mono[Interp]{R R':Mp}(hle:R.le R'):∀{cs:List (FuncId×List Value)} {ds:List (FuncId×Array Value)},Fk R cs ds->Fk R' cs ds
 |[],[],_=>trivial
 |[],_::_,h=>h.elim
 |_::_,[],h=>h.elim
 |c::cs,d::ds,⟨h1,h2,h3⟩=>⟨h1,h2.mono hle,h3.mono hle⟩
theorem Fj[Interp]{E:Env}(hE:Pb E)(hO:Dk E){n:Nat}{B:Nat->Prop}{w0:World}:∀{cs:List (FuncId×List Value)} {ds:List (FuncId×Array Value)} {σ σ':AH} {vs:List Value} {R:Mp} {w:World},runs E n cs σ=some (vs,σ')->Ic B w0 R σ w->Fk R cs ds->
  Ce E.P ds (fun ws w'=>∃R',R.le R'/\LR R' vs ws/\Ic B w0 R' σ' w') w
 |[],[],σ,σ',vs,R,w,h,hS,hA=>by
  simp only [runs]at h;cases h;exact ⟨R,R.le_refl,LR.nil R,hS⟩
 |[],_::_,σ,σ',vs,R,w,h,hS,hA=>hA.elim
 |_::_,[],σ,σ',vs,R,w,h,hS,hA=>hA.elim
 |c::cs,d::ds,σ,σ',vs,R,w,h,hS,hA=>by
  obtain ⟨h1,h2,h3⟩:=hA;simp only [runs]at h
  split at h
  . rename_i v σ1 hr
    split at h
    . rename_i vs1 σ2 qX;cases h;unfold Ce;rw [<-h1];refine (cm hE hO hr hS h2).mono ?_
      rintro e w1 ⟨R1,v',rfl,e1,e2,e3⟩;refine ⟨v',rfl,(Fj hE hO qX e3 (h3.mono e1.le)).mono ?_⟩;rintro ws w2 ⟨R2,q1,q2,q3⟩;exact ⟨R2,Mp.le_trans e1.le q1,LR.cons (e2.mono q1) q2,q3⟩
    . cases h
  . cases h
noncomputable section
structure Shape where
 se:List yh
 facts:List (Value×Value)
 kinds:List Nat
 van:Nat
structure Bd where
 f:List Nat
 θ:List Value
 η:List Value
mutual
def FQ:Nat->Bd->Value->Value->Bd
 |0,s,_,_=>s
 |d+1,s,p,v=>match p with
  | .pointer (some a)=>match v with
    | .pointer (some a')=>match Nat.beq a.block (Be s.f)with|true=>⟨s.f++[a'.block],s.θ,s.η⟩|false=>s
    |_=>s
  | .slice (some a) _ _=>match v with
    | .slice (some a') _ _=>match Nat.beq a.block (Be s.f)with|true=>⟨s.f++[a'.block],s.θ,s.η⟩|false=>s
    |_=>s
  | .iface _ u=>match v with
    | .iface _ u'=>FQ d s u u'
    |_=>s
  | .func g ⟨a⟩ ⟨c⟩=>match g with
    | .methodOf t _=>match Nat.div t 16,a with
      |0,[.int _ (.ofNat i)]=>match Nat.ble (Nat.mod t 16) 8 with
       |true=>match Nat.beq i (Be s.θ)with|true=>⟨s.f,s.θ++[v],s.η⟩|false=>s
       |false=>match Nat.beq i (Be s.η)with|true=>⟨s.f,s.θ,s.η++[v]⟩|false=>s
      |_,_=>s
    | .func _=>match v with
      | .func _ ⟨a'⟩ ⟨c'⟩=>rX d (rX d s a a') c c'
      |_=>s
    |_=>s
  |_=>s
def rX:Nat->Bd->List Value->List Value->Bd
 |0,s,_,_=>s
 |d+1,s,x::xs,y::ys=>rX d (FQ d s x y) xs ys
 |_+1,s,_,_=>s
end
def sX(c':Row):Nat->Bd->List (Option Value)->Bd
 |_,s,[]=>s
 |i,s,none::l=>sX c' (Nat.succ i) s l
 |i,s,some v::l=>match c'.get i with
  |some u=>sX c' (Nat.succ i) (FQ 20 s v u) l
  |none=>s
def wan(σ:AH)(s:Bd)(b:Nat)(p:yh):Bd:=
 match p,σ.get b with
 | .cells l _ _,some (.cells c' _ _)=>sX c' 0 s l
 | .gh e,some (.gh e')=>FQ 20 s e e'
 |_,_=>s
def KL(σ:AH):Nat->Bd->List yh->Bd
 |_,s,[]=>s
 |i,s,o::os=>match Qf s.f i with
  |some b=>KL σ (Nat.succ i) (wan σ s b o) os
  |none=>s
def upN:Nat->Nat->List Nat
 |0,_=>[]
 |n+1,i=>i::upN n (Nat.succ i)
def qG:Nat->List Nat->Bool
 |_,[]=>true
 |i,n::ns=>match Nat.beq i n with|true=>qG (Nat.succ i) ns|false=>false
def Rw:Nat->List Nat->List Nat
 |0,_=>[]
 |_+1,[]=>[]
 |n+1,x::xs=>x::Rw n xs
def BP(E:Env)(S:Shape)(roots:Nat)(σ:AH)(s:Bd):Bool:=
 Ia (oX E s.θ s.η s.f σ s.f S.se) (Ia (PB s.f) (Ia (J4 E s.θ s.η S.facts) (Ia (qG 0 (Rw roots s.f)) (Nat.ble roots (Be s.f)))))
inductive Tree where
 |leaf(j:Nat)
 |split(c:Value)(l r:Tree)
def isB(c:Value):Bool:=match Ue c with|some k=>Nat.beq k 8|none=>false
def ez(E0:Env)(n:Nat)(cs:List (FuncId×List Value))(post:Shape->List Value->Bd->Bool)(tab:List Shape)(roots:Nat)(σ:AH):Tree->List (Value×Value)->Bool
 | .leaf j,F=>match runs (E0.Sm F) n cs σ with
   |some (vs,σ')=>match Qf tab j with
    |some S=>match KL σ' 0 ⟨upN roots 0,[],[]⟩ S.se with
     |s=>match BP (E0.Sm F) S roots σ' s with|true=>post S vs s|false=>false
    |none=>false
   |none=>false
 | .split c l r,F=>match isB c with
   |true=>match ez E0 n cs post tab roots σ l ((c, .bool true)::F)with
    |true=>ez E0 n cs post tab roots σ r ((c, .bool false)::F)
    |false=>false
   |false=>false
theorem Js:∀{l:List Nat} {i j b:Nat},qG i l=true->l[j]?=some b->b=i+j
 |[],i,j,b,h,hb=>by simp at hb
 |n::ns,i,j,b,h,hb=>by
  simp only [qG]at h
  split at h
  . rename_i hn;rw [Ja]at hn;have hn:=of_decide_eq_true hn;cases j with
    |zero=>simp at hb;omega
    |succ j=>
     have:=Js (j:=j) h (by simpa using hb);omega
  . cases h
theorem SB:∀(n:Nat) (l:List Nat),Rw n l=l.take n
 |0,l=>by simp [Rw]
 |n+1,[]=>by simp [Rw]
 |n+1,x::xs=>by simp [Rw,SB n xs]
section
variable{T:si}{E0:Env}
structure InS(T:si)(S:Shape)(ρ:Nat->Int)(γ:Nat->T.G)(B:Nat->Prop)(w0:World)(R:Mp)(w:World):Prop where
 facts:∀p,p∈S.facts-> @den (T.at ρ γ) p.1= @den (T.at ρ γ) p.2
 Cs: @Ic (T.at ρ γ) B w0 R (OB S.se) w
def Stepped(T:si)(tab:List Shape)(roots:Nat)(post:Shape->List Value->Bd->Bool)(ρ:Nat->Int)(γ:Nat->T.G)(B:Nat->Prop)(w0:World)(R:Mp)(ws:List Value)(w':World):Prop:=
 ∃(j:Nat) (S:Shape) (vs:List Value) (s:Bd) (R1:Mp),tab[j]?=some S/\post S vs s=true/\R.le R1/\ @LR (T.at ρ γ) R1 vs ws/\InS T S (dm ρ γ s.θ) (Ek ρ γ s.η) B w0 (Nl s.f R1) w'/\∀i,i<roots->Nl s.f R1 i=R1 i
theorem Gj(hE:∀(ρ:Nat->Int) (γ:Nat->T.G) (F:List (Value×Value)),(∀p,p∈F-> @den (T.at ρ γ) p.1= @den (T.at ρ γ) p.2)-> @Pb (T.at ρ γ) (E0.Sm F)/\ @Dk (T.at ρ γ) (E0.Sm F))
  {n:Nat}{cs:List (FuncId×List Value)}{post:Shape->List Value->Bd->Bool}{tab:List Shape}{roots:Nat}{σ:AH}{ρ:Nat->Int}{γ:Nat->T.G}{B:Nat->Prop}{w0:World}{R:Mp}{w:World}(hS: @Ic (T.at ρ γ) B w0 R σ w){ds:List (FuncId×Array Value)}(hA: @Fk (T.at ρ γ) R cs ds):
  ∀{t:Tree} {F:List (Value×Value)},ez E0 n cs post tab roots σ t F=true->(∀p,p∈F-> @den (T.at ρ γ) p.1= @den (T.at ρ γ) p.2)->Ce E0.P ds (Stepped T tab roots post ρ γ B w0 R) w
 | .leaf j,F,h,hF=>by
   simp only [ez]at h
   split at h
   . rename_i vs σ' hr
     split at h
     . rename_i S N4
       split at h
       . rename_i hh;obtain ⟨tX,hO1⟩:=hE ρ γ F hF;have:= @Fj (T.at ρ γ) _ tX hO1 _ _ _ _ _ _ _ _ _ _ hr hS hA;refine this.mono ?_
         rintro ws w' ⟨R1,q1,q2,q3⟩;generalize KL σ' 0 ⟨upN roots 0,[],[]⟩ S.se=s at h hh;unfold BP at hh;simp only [za,Bool.and_eq_true,jd,decide_eq_true_eq]at hh;obtain ⟨h1,h2,h3,h4,h5⟩:=hh;rw [Gc]at N4;refine ⟨j,S,vs,s,R1,N4,h,q1,q2,⟨Kq ρ γ s.θ s.η tX h3,reshape ρ γ s.θ s.η tX q3 h1 h2⟩,fun i hi=> ?_⟩;rw [Pc]at h5;have hl:i<s.f.length:=by omega
         have h6:=Js (j:=i) h4 (b:=s.f[i]) (by rw [SB,List.getElem?_take,if_pos hi];exact List.getElem?_eq_getElem hl);unfold Nl;rw [List.getElem?_eq_getElem hl,h6];simp
       . cases h
     . cases h
   . cases h
 | .split c l r,F,h,hF=>by
   simp only [ez]at h
   split at h
   . rename_i hc
     split at h
     . rename_i hl;have h8:Ue c=some 8:=by
        unfold isB at hc
        split at hc
        . rename_i k hk;rw [Ja]at hc;rw [hk,of_decide_eq_true hc]
        . cases hc
       obtain ⟨c',hd,hs⟩:= @Fy (T.at ρ γ) _ _ h8;obtain ⟨b,rfl⟩:= @Sc.bool (T.at ρ γ) _ hs;have P4:∀p,p∈((c,Value.bool b)::F)-> @den (T.at ρ γ) p.1= @den (T.at ρ γ) p.2:=by
        intro p hp;rcases List.mem_cons.1 hp with e|e
        . rw [e,hd];rfl
        . exact hF p e
       cases b with
       |true=>exact Gj hE hS hA hl P4
       |false=>exact Gj hE hS hA h P4
     . cases h
   . cases h
end
end
end Sk
end Go.Proofs.YtfnkmolffhfpoaaGreat
