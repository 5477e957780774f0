/- -/
import Derived.Test.YtfnkmolffhfpoaaGreatHq12
set_option linter.unusedVariables false
set_option linter.unusedSimpArgs false
set_option linter.unusedSectionVars false
namespace Go.Proofs.YtfnkmolffhfpoaaGreat
namespace Sk
open Go.RowKit
noncomputable section
theorem AP[Interp]{k:Nat}{u:Value}(h:qc k u=true)(hk:k<=8):∃x,den u= .v x/\fk k (Ma (.v x:Qc Interp.G))=x:=by
 cases u with
 |int q n=>
  simp only [qc]at h
  split at h
  . rename_i hb;rw [Na]at hb;have:=of_decide_eq_true hb;subst this;rw [Ce,Mm]at h;have:=of_decide_eq_true h;exact ⟨_,rfl,by rw [Rc];simp only [Ma];rw [this]⟩
  . cases h
 |bool b=>
  simp only [qc,Na]at h;have:=of_decide_eq_true h;subst this;exact ⟨_,rfl,by rw [jd];cases b<;>rfl⟩
 |func f a c=>cases f with
  |methodOf t s=>
   simp only [qc,Na]at h;have ht:t %16=k:=of_decide_eq_true h;rw [Df,xl _ (by rw [ht];exact hk)];refine ⟨_,rfl, ?_⟩;rw [ht];by_cases h8:k=8
   . subst h8;rw [jd,jd];generalize (match Nat.ble 64 (t/16)with|true=>Interp.U (t/16) (KG a)|false=>Pm Interp.ρ (t/16) ((KG a).map Ma) ((IU 8).getD .i64))=z;by_cases hz:z=0<;>simp [Ma,hz]
   . obtain ⟨q,h1,h2⟩:=pB (c:=k) (by omega);subst h2;rw [Rc,Rc];simp only [Ma];rw [wrap_wrap]
  |_=>simp [qc]at h
 |_=>simp [qc]at h
theorem I7[Interp]{k:Nat}{u:Value}(h:Eo k u=true):∃g,den u= .g (Interp.W k g):=by
 cases u with
 |func f a c=>cases f with
  |methodOf t s=>
   simp only [Eo,Ae,Aa,Bool.and_eq_true,Na,decide_eq_true_eq]at h;obtain ⟨h,rfl⟩:=h;rw [Df];unfold ni;cases hb:Nat.ble (Nat.mod t 16) 8 with
   |true=>rw [hb]at h;cases h
   |false=>exact ⟨_,rfl⟩
  |_=>simp [Eo]at h
 |_=>simp [Eo]at h
variable{T:ti}(ρ:Nat->Int)(γ:Nat->T.G)(θ η:List Value)
def iE(u:Value):Option Nat:=
 match u with
 | .func f a c=>match f with
   | .methodOf t _=>match Nat.div t 16 with
     |0=>match a with
      |⟨l⟩=>match l with
       |[.int _ (.ofNat i)]=>some i
       |_=>none
     |_+1=>none
   |_=>none
 |_=>none
def aw(i:Nat):Int:=match θ[i]?with|some u=>(match iE u with|some j=>ρ j|none=>Ma (@den (T.at ρ γ) u))|none=>ρ i
def Zl(i:Nat):T.G:=match η[i]?with|some u=>(match @den (T.at ρ γ) u with| .g g=>g| .v _=>γ i)|none=>γ i
theorem BP{u:Value}{j k:Nat}(h:iE u=some j)(hs:qc k u=true)(hk:k<=8): @den (T.at ρ γ) u= .v (@fk k (ρ j)):=by
 letI:Interp:=T.at ρ γ
 cases u with
 |func f a c=>cases f with
  |methodOf t s=>
   simp only [iE]at h
   split at h
   . rename_i hdiv;obtain ⟨l⟩:=a;simp only at h
     split at h
     . rename_i q i;cases h;simp only [qc,Na]at hs;have ht:t %16=k:=of_decide_eq_true hs;rw [@Df (T.at ρ γ), @xl (T.at ρ γ) _ _ (by rw [ht];exact hk)];have hl: @KG (T.at ρ γ) ⟨[.int q (.ofNat j)]⟩=[.v (.int q (.ofNat j))]:=rfl;rw [hl];have e1:t/16=0:=hdiv;have e0:Nat.ble 64 (t/16)=false:=by rw [e1];rfl
       rw [e0,e1,ht];rfl
     . cases h
   . cases h
  |_=>simp [iE]at h
 |_=>simp [iE]at h
@[reducible] def Xh:Interp:=T.at (aw ρ γ θ) (Zl ρ γ η)
variable{E:Env}(hE: @Rb (T.at ρ γ) E)
include hE
mutual
theorem Jq:∀(d:Nat) (v u:Value),gH E θ η d v=some u-> @den (Xh ρ γ θ η) v= @den (T.at ρ γ) u
 |0,v,u,h=>by simp [gH]at h
 |d+1,v,u,h=>by
  letI:Interp:=T.at ρ γ
  simp only [gH]at h
  split at h
  . rename_i f a c
    split at h
    . rename_i t s;obtain ⟨l⟩:=a;simp only at h
      split at h
      . rename_i hdiv
        split at h
        . rename_i q i;have hl:∀J:Interp, @KG J ⟨[.int q (.ofNat i)]⟩=[.v (.int q (.ofNat i))]:=fun J=>rfl
          split at h
          . rename_i hk;rw [yd]at hk;have hk:t %16<=8:=of_decide_eq_true hk
            split at h
            . rename_i u0 hu
              split at h
              . rename_i hsc;cases h;obtain ⟨x,h1,h2⟩:= @AP (T.at ρ γ) _ _ hsc hk;rw [Ec]at hu;rw [@Df (Xh ρ γ θ η), @xl (Xh ρ γ θ η) _ _ hk,hl,h1];have e0:Nat.ble 64 (t/16)=false:=by rw [show t/16=0 from hdiv];rfl
                have e1:t/16=0:=hdiv;rw [e0,e1];simp only [List.map,Ma,Pm]
                congr 1
                show fk (t %16) (aw ρ γ θ (Int.toNat (Int.ofNat i)))=_
                unfold aw;rw [show(Int.toNat (Int.ofNat i))=i from rfl,hu];simp only;cases hvn:iE u with
                |none=>
                 simp only;rw [h1];exact h2
                |some j=>
                 simp only;have:=BP ρ γ hvn hsc hk;rw [h1]at this;injection this with this
                 exact this.symm
              . cases h
            . cases h
          . rename_i hk
            split at h
            . rename_i u0 hu
              split at h
              . rename_i hg;cases h;obtain ⟨g,h1⟩:= @I7 (T.at ρ γ) _ _ hg;rw [Ec]at hu;rw [@Df (Xh ρ γ θ η),hl,h1];unfold ni;rw [hk];have e1:Nat.div t 16=0:=hdiv;rw [e1];simp only [Ma];have:Zl ρ γ η (Int.toNat (Int.ofNat i))=T.W (Nat.mod t 16) g:=by
                 unfold Zl;rw [show(Int.toNat (Int.ofNat i))=i from rfl,hu];simp only;rw [h1];rfl
                exact congrArg Qc.g ((congrArg (T.W (Nat.mod t 16)) this).trans (T.W_W _ _))
              . cases h
            . cases h
        . cases h
      . rename_i n hdiv
        split at h
        . rename_i l' hl;have Cau:=jE d l l' hl;have e: @den (Xh ρ γ θ η) (.func (.methodOf t s) ⟨l⟩ c)= @den (T.at ρ γ) (sy t l'):=by
           rw [@Df (Xh ρ γ θ η)];unfold sy;rw [@Df (T.at ρ γ)]
           show @ni (Xh ρ γ θ η) t (@Tb (Xh ρ γ θ η) l)= @ni (T.at ρ γ) t (@Tb (T.at ρ γ) l')
           rw [Cau];have e1:Nat.div t 16=n+1:=hdiv;unfold ni;rw [e1];rfl
          rw [e]
          split at h
          . rename_i hk;rw [yd]at hk;have hk:t %16<=8:=of_decide_eq_true hk;cases h;exact (@uD (T.at ρ γ) E hE _ _ (vD l' hk)).symm
          . cases h;rfl
        . cases h
    . cases h
  . cases h;rfl
  . cases h;rfl
  . cases h
theorem jE:∀(d:Nat) (l m:List Value),nM E θ η d l=some m-> @Tb (Xh ρ γ θ η) l= @Tb (T.at ρ γ) m
 |0,l,m,h=>by simp [nM]at h
 |d+1,[],m,h=>by simp [nM]at h;subst h;rfl
 |d+1,x::xs,m,h=>by
  simp only [nM]at h
  split at h
  . rename_i y hy
    split at h
    . rename_i ys hys;cases h;simp only [Tb];rw [Jq d x y hy,jE d xs ys hys]
    . cases h
  . cases h
end
def Kp(f:List Nat)(R:Mp):Mp:=fun b=>match f[b]?with|some c=>R c|none=>none
mutual
theorem js(f:List Nat)(R:Mp):∀(d:Nat) (p v w:Value),G7 E θ η f d p v=true-> @VR (T.at ρ γ) R v w-> @VR (Xh ρ γ θ η) (Kp f R) p w
 |0,p,v,w,h,hv=>by simp [G7]at h
 |d+1,p,v,w,h,hv=>by
  letI:Interp:=T.at ρ γ
  simp only [G7]at h
  split at h
  . rename_i b o
    split at h
    . rename_i b' o'
      split at h
      . rename_i c hc;simp only [Aa,Bool.and_eq_true,Na,decide_eq_true_eq]at h;obtain ⟨rfl,rfl⟩:=h;rw [Ec]at hc;obtain ⟨r,s,h1,rfl⟩:= @Wg (T.at ρ γ) _ _ _ _ hv;exact @VR.ptr (Xh ρ γ θ η) _ b o r s (by unfold Kp;rw [hc];exact h1)
      . cases h
    . cases h
  . rename_i b o n z
    split at h
    . rename_i b' o' n' z'
      split at h
      . cases h
      . rename_i z
        split at h
        . rename_i c hc;simp only [Aa,Bool.and_eq_true,Na,decide_eq_true_eq]at h;obtain ⟨rfl,rfl,rfl,rfl⟩:=h;rw [Ec]at hc;cases hv with
          |flat v h=>simp [yc]at h
          |ly b1 o b2 s n z c' h1 h2 h3 h4=>exact @VR.ly (Xh ρ γ θ η) _ b o b2 s n _ c' (by unfold Kp;rw [hc];exact h1) h2 h3 h4
        . cases h
    . cases h
  . rename_i t u
    split at h
    . rename_i t' u'
      split at h
      . rename_i ht;rw [Na]at ht;have ht:=of_decide_eq_true ht;subst ht;cases hv with
        |flat v h=>simp [yc]at h
        |Wu t v v' hv=>exact @VR.Wu (Xh ρ γ θ η) _ t u v' (js f R d u u' v' h hv)
      . cases h
    . cases h
  . rename_i g a c
    split at h
    . rename_i t s
      split at h
      . rename_i u hu;simp only [Aa,Bool.and_eq_true]at h;obtain ⟨h1,h2,h3⟩:=h;have e1:=Jq ρ γ θ η hE 60 _ u hu;have e2:= @Ee (T.at ρ γ) 60 u v h3;cases hk:Gf v with
        |none=>rw [hk]at h1;cases h1
        |some k=>
         have e3:= @Pr (T.at ρ γ) _ _ _ hv _ hk;exact @VR.sym (Xh ρ γ θ η) _ t s _ _ w (by rw [e1,e2,e3])
      . cases h
    . rename_i g
      split at h
      . rename_i g' a' c'
        split at h
        . rename_i hg;rw [Na]at hg;have hg:=of_decide_eq_true hg;subst hg
          split at h
          . rename_i ha;cases hv with
            |flat v hf=>
             simp only [yc]at hf;cases a' with
             |nil=>cases c' with
              |nil=>
               have q1:=vJ f d a ha;have q2:=vJ f d c h;subst q1;subst q2;exact @VR.flat (Xh ρ γ θ η) _ _ rfl
              |cons x y=>simp at hf
             |cons x y=>simp at hf
            |fn f0 a1 a2 c1 c2 k1 k2 k3 k4=>
             have l1:=As f R d a a' a2 ha ⟨k1,k3⟩;have l2:=As f R d c c' c2 h ⟨k2,k4⟩;exact @VR.fn (Xh ρ γ θ η) _ _ a a2 c c2 l1.1 l2.1 l1.2 l2.2
          . cases h
        . cases h
      . cases h
    . cases h
  . split at h
    . rename_i hp;have:=UD h;subst this;rw [@mc (T.at ρ γ) _ _ _ hv hp];exact @VR.flat (Xh ρ γ θ η) _ _ hp
    . cases h
theorem vJ(f:List Nat):∀(d:Nat) (p:List Value),zP E θ η f d p []=true->p=[]
 |0,p,h=>by simp [zP]at h
 |d+1,[],h=>rfl
 |d+1,x::xs,h=>by simp [zP]at h
theorem As(f:List Nat)(R:Mp):∀(d:Nat) (p v w:List Value),zP E θ η f d p v=true-> @LR (T.at ρ γ) R v w-> @LR (Xh ρ γ θ η) (Kp f R) p w
 |0,p,v,w,h,hv=>by cases p<;>cases v<;>simp [zP]at h
 |d+1,[],[],w,h,hv=>by
  have:= @LR.Fc (T.at ρ γ) _ _ hv;subst this;exact @LR.nil (Xh ρ γ θ η) _
 |d+1,[],y::ys,w,h,hv=>by simp [zP]at h
 |d+1,x::xs,[],w,h,hv=>by simp [zP]at h
 |d+1,x::xs,y::ys,w,h,hv=>by
  simp only [zP]at h
  split at h
  . rename_i h1;obtain ⟨z,zs,rfl,k1,k2⟩:= @LR.Ea (T.at ρ γ) _ _ _ _ hv;exact @LR.cons (Xh ρ γ θ η) _ _ _ _ _ (js f R d x y z h1 k1) (As f R d xs ys zs h k2)
  . cases h
end
end
noncomputable section
theorem Kq(n:Nat):∀(l:List (Option Value)) (i:Nat) (t:Tr Value) (j:Nat),i+l.length<=n->(rowP n i l t).get j=if i<=j then(match l[j -i]?with|some (some v)=>some v|_=>t.get j)else t.get j
 |[],i,t,j,h=>by simp [rowP]
 |none::l,i,t,j,h=>by
  simp only [rowP];rw [Kq n l (Nat.succ i) t j (by simp at h;omega)];by_cases h1:i<=j
  . rw [if_pos h1];by_cases h2:Nat.succ i<=j
    . rw [if_pos h2];have:j -i=(j -Nat.succ i)+1:=by omega
      rw [this,List.getElem?_cons_succ]
    . rw [if_neg h2];have:j -i=0:=by omega
      rw [this,List.getElem?_cons_zero]
  . rw [if_neg h1,if_neg (by omega)]
 |some v::l,i,t,j,h=>by
  simp only [rowP];rw [Kq n l (Nat.succ i) _ j (by simp at h;omega)];have hi:i<Nat.succ n:=by simp at h;omega
  rw [Rh _ _ _ _ _ hi];by_cases h1:i<=j
  . rw [if_pos h1];by_cases h2:Nat.succ i<=j
    . rw [if_pos h2];have:j -i=(j -Nat.succ i)+1:=by omega
      rw [this,List.getElem?_cons_succ,if_neg (by omega)]
    . rw [if_neg h2];have h3:j=i:=by omega
      subst h3;simp
  . rw [if_neg h1,if_neg (by omega),if_neg (by omega)]
theorem kE(l:List (Option Value))(e:TypeId)(full:Bool)(j:Nat)(v:Value)(h:(⟨Ue l,none,rowP (Ue l) 0 l .nil⟩:Row).get j=some v):l[j]?=some (some v):=by
 unfold Row.get at h;simp only at h;rw [Kq _ _ _ _ _ (by rw [cd];omega)]at h;rw [if_pos (Nat.zero_le _),Nat.sub_zero,Tr.get_nil]at h;cases hl:l[j]?with
 |none=>rw [hl]at h;simp only at h;split at h<;>cases h
 |some o=>
  cases o with
  |none=>rw [hl]at h;simp only at h;split at h<;>cases h
  |some u=>rw [hl]at h;simp at h;rw [h]
theorem wJ(n:Nat):∀(l:List dh) (i:Nat) (t:Tr qa) (j:Nat),i+l.length<=n->(ahP n i l t).get j=if i<=j then(match l[j -i]?with|some o=>some o.obj|none=>t.get j)else t.get j
 |[],i,t,j,h=>by simp [ahP]
 |o::l,i,t,j,h=>by
  simp only [ahP];rw [wJ n l (Nat.succ i) _ j (by simp at h;omega)];have hi:i<Nat.succ n:=by simp at h;omega
  rw [Rh _ _ _ _ _ hi];by_cases h1:i<=j
  . rw [if_pos h1];by_cases h2:Nat.succ i<=j
    . rw [if_pos h2];have:j -i=(j -Nat.succ i)+1:=by omega
      rw [this,List.getElem?_cons_succ,if_neg (by omega)]
    . rw [if_neg h2];have h3:j=i:=by omega
      subst h3;simp
  . rw [if_neg h1,if_neg (by omega),if_neg (by omega)]
theorem zg(l:List dh)(b:Nat):(Cu l).get b=(l[b]?).map dh.obj:=by
 show(ahP (Ue l) 0 l .nil).get b=_
 rw [wJ _ _ _ _ _ (by rw [cd];omega),if_pos (Nat.zero_le _),Nat.sub_zero,Tr.get_nil];cases l[b]?<;>rfl
theorem lE{E:Env}{θ η:List Value}{f0:List Nat}{σ:AH}:∀{f:List Nat} {l:List dh},H7 E θ η f0 σ f l=true->f.length=l.length/\∀(b c:Nat),f[b]?=some c->∃po,l[b]?=some po/\eV E θ η f0 po (σ.get c)=true
 |[],[],h=>⟨rfl,fun b c h=>by simp at h⟩
 |[],o::os,h=>by simp [H7]at h
 |b::bs,[],h=>by simp [H7]at h
 |b::bs,o::os,h=>by
  simp only [H7]at h
  split at h
  . rename_i h1;obtain ⟨k1,k2⟩:=lE h;refine ⟨by simp [k1],fun c d hc=> ?_⟩;cases c with
    |zero=>simp at hc;subst hc;exact ⟨o,rfl,h1⟩
    |succ c=>simpa using k2 c d (by simpa using hc)
  . cases h
theorem Fz:∀{n:Nat} {l:List Nat},fV n l=false->n∉l
 |n,[],h=>by simp
 |n,m::ms,h=>by
  simp only [fV]at h
  split at h
  . cases h
  . rename_i hb;rw [Na]at hb;have:=of_decide_eq_false hb;simp only [List.mem_cons,not_or];exact ⟨this,Fz h⟩
theorem Lp:∀{l:List Nat},gE l=true->∀(i j c:Nat),l[i]?=some c->l[j]?=some c->i=j
 |[],h,i,j,c,hi,hj=>by simp at hi
 |n::ns,h,i,j,c,hi,hj=>by
  simp only [gE]at h
  split at h
  . cases h
  . rename_i hb;have hn:=Fz hb;cases i with
    |zero=>cases j with
     |zero=>rfl
     |succ j=>
      simp at hi hj;subst hi;exact absurd (List.mem_of_getElem? hj) hn
    |succ i=>cases j with
     |zero=>
      simp at hi hj;subst hj;exact absurd (List.mem_of_getElem? hi) hn
     |succ j=>
      have:=Lp h i j c (by simpa using hi) (by simpa using hj);omega
theorem bw{E:Env}{θ η:List Value}{f:List Nat}{c':Row}:∀{l:List (Option Value)} {i:Nat},mtC E θ η f c' i l=true->∀(j:Nat) (v:Value),l[j]?=some (some v)->∃u,c'.get (i+j)=some u/\G7 E θ η f 20 v u=true
 |[],i,h,j,v,hv=>by simp at hv
 |none::l,i,h,j,v,hv=>by
  simp only [mtC]at h;cases j with
  |zero=>simp at hv
  |succ j=>
   obtain ⟨u,k1,k2⟩:=bw h j v (by simpa using hv);exact ⟨u,by rw [<-k1];congr 1;omega,k2⟩
 |some v0::l,i,h,j,v,hv=>by
  simp only [mtC]at h
  split at h
  . rename_i u hu
    split at h
    . rename_i hm;cases j with
      |zero=>simp at hv;subst hv;exact ⟨u,hu,hm⟩
      |succ j=>
       obtain ⟨u,k1,k2⟩:=bw h j v (by simpa using hv);exact ⟨u,by rw [<-k1];congr 1;omega,k2⟩
    . cases h
  . cases h
section
variable{T:ti}(ρ:Nat->Int)(γ:Nat->T.G)(θ η:List Value){E:Env}(hE: @Rb (T.at ρ γ) E)
include hE
theorem reshape{B:Nat->Prop}{w0:World}{R:Mp}{σ:AH}{w:World}(hS: @Vc (T.at ρ γ) B w0 R σ w){f:List Nat}{l:List dh}(h:H7 E θ η f σ f l=true)(hn:gE f=true): @Vc (Xh ρ γ θ η) B w0 (Kp f R) (Cu l) w:=by
 obtain ⟨hlen,hal⟩:=lE h;obtain ⟨HaF,slt,Eau,Fau,ew,wad,O,hO⟩:=hS;have hR:∀b x,Kp f R b=some x->∃c,f[b]?=some c/\R c=some x:=fun b x hb=>by
  unfold Kp at hb;cases hc:f[b]?with
  |none=>rw [hc]at hb;cases hb
  |some c=>rw [hc]at hb;exact ⟨c,rfl,hb⟩
 have live:∀b c,f[b]?=some c->∃po x,l[b]?=some po/\σ.get c=some x/\eV E θ η f po (some x)=true:=fun b c hc=>by
  obtain ⟨po,h1,h2⟩:=hal b c hc;cases hx:σ.get c with
  |none=>rw [hx]at h2;cases po<;>simp [eV]at h2
  |some x=>rw [hx]at h2;exact ⟨po,x,h1,rfl,h2⟩
 refine @Vc.mk (Xh ρ γ θ η) _ _ _ _ _ (fun b x hb=> ?_) (fun b r s hb=> ?_) (fun b r s o hb hg=> ?_) (fun b1 b2 r s1 s2 h1 h2 bc=> ?_) ⟨ew.os,ew.tape,ew.output,ew.size,ew.block⟩ wad ?_
 . obtain ⟨c,h1,h2⟩:=hR b x hb;have:=(List.getElem?_eq_some_iff.1 h1).1
   show b<Ue l
   rw [cd];omega
 . obtain ⟨c,h1,h2⟩:=hR b _ hb;exact slt c r s h2
 . obtain ⟨c,h1,h2⟩:=hR b _ hb;obtain ⟨po,x,k1,k2,k3⟩:=live b c h1;rw [zg,k1]at hg;cases hg;obtain ⟨hB,ho⟩:=Eau c r s x h2 k2;refine ⟨hB, ?_⟩;cases po with
   |gh e=>trivial
   |cells q e full=>
    cases x with
    |cells c' e' vX=>
     simp only [eV]at k3
     split at k3
     . rename_i hc;simp only [Aa,Bool.and_eq_true,Na,decide_eq_true_eq,Ck,beq_iff_eq]at hc;obtain ⟨rfl,hq,rfl⟩:=hc;obtain ⟨cs,h3,h4,h5,h6,h7⟩:=ho;refine ⟨cs,h3,h4,by show Ue q<=s;omega,fun e=>by show Ue q=s;rw [hq];exact h6 e,fun i v hv=> ?_⟩;have hv:=kE q e full i v hv;obtain ⟨u,m1,m2⟩:=bw k3 i v hv;rw [Nat.zero_add]at m1;obtain ⟨_,v',n1,n2⟩:=h7 i u m1;refine ⟨by show i<Ue q;rw [cd];exact (List.getElem?_eq_some_iff.1 hv).1,v',n1,js ρ γ θ η hE f R 20 v u v' m2 n2⟩
     . cases k3
    |_=>simp [eV]at k3
 . obtain ⟨c1,a1,a2⟩:=hR b1 _ h1;obtain ⟨c2,a3,a4⟩:=hR b2 _ h2;obtain ⟨_,x1,_,k1,_⟩:=live b1 c1 a1;obtain ⟨_,x2,_,k2,_⟩:=live b2 c2 a3;have hc:c1≠c2:=fun e=>by subst e;exact bc (Lp hn b1 b2 c1 a1 a3)
   rcases Fau c1 c2 r s1 s2 a2 a4 hc with k|k
   . rw [k1]at k;cases k
   . rw [k2]at k;cases k
 . refine ⟨fun b=>match f[b]?with|some c=>O c|none=>fun _=>False,fun b r s e hb hg=> ?_⟩;obtain ⟨c,h1,h2⟩:=hR b _ hb;obtain ⟨po,x,k1,k2,k3⟩:=live b c h1;rw [zg,k1]at hg;cases po with
   |cells q e full=>cases hg
   |gh e0=>
    have he:e0=e:=by simp only [Option.map_some,dh.obj]at hg;cases hg;rfl
    subst he;cases x with
    |gh e'=>
     simp only [eV]at k3
     split at k3
     . rename_i u hu;have k4:=k3;obtain ⟨⟨g,m1,m2⟩,m3,m4⟩:=hO c r s e' h2 k2;simp only [h1];refine ⟨⟨g, ?_,m2⟩,m3,fun b2 r2 s2 o2 bc Zp Hr=> ?_⟩
       . rw [Jq ρ γ θ η hE 60 _ u hu, @Ee (T.at ρ γ) 60 u e' k4,m1]
       . obtain ⟨c2,a1,a2⟩:=hR b2 _ Zp;obtain ⟨po2,x2,p1,p2,p3⟩:=live b2 c2 a1;have hc:c2≠c:=fun q=>by subst q;exact bc (Lp hn b2 b c2 a1 h1)
         obtain ⟨z1,z2⟩:=m4 c2 r2 s2 x2 hc a2 p2;refine ⟨z1,fun e2 he2 k hk=> ?_⟩;simp only [a1];rw [zg,p1]at Hr;subst he2;cases po2 with
         |cells q e full=>cases Hr
         |gh e3=>
          cases x2 with
          |gh e4=>exact z2 e4 rfl k hk
          |_=>simp [eV]at p3
     . cases k3
    |_=>simp [eV]at k3
theorem Du:∀{F:List (Value×Value)},mtF E θ η F=true->∀p,p∈F-> @den (Xh ρ γ θ η) p.1= @den (Xh ρ γ θ η) p.2
 |[],h,p,hp=>by cases hp
 |q::F,h,p,hp=>by
  simp only [mtF]at h
  split at h
  . rename_i u c b hu hc he
    split at h
    . rename_i hs;rcases List.mem_cons.1 hp with rfl|hp
      . rw [Jq ρ γ θ η hE 60 _ u hu, @Ee (T.at ρ γ) 60 _ _ hs,he];rfl
      . exact Du h p hp
    . cases h
  . rename_i u c k n hu hc he
    split at h
    . rename_i hs;rcases List.mem_cons.1 hp with rfl|hp
      . rw [Jq ρ γ θ η hE 60 _ u hu, @Ee (T.at ρ γ) 60 _ _ hs,he];rfl
      . exact Du h p hp
    . cases h
  . cases h
end
end
section
variable[Interp]{B:Nat->Prop}{w0:World}{R:Mp}{σ:AH}{w:World}
theorem Vc.gat(h:Vc B w0 R σ w){b r s:Nat}{e0:Value}(hb:R b=some (r,s))(hg:σ.get b=some (.gh e0)):
  ∃(g0:Interp.G) (O0:Nat->Prop),den e0= .g g0/\Interp.gh g0 r O0 w/\(∀k,O0 k->B k)/\(∀b2 r2 s2 o2,b2≠b->R b2=some (r2,s2)->σ.get b2=some o2->¬O0 r2)/\∀(w':World) (e:Value) (g:Interp.G) (O':Nat->Prop),den e= .g g->Interp.gh g r O' w'->(∀k,O' k->O0 k\/w.heap.size<=k)->Lh O0 w w'->Vc B w0 R (σ.put b (some (.gh e))) w':=by
 obtain ⟨O,hO⟩:=h.kO;obtain ⟨⟨g0,k1,k2⟩,k3,k4⟩:=hO b r s e0 hb hg;refine ⟨g0,O b,k1,k2,k3,fun b2 r2 s2 o2 h1 h2 h3=>(k4 b2 r2 s2 o2 h1 h2 h3).1,fun w' e g O' m1 m2 m3 m4=> ?_⟩;have zb:∀k,O b k->k<w.heap.size:=fun k hk=>hO.lt hb hg hk
 have oth:∀c q t y,c≠b->R c=some (q,t)->σ.get c=some y->w'.heap[q]?=w.heap[q]?:=fun c q t y hc h1 h2=>m4.block q (h.lt c q t h1) (k4 c q t y hc h1 h2).1
 refine ⟨h.DD,fun c q t h1=>Nat.lt_of_lt_of_le (h.lt c q t h1) m4.size,fun c q t y h1 h2=> ?_,fun b1 b2 q s1 s2 h1 h2 bc=> ?_, ?_,h.base, ?_⟩
 . rw [tb]at h2;by_cases hc:c=b
   . subst hc;rw [if_pos rfl]at h2;cases h2;exact ⟨(h.obj c q t _ h1 hg).1,trivial⟩
   . rw [if_neg hc]at h2;obtain ⟨p1,p2⟩:=h.obj c q t y h1 h2;exact ⟨p1,by rw [oth c q t y hc h1 h2];exact p2⟩
 . rw [tb,tb];by_cases e1:b1=b
   . subst e1;right;rw [if_neg (Ne.symm bc)];rcases h.inj b1 b2 q s1 s2 h1 h2 bc with k|k
     . rw [hg]at k;cases k
     . exact k
   . rw [if_neg e1];by_cases e2:b2=b
     . subst e2;left;rcases h.inj b1 b2 q s1 s2 h1 h2 bc with k|k
       . exact k
       . rw [hg]at k;cases k
     . rw [if_neg e2];exact h.inj b1 b2 q s1 s2 h1 h2 bc
 . exact ⟨m4.os.trans h.below.os,m4.tape.trans h.below.tape,m4.output.trans h.below.output,Nat.le_trans h.below.size m4.size,fun k hk hn=>by
    rw [m4.block k (Nat.lt_of_lt_of_le hk h.below.size) (fun ho=>hn (k3 k ho))];exact h.below.block k hk hn⟩
 . refine ⟨fun c=>if c=b then O' else O c,fun c q t y h1 h2=> ?_⟩;rw [tb]at h2;by_cases hc:c=b
   . subst hc;rw [if_pos rfl]at h2;cases h2;rw [hb]at h1;cases h1;simp only [if_true];refine ⟨⟨g,m1,m2⟩,fun k hk=> ?_,fun b2 r2 s2 o2 bc h3 h4=> ?_⟩
     . rcases m3 k hk with p|p
       . exact k3 k p
       . exact h.base k (Nat.le_trans h.below.size p)
     . rw [tb,if_neg bc]at h4;obtain ⟨p1,p2⟩:=k4 b2 r2 s2 o2 bc h3 h4;refine ⟨fun hk=> ?_,fun e2 he k hk=> ?_⟩
       . rcases m3 _ hk with p|p
         . exact p1 p
         . have:=h.lt b2 r2 s2 h3;omega
       . rw [if_neg bc];rcases m3 _ hk with p|p
         . exact p2 e2 he k p
         . intro CP;subst he;have:=hO.lt h3 h4 CP;omega
   . rw [if_neg hc]at h2;simp only [if_neg hc];obtain ⟨⟨g2,p1,p2⟩,p3,p4⟩:=hO c q t y h1 h2;have xad:∀k,O c k->¬O b k:=fun k hk=>(p4 b r s _ (Ne.symm hc) hb hg).2 e0 rfl k hk
     refine ⟨⟨g2,p1,Interp.gh_keep _ _ _ _ _ p2 m4.size fun k hk=>m4.block k (hO.lt h1 h2 hk) (xad k hk)⟩,p3,fun b2 r2 s2 o2 bc h3 h4=> ?_⟩;rw [tb]at h4;by_cases Zp:b2=b
     . subst Zp;rw [if_pos rfl]at h4;cases h4;obtain ⟨z1,z2⟩:=p4 b2 r2 s2 _ bc h3 hg;refine ⟨z1,fun e2 he k hk=> ?_⟩;simp only [if_true];intro CP;rcases m3 k CP with p|p
       . exact xad k hk p
       . have:=hO.lt h1 h2 hk;omega
     . rw [if_neg Zp]at h4;simp only [if_neg Zp];exact p4 b2 r2 s2 o2 bc h3 h4
end
def re(P:Program):List (FuncId×Array Value)->(List Value->World->Prop)->World->Prop
 |[],Q,w=>Q [] w
 |c::cs,Q,w=>Calls P c.1 c.2 w fun e w'=>∃v,e= .returned v/\re P cs (fun vs w''=>Q (v::vs) w'') w'
theorem re.mono{P:Program}:∀{cs:List (FuncId×Array Value)} {Q Q':List Value->World->Prop} {w:World},re P cs Q w->(∀vs w',Q vs w'->Q' vs w')->re P cs Q' w
 |[],Q,Q',w,h,k=>k _ _ h
 |c::cs,Q,Q',w,h,k=>Calls.mono h fun e w' q=>by
  obtain ⟨v,rfl,h2⟩:=q;exact ⟨v,rfl,h2.mono fun vs w''=>k _ _⟩
noncomputable section
def runs(E:Env)(n:Nat):List (FuncId×List Value)->AH->Option (List Value×AH)
 |[],σ=>some ([],σ)
 |c::cs,σ=>match run E n (.call c.1 c.2 σ)with
  |some (.val v σ1)=>match runs E n cs σ1 with
   |some (vs,σ2)=>some (v::vs,σ2)
   |none=>none
  |_=>none
end
def Ym[Interp](R:Mp):List (FuncId×List Value)->List (FuncId×Array Value)->Prop
 |[],[]=>True
 |c::cs,d::ds=>c.1=d.1/\LR R c.2 d.2.toList/\Ym R cs ds
 |_,_=>False
theorem Ym.mono[Interp]{R R':Mp}(hle:R.le R'):∀{cs:List (FuncId×List Value)} {ds:List (FuncId×Array Value)},Ym R cs ds->Ym R' cs ds
 |[],[],_=>trivial
 |[],_::_,h=>h.elim
 |_::_,[],h=>h.elim
 |c::cs,d::ds,⟨h1,h2,h3⟩=>⟨h1,h2.mono hle,h3.mono hle⟩
theorem jw[Interp]{E:Env}(hE:Rb E)(hO:Yl E){n:Nat}{B:Nat->Prop}{w0:World}:∀{cs:List (FuncId×List Value)} {ds:List (FuncId×Array Value)} {σ σ':AH} {vs:List Value} {R:Mp} {w:World},runs E n cs σ=some (vs,σ')->Vc B w0 R σ w->Ym R cs ds->
  re E.P ds (fun ws w'=>∃R',R.le R'/\LR R' vs ws/\Vc B w0 R' σ' w') w
 |[],[],σ,σ',vs,R,w,h,hS,hA=>by
  simp only [runs]at h;cases h;exact ⟨R,R.le_refl,LR.nil R,hS⟩
 |[],_::_,σ,σ',vs,R,w,h,hS,hA=>hA.elim
 |_::_,[],σ,σ',vs,R,w,h,hS,hA=>hA.elim
 |c::cs,d::ds,σ,σ',vs,R,w,h,hS,hA=>by
  obtain ⟨h1,h2,h3⟩:=hA;simp only [runs]at h
  split at h
  . rename_i v σ1 hr
    split at h
    . rename_i vs1 σ2 gV;cases h;unfold re;rw [<-h1];refine (nk hE hO hr hS h2).mono ?_
      rintro e w1 ⟨R1,v',rfl,e1,e2,e3⟩;refine ⟨v',rfl,(jw hE hO gV e3 (h3.mono e1.le)).mono ?_⟩;rintro ws w2 ⟨R2,q1,q2,q3⟩;exact ⟨R2,Mp.le_trans e1.le q1,LR.cons (e2.mono q1) q2,q3⟩
    . cases h
  . cases h
noncomputable section
structure Shape where
 Yb:List dh
 facts:List (Value×Value)
 kinds:List Nat
 Gau:Nat
structure Bd where
 f:List Nat
 θ:List Value
 η:List Value
mutual
def iV:Nat->Bd->Value->Value->Bd
 |0,s,_,_=>s
 |d+1,s,p,v=>match p with
  | .pointer (some a)=>match v with
    | .pointer (some a')=>match Nat.beq a.block (Ue s.f)with|true=>⟨s.f++[a'.block],s.θ,s.η⟩|false=>s
    |_=>s
  | .slice (some a) _ _=>match v with
    | .slice (some a') _ _=>match Nat.beq a.block (Ue s.f)with|true=>⟨s.f++[a'.block],s.θ,s.η⟩|false=>s
    |_=>s
  | .iface _ u=>match v with
    | .iface _ u'=>iV d s u u'
    |_=>s
  | .func g ⟨a⟩ ⟨c⟩=>match g with
    | .methodOf t _=>match Nat.div t 16,a with
      |0,[.int _ (.ofNat i)]=>match Nat.ble (Nat.mod t 16) 8 with
       |true=>match Nat.beq i (Ue s.θ)with|true=>⟨s.f,s.θ++[v],s.η⟩|false=>s
       |false=>match Nat.beq i (Ue s.η)with|true=>⟨s.f,s.θ,s.η++[v]⟩|false=>s
      |_,_=>s
    | .func _=>match v with
      | .func _ ⟨a'⟩ ⟨c'⟩=>J7 d (J7 d s a a') c c'
      |_=>s
    |_=>s
  |_=>s
def J7:Nat->Bd->List Value->List Value->Bd
 |0,s,_,_=>s
 |d+1,s,x::xs,y::ys=>J7 d (iV d s x y) xs ys
 |_+1,s,_,_=>s
end
def K7(c':Row):Nat->Bd->List (Option Value)->Bd
 |_,s,[]=>s
 |i,s,none::l=>K7 c' (Nat.succ i) s l
 |i,s,some v::l=>match c'.get i with
  |some u=>K7 c' (Nat.succ i) (iV 20 s v u) l
  |none=>s
def Hau(σ:AH)(s:Bd)(b:Nat)(p:dh):Bd:=
 match p,σ.get b with
 | .cells l _ _,some (.cells c' _ _)=>K7 c' 0 s l
 | .gh e,some (.gh e')=>iV 20 s e e'
 |_,_=>s
def oM(σ:AH):Nat->Bd->List dh->Bd
 |_,s,[]=>s
 |i,s,o::os=>match Rf s.f i with
  |some b=>oM σ (Nat.succ i) (Hau σ s b o) os
  |none=>s
def upN:Nat->Nat->List Nat
 |0,_=>[]
 |n+1,i=>i::upN n (Nat.succ i)
def xJ:Nat->List Nat->Bool
 |_,[]=>true
 |i,n::ns=>match Nat.beq i n with|true=>xJ (Nat.succ i) ns|false=>false
def Gz:Nat->List Nat->List Nat
 |0,_=>[]
 |_+1,[]=>[]
 |n+1,x::xs=>x::Gz n xs
def PO(E:Env)(S:Shape)(roots:Nat)(σ:AH)(s:Bd):Bool:=
 Ra (H7 E s.θ s.η s.f σ s.f S.Yb) (Ra (gE s.f) (Ra (mtF E s.θ s.η S.facts) (Ra (xJ 0 (Gz roots s.f)) (Nat.ble roots (Ue s.f)))))
inductive Tree where
 |leaf(j:Nat)
 |split(c:Value)(l r:Tree)
def isB(c:Value):Bool:=match Gf c with|some k=>Nat.beq k 8|none=>false
def MB(E0:Env)(n:Nat)(cs:List (FuncId×List Value))(post:Shape->List Value->Bd->Bool)(tab:List Shape)(roots:Nat)(σ:AH):Tree->List (Value×Value)->Bool
 | .leaf j,F=>match runs (E0.Jl F) n cs σ with
   |some (vs,σ')=>match Rf tab j with
    |some S=>match oM σ' 0 ⟨upN roots 0,[],[]⟩ S.Yb with
     |s=>match PO (E0.Jl F) S roots σ' s with|true=>post S vs s|false=>false
    |none=>false
   |none=>false
 | .split c l r,F=>match isB c with
   |true=>match MB E0 n cs post tab roots σ l ((c, .bool true)::F)with
    |true=>MB E0 n cs post tab roots σ r ((c, .bool false)::F)
    |false=>false
   |false=>false
theorem ow:∀{l:List Nat} {i j b:Nat},xJ i l=true->l[j]?=some b->b=i+j
 |[],i,j,b,h,hb=>by simp at hb
 |n::ns,i,j,b,h,hb=>by
  simp only [xJ]at h
  split at h
  . rename_i hn;rw [Na]at hn;have hn:=of_decide_eq_true hn;cases j with
    |zero=>simp at hb;omega
    |succ j=>
     have:=ow (j:=j) h (by simpa using hb);omega
  . cases h
theorem mE:∀(n:Nat) (l:List Nat),Gz n l=l.take n
 |0,l=>by simp [Gz]
 |n+1,[]=>by simp [Gz]
 |n+1,x::xs=>by simp [Gz,mE n xs]
section
variable{T:ti}{E0:Env}
structure InS(T:ti)(S:Shape)(ρ:Nat->Int)(γ:Nat->T.G)(B:Nat->Prop)(w0:World)(R:Mp)(w:World):Prop where
 facts:∀p,p∈S.facts-> @den (T.at ρ γ) p.1= @den (T.at ρ γ) p.2
 Qo: @Vc (T.at ρ γ) B w0 R (Cu S.Yb) w
def Stepped(T:ti)(tab:List Shape)(roots:Nat)(post:Shape->List Value->Bd->Bool)(ρ:Nat->Int)(γ:Nat->T.G)(B:Nat->Prop)(w0:World)(R:Mp)(ws:List Value)(w':World):Prop:=
 ∃(j:Nat) (S:Shape) (vs:List Value) (s:Bd) (R1:Mp),tab[j]?=some S/\post S vs s=true/\R.le R1/\ @LR (T.at ρ γ) R1 vs ws/\InS T S (aw ρ γ s.θ) (Zl ρ γ s.η) B w0 (Kp s.f R1) w'/\∀i,i<roots->Kp s.f R1 i=R1 i
theorem Kl(hE:∀(ρ:Nat->Int) (γ:Nat->T.G) (F:List (Value×Value)),(∀p,p∈F-> @den (T.at ρ γ) p.1= @den (T.at ρ γ) p.2)-> @Rb (T.at ρ γ) (E0.Jl F)/\ @Yl (T.at ρ γ) (E0.Jl F))
  {n:Nat}{cs:List (FuncId×List Value)}{post:Shape->List Value->Bd->Bool}{tab:List Shape}{roots:Nat}{σ:AH}{ρ:Nat->Int}{γ:Nat->T.G}{B:Nat->Prop}{w0:World}{R:Mp}{w:World}(hS: @Vc (T.at ρ γ) B w0 R σ w){ds:List (FuncId×Array Value)}(hA: @Ym (T.at ρ γ) R cs ds):
  ∀{t:Tree} {F:List (Value×Value)},MB E0 n cs post tab roots σ t F=true->(∀p,p∈F-> @den (T.at ρ γ) p.1= @den (T.at ρ γ) p.2)->re E0.P ds (Stepped T tab roots post ρ γ B w0 R) w
 | .leaf j,F,h,hF=>by
   simp only [MB]at h
   split at h
   . rename_i vs σ' hr
     split at h
     . rename_i S hSj
       split at h
       . rename_i hh;obtain ⟨M7,hO1⟩:=hE ρ γ F hF;have:= @jw (T.at ρ γ) _ M7 hO1 _ _ _ _ _ _ _ _ _ _ hr hS hA;refine this.mono ?_
         rintro ws w' ⟨R1,q1,q2,q3⟩;generalize oM σ' 0 ⟨upN roots 0,[],[]⟩ S.Yb=s at h hh;unfold PO at hh;simp only [Aa,Bool.and_eq_true,yd,decide_eq_true_eq]at hh;obtain ⟨h1,h2,h3,h4,h5⟩:=hh;rw [Ec]at hSj;refine ⟨j,S,vs,s,R1,hSj,h,q1,q2,⟨Du ρ γ s.θ s.η M7 h3,reshape ρ γ s.θ s.η M7 q3 h1 h2⟩,fun i hi=> ?_⟩;rw [cd]at h5;have hl:i<s.f.length:=by omega
         have h6:=ow (j:=i) h4 (b:=s.f[i]) (by rw [mE,List.getElem?_take,if_pos hi];exact List.getElem?_eq_getElem hl);unfold Kp;rw [List.getElem?_eq_getElem hl,h6];simp
       . cases h
     . cases h
   . cases h
 | .split c l r,F,h,hF=>by
   simp only [MB]at h
   split at h
   . rename_i hc
     split at h
     . rename_i hl;have h8:Gf c=some 8:=by
        unfold isB at hc
        split at hc
        . rename_i k hk;rw [Na]at hc;rw [hk,of_decide_eq_true hc]
        . cases hc
       obtain ⟨c',hd,hs⟩:= @Nr (T.at ρ γ) _ _ h8;obtain ⟨b,rfl⟩:= @Sc.bool (T.at ρ γ) _ hs;have hF2:∀p,p∈((c,Value.bool b)::F)-> @den (T.at ρ γ) p.1= @den (T.at ρ γ) p.2:=by
        intro p hp;rcases List.mem_cons.1 hp with e|e
        . rw [e,hd];rfl
        . exact hF p e
       cases b with
       |true=>exact Kl hE hS hA hl hF2
       |false=>exact Kl hE hS hA h hF2
     . cases h
   . cases h
end
end
end Sk
end Go.Proofs.YtfnkmolffhfpoaaGreat
