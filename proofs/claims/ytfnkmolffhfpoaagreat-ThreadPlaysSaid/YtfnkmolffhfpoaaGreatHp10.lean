/- -/
import Derived.Test.YtfnkmolffhfpoaaGreatHp9
import Derived.Test.YtfnkmolffhfpoaaGreatHp7
set_option linter.unusedVariables false
set_option linter.unusedSimpArgs false
set_option linter.unusedSectionVars false
namespace Go.Proofs.YtfnkmolffhfpoaaGreat
namespace Sk
open Go.RowKit
noncomputable section
theorem Qq(n:Nat):∀(l:List (Option Value)) (i:Nat) (t:Tr Value) (j:Nat),i+l.length<=n->(rowP n i l t).get j=if i<=j then(match l[j -i]?with|some (some v)=>some v|_=>t.get j)else t.get j
 |[],i,t,j,h=>by simp [rowP]
 |none::l,i,t,j,h=>by
  simp only [rowP];rw [Qq n l (Nat.succ i) t j (by simp at h;omega)];by_cases h1:i<=j
  . rw [if_pos h1];by_cases h2:Nat.succ i<=j
    . rw [if_pos h2];have:j -i=(j -Nat.succ i)+1:=by omega
      rw [this,List.getElem?_cons_succ]
    . rw [if_neg h2];have:j -i=0:=by omega
      rw [this,List.getElem?_cons_zero]
  . rw [if_neg h1,if_neg (by omega)]
 |some v::l,i,t,j,h=>by
  simp only [rowP];rw [Qq n l (Nat.succ i) _ j (by simp at h;omega)];have hi:i<Nat.succ n:=by simp at h;omega
  rw [Ii _ _ _ _ _ hi];by_cases h1:i<=j
  . rw [if_pos h1];by_cases h2:Nat.succ i<=j
    . rw [if_pos h2];have:j -i=(j -Nat.succ i)+1:=by omega
      rw [this,List.getElem?_cons_succ,if_neg (by omega)]
    . rw [if_neg h2];have h3:j=i:=by omega
      subst h3;simp
  . rw [if_neg h1,if_neg (by omega),if_neg (by omega)]
theorem Lw(l:List (Option Value))(e:TypeId)(full:Bool)(j:Nat)(v:Value)(h:(⟨Ze l,none,rowP (Ze l) 0 l .nil⟩:Row).get j=some v):l[j]?=some (some v):=by
 unfold Row.get at h;simp only at h;rw [Qq _ _ _ _ _ (by rw [Dc];omega)]at h;rw [if_pos (Nat.zero_le _),Nat.sub_zero,Tr.get_nil]at h;cases hl:l[j]?with
 |none=>rw [hl]at h;simp only at h;split at h<;>cases h
 |some o=>
  cases o with
  |none=>rw [hl]at h;simp only at h;split at h<;>cases h
  |some u=>rw [hl]at h;simp at h;rw [h]
theorem YK(n:Nat):∀(l:List ah) (i:Nat) (t:Tr Na) (j:Nat),i+l.length<=n->(ahP n i l t).get j=if i<=j then(match l[j -i]?with|some o=>some o.obj|none=>t.get j)else t.get j
 |[],i,t,j,h=>by simp [ahP]
 |o::l,i,t,j,h=>by
  simp only [ahP];rw [YK n l (Nat.succ i) _ j (by simp at h;omega)];have hi:i<Nat.succ n:=by simp at h;omega
  rw [Ii _ _ _ _ _ hi];by_cases h1:i<=j
  . rw [if_pos h1];by_cases h2:Nat.succ i<=j
    . rw [if_pos h2];have:j -i=(j -Nat.succ i)+1:=by omega
      rw [this,List.getElem?_cons_succ,if_neg (by omega)]
    . rw [if_neg h2];have h3:j=i:=by omega
      subst h3;simp
  . rw [if_neg h1,if_neg (by omega),if_neg (by omega)]
theorem Zf(l:List ah)(b:Nat):(Rp l).get b=(l[b]?).map ah.obj:=by
 show(ahP (Ze l) 0 l .nil).get b=_
 rw [YK _ _ _ _ _ (by rw [Dc];omega),if_pos (Nat.zero_le _),Nat.sub_zero,Tr.get_nil];cases l[b]?<;>rfl
theorem CF{E:Env}{θ η:List Value}{f0:List Nat}{σ:AH}:∀{f:List Nat} {l:List ah},D4 E θ η f0 σ f l=true->f.length=l.length/\∀(b c:Nat),f[b]?=some c->∃po,l[b]?=some po/\RY E θ η f0 po (σ.get c)=true
 |[],[],h=>⟨rfl,fun b c h=>by simp at h⟩
 |[],o::os,h=>by simp [D4]at h
 |b::bs,[],h=>by simp [D4]at h
 |b::bs,o::os,h=>by
  simp only [D4]at h
  split at h
  . rename_i h1;obtain ⟨k1,k2⟩:=CF h;refine ⟨by simp [k1],fun c d hc=> ?_⟩;cases c with
    |zero=>simp at hc;subst hc;exact ⟨o,rfl,h1⟩
    |succ c=>simpa using k2 c d (by simpa using hc)
  . cases h
theorem RA:∀{n:Nat} {l:List Nat},SY n l=false->n∉l
 |n,[],h=>by simp
 |n,m::ms,h=>by
  simp only [SY]at h
  split at h
  . cases h
  . rename_i hb;rw [Va]at hb;have:=of_decide_eq_false hb;simp only [List.mem_cons,not_or];exact ⟨this,RA h⟩
theorem Sp:∀{l:List Nat},AF l=true->∀(i j c:Nat),l[i]?=some c->l[j]?=some c->i=j
 |[],h,i,j,c,hi,hj=>by simp at hi
 |n::ns,h,i,j,c,hi,hj=>by
  simp only [AF]at h
  split at h
  . cases h
  . rename_i hb;have hn:=RA hb;cases i with
    |zero=>cases j with
     |zero=>rfl
     |succ j=>
      simp at hi hj;subst hi;exact absurd (List.mem_of_getElem? hj) hn
    |succ i=>cases j with
     |zero=>
      simp at hi hj;subst hj;exact absurd (List.mem_of_getElem? hi) hn
     |succ j=>
      have:=Sp h i j c (by simpa using hi) (by simpa using hj);omega
theorem Mw{E:Env}{θ η:List Value}{f:List Nat}{c':Row}:∀{l:List (Option Value)} {i:Nat},mtC E θ η f c' i l=true->∀(j:Nat) (v:Value),l[j]?=some (some v)->∃u,c'.get (i+j)=some u/\mtV E θ η f 20 v u=true
 |[],i,h,j,v,hv=>by simp at hv
 |none::l,i,h,j,v,hv=>by
  simp only [mtC]at h;cases j with
  |zero=>simp at hv
  |succ j=>
   obtain ⟨u,k1,k2⟩:=Mw h j v (by simpa using hv);exact ⟨u,by rw [<-k1];congr 1;omega,k2⟩
 |some v0::l,i,h,j,v,hv=>by
  simp only [mtC]at h
  split at h
  . rename_i u hu
    split at h
    . rename_i hm;cases j with
      |zero=>simp at hv;subst hv;exact ⟨u,hu,hm⟩
      |succ j=>
       obtain ⟨u,k1,k2⟩:=Mw h j v (by simpa using hv);exact ⟨u,by rw [<-k1];congr 1;omega,k2⟩
    . cases h
  . cases h
section
variable{T:Kj}(ρ:Nat->Int)(γ:Nat->T.G)(θ η:List Value){E:Env}(hE: @Yb (T.at ρ γ) E)
include hE
theorem reshape{B:Nat->Prop}{w0:World}{R:Mp}{σ:AH}{w:World}(hS: @Qc (T.at ρ γ) B w0 R σ w){f:List Nat}{l:List ah}(h:D4 E θ η f σ f l=true)(hn:AF f=true): @Qc (ri ρ γ θ η) B w0 (Lj f R) (Rp l) w:=by
 obtain ⟨hlen,hal⟩:=CF h;obtain ⟨QaP,slt,naG,oaG,Nw,rak,O,hO⟩:=hS;have hR:∀b x,Lj f R b=some x->∃c,f[b]?=some c/\R c=some x:=fun b x hb=>by
  unfold Lj at hb;cases hc:f[b]?with
  |none=>rw [hc]at hb;cases hb
  |some c=>rw [hc]at hb;exact ⟨c,rfl,hb⟩
 have live:∀b c,f[b]?=some c->∃po x,l[b]?=some po/\σ.get c=some x/\RY E θ η f po (some x)=true:=fun b c hc=>by
  obtain ⟨po,h1,h2⟩:=hal b c hc;cases hx:σ.get c with
  |none=>rw [hx]at h2;cases po<;>simp [RY]at h2
  |some x=>rw [hx]at h2;exact ⟨po,x,h1,rfl,h2⟩
 refine @Qc.mk (ri ρ γ θ η) _ _ _ _ _ (fun b x hb=> ?_) (fun b r s hb=> ?_) (fun b r s o hb hg=> ?_) (fun b1 b2 r s1 s2 h1 h2 Jc=> ?_) ⟨Nw.os,Nw.tape,Nw.output,Nw.size,Nw.block⟩ rak ?_
 . obtain ⟨c,h1,h2⟩:=hR b x hb;have:=(List.getElem?_eq_some_iff.1 h1).1
   show b<Ze l
   rw [Dc];omega
 . obtain ⟨c,h1,h2⟩:=hR b _ hb;exact slt c r s h2
 . obtain ⟨c,h1,h2⟩:=hR b _ hb;obtain ⟨po,x,k1,k2,k3⟩:=live b c h1;rw [Zf,k1]at hg;cases hg;obtain ⟨hB,ho⟩:=naG c r s x h2 k2;refine ⟨hB, ?_⟩;cases po with
   |gh e=>trivial
   |cells q e full=>
    cases x with
    |cells c' e' C4=>
     simp only [RY]at k3
     split at k3
     . rename_i hc;simp only [Da,Bool.and_eq_true,Va,decide_eq_true_eq,nk,beq_iff_eq]at hc;obtain ⟨rfl,hq,rfl⟩:=hc;obtain ⟨cs,h3,h4,h5,h6,h7⟩:=ho;refine ⟨cs,h3,h4,by show Ze q<=s;omega,fun e=>by show Ze q=s;rw [hq];exact h6 e,fun i v hv=> ?_⟩;have hv:=Lw q e full i v hv;obtain ⟨u,m1,m2⟩:=Mw k3 i v hv;rw [Nat.zero_add]at m1;obtain ⟨_,v',n1,n2⟩:=h7 i u m1;refine ⟨by show i<Ze q;rw [Dc];exact (List.getElem?_eq_some_iff.1 hv).1,v',n1,Js ρ γ θ η hE f R 20 v u v' m2 n2⟩
     . cases k3
    |_=>simp [RY]at k3
 . obtain ⟨c1,a1,a2⟩:=hR b1 _ h1;obtain ⟨c2,a3,a4⟩:=hR b2 _ h2;obtain ⟨_,x1,_,k1,_⟩:=live b1 c1 a1;obtain ⟨_,x2,_,k2,_⟩:=live b2 c2 a3;have hc:c1≠c2:=fun e=>by subst e;exact Jc (Sp hn b1 b2 c1 a1 a3)
   rcases oaG c1 c2 r s1 s2 a2 a4 hc with k|k
   . rw [k1]at k;cases k
   . rw [k2]at k;cases k
 . refine ⟨fun b=>match f[b]?with|some c=>O c|none=>fun _=>False,fun b r s e hb hg=> ?_⟩;obtain ⟨c,h1,h2⟩:=hR b _ hb;obtain ⟨po,x,k1,k2,k3⟩:=live b c h1;rw [Zf,k1]at hg;cases po with
   |cells q e full=>cases hg
   |gh e0=>
    have he:e0=e:=by simp only [Option.map_some,ah.obj]at hg;cases hg;rfl
    subst he;cases x with
    |gh e'=>
     simp only [RY]at k3
     split at k3
     . rename_i u hu;have k4:=k3;obtain ⟨⟨g,m1,m2⟩,m3,m4⟩:=hO c r s e' h2 k2;simp only [h1];refine ⟨⟨g, ?_,m2⟩,m3,fun b2 r2 s2 o2 Jc Uj Sr=> ?_⟩
       . rw [Pq ρ γ θ η hE 60 _ u hu, @Hf (T.at ρ γ) 60 u e' k4,m1]
       . obtain ⟨c2,a1,a2⟩:=hR b2 _ Uj;obtain ⟨po2,x2,p1,p2,p3⟩:=live b2 c2 a1;have hc:c2≠c:=fun q=>by subst q;exact Jc (Sp hn b2 b c2 a1 h1)
         obtain ⟨z1,z2⟩:=m4 c2 r2 s2 x2 hc a2 p2;refine ⟨z1,fun e2 he2 k hk=> ?_⟩;simp only [a1];rw [Zf,p1]at Sr;subst he2;cases po2 with
         |cells q e full=>cases Sr
         |gh e3=>
          cases x2 with
          |gh e4=>exact z2 e4 rfl k hk
          |_=>simp [RY]at p3
     . cases k3
    |_=>simp [RY]at k3
theorem Rq:∀{F:List (Value×Value)},mtF E θ η F=true->∀p,p∈F-> @den (ri ρ γ θ η) p.1= @den (ri ρ γ θ η) p.2
 |[],h,p,hp=>by cases hp
 |q::F,h,p,hp=>by
  simp only [mtF]at h
  split at h
  . rename_i u c b hu hc he
    split at h
    . rename_i hs;rcases List.mem_cons.1 hp with rfl|hp
      . rw [Pq ρ γ θ η hE 60 _ u hu, @Hf (T.at ρ γ) 60 _ _ hs,he];rfl
      . exact Rq h p hp
    . cases h
  . rename_i u c k n hu hc he
    split at h
    . rename_i hs;rcases List.mem_cons.1 hp with rfl|hp
      . rw [Pq ρ γ θ η hE 60 _ u hu, @Hf (T.at ρ γ) 60 _ _ hs,he];rfl
      . exact Rq h p hp
    . cases h
  . cases h
end
end
section
variable[Interp]{B:Nat->Prop}{w0:World}{R:Mp}{σ:AH}{w:World}
theorem Qc.gat(h:Qc B w0 R σ w){b r s:Nat}{e0:Value}(hb:R b=some (r,s))(hg:σ.get b=some (.gh e0)):
  ∃(g0:Interp.G) (O0:Nat->Prop),den e0= .g g0/\Interp.gh g0 r O0 w/\(∀k,O0 k->B k)/\(∀b2 r2 s2 o2,b2≠b->R b2=some (r2,s2)->σ.get b2=some o2->¬O0 r2)/\∀(w':World) (e:Value) (g:Interp.G) (O':Nat->Prop),den e= .g g->Interp.gh g r O' w'->(∀k,O' k->O0 k\/w.heap.size<=k)->Ci O0 w w'->Qc B w0 R (σ.put b (some (.gh e))) w':=by
 obtain ⟨O,hO⟩:=h.MK;obtain ⟨⟨g0,k1,k2⟩,k3,k4⟩:=hO b r s e0 hb hg;refine ⟨g0,O b,k1,k2,k3,fun b2 r2 s2 o2 h1 h2 h3=>(k4 b2 r2 s2 o2 h1 h2 h3).1,fun w' e g O' m1 m2 m3 m4=> ?_⟩;have Db:∀k,O b k->k<w.heap.size:=fun k hk=>hO.lt hb hg hk
 have oth:∀c q t y,c≠b->R c=some (q,t)->σ.get c=some y->w'.heap[q]?=w.heap[q]?:=fun c q t y hc h1 h2=>m4.block q (h.lt c q t h1) (k4 c q t y hc h1 h2).1
 refine ⟨h.tC,fun c q t h1=>Nat.lt_of_lt_of_le (h.lt c q t h1) m4.size,fun c q t y h1 h2=> ?_,fun b1 b2 q s1 s2 h1 h2 Jc=> ?_, ?_,h.base, ?_⟩
 . rw [Bb]at h2;by_cases hc:c=b
   . subst hc;rw [if_pos rfl]at h2;cases h2;exact ⟨(h.obj c q t _ h1 hg).1,trivial⟩
   . rw [if_neg hc]at h2;obtain ⟨p1,p2⟩:=h.obj c q t y h1 h2;exact ⟨p1,by rw [oth c q t y hc h1 h2];exact p2⟩
 . rw [Bb,Bb];by_cases e1:b1=b
   . subst e1;right;rw [if_neg (Ne.symm Jc)];rcases h.inj b1 b2 q s1 s2 h1 h2 Jc with k|k
     . rw [hg]at k;cases k
     . exact k
   . rw [if_neg e1];by_cases e2:b2=b
     . subst e2;left;rcases h.inj b1 b2 q s1 s2 h1 h2 Jc with k|k
       . exact k
       . rw [hg]at k;cases k
     . rw [if_neg e2];exact h.inj b1 b2 q s1 s2 h1 h2 Jc
 . exact ⟨m4.os.trans h.below.os,m4.tape.trans h.below.tape,m4.output.trans h.below.output,Nat.le_trans h.below.size m4.size,fun k hk hn=>by
    rw [m4.block k (Nat.lt_of_lt_of_le hk h.below.size) (fun ho=>hn (k3 k ho))];exact h.below.block k hk hn⟩
 . refine ⟨fun c=>if c=b then O' else O c,fun c q t y h1 h2=> ?_⟩;rw [Bb]at h2;by_cases hc:c=b
   . subst hc;rw [if_pos rfl]at h2;cases h2;rw [hb]at h1;cases h1;simp only [if_true];refine ⟨⟨g,m1,m2⟩,fun k hk=> ?_,fun b2 r2 s2 o2 Jc h3 h4=> ?_⟩
     . rcases m3 k hk with p|p
       . exact k3 k p
       . exact h.base k (Nat.le_trans h.below.size p)
     . rw [Bb,if_neg Jc]at h4;obtain ⟨p1,p2⟩:=k4 b2 r2 s2 o2 Jc h3 h4;refine ⟨fun hk=> ?_,fun e2 he k hk=> ?_⟩
       . rcases m3 _ hk with p|p
         . exact p1 p
         . have:=h.lt b2 r2 s2 h3;omega
       . rw [if_neg Jc];rcases m3 _ hk with p|p
         . exact p2 e2 he k p
         . intro pS;subst he;have:=hO.lt h3 h4 pS;omega
   . rw [if_neg hc]at h2;simp only [if_neg hc];obtain ⟨⟨g2,p1,p2⟩,p3,p4⟩:=hO c q t y h1 h2;have sak:∀k,O c k->¬O b k:=fun k hk=>(p4 b r s _ (Ne.symm hc) hb hg).2 e0 rfl k hk
     refine ⟨⟨g2,p1,Interp.gh_keep _ _ _ _ _ p2 m4.size fun k hk=>m4.block k (hO.lt h1 h2 hk) (sak k hk)⟩,p3,fun b2 r2 s2 o2 Jc h3 h4=> ?_⟩;rw [Bb]at h4;by_cases Uj:b2=b
     . subst Uj;rw [if_pos rfl]at h4;cases h4;obtain ⟨z1,z2⟩:=p4 b2 r2 s2 _ Jc h3 hg;refine ⟨z1,fun e2 he k hk=> ?_⟩;simp only [if_true];intro pS;rcases m3 k pS with p|p
       . exact sak k hk p
       . have:=hO.lt h1 h2 hk;omega
     . rw [if_neg Uj]at h4;simp only [if_neg Uj];exact p4 b2 r2 s2 o2 Jc h3 h4
end
def Cg(P:Program):List (FuncId×Array Value)->(List Value->World->Prop)->World->Prop
 |[],Q,w=>Q [] w
 |c::cs,Q,w=>Calls P c.1 c.2 w fun e w'=>∃v,e= .returned v/\Cg P cs (fun vs w''=>Q (v::vs) w'') w'
theorem Cg.mono{P:Program}:∀{cs:List (FuncId×Array Value)} {Q Q':List Value->World->Prop} {w:World},Cg P cs Q w->(∀vs w',Q vs w'->Q' vs w')->Cg P cs Q' w
 |[],Q,Q',w,h,k=>k _ _ h
 |c::cs,Q,Q',w,h,k=>Calls.mono h fun e w' q=>by
  obtain ⟨v,rfl,h2⟩:=q;exact ⟨v,rfl,h2.mono fun vs w''=>k _ _⟩
noncomputable section
def runs(E:Env)(n:Nat):List (FuncId×List Value)->AH->Option (List Value×AH)
 |[],σ=>some ([],σ)
 |c::cs,σ=>match run E n (.call c.1 c.2 σ)with
  |some (.val v σ1)=>match runs E n cs σ1 with
   |some (vs,σ2)=>some (v::vs,σ2)
   |none=>none
  |_=>none
end
def Ui[Interp](R:Mp):List (FuncId×List Value)->List (FuncId×Array Value)->Prop
 |[],[]=>True
 |c::cs,d::ds=>c.1=d.1/\LR R c.2 d.2.toList/\Ui R cs ds
 |_,_=>False
theorem Ui.mono[Interp]{R R':Mp}(hle:R.le R'):∀{cs:List (FuncId×List Value)} {ds:List (FuncId×Array Value)},Ui R cs ds->Ui R' cs ds
 |[],[],_=>trivial
 |[],_::_,h=>h.elim
 |_::_,[],h=>h.elim
 |c::cs,d::ds,⟨h1,h2,h3⟩=>⟨h1,h2.mono hle,h3.mono hle⟩
theorem Ow[Interp]{E:Env}(hE:Yb E)(hO:yk E){n:Nat}{B:Nat->Prop}{w0:World}:∀{cs:List (FuncId×List Value)} {ds:List (FuncId×Array Value)} {σ σ':AH} {vs:List Value} {R:Mp} {w:World},runs E n cs σ=some (vs,σ')->Qc B w0 R σ w->Ui R cs ds->
  Cg E.P ds (fun ws w'=>∃R',R.le R'/\LR R' vs ws/\Qc B w0 R' σ' w') w
 |[],[],σ,σ',vs,R,w,h,hS,hA=>by
  simp only [runs]at h;cases h;exact ⟨R,R.le_refl,LR.nil R,hS⟩
 |[],_::_,σ,σ',vs,R,w,h,hS,hA=>hA.elim
 |_::_,[],σ,σ',vs,R,w,h,hS,hA=>hA.elim
 |c::cs,d::ds,σ,σ',vs,R,w,h,hS,hA=>by
  obtain ⟨h1,h2,h3⟩:=hA;simp only [runs]at h
  split at h
  . rename_i v σ1 hr
    split at h
    . rename_i vs1 σ2 qS;cases h;unfold Cg;rw [<-h1];refine (Mh hE hO hr hS h2).mono ?_
      rintro e w1 ⟨R1,v',rfl,e1,e2,e3⟩;refine ⟨v',rfl,(Ow hE hO qS e3 (h3.mono e1.le)).mono ?_⟩;rintro ws w2 ⟨R2,q1,q2,q3⟩;exact ⟨R2,Mp.le_trans e1.le q1,LR.cons (e2.mono q1) q2,q3⟩
    . cases h
  . cases h
noncomputable section
def eqB(b c:Bool):Bool:=match b with|true=>c|false=>Wg c
def TY(t:Value)(x:Nat)(p:Value×Value):Bool:=
 match p with
 |(.func (.methodOf c _) ⟨[u,v]⟩ _, .bool b)=>match Nat.beq c 264 with
  |true=>match v with
   | .int _ (.ofNat n)=>La (Mm 60 u t) (Wg (eqB b (Nat.beq x n)))
   |_=>false
  |false=>match Nat.beq c 280 with
   |true=>match v with
    | .int _ (.ofNat n)=>La (Mm 60 u t) (Wg (eqB b (Nat.ble (Nat.succ x) n)))
    |_=>match u with
     | .int _ (.ofNat n)=>La (Mm 60 v t) (Wg (eqB b (Nat.ble (Nat.succ n) x)))
     |_=>false
   |false=>false
 |_=>false
def uaf(t:Value)(lo:Nat)(p:Value×Value):Bool:=
 match p with
 |(.func (.methodOf c _) ⟨[u, .int _ (.ofNat n)]⟩ _, .bool false)=>La (Nat.beq c 280) (La (Nat.beq n lo) (Mm 60 u t))
 |_=>false
def rS(t:Value)(hi:Nat)(p:Value×Value):Bool:=
 match p with
 |(.func (.methodOf c _) ⟨[.int _ (.ofNat n),v]⟩ _, .bool false)=>La (Nat.beq c 280) (La (Nat.beq n hi) (Mm 60 v t))
 |_=>false
def BO(f:Value×Value->Bool):List (Value×Value)->Bool
 |[]=>false
 |p::ps=>match f p with|true=>true|false=>BO f ps
def UY(t:Value)(F:List (Value×Value)):Nat->Nat->Bool
 |0,_=>true
 |k+1,x=>match BO (TY t x) F with|true=>UY t F k (Nat.succ x)|false=>false
def VY(F:List (Value×Value))(t:Value)(lo hi:Nat):Bool:=La (BO (uaf t lo) F) (La (BO (rS t hi) F) (UY t F (Nat.sub (Nat.succ hi) lo) lo))
end
theorem cv{f:Value×Value->Bool}:∀{F:List (Value×Value)},BO f F=true->∃p,p∈F/\f p=true
 |[],h=>by cases h
 |p::ps,h=>by
  simp only [BO]at h
  split at h
  . rename_i hp;exact ⟨p,List.mem_cons_self ..,hp⟩
  . obtain ⟨q,hq,h2⟩:=cv h;exact ⟨q,List.mem_cons_of_mem _ hq,h2⟩
theorem ZK{t:Value}{F:List (Value×Value)}:∀{k x:Nat},UY t F k x=true->∀i,i<k->∃p,p∈F/\TY t (x+i) p=true
 |0,x,h,i,hi=>by omega
 |k+1,x,h,i,hi=>by
  simp only [UY]at h
  split at h
  . rename_i hp;cases i with
    |zero=>exact cv hp
    |succ i=>
     obtain ⟨p,h1,h2⟩:=ZK h i (by omega);exact ⟨p,h1,by rw [show x+(i+1)=Nat.succ x+i by omega];exact h2⟩
  . cases h
section
variable[Interp]
omit [Interp]in
theorem GI(b c:Bool):eqB b c=decide (b=c):=by cases b<;>cases c<;>rfl
theorem WY(s:String)(u v:Value)(c:Array Value):den (.func (.methodOf 264 s) ⟨[u,v]⟩ c)= .v (.bool (decide (Oa (den u)=Oa (den v)))):=by
 have e:den (.func (.methodOf 264 s) ⟨[u,v]⟩ c)=Bh 264 [den u,den v]:=rfl;rw [e]
 show Tc.v (fk 8 (if Oa (den u)=Oa (den v)then 1 else 0))=_
 by_cases h:Oa (den u)=Oa (den v)
 . rw [if_pos h,decide_eq_true h];rfl
 . rw [if_neg h,decide_eq_false h];rfl
theorem gv(s:String)(u v:Value)(c:Array Value):den (.func (.methodOf 280 s) ⟨[u,v]⟩ c)= .v (.bool (decide (Oa (den u)<Oa (den v)))):=by
 have e:den (.func (.methodOf 280 s) ⟨[u,v]⟩ c)=Bh 280 [den u,den v]:=rfl;rw [e]
 show Tc.v (fk 8 (if Oa (den u)<Oa (den v)then 1 else 0))=_
 by_cases h:Oa (den u)<Oa (den v)
 . rw [if_pos h,decide_eq_true h];rfl
 . rw [if_neg h,decide_eq_false h];rfl
theorem Pw{d:Tc Interp.G}{x b:Bool}(h:d= .v (.bool x))(hp:d=den (.bool b)):x=b:=by
 rw [h]at hp;have:den (.bool b)= .v (.bool b):=rfl
 rw [this]at hp;injection hp with hp
 injection hp
theorem XY{t:Value}{x:Nat}{p:Value×Value}(hd:Oa (den t)=(x:Int))(h:TY t x p=true)(hp:den p.1=den p.2):False:=by
 unfold TY at h
 split at h
 . rename_i c s u v cc b;simp only at hp
   split at h
   . rename_i hc;rw [Va]at hc;obtain rfl:=of_decide_eq_true hc
     split at h
     . rename_i q n;simp only [Da,Bool.and_eq_true,Cd,GI]at h;obtain ⟨h1,h2⟩:=h;obtain rfl:=Qh _ _ _ h1;have:=Pw (WY s _ _ cc) hp;have e:Oa (den (Value.int q (Int.ofNat n)))=(n:Int):=rfl;rw [hd,e]at this;have e3:decide ((x:Int)=(n:Int))=Nat.beq x n:=by rw [Va];exact decide_eq_decide.2 Int.ofNat_inj
       rw [<-this,e3]at h2;simp at h2
     . cases h
   . split at h
     . rename_i hc;rw [Va]at hc;obtain rfl:=of_decide_eq_true hc
       split at h
       . rename_i q n;simp only [Da,Bool.and_eq_true,Cd,GI]at h;obtain ⟨h1,h2⟩:=h;obtain rfl:=Qh _ _ _ h1;have:=Pw (gv s _ _ cc) hp;have e:Oa (den (Value.int q (Int.ofNat n)))=(n:Int):=rfl;rw [hd,e]at this;have e3:decide ((x:Int)<(n:Int))=Nat.ble (Nat.succ x) n:=by rw [xd];exact decide_eq_decide.2 Int.ofNat_lt
         rw [<-this,e3]at h2;simp at h2
       . split at h
         . rename_i q n;simp only [Da,Bool.and_eq_true,Cd,GI]at h;obtain ⟨h1,h2⟩:=h;obtain rfl:=Qh _ _ _ h1;have:=Pw (gv s _ _ cc) hp;have e:Oa (den (Value.int q (Int.ofNat n)))=(n:Int):=rfl;rw [hd,e]at this;have e3:decide ((n:Int)<(x:Int))=Nat.ble (Nat.succ n) x:=by rw [xd];exact decide_eq_decide.2 Int.ofNat_lt
           rw [<-this,e3]at h2;simp at h2
         . cases h
     . cases h
 . cases h
theorem vaf{t:Value}{lo:Nat}{p:Value×Value}(h:uaf t lo p=true)(hp:den p.1=den p.2):(lo:Int)<=Oa (den t):=by
 unfold uaf at h
 split at h
 . rename_i c s u q n cc;simp only [Da,Bool.and_eq_true,Va,decide_eq_true_eq]at h;obtain ⟨rfl,rfl,h1⟩:=h;obtain rfl:=Qh _ _ _ h1;have:=Pw (gv s _ _ cc) hp;have e:Oa (den (Value.int q (Int.ofNat n)))=(n:Int):=rfl;rw [e]at this;have:=of_decide_eq_false this;omega
 . cases h
theorem YY{t:Value}{hi:Nat}{p:Value×Value}(h:rS t hi p=true)(hp:den p.1=den p.2):Oa (den t)<=(hi:Int):=by
 unfold rS at h
 split at h
 . rename_i c s q n v cc;simp only [Da,Bool.and_eq_true,Va,decide_eq_true_eq]at h;obtain ⟨rfl,rfl,h1⟩:=h;obtain rfl:=Qh _ _ _ h1;have:=Pw (gv s _ _ cc) hp;have e:Oa (den (Value.int q (Int.ofNat n)))=(n:Int):=rfl;rw [e]at this;have:=of_decide_eq_false this;omega
 . cases h
theorem aL{F:List (Value×Value)}{t:Value}{lo hi:Nat}(h:VY F t lo hi=true)(hF:∀p,p∈F->den p.1=den p.2):False:=by
 unfold VY at h;simp only [Da,Bool.and_eq_true]at h;obtain ⟨h1,h2,h3⟩:=h;obtain ⟨p,hp,hl⟩:=cv h1;obtain ⟨q,hq,hh⟩:=cv h2;have a1:=vaf hl (hF p hp);have a2:=YY hh (hF q hq);obtain ⟨k,hk⟩:∃k:Nat,Oa (den t)=((lo+k:Nat):Int):=⟨(Oa (den t) -lo).toNat,by omega⟩;obtain ⟨r,hr,hv⟩:=ZK h3 k (by have:Nat.sub (Nat.succ hi) lo=hi+1 -lo:=rfl;omega);exact XY hk hv (hF r hr)
end
noncomputable section
structure Shape where
 Sb:List ah
 facts:List (Value×Value)
 kinds:List Nat
 qaG:Nat
structure Bd where
 f:List Nat
 θ:List Value
 η:List Value
mutual
def ZY:Nat->Bd->Value->Value->Bd
 |0,s,_,_=>s
 |d+1,s,p,v=>match p with
  | .pointer (some a)=>match v with
    | .pointer (some a')=>match Nat.beq a.block (Ze s.f)with|true=>⟨s.f++[a'.block],s.θ,s.η⟩|false=>s
    |_=>s
  | .slice (some a) _ _=>match v with
    | .slice (some a') _ _=>match Nat.beq a.block (Ze s.f)with|true=>⟨s.f++[a'.block],s.θ,s.η⟩|false=>s
    |_=>s
  | .iface _ u=>match v with
    | .iface _ u'=>ZY d s u u'
    |_=>s
  | .func g ⟨a⟩ ⟨c⟩=>match g with
    | .methodOf t _=>match Nat.div t 16,a with
      |0,[.int _ (.ofNat i)]=>match Nat.ble (Nat.mod t 16) 8 with
       |true=>match Nat.beq i (Ze s.θ)with|true=>⟨s.f,s.θ++[v],s.η⟩|false=>s
       |false=>match Nat.beq i (Ze s.η)with|true=>⟨s.f,s.θ,s.η++[v]⟩|false=>s
      |_,_=>s
    | .func _=>match v with
      | .func _ ⟨a'⟩ ⟨c'⟩=>waf d (waf d s a a') c c'
      |_=>s
    |_=>s
  |_=>s
def waf:Nat->Bd->List Value->List Value->Bd
 |0,s,_,_=>s
 |d+1,s,x::xs,y::ys=>waf d (ZY d s x y) xs ys
 |_+1,s,_,_=>s
end
def xaf(c':Row):Nat->Bd->List (Option Value)->Bd
 |_,s,[]=>s
 |i,s,none::l=>xaf c' (Nat.succ i) s l
 |i,s,some v::l=>match c'.get i with
  |some u=>xaf c' (Nat.succ i) (ZY 20 s v u) l
  |none=>s
def raG(σ:AH)(s:Bd)(b:Nat)(p:ah):Bd:=
 match p,σ.get b with
 | .cells l _ _,some (.cells c' _ _)=>xaf c' 0 s l
 | .gh e,some (.gh e')=>ZY 20 s e e'
 |_,_=>s
def II(σ:AH):Nat->Bd->List ah->Bd
 |_,s,[]=>s
 |i,s,o::os=>match Xf s.f i with
  |some b=>II σ (Nat.succ i) (raG σ s b o) os
  |none=>s
def upN:Nat->Nat->List Nat
 |0,_=>[]
 |n+1,i=>i::upN n (Nat.succ i)
def bL:Nat->List Nat->Bool
 |_,[]=>true
 |i,n::ns=>match Nat.beq i n with|true=>bL (Nat.succ i) ns|false=>false
def SA:Nat->List Nat->List Nat
 |0,_=>[]
 |_+1,[]=>[]
 |n+1,x::xs=>x::SA n xs
def OQ(E:Env)(S:Shape)(roots:Nat)(σ:AH)(s:Bd):Bool:=
 La (D4 E s.θ s.η s.f σ s.f S.Sb) (La (AF s.f) (La (mtF E s.θ s.η S.facts) (La (bL 0 (SA roots s.f)) (Nat.ble roots (Ze s.f)))))
inductive Tree where
 |leaf(j:Nat)
 |no(t:Value)(lo hi:Nat)
 |split(c:Value)(l r:Tree)
def isB(c:Value):Bool:=match Wf c with|some k=>Nat.beq k 8|none=>false
def Ml(E0:Env)(n:Nat)(cs:List (FuncId×List Value))(post:Shape->List Value->Bd->Bool)(tab:List Shape)(roots:Nat)(σ:AH):Tree->List (Value×Value)->Bool
 | .leaf j,F=>match runs (E0.Ll F) n cs σ with
   |some (vs,σ')=>match Xf tab j with
    |some S=>match II σ' 0 ⟨upN roots 0,[],[]⟩ S.Sb with
     |s=>match OQ (E0.Ll F) S roots σ' s with|true=>post S vs s|false=>false
    |none=>false
   |none=>false
 | .no t lo hi,F=>VY F t lo hi
 | .split c l r,F=>match isB c with
   |true=>match Ml E0 n cs post tab roots σ l ((c, .bool true)::F)with
    |true=>Ml E0 n cs post tab roots σ r ((c, .bool false)::F)
    |false=>false
   |false=>false
theorem Nl:∀{l:List Nat} {i j b:Nat},bL i l=true->l[j]?=some b->b=i+j
 |[],i,j,b,h,hb=>by simp at hb
 |n::ns,i,j,b,h,hb=>by
  simp only [bL]at h
  split at h
  . rename_i hn;rw [Va]at hn;have hn:=of_decide_eq_true hn;cases j with
    |zero=>simp at hb;omega
    |succ j=>
     have:=Nl (j:=j) h (by simpa using hb);omega
  . cases h
theorem Sq:∀(n:Nat) (l:List Nat),SA n l=l.take n
 |0,l=>by simp [SA]
 |n+1,[]=>by simp [SA]
 |n+1,x::xs=>by simp [SA,Sq n xs]
section
variable{T:Kj}{E0:Env}
structure InS(T:Kj)(S:Shape)(ρ:Nat->Int)(γ:Nat->T.G)(B:Nat->Prop)(w0:World)(R:Mp)(w:World):Prop where
 facts:∀p,p∈S.facts-> @den (T.at ρ γ) p.1= @den (T.at ρ γ) p.2
 Yj: @Qc (T.at ρ γ) B w0 R (Rp S.Sb) w
def Stepped(T:Kj)(tab:List Shape)(roots:Nat)(post:Shape->List Value->Bd->Bool)(ρ:Nat->Int)(γ:Nat->T.G)(B:Nat->Prop)(w0:World)(R:Mp)(ws:List Value)(w':World):Prop:=
 ∃(j:Nat) (S:Shape) (vs:List Value) (s:Bd) (R1:Mp),tab[j]?=some S/\post S vs s=true/\R.le R1/\ @LR (T.at ρ γ) R1 vs ws/\InS T S (qm ρ γ s.θ) (zk ρ γ s.η) B w0 (Lj s.f R1) w'/\∀i,i<roots->Lj s.f R1 i=R1 i
theorem Ol(hE:∀(ρ:Nat->Int) (γ:Nat->T.G) (F:List (Value×Value)),(∀p,p∈F-> @den (T.at ρ γ) p.1= @den (T.at ρ γ) p.2)-> @Yb (T.at ρ γ) (E0.Ll F)/\ @yk (T.at ρ γ) (E0.Ll F))
  {n:Nat}{cs:List (FuncId×List Value)}{post:Shape->List Value->Bd->Bool}{tab:List Shape}{roots:Nat}{σ:AH}{ρ:Nat->Int}{γ:Nat->T.G}{B:Nat->Prop}{w0:World}{R:Mp}{w:World}(hS: @Qc (T.at ρ γ) B w0 R σ w){ds:List (FuncId×Array Value)}(hA: @Ui (T.at ρ γ) R cs ds):
  ∀{t:Tree} {F:List (Value×Value)},Ml E0 n cs post tab roots σ t F=true->(∀p,p∈F-> @den (T.at ρ γ) p.1= @den (T.at ρ γ) p.2)->Cg E0.P ds (Stepped T tab roots post ρ γ B w0 R) w
 | .leaf j,F,h,hF=>by
   simp only [Ml]at h
   split at h
   . rename_i vs σ' hr
     split at h
     . rename_i S hSj
       split at h
       . rename_i hh;obtain ⟨sS,hO1⟩:=hE ρ γ F hF;have:= @Ow (T.at ρ γ) _ sS hO1 _ _ _ _ _ _ _ _ _ _ hr hS hA;refine this.mono ?_
         rintro ws w' ⟨R1,q1,q2,q3⟩;generalize II σ' 0 ⟨upN roots 0,[],[]⟩ S.Sb=s at h hh;unfold OQ at hh;simp only [Da,Bool.and_eq_true,xd,decide_eq_true_eq]at hh;obtain ⟨h1,h2,h3,h4,h5⟩:=hh;rw [Pc]at hSj;refine ⟨j,S,vs,s,R1,hSj,h,q1,q2,⟨Rq ρ γ s.θ s.η sS h3,reshape ρ γ s.θ s.η sS q3 h1 h2⟩,fun i hi=> ?_⟩;rw [Dc]at h5;have hl:i<s.f.length:=by omega
         have h6:=Nl (j:=i) h4 (b:=s.f[i]) (by rw [Sq,List.getElem?_take,if_pos hi];exact List.getElem?_eq_getElem hl);unfold Lj;rw [List.getElem?_eq_getElem hl,h6];simp
       . cases h
     . cases h
   . cases h
 | .no t lo hi,F,h,hF=>(@aL (T.at ρ γ) _ _ _ _ h hF).elim
 | .split c l r,F,h,hF=>by
   simp only [Ml]at h
   split at h
   . rename_i hc
     split at h
     . rename_i hl;have h8:Wf c=some 8:=by
        unfold isB at hc
        split at hc
        . rename_i k hk;rw [Va]at hc;rw [hk,of_decide_eq_true hc]
        . cases hc
       obtain ⟨c',hd,hs⟩:= @Zr (T.at ρ γ) _ _ h8;obtain ⟨b,rfl⟩:= @Sc.bool (T.at ρ γ) _ hs;have hF2:∀p,p∈((c,Value.bool b)::F)-> @den (T.at ρ γ) p.1= @den (T.at ρ γ) p.2:=by
        intro p hp;rcases List.mem_cons.1 hp with e|e
        . rw [e,hd];rfl
        . exact hF p e
       cases b with
       |true=>exact Ol hE hS hA hl hF2
       |false=>exact Ol hE hS hA h hF2
     . cases h
   . cases h
end
end
end Sk
end Go.Proofs.YtfnkmolffhfpoaaGreat
