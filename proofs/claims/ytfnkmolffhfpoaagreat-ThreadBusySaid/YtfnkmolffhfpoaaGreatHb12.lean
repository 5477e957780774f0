/- -/
import Derived.Test.YtfnkmolffhfpoaaGreatHb11
set_option linter.unusedVariables false
set_option linter.unusedSimpArgs false
set_option linter.unusedSectionVars false
namespace Go.Proofs.YtfnkmolffhfpoaaGreat
namespace Sk
open Go.RowKit
variable[Interp]
theorem Ur(m i:Nat):bit m i=m.testBit i:=by
 unfold bit;rw [Ja,Nat.testBit_eq_decide_div_mod_eq];rfl
theorem aE(a b i:Nat):bit (Nat.lor a b) i=(bit a i||bit b i):=by
 rw [Ur,Ur,Ur];exact Nat.testBit_or a b i
theorem kG(e i:Nat):bit (Nat.pow 2 e) i=decide (e=i):=by
 rw [Ur];exact Nat.testBit_two_pow
theorem Vr(i:Nat):bit 0 i=false:=by rw [Ur];simp
theorem Wr(acc:List Nat):∀(es:List Edge) (s j:Nat),bit (To acc es s) j=true<->bit s j=true\/∃e∈es,Region.binds .any e=true/\(j=e.on\/∃m,acc[e.on]?=some m/\bit m j=true)
 |[],s,j=>by simp [To]
 |e::es,s,j=>by
  simp only [To];rw [Wr acc es];cases hb:Region.binds .any e with
  |false=>simp [hb]
  |true=>
   simp only [aE,kG,Gc,Bool.or_eq_true,decide_eq_true_eq];constructor
   . rintro ((h|h|h)|⟨e',h1,h2,h3⟩)
     . exact .inl h
     . exact .inr ⟨e,by simp,hb, .inl h.symm⟩
     . right;refine ⟨e,by simp,hb, .inr ?_⟩;cases ha:acc[e.on]?with
       |none=>rw [ha]at h;simp [Vr]at h
       |some m=>rw [ha]at h;exact ⟨m,rfl,h⟩
     . exact .inr ⟨e',by simp [h1],h2,h3⟩
   . rintro (h|⟨e',h1,h2,h3⟩)
     . exact .inl (.inl h)
     . rcases List.mem_cons.1 h1 with rfl|h1
       . left;right;rcases h3 with h3|⟨m,h3,h4⟩
         . exact .inl h3.symm
         . right;rw [h3];exact h4
       . exact .inr ⟨e',h1,h2,h3⟩
theorem Ag(ms:List Nat)(i:Nat):Ub ms i=(ms[i]?).getD 0:=by
 unfold Ub;rw [Gc];cases ms[i]?<;>rfl
theorem Xr:∀(l:List Oper) (acc:List Nat),(pg l acc).length=acc.length+l.length/\(∀i,i<acc.length->(pg l acc)[i]?=acc[i]?)/\
  ∀k o,l[k]?=some o->∀j,bit (Ub (pg l acc) (acc.length+k)) j=true<->∃e∈o.after.toList,Region.binds .any e=true/\(j=e.on\/(e.on<acc.length+k/\bit (Ub (pg l acc) e.on) j=true))
 |[],acc=>⟨by simp [pg],fun i hi=>by simp [pg],fun k o h=>by simp at h⟩
 |o::os,acc=>by
  obtain ⟨m,hm⟩:∃m,m=To acc o.after.toList 0:=⟨_,rfl⟩;have hmk:pg (o::os) acc=pg os (acc++[m]):=by simp only [pg,rj];rw [hm]
  obtain ⟨h1,h2,h3⟩:=Xr os (acc++[m]);rw [hmk];have eX:∀i,i<acc.length->(pg os (acc++[m]))[i]?=acc[i]?:=fun i hi=>by
   rw [h2 i (by simp;omega),List.getElem?_append_left hi]
  refine ⟨by rw [h1];simp;omega,eX,fun k o' ho j=> ?_⟩;cases k with
  |zero=>
   simp at ho;subst ho;have:Ub (pg os (acc++[m])) (acc.length+0)=m:=by
    rw [Ag,Nat.add_zero,h2 acc.length (by simp)];simp
   have hmb:=Wr acc o.after.toList 0 j;rw [<-hm]at hmb;rw [this,hmb];simp only [Vr,Bool.false_eq_true,false_or];constructor
   . rintro ⟨e,q1,q2,q3⟩;refine ⟨e,q1,q2, ?_⟩;rcases q3 with q3|⟨x,q3,q4⟩
     . exact .inl q3
     . right;have hl:e.on<acc.length:=(List.getElem?_eq_some_iff.1 q3).1
       exact ⟨by omega,by rw [Ag,eX e.on hl,q3];exact q4⟩
   . rintro ⟨e,q1,q2,q3⟩;refine ⟨e,q1,q2, ?_⟩;rcases q3 with q3|⟨q3,q4⟩
     . exact .inl q3
     . right;rw [Ag,eX e.on (by omega)]at q4;have hl:e.on<acc.length:=by omega
       rw [List.getElem?_eq_getElem hl]at q4;exact ⟨acc[e.on],List.getElem?_eq_getElem hl,q4⟩
  |succ k=>
   have:=h3 k o' (by simpa using ho) j;simp only [List.length_append,List.length_cons,List.length_nil,Nat.zero_add]at this;rw [show acc.length+(k+1)=acc.length+1+k by omega];exact this
theorem Vf:∀(k:Nat) (l:List Oper) (ms:List Nat) (p:Nat),(Ud k l ms)[p]?=match l[p]?,ms[p]?with|some o,some m=>some (k+p,o,m)|_,_=>none
 |k,[],ms,p=>by cases ms<;>simp [Ud]
 |k,o::os,[],p=>by cases h:(o::os)[p]?<;>simp [Ud]
 |k,o::os,m::ms,p=>by
  cases p with
  |zero=>simp [Ud]
  |succ p=>
   simp only [Ud,List.getElem?_cons_succ];rw [Vf (k+1) os ms p];cases os[p]?<;>cases ms[p]?<;>simp
   omega
theorem Uy{l:List Oper}{ms:List Nat}{x:Nat×Oper×Nat}(h:x∈Ud 0 l ms):l[x.1]?=some x.2.1/\Ub ms x.1=x.2.2:=by
 obtain ⟨p,hp⟩:=List.mem_iff_getElem?.1 h
 rw [Vf]at hp;cases h1:l[p]?with
 |none=>rw [h1]at hp;cases hp
 |some o=>
  cases h2:ms[p]?with
  |none=>rw [h1,h2]at hp;cases hp
  |some m=>
   rw [h1,h2]at hp;cases hp;simp only [Nat.zero_add];exact ⟨h1,by rw [Ag,h2];rfl⟩
theorem Yr(ops:List Oper):∀l:List (Nat×Oper×Nat),Kn ops l=true->l.Pairwise fun x y=>JD ops x y=true
 |[],_=>List.Pairwise.nil
 |x::xs,h=>by
  simp only [Kn,Nn]at h
  split at h
  . rename_i h1;exact List.Pairwise.cons (fun y hy=>List.all_eq_true.1 h1 y hy) (Yr ops xs h)
  . cases h
structure gp(ops:List Oper)(ms:List Nat)(i j:Nat)(oi oj:Oper):Prop where
 dst:∀d,oi.dst=some d->oj.dst≠some d
 ord:bit (Ub ms i) j=true\/bit (Ub ms j) i=true\/(¬(Vb oi.op=true/\Vb oj.op=true)/\(∀d,oi.dst=some d->looks ops oj d=false)/\(∀d,oj.dst=some d->looks ops oi d=false))
theorem gp.symm{ops:List Oper}{ms:List Nat}{i j:Nat}{oi oj:Oper}(h:gp ops ms i j oi oj):gp ops ms j i oj oi:=
 ⟨fun d h1 h2=>h.dst d h2 h1,by
   rcases h.ord with h1|h1|⟨h1,h2,h3⟩
   . exact .inr (.inl h1)
   . exact .inl h1
   . exact .inr (.inr ⟨fun q=>h1 ⟨q.2,q.1⟩,h3,h2⟩)⟩
theorem tI{ops:List Oper}{ms:List Nat}(h:Kn ops (Ud 0 ops ms)=true)(hl:ms.length=ops.length){i j:Nat}{oi oj:Oper}(hi:ops[i]?=some oi)(hj:ops[j]?=some oj)(Jc:i≠j):gp ops ms i j oi oj:=by
 have key:∀(i j:Nat) (oi oj:Oper),ops[i]?=some oi->ops[j]?=some oj->i<j->gp ops ms i j oi oj:=fun i j oi oj hi hj Ab=>by
  have hp:=Yr ops _ h;have rQ:i<ops.length:=(List.getElem?_eq_some_iff.1 hi).1
  have O3:j<ops.length:=(List.getElem?_eq_some_iff.1 hj).1
  have gi:(Ud 0 ops ms)[i]?=some (i,oi,Ub ms i):=by
   rw [Vf,hi,Ag,List.getElem?_eq_getElem (by omega:i<ms.length)];simp
  have gj:(Ud 0 ops ms)[j]?=some (j,oj,Ub ms j):=by
   rw [Vf,hj,Ag,List.getElem?_eq_getElem (by omega:j<ms.length)];simp
  have tv:=List.pairwise_iff_getElem.1 hp i j (List.getElem?_eq_some_iff.1 gi).1 (List.getElem?_eq_some_iff.1 gj).1 Ab
  rw [(List.getElem?_eq_some_iff.1 gi).2,(List.getElem?_eq_some_iff.1 gj).2]at tv;unfold JD at tv;simp only [sj,za,ke]at tv
  split at tv
  . cases tv
  . rename_i hd;refine ⟨fun d h1 h2=> ?_, ?_⟩
    . rw [h1,h2]at hd;simp [F3,Ja]at hd
    . split at tv
      . rename_i ho;simp only [Bool.or_eq_true]at ho;rcases ho with ho|ho
        . exact .inl ho
        . exact .inr (.inl ho)
      . simp only [Bool.and_eq_true,Bool.not_eq_true',Bool.and_eq_false_iff]at tv;obtain ⟨h1,h2,h3⟩:=tv;refine .inr (.inr ⟨fun q=> ?_,fun d hd=> ?_,fun d hd=> ?_⟩)
        . rcases h1 with h1|h1
          . rw [q.1]at h1;cases h1
          . rw [q.2]at h1;cases h1
        . rw [hd]at h2;exact h2
        . rw [hd]at h3;exact h3
 rcases Nat.lt_or_ge i j with h1|h1
 . exact key i j oi oj hi hj h1
 . exact (key j i oj oi hj hi (by omega)).symm
theorem Zr:∀(l:List (Nat×Oper×Nat)) (q:Nat×Oper),q∈Dr l<->∃m,(q.1,q.2,m)∈l
 |[],q=>by simp [Dr]
 |x::r,q=>by
  simp only [Dr,List.mem_cons,Zr r q];constructor
  . rintro (h|⟨m,h⟩)
    . exact ⟨x.2.2, .inl (by rw [h])⟩
    . exact ⟨m, .inr h⟩
  . rintro ⟨m,h|h⟩
    . left;rw [<-h]
    . exact .inr ⟨m,h⟩
theorem ao(s:Nat)(want:Bool):∀(l:List (Nat×Oper×Nat)) (q:Nat×Oper),q∈pick s want l<->bit s q.1=want/\∃m,(q.1,q.2,m)∈l
 |[],q=>by simp [pick]
 |x::r,q=>by
  simp only [pick,Fi]
  split
  . rename_i h;have h:bit s x.1=want:=by simpa using h
    simp only [List.mem_cons,ao s want r q];constructor
    . rintro (h1|⟨h1,m,h2⟩)
      . subst h1;exact ⟨h,x.2.2, .inl rfl⟩
      . exact ⟨h1,m, .inr h2⟩
    . rintro ⟨h1,m,h2|h2⟩
      . left;rw [<-h2]
      . exact .inr ⟨h1,m,h2⟩
  . rename_i h;have h:¬(bit s x.1=want):=by simpa using h
    rw [ao s want r q];constructor
    . rintro ⟨h1,m,h2⟩;exact ⟨h1,m,by simp [h2]⟩
    . rintro ⟨h1,m,h2⟩;rcases List.mem_cons.1 h2 with h3|h3
      . rw [<-h3]at h;exact absurd h1 h
      . exact ⟨h1,m,h3⟩
theorem Nw(l:List (Nat×Oper×Nat))(q:Nat×Oper):q∈order l<->∃m,(q.1,q.2,m)∈l:=by
 unfold order
 split
 . exact Zr l q
 . rename_i s _;rw [List.mem_append,ao,ao];constructor
   . rintro (⟨_,h⟩|⟨_,h⟩)<;>exact h
   . intro h;cases hb:bit (s+1) q.1
     . exact .inr ⟨rfl,h⟩
     . exact .inl ⟨rfl,h⟩
structure nL(ms:List Nat)(ord:List (Nat×Oper)):Prop where
 pre:∀(p:Nat) (q:Nat×Oper),ord[p]?=some q->∀j,bit (Ub ms q.1) j=true->∃(p':Nat) (q':Nat×Oper),p'<p/\ord[p']?=some q'/\q'.1=j
 once:∀(p p':Nat) (q q':Nat×Oper),p<p'->ord[p]?=some q->ord[p']?=some q'->q.1≠q'.1
 fresh:∀(p:Nat) (q:Nat×Oper),ord[p]?=some q->Td q.2.op=true->∀(p':Nat) (q':Nat×Oper),p'<p->ord[p']?=some q'->Vb q'.2.op=true->bit (Ub ms q.1) q'.1=true
theorem BB(ms:List Nat):∀(r pre:List (Nat×Oper)) (s:Nat) (ef:List Nat),(∀j,bit s j=true<->∃q∈pre,q.1=j)->(∀j,(∃q∈pre,Vb q.2.op=true/\q.1=j)->j∈ef)->YA ms s ef r=true->nL ms pre->nL ms (pre++r)
 |[],pre,s,ef,h1,h2,h,hp=>by simpa using hp
 |q::r,pre,s,ef,h1,h2,h,hp=>by
  simp only [YA,za,sj,ke,Nn]at h
  split at h
  . cases h
  . rename_i hc;simp only [Bool.and_eq_true,Bool.not_eq_true',Bool.or_eq_true,Ja,decide_eq_true_eq]at hc;obtain ⟨c1,c2,c3⟩:=hc;have Wam:∀j,bit (Ub ms q.1) j=true->bit s j=true:=fun j hj=>by rw [<-c1,aE,hj];simp
    have e:pre++q::r=(pre++[q])++r:=by simp
    rw [e];refine BB ms r (pre++[q]) _ _ (fun j=> ?_) (fun j=> ?_) h ⟨fun p q' hq j hj=> ?_,fun p p' x y Ab hx hy=> ?_,fun p x hx hf p' y Ab hy Jq=> ?_⟩
    . rw [aE,kG,Bool.or_eq_true,h1 j,decide_eq_true_eq];constructor
      . rintro (⟨x,k1,k2⟩|k)
        . exact ⟨x,by simp [k1],k2⟩
        . exact ⟨q,by simp,k⟩
      . rintro ⟨x,k1,k2⟩;rcases List.mem_append.1 k1 with k1|k1
        . exact .inl ⟨x,k1,k2⟩
        . have:x=q:=by simpa using k1
          subst this;exact .inr k2
    . rintro ⟨x,k1,k2,k3⟩;rcases List.mem_append.1 k1 with k1|k1
      . have:=h2 j ⟨x,k1,k2,k3⟩
        split
        . exact List.mem_cons_of_mem _ this
        . exact this
      . have:x=q:=by simpa using k1
        subst this;rw [k2];simp [k3]
    . by_cases tv:p<pre.length
      . rw [List.getElem?_append_left tv]at hq;obtain ⟨p',q2,k1,k2,k3⟩:=hp.pre p q' hq j hj;exact ⟨p',q2,k1,by rw [List.getElem?_append_left (by omega)];exact k2,k3⟩
      . have fX:p=pre.length:=by
         have:=(List.getElem?_eq_some_iff.1 hq).1
         simp at this;omega
        subst fX;have:q'=q:=by simpa using hq.symm
        subst this;obtain ⟨x,k1,k2⟩:=(h1 j).1 (Wam j hj)
        obtain ⟨p',lG⟩:=List.mem_iff_getElem?.1 k1
        have:=(List.getElem?_eq_some_iff.1 lG).1
        exact ⟨p',x,this,by rw [List.getElem?_append_left this];exact lG,k2⟩
    . by_cases tv:p'<pre.length
      . rw [List.getElem?_append_left (by omega)]at hx;rw [List.getElem?_append_left tv]at hy;exact hp.once p p' x y Ab hx hy
      . have fX:p'=pre.length:=by
         have:=(List.getElem?_eq_some_iff.1 hy).1
         simp at this;omega
        subst fX;have:y=q:=by simpa using hy.symm
        subst this;rw [List.getElem?_append_left Ab]at hx;intro heq;have:bit s y.1=true:=(h1 y.1).2 ⟨x,List.mem_iff_getElem?.2 ⟨p,hx⟩,heq⟩
        rw [c2]at this;cases this
    . by_cases tv:p<pre.length
      . rw [List.getElem?_append_left tv]at hx;rw [List.getElem?_append_left (by omega)]at hy;exact hp.fresh p x hx hf p' y Ab hy Jq
      . have fX:p=pre.length:=by
         have:=(List.getElem?_eq_some_iff.1 hx).1
         simp at this;omega
        subst fX;have:x=q:=by simpa using hx.symm
        subst this;rw [List.getElem?_append_left Ab]at hy;rcases c3 with c3|c3
        . rw [hf]at c3;cases c3
        . exact List.all_eq_true.1 c3 _ (h2 y.1 ⟨y,List.mem_iff_getElem?.2 ⟨p',hy⟩,Jq,rfl⟩)
theorem Z3{ms:List Nat}{ord:List (Nat×Oper)}(h:YA ms 0 [] ord=true):nL ms ord:=by
 have:=BB ms ord [] 0 [] (fun j=>by simp [Vr]) (fun j h=>by obtain ⟨q,k,_⟩:=h;cases k) h ⟨fun p q h=>by simp at h,fun p p' q q' _ h=>by simp at h,fun p q h=>by simp at h⟩
 simpa using this
end Sk
end Go.Proofs.YtfnkmolffhfpoaaGreat
namespace Go.Proofs.YtfnkmolffhfpoaaGreat
namespace Sk
open Go.RowKit
variable[Interp]
def Pm(t:Tm)(d:Option Tmp)(v:Value):Tm:=match d with|some d=>t.put d v|none=>t
theorem zl(t:Tm)(d:Nat)(v:Value)(x:Nat):nth (t.put d v) x=if x=d then v else nth t x:=by
 unfold nth;rw [uk];by_cases h:x=d<;>simp [h]
theorem mG{β:Type}{t:Tm}{d:Option Tmp}{v:Value}{k:Tm->Option β}{x:β}(h:XA t d v k=some x):k (Pm t d v)=some x/\∀q,d=some q->q<t.n:=by
 cases d with
 |none=>exact ⟨h,fun q e=>by cases e⟩
 |some d=>
  simp only [XA,Gi]at h
  split at h
  . rename_i hd;exact ⟨h,fun q e=>by cases e;exact hd⟩
  . cases h
structure oL(E:Env)(go:Task->Option Hh)(ops:List Oper)(r:Rec):Prop where
 w:r.w=Wp ops r.t r.o
 cl:pj ops r.t r.o=true
 no:r.w=false->r.v=undef/\r.σ'=r.σ
 yes:r.w=true->Hn E go r.t r.σ r.o.op=some (r.v,r.σ')
 dst:∀d,r.o.dst=some d->d<r.t.n
inductive fq(E:Env)(go:Task->Option Hh)(ops:List Oper):List Rec->Tm->AH->Tm->AH->Prop
 |nil (t:Tm) (σ:AH):fq E go ops [] t σ t σ
 |cons (r:Rec) (rs:List Rec) (t':Tm) (σ':AH) (h:oL E go ops r) (k:fq E go ops rs (Pm r.t r.o.dst r.v) r.σ' t' σ'):fq E go ops (r::rs) r.t r.σ t' σ'
theorem Qm{E:Env}{go:Task->Option Hh}{ops:List Oper}:∀(l:List (Nat×Oper)) (t:Tm) (σ:AH) (rs:List Rec) (t':Tm) (σ':AH),Ro E go ops l t σ=some (rs,t',σ')->
  fq E go ops rs t σ t' σ'/\rs.map (fun r=>(r.i,r.o))=l
 |[],t,σ,rs,t',σ',h=>by simp [Ro]at h;obtain ⟨rfl,rfl,rfl⟩:=h;exact ⟨.nil t σ,rfl⟩
 |q::l,t,σ,rs,t',σ',h=>by
  simp only [Ro]at h;have cons:∀(r:Rec) (x:Option (List Rec×Tm×AH)),ZF r x=some (rs,t',σ')->∃rT,rs=r::rT/\x=some (rT,t',σ'):=fun r x hx=>by
   cases x with
   |none=>cases hx
   |some y=>obtain ⟨a,b⟩:=y;simp only [ZF]at hx;cases hx;exact ⟨a,rfl,rfl⟩
  split at h
  . cases h
  rename_i Wn
  split at h
  . rename_i hw;obtain ⟨h1,h2⟩:=mG h;obtain ⟨rT,rfl,h3⟩:=cons _ _ h1;obtain ⟨k1,k2⟩:=Qm l _ _ rT t' σ' h3;exact ⟨.cons ⟨q.1,q.2,t,σ,false,undef,σ⟩ rT t' σ' ⟨hw.symm,Wn,fun _=>⟨rfl,rfl⟩,fun e=>(by cases e),h2⟩ k1,by simp [k2]⟩
  . rename_i hw
    split at h
    . cases h
    . rename_i v σ1 Uj;rw [Ei]at h;obtain ⟨h1,h2⟩:=mG h;obtain ⟨rT,rfl,h3⟩:=cons _ _ h1;obtain ⟨k1,k2⟩:=Qm l _ _ rT t' σ' h3;exact ⟨.cons ⟨q.1,q.2,t,σ,true,v,σ1⟩ rT t' σ' ⟨hw.symm,Wn,fun e=>(by cases e),fun _=>Uj,h2⟩ k1,by simp [k2]⟩
def CB(rs:List Rec)(t':Tm)(p:Nat):Tm:=match rs[p]?with|some r=>r.t|none=>t'
def xi(rs:List Rec)(σ':AH)(p:Nat):AH:=match rs[p]?with|some r=>r.σ|none=>σ'
section
variable{E:Env}{go:Task->Option Hh}{ops:List Oper}{rs:List Rec}{t t':Tm}{σ σ':AH}
theorem Wf(h:fq E go ops rs t σ t' σ'):(CB rs t' 0=t/\xi rs σ' 0=σ)/\∀p r,rs[p]?=some r->oL E go ops r/\CB rs t' (p+1)=Pm r.t r.o.dst r.v/\xi rs σ' (p+1)=r.σ':=by
 induction h with
 |nil t σ=>exact ⟨⟨rfl,rfl⟩,fun p r h=>by simp at h⟩
 |cons r rs t' σ' hr k ih=>
  refine ⟨⟨rfl,rfl⟩,fun p r' hp=> ?_⟩;cases p with
  |zero=>
   simp at hp;subst hp;refine ⟨hr, ?_, ?_⟩
   . show CB (r::rs) t' 1=_
     have:CB (r::rs) t' 1=CB rs t' 0:=by simp [CB]
     rw [this,ih.1.1]
   . have:xi (r::rs) σ' 1=xi rs σ' 0:=by simp [xi]
     rw [this,ih.1.2]
  |succ p=>
   have lG:rs[p]?=some r':=by simpa using hp
   obtain ⟨q1,q2,q3⟩:=ih.2 p r' lG
   refine ⟨q1, ?_, ?_⟩
   . have:CB (r::rs) t' (p+1+1)=CB rs t' (p+1):=by simp [CB]
     rw [this];exact q2
   . have:xi (r::rs) σ' (p+1+1)=xi rs σ' (p+1):=by simp [xi]
     rw [this];exact q3
theorem js{p:Nat}{r:Rec}(h:rs[p]?=some r):CB rs t' p=r.t:=by simp [CB,h]
theorem vh{p:Nat}{r:Rec}(h:rs[p]?=some r):xi rs σ' p=r.σ:=by simp [xi,h]
theorem nG:xi rs σ' rs.length=σ':=by simp [xi]
theorem uQ:CB rs t' rs.length=t':=by simp [CB]
def sT(rs:List Rec):Prop:=∀(p q:Nat) (r s:Rec) (d:Tmp),rs[p]?=some r->rs[q]?=some s->r.o.dst=some d->s.o.dst=some d->p=q
theorem Vy(h:fq E go ops rs t σ t' σ')(hd:sT rs):∀p,p<=rs.length->(CB rs t' p).n=t.n/\(CB rs t' p).d=t.d/\∀x,(∀q r,q<p->rs[q]?=some r->r.o.dst=some x->nth (CB rs t' p) x=r.v)/\((∀q r,q<p->rs[q]?=some r->r.o.dst≠some x)->nth (CB rs t' p) x=nth t x)
 |0,_=>by rw [(Wf h).1.1];exact ⟨rfl,rfl,fun x=>⟨fun q r hq=>absurd hq (Nat.not_lt_zero _),fun _=>rfl⟩⟩
 |p+1,hp=>by
  obtain ⟨i1,i2,i3⟩:=Vy h hd p (by omega);have hr:rs[p]?=some (rs[p]'(by omega)):=List.getElem?_eq_getElem (by omega)
  obtain ⟨k1,k2,k3⟩:=(Wf h).2 p _ hr
  have hT:=js (t':=t') hr;generalize rs[p]'(by omega)=r at*;rw [hT]at i1 i2 i3;rw [k2];refine ⟨?_, ?_,fun x=>⟨fun q s hq hs hx=> ?_,fun Mh=> ?_⟩⟩
  . unfold Pm;split<;>exact i1
  . unfold Pm;split<;>exact i2
  . by_cases pL:q=p
    . subst pL;rw [hr]at hs;cases hs;unfold Pm;rw [hx];simp only [zl,if_true]
    . have h1:=(i3 x).1 q s (by omega) hs hx
      unfold Pm
      split
      . rename_i d uI;rw [zl];have:x≠d:=fun e=>by subst e;exact pL (hd q p s r x hs hr hx uI)
        rw [if_neg this];exact h1
      . exact h1
  . have h1:=(i3 x).2 fun q s hq hs=>Mh q s (by omega) hs
    unfold Pm
    split
    . rename_i d uI;rw [zl];have:x≠d:=fun e=>by subst e;exact Mh p r (by omega) hr uI
      rw [if_neg this];exact h1
    . exact h1
theorem Wy(h:fq E go ops rs t σ t' σ')(hn:∀r∈rs,r.σ.next<=r.σ'.next){p:Nat}:∀(d:Nat),p+d<=rs.length->(xi rs σ' p).next<=(xi rs σ' (p+d)).next
 |0,_=>Nat.le_refl _
 |d+1,hd=>by
  have ih:=Wy (p:=p) h hn d (by omega);have hr:rs[p+d]?=some (rs[p+d]'(by omega)):=List.getElem?_eq_getElem (by omega)
  obtain ⟨_,_,k3⟩:=(Wf h).2 (p+d) _ hr
  have:=hn _ (List.mem_iff_getElem?.2 ⟨p+d,hr⟩);rw [vh hr]at ih;rw [show p+(d+1)=p+d+1 by omega,k3];omega
end
theorem Bk{ops:List Oper}{o:Oper}{d:Tmp}(h:looks ops o d=false):(∀x∈o.op.operands,x≠ .tmp d)/\∀g og,o.guard=some g->ops[g.1]?=some og->og.dst≠some d:=by
 have key:∀l:List Operand,Jn d l=false->∀x∈l,x≠ .tmp d:=by
  intro l
  induction l with
  |nil=>intro _ x hx;cases hx
  |cons y ys ih=>
   intro h x hx e;simp only [Jn]at h;cases y with
   |tmp q=>
    simp only at h
    split at h
    . cases h
    . rename_i hb;rw [Ja]at hb;have hb:=of_decide_eq_false hb;rcases List.mem_cons.1 hx with rfl|hx
      . cases e;exact hb rfl
      . exact ih h x hx e
   |_=>
    simp only at h;rcases List.mem_cons.1 hx with rfl|hx
    . cases e
    . exact ih h x hx e
 unfold looks at h
 split at h
 . cases h
 . rename_i hl;refine ⟨fun x hx=>key _ hl x (by simpa using hx),fun g og hg ho e=> ?_⟩;rw [hg]at h;simp only [Gc,ho,e]at h;rw [Ja]at h;simp at h
theorem bE{ops:List Oper}{o:Oper}{t1 t2:Tm}(h:∀d,looks ops o d=true->nth t1 d=nth t2 d):Wp ops t1 o=Wp ops t2 o:=by
 unfold Wp;cases hg:o.guard with
 |none=>rfl
 |some g=>
  simp only [Gc];cases ho:ops[g.1]?with
  |none=>rfl
  |some og=>
   simp only;cases hd:og.dst with
   |none=>rfl
   |some d=>
    simp only;have:looks ops o d=true:=by
     cases hl:looks ops o d with
     |true=>rfl
     |false=>exact absurd hd ((Bk hl).2 g og hg ho)
    rw [h d this]
theorem DB{ops:List Oper}{o:Oper}{t1 t2:Tm}(h:∀d,looks ops o d=true->nth t1 d=nth t2 d):pj ops t1 o=pj ops t2 o:=by
 unfold pj;cases hg:o.guard with
 |none=>rfl
 |some g=>
  simp only [Gc];cases ho:ops[g.1]?with
  |none=>rfl
  |some og=>
   simp only;cases hd:og.dst with
   |none=>rfl
   |some d=>
    simp only;have:looks ops o d=true:=by
     cases hl:looks ops o d with
     |true=>rfl
     |false=>exact absurd hd ((Bk hl).2 g og hg ho)
    rw [h d this]
theorem vQ{ops:List Oper}{o:Oper}{t1 t2:Tm}(h:∀d,looks ops o d=true->nth t1 d=nth t2 d):∀x∈o.op.operands,ev t1 x=ev t2 x:=fun x hx=>kL fun d e=>by
 refine h d ?_
 cases hl:looks ops o d with
 |true=>rfl
 |false=>exact absurd e ((Bk hl).1 x hx)
theorem As{E:Env}{go:Task->Option Hh}{ops:List Oper}{r:Rec}(h:oL E go ops r)(he:Vb r.o.op=false):
  (r.w=false/\r.σ'=r.σ)\/(r.w=true/\Td r.o.op=false/\r.σ'=r.σ)\/∃x f,r.w=true/\Td r.o.op=true/\Oc E r.t r.o.op=some (x,f)/\r.v=f r.σ.next/\r.σ'=r.σ.new x:=by
 cases hw:r.w with
 |false=>exact .inl ⟨rfl,(h.no hw).2⟩
 |true=>
  right;have:=h.yes hw;unfold Hn at this;unfold Vb at he;unfold Td
  split at this
  . rename_i hc;left;rw [hc];cases hs:Da E r.t r.o.op with
    |none=>rw [hs]at this;cases this
    |some v=>rw [hs]at this;simp only [Br]at this;injection this with this;injection this with _ this;exact ⟨rfl,rfl,this.symm⟩
  . rename_i hc;left;rw [hc];cases hs:Pe E r.t r.σ r.o.op with
    |none=>rw [hs]at this;cases this
    |some v=>rw [hs]at this;simp only [Br]at this;injection this with this;injection this with _ this;exact ⟨rfl,rfl,this.symm⟩
  . rename_i hc;right;rw [hc];cases hs:Oc E r.t r.o.op with
    |none=>rw [hs]at this;cases this
    |some p=>
     obtain ⟨x,f⟩:=p;rw [hs]at this;have e:fresh r.σ (some (x,f))=some (f r.σ.next,r.σ.new x):=by
      generalize r.σ=s;obtain ⟨n,tr⟩:=s;simp [fresh,Uh]
     rw [e]at this;injection this with this
     injection this with h1 h2
     exact ⟨x,f,rfl,rfl,rfl,h1.symm,h2.symm⟩
  . rename_i hc;rw [hc]at he;cases he
  . cases this
end Sk
end Go.Proofs.YtfnkmolffhfpoaaGreat
namespace Go.Proofs.YtfnkmolffhfpoaaGreat
namespace Sk
open Go.RowKit
variable[Interp]
theorem ah{E:Env}{ms:List Nat}{σ:AH}{Jf me:List Nat}:∀{rs:List Rec},Nh E ms σ Jf me rs=true->∀r∈rs,qy r.o.op=true->r.w=true->vy E ms r σ Jf me=true
 |[],_,r,hr,_,_=>by cases hr
 |s::rs,h,r,hr,h1,h2=>by
  simp only [Nh,za]at h;rcases List.mem_cons.1 hr with rfl|hr
  . rw [h1,h2]at h;simp only [Bool.and_self]at h
    split at h
    . assumption
    . cases h
  . split at h
    . split at h
      . exact ah h r hr h1 h2
      . cases h
    . exact ah h r hr h1 h2
theorem Dj:∀{rs:List Rec} {j:Nat},j∈Km rs<->∃r∈rs,Vb r.o.op=true/\r.i=j
 |[],j=>by simp [Km]
 |r::rs,j=>by
  simp only [Km]
  split
  . rename_i h;rw [List.mem_cons,Dj];constructor
    . rintro (h1|⟨s,h1,h2⟩)
      . exact ⟨r,by simp,h,h1.symm⟩
      . exact ⟨s,by simp [h1],h2⟩
    . rintro ⟨s,h1,h2,h3⟩;rcases List.mem_cons.1 h1 with rfl|h1
      . exact .inl h3.symm
      . exact .inr ⟨s,h1,h2,h3⟩
  . rename_i h;rw [Dj];constructor
    . rintro ⟨s,h1,h2⟩;exact ⟨s,by simp [h1],h2⟩
    . rintro ⟨s,h1,h2,h3⟩;rcases List.mem_cons.1 h1 with rfl|h1
      . rw [h2]at h;cases h
      . exact ⟨s,h1,h2,h3⟩
theorem bo{E:Env}{ms:List Nat}{all:List Rec}:∀{rs:List Rec} {Jf:List Nat},il E ms all Jf rs=true->∀(p:Nat) (r:Rec),rs[p]?=some r->Vb r.o.op=true->
  ∃EB eo,Nh E ms r.σ EB eo all=true/\(∀j∈EB,j∈Jf\/∃(q:Nat) (s:Rec),q<p/\rs[q]?=some s/\Vb s.o.op=true/\s.i=j)/\(∀j∈eo,∃(q:Nat) (s:Rec),p<=q/\rs[q]?=some s/\Vb s.o.op=true/\s.i=j)
 |[],Jf,_,p,r,hp,_=>by simp at hp
 |s::rs,Jf,h,p,r,hp,he=>by
  simp only [il]at h;cases p with
  |zero=>
   simp at hp;subst hp;rw [he]at h;simp only at h
   split at h
   . rename_i h1;refine ⟨Jf,_,h1,fun j hj=> .inl hj,fun j hj=> ?_⟩;rcases List.mem_cons.1 hj with rfl|hj
     . exact ⟨0,s,Nat.le_refl _,rfl,he,rfl⟩
     . obtain ⟨x,k1,k2,k3⟩:=Dj.1 hj
       obtain ⟨q,hq⟩:=List.mem_iff_getElem?.1 k1
       exact ⟨q+1,x,Nat.zero_le _,by simpa using hq,k2,k3⟩
   . cases h
  |succ p=>
   have lG:rs[p]?=some r:=by simpa using hp
   have lift:∀qL,il E ms all qL rs=true->(∀j∈qL,j∈Jf\/(Vb s.o.op=true/\s.i=j))->
     ∃EB eo,Nh E ms r.σ EB eo all=true/\(∀j∈EB,j∈Jf\/∃(q:Nat) (x:Rec),q<p+1/\(s::rs)[q]?=some x/\Vb x.o.op=true/\x.i=j)/\(∀j∈eo,∃(q:Nat) (x:Rec),p+1<=q/\(s::rs)[q]?=some x/\Vb x.o.op=true/\x.i=j):=fun qL h2 S1=>by
    obtain ⟨a,b,k1,k2,k3⟩:=bo h2 p r lG he;refine ⟨a,b,k1,fun j hj=> ?_,fun j hj=> ?_⟩
    . rcases k2 j hj with k|⟨q,x,q1,q2,q3,q4⟩
      . rcases S1 j k with k|⟨k,k'⟩
        . exact .inl k
        . exact .inr ⟨0,s,by omega,rfl,k,k'⟩
      . exact .inr ⟨q+1,x,by omega,by simpa using q2,q3,q4⟩
    . obtain ⟨q,x,q1,q2,q3,q4⟩:=k3 j hj;exact ⟨q+1,x,by omega,by simpa using q2,q3,q4⟩
   split at h
   . rename_i hs
     split at h
     . exact lift _ h fun j hj=>by
        rcases List.mem_cons.1 hj with rfl|hj
        . exact .inr ⟨hs,rfl⟩
        . exact .inl hj
     . cases h
   . exact lift _ h fun j hj=> .inl hj
theorem gq{E:Env}{ms:List Nat}{r:Rec}{σ:AH}{Jf me:List Nat}(h:vy E ms r σ Jf me=true)(h1:∀j∈Jf,bit (Ub ms j) r.i=false)(h2:∀j∈me,bit (Ub ms r.i) j=false):Pe E r.t σ r.o.op=some r.v:=by
 unfold vy at h;have e:Ia (qv (fun j=>Pg (bit (Ub ms j) r.i)) Jf) (qv (fun j=>Pg (bit (Ub ms r.i) j)) me)=true:=by
  simp only [za,Nn,ke,Bool.and_eq_true,List.all_eq_true,Bool.not_eq_true'];exact ⟨h1,h2⟩
 rw [e]at h;simp only at h
 split at h
 . rename_i v hv;rw [hv,mL h]
 . cases h
structure Xy(E:Env)(go:Task->Option Hh)(ops:List Oper)(rs:List Rec)(t:Tm)(σ:AH)(t':Tm)(σ':AH)(ms:List Nat):Prop where
 chain:fq E go ops rs t σ t' σ'
 pg:∀i o,ops[i]?=some o->∀j,bit (Ub ms i) j=true<->∃e∈o.after.toList,Region.binds .any e=true/\(j=e.on\/(e.on<i/\bit (Ub ms e.on) j=true))
 rL:∀(i j:Nat) (oi oj:Oper),ops[i]?=some oi->ops[j]?=some oj->i≠j->gp ops ms i j oi oj
 qj:∀(p:Nat) (r:Rec),rs[p]?=some r->ops[r.i]?=some r.o
 all:∀i o,ops[i]?=some o->∃(p:Nat) (r:Rec),rs[p]?=some r/\r.i=i
 pre:∀(p:Nat) (r:Rec),rs[p]?=some r->∀j,bit (Ub ms r.i) j=true->∃(p':Nat) (r':Rec),p'<p/\rs[p']?=some r'/\r'.i=j
 once:∀(p q:Nat) (r s:Rec),rs[p]?=some r->rs[q]?=some s->r.i=s.i->p=q
 fresh:∀(p:Nat) (r:Rec),rs[p]?=some r->Td r.o.op=true->∀(p':Nat) (r':Rec),p'<p->rs[p']?=some r'->Vb r'.o.op=true->bit (Ub ms r.i) r'.i=true
 next:∀r∈rs,r.σ.next<=r.σ'.next
 reads:∀p,p<=rs.length->(p=rs.length\/∃r:Rec,rs[p]?=some r/\Vb r.o.op=true)->∀(q:Nat) (s:Rec),rs[q]?=some s->qy s.o.op=true->s.w=true->
  (∀(p':Nat) (r':Rec),p'<p->rs[p']?=some r'->Vb r'.o.op=true->bit (Ub ms r'.i) s.i=false)->(∀(p':Nat) (r':Rec),p<=p'->rs[p']?=some r'->Vb r'.o.op=true->bit (Ub ms s.i) r'.i=false)->Pe E s.t (xi rs σ' p) s.o.op=some s.v
theorem wQ{E:Env}{go:Task->Option Hh}{ops:List Oper}{t t':Tm}{σ σ':AH}(h:wy E go ops t σ=some (t',σ')):∃rs ms,Xy E go ops rs t σ t' σ' ms:=by
 unfold wy at h;simp only at h
 split at h
 . cases h
 . rename_i rs t1 σ1 hr
   split at h
   . rename_i hd;cases h;obtain ⟨ms,hms⟩:∃ms,ms=pg ops []:=⟨_,rfl⟩;rw [<-hms]at hr hd;obtain ⟨m1,m2,m3⟩:=Xr ops [];rw [<-hms]at m1 m3;have gX:ms.length=ops.length:=by simpa using m1
     obtain ⟨k1,k2⟩:=Qm _ _ _ _ _ _ hr;unfold OK at hd;simp only [za,Bool.and_eq_true]at hd;obtain ⟨d1,d2,d3,d4,d5⟩:=hd;have ho:=Z3 d2;have FB:∀(p:Nat) (r:Rec),rs[p]?=some r->(order (Ud 0 ops ms))[p]?=some (r.i,r.o):=fun p r hp=>by
      rw [<-k2,List.getElem?_map,hp];rfl
     have uT:∀(p:Nat) (q:Nat×Oper),(order (Ud 0 ops ms))[p]?=some q->∃r:Rec,rs[p]?=some r/\q=(r.i,r.o):=fun p q hp=>by
      rw [<-k2,List.getElem?_map]at hp;cases hr:rs[p]?with
      |none=>rw [hr]at hp;cases hp
      |some r=>rw [hr]at hp;cases hp;exact ⟨r,rfl,rfl⟩
     refine ⟨rs,ms,k1,fun i o hi j=>by have:=m3 i o hi j;simpa using this,fun i j oi oj hi hj Jc=>tI d1 gX hi hj Jc,fun p r hp=> ?_,fun i o hi=> ?_,fun p r hp j hj=> ?_,fun p q r s hp hq he=> ?_,fun p r hp hf p' r' Ab lG Jq=> ?_,fun r hr=> ?_, ?_⟩
     . have:=List.mem_iff_getElem?.2 ⟨p,FB p r hp⟩
       obtain ⟨m,hm⟩:=(Nw _ _).1 this
       exact (Uy hm).1
     . have Cf:(i,o,Ub ms i)∈Ud 0 ops ms:=List.mem_iff_getElem?.2 ⟨i,by
        have rQ:i<ops.length:=(List.getElem?_eq_some_iff.1 hi).1
        rw [Vf,hi,Ag,List.getElem?_eq_getElem (by omega:i<ms.length)];simp⟩
       obtain ⟨p,hp⟩:=List.mem_iff_getElem?.1 ((Nw _ (i,o)).2 ⟨_,Cf⟩)
       obtain ⟨r,xQ,Zx⟩:=uT p _ hp;cases Zx;exact ⟨p,r,xQ,rfl⟩
     . obtain ⟨p',q',h1,h2,h3⟩:=ho.pre p _ (FB p r hp) j hj;obtain ⟨r',xQ,Zx⟩:=uT p' q' h2;exact ⟨p',r',h1,xQ,by rw [Zx]at h3;exact h3⟩
     . rcases Nat.lt_trichotomy p q with h1|h1|h1
       . exact absurd he (ho.once p q _ _ h1 (FB p r hp) (FB q s hq))
       . exact h1
       . exact absurd he.symm (ho.once q p _ _ h1 (FB q s hq) (FB p r hp))
     . exact ho.fresh p _ (FB p r hp) hf p' _ Ab (FB p' r' lG) Jq
     . rw [Nn]at d3;have:=List.all_eq_true.1 d3 r hr
       rw [jd]at this;exact of_decide_eq_true this
     . intro p tv hp q s hs hrd hw h1 h2;rcases hp with rfl|⟨r,xQ,Zx⟩
       . rw [nG];refine gq (ah d5 s (List.mem_iff_getElem?.2 ⟨q,hs⟩) hrd hw) (fun j hj=> ?_) (fun j hj=>by cases hj);obtain ⟨x,q1,q2,q3⟩:=Dj.1 hj
         obtain ⟨p',lG⟩:=List.mem_iff_getElem?.1 q1
         rw [<-q3];exact h1 p' x (List.getElem?_eq_some_iff.1 lG).1 lG q2
       . rw [vh xQ];obtain ⟨Jf,me,q1,q2,q3⟩:=bo d4 p r xQ Zx;refine gq (ah q1 s (List.mem_iff_getElem?.2 ⟨q,hs⟩) hrd hw) (fun j hj=> ?_) (fun j hj=> ?_)
         . rcases q2 j hj with q2|⟨p',x,z1,z2,z3,z4⟩
           . cases q2
           . rw [<-z4];exact h1 p' x z1 z2 z3
         . obtain ⟨p',x,z1,z2,z3,z4⟩:=q3 j hj;rw [<-z4];exact h2 p' x z1 z2 z3
   . cases h
end Sk
end Go.Proofs.YtfnkmolffhfpoaaGreat
