/- -/
import Derived.Test.YtfnkmolffhfpoaaGreatHq9
set_option linter.unusedVariables false
set_option linter.unusedSimpArgs false
set_option linter.unusedSectionVars false
namespace Go.Proofs.YtfnkmolffhfpoaaGreat
namespace Sk
open Go.RowKit
variable[Interp]
theorem Nv(m i:Nat):bit m i=m.testBit i:=by
 unfold bit;rw [Na,Nat.testBit_eq_decide_div_mod_eq];rfl
theorem aH(a b i:Nat):bit (Nat.lor a b) i=(bit a i||bit b i):=by
 rw [Nv,Nv,Nv];exact Nat.testBit_or a b i
theorem rJ(e i:Nat):bit (Nat.pow 2 e) i=decide (e=i):=by
 rw [Nv];exact Nat.testBit_two_pow
theorem Ov(i:Nat):bit 0 i=false:=by rw [Nv];simp
theorem Pv(acc:List Nat):∀(es:List Edge) (s j:Nat),bit (Kr acc es s) j=true<->bit s j=true\/∃e∈es,Region.binds .any e=true/\(j=e.on\/∃m,acc[e.on]?=some m/\bit m j=true)
 |[],s,j=>by simp [Kr]
 |e::es,s,j=>by
  simp only [Kr];rw [Pv acc es];cases hb:Region.binds .any e with
  |false=>simp [hb]
  |true=>
   simp only [aH,rJ,Ec,Bool.or_eq_true,decide_eq_true_eq];constructor
   . rintro ((h|h|h)|⟨e',h1,h2,h3⟩)
     . exact .inl h
     . exact .inr ⟨e,by simp,hb, .inl h.symm⟩
     . right;refine ⟨e,by simp,hb, .inr ?_⟩;cases ha:acc[e.on]?with
       |none=>rw [ha]at h;simp [Ov]at h
       |some m=>rw [ha]at h;exact ⟨m,rfl,h⟩
     . exact .inr ⟨e',by simp [h1],h2,h3⟩
   . rintro (h|⟨e',h1,h2,h3⟩)
     . exact .inl (.inl h)
     . rcases List.mem_cons.1 h1 with rfl|h1
       . left;right;rcases h3 with h3|⟨m,h3,h4⟩
         . exact .inl h3.symm
         . right;rw [h3];exact h4
       . exact .inr ⟨e',h1,h2,h3⟩
theorem ah(ms:List Nat)(i:Nat):Xb ms i=(ms[i]?).getD 0:=by
 unfold Xb;rw [Ec];cases ms[i]?<;>rfl
theorem Qv:∀(l:List Oper) (acc:List Nat),(Qg l acc).length=acc.length+l.length/\(∀i,i<acc.length->(Qg l acc)[i]?=acc[i]?)/\
  ∀k o,l[k]?=some o->∀j,bit (Xb (Qg l acc) (acc.length+k)) j=true<->∃e∈o.after.toList,Region.binds .any e=true/\(j=e.on\/(e.on<acc.length+k/\bit (Xb (Qg l acc) e.on) j=true))
 |[],acc=>⟨by simp [Qg],fun i hi=>by simp [Qg],fun k o h=>by simp at h⟩
 |o::os,acc=>by
  obtain ⟨m,hm⟩:∃m,m=Kr acc o.after.toList 0:=⟨_,rfl⟩;have hmk:Qg (o::os) acc=Qg os (acc++[m]):=by simp only [Qg,ql];rw [hm]
  obtain ⟨h1,h2,h3⟩:=Qv os (acc++[m]);rw [hmk];have e7:∀i,i<acc.length->(Qg os (acc++[m]))[i]?=acc[i]?:=fun i hi=>by
   rw [h2 i (by simp;omega),List.getElem?_append_left hi]
  refine ⟨by rw [h1];simp;omega,e7,fun k o' ho j=> ?_⟩;cases k with
  |zero=>
   simp at ho;subst ho;have:Xb (Qg os (acc++[m])) (acc.length+0)=m:=by
    rw [ah,Nat.add_zero,h2 acc.length (by simp)];simp
   have hmb:=Pv acc o.after.toList 0 j;rw [<-hm]at hmb;rw [this,hmb];simp only [Ov,Bool.false_eq_true,false_or];constructor
   . rintro ⟨e,q1,q2,q3⟩;refine ⟨e,q1,q2, ?_⟩;rcases q3 with q3|⟨x,q3,q4⟩
     . exact .inl q3
     . right;have hl:e.on<acc.length:=(List.getElem?_eq_some_iff.1 q3).1
       exact ⟨by omega,by rw [ah,e7 e.on hl,q3];exact q4⟩
   . rintro ⟨e,q1,q2,q3⟩;refine ⟨e,q1,q2, ?_⟩;rcases q3 with q3|⟨q3,q4⟩
     . exact .inl q3
     . right;rw [ah,e7 e.on (by omega)]at q4;have hl:e.on<acc.length:=by omega
       rw [List.getElem?_eq_getElem hl]at q4;exact ⟨acc[e.on],List.getElem?_eq_getElem hl,q4⟩
  |succ k=>
   have:=h3 k o' (by simpa using ho) j;simp only [List.length_append,List.length_cons,List.length_nil,Nat.zero_add]at this;rw [show acc.length+(k+1)=acc.length+1+k by omega];exact this
theorem xg:∀(k:Nat) (l:List Oper) (ms:List Nat) (p:Nat),(ke k l ms)[p]?=match l[p]?,ms[p]?with|some o,some m=>some (k+p,o,m)|_,_=>none
 |k,[],ms,p=>by cases ms<;>simp [ke]
 |k,o::os,[],p=>by cases h:(o::os)[p]?<;>simp [ke]
 |k,o::os,m::ms,p=>by
  cases p with
  |zero=>simp [ke]
  |succ p=>
   simp only [ke,List.getElem?_cons_succ];rw [xg (k+1) os ms p];cases os[p]?<;>cases ms[p]?<;>simp
   omega
theorem DB{l:List Oper}{ms:List Nat}{x:Nat×Oper×Nat}(h:x∈ke 0 l ms):l[x.1]?=some x.2.1/\Xb ms x.1=x.2.2:=by
 obtain ⟨p,hp⟩:=List.mem_iff_getElem?.1 h
 rw [xg]at hp;cases h1:l[p]?with
 |none=>rw [h1]at hp;cases hp
 |some o=>
  cases h2:ms[p]?with
  |none=>rw [h1,h2]at hp;cases hp
  |some m=>
   rw [h1,h2]at hp;cases hp;simp only [Nat.zero_add];exact ⟨h1,by rw [ah,h2];rfl⟩
theorem Sv(ops:List Oper):∀l:List (Nat×Oper×Nat),kq ops l=true->l.Pairwise fun x y=>IG ops x y=true
 |[],_=>List.Pairwise.nil
 |x::xs,h=>by
  simp only [kq,pq]at h
  split at h
  . rename_i h1;exact List.Pairwise.cons (fun y hy=>List.all_eq_true.1 h1 y hy) (Sv ops xs h)
  . cases h
structure Yr(ops:List Oper)(ms:List Nat)(i j:Nat)(oi oj:Oper):Prop where
 dst:∀d,oi.dst=some d->oj.dst≠some d
 ord:bit (Xb ms i) j=true\/bit (Xb ms j) i=true\/(¬(Zb oi.op=true/\Zb oj.op=true)/\(∀d,oi.dst=some d->looks ops oj d=false)/\(∀d,oj.dst=some d->looks ops oi d=false))
theorem Yr.symm{ops:List Oper}{ms:List Nat}{i j:Nat}{oi oj:Oper}(h:Yr ops ms i j oi oj):Yr ops ms j i oj oi:=
 ⟨fun d h1 h2=>h.dst d h2 h1,by
   rcases h.ord with h1|h1|⟨h1,h2,h3⟩
   . exact .inr (.inl h1)
   . exact .inl h1
   . exact .inr (.inr ⟨fun q=>h1 ⟨q.2,q.1⟩,h3,h2⟩)⟩
theorem fM{ops:List Oper}{ms:List Nat}(h:kq ops (ke 0 ops ms)=true)(hl:ms.length=ops.length){i j:Nat}{oi oj:Oper}(hi:ops[i]?=some oi)(hj:ops[j]?=some oj)(bc:i≠j):Yr ops ms i j oi oj:=by
 have key:∀(i j:Nat) (oi oj:Oper),ops[i]?=some oi->ops[j]?=some oj->i<j->Yr ops ms i j oi oj:=fun i j oi oj hi hj zb=>by
  have hp:=Sv ops _ h;have mO:i<ops.length:=(List.getElem?_eq_some_iff.1 hi).1
  have hjl:j<ops.length:=(List.getElem?_eq_some_iff.1 hj).1
  have gi:(ke 0 ops ms)[i]?=some (i,oi,Xb ms i):=by
   rw [xg,hi,ah,List.getElem?_eq_getElem (by omega:i<ms.length)];simp
  have gj:(ke 0 ops ms)[j]?=some (j,oj,Xb ms j):=by
   rw [xg,hj,ah,List.getElem?_eq_getElem (by omega:j<ms.length)];simp
  have Qr:=List.pairwise_iff_getElem.1 hp i j (List.getElem?_eq_some_iff.1 gi).1 (List.getElem?_eq_some_iff.1 gj).1 zb
  rw [(List.getElem?_eq_some_iff.1 gi).2,(List.getElem?_eq_some_iff.1 gj).2]at Qr;unfold IG at Qr;simp only [rl,Aa,Ae]at Qr
  split at Qr
  . cases Qr
  . rename_i hd;refine ⟨fun d h1 h2=> ?_, ?_⟩
    . rw [h1,h2]at hd;simp [Sac,Na]at hd
    . split at Qr
      . rename_i ho;simp only [Bool.or_eq_true]at ho;rcases ho with ho|ho
        . exact .inl ho
        . exact .inr (.inl ho)
      . simp only [Bool.and_eq_true,Bool.not_eq_true',Bool.and_eq_false_iff]at Qr;obtain ⟨h1,h2,h3⟩:=Qr;refine .inr (.inr ⟨fun q=> ?_,fun d hd=> ?_,fun d hd=> ?_⟩)
        . rcases h1 with h1|h1
          . rw [q.1]at h1;cases h1
          . rw [q.2]at h1;cases h1
        . rw [hd]at h2;exact h2
        . rw [hd]at h3;exact h3
 rcases Nat.lt_or_ge i j with h1|h1
 . exact key i j oi oj hi hj h1
 . exact (key j i oj oi hj hi (by omega)).symm
theorem Tv:∀(l:List (Nat×Oper×Nat)) (q:Nat×Oper),q∈ov l<->∃m,(q.1,q.2,m)∈l
 |[],q=>by simp [ov]
 |x::r,q=>by
  simp only [ov,List.mem_cons,Tv r q];constructor
  . rintro (h|⟨m,h⟩)
    . exact ⟨x.2.2, .inl (by rw [h])⟩
    . exact ⟨m, .inr h⟩
  . rintro ⟨m,h|h⟩
    . left;rw [<-h]
    . exact .inr ⟨m,h⟩
theorem Gq(s:Nat)(want:Bool):∀(l:List (Nat×Oper×Nat)) (q:Nat×Oper),q∈pick s want l<->bit s q.1=want/\∃m,(q.1,q.2,m)∈l
 |[],q=>by simp [pick]
 |x::r,q=>by
  simp only [pick,Ck]
  split
  . rename_i h;have h:bit s x.1=want:=by simpa using h
    simp only [List.mem_cons,Gq s want r q];constructor
    . rintro (h1|⟨h1,m,h2⟩)
      . subst h1;exact ⟨h,x.2.2, .inl rfl⟩
      . exact ⟨h1,m, .inr h2⟩
    . rintro ⟨h1,m,h2|h2⟩
      . left;rw [<-h2]
      . exact .inr ⟨h1,m,h2⟩
  . rename_i h;have h:¬(bit s x.1=want):=by simpa using h
    rw [Gq s want r q];constructor
    . rintro ⟨h1,m,h2⟩;exact ⟨h1,m,by simp [h2]⟩
    . rintro ⟨h1,m,h2⟩;rcases List.mem_cons.1 h2 with h3|h3
      . rw [<-h3]at h;exact absurd h1 h
      . exact ⟨h1,m,h3⟩
theorem Cz(l:List (Nat×Oper×Nat))(q:Nat×Oper):q∈order l<->∃m,(q.1,q.2,m)∈l:=by
 unfold order
 split
 . exact Tv l q
 . rename_i s _;rw [List.mem_append,Gq,Gq];constructor
   . rintro (⟨_,h⟩|⟨_,h⟩)<;>exact h
   . intro h;cases hb:bit (s+1) q.1
     . exact .inr ⟨rfl,h⟩
     . exact .inl ⟨rfl,h⟩
structure fP(ms:List Nat)(ord:List (Nat×Oper)):Prop where
 pre:∀(p:Nat) (q:Nat×Oper),ord[p]?=some q->∀j,bit (Xb ms q.1) j=true->∃(p':Nat) (q':Nat×Oper),p'<p/\ord[p']?=some q'/\q'.1=j
 once:∀(p p':Nat) (q q':Nat×Oper),p<p'->ord[p]?=some q->ord[p']?=some q'->q.1≠q'.1
 fresh:∀(p:Nat) (q:Nat×Oper),ord[p]?=some q->je q.2.op=true->∀(p':Nat) (q':Nat×Oper),p'<p->ord[p']?=some q'->Zb q'.2.op=true->bit (Xb ms q.1) q'.1=true
theorem VD(ms:List Nat):∀(r pre:List (Nat×Oper)) (s:Nat) (ef:List Nat),(∀j,bit s j=true<->∃q∈pre,q.1=j)->(∀j,(∃q∈pre,Zb q.2.op=true/\q.1=j)->j∈ef)->pD ms s ef r=true->fP ms pre->fP ms (pre++r)
 |[],pre,s,ef,h1,h2,h,hp=>by simpa using hp
 |q::r,pre,s,ef,h1,h2,h,hp=>by
  simp only [pD,Aa,rl,Ae,pq]at h
  split at h
  . cases h
  . rename_i hc;simp only [Bool.and_eq_true,Bool.not_eq_true',Bool.or_eq_true,Na,decide_eq_true_eq]at hc;obtain ⟨c1,c2,c3⟩:=hc;have jau:∀j,bit (Xb ms q.1) j=true->bit s j=true:=fun j hj=>by rw [<-c1,aH,hj];simp
    have e:pre++q::r=(pre++[q])++r:=by simp
    rw [e];refine VD ms r (pre++[q]) _ _ (fun j=> ?_) (fun j=> ?_) h ⟨fun p q' hq j hj=> ?_,fun p p' x y zb hx hy=> ?_,fun p x hx hf p' y zb hy Bu=> ?_⟩
    . rw [aH,rJ,Bool.or_eq_true,h1 j,decide_eq_true_eq];constructor
      . rintro (⟨x,k1,k2⟩|k)
        . exact ⟨x,by simp [k1],k2⟩
        . exact ⟨q,by simp,k⟩
      . rintro ⟨x,k1,k2⟩;rcases List.mem_append.1 k1 with k1|k1
        . exact .inl ⟨x,k1,k2⟩
        . have:x=q:=by simpa using k1
          subst this;exact .inr k2
    . rintro ⟨x,k1,k2,k3⟩;rcases List.mem_append.1 k1 with k1|k1
      . have:=h2 j ⟨x,k1,k2,k3⟩
        split
        . exact List.mem_cons_of_mem _ this
        . exact this
      . have:x=q:=by simpa using k1
        subst this;rw [k2];simp [k3]
    . by_cases Qr:p<pre.length
      . rw [List.getElem?_append_left Qr]at hq;obtain ⟨p',q2,k1,k2,k3⟩:=hp.pre p q' hq j hj;exact ⟨p',q2,k1,by rw [List.getElem?_append_left (by omega)];exact k2,k3⟩
      . have g7:p=pre.length:=by
         have:=(List.getElem?_eq_some_iff.1 hq).1
         simp at this;omega
        subst g7;have:q'=q:=by simpa using hq.symm
        subst this;obtain ⟨x,k1,k2⟩:=(h1 j).1 (jau j hj)
        obtain ⟨p',sJ⟩:=List.mem_iff_getElem?.1 k1
        have:=(List.getElem?_eq_some_iff.1 sJ).1
        exact ⟨p',x,this,by rw [List.getElem?_append_left this];exact sJ,k2⟩
    . by_cases Qr:p'<pre.length
      . rw [List.getElem?_append_left (by omega)]at hx;rw [List.getElem?_append_left Qr]at hy;exact hp.once p p' x y zb hx hy
      . have g7:p'=pre.length:=by
         have:=(List.getElem?_eq_some_iff.1 hy).1
         simp at this;omega
        subst g7;have:y=q:=by simpa using hy.symm
        subst this;rw [List.getElem?_append_left zb]at hx;intro heq;have:bit s y.1=true:=(h1 y.1).2 ⟨x,List.mem_iff_getElem?.2 ⟨p,hx⟩,heq⟩
        rw [c2]at this;cases this
    . by_cases Qr:p<pre.length
      . rw [List.getElem?_append_left Qr]at hx;rw [List.getElem?_append_left (by omega)]at hy;exact hp.fresh p x hx hf p' y zb hy Bu
      . have g7:p=pre.length:=by
         have:=(List.getElem?_eq_some_iff.1 hx).1
         simp at this;omega
        subst g7;have:x=q:=by simpa using hx.symm
        subst this;rw [List.getElem?_append_left zb]at hy;rcases c3 with c3|c3
        . rw [hf]at c3;cases c3
        . exact List.all_eq_true.1 c3 _ (h2 y.1 ⟨y,List.mem_iff_getElem?.2 ⟨p',hy⟩,Bu,rfl⟩)
theorem mad{ms:List Nat}{ord:List (Nat×Oper)}(h:pD ms 0 [] ord=true):fP ms ord:=by
 have:=VD ms ord [] 0 [] (fun j=>by simp [Ov]) (fun j h=>by obtain ⟨q,k,_⟩:=h;cases k) h ⟨fun p q h=>by simp at h,fun p p' q q' _ h=>by simp at h,fun p q h=>by simp at h⟩
 simpa using this
end Sk
end Go.Proofs.YtfnkmolffhfpoaaGreat
namespace Go.Proofs.YtfnkmolffhfpoaaGreat
namespace Sk
open Go.RowKit
variable[Interp]
def Gp(t:Tm)(d:Option Tmp)(v:Value):Tm:=match d with|some d=>t.put d v|none=>t
theorem eo(t:Tm)(d:Nat)(v:Value)(x:Nat):nth (t.put d v) x=if x=d then v else nth t x:=by
 unfold nth;rw [Om];by_cases h:x=d<;>simp [h]
theorem tJ{β:Type}{t:Tm}{d:Option Tmp}{v:Value}{k:Tm->Option β}{x:β}(h:oD t d v k=some x):k (Gp t d v)=some x/\∀q,d=some q->q<t.n:=by
 cases d with
 |none=>exact ⟨h,fun q e=>by cases e⟩
 |some d=>
  simp only [oD,Dk]at h
  split at h
  . rename_i hd;exact ⟨h,fun q e=>by cases e;exact hd⟩
  . cases h
structure gP(E:Env)(go:Task->Option Ki)(ops:List Oper)(r:Rec):Prop where
 w:r.w=ft ops r.t r.o
 cl:ll ops r.t r.o=true
 no:r.w=false->r.v=undef/\r.σ'=r.σ
 yes:r.w=true->iq E go r.t r.σ r.o.op=some (r.v,r.σ')
 dst:∀d,r.o.dst=some d->d<r.t.n
inductive Bt(E:Env)(go:Task->Option Ki)(ops:List Oper):List Rec->Tm->AH->Tm->AH->Prop
 |nil (t:Tm) (σ:AH):Bt E go ops [] t σ t σ
 |cons (r:Rec) (rs:List Rec) (t':Tm) (σ':AH) (h:gP E go ops r) (k:Bt E go ops rs (Gp r.t r.o.dst r.v) r.σ' t' σ'):Bt E go ops (r::rs) r.t r.σ t' σ'
theorem Hp{E:Env}{go:Task->Option Ki}{ops:List Oper}:∀(l:List (Nat×Oper)) (t:Tm) (σ:AH) (rs:List Rec) (t':Tm) (σ':AH),Jr E go ops l t σ=some (rs,t',σ')->
  Bt E go ops rs t σ t' σ'/\rs.map (fun r=>(r.i,r.o))=l
 |[],t,σ,rs,t',σ',h=>by simp [Jr]at h;obtain ⟨rfl,rfl,rfl⟩:=h;exact ⟨.nil t σ,rfl⟩
 |q::l,t,σ,rs,t',σ',h=>by
  simp only [Jr]at h;have cons:∀(r:Rec) (x:Option (List Rec×Tm×AH)),gJ r x=some (rs,t',σ')->∃pX,rs=r::pX/\x=some (pX,t',σ'):=fun r x hx=>by
   cases x with
   |none=>cases hx
   |some y=>obtain ⟨a,b⟩:=y;simp only [gJ]at hx;cases hx;exact ⟨a,rfl,rfl⟩
  split at h
  . cases h
  rename_i Aq
  split at h
  . rename_i hw;obtain ⟨h1,h2⟩:=tJ h;obtain ⟨pX,rfl,h3⟩:=cons _ _ h1;obtain ⟨k1,k2⟩:=Hp l _ _ pX t' σ' h3;exact ⟨.cons ⟨q.1,q.2,t,σ,false,undef,σ⟩ pX t' σ' ⟨hw.symm,Aq,fun _=>⟨rfl,rfl⟩,fun e=>(by cases e),h2⟩ k1,by simp [k2]⟩
  . rename_i hw
    split at h
    . cases h
    . rename_i v σ1 Gl;rw [Bk]at h;obtain ⟨h1,h2⟩:=tJ h;obtain ⟨pX,rfl,h3⟩:=cons _ _ h1;obtain ⟨k1,k2⟩:=Hp l _ _ pX t' σ' h3;exact ⟨.cons ⟨q.1,q.2,t,σ,true,v,σ1⟩ pX t' σ' ⟨hw.symm,Aq,fun e=>(by cases e),fun _=>Gl,h2⟩ k1,by simp [k2]⟩
def WD(rs:List Rec)(t':Tm)(p:Nat):Tm:=match rs[p]?with|some r=>r.t|none=>t'
def zk(rs:List Rec)(σ':AH)(p:Nat):AH:=match rs[p]?with|some r=>r.σ|none=>σ'
section
variable{E:Env}{go:Task->Option Ki}{ops:List Oper}{rs:List Rec}{t t':Tm}{σ σ':AH}
theorem yg(h:Bt E go ops rs t σ t' σ'):(WD rs t' 0=t/\zk rs σ' 0=σ)/\∀p r,rs[p]?=some r->gP E go ops r/\WD rs t' (p+1)=Gp r.t r.o.dst r.v/\zk rs σ' (p+1)=r.σ':=by
 induction h with
 |nil t σ=>exact ⟨⟨rfl,rfl⟩,fun p r h=>by simp at h⟩
 |cons r rs t' σ' hr k ih=>
  refine ⟨⟨rfl,rfl⟩,fun p r' hp=> ?_⟩;cases p with
  |zero=>
   simp at hp;subst hp;refine ⟨hr, ?_, ?_⟩
   . show WD (r::rs) t' 1=_
     have:WD (r::rs) t' 1=WD rs t' 0:=by simp [WD]
     rw [this,ih.1.1]
   . have:zk (r::rs) σ' 1=zk rs σ' 0:=by simp [zk]
     rw [this,ih.1.2]
  |succ p=>
   have sJ:rs[p]?=some r':=by simpa using hp
   obtain ⟨q1,q2,q3⟩:=ih.2 p r' sJ
   refine ⟨q1, ?_, ?_⟩
   . have:WD (r::rs) t' (p+1+1)=WD rs t' (p+1):=by simp [WD]
     rw [this];exact q2
   . have:zk (r::rs) σ' (p+1+1)=zk rs σ' (p+1):=by simp [zk]
     rw [this];exact q3
theorem Uv{p:Nat}{r:Rec}(h:rs[p]?=some r):WD rs t' p=r.t:=by simp [WD,h]
theorem si{p:Nat}{r:Rec}(h:rs[p]?=some r):zk rs σ' p=r.σ:=by simp [zk,h]
theorem uJ:zk rs σ' rs.length=σ':=by simp [zk]
theorem XU:WD rs t' rs.length=t':=by simp [WD]
def qX(rs:List Rec):Prop:=∀(p q:Nat) (r s:Rec) (d:Tmp),rs[p]?=some r->rs[q]?=some s->r.o.dst=some d->s.o.dst=some d->p=q
theorem EB(h:Bt E go ops rs t σ t' σ')(hd:qX rs):∀p,p<=rs.length->(WD rs t' p).n=t.n/\(WD rs t' p).d=t.d/\∀x,(∀q r,q<p->rs[q]?=some r->r.o.dst=some x->nth (WD rs t' p) x=r.v)/\((∀q r,q<p->rs[q]?=some r->r.o.dst≠some x)->nth (WD rs t' p) x=nth t x)
 |0,_=>by rw [(yg h).1.1];exact ⟨rfl,rfl,fun x=>⟨fun q r hq=>absurd hq (Nat.not_lt_zero _),fun _=>rfl⟩⟩
 |p+1,hp=>by
  obtain ⟨i1,i2,i3⟩:=EB h hd p (by omega);have hr:rs[p]?=some (rs[p]'(by omega)):=List.getElem?_eq_getElem (by omega)
  obtain ⟨k1,k2,k3⟩:=(yg h).2 p _ hr
  have hT:=Uv (t':=t') hr;generalize rs[p]'(by omega)=r at*;rw [hT]at i1 i2 i3;rw [k2];refine ⟨?_, ?_,fun x=>⟨fun q s hq hs hx=> ?_,fun Ch=> ?_⟩⟩
  . unfold Gp;split<;>exact i1
  . unfold Gp;split<;>exact i2
  . by_cases iP:q=p
    . subst iP;rw [hr]at hs;cases hs;unfold Gp;rw [hx];simp only [eo,if_true]
    . have h1:=(i3 x).1 q s (by omega) hs hx
      unfold Gp
      split
      . rename_i d jP;rw [eo];have:x≠d:=fun e=>by subst e;exact iP (hd q p s r x hs hr hx jP)
        rw [if_neg this];exact h1
      . exact h1
  . have h1:=(i3 x).2 fun q s hq hs=>Ch q s (by omega) hs
    unfold Gp
    split
    . rename_i d jP;rw [eo];have:x≠d:=fun e=>by subst e;exact Ch p r (by omega) hr jP
      rw [if_neg this];exact h1
    . exact h1
theorem FB(h:Bt E go ops rs t σ t' σ')(hn:∀r∈rs,r.σ.next<=r.σ'.next){p:Nat}:∀(d:Nat),p+d<=rs.length->(zk rs σ' p).next<=(zk rs σ' (p+d)).next
 |0,_=>Nat.le_refl _
 |d+1,hd=>by
  have ih:=FB (p:=p) h hn d (by omega);have hr:rs[p+d]?=some (rs[p+d]'(by omega)):=List.getElem?_eq_getElem (by omega)
  obtain ⟨_,_,k3⟩:=(yg h).2 (p+d) _ hr
  have:=hn _ (List.mem_iff_getElem?.2 ⟨p+d,hr⟩);rw [si hr]at ih;rw [show p+(d+1)=p+d+1 by omega,k3];omega
end
theorem Wm{ops:List Oper}{o:Oper}{d:Tmp}(h:looks ops o d=false):(∀x∈o.op.operands,x≠ .tmp d)/\∀g og,o.guard=some g->ops[g.1]?=some og->og.dst≠some d:=by
 have key:∀l:List Operand,jq d l=false->∀x∈l,x≠ .tmp d:=by
  intro l
  induction l with
  |nil=>intro _ x hx;cases hx
  |cons y ys ih=>
   intro h x hx e;simp only [jq]at h;cases y with
   |tmp q=>
    simp only at h
    split at h
    . cases h
    . rename_i hb;rw [Na]at hb;have hb:=of_decide_eq_false hb;rcases List.mem_cons.1 hx with rfl|hx
      . cases e;exact hb rfl
      . exact ih h x hx e
   |_=>
    simp only at h;rcases List.mem_cons.1 hx with rfl|hx
    . cases e
    . exact ih h x hx e
 unfold looks at h
 split at h
 . cases h
 . rename_i hl;refine ⟨fun x hx=>key _ hl x (by simpa using hx),fun g og hg ho e=> ?_⟩;rw [hg]at h;simp only [Ec,ho,e]at h;rw [Na]at h;simp at h
theorem bH{ops:List Oper}{o:Oper}{t1 t2:Tm}(h:∀d,looks ops o d=true->nth t1 d=nth t2 d):ft ops t1 o=ft ops t2 o:=by
 unfold ft;cases hg:o.guard with
 |none=>rfl
 |some g=>
  simp only [Ec];cases ho:ops[g.1]?with
  |none=>rfl
  |some og=>
   simp only;cases hd:og.dst with
   |none=>rfl
   |some d=>
    simp only;have:looks ops o d=true:=by
     cases hl:looks ops o d with
     |true=>rfl
     |false=>exact absurd hd ((Wm hl).2 g og hg ho)
    rw [h d this]
theorem XD{ops:List Oper}{o:Oper}{t1 t2:Tm}(h:∀d,looks ops o d=true->nth t1 d=nth t2 d):ll ops t1 o=ll ops t2 o:=by
 unfold ll;cases hg:o.guard with
 |none=>rfl
 |some g=>
  simp only [Ec];cases ho:ops[g.1]?with
  |none=>rfl
  |some og=>
   simp only;cases hd:og.dst with
   |none=>rfl
   |some d=>
    simp only;have:looks ops o d=true:=by
     cases hl:looks ops o d with
     |true=>rfl
     |false=>exact absurd hd ((Wm hl).2 g og hg ho)
    rw [h d this]
theorem YU{ops:List Oper}{o:Oper}{t1 t2:Tm}(h:∀d,looks ops o d=true->nth t1 d=nth t2 d):∀x∈o.op.operands,ev t1 x=ev t2 x:=fun x hx=>cP fun d e=>by
 refine h d ?_
 cases hl:looks ops o d with
 |true=>rfl
 |false=>exact absurd e ((Wm hl).1 x hx)
theorem Vv{E:Env}{go:Task->Option Ki}{ops:List Oper}{r:Rec}(h:gP E go ops r)(he:Zb r.o.op=false):
  (r.w=false/\r.σ'=r.σ)\/(r.w=true/\je r.o.op=false/\r.σ'=r.σ)\/∃x f,r.w=true/\je r.o.op=true/\Zc E r.t r.o.op=some (x,f)/\r.v=f r.σ.next/\r.σ'=r.σ.new x:=by
 cases hw:r.w with
 |false=>exact .inl ⟨rfl,(h.no hw).2⟩
 |true=>
  right;have:=h.yes hw;unfold iq at this;unfold Zb at he;unfold je
  split at this
  . rename_i hc;left;rw [hc];cases hs:Ka E r.t r.o.op with
    |none=>rw [hs]at this;cases this
    |some v=>rw [hs]at this;simp only [jv]at this;injection this with this;injection this with _ this;exact ⟨rfl,rfl,this.symm⟩
  . rename_i hc;left;rw [hc];cases hs:Cf E r.t r.σ r.o.op with
    |none=>rw [hs]at this;cases this
    |some v=>rw [hs]at this;simp only [jv]at this;injection this with this;injection this with _ this;exact ⟨rfl,rfl,this.symm⟩
  . rename_i hc;right;rw [hc];cases hs:Zc E r.t r.o.op with
    |none=>rw [hs]at this;cases this
    |some p=>
     obtain ⟨x,f⟩:=p;rw [hs]at this;have e:fresh r.σ (some (x,f))=some (f r.σ.next,r.σ.new x):=by
      generalize r.σ=s;obtain ⟨n,tr⟩:=s;simp [fresh,Vi]
     rw [e]at this;injection this with this
     injection this with h1 h2
     exact ⟨x,f,rfl,rfl,rfl,h1.symm,h2.symm⟩
  . rename_i hc;rw [hc]at he;cases he
  . cases this
end Sk
end Go.Proofs.YtfnkmolffhfpoaaGreat
namespace Go.Proofs.YtfnkmolffhfpoaaGreat
namespace Sk
open Go.RowKit
variable[Interp]
theorem Wh{E:Env}{ms:List Nat}{σ:AH}{Zf Be:List Nat}:∀{rs:List Rec},Oi E ms σ Zf Be rs=true->∀r∈rs,fB r.o.op=true->r.w=true->gB E ms r σ Zf Be=true
 |[],_,r,hr,_,_=>by cases hr
 |s::rs,h,r,hr,h1,h2=>by
  simp only [Oi,Aa]at h;rcases List.mem_cons.1 hr with rfl|hr
  . rw [h1,h2]at h;simp only [Bool.and_self]at h
    split at h
    . assumption
    . cases h
  . split at h
    . split at h
      . exact Wh h r hr h1 h2
      . cases h
    . exact Wh h r hr h1 h2
theorem Hl:∀{rs:List Rec} {j:Nat},j∈Bp rs<->∃r∈rs,Zb r.o.op=true/\r.i=j
 |[],j=>by simp [Bp]
 |r::rs,j=>by
  simp only [Bp]
  split
  . rename_i h;rw [List.mem_cons,Hl];constructor
    . rintro (h1|⟨s,h1,h2⟩)
      . exact ⟨r,by simp,h,h1.symm⟩
      . exact ⟨s,by simp [h1],h2⟩
    . rintro ⟨s,h1,h2,h3⟩;rcases List.mem_cons.1 h1 with rfl|h1
      . exact .inl h3.symm
      . exact .inr ⟨s,h1,h2,h3⟩
  . rename_i h;rw [Hl];constructor
    . rintro ⟨s,h1,h2⟩;exact ⟨s,by simp [h1],h2⟩
    . rintro ⟨s,h1,h2,h3⟩;rcases List.mem_cons.1 h1 with rfl|h1
      . rw [h2]at h;cases h
      . exact ⟨s,h1,h2,h3⟩
theorem Hq{E:Env}{ms:List Nat}{all:List Rec}:∀{rs:List Rec} {Zf:List Nat},Un E ms all Zf rs=true->∀(p:Nat) (r:Rec),rs[p]?=some r->Zb r.o.op=true->
  ∃YD Iq,Oi E ms r.σ YD Iq all=true/\(∀j∈YD,j∈Zf\/∃(q:Nat) (s:Rec),q<p/\rs[q]?=some s/\Zb s.o.op=true/\s.i=j)/\(∀j∈Iq,∃(q:Nat) (s:Rec),p<=q/\rs[q]?=some s/\Zb s.o.op=true/\s.i=j)
 |[],Zf,_,p,r,hp,_=>by simp at hp
 |s::rs,Zf,h,p,r,hp,he=>by
  simp only [Un]at h;cases p with
  |zero=>
   simp at hp;subst hp;rw [he]at h;simp only at h
   split at h
   . rename_i h1;refine ⟨Zf,_,h1,fun j hj=> .inl hj,fun j hj=> ?_⟩;rcases List.mem_cons.1 hj with rfl|hj
     . exact ⟨0,s,Nat.le_refl _,rfl,he,rfl⟩
     . obtain ⟨x,k1,k2,k3⟩:=Hl.1 hj
       obtain ⟨q,hq⟩:=List.mem_iff_getElem?.1 k1
       exact ⟨q+1,x,Nat.zero_le _,by simpa using hq,k2,k3⟩
   . cases h
  |succ p=>
   have sJ:rs[p]?=some r:=by simpa using hp
   have lift:∀kP,Un E ms all kP rs=true->(∀j∈kP,j∈Zf\/(Zb s.o.op=true/\s.i=j))->
     ∃YD Iq,Oi E ms r.σ YD Iq all=true/\(∀j∈YD,j∈Zf\/∃(q:Nat) (x:Rec),q<p+1/\(s::rs)[q]?=some x/\Zb x.o.op=true/\x.i=j)/\(∀j∈Iq,∃(q:Nat) (x:Rec),p+1<=q/\(s::rs)[q]?=some x/\Zb x.o.op=true/\x.i=j):=fun kP h2 hp2=>by
    obtain ⟨a,b,k1,k2,k3⟩:=Hq h2 p r sJ he;refine ⟨a,b,k1,fun j hj=> ?_,fun j hj=> ?_⟩
    . rcases k2 j hj with k|⟨q,x,q1,q2,q3,q4⟩
      . rcases hp2 j k with k|⟨k,k'⟩
        . exact .inl k
        . exact .inr ⟨0,s,by omega,rfl,k,k'⟩
      . exact .inr ⟨q+1,x,by omega,by simpa using q2,q3,q4⟩
    . obtain ⟨q,x,q1,q2,q3,q4⟩:=k3 j hj;exact ⟨q+1,x,by omega,by simpa using q2,q3,q4⟩
   split at h
   . rename_i hs
     split at h
     . exact lift _ h fun j hj=>by
        rcases List.mem_cons.1 hj with rfl|hj
        . exact .inr ⟨hs,rfl⟩
        . exact .inl hj
     . cases h
   . exact lift _ h fun j hj=> .inl hj
theorem Ct{E:Env}{ms:List Nat}{r:Rec}{σ:AH}{Zf Be:List Nat}(h:gB E ms r σ Zf Be=true)(h1:∀j∈Zf,bit (Xb ms j) r.i=false)(h2:∀j∈Be,bit (Xb ms r.i) j=false):Cf E r.t σ r.o.op=some r.v:=by
 unfold gB at h;have e:Ra (qy (fun j=>Qh (bit (Xb ms j) r.i)) Zf) (qy (fun j=>Qh (bit (Xb ms r.i) j)) Be)=true:=by
  simp only [Aa,pq,Ae,Bool.and_eq_true,List.all_eq_true,Bool.not_eq_true'];exact ⟨h1,h2⟩
 rw [e]at h;simp only at h
 split at h
 . rename_i v hv;rw [hv,eP h]
 . cases h
structure GB(E:Env)(go:Task->Option Ki)(ops:List Oper)(rs:List Rec)(t:Tm)(σ:AH)(t':Tm)(σ':AH)(ms:List Nat):Prop where
 chain:Bt E go ops rs t σ t' σ'
 Qg:∀i o,ops[i]?=some o->∀j,bit (Xb ms i) j=true<->∃e∈o.after.toList,Region.binds .any e=true/\(j=e.on\/(e.on<i/\bit (Xb ms e.on) j=true))
 lP:∀(i j:Nat) (oi oj:Oper),ops[i]?=some oi->ops[j]?=some oj->i≠j->Yr ops ms i j oi oj
 ml:∀(p:Nat) (r:Rec),rs[p]?=some r->ops[r.i]?=some r.o
 all:∀i o,ops[i]?=some o->∃(p:Nat) (r:Rec),rs[p]?=some r/\r.i=i
 pre:∀(p:Nat) (r:Rec),rs[p]?=some r->∀j,bit (Xb ms r.i) j=true->∃(p':Nat) (r':Rec),p'<p/\rs[p']?=some r'/\r'.i=j
 once:∀(p q:Nat) (r s:Rec),rs[p]?=some r->rs[q]?=some s->r.i=s.i->p=q
 fresh:∀(p:Nat) (r:Rec),rs[p]?=some r->je r.o.op=true->∀(p':Nat) (r':Rec),p'<p->rs[p']?=some r'->Zb r'.o.op=true->bit (Xb ms r.i) r'.i=true
 next:∀r∈rs,r.σ.next<=r.σ'.next
 reads:∀p,p<=rs.length->(p=rs.length\/∃r:Rec,rs[p]?=some r/\Zb r.o.op=true)->∀(q:Nat) (s:Rec),rs[q]?=some s->fB s.o.op=true->s.w=true->
  (∀(p':Nat) (r':Rec),p'<p->rs[p']?=some r'->Zb r'.o.op=true->bit (Xb ms r'.i) s.i=false)->(∀(p':Nat) (r':Rec),p<=p'->rs[p']?=some r'->Zb r'.o.op=true->bit (Xb ms s.i) r'.i=false)->Cf E s.t (zk rs σ' p) s.o.op=some s.v
theorem ZU{E:Env}{go:Task->Option Ki}{ops:List Oper}{t t':Tm}{σ σ':AH}(h:iB E go ops t σ=some (t',σ')):∃rs ms,GB E go ops rs t σ t' σ' ms:=by
 unfold iB at h;simp only at h
 split at h
 . cases h
 . rename_i rs t1 σ1 hr
   split at h
   . rename_i hd;cases h;obtain ⟨ms,hms⟩:∃ms,ms=Qg ops []:=⟨_,rfl⟩;rw [<-hms]at hr hd;obtain ⟨m1,m2,m3⟩:=Qv ops [];rw [<-hms]at m1 m3;have j7:ms.length=ops.length:=by simpa using m1
     obtain ⟨k1,k2⟩:=Hp _ _ _ _ _ _ hr;unfold EO at hd;simp only [Aa,Bool.and_eq_true]at hd;obtain ⟨d1,d2,d3,d4,d5⟩:=hd;have ho:=mad d2;have ZD:∀(p:Nat) (r:Rec),rs[p]?=some r->(order (ke 0 ops ms))[p]?=some (r.i,r.o):=fun p r hp=>by
      rw [<-k2,List.getElem?_map,hp];rfl
     have rX:∀(p:Nat) (q:Nat×Oper),(order (ke 0 ops ms))[p]?=some q->∃r:Rec,rs[p]?=some r/\q=(r.i,r.o):=fun p q hp=>by
      rw [<-k2,List.getElem?_map]at hp;cases hr:rs[p]?with
      |none=>rw [hr]at hp;cases hp
      |some r=>rw [hr]at hp;cases hp;exact ⟨r,rfl,rfl⟩
     refine ⟨rs,ms,k1,fun i o hi j=>by have:=m3 i o hi j;simpa using this,fun i j oi oj hi hj bc=>fM d1 j7 hi hj bc,fun p r hp=> ?_,fun i o hi=> ?_,fun p r hp j hj=> ?_,fun p q r s hp hq he=> ?_,fun p r hp hf p' r' zb sJ Bu=> ?_,fun r hr=> ?_, ?_⟩
     . have:=List.mem_iff_getElem?.2 ⟨p,ZD p r hp⟩
       obtain ⟨m,hm⟩:=(Cz _ _).1 this
       exact (DB hm).1
     . have ag:(i,o,Xb ms i)∈ke 0 ops ms:=List.mem_iff_getElem?.2 ⟨i,by
        have mO:i<ops.length:=(List.getElem?_eq_some_iff.1 hi).1
        rw [xg,hi,ah,List.getElem?_eq_getElem (by omega:i<ms.length)];simp⟩
       obtain ⟨p,hp⟩:=List.mem_iff_getElem?.1 ((Cz _ (i,o)).2 ⟨_,ag⟩)
       obtain ⟨r,mP,Ay⟩:=rX p _ hp;cases Ay;exact ⟨p,r,mP,rfl⟩
     . obtain ⟨p',q',h1,h2,h3⟩:=ho.pre p _ (ZD p r hp) j hj;obtain ⟨r',mP,Ay⟩:=rX p' q' h2;exact ⟨p',r',h1,mP,by rw [Ay]at h3;exact h3⟩
     . rcases Nat.lt_trichotomy p q with h1|h1|h1
       . exact absurd he (ho.once p q _ _ h1 (ZD p r hp) (ZD q s hq))
       . exact h1
       . exact absurd he.symm (ho.once q p _ _ h1 (ZD q s hq) (ZD p r hp))
     . exact ho.fresh p _ (ZD p r hp) hf p' _ zb (ZD p' r' sJ) Bu
     . rw [pq]at d3;have:=List.all_eq_true.1 d3 r hr
       rw [yd]at this;exact of_decide_eq_true this
     . intro p Qr hp q s hs hrd hw h1 h2;rcases hp with rfl|⟨r,mP,Ay⟩
       . rw [uJ];refine Ct (Wh d5 s (List.mem_iff_getElem?.2 ⟨q,hs⟩) hrd hw) (fun j hj=> ?_) (fun j hj=>by cases hj);obtain ⟨x,q1,q2,q3⟩:=Hl.1 hj
         obtain ⟨p',sJ⟩:=List.mem_iff_getElem?.1 q1
         rw [<-q3];exact h1 p' x (List.getElem?_eq_some_iff.1 sJ).1 sJ q2
       . rw [si mP];obtain ⟨Zf,Be,q1,q2,q3⟩:=Hq d4 p r mP Ay;refine Ct (Wh q1 s (List.mem_iff_getElem?.2 ⟨q,hs⟩) hrd hw) (fun j hj=> ?_) (fun j hj=> ?_)
         . rcases q2 j hj with q2|⟨p',x,z1,z2,z3,z4⟩
           . cases q2
           . rw [<-z4];exact h1 p' x z1 z2 z3
         . obtain ⟨p',x,z1,z2,z3,z4⟩:=q3 j hj;rw [<-z4];exact h2 p' x z1 z2 z3
   . cases h
end Sk
end Go.Proofs.YtfnkmolffhfpoaaGreat
