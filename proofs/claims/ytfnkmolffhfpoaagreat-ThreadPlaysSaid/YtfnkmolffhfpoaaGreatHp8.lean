/- -/
import Derived.Test.YtfnkmolffhfpoaaGreatHp7
import Derived.OrdersIn
import Derived.RangeFuncRecord
import Derived.LoopNIn
import Derived.ControlIn
set_option linter.unusedVariables false
set_option linter.unusedSimpArgs false
set_option linter.unusedSectionVars false
namespace Go.Proofs.YtfnkmolffhfpoaaGreat
namespace Sk
open Go.RowKit
variable[Interp]
theorem Ki{E:Env}{ms:List Nat}{σ:AH}{Jg Qe:List Nat}:∀{rs:List Rec},qj E ms σ Jg Qe rs=true->∀r∈rs,gC r.o.op=true->r.w=true->iC E ms r σ Jg Qe=true
 |[],_,r,hr,_,_=>by cases hr
 |s::rs,h,r,hr,h1,h2=>by
  simp only [qj,Da]at h;rcases List.mem_cons.1 hr with rfl|hr
  . rw [h1,h2]at h;simp only [Bool.and_self]at h
    split at h
    . assumption
    . cases h
  . split at h
    . split at h
      . exact Ki h r hr h1 h2
      . cases h
    . exact Ki h r hr h1 h2
theorem Jl:∀{rs:List Rec} {j:Nat},j∈Gp rs<->∃r∈rs,Cc r.o.op=true/\r.i=j
 |[],j=>by simp [Gp]
 |r::rs,j=>by
  simp only [Gp]
  split
  . rename_i h;rw [List.mem_cons,Jl];constructor
    . rintro (h1|⟨s,h1,h2⟩)
      . exact ⟨r,by simp,h,h1.symm⟩
      . exact ⟨s,by simp [h1],h2⟩
    . rintro ⟨s,h1,h2,h3⟩;rcases List.mem_cons.1 h1 with rfl|h1
      . exact .inl h3.symm
      . exact .inr ⟨s,h1,h2,h3⟩
  . rename_i h;rw [Jl];constructor
    . rintro ⟨s,h1,h2⟩;exact ⟨s,by simp [h1],h2⟩
    . rintro ⟨s,h1,h2,h3⟩;rcases List.mem_cons.1 h1 with rfl|h1
      . rw [h2]at h;cases h
      . exact ⟨s,h1,h2,h3⟩
theorem Nq{E:Env}{ms:List Nat}{all:List Rec}:∀{rs:List Rec} {Jg:List Nat},ko E ms all Jg rs=true->∀(p:Nat) (r:Rec),rs[p]?=some r->Cc r.o.op=true->
  ∃sF Oq,qj E ms r.σ sF Oq all=true/\(∀j∈sF,j∈Jg\/∃(q:Nat) (s:Rec),q<p/\rs[q]?=some s/\Cc s.o.op=true/\s.i=j)/\(∀j∈Oq,∃(q:Nat) (s:Rec),p<=q/\rs[q]?=some s/\Cc s.o.op=true/\s.i=j)
 |[],Jg,_,p,r,hp,_=>by simp at hp
 |s::rs,Jg,h,p,r,hp,he=>by
  simp only [ko]at h;cases p with
  |zero=>
   simp at hp;subst hp;rw [he]at h;simp only at h
   split at h
   . rename_i h1;refine ⟨Jg,_,h1,fun j hj=> .inl hj,fun j hj=> ?_⟩;rcases List.mem_cons.1 hj with rfl|hj
     . exact ⟨0,s,Nat.le_refl _,rfl,he,rfl⟩
     . obtain ⟨x,k1,k2,k3⟩:=Jl.1 hj
       obtain ⟨q,hq⟩:=List.mem_iff_getElem?.1 k1
       exact ⟨q+1,x,Nat.zero_le _,by simpa using hq,k2,k3⟩
   . cases h
  |succ p=>
   have UK:rs[p]?=some r:=by simpa using hp
   have lift:∀SR,ko E ms all SR rs=true->(∀j∈SR,j∈Jg\/(Cc s.o.op=true/\s.i=j))->
     ∃sF Oq,qj E ms r.σ sF Oq all=true/\(∀j∈sF,j∈Jg\/∃(q:Nat) (x:Rec),q<p+1/\(s::rs)[q]?=some x/\Cc x.o.op=true/\x.i=j)/\(∀j∈Oq,∃(q:Nat) (x:Rec),p+1<=q/\(s::rs)[q]?=some x/\Cc x.o.op=true/\x.i=j):=fun SR h2 SQ=>by
    obtain ⟨a,b,k1,k2,k3⟩:=Nq h2 p r UK he;refine ⟨a,b,k1,fun j hj=> ?_,fun j hj=> ?_⟩
    . rcases k2 j hj with k|⟨q,x,q1,q2,q3,q4⟩
      . rcases SQ j k with k|⟨k,k'⟩
        . exact .inl k
        . exact .inr ⟨0,s,by omega,rfl,k,k'⟩
      . exact .inr ⟨q+1,x,by omega,by simpa using q2,q3,q4⟩
    . obtain ⟨q,x,q1,q2,q3,q4⟩:=k3 j hj;exact ⟨q+1,x,by omega,by simpa using q2,q3,q4⟩
   split at h
   . rename_i hs
     split at h
     . exact lift _ h fun j hj=>by
        rcases List.mem_cons.1 hj with rfl|hj
        . exact .inr ⟨hs,rfl⟩
        . exact .inl hj
     . cases h
   . exact lift _ h fun j hj=> .inl hj
theorem Xt{E:Env}{ms:List Nat}{r:Rec}{σ:AH}{Jg Qe:List Nat}(h:iC E ms r σ Jg Qe=true)(h1:∀j∈Jg,bit (Bc ms j) r.i=false)(h2:∀j∈Qe,bit (Bc ms r.i) j=false):Pf E r.t σ r.o.op=some r.v:=by
 unfold iC at h;have e:La (Kz (fun j=>Wg (bit (Bc ms j) r.i)) Jg) (Kz (fun j=>Wg (bit (Bc ms r.i) j)) Qe)=true:=by
  simp only [Da,yq,Cd,Bool.and_eq_true,List.all_eq_true,Bool.not_eq_true'];exact ⟨h1,h2⟩
 rw [e]at h;simp only at h
 split at h
 . rename_i v hv;rw [hv,OR h]
 . cases h
structure MC(E:Env)(go:Task->Option lj)(ops:List Oper)(rs:List Rec)(t:Tm)(σ:AH)(t':Tm)(σ':AH)(ms:List Nat):Prop where
 chain:Wt E go ops rs t σ t' σ'
 zh:∀i o,ops[i]?=some o->∀j,bit (Bc ms i) j=true<->∃e∈o.after.toList,Region.binds .any e=true/\(j=e.on\/(e.on<i/\bit (Bc ms e.on) j=true))
 UR:∀(i j:Nat) (oi oj:Oper),ops[i]?=some oi->ops[j]?=some oj->i≠j->Hs ops ms i j oi oj
 vl:∀(p:Nat) (r:Rec),rs[p]?=some r->ops[r.i]?=some r.o
 all:∀i o,ops[i]?=some o->∃(p:Nat) (r:Rec),rs[p]?=some r/\r.i=i
 pre:∀(p:Nat) (r:Rec),rs[p]?=some r->∀j,bit (Bc ms r.i) j=true->∃(p':Nat) (r':Rec),p'<p/\rs[p']?=some r'/\r'.i=j
 once:∀(p q:Nat) (r s:Rec),rs[p]?=some r->rs[q]?=some s->r.i=s.i->p=q
 fresh:∀(p:Nat) (r:Rec),rs[p]?=some r->De r.o.op=true->∀(p':Nat) (r':Rec),p'<p->rs[p']?=some r'->Cc r'.o.op=true->bit (Bc ms r.i) r'.i=true
 next:∀r∈rs,r.σ.next<=r.σ'.next
 reads:∀p,p<=rs.length->(p=rs.length\/∃r:Rec,rs[p]?=some r/\Cc r.o.op=true)->∀(q:Nat) (s:Rec),rs[q]?=some s->gC s.o.op=true->s.w=true->
  (∀(p':Nat) (r':Rec),p'<p->rs[p']?=some r'->Cc r'.o.op=true->bit (Bc ms r'.i) s.i=false)->(∀(p':Nat) (r':Rec),p<=p'->rs[p']?=some r'->Cc r'.o.op=true->bit (Bc ms s.i) r'.i=false)->Pf E s.t (Xj rs σ' p) s.o.op=some s.v
theorem LY{E:Env}{go:Task->Option lj}{ops:List Oper}{t t':Tm}{σ σ':AH}(h:jC E go ops t σ=some (t',σ')):∃rs ms,MC E go ops rs t σ t' σ' ms:=by
 unfold jC at h;simp only at h
 split at h
 . cases h
 . rename_i rs t1 σ1 hr
   split at h
   . rename_i hd;cases h;obtain ⟨ms,hms⟩:∃ms,ms=zh ops []:=⟨_,rfl⟩;rw [<-hms]at hr hd;obtain ⟨m1,m2,m3⟩:=Cw ops [];rw [<-hms]at m1 m3;have hml:ms.length=ops.length:=by simpa using m1
     obtain ⟨k1,k2⟩:=Np _ _ _ _ _ _ hr;unfold nR at hd;simp only [Da,Bool.and_eq_true]at hd;obtain ⟨d1,d2,d3,d4,d5⟩:=hd;have ho:=gak d2;have tF:∀(p:Nat) (r:Rec),rs[p]?=some r->(order (Ee 0 ops ms))[p]?=some (r.i,r.o):=fun p r hp=>by
      rw [<-k2,List.getElem?_map,hp];rfl
     have X3:∀(p:Nat) (q:Nat×Oper),(order (Ee 0 ops ms))[p]?=some q->∃r:Rec,rs[p]?=some r/\q=(r.i,r.o):=fun p q hp=>by
      rw [<-k2,List.getElem?_map]at hp;cases hr:rs[p]?with
      |none=>rw [hr]at hp;cases hp
      |some r=>rw [hr]at hp;cases hp;exact ⟨r,rfl,rfl⟩
     refine ⟨rs,ms,k1,fun i o hi j=>by have:=m3 i o hi j;simpa using this,fun i j oi oj hi hj Jc=>sO d1 hml hi hj Jc,fun p r hp=> ?_,fun i o hi=> ?_,fun p r hp j hj=> ?_,fun p q r s hp hq he=> ?_,fun p r hp hf p' r' Db UK Zu=> ?_,fun r hr=> ?_, ?_⟩
     . have:=List.mem_iff_getElem?.2 ⟨p,tF p r hp⟩
       obtain ⟨m,hm⟩:=(OA _ _).1 this
       exact (JC hm).1
     . have Bg:(i,o,Bc ms i)∈Ee 0 ops ms:=List.mem_iff_getElem?.2 ⟨i,by
        have QQ:i<ops.length:=(List.getElem?_eq_some_iff.1 hi).1
        rw [Yg,hi,Fh,List.getElem?_eq_getElem (by omega:i<ms.length)];simp⟩
       obtain ⟨p,hp⟩:=List.mem_iff_getElem?.1 ((OA _ (i,o)).2 ⟨_,Bg⟩)
       obtain ⟨r,MY,EC⟩:=X3 p _ hp;cases EC;exact ⟨p,r,MY,rfl⟩
     . obtain ⟨p',q',h1,h2,h3⟩:=ho.pre p _ (tF p r hp) j hj;obtain ⟨r',MY,EC⟩:=X3 p' q' h2;exact ⟨p',r',h1,MY,by rw [EC]at h3;exact h3⟩
     . rcases Nat.lt_trichotomy p q with h1|h1|h1
       . exact absurd he (ho.once p q _ _ h1 (tF p r hp) (tF q s hq))
       . exact h1
       . exact absurd he.symm (ho.once q p _ _ h1 (tF q s hq) (tF p r hp))
     . exact ho.fresh p _ (tF p r hp) hf p' _ Db (tF p' r' UK) Zu
     . rw [yq]at d3;have:=List.all_eq_true.1 d3 r hr
       rw [xd]at this;exact of_decide_eq_true this
     . intro p Gz hp q s hs hrd hw h1 h2;rcases hp with rfl|⟨r,MY,EC⟩
       . rw [WK];refine Xt (Ki d5 s (List.mem_iff_getElem?.2 ⟨q,hs⟩) hrd hw) (fun j hj=> ?_) (fun j hj=>by cases hj);obtain ⟨x,q1,q2,q3⟩:=Jl.1 hj
         obtain ⟨p',UK⟩:=List.mem_iff_getElem?.1 q1
         rw [<-q3];exact h1 p' x (List.getElem?_eq_some_iff.1 UK).1 UK q2
       . rw [Si MY];obtain ⟨Jg,Qe,q1,q2,q3⟩:=Nq d4 p r MY EC;refine Xt (Ki q1 s (List.mem_iff_getElem?.2 ⟨q,hs⟩) hrd hw) (fun j hj=> ?_) (fun j hj=> ?_)
         . rcases q2 j hj with q2|⟨p',x,z1,z2,z3,z4⟩
           . cases q2
           . rw [<-z4];exact h1 p' x z1 z2 z3
         . obtain ⟨p',x,z1,z2,z3,z4⟩:=q3 j hj;rw [<-z4];exact h2 p' x z1 z2 z3
   . cases h
end Sk
end Go.Proofs.YtfnkmolffhfpoaaGreat
namespace Go.Proofs.YtfnkmolffhfpoaaGreat
namespace Sk
open Go.RowKit
variable[Interp]
section
variable{E:Env}(hE:Yb E){go:Task->Option lj}(hG:lF E go){ops:Array Oper}{rs:List Rec}{t t':Tm}{σ σ':AH}{ms:List Nat}(hD:MC E go ops.toList rs t σ t' σ' ms)
def Ro(ja:Array Bool)(i:Nat):Prop:=ja.getD i false=true
def NC(ops:Array Oper)(ja:Array Bool):Prop:=∀i o,ops[i]?=some o->Ro ja i->∀e∈o.after.toList,Region.binds .any e=true->Ro ja e.on
include hD
theorem cn{ja:Array Bool}(hc:NC ops ja):∀(i:Nat) (o:Oper),ops[i]?=some o->Ro ja i->∀j,bit (Bc ms i) j=true->Ro ja j:=by
 intro i
 induction i using Nat.strongRecOn with
 |_ i ih=>
  intro o ho hi j hj;obtain ⟨e,h1,h2,h3⟩:=(hD.zh i o (by simpa using ho) j).1 hj
  have hl:=hc i o ho hi e h1 h2;rcases h3 with rfl|⟨h3,h4⟩
  . exact hl
  . have hio:i<ops.size:=(Array.getElem?_eq_some_iff.1 ho).1
    exact ih e.on h3 _ (Array.getElem?_eq_getElem (by omega)) hl j h4
theorem Kl{ja:Array Bool}(hc:NC ops ja){i:Nat}{o:Oper}(ho:ops[i]?=some o)(hr:∀e∈o.after,Region.binds .any e=true->Ro ja e.on){j:Nat}(hj:bit (Bc ms i) j=true):Ro ja j:=by
 obtain ⟨e,h1,h2,h3⟩:=(hD.zh i o (by simpa using ho) j).1 hj
 have hl:=hr e (by simpa using h1) h2;rcases h3 with rfl|⟨h3,h4⟩
 . exact hl
 . have hio:i<ops.size:=(Array.getElem?_eq_some_iff.1 ho).1
   exact cn hD hc e.on _ (Array.getElem?_eq_getElem (by omega)) hl j h4
theorem Hw:V3 rs:=fun p q r s d hp hq h1 h2=>by
 by_cases he:r.i=s.i
 . exact hD.once p q r s hp hq he
 . exact absurd h2 ((hD.UR r.i s.i r.o s.o (hD.vl p r hp) (hD.vl q s hq) he).dst d h1)
theorem before{p q:Nat}{r s:Rec}(hp:rs[p]?=some r)(hq:rs[q]?=some s)(h:bit (Bc ms r.i) s.i=true):q<p:=by
 obtain ⟨q',s',h1,h2,h3⟩:=hD.pre p r hp s.i h;have:=hD.once q' q s' s h2 hq h3;omega
def NY(rs:List Rec)(t:Tm)(ja:Array Bool)(tS:Tm):Prop:=
 tS.n=t.n/\∀x,(∀(q:Nat) (r:Rec),rs[q]?=some r->r.o.dst=some x->Ro ja r.i->nth tS x=r.v)/\((∀(q:Nat) (r:Rec),rs[q]?=some r->r.o.dst=some x->¬Ro ja r.i)->nth tS x=nth t x)
theorem uO{ja:Array Bool}(hc:NC ops ja){tS:Tm}(hT:NY rs t ja tS){q:Nat}{r:Rec}(hq:rs[q]?=some r)(tg:¬Ro ja r.i)(hr:∀e∈r.o.after,Region.binds .any e=true->Ro ja e.on){d:Tmp}(hd:looks ops.toList r.o d=true):nth tS d=nth r.t d:=by
 have Bo:=hD.vl q r hq;have hql:q<rs.length:=(List.getElem?_eq_some_iff.1 hq).1
 have av:=(KC hD.chain (Hw hD) q (by omega)).2.2 d
 rw [Fw hq]at av;have SaF:ops[r.i]?=some r.o:=by simpa using Bo
 by_cases hw:∃(q':Nat) (s:Rec),rs[q']?=some s/\s.o.dst=some d
 . obtain ⟨q',s,hs,hsd⟩:=hw;have uniq:∀(z:Nat) (y:Rec),rs[z]?=some y->y.o.dst=some d->z=q':=fun z y hz hy=>Hw hD z q' y s d hz hs hy hsd
   have later:¬q'<q->nth r.t d=nth t d:=fun Db=>av.2 fun z y hzq hz hy=>by
    have:=uniq z y hz hy;omega
   have unl:¬Ro ja s.i->nth tS d=nth t d:=fun hn=>(hT.2 d).2 fun z y hz hy=>by
    have:=uniq z y hz hy;subst this;rw [hs]at hz;cases hz;exact hn
   by_cases hqq:q'=q
   . subst hqq;rw [hq]at hs;cases hs;rw [unl tg,later (Nat.lt_irrefl _)]
   . have Jc:r.i≠s.i:=fun e=>hqq (hD.once q q' r s hq hs e).symm
     have TaF:ops[s.i]?=some s.o:=by simpa using hD.vl q' s hs
     rcases (hD.UR r.i s.i r.o s.o Bo (hD.vl q' s hs) Jc).ord with h|h|⟨_,_,h⟩
     . have hl:=Kl hD hc SaF hr h;rw [(hT.2 d).1 q' s hs hsd hl,av.1 q' s (before hD hq hs h) hs hsd]
     . have hb:=before hD hs hq h;rw [unl fun hl=>tg (cn hD hc s.i s.o TaF hl r.i h),later (by omega)]
     . rw [h d hsd]at hd;cases hd
 . rw [(hT.2 d).2 fun z y hz hy=>absurd ⟨z,y,hz,hy⟩ hw,av.2 fun z y _ hz hy=>absurd ⟨z,y,hz,hy⟩ hw]
omit hD in
theorem yj{ja:Array Bool}{i:Nat}(hi:i<ja.size)(j:Nat):Ro (ja.setIfInBounds i true) j<->j=i\/Ro ja j:=by
 unfold Ro;by_cases h:i=j
 . subst h;simp [hi]
 . rw [getD_set_ne false h];constructor
   . intro k;exact .inr k
   . rintro (k|k)
     . exact absurd k.symm h
     . exact k
theorem vO{ja:Array Bool}{tS:Tm}(hT:NY rs t ja tS){q:Nat}{r:Rec}(hq:rs[q]?=some r)(hi:r.i<ja.size)(tg:¬Ro ja r.i):NY rs t (ja.setIfInBounds r.i true) (Lp tS r.o.dst r.v):=by
 refine ⟨?_,fun x=>⟨fun z y hz hy hl=> ?_,fun hn=> ?_⟩⟩
 . unfold Lp;split<;>exact hT.1
 . rcases (yj hi _).1 hl with h|h
   . have:=hD.once z q y r hz hq h;subst this;rw [hq]at hz;cases hz;unfold Lp;rw [hy];simp only [Ao,if_true]
   . have Jc:∀d,r.o.dst=some d->x≠d:=fun d hd e=>by
      subst e;have:=Hw hD z q y r x hz hq hy hd;subst this;rw [hq]at hz;cases hz;exact tg h
     unfold Lp
     split
     . rename_i d hd;rw [Ao,if_neg (Jc d hd)];exact (hT.2 x).1 z y hz hy h
     . exact (hT.2 x).1 z y hz hy h
 . have Jc:∀d,r.o.dst=some d->x≠d:=fun d hd e=>by
    subst e;exact hn q r hq hd ((yj hi _).2 (.inl rfl))
   have h0:=(hT.2 x).2 fun z y hz hy hl=>hn z y hz hy ((yj hi _).2 (.inr hl))
   unfold Lp
   split
   . rename_i d hd;rw [Ao,if_neg (Jc d hd)];exact h0
   . exact h0
end
structure Mid(E:Env)(ops:Array Oper)(rs:List Rec)(t:Tm)(σ':AH)(B:Nat->Prop)(w0:World)(R0:Mp)(σ:AH)(ds:List Deferred)(ja:Array Bool)(R:Mp)(tS:Tm)(p:Nat)(a:Act)(w:World):Prop where
 size:ja.size=ops.size
 closed:NC ops ja
 le:p<=rs.length
 Jg:∀(q:Nat) (r:Rec),rs[q]?=some r->q<p->Cc r.o.op=true->Ro ja r.i
 Qe:∀(q:Nat) (r:Rec),rs[q]?=some r->p<=q->(Cc r.o.op=true\/De r.o.op=true)->¬Ro ja r.i
 tr:TR R tS a.tmps
 defers:a.defers=ds
 tmps:NY rs t ja tS
 ext:Ext R0 σ R (Xj rs σ' p)
 Yj:Qc B w0 R (Xj rs σ' p) w
 ghost:∀(q:Nat) (r:Rec) (x:Na) (f:Nat->Value),rs[q]?=some r->q<p->¬Ro ja r.i->r.w=true->De r.o.op=true->Ad E r.t r.o.op=some (x,f)->R r.σ.next=none/\r.σ.next<(Xj rs σ' p).next/\(Xj rs σ' p).get r.σ.next=some x
section
variable{E:Env}(hE:Yb E){go:Task->Option lj}(hG:lF E go){ops:Array Oper}{rs:List Rec}{t t':Tm}{σ σ':AH}{ms:List Nat}(hD:MC E go ops.toList rs t σ t' σ' ms){B:Nat->Prop}{w0:World}{R0:Mp}{ds:List Deferred}
include hD
theorem advance:∀(d:Nat) (ja:Array Bool) (R:Mp) (tS:Tm) (p:Nat) (a:Act) (w:World),rs.length -p=d->Mid E ops rs t σ' B w0 R0 σ ds ja R tS p a w->
  ∃p',(p'=rs.length\/∃r,rs[p']?=some r/\Cc r.o.op=true)/\Mid E ops rs t σ' B w0 R0 σ ds ja R tS p' a w
 |0,ja,R,tS,p,a,w,hd,h=>⟨p, .inl (by have:=h.le;omega),h⟩
 |d+1,ja,R,tS,p,a,w,hd,h=>by
  have hp:p<rs.length:=by omega
  have hr:rs[p]?=some (rs[p]'hp):=List.getElem?_eq_getElem hp
  generalize rs[p]'hp=r at hr;cases he:Cc r.o.op with
  |true=>exact ⟨p, .inr ⟨r,hr,he⟩,h⟩
  |false=>
   obtain ⟨k1,k2,k3⟩:=(Zg hD.chain).2 p r hr
   have av:Xj rs σ' p=r.σ:=Si hr;have mk:Ext R0 σ R (Xj rs σ' (p+1))->Qc B w0 R (Xj rs σ' (p+1)) w->
     (∀(q:Nat) (r:Rec) (x:Na) (f:Nat->Value),rs[q]?=some r->q<p+1->¬Ro ja r.i->r.w=true->De r.o.op=true->Ad E r.t r.o.op=some (x,f)->R r.σ.next=none/\r.σ.next<(Xj rs σ' (p+1)).next/\(Xj rs σ' (p+1)).get r.σ.next=some x)->
     Mid E ops rs t σ' B w0 R0 σ ds ja R tS (p+1) a w:=fun e1 e2 e3=>
    ⟨h.size,h.closed,hp,fun q s hs hq Zu=>(by
       rcases Nat.lt_succ_iff_lt_or_eq.1 hq with hq|hq
       . exact h.Jg q s hs hq Zu
       . subst hq;rw [hr]at hs;cases hs;rw [he]at Zu;cases Zu),
      fun q s hs hq Zu=>h.Qe q s hs (by omega) Zu,h.tr,h.defers,h.tmps,e1,e2,e3⟩
   refine advance d ja R tS (p+1) a w (by omega) ?_
   rcases Gw k1 he with⟨c1,c2⟩|⟨c1,c2,c3⟩|⟨x,f,c1,c2,c3,c4,c5⟩
   . have e:Xj rs σ' (p+1)=Xj rs σ' p:=by rw [k3,c2,av]
     refine mk (by rw [e];exact h.ext) (by rw [e];exact h.Yj) fun q s x f hs hq hl hw hf hx=> ?_
     rw [e];rcases Nat.lt_succ_iff_lt_or_eq.1 hq with hq|hq
     . exact h.ghost q s x f hs hq hl hw hf hx
     . subst hq;rw [hr]at hs;cases hs;rw [c1]at hw;cases hw
   . have e:Xj rs σ' (p+1)=Xj rs σ' p:=by rw [k3,c3,av]
     refine mk (by rw [e];exact h.ext) (by rw [e];exact h.Yj) fun q s x f hs hq hl hw hf hx=> ?_
     rw [e];rcases Nat.lt_succ_iff_lt_or_eq.1 hq with hq|hq
     . exact h.ghost q s x f hs hq hl hw hf hx
     . subst hq;rw [hr]at hs;cases hs;rw [c2]at hf;cases hf
   . have e:Xj rs σ' (p+1)=(Xj rs σ' p).new x:=by rw [k3,c5,av]
     refine mk ?_ (by rw [e];exact h.Yj.ghost x) fun q s y g hs hq hl hw hf hx=> ?_
     . rw [e];refine h.ext.trans ⟨R.le_refl,Nat.le_succ _,fun b hb hn=>⟨by rw [Zc,if_neg (by omega)],hn⟩⟩
     . rw [e,Qt,Zc];rcases Nat.lt_succ_iff_lt_or_eq.1 hq with hq|hq
       . obtain ⟨g1,g2,g3⟩:=h.ghost q s y g hs hq hl hw hf hx;refine ⟨g1,by omega, ?_⟩;rw [if_neg (by omega)];exact g3
       . subst hq;rw [hr]at hs;cases hs;rw [c3]at hx;cases hx;rw [av];exact ⟨by rw [<-av];exact h.Yj.yo (Nat.le_refl _),Nat.lt_succ_self _,if_pos rfl⟩
theorem place{i:Nat}{o:Oper}(ho:ops[i]?=some o):∃(q:Nat) (r:Rec),rs[q]?=some r/\r.i=i/\r.o=o:=by
 obtain ⟨q,r,h1,h2⟩:=hD.all i o (by simpa using ho);have:=hD.vl q r h1;rw [h2]at this;have wO:ops.toList[i]?=some o:=by simpa using ho
 rw [wO]at this;cases this;exact ⟨q,r,h1,h2,rfl⟩
theorem BI{ja:Array Bool}{R:Mp}{tS:Tm}{p:Nat}{a:Act}{w:World}(h:Mid E ops rs t σ' B w0 R0 σ ds ja R tS p a w)(hr:Region.ready .any ops ja=[]):∀(q:Nat) (r:Rec),rs[q]?=some r->Ro ja r.i:=by
 intro q
 induction q using Nat.strongRecOn with
 |_ q ih=>
  intro r hq;have ho:ops[r.i]?=some r.o:=by simpa using hD.vl q r hq
  have Db:r.i<ops.size:=(Array.getElem?_eq_some_iff.1 ho).1
  cases hl:ja.getD r.i false with
  |true=>exact hl
  |false=>
   have:r.i∈Region.ready .any ops ja:=by
    rw [mem_ready];refine ⟨?_,r.o,ho,fun e he hb=> ?_⟩
    . have hs:=h.size;rw [Array.getD_eq_getD_getElem?,Array.getElem?_eq_getElem (by omega)]at hl⊢
      simpa using hl
    . have hm:=(hD.zh r.i r.o (by simpa using ho) e.on).2 ⟨e,by simpa using he,hb, .inl rfl⟩
      obtain ⟨q',s,k1,k2,k3⟩:=hD.pre q r hq e.on hm;rw [<-k3];exact ih q' k1 s k2
   rw [hr]at this;cases this
theorem Mid.done{ja:Array Bool}{R:Mp}{tS:Tm}{p:Nat}{a:Act}{w:World}(h:Mid E ops rs t σ' B w0 R0 σ ds ja R tS p a w)(hp:p=rs.length\/∃r,rs[p]?=some r/\Cc r.o.op=true)(hl:∀(q:Nat) (r:Rec),rs[q]?=some r->Ro ja r.i)(ht:t.d=some undef):
  Ext R0 σ R σ'/\TR R t' a.tmps/\Qc B w0 R σ' w:=by
 have hpe:p=rs.length:=by
  rcases hp with hp|⟨r,h1,h2⟩
  . exact hp
  . exact absurd (hl p r h1) (h.Qe p r h1 (Nat.le_refl _) (.inl h2))
 subst hpe;have hx:=h.ext;have hs:=h.Yj;rw [WK]at hx hs;obtain ⟨n1,n2,n3⟩:=KC hD.chain (Hw hD) rs.length (Nat.le_refl _);rw [JY]at n1 n2 n3;refine ⟨hx,⟨n2.trans ht,by rw [h.tr.n,h.tmps.1,n1],fun i v hv=> ?_⟩,hs⟩;have hn:nth t' i=v:=by unfold Sk.nth;rw [hv]
 have:nth tS i=v:=by
  rw [<-hn];by_cases hw:∃(q':Nat) (s:Rec),rs[q']?=some s/\s.o.dst=some i
  . obtain ⟨q',s,k1,k2⟩:=hw;rw [(h.tmps.2 i).1 q' s k1 k2 (hl q' s k1),(n3 i).1 q' s (List.getElem?_eq_some_iff.1 k1).1 k1 k2]
  . rw [(h.tmps.2 i).2 fun z y hz hy=>absurd ⟨z,y,hz,hy⟩ hw,(n3 i).2 fun z y _ hz hy=>absurd ⟨z,y,hz,hy⟩ hw]
 rw [<-this];exact h.tr.nth i
end
end Sk
end Go.Proofs.YtfnkmolffhfpoaaGreat
namespace Go.Proofs.YtfnkmolffhfpoaaGreat
namespace Sk
open Go.RowKit
variable[Interp]
section
variable{E:Env}(hE:Yb E){go:Task->Option lj}(hG:lF E go){ops:Array Oper}{rs:List Rec}{t t':Tm}{σ σ':AH}{ms:List Nat}(hD:MC E go ops.toList rs t σ t' σ' ms){B:Nat->Prop}{w0:World}{R0:Mp}{ds:List Deferred}
variable{ja:Array Bool}{R:Mp}{tS:Tm}{p:Nat}{a:Act}{w:World}
include hD
theorem WR(h:Mid E ops rs t σ' B w0 R0 σ ds ja R tS p a w)(hp:p=rs.length\/∃r,rs[p]?=some r/\Cc r.o.op=true){q:Nat}{r:Rec}(hq:rs[q]?=some r)(tg:¬Ro ja r.i)(hr:∀e∈r.o.after,Region.binds .any e=true->Ro ja e.on)(he:Cc r.o.op=true):q=p:=by
 have hql:q<rs.length:=(List.getElem?_eq_some_iff.1 hq).1
 have hge:p<=q:=by
  rcases Nat.lt_or_ge q p with Db|hge
  . exact absurd (h.Jg q r hq Db he) tg
  . exact hge
 rcases hp with rfl|⟨s,hs,Y3⟩
 . omega
 . by_cases RR:q=p
   . exact RR
   . have Jc:r.i≠s.i:=fun e=>RR (hD.once q p r s hq hs e)
     have ho:ops[r.i]?=some r.o:=by simpa using hD.vl q r hq
     rcases (hD.UR r.i s.i r.o s.o (hD.vl q r hq) (hD.vl p s hs) Jc).ord with k|k|⟨k,_,_⟩
     . exact absurd (Kl hD h.closed ho hr k) (h.Qe p s hs (Nat.le_refl _) (.inl Y3))
     . have:=before hD hs hq k;omega
     . exact absurd ⟨he,Y3⟩ k
theorem uF(h:Mid E ops rs t σ' B w0 R0 σ ds ja R tS p a w)(hp:p=rs.length\/∃r,rs[p]?=some r/\Cc r.o.op=true){q:Nat}{r:Rec}(hq:rs[q]?=some r)(hr:∀e∈r.o.after,Region.binds .any e=true->Ro ja e.on)(hf:De r.o.op=true):q<p:=by
 have hql:q<rs.length:=(List.getElem?_eq_some_iff.1 hq).1
 rcases hp with rfl|⟨s,hs,Y3⟩
 . exact hql
 . rcases Nat.lt_trichotomy q p with k|k|k
   . exact k
   . subst k;rw [hq]at hs;cases hs;unfold De at hf;unfold Cc at Y3;generalize cls r.o.op=c at hf Y3;cases c<;>simp at hf Y3
   . have ho:ops[r.i]?=some r.o:=by simpa using hD.vl q r hq
     have:=hD.fresh q r hq hf p s k hs Y3;exact absurd (Kl hD h.closed ho hr this) (h.Qe p s hs (Nat.le_refl _) (.inl Y3))
theorem Mid.step(h:Mid E ops rs t σ' B w0 R0 σ ds ja R tS p a w)(hp:p=rs.length\/∃r,rs[p]?=some r/\Cc r.o.op=true){q:Nat}{r:Rec}(hq:rs[q]?=some r)(tg:¬Ro ja r.i)(hr:∀e∈r.o.after,Region.binds .any e=true->Ro ja e.on)
  {R':Mp}{v':Value}{w':World}{p':Nat}(hle:R.le R')(hv:VR R' r.v v')(hpp:(p'=p/\Cc r.o.op=false)\/(p'=p+1/\q=p))(e1:Ext R0 σ R' (Xj rs σ' p'))(e2:Qc B w0 R' (Xj rs σ' p') w')
  (e3:∀(q2:Nat) (s:Rec) (x:Na) (f:Nat->Value),q2≠q->rs[q2]?=some s->q2<p->R s.σ.next=none->s.σ.next<(Xj rs σ' p).next->(Xj rs σ' p).get s.σ.next=some x->s.w=true->De s.o.op=true->Ad E s.t s.o.op=some (x,f)->R' s.σ.next=none/\s.σ.next<(Xj rs σ' p').next/\(Xj rs σ' p').get s.σ.next=some x):
  Mid E ops rs t σ' B w0 R0 σ ds (ja.setIfInBounds r.i true) R' (Lp tS r.o.dst r.v) p' (a.put r.o.dst v') w':=by
 have ho:ops[r.i]?=some r.o:=by simpa using hD.vl q r hq
 have Db:r.i<ops.size:=(Array.getElem?_eq_some_iff.1 ho).1
 have QQ:r.i<ja.size:=by rw [h.size];exact Db
 have hql:q<rs.length:=(List.getElem?_eq_some_iff.1 hq).1
 obtain ⟨k1,_,_⟩:=(Zg hD.chain).2 q r hq
 have hn:=(KC hD.chain (Hw hD) q (by omega)).1
 rw [Fw hq]at hn;have hge:p<=p':=by omega
 refine ⟨by rw [Array.size_setIfInBounds];exact h.size,fun i o hi hl e he hb=> ?_, ?_,fun z s hs hz Zu=> ?_,fun z s hs hz Zu=> ?_, ?_, ?_,vO hD h.tmps hq QQ tg,e1,e2,fun z s x f hs hz hl hw hf hx=> ?_⟩
 . rw [yj QQ]at hl⊢;rcases hl with rfl|hl
   . rw [ho]at hi;cases hi;exact .inr (hr e (by simpa using he) hb)
   . exact .inr (h.closed i o hi hl e he hb)
 . rcases hpp with⟨rfl,_⟩|⟨rfl,rfl⟩
   . exact h.le
   . omega
 . rw [yj QQ];rcases Nat.lt_or_ge z p with uh|uh
   . exact .inr (h.Jg z s hs uh Zu)
   . rcases hpp with⟨rfl,_⟩|⟨rfl,rfl⟩
     . omega
     . have:z=q:=by omega
       subst this;rw [hq]at hs;cases hs;exact .inl rfl
 . rw [yj QQ];rintro (k|k)
   . have:=hD.once z q s r hs hq k;subst this;rw [hq]at hs;cases hs;rcases hpp with⟨rfl,Jc⟩|⟨rfl,rfl⟩
     . rcases Zu with Zu|Zu
       . rw [Jc]at Zu;cases Zu
       . have:=uF hD h hp hq hr Zu;omega
     . omega
   . exact h.Qe z s hs (by omega) Zu k
 . unfold Lp;cases hd:r.o.dst with
   |none=>exact h.tr.mono hle
   |some d=>
    have:=k1.dst d hd;rw [hn]at this;exact (h.tr.mono hle).put (by rw [h.tmps.1];exact this) hv
 . rw [<-h.defers];cases r.o.dst<;>rfl
 . rw [yj QQ]at hl;have hzq:z≠q:=fun e=>by subst e;rw [hq]at hs;cases hs;exact hl (.inl rfl)
   have hzp:z<p:=by
    rcases hpp with⟨rfl,_⟩|⟨rfl,rfl⟩
    . exact hz
    . omega
   obtain ⟨g1,g2,g3⟩:=h.ghost z s x f hs hzp (fun k=>hl (.inr k)) hw hf hx;exact e3 z s x f hzq hs hzp g1 g2 g3 hw hf hx
include hE hG
theorem xO{F:Fence}(hF:Good F){n:Nat}{Q:Exit->Act->World->Prop}(h:Mid E ops rs t σ' B w0 R0 σ ds ja R tS p a w)(hp:p=rs.length\/∃r,rs[p]?=some r/\Cc r.o.op=true){i:Nat}(hi:i∈Region.ready .any ops ja){K:Act->World->Prop}
  (hK:∀R' tS' p' a' w',(p'=rs.length\/∃r,rs[p']?=some r/\Cc r.o.op=true)->Mid E ops rs t σ' B w0 R0 σ ds (ja.setIfInBounds i true) R' tS' p' a' w'->K a' w'):wpOpIn F n E.P ops Q i K a w:=by
 rw [mem_ready]at hi;obtain ⟨hl,o,ho,Ug⟩:=hi;have tg:¬Ro ja i:=fun k=>by
  unfold Ro at k;have hs:=h.size;have Db:i<ops.size:=(Array.getElem?_eq_some_iff.1 ho).1
  rw [Array.getD_eq_getD_getElem?,Array.getElem?_eq_getElem (by omega)]at hl k;simp at hl k;rw [hl]at k;cases k
 obtain ⟨q,r,hq,rfl,rfl⟩:=place hD ho;obtain ⟨k1,k2,k3⟩:=(Zg hD.chain).2 q r hq
 have XR:∀d,looks ops.toList r.o d=true->nth tS d=nth r.t d:=fun d hd=>uO hD h.closed h.tmps hq tg Ug hd
 have Iq:tl ops.toList tS r.o=true:=by rw [rF XR];exact k1.cl
 have hev:=KY XR;unfold wpOpIn;simp only [ho];rw [vw h.tr ops r.o Iq,AI XR,<-k1.w];have here:Cc r.o.op=false->Xj rs σ' p=Xj rs σ' p:=fun _=>rfl
 cases hw:r.w with
 |false=>
  simp only [Bool.false_eq_true,if_false];refine ⟨fun f _=>hF.fn f, ?_⟩;obtain ⟨n1,n2⟩:=k1.no hw;cases he:Cc r.o.op with
  |true=>
   have RR:=WR hD h hp hq tg Ug he;subst RR;have e:Xj rs σ' (q+1)=Xj rs σ' q:=by rw [k3,n2,Si hq]
   have:=Mid.step hD h hp hq tg Ug (R':=R) (v':=undef) (w':=w) (p':=q+1) R.le_refl (by rw [n1];exact Ge R) (.inr ⟨rfl,rfl⟩) (by rw [e];exact h.ext) (by rw [e];exact h.Yj) (fun z s x f _ _ _ g1 g2 g3 _ _ _=>by rw [e];exact ⟨g1,g2,g3⟩);obtain ⟨p',z1,z2⟩:=advance hD _ _ _ _ _ _ _ rfl this;exact hK _ _ _ _ _ z1 z2
  |false=>
   exact hK _ _ _ _ _ hp (Mid.step hD h hp hq tg Ug (R':=R) (v':=undef) (w':=w) (p':=p) R.le_refl (by rw [n1];exact Ge R) (.inl ⟨rfl,he⟩) h.ext h.Yj (fun z s x f _ _ _ g1 g2 g3 _ _ _=>⟨g1,g2,g3⟩))
 |true=>
  simp only [if_true];have Wj:=k1.yes hw;rw [<-NR hev]at Wj;cases he:Cc r.o.op with
  |true=>
   have RR:=WR hD h hp hq tg Ug he;subst RR;rw [<-Si (σ':=σ') hq,<-k3]at Wj;refine uw hE hG h.Yj h.tr hF r.o Wj fun R' v' w' x1 x2 x3=> ?_
   have:=Mid.step hD h hp hq tg Ug (R':=R') (v':=v') (w':=w') (p':=q+1) x1.le x2 (.inr ⟨rfl,rfl⟩) (h.ext.trans x1) x3 (fun z s x f _ _ _ g1 g2 g3 _ _ _=>by
    obtain ⟨f1,f2⟩:=x1.fr _ g2 g1;exact ⟨f2,Nat.lt_of_lt_of_le g2 x1.next,f1.trans g3⟩)
   obtain ⟨p',z1,z2⟩:=advance hD _ _ _ _ _ _ _ rfl this;exact hK _ _ _ _ _ z1 z2
  |false=>
   have calm:sq E go tS (Xj rs σ' p) r.o.op=some (r.v,Xj rs σ' p)->r.o.wpIn F n E.P a w K Q:=fun Wj=>by
    refine uw hE hG h.Yj h.tr hF r.o Wj fun R' v' w' x1 x2 x3=> ?_
    exact hK _ _ _ _ _ hp (Mid.step hD h hp hq tg Ug (R':=R') (v':=v') (w':=w') (p':=p) x1.le x2 (.inl ⟨rfl,he⟩) (h.ext.trans x1) x3 (fun z s x f _ _ _ g1 g2 g3 _ _ _=>by
     obtain ⟨f1,f2⟩:=x1.fr _ g2 g1;exact ⟨f2,Nat.lt_of_lt_of_le g2 x1.next,f1.trans g3⟩))
   cases hc:cls r.o.op with
   |still=>
    refine calm ?_
    unfold sq at Wj⊢;rw [hc]at Wj⊢;simp only at Wj⊢;cases hs:Sa E tS r.o.op with
    |none=>rw [hs]at Wj;cases Wj
    |some v=>rw [hs]at Wj;simp only [Vv]at Wj⊢;injection Wj with Wj;injection Wj with Wj _;rw [Wj]
   |read=>
    refine calm ?_
    have hrd:=hD.reads p h.le hp q r hq (by unfold gC;rw [hc]) hw (fun z s hz hs Zu=> ?_) (fun z s hz hs Zu=> ?_)
    . unfold sq;rw [hc];simp only;rw [yw hev,hrd];rfl
    . cases hb:bit (Bc ms s.i) r.i with
      |false=>rfl
      |true=>
       have hos:ops[s.i]?=some s.o:=by simpa using hD.vl z s hs
       exact absurd (cn hD h.closed s.i s.o hos (h.Jg z s hs hz Zu) r.i hb) tg
    . cases hb:bit (Bc ms r.i) s.i with
      |false=>rfl
      |true=>exact absurd (Kl hD h.closed ho Ug hb) (h.Qe z s hs hz (.inl Zu))
   |fresh=>
    have hf:De r.o.op=true:=by unfold De;rw [hc]
    have RR:=uF hD h hp hq Ug hf;rcases Gw k1 he with⟨c1,_⟩|⟨_,c2,_⟩|⟨x,f,c1,c2,c3,c4,c5⟩
    . rw [hw]at c1;cases c1
    . rw [hf]at c2;cases c2
    . obtain ⟨g1,g2,g3⟩:=h.ghost q r x f hq RR tg hw hf c3;rw [<-Vt hev]at c3;obtain ⟨ob,s,g,y1,y2,y3⟩:=Rt hE h.tr r.o c3;have hd:∀c,r.o.op≠ .defer c:=fun c e=>by rw [e]at hc;cases hc
      refine ⟨fun f _=>hF.fn f, ?_⟩;rw [Oper.semAt_eq _ _ _ hd,y2];have hid:σ.next<=r.σ.next:=by
       have:=LC hD.chain hD.next (p:=0) q (by have:=(List.getElem?_eq_some_iff.1 hq).1;omega);rw [(Zg hD.chain).1.2,Nat.zero_add,Si hq]at this;exact this
      have hle:R.le (R.set r.σ.next (w.heap.size,s)):=Mp.xC g1;refine hK _ _ _ _ _ hp (Mid.step hD h hp hq tg Ug (p':=p) hle ?_ (.inl ⟨rfl,he⟩) ⟨Mp.le_trans h.ext.le hle,h.ext.next,fun b hb hn=> ?_⟩ (h.Yj.real g2 g1 g3 y1 (bF c3)) (fun z u x2 f2 hzq hz hzp i1 i2 i3 iw jf ix=> ?_))
      . rw [c4];exact y3 _ _ _ (Mp.Jd R _ _)
      . obtain ⟨f1,f2⟩:=h.ext.fr b hb hn;exact ⟨f1,by rw [Mp.Cf (by omega)];exact f2⟩
      . refine ⟨?_,i2,i3⟩;have Jc:u.σ.next≠r.σ.next:=by
         have grow:∀(z1 z2:Nat) (u1 u2:Rec) (x1:Na) (f1:Nat->Value),z1<z2->rs[z1]?=some u1->rs[z2]?=some u2->u1.w=true->De u1.o.op=true->u1.σ.next<u2.σ.next:=fun z1 z2 u1 u2 x1 f1 Db Mi uh w1 j1=>by
          obtain ⟨b1,_,b3⟩:=(Zg hD.chain).2 z1 u1 Mi
          have YaF:Cc u1.o.op=false:=by
           unfold De at j1;unfold Cc;generalize cls u1.o.op=c at j1;cases c<;>simp at j1⊢
          rcases Gw b1 YaF with⟨c1,_⟩|⟨_,c2,_⟩|⟨x,f,_,_,_,_,c5⟩
          . rw [w1]at c1;cases c1
          . rw [j1]at c2;cases c2
          . have hn:=LC hD.chain hD.next (p:=z1+1) (z2 -(z1+1)) (by have:=(List.getElem?_eq_some_iff.1 uh).1;omega);rw [show z1+1+(z2 -(z1+1))=z2 by omega,Si uh,b3,c5,Qt]at hn;omega
         rcases Nat.lt_or_gt_of_ne hzq with Db|Db
         . have:=grow z q u r x2 f2 Db hz hq iw jf;omega
         . have:=grow q z r u x2 f2 Db hq hz hw hf;omega
        rw [Mp.Cf Jc];exact i1
   |eff=>unfold Cc at he;rw [hc]at he;cases he
   |no=>
    unfold sq at Wj;rw [hc]at Wj;cases Wj
theorem YR{F:Fence}(hF:Good F){n:Nat}{Qo:List Nat}(hm:MR R0 Qo ds)(ht:t.d=some undef):∀(fuel:Nat) (U:List Nat) (ja:Array Bool) (R:Mp) (tS:Tm) (p:Nat) (a:Act) (w:World),U.length<=fuel->(∀i,i<ops.size->¬Ro ja i->i∈U)->(p=rs.length\/∃r,rs[p]?=some r/\Cc r.o.op=true)->Mid E ops rs t σ' B w0 R0 σ ds ja R tS p a w->
  wpAnyIn F n E.P .any ops (He B w0 R0 σ .normal t' Qo σ') fuel ja a w:=by
 have fin:∀(ja:Array Bool) (R:Mp) (tS:Tm) (p:Nat) (a:Act) (w:World),(p=rs.length\/∃r,rs[p]?=some r/\Cc r.o.op=true)->Mid E ops rs t σ' B w0 R0 σ ds ja R tS p a w->Region.ready .any ops ja=[]->He B w0 R0 σ .normal t' Qo σ' .normal a w:=fun ja R tS p a w hp h hr=>by
  obtain ⟨x1,x2,x3⟩:=Mid.done hD h hp (BI hD h hr) ht;exact ⟨R,rfl,x1,x2,by rw [h.defers];exact hm.mono x1.le,x3⟩
 intro fuel
 induction fuel with
 |zero=>
  intro U ja R tS p a w hU Ug hp h;have hU0:U=[]:=List.length_eq_zero_iff.1 (by omega)
  subst hU0;have hr:Region.ready .any ops ja=[]:=by
   cases hr:Region.ready .any ops ja with
   |nil=>rfl
   |cons i is=>
    have hi:i∈Region.ready .any ops ja:=by rw [hr];simp
    rw [mem_ready]at hi;obtain ⟨hl,o,ho,_⟩:=hi;have Db:i<ops.size:=(Array.getElem?_eq_some_iff.1 ho).1
    refine absurd (Ug i Db fun k=> ?_) (by simp);unfold Ro at k;have hs:=h.size;rw [Array.getD_eq_getD_getElem?,Array.getElem?_eq_getElem (by omega)]at hl k;simp at hl k;rw [hl]at k;cases k
  exact ⟨hr,fin ja R tS p a w hp h hr⟩
 |succ fuel ih=>
  intro U ja R tS p a w hU Ug hp h;refine ⟨fun hr=>fin ja R tS p a w hp h hr,fun i hi=> ?_⟩;have hiU:i<ops.size/\i∈U:=by
   have ZX:=hi;rw [mem_ready]at ZX;obtain ⟨hl,o,ho,_⟩:=ZX;have Db:i<ops.size:=(Array.getElem?_eq_some_iff.1 ho).1
   refine ⟨Db,Ug i Db fun k=> ?_⟩;unfold Ro at k;have hs:=h.size;rw [Array.getD_eq_getD_getElem?,Array.getElem?_eq_getElem (by omega)]at hl k;simp at hl k;rw [hl]at k;cases k
  refine xO hE hG hD hF h hp hi fun R' tS' p' a' w' z1 z2=>ih (U.erase i) _ R' tS' p' a' w' ?_ (fun j hj hn=> ?_) z1 z2
  . rw [List.length_erase_of_mem hiU.2];omega
  . rw [yj (by rw [h.size];exact hiU.1)]at hn;exact (List.mem_erase_of_ne fun e=>hn (.inl e)).2 (Ug j hj fun k=>hn (.inr k))
end
theorem vF{E:Env}(hE:Yb E){go:Task->Option lj}(hG:lF E go){B:Nat->Prop}{w0:World}{F:Fence}(hF:Good F){n:Nat}(id:Nat)(ops:Array Oper){R:Mp}{t t':Tm}{σ σ':AH}{a:Act}{w:World}{ms:List Nat}(h:jC E go ops.toList t σ=some (t',σ'))(ht:TR R t a.tmps)(hm:MR R ms a.defers)(hS:Qc B w0 R σ w):
  (Code.region id ops true).wpIn F n E.P (He B w0 R σ .normal t' ms σ') a w:=by
 obtain ⟨rs,mk,hD⟩:=LY h;refine wpIn_region_any hE.mixed ?_
 have TH:∀i,¬Ro (Array.replicate ops.size false) i:=fun i k=>by
  unfold Ro at k;rw [Array.getD_eq_getD_getElem?,Array.getElem?_replicate]at k
  split at k<;>simp at k
 have h0:=(Zg hD.chain).1
 have start:Mid E ops rs t σ' B w0 R σ a.defers (Array.replicate ops.size false) R t 0 a {w with drawn:=w.drawn+1}:=
  ⟨by simp,fun i o _ hl=>absurd hl (TH i),Nat.zero_le _,fun q r _ hq=>absurd hq (Nat.not_lt_zero _),fun q r _ _ _=>TH _,ht,rfl,⟨rfl,fun x=>⟨fun q r _ _ hl=>absurd hl (TH _),fun _=>rfl⟩⟩,by rw [h0.2];exact Ext.refl R σ,by rw [h0.2];exact hS.drawn _,fun q r x f _ hq=>absurd hq (Nat.not_lt_zero _)⟩
 obtain ⟨p,z1,z2⟩:=advance hD _ _ _ _ _ _ _ rfl start;exact YR hE hG hD hF hm ht.d ops.size (List.range ops.size) _ R t p a _ (by simp) (fun i hi _=>List.mem_range.2 hi) z1 z2
end Sk
end Go.Proofs.YtfnkmolffhfpoaaGreat
namespace Go.Proofs.YtfnkmolffhfpoaaGreat
namespace Sk
open Go.RowKit
variable[Interp]
section
variable{E:Env}(hE:Yb E){B:Nat->Prop}{w0:World}
def OC(tmps:Array Value):ResultVar->Sem Value
 | .tmp t=>pure (tmps.getD t undef)
 | .cell a t=>do loadVar t (<-asAddr (tmps.getD a undef))
include hE in
theorem Pp{R:Mp}{σ:AH}{w:World}(hS:Qc B w0 R σ w){t:Tm}{tmps:Array Value}(ht:TR R t tmps):∀(rs:List ResultVar) (l:List Value),Wo E σ t rs=some l->∃l',LR R l l'/\(rs.mapM (OC tmps)).run E.P w= .ok l' w
 |[],l,h=>by simp [Wo]at h;subst h;exact ⟨[],LR.nil R,by simp⟩
 | .tmp i::rs,l,h=>by
   simp only [Wo]at h;cases h1:Wo E σ t rs with
   |none=>rw [h1]at h;cases h
   |some l1=>
    rw [h1]at h;cases h;obtain ⟨l',k1,k2⟩:=Pp hS ht rs l1 h1;refine ⟨tmps.getD i undef::l',LR.cons (ht.nth i) k1, ?_⟩;rw [List.mapM_cons];simp only [OC,Sem.run_bind,Sem.run_pure,Result.andThen,k2]
 | .cell a ty::rs,l,h=>by
   simp only [Wo]at h;cases h0:Ur E σ ty (nth t a)with
   |none=>rw [h0]at h;cases h
   |some v=>
    cases h1:Wo E σ t rs with
    |none=>rw [h0,h1]at h;cases h
    |some l1=>
     rw [h0,h1]at h;cases h;obtain ⟨l',k1,k2⟩:=Pp hS ht rs l1 h1;have hv:=ht.nth a;obtain ⟨v',k3,k4⟩:=qw hE hS hv h0;have hpt:∃b o b' s,nth t a= .pointer (some ⟨b,o,none⟩)/\R b=some (b',s)/\tmps.getD a undef= .pointer (some ⟨b',o,none⟩):=by
      unfold Ur at h0
      split at h0
      . rename_i b o hn;rw [hn]at hv;obtain ⟨b',s,q1,q2⟩:=ji hv;exact ⟨b,o,b',s,hn,q1,q2⟩
      . cases h0
     obtain ⟨b,o,b',s,_,_,hp⟩:=hpt;rw [hp]at k4;refine ⟨v'::l',LR.cons k3 k1, ?_⟩;rw [List.mapM_cons];have k5:(loadVar ty ⟨b',o,none⟩).run E.P w= .ok v' w:=by
      simpa [Instr.loadAt,Instr.sureAddr,Result.andThen]using k4
     simp only [OC,hp,Sem.run_bind,Sem.run_pure,Result.andThen,asAddr,k5,k2]
include hE in
theorem Uz{R:Mp}{σ:AH}{w:World}(hS:Qc B w0 R σ w){t:Tm}{tmps:Array Value}(ht:TR R t tmps){fn:Func}{l:List Value}(h:Wo E σ t fn.results.toList=some l):∃v',VR R (rY l) v'/\(results fn tmps).run E.P w= .ok v' w:=by
 obtain ⟨l',k1,k2⟩:=Pp hE hS ht _ _ h;have e:∀vs:Array Value,vs=⟨l'⟩->VR R (rY l) (if h:vs.size=1 then vs[0]else .tuple vs):=fun vs sR=>by
  subst sR;cases l with
  |nil=>
   have:=LR.ic k1;subst this;exact (LR.nil R).kI
  |cons x xs=>cases xs with
   |nil=>
    obtain ⟨y,l2,rfl,q2,q3⟩:=LR.ya k1;have:=LR.ic q3;subst this;exact q2
   |cons z zs=>
    have hl:=k1.1
    have Jc:¬(⟨l'⟩:Array Value).size=1:=by simp at hl⊢;omega
    rw [dif_neg Jc];exact k1.kI
 refine ⟨_,e ⟨l'⟩ rfl, ?_⟩;have e2:results fn tmps=(do
   let vs<-fn.results.mapM (OC tmps)
   pure (if h:vs.size=1 then vs[0]else .tuple vs)):=by
  unfold results
  congr 1
 rw [e2,Array.mapM_eq_mapM_toList];simp only [Sem.run_bind,Sem.run_map,k2,Result.andThen,Sem.run_pure]
theorem Qc.putObj{R:Mp}{σ:AH}{w:World}(h:Qc B w0 R σ w){b r s:Nat}(hb:R b=some (r,s))(hg:∃y,σ.get b=some y/\∀e,y≠ .gh e){x:Na}{o:Obj}(hx:Jp R x (some o) s)(hxg:∀e,x≠ .gh e:=by(intro e h;cases h)):Qc B w0 R (σ.put b (some x)) (w.putObj r o):=by
 refine h.yR hb hg ?_ (fun k hk=>World.putObj_heap_other hk) World.putObj_size rfl rfl rfl hxg
 rw [World.putObj_heap_same (h.lt b r s hb)];exact hx
theorem Yt{F:Fence}{n:Nat}{fn:Func}{tmps:Array Value}{Q:Ending->World->Prop}{R:Mp}:∀(ms:List Nat) (ds:List Deferred) (σ σ':AH) (w:World),MR R ms ds->vq σ ms=some σ'->Qc B w0 R σ w->
  (∀w',Qc B w0 R σ' w'->Ext R σ R σ'->LeavesInM F n E.P fn tmps Q [] .returning w')->LeavesInM F n E.P fn tmps Q ds .returning w
 |[],[],σ,σ',w,_,h,hS,hQ=>by simp [vq]at h;subst h;exact hQ w hS (Ext.refl R σ)
 |b::bs,d::ds,σ,σ',w,⟨⟨r,s,hb,hd⟩,hm⟩,h,hS,hQ=>by
  simp only [vq]at h
  split at h
  . rename_i hg;rw [Ec]at h;obtain ⟨_,ho⟩:=hS.obj b r s _ hb hg;simp only [Jp,if_true]at ho;refine ⟨fun e=>FrameMode.noConfusion e, .inl ⟨r,_,(by rw [hd]),run_takeDeferred ho, ?_⟩⟩;have hS2:Qc B w0 R (σ.put b (some (.YB false))) (w.putObj r (.deferred none)):=hS.putObj hb (by rw [hg];simp) (by simp [Jp]);exact Yt bs ds _ σ' _ hm h hS2 fun w' k1 k2=>hQ w' k1 ((Ext.put R σ hb _).trans k2)
  . cases h
 |[],_::_,_,_,_,h,_,_,_=>h.elim
 |_::_,[],_,_,_,h,_,_,_=>h.elim
theorem Iw{R:Mp}{β:Type}{k:Tm->Option β}{x:β}:∀(args:List Value) (args':List Value) (pre:List Value) (m:Nat) (r:Tm),LR R args args'->TR R r ⟨pre++List.replicate m undef⟩->tmpsOf pre.length args r k=some x->
  ∃t,k t=some x/\TR R t ⟨pre++args'++List.replicate (m -args.length) undef⟩
 |[],args',pre,m,r,hl,ht,h=>by
  have:=LR.ic hl;subst this;exact ⟨r,h,by simpa using ht⟩
 |v::vs,args',pre,m,r,hl,ht,h=>by
  obtain ⟨v',OY,rfl,h1,h2⟩:=LR.ya hl;simp only [tmpsOf,jk,qk]at h
  split at h
  . rename_i Db;have hm:0<m:=by
     have:=ht.n;simp at this;omega
    have aY:=ht.put Db h1;have e:(⟨pre++List.replicate m undef⟩:Array Value).setIfInBounds pre.length v'=⟨(pre++[v'])++List.replicate (m -1) undef⟩:=by
     obtain ⟨m,rfl⟩:∃q,m=q+1:=⟨m -1,by omega⟩;apply Array.ext';simp [List.replicate_succ]
    rw [e]at aY;have e3:Nat.succ pre.length=(pre++[v']).length:=by simp
    rw [e3]at h;obtain ⟨t,k1,k2⟩:=Iw vs OY (pre++[v']) (m -1) _ h2 aY h;refine ⟨t,k1, ?_⟩;have e4:pre++[v']++OY++List.replicate (m -1 -vs.length) undef=pre++v'::OY++List.replicate (m -(v::vs).length) undef:=by
     rw [show m -(v::vs).length=m -1 -vs.length by simp;omega];simp
    rw [<-e4];exact k2
  . cases h
theorem wF{R:Mp}{β:Type}{k:Tm->Option β}{x:β}{args:List Value}{args':Array Value}{n:Nat}(hl:LR R args args'.toList)(h:tmpsOf 0 args ⟨n,some undef, .nil⟩ k=some x):∃t,k t=some x/\TR R t (args'++Array.replicate (n -args'.size) undef):=by
 have ht:TR R (⟨n,some undef, .nil⟩:Tm) ⟨[]++List.replicate n undef⟩:=by
  refine ⟨rfl,by simp,fun i v hv=> ?_⟩;have e:(⟨[]++List.replicate n undef⟩:Array Value).getD i undef=undef:=by
   have e0:(⟨[]++List.replicate n undef⟩:Array Value)=Array.replicate n undef:=by apply Array.ext';simp
   rw [e0,Array.getD_eq_getD_getElem?,Array.getElem?_replicate]
   split<;>rfl
  rw [e];rw [rj]at hv;simp only [Tr.get_nil]at hv
  split at hv
  . cases hv;exact Ge R
  . cases hv
 obtain ⟨t,k1,k2⟩:=Iw args args'.toList [] n _ hl ht h;refine ⟨t,k1, ?_⟩;have e:args'++Array.replicate (n -args'.size) undef=⟨[]++args'.toList++List.replicate (n -args.length) undef⟩:=by
  apply Array.ext';rw [hl.1];simp
 rw [e];exact k2
theorem Jw{R:Mp}:∀(ps:List Tmp) (vs OY:List Value) (t t':Tm) (a:Array Value),LR R vs OY->TR R t a->CA ps vs t=some t'->TR R t' ((ps.zip OY).foldl (fun tmps (q:Tmp×Value)=>tmps.setIfInBounds q.1 q.2) a)
 |[],vs,OY,t,t',a,_,ht,h=>by simp [CA]at h;subst h;simpa using ht
 |p::ps,[],OY,t,t',a,hl,ht,h=>by
  have:=LR.ic hl;subst this;simp [CA]at h;subst h;simpa using ht
 |p::ps,v::vs,OY,t,t',a,hl,ht,h=>by
  obtain ⟨v',vs2,rfl,h1,h2⟩:=LR.ya hl;simp only [CA,qk]at h
  split at h
  . rename_i hp;simp only [List.zip_cons_cons,List.foldl_cons];exact Jw ps vs vs2 _ t' _ h2 (ht.put hp h1) h
  . cases h
end
end Sk
end Go.Proofs.YtfnkmolffhfpoaaGreat
namespace Go.Proofs.YtfnkmolffhfpoaaGreat
namespace Sk
open Go.RowKit
section
variable{P:Program}{b:Frame}{a:Act}{k:List Item}{cs:List Frame}{w:World}
theorem Rf{c:Code}:Go.step P (lone (b.atR a (.code (.scope c)::k)) cs w)= .next (lone (b.atR a (.code c:: .inScope c::k)) cs w):=
 step_lone_go (by simp [stepG,stepG.exec,Frame.atR])
theorem Zo{c:Code}:Go.step P (lone (b.atR a (.inScope c::k)) cs w)= .next (lone (b.atR a k) cs w):=
 step_lone_go (by simp [stepG,stepG.exec,Frame.atR])
end
def ZaF(Q:Exit->Act->World->Prop):Exit->Act->World->Prop
 | .goto _,_,_=>False
 |e,a,w=>Q e a w
def naf(F:Fence)(n:Nat)(P:Program)(c:Code)(Q:Exit->Act->World->Prop):Exit->Act->World->Prop
 | .goto l,a,w=>∃rest,findLabel c l=some rest/\rest.wpIn F n P (ZaF Q) a w
 |e,a,w=>Q e a w
theorem Kw{F:Fence}{n:Nat}{P:Program}{Q:Exit->Act->World->Prop}{a:Act}{w:World}{c:Code}(h:c.wpIn F n P (naf F n P c Q) a w):(Code.scope c).wpIn F n P Q a w:=by
 intro b k cs Bo hb hr;have h0:(lone (b.atR a (.code (.scope c)::k)) cs w).fenced P F:=fenced_calm hb hr rfl
 have hxe:∀id,exitTo id (.inScope c::k)=exitTo id k:=fun id=>by simp [exitTo]
 obtain ⟨e,a₁,w₁,hq,CI⟩:=h b (.inScope c::k) cs Bo hb hr;cases e with
 |normal=>exact ⟨.normal,a₁,w₁,hq, .head h0 Rf (StepsIn.trans CI (.one (fenced_calm hb hr rfl) Zo))⟩
 |exit id=>
  exact ⟨.exit id,a₁,w₁,hq,fun k' hk=> .head h0 Rf (CI.1 k' (by rw [hxe];exact hk)),
   fun ZR hk=>let⟨k₁,h1,h2⟩:=CI.2 ZR (by rw [hxe];exact hk);⟨k₁,h1, .head h0 Rf h2⟩⟩
 |goto l=>
  obtain ⟨rest,hf,jak⟩:=hq;have hg:gotoIn l (.inScope c::k)=some (.code rest:: .inScope c::k):=by simp [gotoIn,hf]
  have hs:=StepsIn.head h0 Rf (CI.1 _ hg);obtain ⟨e₂,a₂,w₂,PA,Co⟩:=jak b (.inScope c::k) cs Bo hb hr;cases e₂ with
  |normal=>exact ⟨.normal,a₂,w₂,PA,hs.trans (StepsIn.trans Co (.one (fenced_calm hb hr rfl) Zo))⟩
  |exit id=>
   exact ⟨.exit id,a₂,w₂,PA,fun k' hk=>hs.trans (Co.1 k' (by rw [hxe];exact hk)),
    fun ZR hk=>let⟨k₁,h1,h2⟩:=Co.2 ZR (by rw [hxe];exact hk);⟨k₁,h1,hs.trans h2⟩⟩
  |goto l'=>exact PA.elim
  |ret=>exact ⟨_,a₂,w₂,PA, .of_steps hs Co⟩
  |panic ch=>exact ⟨_,a₂,w₂,PA, .of_steps hs Co⟩
  |outgrown=>exact ⟨_,a₂,w₂,PA, .of_steps hs Co⟩
 |ret=>exact ⟨_,a₁,w₁,hq, .of_steps (.one h0 Rf) CI⟩
 |panic ch=>exact ⟨_,a₁,w₁,hq, .of_steps (.one h0 Rf) CI⟩
 |outgrown=>exact ⟨_,a₁,w₁,hq, .of_steps (.one h0 Rf) CI⟩
end Sk
end Go.Proofs.YtfnkmolffhfpoaaGreat
