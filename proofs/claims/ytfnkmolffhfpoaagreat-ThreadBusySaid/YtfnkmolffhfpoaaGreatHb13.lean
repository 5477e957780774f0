/- -/
import Derived.Test.YtfnkmolffhfpoaaGreatHb12
import Derived.OrdersIn
import Derived.RangeFuncRecord
import Derived.LoopNIn
import Derived.ControlIn
set_option linter.unusedVariables false
set_option linter.unusedSimpArgs false
set_option linter.unusedSectionVars false
namespace Go.Proofs.YtfnkmolffhfpoaaGreat
namespace Sk
open Go.RowKit
variable[Interp]
section
variable{E:Env}(hE:Pb E){go:Task->Option Hh}(hG:yB E go){ops:Array Oper}{rs:List Rec}{t t':Tm}{σ σ':AH}{ms:List Nat}(hD:Xy E go ops.toList rs t σ t' σ' ms)
def Ll(ba:Array Bool)(i:Nat):Prop:=ba.getD i false=true
def Yy(ops:Array Oper)(ba:Array Bool):Prop:=∀i o,ops[i]?=some o->Ll ba i->∀e∈o.after.toList,Region.binds .any e=true->Ll ba e.on
include hD
theorem Ck{ba:Array Bool}(hc:Yy ops ba):∀(i:Nat) (o:Oper),ops[i]?=some o->Ll ba i->∀j,bit (Ub ms i) j=true->Ll ba j:=by
 intro i
 induction i using Nat.strongRecOn with
 |_ i ih=>
  intro o ho hi j hj;obtain ⟨e,h1,h2,h3⟩:=(hD.pg i o (by simpa using ho) j).1 hj
  have hl:=hc i o ho hi e h1 h2;rcases h3 with rfl|⟨h3,h4⟩
  . exact hl
  . have hio:i<ops.size:=(Array.getElem?_eq_some_iff.1 ho).1
    exact ih e.on h3 _ (Array.getElem?_eq_getElem (by omega)) hl j h4
theorem Ej{ba:Array Bool}(hc:Yy ops ba){i:Nat}{o:Oper}(ho:ops[i]?=some o)(hr:∀e∈o.after,Region.binds .any e=true->Ll ba e.on){j:Nat}(hj:bit (Ub ms i) j=true):Ll ba j:=by
 obtain ⟨e,h1,h2,h3⟩:=(hD.pg i o (by simpa using ho) j).1 hj
 have hl:=hr e (by simpa using h1) h2;rcases h3 with rfl|⟨h3,h4⟩
 . exact hl
 . have hio:i<ops.size:=(Array.getElem?_eq_some_iff.1 ho).1
   exact Ck hD hc e.on _ (Array.getElem?_eq_getElem (by omega)) hl j h4
theorem Bs:sT rs:=fun p q r s d hp hq h1 h2=>by
 by_cases he:r.i=s.i
 . exact hD.once p q r s hp hq he
 . exact absurd h2 ((hD.rL r.i s.i r.o s.o (hD.qj p r hp) (hD.qj q s hq) he).dst d h1)
theorem before{p q:Nat}{r s:Rec}(hp:rs[p]?=some r)(hq:rs[q]?=some s)(h:bit (Ub ms r.i) s.i=true):q<p:=by
 obtain ⟨q',s',h1,h2,h3⟩:=hD.pre p r hp s.i h;have:=hD.once q' q s' s h2 hq h3;omega
def yQ(rs:List Rec)(t:Tm)(ba:Array Bool)(tS:Tm):Prop:=
 tS.n=t.n/\∀x,(∀(q:Nat) (r:Rec),rs[q]?=some r->r.o.dst=some x->Ll ba r.i->nth tS x=r.v)/\((∀(q:Nat) (r:Rec),rs[q]?=some r->r.o.dst=some x->¬Ll ba r.i)->nth tS x=nth t x)
theorem vI{ba:Array Bool}(hc:Yy ops ba){tS:Tm}(hT:yQ rs t ba tS){q:Nat}{r:Rec}(hq:rs[q]?=some r)(Mh:¬Ll ba r.i)(hr:∀e∈r.o.after,Region.binds .any e=true->Ll ba e.on){d:Tmp}(hd:looks ops.toList r.o d=true):nth tS d=nth r.t d:=by
 have iq:=hD.qj q r hq;have hql:q<rs.length:=(List.getElem?_eq_some_iff.1 hq).1
 have GB:=(Vy hD.chain (Bs hD) q (by omega)).2.2 d
 rw [js hq]at GB;have Xam:ops[r.i]?=some r.o:=by simpa using iq
 by_cases hw:∃(q':Nat) (s:Rec),rs[q']?=some s/\s.o.dst=some d
 . obtain ⟨q',s,hs,hsd⟩:=hw;have uniq:∀(z:Nat) (y:Rec),rs[z]?=some y->y.o.dst=some d->z=q':=fun z y hz hy=>Bs hD z q' y s d hz hs hy hsd
   have later:¬q'<q->nth r.t d=nth t d:=fun Ab=>GB.2 fun z y hzq hz hy=>by
    have:=uniq z y hz hy;omega
   have unl:¬Ll ba s.i->nth tS d=nth t d:=fun hn=>(hT.2 d).2 fun z y hz hy=>by
    have:=uniq z y hz hy;subst this;rw [hs]at hz;cases hz;exact hn
   by_cases hqq:q'=q
   . subst hqq;rw [hq]at hs;cases hs;rw [unl Mh,later (Nat.lt_irrefl _)]
   . have Jc:r.i≠s.i:=fun e=>hqq (hD.once q q' r s hq hs e).symm
     have Yam:ops[s.i]?=some s.o:=by simpa using hD.qj q' s hs
     rcases (hD.rL r.i s.i r.o s.o iq (hD.qj q' s hs) Jc).ord with h|h|⟨_,_,h⟩
     . have hl:=Ej hD hc Xam hr h;rw [(hT.2 d).1 q' s hs hsd hl,GB.1 q' s (before hD hq hs h) hs hsd]
     . have hb:=before hD hs hq h;rw [unl fun hl=>Mh (Ck hD hc s.i s.o Yam hl r.i h),later (by omega)]
     . rw [h d hsd]at hd;cases hd
 . rw [(hT.2 d).2 fun z y hz hy=>absurd ⟨z,y,hz,hy⟩ hw,GB.2 fun z y _ hz hy=>absurd ⟨z,y,hz,hy⟩ hw]
omit hD in
theorem Xh{ba:Array Bool}{i:Nat}(hi:i<ba.size)(j:Nat):Ll (ba.setIfInBounds i true) j<->j=i\/Ll ba j:=by
 unfold Ll;by_cases h:i=j
 . subst h;simp [hi]
 . rw [getD_set_ne false h];constructor
   . intro k;exact .inr k
   . rintro (k|k)
     . exact absurd k.symm h
     . exact k
theorem wI{ba:Array Bool}{tS:Tm}(hT:yQ rs t ba tS){q:Nat}{r:Rec}(hq:rs[q]?=some r)(hi:r.i<ba.size)(Mh:¬Ll ba r.i):yQ rs t (ba.setIfInBounds r.i true) (Pm tS r.o.dst r.v):=by
 refine ⟨?_,fun x=>⟨fun z y hz hy hl=> ?_,fun hn=> ?_⟩⟩
 . unfold Pm;split<;>exact hT.1
 . rcases (Xh hi _).1 hl with h|h
   . have:=hD.once z q y r hz hq h;subst this;rw [hq]at hz;cases hz;unfold Pm;rw [hy];simp only [zl,if_true]
   . have Jc:∀d,r.o.dst=some d->x≠d:=fun d hd e=>by
      subst e;have:=Bs hD z q y r x hz hq hy hd;subst this;rw [hq]at hz;cases hz;exact Mh h
     unfold Pm
     split
     . rename_i d hd;rw [zl,if_neg (Jc d hd)];exact (hT.2 x).1 z y hz hy h
     . exact (hT.2 x).1 z y hz hy h
 . have Jc:∀d,r.o.dst=some d->x≠d:=fun d hd e=>by
    subst e;exact hn q r hq hd ((Xh hi _).2 (.inl rfl))
   have h0:=(hT.2 x).2 fun z y hz hy hl=>hn z y hz hy ((Xh hi _).2 (.inr hl))
   unfold Pm
   split
   . rename_i d hd;rw [zl,if_neg (Jc d hd)];exact h0
   . exact h0
end
structure Mid(E:Env)(ops:Array Oper)(rs:List Rec)(t:Tm)(σ':AH)(B:Nat->Prop)(w0:World)(R0:Mp)(σ:AH)(ds:List Deferred)(ba:Array Bool)(R:Mp)(tS:Tm)(p:Nat)(a:Act)(w:World):Prop where
 size:ba.size=ops.size
 closed:Yy ops ba
 le:p<=rs.length
 Jf:∀(q:Nat) (r:Rec),rs[q]?=some r->q<p->Vb r.o.op=true->Ll ba r.i
 me:∀(q:Nat) (r:Rec),rs[q]?=some r->p<=q->(Vb r.o.op=true\/Td r.o.op=true)->¬Ll ba r.i
 tr:TR R tS a.tmps
 defers:a.defers=ds
 tmps:yQ rs t ba tS
 ext:Ext R0 σ R (xi rs σ' p)
 Cs:Ic B w0 R (xi rs σ' p) w
 ghost:∀(q:Nat) (r:Rec) (x:ya) (f:Nat->Value),rs[q]?=some r->q<p->¬Ll ba r.i->r.w=true->Td r.o.op=true->Oc E r.t r.o.op=some (x,f)->R r.σ.next=none/\r.σ.next<(xi rs σ' p).next/\(xi rs σ' p).get r.σ.next=some x
section
variable{E:Env}(hE:Pb E){go:Task->Option Hh}(hG:yB E go){ops:Array Oper}{rs:List Rec}{t t':Tm}{σ σ':AH}{ms:List Nat}(hD:Xy E go ops.toList rs t σ t' σ' ms){B:Nat->Prop}{w0:World}{R0:Mp}{ds:List Deferred}
include hD
theorem advance:∀(d:Nat) (ba:Array Bool) (R:Mp) (tS:Tm) (p:Nat) (a:Act) (w:World),rs.length -p=d->Mid E ops rs t σ' B w0 R0 σ ds ba R tS p a w->
  ∃p',(p'=rs.length\/∃r,rs[p']?=some r/\Vb r.o.op=true)/\Mid E ops rs t σ' B w0 R0 σ ds ba R tS p' a w
 |0,ba,R,tS,p,a,w,hd,h=>⟨p, .inl (by have:=h.le;omega),h⟩
 |d+1,ba,R,tS,p,a,w,hd,h=>by
  have hp:p<rs.length:=by omega
  have hr:rs[p]?=some (rs[p]'hp):=List.getElem?_eq_getElem hp
  generalize rs[p]'hp=r at hr;cases he:Vb r.o.op with
  |true=>exact ⟨p, .inr ⟨r,hr,he⟩,h⟩
  |false=>
   obtain ⟨k1,k2,k3⟩:=(Wf hD.chain).2 p r hr
   have GB:xi rs σ' p=r.σ:=vh hr;have mk:Ext R0 σ R (xi rs σ' (p+1))->Ic B w0 R (xi rs σ' (p+1)) w->
     (∀(q:Nat) (r:Rec) (x:ya) (f:Nat->Value),rs[q]?=some r->q<p+1->¬Ll ba r.i->r.w=true->Td r.o.op=true->Oc E r.t r.o.op=some (x,f)->R r.σ.next=none/\r.σ.next<(xi rs σ' (p+1)).next/\(xi rs σ' (p+1)).get r.σ.next=some x)->
     Mid E ops rs t σ' B w0 R0 σ ds ba R tS (p+1) a w:=fun e1 e2 e3=>
    ⟨h.size,h.closed,hp,fun q s hs hq Jq=>(by
       rcases Nat.lt_succ_iff_lt_or_eq.1 hq with hq|hq
       . exact h.Jf q s hs hq Jq
       . subst hq;rw [hr]at hs;cases hs;rw [he]at Jq;cases Jq),
      fun q s hs hq Jq=>h.me q s hs (by omega) Jq,h.tr,h.defers,h.tmps,e1,e2,e3⟩
   refine advance d ba R tS (p+1) a w (by omega) ?_
   rcases As k1 he with⟨c1,c2⟩|⟨c1,c2,c3⟩|⟨x,f,c1,c2,c3,c4,c5⟩
   . have e:xi rs σ' (p+1)=xi rs σ' p:=by rw [k3,c2,GB]
     refine mk (by rw [e];exact h.ext) (by rw [e];exact h.Cs) fun q s x f hs hq hl hw hf hx=> ?_
     rw [e];rcases Nat.lt_succ_iff_lt_or_eq.1 hq with hq|hq
     . exact h.ghost q s x f hs hq hl hw hf hx
     . subst hq;rw [hr]at hs;cases hs;rw [c1]at hw;cases hw
   . have e:xi rs σ' (p+1)=xi rs σ' p:=by rw [k3,c3,GB]
     refine mk (by rw [e];exact h.ext) (by rw [e];exact h.Cs) fun q s x f hs hq hl hw hf hx=> ?_
     rw [e];rcases Nat.lt_succ_iff_lt_or_eq.1 hq with hq|hq
     . exact h.ghost q s x f hs hq hl hw hf hx
     . subst hq;rw [hr]at hs;cases hs;rw [c2]at hf;cases hf
   . have e:xi rs σ' (p+1)=(xi rs σ' p).new x:=by rw [k3,c5,GB]
     refine mk ?_ (by rw [e];exact h.Cs.ghost x) fun q s y g hs hq hl hw hf hx=> ?_
     . rw [e];refine h.ext.trans ⟨R.le_refl,Nat.le_succ _,fun b hb hn=>⟨by rw [yc,if_neg (by omega)],hn⟩⟩
     . rw [e,Yp,yc];rcases Nat.lt_succ_iff_lt_or_eq.1 hq with hq|hq
       . obtain ⟨g1,g2,g3⟩:=h.ghost q s y g hs hq hl hw hf hx;refine ⟨g1,by omega, ?_⟩;rw [if_neg (by omega)];exact g3
       . subst hq;rw [hr]at hs;cases hs;rw [c3]at hx;cases hx;rw [GB];exact ⟨by rw [<-GB];exact h.Cs.vl (Nat.le_refl _),Nat.lt_succ_self _,if_pos rfl⟩
theorem place{i:Nat}{o:Oper}(ho:ops[i]?=some o):∃(q:Nat) (r:Rec),rs[q]?=some r/\r.i=i/\r.o=o:=by
 obtain ⟨q,r,h1,h2⟩:=hD.all i o (by simpa using ho);have:=hD.qj q r h1;rw [h2]at this;have OH:ops.toList[i]?=some o:=by simpa using ho
 rw [OH]at this;cases this;exact ⟨q,r,h1,h2,rfl⟩
theorem cE{ba:Array Bool}{R:Mp}{tS:Tm}{p:Nat}{a:Act}{w:World}(h:Mid E ops rs t σ' B w0 R0 σ ds ba R tS p a w)(hr:Region.ready .any ops ba=[]):∀(q:Nat) (r:Rec),rs[q]?=some r->Ll ba r.i:=by
 intro q
 induction q using Nat.strongRecOn with
 |_ q ih=>
  intro r hq;have ho:ops[r.i]?=some r.o:=by simpa using hD.qj q r hq
  have Ab:r.i<ops.size:=(Array.getElem?_eq_some_iff.1 ho).1
  cases hl:ba.getD r.i false with
  |true=>exact hl
  |false=>
   have:r.i∈Region.ready .any ops ba:=by
    rw [mem_ready];refine ⟨?_,r.o,ho,fun e he hb=> ?_⟩
    . have hs:=h.size;rw [Array.getD_eq_getD_getElem?,Array.getElem?_eq_getElem (by omega)]at hl⊢
      simpa using hl
    . have hm:=(hD.pg r.i r.o (by simpa using ho) e.on).2 ⟨e,by simpa using he,hb, .inl rfl⟩
      obtain ⟨q',s,k1,k2,k3⟩:=hD.pre q r hq e.on hm;rw [<-k3];exact ih q' k1 s k2
   rw [hr]at this;cases this
theorem Mid.done{ba:Array Bool}{R:Mp}{tS:Tm}{p:Nat}{a:Act}{w:World}(h:Mid E ops rs t σ' B w0 R0 σ ds ba R tS p a w)(hp:p=rs.length\/∃r,rs[p]?=some r/\Vb r.o.op=true)(hl:∀(q:Nat) (r:Rec),rs[q]?=some r->Ll ba r.i)(ht:t.d=some undef):
  Ext R0 σ R σ'/\TR R t' a.tmps/\Ic B w0 R σ' w:=by
 have fX:p=rs.length:=by
  rcases hp with hp|⟨r,h1,h2⟩
  . exact hp
  . exact absurd (hl p r h1) (h.me p r h1 (Nat.le_refl _) (.inl h2))
 subst fX;have hx:=h.ext;have hs:=h.Cs;rw [nG]at hx hs;obtain ⟨n1,n2,n3⟩:=Vy hD.chain (Bs hD) rs.length (Nat.le_refl _);rw [uQ]at n1 n2 n3;refine ⟨hx,⟨n2.trans ht,by rw [h.tr.n,h.tmps.1,n1],fun i v hv=> ?_⟩,hs⟩;have hn:nth t' i=v:=by unfold Sk.nth;rw [hv]
 have:nth tS i=v:=by
  rw [<-hn];by_cases hw:∃(q':Nat) (s:Rec),rs[q']?=some s/\s.o.dst=some i
  . obtain ⟨q',s,k1,k2⟩:=hw;rw [(h.tmps.2 i).1 q' s k1 k2 (hl q' s k1),(n3 i).1 q' s (List.getElem?_eq_some_iff.1 k1).1 k1 k2]
  . rw [(h.tmps.2 i).2 fun z y hz hy=>absurd ⟨z,y,hz,hy⟩ hw,(n3 i).2 fun z y _ hz hy=>absurd ⟨z,y,hz,hy⟩ hw]
 rw [<-this];exact h.tr.nth i
end
end Sk
end Go.Proofs.YtfnkmolffhfpoaaGreat
namespace Go.Proofs.YtfnkmolffhfpoaaGreat
namespace Sk
open Go.RowKit
variable[Interp]
section
variable{E:Env}(hE:Pb E){go:Task->Option Hh}(hG:yB E go){ops:Array Oper}{rs:List Rec}{t t':Tm}{σ σ':AH}{ms:List Nat}(hD:Xy E go ops.toList rs t σ t' σ' ms){B:Nat->Prop}{w0:World}{R0:Mp}{ds:List Deferred}
variable{ba:Array Bool}{R:Mp}{tS:Tm}{p:Nat}{a:Act}{w:World}
include hD
theorem sL(h:Mid E ops rs t σ' B w0 R0 σ ds ba R tS p a w)(hp:p=rs.length\/∃r,rs[p]?=some r/\Vb r.o.op=true){q:Nat}{r:Rec}(hq:rs[q]?=some r)(Mh:¬Ll ba r.i)(hr:∀e∈r.o.after,Region.binds .any e=true->Ll ba e.on)(he:Vb r.o.op=true):q=p:=by
 have hql:q<rs.length:=(List.getElem?_eq_some_iff.1 hq).1
 have hge:p<=q:=by
  rcases Nat.lt_or_ge q p with Ab|hge
  . exact absurd (h.Jf q r hq Ab he) Mh
  . exact hge
 rcases hp with rfl|⟨s,hs,vT⟩
 . omega
 . by_cases pL:q=p
   . exact pL
   . have Jc:r.i≠s.i:=fun e=>pL (hD.once q p r s hq hs e)
     have ho:ops[r.i]?=some r.o:=by simpa using hD.qj q r hq
     rcases (hD.rL r.i s.i r.o s.o (hD.qj q r hq) (hD.qj p s hs) Jc).ord with k|k|⟨k,_,_⟩
     . exact absurd (Ej hD h.closed ho hr k) (h.me p s hs (Nat.le_refl _) (.inl vT))
     . have:=before hD hs hq k;omega
     . exact absurd ⟨he,vT⟩ k
theorem IB(h:Mid E ops rs t σ' B w0 R0 σ ds ba R tS p a w)(hp:p=rs.length\/∃r,rs[p]?=some r/\Vb r.o.op=true){q:Nat}{r:Rec}(hq:rs[q]?=some r)(hr:∀e∈r.o.after,Region.binds .any e=true->Ll ba e.on)(hf:Td r.o.op=true):q<p:=by
 have hql:q<rs.length:=(List.getElem?_eq_some_iff.1 hq).1
 rcases hp with rfl|⟨s,hs,vT⟩
 . exact hql
 . rcases Nat.lt_trichotomy q p with k|k|k
   . exact k
   . subst k;rw [hq]at hs;cases hs;unfold Td at hf;unfold Vb at vT;generalize cls r.o.op=c at hf vT;cases c<;>simp at hf vT
   . have ho:ops[r.i]?=some r.o:=by simpa using hD.qj q r hq
     have:=hD.fresh q r hq hf p s k hs vT;exact absurd (Ej hD h.closed ho hr this) (h.me p s hs (Nat.le_refl _) (.inl vT))
theorem Mid.step(h:Mid E ops rs t σ' B w0 R0 σ ds ba R tS p a w)(hp:p=rs.length\/∃r,rs[p]?=some r/\Vb r.o.op=true){q:Nat}{r:Rec}(hq:rs[q]?=some r)(Mh:¬Ll ba r.i)(hr:∀e∈r.o.after,Region.binds .any e=true->Ll ba e.on)
  {R':Mp}{v':Value}{w':World}{p':Nat}(hle:R.le R')(hv:VR R' r.v v')(hpp:(p'=p/\Vb r.o.op=false)\/(p'=p+1/\q=p))(e1:Ext R0 σ R' (xi rs σ' p'))(e2:Ic B w0 R' (xi rs σ' p') w')
  (e3:∀(q2:Nat) (s:Rec) (x:ya) (f:Nat->Value),q2≠q->rs[q2]?=some s->q2<p->R s.σ.next=none->s.σ.next<(xi rs σ' p).next->(xi rs σ' p).get s.σ.next=some x->s.w=true->Td s.o.op=true->Oc E s.t s.o.op=some (x,f)->R' s.σ.next=none/\s.σ.next<(xi rs σ' p').next/\(xi rs σ' p').get s.σ.next=some x):
  Mid E ops rs t σ' B w0 R0 σ ds (ba.setIfInBounds r.i true) R' (Pm tS r.o.dst r.v) p' (a.put r.o.dst v') w':=by
 have ho:ops[r.i]?=some r.o:=by simpa using hD.qj q r hq
 have Ab:r.i<ops.size:=(Array.getElem?_eq_some_iff.1 ho).1
 have rQ:r.i<ba.size:=by rw [h.size];exact Ab
 have hql:q<rs.length:=(List.getElem?_eq_some_iff.1 hq).1
 obtain ⟨k1,_,_⟩:=(Wf hD.chain).2 q r hq
 have hn:=(Vy hD.chain (Bs hD) q (by omega)).1
 rw [js hq]at hn;have hge:p<=p':=by omega
 refine ⟨by rw [Array.size_setIfInBounds];exact h.size,fun i o hi hl e he hb=> ?_, ?_,fun z s hs hz Jq=> ?_,fun z s hs hz Jq=> ?_, ?_, ?_,wI hD h.tmps hq rQ Mh,e1,e2,fun z s x f hs hz hl hw hf hx=> ?_⟩
 . rw [Xh rQ]at hl⊢;rcases hl with rfl|hl
   . rw [ho]at hi;cases hi;exact .inr (hr e (by simpa using he) hb)
   . exact .inr (h.closed i o hi hl e he hb)
 . rcases hpp with⟨rfl,_⟩|⟨rfl,rfl⟩
   . exact h.le
   . omega
 . rw [Xh rQ];rcases Nat.lt_or_ge z p with qg|qg
   . exact .inr (h.Jf z s hs qg Jq)
   . rcases hpp with⟨rfl,_⟩|⟨rfl,rfl⟩
     . omega
     . have:z=q:=by omega
       subst this;rw [hq]at hs;cases hs;exact .inl rfl
 . rw [Xh rQ];rintro (k|k)
   . have:=hD.once z q s r hs hq k;subst this;rw [hq]at hs;cases hs;rcases hpp with⟨rfl,Jc⟩|⟨rfl,rfl⟩
     . rcases Jq with Jq|Jq
       . rw [Jc]at Jq;cases Jq
       . have:=IB hD h hp hq hr Jq;omega
     . omega
   . exact h.me z s hs (by omega) Jq k
 . unfold Pm;cases hd:r.o.dst with
   |none=>exact h.tr.mono hle
   |some d=>
    have:=k1.dst d hd;rw [hn]at this;exact (h.tr.mono hle).put (by rw [h.tmps.1];exact this) hv
 . rw [<-h.defers];cases r.o.dst<;>rfl
 . rw [Xh rQ]at hl;have hzq:z≠q:=fun e=>by subst e;rw [hq]at hs;cases hs;exact hl (.inl rfl)
   have hzp:z<p:=by
    rcases hpp with⟨rfl,_⟩|⟨rfl,rfl⟩
    . exact hz
    . omega
   obtain ⟨g1,g2,g3⟩:=h.ghost z s x f hs hzp (fun k=>hl (.inr k)) hw hf hx;exact e3 z s x f hzq hs hzp g1 g2 g3 hw hf hx
include hE hG
theorem xI{F:Fence}(hF:Good F){n:Nat}{Q:Exit->Act->World->Prop}(h:Mid E ops rs t σ' B w0 R0 σ ds ba R tS p a w)(hp:p=rs.length\/∃r,rs[p]?=some r/\Vb r.o.op=true){i:Nat}(hi:i∈Region.ready .any ops ba){K:Act->World->Prop}
  (hK:∀R' tS' p' a' w',(p'=rs.length\/∃r,rs[p']?=some r/\Vb r.o.op=true)->Mid E ops rs t σ' B w0 R0 σ ds (ba.setIfInBounds i true) R' tS' p' a' w'->K a' w'):wpOpIn F n E.P ops Q i K a w:=by
 rw [mem_ready]at hi;obtain ⟨hl,o,ho,ug⟩:=hi;have Mh:¬Ll ba i:=fun k=>by
  unfold Ll at k;have hs:=h.size;have Ab:i<ops.size:=(Array.getElem?_eq_some_iff.1 ho).1
  rw [Array.getD_eq_getD_getElem?,Array.getElem?_eq_getElem (by omega)]at hl k;simp at hl k;rw [hl]at k;cases k
 obtain ⟨q,r,hq,rfl,rfl⟩:=place hD ho;obtain ⟨k1,k2,k3⟩:=(Wf hD.chain).2 q r hq
 have tL:∀d,looks ops.toList r.o d=true->nth tS d=nth r.t d:=fun d hd=>vI hD h.closed h.tmps hq Mh ug hd
 have Wn:pj ops.toList tS r.o=true:=by rw [DB tL];exact k1.cl
 have yI:=vQ tL;unfold wpOpIn;simp only [ho];rw [Pr h.tr ops r.o Wn,bE tL,<-k1.w];have here:Vb r.o.op=false->xi rs σ' p=xi rs σ' p:=fun _=>rfl
 cases hw:r.w with
 |false=>
  simp only [Bool.false_eq_true,if_false];refine ⟨fun f _=>hF.fn f, ?_⟩;obtain ⟨n1,n2⟩:=k1.no hw;cases he:Vb r.o.op with
  |true=>
   have pL:=sL hD h hp hq Mh ug he;subst pL;have e:xi rs σ' (q+1)=xi rs σ' q:=by rw [k3,n2,vh hq]
   have:=Mid.step hD h hp hq Mh ug (R':=R) (v':=undef) (w':=w) (p':=q+1) R.le_refl (by rw [n1];exact Vd R) (.inr ⟨rfl,rfl⟩) (by rw [e];exact h.ext) (by rw [e];exact h.Cs) (fun z s x f _ _ _ g1 g2 g3 _ _ _=>by rw [e];exact ⟨g1,g2,g3⟩);obtain ⟨p',z1,z2⟩:=advance hD _ _ _ _ _ _ _ rfl this;exact hK _ _ _ _ _ z1 z2
  |false=>
   exact hK _ _ _ _ _ hp (Mid.step hD h hp hq Mh ug (R':=R) (v':=undef) (w':=w) (p':=p) R.le_refl (by rw [n1];exact Vd R) (.inl ⟨rfl,he⟩) h.ext h.Cs (fun z s x f _ _ _ g1 g2 g3 _ _ _=>⟨g1,g2,g3⟩))
 |true=>
  simp only [if_true];have Uj:=k1.yes hw;rw [<-lL yI]at Uj;cases he:Vb r.o.op with
  |true=>
   have pL:=sL hD h hp hq Mh ug he;subst pL;rw [<-vh (σ':=σ') hq,<-k3]at Uj;refine Nr hE hG h.Cs h.tr hF r.o Uj fun R' v' w' x1 x2 x3=> ?_
   have:=Mid.step hD h hp hq Mh ug (R':=R') (v':=v') (w':=w') (p':=q+1) x1.le x2 (.inr ⟨rfl,rfl⟩) (h.ext.trans x1) x3 (fun z s x f _ _ _ g1 g2 g3 _ _ _=>by
    obtain ⟨f1,f2⟩:=x1.fr _ g2 g1;exact ⟨f2,Nat.lt_of_lt_of_le g2 x1.next,f1.trans g3⟩)
   obtain ⟨p',z1,z2⟩:=advance hD _ _ _ _ _ _ _ rfl this;exact hK _ _ _ _ _ z1 z2
  |false=>
   have calm:Hn E go tS (xi rs σ' p) r.o.op=some (r.v,xi rs σ' p)->r.o.wpIn F n E.P a w K Q:=fun Uj=>by
    refine Nr hE hG h.Cs h.tr hF r.o Uj fun R' v' w' x1 x2 x3=> ?_
    exact hK _ _ _ _ _ hp (Mid.step hD h hp hq Mh ug (R':=R') (v':=v') (w':=w') (p':=p) x1.le x2 (.inl ⟨rfl,he⟩) (h.ext.trans x1) x3 (fun z s x f _ _ _ g1 g2 g3 _ _ _=>by
     obtain ⟨f1,f2⟩:=x1.fr _ g2 g1;exact ⟨f2,Nat.lt_of_lt_of_le g2 x1.next,f1.trans g3⟩))
   cases hc:cls r.o.op with
   |still=>
    refine calm ?_
    unfold Hn at Uj⊢;rw [hc]at Uj⊢;simp only at Uj⊢;cases hs:Da E tS r.o.op with
    |none=>rw [hs]at Uj;cases Uj
    |some v=>rw [hs]at Uj;simp only [Br]at Uj⊢;injection Uj with Uj;injection Uj with Uj _;rw [Uj]
   |read=>
    refine calm ?_
    have hrd:=hD.reads p h.le hp q r hq (by unfold qy;rw [hc]) hw (fun z s hz hs Jq=> ?_) (fun z s hz hs Jq=> ?_)
    . unfold Hn;rw [hc];simp only;rw [Rr yI,hrd];rfl
    . cases hb:bit (Ub ms s.i) r.i with
      |false=>rfl
      |true=>
       have hos:ops[s.i]?=some s.o:=by simpa using hD.qj z s hs
       exact absurd (Ck hD h.closed s.i s.o hos (h.Jf z s hs hz Jq) r.i hb) Mh
    . cases hb:bit (Ub ms r.i) s.i with
      |false=>rfl
      |true=>exact absurd (Ej hD h.closed ho ug hb) (h.me z s hs hz (.inl Jq))
   |fresh=>
    have hf:Td r.o.op=true:=by unfold Td;rw [hc]
    have pL:=IB hD h hp hq ug hf;rcases As k1 he with⟨c1,_⟩|⟨_,c2,_⟩|⟨x,f,c1,c2,c3,c4,c5⟩
    . rw [hw]at c1;cases c1
    . rw [hf]at c2;cases c2
    . obtain ⟨g1,g2,g3⟩:=h.ghost q r x f hq pL Mh hw hf c3;rw [<-cq yI]at c3;obtain ⟨ob,s,g,y1,y2,y3⟩:=Zp hE h.tr r.o c3;have hd:∀c,r.o.op≠ .defer c:=fun c e=>by rw [e]at hc;cases hc
      refine ⟨fun f _=>hF.fn f, ?_⟩;rw [Oper.semAt_eq _ _ _ hd,y2];have hid:σ.next<=r.σ.next:=by
       have:=Wy hD.chain hD.next (p:=0) q (by have:=(List.getElem?_eq_some_iff.1 hq).1;omega);rw [(Wf hD.chain).1.2,Nat.zero_add,vh hq]at this;exact this
      have hle:R.le (R.set r.σ.next (w.heap.size,s)):=Mp.Ly g1;refine hK _ _ _ _ _ hp (Mid.step hD h hp hq Mh ug (p':=p) hle ?_ (.inl ⟨rfl,he⟩) ⟨Mp.le_trans h.ext.le hle,h.ext.next,fun b hb hn=> ?_⟩ (h.Cs.real g2 g1 g3 y1 (rB c3)) (fun z u x2 f2 hzq hz hzp i1 i2 i3 iw jf ix=> ?_))
      . rw [c4];exact y3 _ _ _ (Mp.Wc R _ _)
      . obtain ⟨f1,f2⟩:=h.ext.fr b hb hn;exact ⟨f1,by rw [Mp.xe (by omega)];exact f2⟩
      . refine ⟨?_,i2,i3⟩;have Jc:u.σ.next≠r.σ.next:=by
         have grow:∀(z1 z2:Nat) (u1 u2:Rec) (x1:ya) (f1:Nat->Value),z1<z2->rs[z1]?=some u1->rs[z2]?=some u2->u1.w=true->Td u1.o.op=true->u1.σ.next<u2.σ.next:=fun z1 z2 u1 u2 x1 f1 Ab Kh qg w1 j1=>by
          obtain ⟨b1,_,b3⟩:=(Wf hD.chain).2 z1 u1 Kh
          have dan:Vb u1.o.op=false:=by
           unfold Td at j1;unfold Vb;generalize cls u1.o.op=c at j1;cases c<;>simp at j1⊢
          rcases As b1 dan with⟨c1,_⟩|⟨_,c2,_⟩|⟨x,f,_,_,_,_,c5⟩
          . rw [w1]at c1;cases c1
          . rw [j1]at c2;cases c2
          . have hn:=Wy hD.chain hD.next (p:=z1+1) (z2 -(z1+1)) (by have:=(List.getElem?_eq_some_iff.1 qg).1;omega);rw [show z1+1+(z2 -(z1+1))=z2 by omega,vh qg,b3,c5,Yp]at hn;omega
         rcases Nat.lt_or_gt_of_ne hzq with Ab|Ab
         . have:=grow z q u r x2 f2 Ab hz hq iw jf;omega
         . have:=grow q z r u x2 f2 Ab hq hz hw hf;omega
        rw [Mp.xe Jc];exact i1
   |D3=>unfold Vb at he;rw [hc]at he;cases he
   |no=>
    unfold Hn at Uj;rw [hc]at Uj;cases Uj
theorem uL{F:Fence}(hF:Good F){n:Nat}{Kl:List Nat}(hm:MR R0 Kl ds)(ht:t.d=some undef):∀(fuel:Nat) (U:List Nat) (ba:Array Bool) (R:Mp) (tS:Tm) (p:Nat) (a:Act) (w:World),U.length<=fuel->(∀i,i<ops.size->¬Ll ba i->i∈U)->(p=rs.length\/∃r,rs[p]?=some r/\Vb r.o.op=true)->Mid E ops rs t σ' B w0 R0 σ ds ba R tS p a w->
  wpAnyIn F n E.P .any ops (Xd B w0 R0 σ .normal t' Kl σ') fuel ba a w:=by
 have fin:∀(ba:Array Bool) (R:Mp) (tS:Tm) (p:Nat) (a:Act) (w:World),(p=rs.length\/∃r,rs[p]?=some r/\Vb r.o.op=true)->Mid E ops rs t σ' B w0 R0 σ ds ba R tS p a w->Region.ready .any ops ba=[]->Xd B w0 R0 σ .normal t' Kl σ' .normal a w:=fun ba R tS p a w hp h hr=>by
  obtain ⟨x1,x2,x3⟩:=Mid.done hD h hp (cE hD h hr) ht;exact ⟨R,rfl,x1,x2,by rw [h.defers];exact hm.mono x1.le,x3⟩
 intro fuel
 induction fuel with
 |zero=>
  intro U ba R tS p a w hU ug hp h;have hU0:U=[]:=List.length_eq_zero_iff.1 (by omega)
  subst hU0;have hr:Region.ready .any ops ba=[]:=by
   cases hr:Region.ready .any ops ba with
   |nil=>rfl
   |cons i is=>
    have hi:i∈Region.ready .any ops ba:=by rw [hr];simp
    rw [mem_ready]at hi;obtain ⟨hl,o,ho,_⟩:=hi;have Ab:i<ops.size:=(Array.getElem?_eq_some_iff.1 ho).1
    refine absurd (ug i Ab fun k=> ?_) (by simp);unfold Ll at k;have hs:=h.size;rw [Array.getD_eq_getD_getElem?,Array.getElem?_eq_getElem (by omega)]at hl k;simp at hl k;rw [hl]at k;cases k
  exact ⟨hr,fin ba R tS p a w hp h hr⟩
 |succ fuel ih=>
  intro U ba R tS p a w hU ug hp h;refine ⟨fun hr=>fin ba R tS p a w hp h hr,fun i hi=> ?_⟩;have hiU:i<ops.size/\i∈U:=by
   have hi2:=hi;rw [mem_ready]at hi2;obtain ⟨hl,o,ho,_⟩:=hi2;have Ab:i<ops.size:=(Array.getElem?_eq_some_iff.1 ho).1
   refine ⟨Ab,ug i Ab fun k=> ?_⟩;unfold Ll at k;have hs:=h.size;rw [Array.getD_eq_getD_getElem?,Array.getElem?_eq_getElem (by omega)]at hl k;simp at hl k;rw [hl]at k;cases k
  refine xI hE hG hD hF h hp hi fun R' tS' p' a' w' z1 z2=>ih (U.erase i) _ R' tS' p' a' w' ?_ (fun j hj hn=> ?_) z1 z2
  . rw [List.length_erase_of_mem hiU.2];omega
  . rw [Xh (by rw [h.size];exact hiU.1)]at hn;exact (List.mem_erase_of_ne fun e=>hn (.inl e)).2 (ug j hj fun k=>hn (.inr k))
end
theorem JB{E:Env}(hE:Pb E){go:Task->Option Hh}(hG:yB E go){B:Nat->Prop}{w0:World}{F:Fence}(hF:Good F){n:Nat}(id:Nat)(ops:Array Oper){R:Mp}{t t':Tm}{σ σ':AH}{a:Act}{w:World}{ms:List Nat}(h:wy E go ops.toList t σ=some (t',σ'))(ht:TR R t a.tmps)(hm:MR R ms a.defers)(hS:Ic B w0 R σ w):
  (Code.region id ops true).wpIn F n E.P (Xd B w0 R σ .normal t' ms σ') a w:=by
 obtain ⟨rs,mk,hD⟩:=wQ h;refine wpIn_region_any hE.mixed ?_
 have qD:∀i,¬Ll (Array.replicate ops.size false) i:=fun i k=>by
  unfold Ll at k;rw [Array.getD_eq_getD_getElem?,Array.getElem?_replicate]at k
  split at k<;>simp at k
 have h0:=(Wf hD.chain).1
 have start:Mid E ops rs t σ' B w0 R σ a.defers (Array.replicate ops.size false) R t 0 a {w with drawn:=w.drawn+1}:=
  ⟨by simp,fun i o _ hl=>absurd hl (qD i),Nat.zero_le _,fun q r _ hq=>absurd hq (Nat.not_lt_zero _),fun q r _ _ _=>qD _,ht,rfl,⟨rfl,fun x=>⟨fun q r _ _ hl=>absurd hl (qD _),fun _=>rfl⟩⟩,by rw [h0.2];exact Ext.refl R σ,by rw [h0.2];exact hS.drawn _,fun q r x f _ hq=>absurd hq (Nat.not_lt_zero _)⟩
 obtain ⟨p,z1,z2⟩:=advance hD _ _ _ _ _ _ _ rfl start;exact uL hE hG hD hF hm ht.d ops.size (List.range ops.size) _ R t p a _ (by simp) (fun i hi _=>List.mem_range.2 hi) z1 z2
end Sk
end Go.Proofs.YtfnkmolffhfpoaaGreat
namespace Go.Proofs.YtfnkmolffhfpoaaGreat
namespace Sk
open Go.RowKit
variable[Interp]
section
variable{E:Env}(hE:Pb E){B:Nat->Prop}{w0:World}
def Zy(tmps:Array Value):ResultVar->Sem Value
 | .tmp t=>pure (tmps.getD t undef)
 | .cell a t=>do loadVar t (<-asAddr (tmps.getD a undef))
include hE in
theorem Rm{R:Mp}{σ:AH}{w:World}(hS:Ic B w0 R σ w){t:Tm}{tmps:Array Value}(ht:TR R t tmps):∀(rs:List ResultVar) (l:List Value),Ul E σ t rs=some l->∃l',LR R l l'/\(rs.mapM (Zy tmps)).run E.P w= .ok l' w
 |[],l,h=>by simp [Ul]at h;subst h;exact ⟨[],LR.nil R,by simp⟩
 | .tmp i::rs,l,h=>by
   simp only [Ul]at h;cases h1:Ul E σ t rs with
   |none=>rw [h1]at h;cases h
   |some l1=>
    rw [h1]at h;cases h;obtain ⟨l',k1,k2⟩:=Rm hS ht rs l1 h1;refine ⟨tmps.getD i undef::l',LR.cons (ht.nth i) k1, ?_⟩;rw [List.mapM_cons];simp only [Zy,Sem.run_bind,Sem.run_pure,Result.andThen,k2]
 | .cell a ty::rs,l,h=>by
   simp only [Ul]at h;cases h0:Qo E σ ty (nth t a)with
   |none=>rw [h0]at h;cases h
   |some v=>
    cases h1:Ul E σ t rs with
    |none=>rw [h0,h1]at h;cases h
    |some l1=>
     rw [h0,h1]at h;cases h;obtain ⟨l',k1,k2⟩:=Rm hS ht rs l1 h1;have hv:=ht.nth a;obtain ⟨v',k3,k4⟩:=Lr hE hS hv h0;have hpt:∃b o b' s,nth t a= .pointer (some ⟨b,o,none⟩)/\R b=some (b',s)/\tmps.getD a undef= .pointer (some ⟨b',o,none⟩):=by
      unfold Qo at h0
      split at h0
      . rename_i b o hn;rw [hn]at hv;obtain ⟨b',s,q1,q2⟩:=wg hv;exact ⟨b,o,b',s,hn,q1,q2⟩
      . cases h0
     obtain ⟨b,o,b',s,_,_,hp⟩:=hpt;rw [hp]at k4;refine ⟨v'::l',LR.cons k3 k1, ?_⟩;rw [List.mapM_cons];have k5:(loadVar ty ⟨b',o,none⟩).run E.P w= .ok v' w:=by
      simpa [Instr.loadAt,Instr.sureAddr,Result.andThen]using k4
     simp only [Zy,hp,Sem.run_bind,Sem.run_pure,Result.andThen,asAddr,k5,k2]
include hE in
theorem Ev{R:Mp}{σ:AH}{w:World}(hS:Ic B w0 R σ w){t:Tm}{tmps:Array Value}(ht:TR R t tmps){fn:Func}{l:List Value}(h:Ul E σ t fn.results.toList=some l):∃v',VR R (cQ l) v'/\(results fn tmps).run E.P w= .ok v' w:=by
 obtain ⟨l',k1,k2⟩:=Rm hE hS ht _ _ h;have e:∀vs:Array Value,vs=⟨l'⟩->VR R (cQ l) (if h:vs.size=1 then vs[0]else .tuple vs):=fun vs UK=>by
  subst UK;cases l with
  |nil=>
   have:=LR.uc k1;subst this;exact (LR.nil R).ZH
  |cons x xs=>cases xs with
   |nil=>
    obtain ⟨y,l2,rfl,q2,q3⟩:=LR.qa k1;have:=LR.uc q3;subst this;exact q2
   |cons z zs=>
    have hl:=k1.1
    have Jc:¬(⟨l'⟩:Array Value).size=1:=by simp at hl⊢;omega
    rw [dif_neg Jc];exact k1.ZH
 refine ⟨_,e ⟨l'⟩ rfl, ?_⟩;have e2:results fn tmps=(do
   let vs<-fn.results.mapM (Zy tmps)
   pure (if h:vs.size=1 then vs[0]else .tuple vs)):=by
  unfold results
  congr 1
 rw [e2,Array.mapM_eq_mapM_toList];simp only [Sem.run_bind,Sem.run_map,k2,Result.andThen,Sem.run_pure]
theorem Ic.putObj{R:Mp}{σ:AH}{w:World}(h:Ic B w0 R σ w){b r s:Nat}(hb:R b=some (r,s))(hg:∃y,σ.get b=some y/\∀e,y≠ .gh e){x:ya}{o:Obj}(hx:Xn R x (some o) s)(hxg:∀e,x≠ .gh e:=by(intro e h;cases h)):Ic B w0 R (σ.put b (some x)) (w.putObj r o):=by
 refine h.aL hb hg ?_ (fun k hk=>World.putObj_heap_other hk) World.putObj_size rfl rfl rfl hxg
 rw [World.putObj_heap_same (h.lt b r s hb)];exact hx
theorem jq{F:Fence}{n:Nat}{fn:Func}{tmps:Array Value}{Q:Ending->World->Prop}{R:Mp}:∀(ms:List Nat) (ds:List Deferred) (σ σ':AH) (w:World),MR R ms ds->Ln σ ms=some σ'->Ic B w0 R σ w->
  (∀w',Ic B w0 R σ' w'->Ext R σ R σ'->LeavesInM F n E.P fn tmps Q [] .returning w')->LeavesInM F n E.P fn tmps Q ds .returning w
 |[],[],σ,σ',w,_,h,hS,hQ=>by simp [Ln]at h;subst h;exact hQ w hS (Ext.refl R σ)
 |b::bs,d::ds,σ,σ',w,⟨⟨r,s,hb,hd⟩,hm⟩,h,hS,hQ=>by
  simp only [Ln]at h
  split at h
  . rename_i hg;rw [Wb]at h;obtain ⟨_,ho⟩:=hS.obj b r s _ hb hg;simp only [Xn,if_true]at ho;refine ⟨fun e=>FrameMode.noConfusion e, .inl ⟨r,_,(by rw [hd]),run_takeDeferred ho, ?_⟩⟩;have hX:Ic B w0 R (σ.put b (some (.ey false))) (w.putObj r (.deferred none)):=hS.putObj hb (by rw [hg];simp) (by simp [Xn]);exact jq bs ds _ σ' _ hm h hX fun w' k1 k2=>hQ w' k1 ((Ext.put R σ hb _).trans k2)
  . cases h
 |[],_::_,_,_,_,h,_,_,_=>h.elim
 |_::_,[],_,_,_,h,_,_,_=>h.elim
theorem Es{R:Mp}{β:Type}{k:Tm->Option β}{x:β}:∀(args:List Value) (args':List Value) (pre:List Value) (m:Nat) (r:Tm),LR R args args'->TR R r ⟨pre++List.replicate m undef⟩->tmpsOf pre.length args r k=some x->
  ∃t,k t=some x/\TR R t ⟨pre++args'++List.replicate (m -args.length) undef⟩
 |[],args',pre,m,r,hl,ht,h=>by
  have:=LR.uc hl;subst this;exact ⟨r,h,by simpa using ht⟩
 |v::vs,args',pre,m,r,hl,ht,h=>by
  obtain ⟨v',zQ,rfl,h1,h2⟩:=LR.qa hl;simp only [tmpsOf,Ei,Gi]at h
  split at h
  . rename_i Ab;have hm:0<m:=by
     have:=ht.n;simp at this;omega
    have DP:=ht.put Ab h1;have e:(⟨pre++List.replicate m undef⟩:Array Value).setIfInBounds pre.length v'=⟨(pre++[v'])++List.replicate (m -1) undef⟩:=by
     obtain ⟨m,rfl⟩:∃q,m=q+1:=⟨m -1,by omega⟩;apply Array.ext';simp [List.replicate_succ]
    rw [e]at DP;have e3:Nat.succ pre.length=(pre++[v']).length:=by simp
    rw [e3]at h;obtain ⟨t,k1,k2⟩:=Es vs zQ (pre++[v']) (m -1) _ h2 DP h;refine ⟨t,k1, ?_⟩;have e4:pre++[v']++zQ++List.replicate (m -1 -vs.length) undef=pre++v'::zQ++List.replicate (m -(v::vs).length) undef:=by
     rw [show m -(v::vs).length=m -1 -vs.length by simp;omega];simp
    rw [<-e4];exact k2
  . cases h
theorem KB{R:Mp}{β:Type}{k:Tm->Option β}{x:β}{args:List Value}{args':Array Value}{n:Nat}(hl:LR R args args'.toList)(h:tmpsOf 0 args ⟨n,some undef, .nil⟩ k=some x):∃t,k t=some x/\TR R t (args'++Array.replicate (n -args'.size) undef):=by
 have ht:TR R (⟨n,some undef, .nil⟩:Tm) ⟨[]++List.replicate n undef⟩:=by
  refine ⟨rfl,by simp,fun i v hv=> ?_⟩;have e:(⟨[]++List.replicate n undef⟩:Array Value).getD i undef=undef:=by
   have e0:(⟨[]++List.replicate n undef⟩:Array Value)=Array.replicate n undef:=by apply Array.ext';simp
   rw [e0,Array.getD_eq_getD_getElem?,Array.getElem?_replicate]
   split<;>rfl
  rw [e];rw [Oh]at hv;simp only [Tr.get_nil]at hv
  split at hv
  . cases hv;exact Vd R
  . cases hv
 obtain ⟨t,k1,k2⟩:=Es args args'.toList [] n _ hl ht h;refine ⟨t,k1, ?_⟩;have e:args'++Array.replicate (n -args'.size) undef=⟨[]++args'.toList++List.replicate (n -args.length) undef⟩:=by
  apply Array.ext';rw [hl.1];simp
 rw [e];exact k2
theorem Fs{R:Mp}:∀(ps:List Tmp) (vs zQ:List Value) (t t':Tm) (a:Array Value),LR R vs zQ->TR R t a->Dw ps vs t=some t'->TR R t' ((ps.zip zQ).foldl (fun tmps (q:Tmp×Value)=>tmps.setIfInBounds q.1 q.2) a)
 |[],vs,zQ,t,t',a,_,ht,h=>by simp [Dw]at h;subst h;simpa using ht
 |p::ps,[],zQ,t,t',a,hl,ht,h=>by
  have:=LR.uc hl;subst this;simp [Dw]at h;subst h;simpa using ht
 |p::ps,v::vs,zQ,t,t',a,hl,ht,h=>by
  obtain ⟨v',vs2,rfl,h1,h2⟩:=LR.qa hl;simp only [Dw,Gi]at h
  split at h
  . rename_i hp;simp only [List.zip_cons_cons,List.foldl_cons];exact Fs ps vs vs2 _ t' _ h2 (ht.put hp h1) h
  . cases h
end
end Sk
end Go.Proofs.YtfnkmolffhfpoaaGreat
namespace Go.Proofs.YtfnkmolffhfpoaaGreat
namespace Sk
open Go.RowKit
section
variable{P:Program}{b:Frame}{a:Act}{k:List Item}{cs:List Frame}{w:World}
theorem Re{c:Code}:Go.step P (lone (b.atR a (.code (.scope c)::k)) cs w)= .next (lone (b.atR a (.code c:: .inScope c::k)) cs w):=
 step_lone_go (by simp [stepG,stepG.exec,Frame.atR])
theorem Xl{c:Code}:Go.step P (lone (b.atR a (.inScope c::k)) cs w)= .next (lone (b.atR a k) cs w):=
 step_lone_go (by simp [stepG,stepG.exec,Frame.atR])
end
def ean(Q:Exit->Act->World->Prop):Exit->Act->World->Prop
 | .goto _,_,_=>False
 |e,a,w=>Q e a w
def iX(F:Fence)(n:Nat)(P:Program)(c:Code)(Q:Exit->Act->World->Prop):Exit->Act->World->Prop
 | .goto l,a,w=>∃rest,findLabel c l=some rest/\rest.wpIn F n P (ean Q) a w
 |e,a,w=>Q e a w
theorem Gs{F:Fence}{n:Nat}{P:Program}{Q:Exit->Act->World->Prop}{a:Act}{w:World}{c:Code}(h:c.wpIn F n P (iX F n P c Q) a w):(Code.scope c).wpIn F n P Q a w:=by
 intro b k cs iq hb hr;have h0:(lone (b.atR a (.code (.scope c)::k)) cs w).fenced P F:=fenced_calm hb hr rfl
 have hxe:∀id,exitTo id (.inScope c::k)=exitTo id k:=fun id=>by simp [exitTo]
 obtain ⟨e,a₁,w₁,hq,dE⟩:=h b (.inScope c::k) cs iq hb hr;cases e with
 |normal=>exact ⟨.normal,a₁,w₁,hq, .head h0 Re (StepsIn.trans dE (.one (fenced_calm hb hr rfl) Xl))⟩
 |exit id=>
  exact ⟨.exit id,a₁,w₁,hq,fun k' hk=> .head h0 Re (dE.1 k' (by rw [hxe];exact hk)),
   fun DK hk=>let⟨k₁,h1,h2⟩:=dE.2 DK (by rw [hxe];exact hk);⟨k₁,h1, .head h0 Re h2⟩⟩
 |goto l=>
  obtain ⟨rest,hf,j4⟩:=hq;have hg:gotoIn l (.inScope c::k)=some (.code rest:: .inScope c::k):=by simp [gotoIn,hf]
  have hs:=StepsIn.head h0 Re (dE.1 _ hg);obtain ⟨e₂,a₂,w₂,Ow,Al⟩:=j4 b (.inScope c::k) cs iq hb hr;cases e₂ with
  |normal=>exact ⟨.normal,a₂,w₂,Ow,hs.trans (StepsIn.trans Al (.one (fenced_calm hb hr rfl) Xl))⟩
  |exit id=>
   exact ⟨.exit id,a₂,w₂,Ow,fun k' hk=>hs.trans (Al.1 k' (by rw [hxe];exact hk)),
    fun DK hk=>let⟨k₁,h1,h2⟩:=Al.2 DK (by rw [hxe];exact hk);⟨k₁,h1,hs.trans h2⟩⟩
  |goto l'=>exact Ow.elim
  |ret=>exact ⟨_,a₂,w₂,Ow, .of_steps hs Al⟩
  |panic ch=>exact ⟨_,a₂,w₂,Ow, .of_steps hs Al⟩
  |outgrown=>exact ⟨_,a₂,w₂,Ow, .of_steps hs Al⟩
 |ret=>exact ⟨_,a₁,w₁,hq, .of_steps (.one h0 Re) dE⟩
 |panic ch=>exact ⟨_,a₁,w₁,hq, .of_steps (.one h0 Re) dE⟩
 |outgrown=>exact ⟨_,a₁,w₁,hq, .of_steps (.one h0 Re) dE⟩
end Sk
end Go.Proofs.YtfnkmolffhfpoaaGreat
