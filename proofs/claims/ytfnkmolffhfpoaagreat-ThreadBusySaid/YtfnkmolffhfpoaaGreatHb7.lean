/- -/
import Derived.Test.YtfnkmolffhfpoaaGreatHb6
import Derived.Below
import Derived.Laws.Pointers
import Derived.Laws.Cover3
set_option linter.unusedVariables false
set_option linter.unusedSimpArgs false
set_option linter.unusedSectionVars false
namespace Go.Proofs.YtfnkmolffhfpoaaGreat
namespace Sk
open Go.RowKit
variable[Interp]
def Xn(R:Mp)(o:ya)(ro:Option Obj)(s:Nat):Prop:=
 match o with
 | .cells c e full=>∃c':Array Value,ro=some (.cells c' e (0,0))/\c'.size=s/\c.n<=s/\(full=true->c.n=s)/\∀i v,c.get i=some v->i<c.n/\∃v',c'[i]?=some v'/\VR R v v'
 | .map es=>∃(zj:Array MapEntry) (clock:Nat),ro=some (.map zj clock)/\es.length=zj.size/\∀(i:Nat) (p:Value×Value) (e:MapEntry),es[i]?=some p->zj[i]?=some e->VR R p.1 e.key/\VR R p.2 e.val
 | .loop st pe fn t ps a b d=>∃(WW:FuncId) (t':Array Value) (d' sd:Nat),ro=some (.loop ⟨st,pe,WW,t',ps,a,b,d'⟩)/\TR R t t'/\R d=some (d',sd)
 | .ey op=>ro=some (.deferred (if op then some []else none))
 | .gh _=>True
theorem Xn.mono{R R':Mp}(hle:R.le R'){o:ya}{ro:Option Obj}{s:Nat}(h:Xn R o ro s):Xn R' o ro s:=by
 cases o with
 |cells c e full=>obtain ⟨c',h1,h2,h3,h4,h5⟩:=h;exact ⟨c',h1,h2,h3,h4,fun i v hv=>by obtain ⟨q,v',a,b⟩:=h5 i v hv;exact ⟨q,v',a,b.mono hle⟩⟩
 |map es=>obtain ⟨zj,cl,h1,h2,h3⟩:=h;exact ⟨zj,cl,h1,h2,fun i p e a b=>⟨(h3 i p e a b).1.mono hle,(h3 i p e a b).2.mono hle⟩⟩
 |loop st pe fn t ps a b d=>obtain ⟨WW,t',d',sd,h1,h2,h3⟩:=h;exact ⟨WW,t',d',sd,h1,h2.mono hle,hle _ _ h3⟩
 |ey op=>exact h
 |gh e=>trivial
structure yk(T:Nat->Prop)(w w':World):Prop where
 os:w'.os=w.os
 tape:w'.tape=w.tape
 output:w'.output=w.output
 size:w.heap.size<=w'.heap.size
 block:∀k,k<w.heap.size->¬T k->w'.heap[k]?=w.heap[k]?
theorem yk.refl(T:Nat->Prop)(w:World):yk T w w:=⟨rfl,rfl,rfl,Nat.le_refl _,fun _ _ _=>rfl⟩
theorem yk.alloc{T:Nat->Prop}{w0 w:World}(h:yk T w0 w)(o:Obj):yk T w0 (w.alloc o):=
 ⟨h.os,h.tape,h.output,by show w0.heap.size<=(w.heap.push o).size;have:=h.size;simp;omega,fun k hk ht=>by
   rw [<-h.block k hk ht]
   show(w.heap.push o)[k]?=_
   rw [Array.getElem?_push,if_neg (by have:=h.size;omega)]⟩
def iI(B:Nat->Prop)(R:Mp)(σ:AH)(O:Nat->Nat->Prop)(w:World):Prop:=∀b r s e,R b=some (r,s)->σ.get b=some (.gh e)->
 (∃g,den e= .g g/\Interp.gh g r (O b) w)/\(∀k,O b k->B k)/\∀b2 r2 s2 o2,b2≠b->R b2=some (r2,s2)->σ.get b2=some o2->¬O b r2/\(∀e2,o2= .gh e2->∀k,O b k->¬O b2 k)
structure Ic(B:Nat->Prop)(w0:World)(R:Mp)(σ:AH)(w:World):Prop where
 tD:∀b x,R b=some x->b<σ.next
 lt:∀b r s,R b=some (r,s)->r<w.heap.size
 obj:∀b r s o,R b=some (r,s)->σ.get b=some o->B r/\Xn R o w.heap[r]? s
 inj:∀b1 b2 r s1 s2,R b1=some (r,s1)->R b2=some (r,s2)->b1≠b2->σ.get b1=none\/σ.get b2=none
 below:yk B w0 w
 base:∀k,w0.heap.size<=k->B k
 lK:∃O,iI B R σ O w
theorem zk(b o j:Nat):(⟨b,o,none⟩:Addr).add j=⟨b,o+j,none⟩:=by unfold Addr.add;split<;>simp_all
section
variable{E:Env}(hE:Pb E){B:Nat->Prop}{w0:World}{R:Mp}{σ:AH}{w:World}(hS:Ic B w0 R σ w)
include hE hS
theorem Ji{b r s:Nat}(hb:R b=some (r,s)){c:Row}{e:TypeId}{full:Bool}(hg:σ.get b=some (.cells c e full)):
  ∃c':Array Value,w.heap[r]?=some (.cells c' e (0,0))/\c'.size=s/\c.n<=s/\(full=true->c.n=s)/\∀i v,c.get i=some v->∃v',w.cell? ⟨r,i,none⟩=some v'/\c'[i]?=some v'/\VR R v v':=by
 obtain ⟨_,c',h1,h2,h3,h4,h5⟩:=hS.obj b r s _ hb hg;refine ⟨c',h1,h2,h3,h4,fun i v hv=> ?_⟩;obtain ⟨_,v',a,k⟩:=h5 i v hv;exact ⟨v',by simp [World.cell?,h1,a],a,k⟩
theorem SD{b r s:Nat}(hb:R b=some (r,s)){c:Row}{e:TypeId}{full:Bool}(hg:σ.get b=some (.cells c e full)){o m:Nat}{l:List Value}(hl:c.from o m=some l):
  ∃l':List Value,LR R l l'/\l'.length=m/\∀(j:Nat) (v:Value),l'[j]?=some v->w.cell? ((⟨r,o,none⟩:Addr).add j)=some v:=by
 obtain ⟨c',h1,h2,h3,h4,h5⟩:=Ji hE hS hb hg;obtain ⟨k1,k2⟩:=cB m c o l hl;have hle:∀j,j<m->∃v',c'[o+j]?=some v':=fun j hj=>by
  have:=k2 j hj;rw [List.getElem?_eq_getElem (by omega)]at this;obtain ⟨v',_,a,_⟩:=h5 _ _ this;exact ⟨v',a⟩
 have hlen:((c'.toList.drop o).take m).length=m:=by
  cases m with
  |zero=>simp
  |succ m=>
   obtain ⟨v',hv⟩:=hle m (by omega);have:=(Array.getElem?_eq_some_iff.1 hv).1
   simp;omega
 refine ⟨(c'.toList.drop o).take m,⟨by rw [hlen,k1],fun i x y hx hy=> ?_⟩,hlen,fun j v hv=> ?_⟩
 . have hi:i<m:=by have:=(List.getElem?_eq_some_iff.1 hx).1;omega
   have:=k2 i hi;rw [hx]at this;obtain ⟨v',_,a,k⟩:=h5 _ _ this;rw [List.getElem?_take,if_pos hi,List.getElem?_drop]at hy;have:c'.toList[o+i]?=some v':=by simpa using a
   rw [this]at hy;cases hy;exact k
 . have hj:j<m:=by have:=(List.getElem?_eq_some_iff.1 hv).1;omega
   rw [List.getElem?_take,if_pos hj,List.getElem?_drop]at hv;rw [zk];have:c'[o+j]?=some v:=by simpa using hv
   simp [World.cell?,h1,this]
theorem XK{b r s:Nat}(hb:R b=some (r,s)){c:Row}{e:TypeId}{full:Bool}(hg:σ.get b=some (.cells c e full)){ty:TypeId}{o:Nat}{v:Value}(h:E.at ty c o=some v):
  ∃v',VR R v v'/\(loadVar ty ⟨r,o,none⟩).run E.P w= .ok v' w:=by
 unfold Env.at at h
 split at h
 . rename_i i hi;obtain ⟨ii,d,hT⟩:=hE.is hi;have XW:=ml (P:=E.P) (t:=ty) w hT.Df;rw [<-hT.agg]at XW
   split at h
   . rename_i ha;rw [ha]at XW;cases hf:c.from o i.size with
     |none=>rw [hf]at h;simp [nr]at h
     |some l=>
      rw [hf]at h;simp only [nr]at h;cases h;obtain ⟨l',h1,h2,h3⟩:=SD hE hS hb hg hf;have hr:=run_loadCells_list (P:=E.P) w ⟨r,o,none⟩ l' h3;refine ⟨_,h1.agg, ?_⟩;simp [loadVar,XW,Vc w hT.info,hT.size,Result.andThen,<-h2,hr]
   . rename_i ha;rw [ha]at XW;obtain ⟨c',_,_,_,_,h5⟩:=Ji hE hS hb hg;obtain ⟨v',k1,_,k2⟩:=h5 _ _ h;refine ⟨v',k2, ?_⟩;simp [loadVar,XW,Result.andThen,k1]
 . cases h
theorem Lr{ty:TypeId}{u u' v:Value}(hu:VR R u u')(h:Qo E σ ty u=some v):∃v',VR R v v'/\(Instr.loadAt ty u').run E.P w= .ok v' w:=by
 unfold Qo at h
 split at h
 . rename_i b o
   split at h
   . rename_i c e full hg;obtain ⟨b',s,hb,rfl⟩:=wg hu;obtain ⟨v',h1,h2⟩:=XK hE hS hb hg h;exact ⟨v',h1,by simp [Instr.loadAt,Instr.sureAddr,Result.andThen,h2]⟩
   . rename_i e hg;obtain ⟨b',s,hb,rfl⟩:=wg hu;obtain ⟨O,hO⟩:=hS.lK;obtain ⟨⟨g,k1,k2⟩,_⟩:=hO _ _ _ _ hb hg;obtain ⟨v',⟨c,h1⟩,h2,h3⟩:=hE.ZP e o ty v h g b' (O b) w k1 k2;exact ⟨v',Mc R h1 h2,by simp [Instr.loadAt,Instr.sureAddr,Result.andThen,h3]⟩
   . cases h
 . cases h
omit hE hS in
theorem Iy{x:Value}{c:Nat}(h:Ue x=some c)(hs:Xj x=false):(∃k n,x= .int k n)\/∃b,x= .bool b:=by
 cases x with
 |int k n=>exact .inl ⟨k,n,rfl⟩
 |bool b=>exact .inr ⟨b,rfl⟩
 |func f l q=>cases f<;>first|(simp [Xj]at hs;done)|(simp [Ue]at h)
 |_=>simp [Ue]at h
omit hS in
theorem jI{q:Bool}{x y x' y':Value}(hx:VR R x x')(hy:VR R y y'){r:Bool}(h:eqC E q x y=some r):
  (q=true->∃k a b,x'= .int k a/\y'= .int k b/\r=decide (a=b))/\(q=false->∃a b,x'= .bool a/\y'= .bool b/\r=(a==b)):=by
 unfold eqC at h
 split at h
 . rename_i i j hi hj
   split at h
   . rename_i xk hq;rw [Ja]at xk;have xk:=of_decide_eq_true xk;subst xk;obtain ⟨dx,sx⟩:=sh hx hi;obtain ⟨dy,sy'⟩:=sh hy hj;have Dx:=D.of hx hi;have Dy:=D.of hy hj;rw [Fi,jd]at hq;cases q with
     |true=>
      have h7:i<=7:=by simpa using hq
      obtain ⟨k,a,rfl,e1⟩:=sx.int h7;obtain ⟨k2,b,rfl,e2⟩:=sy'.int h7;have:k=k2:=Nb (by rw [Ja];exact decide_eq_true (e1.symm.trans e2));subst this;refine ⟨fun _=>⟨k,a,b,rfl,rfl, ?_⟩,fun e=>by cases e⟩
      split at h
      . simp only at h;have hd:=Mm hE Dx Dy
        split at h
        . rename_i b0 he;cases h;rw [he]at hd;have:=hd.2
          simp only [den]at this;cases this;rfl
        . cases h
      . rename_i hs;cases h;rw [sj,Bool.or_eq_false_iff]at hs;rcases Iy hi hs.1 with⟨k1,n1,rfl⟩|⟨b1,rfl⟩<;>rcases Iy hj hs.2 with⟨k2,n2,rfl⟩|⟨b2,rfl⟩<;>simp only [den]at dx dy<;>cases dx<;>cases dy
        simp [sr,za,oe,Ja]
     |false=>
      have h7:¬i<=7:=by simpa using hq
      have h8:i=8:=by
       rcases sx with⟨k,n,_,e⟩|⟨e,_⟩
       . have:=Ef k;omega
       . exact e
      subst h8;obtain ⟨a,rfl⟩:=sx.bool;obtain ⟨b,rfl⟩:=sy'.bool;refine ⟨fun e=>(by cases e),fun _=>⟨a,b,rfl,rfl, ?_⟩⟩
      split at h
      . simp only at h
        split at h
        . rename_i hs;cases h;have:=Dx.same Dy hs;cases this;simp
        . cases h
      . rename_i hs;cases h;rw [sj,Bool.or_eq_false_iff]at hs;rcases Iy hi hs.1 with⟨k1,n1,rfl⟩|⟨b1,rfl⟩<;>rcases Iy hj hs.2 with⟨k2,n2,rfl⟩|⟨b2,rfl⟩<;>simp only [den]at dx dy<;>cases dx<;>cases dy
        simp [sr,Fi]
   . cases h
 . cases h
omit hS in
theorem Jw:∀(ts:List Bool) (fs:List Field) (n:Nat) (l m l' m':List Value) (r:Bool),LR R l l'->LR R m m'->Mn E.P n fs=some ts->OW E ts (l.drop n) (m.drop n)=some r->
  ∀d w,(Op.eqFields (d+1) ⟨l'⟩ ⟨m'⟩ fs).run E.P w= .ok r w
 |ts,[],n,l,m,l',m',r,hl,hm,hf,h,d,w=>by
  simp [Mn]at hf;subst hf;simp [OW]at h;subst h;simp [Op.eqFields]
 |ts,f::fs,n,l,m,l',m',r,hl,hm,hf,h,d,w=>by
  simp only [Mn]at hf
  split at hf
  . rename_i b ts' hb jQ;cases hf;unfold PK at hb
    split at hb
    . cases hb
    . rename_i Mh;simp only [Bool.and_eq_true,bne_iff_ne,ne_eq,beq_iff_eq]at Mh;obtain ⟨gK,hof⟩:=Mh;have ih:=fun r=>Jw ts' fs (n+1) l m l' m' r hl hm jQ
      have jT:∀(q:List Value) (x:Value) (qs:List Value),q.drop n=x::qs->q[n]?=some x/\q.drop (n+1)=qs:=fun q x qs e=>by
       constructor
       . have:=congrArg (fun z=>z[0]?) e
         simpa [List.getElem?_drop]using this
       . have:=congrArg (fun z=>z.drop 1) e
         simpa [List.drop_drop,Nat.add_comm]using this
      have kT:∀(q:List Value) (x:Value),q[n]?=some x->∀u,E.P.underlying f.type=some u->KD u=false->(part f.type ⟨q⟩ f.offset).run E.P w= .ok x w:=fun q x hq u hu ha=>by
       have:=ml (P:=E.P) (t:=f.type) w hu;rw [ha]at this;rw [hof];simp [part,this,Result.andThen,hq]
      cases Vl:l.drop n with
      |nil=>rw [Vl]at h;simp [OW]at h
      |cons x xs=>
      cases TD:m.drop n with
      |nil=>rw [Vl,TD]at h;simp [OW]at h
      |cons y ys=>
      rw [Vl,TD]at h;obtain ⟨l1,l2⟩:=jT l x xs Vl;obtain ⟨m1,m2⟩:=jT m y ys TD;obtain ⟨x',lx,rx⟩:=hl.get l1;obtain ⟨y',my,ry⟩:=hm.get m1;simp only [OW]at h;cases hc:eqC E b x y with
      |none=>rw [hc]at h;cases h
      |some q=>
      rw [hc]at h;obtain ⟨c1,c2⟩:=jI hE rx ry hc;have fin:∀u,E.P.underlying f.type=some u->KD u=false->(Op.equalIn (d+1) f.type x' y').run E.P w= .ok q w->(Op.eqFields (d+1) ⟨l'⟩ ⟨m'⟩ (f::fs)).run E.P w= .ok r w:=fun u hu ha e1=>by
       have p1:=kT l' _ lx _ hu ha;have p2:=kT m' _ my _ hu ha;cases q with
       |true=>
        simp only at h;have:=ih r (by rw [l2,m2];exact h) d w;simp only [Op.eqFields,gK,ne_eq,not_false_eq_true,if_true,Sem.run_bind,p1,p2,e1,Result.andThen]
        simpa using this
       |false=>
        simp only at h;cases h;simp only [Op.eqFields,gK,ne_eq,not_false_eq_true,if_true,Sem.run_bind,p1,p2,e1,Result.andThen];simp
      split at hb
      . rename_i k hu;cases hb;obtain ⟨k1,a1,a2,rfl,rfl,rfl⟩:=c1 rfl;refine fin _ hu rfl ?_
        rw [run_equalIn_int (P:=E.P) w d f.type k1 k a1 a2 hu];by_cases e:a1=a2<;>simp [e]
      . rename_i hu;cases hb;obtain ⟨a1,a2,rfl,rfl,rfl⟩:=c2 rfl;refine fin _ hu rfl ?_
        rw [run_equalIn_bool (P:=E.P) w d f.type a1 a2 hu]
      . cases hb
  . cases hf
omit hS in
theorem kI{op:BinOp}{ty:TypeId}{x y:Operand}{a b v a' b':Value}(ha:VR R a a')(hb:VR R b b'){r:Bool}(h:eqS E ty a b=some r)(hv:ur op r=some v)(w:World):
  Sk.flat v=true/\(do eqGuard op ty x y a' b';binOp op ty a' b':Sem Value).run E.P w= .ok v w:=by
 unfold eqS at h
 split at h
 . rename_i l m
   split at h
   . rename_i i hi;obtain ⟨ii,d,hT⟩:=hE.is hi
     split at h
     . rename_i ts jQ;obtain ⟨l',hl,rfl⟩:=wk ha;obtain ⟨m',hm,rfl⟩:=wk hb;have hq:i.eq=dQ E.P ty d:=by rw [hT.eq]
       rw [jQ]at hq;unfold dQ at hq
       split at hq
       . rename_i fs
         split at hq
         . rename_i Mh;simp only [Bool.and_eq_true,Bool.not_eq_true']at Mh;have hff:E.P.fieldsOf ty=fs:=by unfold Program.fieldsOf;rw [hT.Df]
           have hu:E.P.underlying ty=some (.struct (E.P.fieldsOf ty)):=by rw [hff];exact hT.Df
           have k1:=run_eqGuard_agg (P:=E.P) w op ty x y ⟨l'⟩ ⟨m'⟩ Mh.2
           have k2:=run_equalIn_struct (P:=E.P) w 9999 ty ⟨l'⟩ ⟨m'⟩ hu Mh.1
           rw [hff,Jw hE ts fs.toList 0 l.toList m.toList l' m' r hl hm hq.symm (by simpa using h) 9998 w]at k2;cases op<;>simp only [ur]at hv<;>first|(cases hv;done)|skip
           . cases hv;refine ⟨rfl, ?_⟩;rw [Sem.run_bind,k1];simp only [Result.andThen,run_eql_struct,k2]
           . cases hv;refine ⟨rfl, ?_⟩;rw [Sem.run_bind,k1];simp only [Result.andThen,run_neq_struct,k2,ke]
         . cases hq
       . cases hq
     . cases h
   . cases h
 . cases h
end
end Sk
end Go.Proofs.YtfnkmolffhfpoaaGreat
