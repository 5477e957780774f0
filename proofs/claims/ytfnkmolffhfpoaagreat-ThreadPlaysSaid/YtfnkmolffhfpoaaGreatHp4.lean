/- -/
import Derived.Test.YtfnkmolffhfpoaaGreatHp3
import Derived.Below
import Derived.Laws.Pointers
import Derived.Laws.Cover3
import Derived.MapKept
set_option linter.unusedVariables false
set_option linter.unusedSimpArgs false
set_option linter.unusedSectionVars false
namespace Go.Proofs.YtfnkmolffhfpoaaGreat
namespace Sk
open Go.RowKit
variable[Interp]
def Jp(R:Mp)(o:Na)(ro:Option Obj)(s:Nat):Prop:=
 match o with
 | .cells c e full=>∃c':Array Value,ro=some (.cells c' e (0,0))/\c'.size=s/\c.n<=s/\(full=true->c.n=s)/\∀i v,c.get i=some v->i<c.n/\∃v',c'[i]?=some v'/\VR R v v'
 | .map es=>∃(Gl:Array MapEntry) (clock:Nat),ro=some (.map Gl clock)/\es.length=Gl.size/\∀(i:Nat) (p:Value×Value) (e:MapEntry),es[i]?=some p->Gl[i]?=some e->VR R p.1 e.key/\VR R p.2 e.val
 | .loop st pe fn t ps a b d=>∃(fn':FuncId) (t':Array Value) (d' sd:Nat),ro=some (.loop ⟨st,pe,fn',t',ps,a,b,d'⟩)/\TR R t t'/\R d=some (d',sd)
 | .YB op=>ro=some (.deferred (if op then some []else none))
 | .gh _=>True
theorem Jp.mono{R R':Mp}(hle:R.le R'){o:Na}{ro:Option Obj}{s:Nat}(h:Jp R o ro s):Jp R' o ro s:=by
 cases o with
 |cells c e full=>obtain ⟨c',h1,h2,h3,h4,h5⟩:=h;exact ⟨c',h1,h2,h3,h4,fun i v hv=>by obtain ⟨q,v',a,b⟩:=h5 i v hv;exact ⟨q,v',a,b.mono hle⟩⟩
 |map es=>obtain ⟨Gl,cl,h1,h2,h3⟩:=h;exact ⟨Gl,cl,h1,h2,fun i p e a b=>⟨(h3 i p e a b).1.mono hle,(h3 i p e a b).2.mono hle⟩⟩
 |loop st pe fn t ps a b d=>obtain ⟨fn',t',d',sd,h1,h2,h3⟩:=h;exact ⟨fn',t',d',sd,h1,h2.mono hle,hle _ _ h3⟩
 |YB op=>exact h
 |gh e=>trivial
structure Ci(T:Nat->Prop)(w w':World):Prop where
 os:w'.os=w.os
 tape:w'.tape=w.tape
 output:w'.output=w.output
 size:w.heap.size<=w'.heap.size
 block:∀k,k<w.heap.size->¬T k->w'.heap[k]?=w.heap[k]?
theorem Ci.refl(T:Nat->Prop)(w:World):Ci T w w:=⟨rfl,rfl,rfl,Nat.le_refl _,fun _ _ _=>rfl⟩
theorem Ci.alloc{T:Nat->Prop}{w0 w:World}(h:Ci T w0 w)(o:Obj):Ci T w0 (w.alloc o):=
 ⟨h.os,h.tape,h.output,by show w0.heap.size<=(w.heap.push o).size;have:=h.size;simp;omega,fun k hk ht=>by
   rw [<-h.block k hk ht]
   show(w.heap.push o)[k]?=_
   rw [Array.getElem?_push,if_neg (by have:=h.size;omega)]⟩
def iO(B:Nat->Prop)(R:Mp)(σ:AH)(O:Nat->Nat->Prop)(w:World):Prop:=∀b r s e,R b=some (r,s)->σ.get b=some (.gh e)->
 (∃g,den e= .g g/\Interp.gh g r (O b) w)/\(∀k,O b k->B k)/\∀b2 r2 s2 o2,b2≠b->R b2=some (r2,s2)->σ.get b2=some o2->¬O b r2/\(∀e2,o2= .gh e2->∀k,O b k->¬O b2 k)
structure Qc(B:Nat->Prop)(w0:World)(R:Mp)(σ:AH)(w:World):Prop where
 tC:∀b x,R b=some x->b<σ.next
 lt:∀b r s,R b=some (r,s)->r<w.heap.size
 obj:∀b r s o,R b=some (r,s)->σ.get b=some o->B r/\Jp R o w.heap[r]? s
 inj:∀b1 b2 r s1 s2,R b1=some (r,s1)->R b2=some (r,s2)->b1≠b2->σ.get b1=none\/σ.get b2=none
 below:Ci B w0 w
 base:∀k,w0.heap.size<=k->B k
 MK:∃O,iO B R σ O w
theorem Wm(b o j:Nat):(⟨b,o,none⟩:Addr).add j=⟨b,o+j,none⟩:=by unfold Addr.add;split<;>simp_all
section
variable{E:Env}(hE:Yb E){B:Nat->Prop}{w0:World}{R:Mp}{σ:AH}{w:World}(hS:Qc B w0 R σ w)
include hE hS
theorem Xm{b r s:Nat}(hb:R b=some (r,s)){c:Row}{e:TypeId}{full:Bool}(hg:σ.get b=some (.cells c e full)):
  ∃c':Array Value,w.heap[r]?=some (.cells c' e (0,0))/\c'.size=s/\c.n<=s/\(full=true->c.n=s)/\∀i v,c.get i=some v->∃v',w.cell? ⟨r,i,none⟩=some v'/\c'[i]?=some v'/\VR R v v':=by
 obtain ⟨_,c',h1,h2,h3,h4,h5⟩:=hS.obj b r s _ hb hg;refine ⟨c',h1,h2,h3,h4,fun i v hv=> ?_⟩;obtain ⟨_,v',a,k⟩:=h5 i v hv;exact ⟨v',by simp [World.cell?,h1,a],a,k⟩
theorem rI{b r s:Nat}(hb:R b=some (r,s)){c:Row}{e:TypeId}{full:Bool}(hg:σ.get b=some (.cells c e full)){o m:Nat}{l:List Value}(hl:c.from o m=some l):
  ∃l':List Value,LR R l l'/\l'.length=m/\∀(j:Nat) (v:Value),l'[j]?=some v->w.cell? ((⟨r,o,none⟩:Addr).add j)=some v:=by
 obtain ⟨c',h1,h2,h3,h4,h5⟩:=Xm hE hS hb hg;obtain ⟨k1,k2⟩:=KE m c o l hl;have hle:∀j,j<m->∃v',c'[o+j]?=some v':=fun j hj=>by
  have:=k2 j hj;rw [List.getElem?_eq_getElem (by omega)]at this;obtain ⟨v',_,a,_⟩:=h5 _ _ this;exact ⟨v',a⟩
 have hlen:((c'.toList.drop o).take m).length=m:=by
  cases m with
  |zero=>simp
  |succ m=>
   obtain ⟨v',hv⟩:=hle m (by omega);have:=(Array.getElem?_eq_some_iff.1 hv).1
   simp;omega
 refine ⟨(c'.toList.drop o).take m,⟨by rw [hlen,k1],fun i x y hx hy=> ?_⟩,hlen,fun j v hv=> ?_⟩
 . have hi:i<m:=by have:=(List.getElem?_eq_some_iff.1 hx).1;omega
   have:=k2 i hi;rw [hx]at this;obtain ⟨v',_,a,k⟩:=h5 _ _ this;rw [List.getElem?_take,if_pos hi,List.getElem?_drop]at hy;have:c'.toList[o+i]?=some v':=by simpa using a
   rw [this]at hy;cases hy;exact k
 . have hj:j<m:=by have:=(List.getElem?_eq_some_iff.1 hv).1;omega
   rw [List.getElem?_take,if_pos hj,List.getElem?_drop]at hv;rw [Wm];have:c'[o+j]?=some v:=by simpa using hv
   simp [World.cell?,h1,this]
theorem vR{b r s:Nat}(hb:R b=some (r,s)){c:Row}{e:TypeId}{full:Bool}(hg:σ.get b=some (.cells c e full)){ty:TypeId}{o:Nat}{v:Value}(h:E.at ty c o=some v):
  ∃v',VR R v v'/\(loadVar ty ⟨r,o,none⟩).run E.P w= .ok v' w:=by
 unfold Env.at at h
 split at h
 . rename_i i hi;obtain ⟨ii,d,hT⟩:=hE.is hi;have hag:=qo (P:=E.P) (t:=ty) w hT.zg;rw [<-hT.agg]at hag
   split at h
   . rename_i ha;rw [ha]at hag;cases hf:c.from o i.size with
     |none=>rw [hf]at h;simp [Nv]at h
     |some l=>
      rw [hf]at h;simp only [Nv]at h;cases h;obtain ⟨l',h1,h2,h3⟩:=rI hE hS hb hg hf;have hr:=run_loadCells_list (P:=E.P) w ⟨r,o,none⟩ l' h3;refine ⟨_,h1.agg, ?_⟩;simp [loadVar,hag,Hd w hT.info,hT.size,Result.andThen,<-h2,hr]
   . rename_i ha;rw [ha]at hag;obtain ⟨c',_,_,_,_,h5⟩:=Xm hE hS hb hg;obtain ⟨v',k1,_,k2⟩:=h5 _ _ h;refine ⟨v',k2, ?_⟩;simp [loadVar,hag,Result.andThen,k1]
 . cases h
theorem qw{ty:TypeId}{u u' v:Value}(hu:VR R u u')(h:Ur E σ ty u=some v):∃v',VR R v v'/\(Instr.loadAt ty u').run E.P w= .ok v' w:=by
 unfold Ur at h
 split at h
 . rename_i b o
   split at h
   . rename_i c e full hg;obtain ⟨b',s,hb,rfl⟩:=ji hu;obtain ⟨v',h1,h2⟩:=vR hE hS hb hg h;exact ⟨v',h1,by simp [Instr.loadAt,Instr.sureAddr,Result.andThen,h2]⟩
   . rename_i e hg;obtain ⟨b',s,hb,rfl⟩:=ji hu;obtain ⟨O,hO⟩:=hS.MK;obtain ⟨⟨g,k1,k2⟩,_⟩:=hO _ _ _ _ hb hg;obtain ⟨v',⟨c,h1⟩,h2,h3⟩:=hE.oY e o ty v h g b' (O b) w k1 k2;exact ⟨v',Yc R h1 h2,by simp [Instr.loadAt,Instr.sureAddr,Result.andThen,h3]⟩
   . cases h
 . cases h
omit hE hS in
theorem uC{x:Value}{c:Nat}(h:Wf x=some c)(hs:Bm x=false):(∃k n,x= .int k n)\/∃b,x= .bool b:=by
 cases x with
 |int k n=>exact .inl ⟨k,n,rfl⟩
 |bool b=>exact .inr ⟨b,rfl⟩
 |func f l q=>cases f<;>first|(simp [Bm]at hs;done)|(simp [Wf]at h)
 |_=>simp [Wf]at h
omit hS in
theorem jO{q:Bool}{x y x' y':Value}(hx:VR R x x')(hy:VR R y y'){r:Bool}(h:eqC E q x y=some r):
  (q=true->∃k a b,x'= .int k a/\y'= .int k b/\r=decide (a=b))/\(q=false->∃a b,x'= .bool a/\y'= .bool b/\r=(a==b)):=by
 unfold eqC at h
 split at h
 . rename_i i j hi hj
   split at h
   . rename_i Vm hq;rw [Va]at Vm;have Vm:=of_decide_eq_true Vm;subst Vm;obtain ⟨dx,sx⟩:=Qi hx hi;obtain ⟨dy,sy'⟩:=Qi hy hj;have Dx:=D.of hx hi;have Dy:=D.of hy hj;rw [nk,xd]at hq;cases q with
     |true=>
      have h7:i<=7:=by simpa using hq
      obtain ⟨k,a,rfl,e1⟩:=sx.int h7;obtain ⟨k2,b,rfl,e2⟩:=sy'.int h7;have:k=k2:=Zb (by rw [Va];exact decide_eq_true (e1.symm.trans e2));subst this;refine ⟨fun _=>⟨k,a,b,rfl,rfl, ?_⟩,fun e=>by cases e⟩
      split at h
      . simp only at h;have hd:=Ip hE Dx Dy
        split at h
        . rename_i b0 he;cases h;rw [he]at hd;have:=hd.2
          simp only [den]at this;cases this;rfl
        . cases h
      . rename_i hs;cases h;rw [zl,Bool.or_eq_false_iff]at hs;rcases uC hi hs.1 with⟨k1,n1,rfl⟩|⟨b1,rfl⟩<;>rcases uC hj hs.2 with⟨k2,n2,rfl⟩|⟨b2,rfl⟩<;>simp only [den]at dx dy<;>cases dx<;>cases dy
        simp [Pv,Da,Sd,Va]
     |false=>
      have h7:¬i<=7:=by simpa using hq
      have h8:i=8:=by
       rcases sx with⟨k,n,_,e⟩|⟨e,_⟩
       . have:=Ag k;omega
       . exact e
      subst h8;obtain ⟨a,rfl⟩:=sx.bool;obtain ⟨b,rfl⟩:=sy'.bool;refine ⟨fun e=>(by cases e),fun _=>⟨a,b,rfl,rfl, ?_⟩⟩
      split at h
      . simp only at h
        split at h
        . rename_i hs;cases h;have:=Dx.same Dy hs;cases this;simp
        . cases h
      . rename_i hs;cases h;rw [zl,Bool.or_eq_false_iff]at hs;rcases uC hi hs.1 with⟨k1,n1,rfl⟩|⟨b1,rfl⟩<;>rcases uC hj hs.2 with⟨k2,n2,rfl⟩|⟨b2,rfl⟩<;>simp only [den]at dx dy<;>cases dx<;>cases dy
        simp [Pv,nk]
   . cases h
 . cases h
omit hS in
theorem IA:∀(ts:List Bool) (fs:List Field) (n:Nat) (l m l' m':List Value) (r:Bool),LR R l l'->LR R m m'->xq E.P n fs=some ts->eqL E ts (l.drop n) (m.drop n)=some r->
  ∀d w,(Op.eqFields (d+1) ⟨l'⟩ ⟨m'⟩ fs).run E.P w= .ok r w
 |ts,[],n,l,m,l',m',r,hl,hm,hf,h,d,w=>by
  simp [xq]at hf;subst hf;simp [eqL]at h;subst h;simp [Op.eqFields]
 |ts,f::fs,n,l,m,l',m',r,hl,hm,hf,h,d,w=>by
  simp only [xq]at hf
  split at hf
  . rename_i b ts' hb wY;cases hf;unfold oR at hb
    split at hb
    . cases hb
    . rename_i tg;simp only [Bool.and_eq_true,bne_iff_ne,ne_eq,beq_iff_eq]at tg;obtain ⟨NK,hof⟩:=tg;have ih:=fun r=>IA ts' fs (n+1) l m l' m' r hl hm wY
      have O3:∀(q:List Value) (x:Value) (qs:List Value),q.drop n=x::qs->q[n]?=some x/\q.drop (n+1)=qs:=fun q x qs e=>by
       constructor
       . have:=congrArg (fun z=>z[0]?) e
         simpa [List.getElem?_drop]using this
       . have:=congrArg (fun z=>z.drop 1) e
         simpa [List.drop_drop,Nat.add_comm]using this
      have OK:∀(q:List Value) (x:Value),q[n]?=some x->∀u,E.P.underlying f.type=some u->iI u=false->(part f.type ⟨q⟩ f.offset).run E.P w= .ok x w:=fun q x hq u hu ha=>by
       have:=qo (P:=E.P) (t:=f.type) w hu;rw [ha]at this;rw [hof];simp [part,this,Result.andThen,hq]
      cases Xo:l.drop n with
      |nil=>rw [Xo]at h;simp [eqL]at h
      |cons x xs=>
      cases sI:m.drop n with
      |nil=>rw [Xo,sI]at h;simp [eqL]at h
      |cons y ys=>
      rw [Xo,sI]at h;obtain ⟨l1,l2⟩:=O3 l x xs Xo;obtain ⟨m1,m2⟩:=O3 m y ys sI;obtain ⟨x',lx,rx⟩:=hl.get l1;obtain ⟨y',my,ry⟩:=hm.get m1;simp only [eqL]at h;cases hc:eqC E b x y with
      |none=>rw [hc]at h;cases h
      |some q=>
      rw [hc]at h;obtain ⟨c1,c2⟩:=jO hE rx ry hc;have fin:∀u,E.P.underlying f.type=some u->iI u=false->(Op.equalIn (d+1) f.type x' y').run E.P w= .ok q w->(Op.eqFields (d+1) ⟨l'⟩ ⟨m'⟩ (f::fs)).run E.P w= .ok r w:=fun u hu ha e1=>by
       have p1:=OK l' _ lx _ hu ha;have p2:=OK m' _ my _ hu ha;cases q with
       |true=>
        simp only at h;have:=ih r (by rw [l2,m2];exact h) d w;simp only [Op.eqFields,NK,ne_eq,not_false_eq_true,if_true,Sem.run_bind,p1,p2,e1,Result.andThen]
        simpa using this
       |false=>
        simp only at h;cases h;simp only [Op.eqFields,NK,ne_eq,not_false_eq_true,if_true,Sem.run_bind,p1,p2,e1,Result.andThen];simp
      split at hb
      . rename_i k hu;cases hb;obtain ⟨k1,a1,a2,rfl,rfl,rfl⟩:=c1 rfl;refine fin _ hu rfl ?_
        rw [run_equalIn_int (P:=E.P) w d f.type k1 k a1 a2 hu];by_cases e:a1=a2<;>simp [e]
      . rename_i hu;cases hb;obtain ⟨a1,a2,rfl,rfl,rfl⟩:=c2 rfl;refine fin _ hu rfl ?_
        rw [run_equalIn_bool (P:=E.P) w d f.type a1 a2 hu]
      . cases hb
  . cases hf
omit hS in
theorem kO{op:BinOp}{ty:TypeId}{x y:Operand}{a b v a' b':Value}(ha:VR R a a')(hb:VR R b b'){r:Bool}(h:eqS E ty a b=some r)(hv:Qv op r=some v)(w:World):
  Sk.flat v=true/\(do eqGuard op ty x y a' b';binOp op ty a' b':Sem Value).run E.P w= .ok v w:=by
 unfold eqS at h
 split at h
 . rename_i l m
   split at h
   . rename_i i hi;obtain ⟨ii,d,hT⟩:=hE.is hi
     split at h
     . rename_i ts wY;obtain ⟨l',hl,rfl⟩:=mi ha;obtain ⟨m',hm,rfl⟩:=mi hb;have hq:i.eq=sY E.P ty d:=by rw [hT.eq]
       rw [wY]at hq;unfold sY at hq
       split at hq
       . rename_i fs
         split at hq
         . rename_i tg;simp only [Bool.and_eq_true,Bool.not_eq_true']at tg;have hff:E.P.fieldsOf ty=fs:=by unfold Program.fieldsOf;rw [hT.zg]
           have hu:E.P.underlying ty=some (.struct (E.P.fieldsOf ty)):=by rw [hff];exact hT.zg
           have k1:=run_eqGuard_agg (P:=E.P) w op ty x y ⟨l'⟩ ⟨m'⟩ tg.2
           have k2:=run_equalIn_struct (P:=E.P) w 9999 ty ⟨l'⟩ ⟨m'⟩ hu tg.1
           rw [hff,IA hE ts fs.toList 0 l.toList m.toList l' m' r hl hm hq.symm (by simpa using h) 9998 w]at k2;cases op<;>simp only [Qv]at hv<;>first|(cases hv;done)|skip
           . cases hv;refine ⟨rfl, ?_⟩;rw [Sem.run_bind,k1];simp only [Result.andThen,run_eql_struct,k2]
           . cases hv;refine ⟨rfl, ?_⟩;rw [Sem.run_bind,k1];simp only [Result.andThen,run_neq_struct,k2,Cd]
         . cases hq
       . cases hq
     . cases h
   . cases h
 . cases h
end
end Sk
end Go.Proofs.YtfnkmolffhfpoaaGreat
namespace Go.Proofs.YtfnkmolffhfpoaaGreat
namespace Sk
open Go.RowKit
variable[Interp]
theorem vC{P:Program}{w:World}{r1 o1 r2 o2:Nat}{c1 c2:Array Value}{e1 e2:TypeId}(h1:w.heap[r1]?=some (.cells c1 e1 (0,0)))(h2:w.heap[r2]?=some (.cells c2 e2 (0,0))):
  (sameAddr ⟨r1,o1,none⟩ ⟨r2,o2,none⟩).run P w= .ok (if r1=r2 then decide (o1=o2)else false) w:=by
 have f1:∀o,w.frozen? ⟨r1,o,none⟩=false:=fun o=>by simp [World.frozen?,h1]
 have f2:∀o,w.frozen? ⟨r2,o,none⟩=false:=fun o=>by simp [World.frozen?,h2]
 have s1:w.shape? r1=some (e1,c1.size):=by simp [World.shape?,h1]
 have s2:w.shape? r2=some (e2,c2.size):=by simp [World.shape?,h2]
 by_cases h:r1=r2
 . subst h;simp [sameAddr];by_cases ho:o1=o2<;>simp [ho]
 . simp [sameAddr,h,frozen,Sem.run,f1,f2,noView,viewAt,shape,s1,s2,mayBeOne,stringish,Result.andThen]
structure xY(P:Program)(w:World)(op:BinOp)(ty:TypeId)(x y:Operand)(a b:Value)(r:Bool):Prop where
 guard:(eqGuard op ty x y a b).run P w= .ok () w
 eq:∀d,(Op.equalIn (d+1) ty a b).run P w= .ok r w
 eql:binOp .eql ty a b=do pure (.bool (<-Op.equal ty a b))
 neq:binOp .neq ty a b=do pure (.bool (!(<-Op.equal ty a b)))
theorem xY.out{P:Program}{w:World}{op:BinOp}{ty:TypeId}{x y:Operand}{a b v:Value}{r:Bool}(h:xY P w op ty x y a b r)(hv:Qv op r=some v):
  Sk.flat v=true/\(do eqGuard op ty x y a b;binOp op ty a b:Sem Value).run P w= .ok v w:=by
 have k1:(Op.equal ty a b).run P w= .ok r w:=h.eq 9999
 cases op<;>simp only [Qv]at hv<;>first|(cases hv;done)|skip
 . cases hv;refine ⟨rfl, ?_⟩;rw [Sem.run_bind,h.guard,h.eql];simp [Result.andThen,k1]
 . cases hv;refine ⟨rfl, ?_⟩;rw [Sem.run_bind,h.guard,h.neq];simp [Result.andThen,k1,Cd]
theorem lO{P:Program}{w:World}{R:Mp}{op:BinOp}{ty:TypeId}{i:Ti}{ii:TypeInfo}{d:TypeDesc}(hT:Tg P ty i ii d){x y:Operand}{a b a' b':Value}(ha:VR R a a')(hb:VR R b b'){r:Bool}
  (hn:gR a b=some r)(hf:fits i.ds a=true):xY P w op ty x y a' b' r:=by
 unfold gR at hn
 split at hn
 . rename_i q;cases hn;cases Le:i.ds<;>simp only [Le,fits]at hf<;>first|(cases hf;done)|skip
   have:=hT.pt Le;subst this;have e1:=Ic ha rfl;subst e1;have e2:∃p,b'= .pointer p/\q.isNone=p.isNone:=by
    cases hb with
    |flat v h=>exact ⟨_,rfl,rfl⟩
    |ptr b o b' s h=>exact ⟨_,rfl,rfl⟩
   obtain ⟨p,rfl,hq⟩:=e2;rw [hq];exact ⟨by cases op<;>simp [eqGuard],fun d=>by simp [Op.equalIn,eb w hT.zg,Result.andThen],rfl,rfl⟩
 . skip
   cases hn;cases Le:i.ds<;>simp only [Le,fits]at hf<;>first|(cases hf;done)|skip
   have:=hT.pt Le;subst this;obtain ⟨b,o,b',s,rfl,_,rfl⟩:=KK ha;have e1:=Ic hb rfl;subst e1;exact ⟨by cases op<;>simp [eqGuard],fun d=>by simp [Op.equalIn,eb w hT.zg,Result.andThen],rfl,rfl⟩
 . rename_i n c q m cc;cases hn;cases Le:i.ds<;>simp only [Le,fits]at hf<;>first|(cases hf;done)|skip
   have:=hT.sl Le;subst this;have e1:∃n c,a'= .slice none n c:=by cases ha with|flat v h=>exact ⟨_,_,rfl⟩
   obtain ⟨n,c,rfl⟩:=e1;have e2:∃p n c,b'= .slice p n c/\q.isNone=p.isNone:=by cases hb<;>exact ⟨_,_,_,rfl,rfl⟩
   obtain ⟨p,n2,c2,rfl,hq⟩:=e2;rw [hq];exact ⟨by cases op<;>simp [eqGuard],fun d=>by simp [Op.equalIn,eb w hT.zg,Result.andThen],rfl,rfl⟩
 . skip
   cases hn;cases Le:i.ds<;>simp only [Le,fits]at hf<;>first|(cases hf;done)|skip
   have:=hT.sl Le;subst this;have e1:∃q n c,a'= .slice (some q) n c:=by
    cases ha with
    |flat v h=>simp [Mc]at h
    |_=>exact ⟨_,_,_,rfl⟩
   obtain ⟨q,n,c,rfl⟩:=e1;have e2:∃n c,b'= .slice none n c:=by cases hb with|flat v h=>exact ⟨_,_,rfl⟩
   obtain ⟨n2,c2,rfl⟩:=e2;exact ⟨by cases op<;>simp [eqGuard],fun d=>by simp [Op.equalIn,eb w hT.zg,Result.andThen],rfl,rfl⟩
 . rename_i q;cases hn;cases Le:i.ds<;>simp only [Le,fits]at hf<;>first|(cases hf;done)|skip
   have:=hT.mp Le;subst this;have e1:=Ic ha rfl;subst e1;have e2:∃p,b'= .map p/\q.isNone=p.isNone:=by cases hb<;>exact ⟨_,rfl,rfl⟩
   obtain ⟨p,rfl,hq⟩:=e2;rw [hq];exact ⟨by cases op<;>simp [eqGuard],fun d=>by simp [Op.equalIn,eb w hT.zg,Result.andThen],rfl,rfl⟩
 . skip
   cases hn;cases Le:i.ds<;>simp only [Le,fits]at hf<;>first|(cases hf;done)|skip
   have:=hT.mp Le;subst this;have e1:∃q,a'= .map (some q):=by
    cases ha with
    |flat v h=>simp [Mc]at h
    |map r r' s h=>exact ⟨_,rfl⟩
   obtain ⟨q,rfl⟩:=e1;have e2:=Ic hb rfl;subst e2;exact ⟨by cases op<;>simp [eqGuard],fun d=>by simp [Op.equalIn,eb w hT.zg,Result.andThen],rfl,rfl⟩
 . skip
   cases hn;cases Le:i.ds<;>simp only [Le,fits]at hf<;>first|(cases hf;done)|skip
   obtain ⟨_,_,_,rfl⟩:=hT.fn Le;have e1:=Ic ha rfl;have e2:=Ic hb rfl;subst e1;subst e2;exact ⟨by cases op<;>simp [eqGuard],fun d=>by simp [Op.equalIn,eb w hT.zg,Result.andThen],rfl,rfl⟩
 . skip
   cases hn;cases Le:i.ds<;>simp only [Le,fits]at hf<;>first|(cases hf;done)|skip
   obtain ⟨_,_,_,rfl⟩:=hT.fn Le;have e1:=Ic ha rfl;subst e1;have e2:∃f q c,b'= .func f q c:=by cases hb<;>exact ⟨_,_,_,rfl⟩
   obtain ⟨f,q,c,rfl⟩:=e2;exact ⟨by cases op<;>simp [eqGuard],fun d=>by simp [Op.equalIn,eb w hT.zg,Result.andThen],rfl,rfl⟩
 . skip
   cases hn;cases Le:i.ds<;>simp only [Le,fits]at hf<;>first|(cases hf;done)|skip
   obtain ⟨_,_,_,rfl⟩:=hT.fn Le;have e1:=Ic hb rfl;subst e1;have e2:∃f q c,a'= .func f q c:=by cases ha<;>exact ⟨_,_,_,rfl⟩
   obtain ⟨f,q,c,rfl⟩:=e2;exact ⟨by cases op<;>simp [eqGuard],fun d=>by simp [Op.equalIn,eb w hT.zg,Result.andThen],rfl,rfl⟩
 . skip
   cases hn;cases Le:i.ds<;>simp only [Le,fits]at hf<;>first|(cases hf;done)|skip
   obtain ⟨_,rfl⟩:=hT.Kv Le;have e1:=Ic ha rfl;subst e1;have e2:∃t q,b'= .iface t q:=by
    cases hb with
    |flat v h=>simp [Mc]at h
    |Kv t v v' h=>exact ⟨_,_,rfl⟩
   obtain ⟨t,q,rfl⟩:=e2;exact ⟨by cases op<;>simp [eqGuard],fun d=>by simp [Op.equalIn,eb w hT.zg,Result.andThen],rfl,rfl⟩
 . skip
   cases hn;cases Le:i.ds<;>simp only [Le,fits]at hf<;>first|(cases hf;done)|skip
   obtain ⟨_,rfl⟩:=hT.Kv Le;have e1:=Ic hb rfl;subst e1;have e2:∃t q,a'= .iface t q:=by
    cases ha with
    |flat v h=>simp [Mc]at h
    |Kv t v v' h=>exact ⟨_,_,rfl⟩
   obtain ⟨t,q,rfl⟩:=e2;exact ⟨by cases op<;>simp [eqGuard],fun d=>by simp [Op.equalIn,eb w hT.zg,Result.andThen],rfl,rfl⟩
 . cases hn
section
variable{E:Env}(hE:Yb E){B:Nat->Prop}{w0:World}{R:Mp}{σ:AH}{w:World}(hS:Qc B w0 R σ w)
include hE hS
theorem mO{op:BinOp}{ty:TypeId}{i:Ti}(hi:E.ty ty=some i){x y:Operand}{a b v a' b':Value}(ha:VR R a a')(hb:VR R b b'){r:Bool}(h:eqP E σ i.ds a b=some r)(hv:Qv op r=some v):
  Sk.flat v=true/\(do eqGuard op ty x y a' b';binOp op ty a' b':Sem Value).run E.P w= .ok v w:=by
 obtain ⟨ii,d,hT⟩:=hE.is hi;unfold eqP at h
 split at h
 . rename_i r0 hn
   split at h
   . rename_i hf;cases h;exact (lO hT ha hb hn hf).out hv
   . cases h
 . split at h
   . rename_i b1 o1 b2 o2 e Le _;have:=hT.pt Le;subst this
     split at h
     . rename_i ie c1 e1 f1 c2 e2 f2 Im g1 g2;obtain ⟨ei,ed,sh⟩:=hE.is Im
       split at h
       . cases h
       . rename_i n hn;cases h;obtain ⟨r1,s1,k1,rfl⟩:=ji ha;obtain ⟨r2,s2,k2,rfl⟩:=ji hb;obtain ⟨c1',m1,_⟩:=Xm hE hS k1 g1;obtain ⟨c2',m2,_⟩:=Xm hE hS k2 g2;have mj:¬(ei.size=0):=by rw [sh.size,hn];omega
         have JA:=vC (P:=E.P) (w:=w) (o1:=o1) (o2:=o2) m1 m2;have hr:(if r1=r2 then decide (o1=o2)else false)=eqA b1 o1 b2 o2:=by
          unfold eqA;by_cases YE:b1=b2
          . subst YE;rw [k1]at k2;cases k2;simp [Va]
          . have Jc:r1≠r2:=fun e=>by
             subst e;rcases hS.inj b1 b2 r1 s1 s2 k1 k2 YE with h|h
             . rw [g1]at h;cases h
             . rw [g2]at h;cases h
            simp [Va,YE,Jc]
         rw [hr]at JA;exact xY.out ⟨by cases op<;>simp [eqGuard],fun d=>by simp [Op.equalIn,eb w hT.zg,Result.andThen,Hd w sh.info,mj,JA],rfl,rfl⟩ hv
     . cases h
   . cases h
theorem wR{op:BinOp}{ty:TypeId}{x y:Operand}{a b v a' b':Value}(ha:VR R a a')(hb:VR R b b')(h:Sae E σ op ty x y a b=some v):
  ∃v',VR R v v'/\(do eqGuard op ty x y a' b';binOp op ty a' b':Sem Value).run E.P w= .ok v' w:=by
 unfold Sae at h
 split at h
 . rename_i r hr;obtain ⟨h1,h2⟩:=kO hE (op:=op) (x:=x) (y:=y) ha hb hr h w;exact ⟨_,Bf R h1,h2⟩
 . split at h
   . rename_i v0 hs;cases h;obtain ⟨v',k,k',m,n,rfl,rfl,hq,hd⟩:=Gq hE ha hb hs;exact ⟨v',hd.vr R,QE hq w⟩
   . split at h
     . rename_i v0 h0;cases h;exact ⟨_,Bf R (FA h0),jw ha hb h0 w⟩
     . split at h
       . cases h
       . rename_i i hi
         split at h
         . cases h
         . rename_i r hr;obtain ⟨h1,h2⟩:=mO hE hS hi (op:=op) (x:=x) (y:=y) ha hb hr h;exact ⟨_,Bf R h1,h2⟩
end
def IsB(x:Option Value)(d n:Nat):Prop:=(x=none/\n=d)\/∃k,x=some (.int k (n:Int))
theorem Eh{R:Mp}{t:Tm}{a:Act}(ht:TR R t a.tmps){x:Option Operand}{d n:Nat}(h:dC t x d=some n):IsB (x.map a.eval) d n:=by
 unfold dC at h
 split at h
 . cases h;exact .inl ⟨rfl,rfl⟩
 . split at h
   . rename_i v hv;have hv:=Qa ht hv;cases v with
     |int k m=>cases m with
      |ofNat m=>simp [asN]at h;subst h;exact .inr ⟨k,by rw [Option.map_some,qc hv];rfl⟩
      |negSucc m=>simp [asN]at h
     |_=>simp [asN]at h
   . cases h
theorem run_sliceBound{P:Program}{w:World}{k:IntKind}{n y:Nat}{code:BoundsCode}(h:n<=y):(Instr.sliceBound (.int k (n:Int)) y code).run P w= .ok n w:=by
 have h':(n:Int)<=y:=by omega
 simp [Instr.sliceBound,asIntOf,h',h,Result.andThen]
theorem ni{P:Program}{w:World}{isS:Bool}{len cap l h:Nat}{lo hi:Option Value}(hl:IsB lo 0 l)(hh:IsB hi len h)(h1:l<=h)(h2:h<=cap):(Instr.sliceBounds isS len cap lo hi none).run P w= .ok (l,h,cap) w:=by
 rcases hl with⟨rfl,rfl⟩|⟨k,rfl⟩<;>rcases hh with⟨rfl,rfl⟩|⟨k2,rfl⟩<;>simp [Instr.sliceBounds,run_sliceBound,h1,h2,Result.andThen]
theorem Bs{P:Program}{w:World}{isS:Bool}{len cap l h m:Nat}{lo:Option Value}{kh km:IntKind}(hl:IsB lo 0 l)(h1:l<=h)(h2:h<=m)(h3:m<=cap):(Instr.sliceBounds isS len cap lo (some (.int kh (h:Int))) (some (.int km (m:Int)))).run P w= .ok (l,h,m) w:=by
 rcases hl with⟨rfl,rfl⟩|⟨k,rfl⟩<;>simp [Instr.sliceBounds,run_sliceBound,h1,h2,h3,Result.andThen]
theorem xo{R:Mp}{b o b' s l h m z:Nat}(hb:R b=some (b',s))(hz:1<=z)(h1:l<=h)(h2:h<=m):VR R (cutAt b o l h m z) (.slice (some (if m=l then⟨b',o,none⟩else(⟨b',o,none⟩:Addr).add (l*z))) (h -l) (m -l)):=by
 unfold cutAt;rw [Va];by_cases e:l=m
 . subst e;have:h -l=0:=by omega
   rw [if_pos rfl,this,Nat.sub_self];simp only [decide_true];exact .XN _
 . rw [if_neg (fun k=>e k.symm),Wm];simp only [e,decide_false];exact .MQ b _ b' s _ z (m -l) hb hz (show h -l<=m -l by omega)
theorem Pt{R:Mp}{sz l h b o n z:Nat}{mm sp:Option Nat}{v x':Value}(hx:VR R (.slice (some ⟨b,o,sp⟩) n z) x')(hv:Pm sz l h mm b o sp n z=some v)(c1:l<=h)(c2:h<=n):
  ∃(ad:Addr) (cap:Nat) (v':Value),x'= .slice (some ad) n cap/\n<=cap/\VR R v v'/\(mm=none->v'= .slice (some (if cap=l then ad else ad.add (l*sz))) (h -l) (cap -l))/\
   (∀m,mm=some m->h<=m/\m<=cap/\v'= .slice (some (if m=l then ad else ad.add (l*sz))) (h -l) (m -l)):=by
 cases hx with
 |flat v h=>simp [Mc]at h
 |dI ad c'=>
  have hl:l=0:=by omega
  have hh:h=0:=by omega
  subst hl;subst hh;cases mm with
  |none=>
   simp [Pm]at hv;subst hv;exact ⟨ad,c',_,rfl,by omega, .dI _ _,fun _=>rfl,fun m e=>by cases e⟩
  |some m=>
   cases m with
   |zero=>simp [Pm]at hv;subst hv;exact ⟨ad,c',_,rfl,by omega, .XN _,(fun e=>by cases e),fun m e=>by cases e;exact ⟨by omega,by omega,rfl⟩⟩
   |succ m=>simp [Pm]at hv
 |XN ad=>
  have hl:l=0:=by omega
  have hh:h=0:=by omega
  subst hl;subst hh;cases mm with
  |none=>
   simp [Pm]at hv;subst hv;exact ⟨ad,0,_,rfl,by omega, .XN _,fun _=>rfl,fun m e=>by cases e⟩
  |some m=>
   cases m with
   |zero=>simp [Pm]at hv;subst hv;exact ⟨ad,0,_,rfl,by omega, .XN _,(fun e=>by cases e),fun m e=>by cases e;exact ⟨by omega,by omega,rfl⟩⟩
   |succ m=>simp [Pm]at hv
 |Fz b o b' s n z c' hb hz hc hn=>
  obtain ⟨z,rfl⟩:∃q,z=q+1:=⟨z -1,by omega⟩;simp only [Pm]at hv
  split at hv
  . cases hv
  . rename_i uh;rw [Va]at uh;have uh:=of_decide_eq_true uh;cases mm with
    |none=>
     refine ⟨⟨b',o,none⟩,c',_,rfl,hn, ?_,fun _=>rfl,fun m e=>by cases e⟩;simp only [Va,xd]at hv;by_cases Xo:l=0\/l<n
     . have h2:v= .slice (some ⟨b,o+l*(z+1),none⟩) (h -l) (z+1):=by
        rcases Xo with Xo|Xo
        . simp only [Xo,decide_true]at hv;cases hv;simp only [Xo];rfl
        . have:decide (l.succ<=n)=true:=decide_eq_true Xo;rw [this]at hv
          split at hv
          . rename_i q;cases q
          . cases hv;rfl
       subst h2;rw [uh];have hle:l<=c':=by omega
       have e1:(if c'=l then(⟨b',o,none⟩:Addr)else(⟨b',o,none⟩:Addr).add (l*(z+1)))=if c'=l then(⟨b',o,none⟩:Addr)else⟨b',o+l*(z+1),none⟩:=by rw [Wm]
       rw [e1];by_cases e:c'=l
       . have:l=0:=by omega
         subst this;rw [if_pos e];have:=VR.Fz (R:=R) b o b' s (h -0) (z+1) (c' -0) hb (by omega) (by simpa using hc) (by omega)
         simpa using this
       . rw [if_neg e];refine .Fz b _ b' s _ (z+1) (c' -l) hb (by omega) ?_ (by omega)
         rw [Nat.sub_mul];have:=Nat.mul_le_mul_right (z+1) hle;omega
     . have d1:decide (l=0)=false:=decide_eq_false (by omega);have d2:decide (l.succ<=n)=false:=decide_eq_false (by omega);rw [d1,d2]at hv;cases hv;have:h -l=0:=by omega
       rw [this];exact .dI _ _
    |some m=>
     simp only [xd]at hv
     split at hv
     . rename_i d1 d2;have d1:=of_decide_eq_true d1;have d2:=of_decide_eq_true d2;cases hv;exact ⟨⟨b',o,none⟩,c',_,rfl,hn,xo hb (by omega) c1 d1,fun e=>(by cases e),fun m' e=>by cases e;exact ⟨d1,by omega,by rw [uh]⟩⟩
     . cases hv
 |MQ b o b' s n z c hb hz hn=>
  obtain ⟨z,rfl⟩:∃q,z=q+1:=⟨z -1,by omega⟩;simp only [Pm]at hv
  split at hv
  . cases hv
  . rename_i uh;rw [Va]at uh;have uh:=of_decide_eq_true uh;cases mm with
    |none=>
     simp only at hv;cases hv;exact ⟨⟨b',o,none⟩,c,_,rfl,hn,xo hb (by omega) c1 (by omega),fun e=>by rw [uh],fun m e=>by cases e⟩
    |some m=>
     simp only [xd]at hv
     split at hv
     . rename_i d1 d2;have d1:=of_decide_eq_true d1;have d2:=of_decide_eq_true d2;cases hv;exact ⟨⟨b',o,none⟩,c,_,rfl,hn,xo hb (by omega) c1 d1,fun e=>(by cases e),fun m' e=>by cases e;exact ⟨d1,d2,by rw [uh]⟩⟩
     . cases hv
section
variable{E:Env}(hE:Yb E){R:Mp}{t:Tm}{a:Act}(ht:TR R t a.tmps)
include hE ht
theorem ZE{ty:TypeId}{x v x':Value}{lo hi mx:Option Operand}(hx:VR R x x')(h:eo E t ty x lo hi mx=some v)(w:World):
  ∃v',VR R v v'/\(Instr.sliceAt ty x' (lo.map a.eval) (hi.map a.eval) (mx.map a.eval)).run E.P w= .ok v' w:=by
 unfold eo at h
 split at h
 . cases h
 . rename_i i hi0;obtain ⟨ii,d,hT⟩:=hE.is hi0
   split at h
   . rename_i n e b o Le;have:=hT.ar Le;subst this
     split at h
     . rename_i ie l hh Im hl hhi;obtain ⟨ei,ed,sh⟩:=hE.is Im
       split at h
       . cases h
       . rename_i z hz
         split at h
         . rename_i c1 c2;cases h;rw [xd]at c1 c2;have c1:=of_decide_eq_true c1;have c2:=of_decide_eq_true c2;obtain ⟨b',s,hb,rfl⟩:=ji hx;refine ⟨_,xo hb (by omega) c1 c2, ?_⟩;simp [Instr.sliceAt,eb w hT.zg,Instr.sureAddr,Result.andThen,ni (Eh ht hl) (Eh ht hhi) c1 c2,Hd w sh.info,sh.size,hz]
         . cases h
     . cases h
   . rename_i e Le;have:=hT.sl Le;subst this
     split at h
     . rename_i ie Im hl hhi;obtain ⟨ei,ed,sh⟩:=hE.is Im;cases h;have:=Ic hx rfl;subst this;refine ⟨_, .flat _ rfl, ?_⟩;have:=ni (P:=E.P) (w:=w) (isS:=true) (cap:=0) (Eh ht hl) (Eh ht hhi) (Nat.le_refl 0) (Nat.le_refl 0);simp [Instr.sliceAt,Instr.slice,eb w hT.zg,Result.andThen,this,Hd w sh.info]
     . cases h
   . rename_i e b o sp n z Le;have:=hT.sl Le;subst this
     split at h
     . rename_i ie l hh Im hl hhi;obtain ⟨ei,ed,sh⟩:=hE.is Im
       split at h
       . rename_i c1 c2;rw [xd]at c1 c2;have c1:=of_decide_eq_true c1;have c2:=of_decide_eq_true c2;have bl:=Eh ht hl;have bh:=Eh ht hhi;have sz:ei.size=ie.size:=sh.size;have two:∀(ad:Addr) (cap:Nat),n<=cap->mx=none->x'= .slice (some ad) n cap->(Instr.sliceAt ty x' (lo.map a.eval) (hi.map a.eval) (mx.map a.eval)).run E.P w= .ok (.slice (some (if cap=l then ad else ad.add (l*ie.size))) (hh -l) (cap -l)) w:=fun ad cap hc hm e=>by
          subst hm;subst e;have:=ni (P:=E.P) (w:=w) (isS:=true) (cap:=cap) bl bh c1 (by omega);simp [Instr.sliceAt,Instr.slice,eb w hT.zg,Result.andThen,this,Hd w sh.info,sz]
          split<;>simp_all
         have three:∀(ad:Addr) (cap m:Nat),(∃xm xh,mx=some xm/\hi=some xh/\dC t (some xm) 0=some m)->hh<=m->m<=cap->x'= .slice (some ad) n cap->(Instr.sliceAt ty x' (lo.map a.eval) (hi.map a.eval) (mx.map a.eval)).run E.P w= .ok (.slice (some (if m=l then ad else ad.add (l*ie.size))) (hh -l) (m -l)) w:=fun ad cap m hm h1 h2 e=>by
          obtain ⟨xm,xh,rfl,rfl,hb⟩:=hm;subst e;have bm:=Eh ht hb;rcases bm with⟨bm,_⟩|⟨km,bm⟩
          . cases bm
          rcases bh with⟨bh,_⟩|⟨kh,bh⟩
          . cases bh
          have:=Bs (P:=E.P) (w:=w) (isS:=true) (len:=n) (cap:=cap) (kh:=kh) (km:=km) bl c1 h1 h2;rw [bm,bh];simp [Instr.sliceAt,Instr.slice,eb w hT.zg,Result.andThen,this,Hd w sh.info,sz]
          split<;>simp_all
         split at h
         . obtain ⟨ad,cap,v',e1,e2,e3,e4,_⟩:=Pt hx h c1 c2;exact ⟨v',e3,by rw [two ad cap e2 rfl e1,e4 rfl]⟩
         . split at h
           . rename_i m _ hm;obtain ⟨ad,cap,v',e1,e2,e3,_,e5⟩:=Pt hx h c1 c2;obtain ⟨q1,q2,q3⟩:=e5 _ rfl;exact ⟨v',e3,by rw [three ad cap _ ⟨_,_,rfl,rfl,hm⟩ q1 q2 e1,q3]⟩
           . cases h
       . cases h
     . cases h
   . cases h
end
theorem aF{P:Program}{w:World}{kt:TypeId}{kd:IntKind}{q:IntKind}{n:Int}(hd:P.underlying kt=some (.int kd))(e:Bool)(m:Nat):(Instr.checkKey e (m+1) kt (.int q n)).run P w= .ok () w:=by
 unfold Instr.checkKey;simp [eb w hd,Result.andThen]
theorem Jq{P:Program}{w:World}{kt:TypeId}{d:TypeDesc}{k:Value}{l:List MapEntry}{a:Option (Nat×Value)}(hd:P.underlying kt=some d)(h:Instr.findNow d k l 0=some a):(Instr.findKey kt k l).run P w= .ok a w:=by
 simp [Instr.findKey,eb w hd,Result.andThen,h]
theorem Hl{k e:Value}{b:Bool}(h:FK k e=some b):∃q n m,k= .int q n/\e= .int q m/\b=decide (n=m):=by
 cases k<;>cases e<;>simp only [FK]at h<;>first|(cases h;done)|skip
 rename_i q n q' m
 split at h
 . rename_i hk;have:=Zb hk;subst this;cases h;exact ⟨q,n,m,rfl,rfl,by rw [Sd]⟩
 . cases h
theorem Kp{R:Mp}{k:Value}{kd:IntKind}:∀(es:List (Value×Value)) (Gl:List MapEntry) (r:Option Value),es.length=Gl.length->
  (∀(i:Nat) (p:Value×Value) (e:MapEntry),es[i]?=some p->Gl[i]?=some e->VR R p.1 e.key/\VR R p.2 e.val)->CE k es=some r->∀i:Nat,
  match r with
  |none=>Instr.findNow (.int kd) k Gl i=some none
  |some v=>∃j v',Instr.findNow (.int kd) k Gl i=some (some (j,v'))/\VR R v v'
 |[],Gl,r,hl,hp,h,i=>by
  have:Gl=[]:=by simpa using hl.symm
  subst this;simp [CE]at h;subst h;simp [Instr.findNow]
 |p::es,[],r,hl,hp,h,i=>by simp at hl
 |p::es,e::Gl,r,hl,hp,h,i=>by
  obtain ⟨h1,h2⟩:=hp 0 p e rfl rfl;simp only [CE]at h
  split at h
  . rename_i hs;cases h;obtain ⟨q,n,m,rfl,he,hb⟩:=Hl hs;rw [he]at h1;have:=qc h1;have NK:n=m:=of_decide_eq_true hb.symm;simp only;refine ⟨i,e.val, ?_,h2⟩;simp [Instr.findNow,this,Instr.sameNow,NK]
  . rename_i hs;obtain ⟨q,n,m,rfl,he,hb⟩:=Hl hs;rw [he]at h1;have:=qc h1;have NK:¬n=m:=of_decide_eq_false hb.symm;have ih:=Kp (kd:=kd) es Gl r (by simpa using hl) (fun i p e a b=>hp (i+1) p e (by simpa using a) (by simpa using b)) h (i+1);have e2:Instr.findNow (.int kd) (.int q n) (e::Gl) i=Instr.findNow (.int kd) (.int q n) Gl (i+1):=by
     have:(n==m)=false:=by simpa using NK
     simp [Instr.findNow,‹e.key=_›,Instr.sameNow,this]
    rw [e2];exact ih
  . cases h
section
variable{E:Env}(hE:Yb E){B:Nat->Prop}{w0:World}{R:Mp}{σ:AH}{w:World}(hS:Qc B w0 R σ w)
include hE hS
theorem wC{ty:TypeId}{m k v m' k':Value}{ok:Bool}(hm:VR R m m')(hk:VR R k k')(h:Sv E σ ty m k ok=some v):∃v',VR R v v'/\(Instr.lookup ty m' k' ok).run E.P w= .ok v' w:=by
 unfold Sv at h
 split at h
 . rename_i i r hi;obtain ⟨ii,d,hT⟩:=hE.is hi
   split at h
   . rename_i kt et es Le hik hg;have:=hT.mp Le;subst this
     split at h
     . rename_i ik ie hkt het;obtain ⟨ki,kd,yY⟩:=hE.is hkt;obtain ⟨ei,ed,sh⟩:=hE.is het
       split at h
       . rename_i z OQ hz;obtain ⟨kk,rfl⟩:∃kk,_=TypeDesc.int kk:=⟨_,yY.it OQ⟩;obtain ⟨Mi,uh⟩:=sh.zero hz;have M3:∃q n,k= .int q n:=by cases k<;>simp [isI]at hik;exact ⟨_,_,rfl⟩
         obtain ⟨q,n,rfl⟩:=M3;have:=qc hk;subst this;have hr:∃r' s,m'= .map (some r')/\R r=some (r',s):=by
          cases hm with
          |flat v h=>simp [Mc]at h
          |map r r' s h=>exact ⟨r',s,rfl,h⟩
         obtain ⟨r',s,rfl,hr⟩:=hr;obtain ⟨_,Gl,cl,h1,h2,h3⟩:=hS.obj r r' s _ hr hg;have jg:=aF (P:=E.P) (w:=w) (q:=q) (n:=n) yY.zg (Gl.isEmpty) 9999;have Vj:(getObj r').run E.P w= .ok (.map Gl cl) w:=by simp [getObj,Sem.run,h1]
         split at h
         . rename_i u hf;cases h;obtain ⟨j,u',e1,e2⟩:=Kp (kd:=kk) es Gl.toList (some u) (by simpa using h2) (fun i p e a b=>h3 i p e a (by simpa using b)) hf 0;have zY:=Jq (P:=E.P) (w:=w) yY.zg e1;cases ok
           . exact ⟨u',e2,by simp [Instr.lookup,eb w hT.zg,Result.andThen,Vj,jg,zY]⟩
           . exact ⟨.tuple #[u', .bool true],(LR.cons e2 (LR.cons (.flat _ rfl) (LR.nil R))).kI,by simp [Instr.lookup,eb w hT.zg,Result.andThen,Vj,jg,zY]⟩
         . rename_i hf;cases h;have e1:=Kp (kd:=kk) es Gl.toList none (by simpa using h2) (fun i p e a b=>h3 i p e a (by simpa using b)) hf 0;have zY:=Jq (P:=E.P) (w:=w) yY.zg e1;cases ok
           . exact ⟨z,Bf R uh,by simp [Instr.lookup,eb w hT.zg,Result.andThen,Vj,jg,zY,Bq w sh.info Mi]⟩
           . exact ⟨.tuple #[z, .bool false],(LR.cons (Bf R uh) (LR.cons (.flat _ rfl) (LR.nil R))).kI,by simp [Instr.lookup,eb w hT.zg,Result.andThen,Vj,jg,zY,Bq w sh.info Mi]⟩
         . cases h
       . cases h
     . cases h
   . cases h
 . cases h
theorem tI{t:Tm}{a:Act}(ht:TR R t a.tmps)(o:Oper)(hc:cls o.op= .read){v:Value}(h:Pf E t σ o.op=some v):∃v',VR R v v'/\(execOp a.eval o).run E.P w= .ok (.value v') w:=by
 obtain ⟨dst,op,tp,pos,af,g⟩:=o;cases op with
 |load ty x=>
  simp only [Pf]at h
  split at h
  . rename_i u hu;obtain ⟨v',h1,h2⟩:=qw hE hS (Qa ht hu) h;exact ⟨v',h1,Dh h2⟩
  . cases h
 |binOp op ty x y yt=>
  simp only [Pf]at h
  split at h
  . rename_i u hu
    split at h
    . rename_i u2 AY;obtain ⟨v',h1,h2⟩:=wR hE hS (Qa ht hu) (Qa ht AY) h;exact ⟨v',h1,Dh h2⟩
    . cases h
  . cases h
 |slice ty x lo hi mx=>
  simp only [Pf]at h
  split at h
  . rename_i u hu;obtain ⟨v',h1,h2⟩:=ZE hE ht (Qa ht hu) h w;exact ⟨v',h1,Dh h2⟩
  . cases h
 |lookup ty x i ok=>
  simp only [Pf]at h
  split at h
  . rename_i u k hu hk;obtain ⟨v',h1,h2⟩:=wC hE hS (Qa ht hu) (Qa ht hk) h;exact ⟨v',h1,Dh h2⟩
  . cases h
 |call c=>simp only [cls]at hc;split at hc<;>cases hc
 |_=>simp [cls]at hc
end
end Sk
end Go.Proofs.YtfnkmolffhfpoaaGreat
