/- -/
import Derived.Test.YtfnkmolffhfpoaaGreatHq4
import Derived.Below
import Derived.Laws.Pointers
import Derived.Laws.Cover3
set_option linter.unusedVariables false
set_option linter.unusedSimpArgs false
set_option linter.unusedSectionVars false
namespace Go.Proofs.YtfnkmolffhfpoaaGreat
namespace Sk
open Go.RowKit
variable[Interp]
def Bq(R:Mp)(o:qa)(ro:Option Obj)(s:Nat):Prop:=
 match o with
 | .cells c e full=>∃c':Array Value,ro=some (.cells c' e (0,0))/\c'.size=s/\c.n<=s/\(full=true->c.n=s)/\∀i v,c.get i=some v->i<c.n/\∃v',c'[i]?=some v'/\VR R v v'
 | .map es=>∃(Dl:Array MapEntry) (clock:Nat),ro=some (.map Dl clock)/\es.length=Dl.size/\∀(i:Nat) (p:Value×Value) (e:MapEntry),es[i]?=some p->Dl[i]?=some e->VR R p.1 e.key/\VR R p.2 e.val
 | .loop st pe fn t ps a b d=>∃(O6:FuncId) (t':Array Value) (d' sd:Nat),ro=some (.loop ⟨st,pe,O6,t',ps,a,b,d'⟩)/\TR R t t'/\R d=some (d',sd)
 | .XA op=>ro=some (.deferred (if op then some []else none))
 | .gh _=>True
theorem Bq.mono{R R':Mp}(hle:R.le R'){o:qa}{ro:Option Obj}{s:Nat}(h:Bq R o ro s):Bq R' o ro s:=by
 cases o with
 |cells c e full=>obtain ⟨c',h1,h2,h3,h4,h5⟩:=h;exact ⟨c',h1,h2,h3,h4,fun i v hv=>by obtain ⟨q,v',a,b⟩:=h5 i v hv;exact ⟨q,v',a,b.mono hle⟩⟩
 |map es=>obtain ⟨Dl,cl,h1,h2,h3⟩:=h;exact ⟨Dl,cl,h1,h2,fun i p e a b=>⟨(h3 i p e a b).1.mono hle,(h3 i p e a b).2.mono hle⟩⟩
 |loop st pe fn t ps a b d=>obtain ⟨O6,t',d',sd,h1,h2,h3⟩:=h;exact ⟨O6,t',d',sd,h1,h2.mono hle,hle _ _ h3⟩
 |XA op=>exact h
 |gh e=>trivial
structure Lh(T:Nat->Prop)(w w':World):Prop where
 os:w'.os=w.os
 tape:w'.tape=w.tape
 output:w'.output=w.output
 size:w.heap.size<=w'.heap.size
 block:∀k,k<w.heap.size->¬T k->w'.heap[k]?=w.heap[k]?
theorem Lh.refl(T:Nat->Prop)(w:World):Lh T w w:=⟨rfl,rfl,rfl,Nat.le_refl _,fun _ _ _=>rfl⟩
theorem Lh.alloc{T:Nat->Prop}{w0 w:World}(h:Lh T w0 w)(o:Obj):Lh T w0 (w.alloc o):=
 ⟨h.os,h.tape,h.output,by show w0.heap.size<=(w.heap.push o).size;have:=h.size;simp;omega,fun k hk ht=>by
   rw [<-h.block k hk ht]
   show(w.heap.push o)[k]?=_
   rw [Array.getElem?_push,if_neg (by have:=h.size;omega)]⟩
def UL(B:Nat->Prop)(R:Mp)(σ:AH)(O:Nat->Nat->Prop)(w:World):Prop:=∀b r s e,R b=some (r,s)->σ.get b=some (.gh e)->
 (∃g,den e= .g g/\Interp.gh g r (O b) w)/\(∀k,O b k->B k)/\∀b2 r2 s2 o2,b2≠b->R b2=some (r2,s2)->σ.get b2=some o2->¬O b r2/\(∀e2,o2= .gh e2->∀k,O b k->¬O b2 k)
structure Vc(B:Nat->Prop)(w0:World)(R:Mp)(σ:AH)(w:World):Prop where
 DD:∀b x,R b=some x->b<σ.next
 lt:∀b r s,R b=some (r,s)->r<w.heap.size
 obj:∀b r s o,R b=some (r,s)->σ.get b=some o->B r/\Bq R o w.heap[r]? s
 inj:∀b1 b2 r s1 s2,R b1=some (r,s1)->R b2=some (r,s2)->b1≠b2->σ.get b1=none\/σ.get b2=none
 below:Lh B w0 w
 base:∀k,w0.heap.size<=k->B k
 kO:∃O,UL B R σ O w
theorem Sm(b o j:Nat):(⟨b,o,none⟩:Addr).add j=⟨b,o+j,none⟩:=by unfold Addr.add;split<;>simp_all
section
variable{E:Env}(hE:Rb E){B:Nat->Prop}{w0:World}{R:Mp}{σ:AH}{w:World}(hS:Vc B w0 R σ w)
include hE hS
theorem Um{b r s:Nat}(hb:R b=some (r,s)){c:Row}{e:TypeId}{full:Bool}(hg:σ.get b=some (.cells c e full)):
  ∃c':Array Value,w.heap[r]?=some (.cells c' e (0,0))/\c'.size=s/\c.n<=s/\(full=true->c.n=s)/\∀i v,c.get i=some v->∃v',w.cell? ⟨r,i,none⟩=some v'/\c'[i]?=some v'/\VR R v v':=by
 obtain ⟨_,c',h1,h2,h3,h4,h5⟩:=hS.obj b r s _ hb hg;refine ⟨c',h1,h2,h3,h4,fun i v hv=> ?_⟩;obtain ⟨_,v',a,k⟩:=h5 i v hv;exact ⟨v',by simp [World.cell?,h1,a],a,k⟩
theorem TG{b r s:Nat}(hb:R b=some (r,s)){c:Row}{e:TypeId}{full:Bool}(hg:σ.get b=some (.cells c e full)){o m:Nat}{l:List Value}(hl:c.from o m=some l):
  ∃l':List Value,LR R l l'/\l'.length=m/\∀(j:Nat) (v:Value),l'[j]?=some v->w.cell? ((⟨r,o,none⟩:Addr).add j)=some v:=by
 obtain ⟨c',h1,h2,h3,h4,h5⟩:=Um hE hS hb hg;obtain ⟨k1,k2⟩:=tD m c o l hl;have hle:∀j,j<m->∃v',c'[o+j]?=some v':=fun j hj=>by
  have:=k2 j hj;rw [List.getElem?_eq_getElem (by omega)]at this;obtain ⟨v',_,a,_⟩:=h5 _ _ this;exact ⟨v',a⟩
 have hlen:((c'.toList.drop o).take m).length=m:=by
  cases m with
  |zero=>simp
  |succ m=>
   obtain ⟨v',hv⟩:=hle m (by omega);have:=(Array.getElem?_eq_some_iff.1 hv).1
   simp;omega
 refine ⟨(c'.toList.drop o).take m,⟨by rw [hlen,k1],fun i x y hx hy=> ?_⟩,hlen,fun j v hv=> ?_⟩
 . have hi:i<m:=by have:=(List.getElem?_eq_some_iff.1 hx).1;omega
   have:=k2 i hi;rw [hx]at this;obtain ⟨v',_,a,k⟩:=h5 _ _ this;rw [List.getElem?_take,if_pos hi,List.getElem?_drop]at hy;have:c'.toList[o+i]?=some v':=by simpa using a
   rw [this]at hy;cases hy;exact k
 . have hj:j<m:=by have:=(List.getElem?_eq_some_iff.1 hv).1;omega
   rw [List.getElem?_take,if_pos hj,List.getElem?_drop]at hv;rw [Sm];have:c'[o+j]?=some v:=by simpa using hv
   simp [World.cell?,h1,this]
theorem NO{b r s:Nat}(hb:R b=some (r,s)){c:Row}{e:TypeId}{full:Bool}(hg:σ.get b=some (.cells c e full)){ty:TypeId}{o:Nat}{v:Value}(h:E.at ty c o=some v):
  ∃v',VR R v v'/\(loadVar ty ⟨r,o,none⟩).run E.P w= .ok v' w:=by
 unfold Env.at at h
 split at h
 . rename_i i hi;obtain ⟨ii,d,hT⟩:=hE.is hi;have P6:=Wn (P:=E.P) (t:=ty) w hT.Sf;rw [<-hT.agg]at P6
   split at h
   . rename_i ha;rw [ha]at P6;cases hf:c.from o i.size with
     |none=>rw [hf]at h;simp [Xu]at h
     |some l=>
      rw [hf]at h;simp only [Xu]at h;cases h;obtain ⟨l',h1,h2,h3⟩:=TG hE hS hb hg hf;have hr:=run_loadCells_list (P:=E.P) w ⟨r,o,none⟩ l' h3;refine ⟨_,h1.agg, ?_⟩;simp [loadVar,P6,od w hT.info,hT.size,Result.andThen,<-h2,hr]
   . rename_i ha;rw [ha]at P6;obtain ⟨c',_,_,_,_,h5⟩:=Um hE hS hb hg;obtain ⟨v',k1,_,k2⟩:=h5 _ _ h;refine ⟨v',k2, ?_⟩;simp [loadVar,P6,Result.andThen,k1]
 . cases h
theorem Bv{ty:TypeId}{u u' v:Value}(hu:VR R u u')(h:Ir E σ ty u=some v):∃v',VR R v v'/\(Instr.loadAt ty u').run E.P w= .ok v' w:=by
 unfold Ir at h
 split at h
 . rename_i b o
   split at h
   . rename_i c e full hg;obtain ⟨b',s,hb,rfl⟩:=Wg hu;obtain ⟨v',h1,h2⟩:=NO hE hS hb hg h;exact ⟨v',h1,by simp [Instr.loadAt,Instr.sureAddr,Result.andThen,h2]⟩
   . rename_i e hg;obtain ⟨b',s,hb,rfl⟩:=Wg hu;obtain ⟨O,hO⟩:=hS.kO;obtain ⟨⟨g,k1,k2⟩,_⟩:=hO _ _ _ _ hb hg;obtain ⟨v',⟨c,h1⟩,h2,h3⟩:=hE.CU e o ty v h g b' (O b) w k1 k2;exact ⟨v',Yc R h1 h2,by simp [Instr.loadAt,Instr.sureAddr,Result.andThen,h3]⟩
   . cases h
 . cases h
omit hE hS in
theorem sB{x:Value}{c:Nat}(h:Gf x=some c)(hs:Am x=false):(∃k n,x= .int k n)\/∃b,x= .bool b:=by
 cases x with
 |int k n=>exact .inl ⟨k,n,rfl⟩
 |bool b=>exact .inr ⟨b,rfl⟩
 |func f l q=>cases f<;>first|(simp [Am]at hs;done)|(simp [Gf]at h)
 |_=>simp [Gf]at h
omit hS in
theorem VL{q:Bool}{x y x' y':Value}(hx:VR R x x')(hy:VR R y y'){r:Bool}(h:eqC E q x y=some r):
  (q=true->∃k a b,x'= .int k a/\y'= .int k b/\r=decide (a=b))/\(q=false->∃a b,x'= .bool a/\y'= .bool b/\r=(a==b)):=by
 unfold eqC at h
 split at h
 . rename_i i j hi hj
   split at h
   . rename_i Rm hq;rw [Na]at Rm;have Rm:=of_decide_eq_true Rm;subst Rm;obtain ⟨dx,sx⟩:=qi hx hi;obtain ⟨dy,sy'⟩:=qi hy hj;have Dx:=D.of hx hi;have Dy:=D.of hy hj;rw [Ck,yd]at hq;cases q with
     |true=>
      have h7:i<=7:=by simpa using hq
      obtain ⟨k,a,rfl,e1⟩:=sx.int h7;obtain ⟨k2,b,rfl,e2⟩:=sy'.int h7;have:k=k2:=Qb (by rw [Na];exact decide_eq_true (e1.symm.trans e2));subst this;refine ⟨fun _=>⟨k,a,b,rfl,rfl, ?_⟩,fun e=>by cases e⟩
      split at h
      . simp only at h;have hd:=Ep hE Dx Dy
        split at h
        . rename_i b0 he;cases h;rw [he]at hd;have:=hd.2
          simp only [den]at this;cases this;rfl
        . cases h
      . rename_i hs;cases h;rw [rl,Bool.or_eq_false_iff]at hs;rcases sB hi hs.1 with⟨k1,n1,rfl⟩|⟨b1,rfl⟩<;>rcases sB hj hs.2 with⟨k2,n2,rfl⟩|⟨b2,rfl⟩<;>simp only [den]at dx dy<;>cases dx<;>cases dy
        simp [Zu,Aa,Ce,Na]
     |false=>
      have h7:¬i<=7:=by simpa using hq
      have h8:i=8:=by
       rcases sx with⟨k,n,_,e⟩|⟨e,_⟩
       . have:=Tf k;omega
       . exact e
      subst h8;obtain ⟨a,rfl⟩:=sx.bool;obtain ⟨b,rfl⟩:=sy'.bool;refine ⟨fun e=>(by cases e),fun _=>⟨a,b,rfl,rfl, ?_⟩⟩
      split at h
      . simp only at h
        split at h
        . rename_i hs;cases h;have:=Dx.same Dy hs;cases this;simp
        . cases h
      . rename_i hs;cases h;rw [rl,Bool.or_eq_false_iff]at hs;rcases sB hi hs.1 with⟨k1,n1,rfl⟩|⟨b1,rfl⟩<;>rcases sB hj hs.2 with⟨k2,n2,rfl⟩|⟨b2,rfl⟩<;>simp only [den]at dx dy<;>cases dx<;>cases dy
        simp [Zu,Ck]
   . cases h
 . cases h
omit hS in
theorem xz:∀(ts:List Bool) (fs:List Field) (n:Nat) (l m l' m':List Value) (r:Bool),LR R l l'->LR R m m'->oq E.P n fs=some ts->F6 E ts (l.drop n) (m.drop n)=some r->
  ∀d w,(Op.eqFields (d+1) ⟨l'⟩ ⟨m'⟩ fs).run E.P w= .ok r w
 |ts,[],n,l,m,l',m',r,hl,hm,hf,h,d,w=>by
  simp [oq]at hf;subst hf;simp [F6]at h;subst h;simp [Op.eqFields]
 |ts,f::fs,n,l,m,l',m',r,hl,hm,hf,h,d,w=>by
  simp only [oq]at hf
  split at hf
  . rename_i b ts' hb MU;cases hf;unfold FO at hb
    split at hb
    . cases hb
    . rename_i Ch;simp only [Bool.and_eq_true,bne_iff_ne,ne_eq,beq_iff_eq]at Ch;obtain ⟨nJ,hof⟩:=Ch;have ih:=fun r=>xz ts' fs (n+1) l m l' m' r hl hm MU
      have jX:∀(q:List Value) (x:Value) (qs:List Value),q.drop n=x::qs->q[n]?=some x/\q.drop (n+1)=qs:=fun q x qs e=>by
       constructor
       . have:=congrArg (fun z=>z[0]?) e
         simpa [List.getElem?_drop]using this
       . have:=congrArg (fun z=>z.drop 1) e
         simpa [List.drop_drop,Nat.add_comm]using this
      have kX:∀(q:List Value) (x:Value),q[n]?=some x->∀u,E.P.underlying f.type=some u->JG u=false->(part f.type ⟨q⟩ f.offset).run E.P w= .ok x w:=fun q x hq u hu ha=>by
       have:=Wn (P:=E.P) (t:=f.type) w hu;rw [ha]at this;rw [hof];simp [part,this,Result.andThen,hq]
      cases Oo:l.drop n with
      |nil=>rw [Oo]at h;simp [F6]at h
      |cons x xs=>
      cases UG:m.drop n with
      |nil=>rw [Oo,UG]at h;simp [F6]at h
      |cons y ys=>
      rw [Oo,UG]at h;obtain ⟨l1,l2⟩:=jX l x xs Oo;obtain ⟨m1,m2⟩:=jX m y ys UG;obtain ⟨x',lx,rx⟩:=hl.get l1;obtain ⟨y',my,ry⟩:=hm.get m1;simp only [F6]at h;cases hc:eqC E b x y with
      |none=>rw [hc]at h;cases h
      |some q=>
      rw [hc]at h;obtain ⟨c1,c2⟩:=VL hE rx ry hc;have fin:∀u,E.P.underlying f.type=some u->JG u=false->(Op.equalIn (d+1) f.type x' y').run E.P w= .ok q w->(Op.eqFields (d+1) ⟨l'⟩ ⟨m'⟩ (f::fs)).run E.P w= .ok r w:=fun u hu ha e1=>by
       have p1:=kX l' _ lx _ hu ha;have p2:=kX m' _ my _ hu ha;cases q with
       |true=>
        simp only at h;have:=ih r (by rw [l2,m2];exact h) d w;simp only [Op.eqFields,nJ,ne_eq,not_false_eq_true,if_true,Sem.run_bind,p1,p2,e1,Result.andThen]
        simpa using this
       |false=>
        simp only at h;cases h;simp only [Op.eqFields,nJ,ne_eq,not_false_eq_true,if_true,Sem.run_bind,p1,p2,e1,Result.andThen];simp
      split at hb
      . rename_i k hu;cases hb;obtain ⟨k1,a1,a2,rfl,rfl,rfl⟩:=c1 rfl;refine fin _ hu rfl ?_
        rw [run_equalIn_int (P:=E.P) w d f.type k1 k a1 a2 hu];by_cases e:a1=a2<;>simp [e]
      . rename_i hu;cases hb;obtain ⟨a1,a2,rfl,rfl,rfl⟩:=c2 rfl;refine fin _ hu rfl ?_
        rw [run_equalIn_bool (P:=E.P) w d f.type a1 a2 hu]
      . cases hb
  . cases hf
omit hS in
theorem WL{op:BinOp}{ty:TypeId}{x y:Operand}{a b v a' b':Value}(ha:VR R a a')(hb:VR R b b'){r:Bool}(h:eqS E ty a b=some r)(hv:av op r=some v)(w:World):
  Sk.flat v=true/\(do eqGuard op ty x y a' b';binOp op ty a' b':Sem Value).run E.P w= .ok v w:=by
 unfold eqS at h
 split at h
 . rename_i l m
   split at h
   . rename_i i hi;obtain ⟨ii,d,hT⟩:=hE.is hi
     split at h
     . rename_i ts MU;obtain ⟨l',hl,rfl⟩:=Dp ha;obtain ⟨m',hm,rfl⟩:=Dp hb;have hq:i.eq=GU E.P ty d:=by rw [hT.eq]
       rw [MU]at hq;unfold GU at hq
       split at hq
       . rename_i fs
         split at hq
         . rename_i Ch;simp only [Bool.and_eq_true,Bool.not_eq_true']at Ch;have hff:E.P.fieldsOf ty=fs:=by unfold Program.fieldsOf;rw [hT.Sf]
           have hu:E.P.underlying ty=some (.struct (E.P.fieldsOf ty)):=by rw [hff];exact hT.Sf
           have k1:=run_eqGuard_agg (P:=E.P) w op ty x y ⟨l'⟩ ⟨m'⟩ Ch.2
           have k2:=run_equalIn_struct (P:=E.P) w 9999 ty ⟨l'⟩ ⟨m'⟩ hu Ch.1
           rw [hff,xz hE ts fs.toList 0 l.toList m.toList l' m' r hl hm hq.symm (by simpa using h) 9998 w]at k2;cases op<;>simp only [av]at hv<;>first|(cases hv;done)|skip
           . cases hv;refine ⟨rfl, ?_⟩;rw [Sem.run_bind,k1];simp only [Result.andThen,run_eql_struct,k2]
           . cases hv;refine ⟨rfl, ?_⟩;rw [Sem.run_bind,k1];simp only [Result.andThen,run_neq_struct,k2,Ae]
         . cases hq
       . cases hq
     . cases h
   . cases h
 . cases h
end
end Sk
end Go.Proofs.YtfnkmolffhfpoaaGreat
