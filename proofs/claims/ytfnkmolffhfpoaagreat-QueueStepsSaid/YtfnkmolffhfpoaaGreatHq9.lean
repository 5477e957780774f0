/- -/
import Derived.Test.YtfnkmolffhfpoaaGreatHq8
set_option linter.unusedVariables false
set_option linter.unusedSimpArgs false
set_option linter.unusedSectionVars false
namespace Go.Proofs.YtfnkmolffhfpoaaGreat
namespace Sk
open Go.RowKit
variable[Interp]
theorem yz{R:Mp}{k v:Value}{kd:IntKind}:∀(es:List (Value×Value)) (Dl:List MapEntry) (r:List (Value×Value)),es.length=Dl.length->
  (∀(i:Nat) (p:Value×Value) (e:MapEntry),es[i]?=some p->Dl[i]?=some e->VR R p.1 e.key/\VR R p.2 e.val)->AO k v es=some r->∀i:Nat,
  (Instr.findNow (.int kd) k Dl i=some none/\r=es++[(k,v)])\/
  ∃j e,Instr.findNow (.int kd) k Dl i=some (some (i+j,e.val))/\Dl[j]?=some e/\e.key=k/\r=es.set j (k,v)/\∃q n,k= .int q n
 |[],Dl,r,hl,hp,h,i=>by
  have:Dl=[]:=by simpa using hl.symm
  subst this;simp [AO]at h;subst h;exact .inl ⟨by simp [Instr.findNow],rfl⟩
 |p::es,[],r,hl,hp,h,i=>by simp at hl
 |p::es,e::Dl,r,hl,hp,h,i=>by
  obtain ⟨h1,h2⟩:=hp 0 p e rfl rfl;simp only [AO]at h
  split at h
  . rename_i hs;cases h;obtain ⟨q,n,m,rfl,he,hb⟩:=El hs;rw [he]at h1;have hk:=Wc h1;have nJ:n=m:=of_decide_eq_true hb.symm;subst nJ;exact .inr ⟨0,e,by simp [Instr.findNow,hk,Instr.sameNow],rfl,hk,rfl,q,n,rfl⟩
  . rename_i hs;obtain ⟨q,n,m,rfl,he,hb⟩:=El hs;rw [he]at h1;have hk:=Wc h1;have nJ:¬n=m:=of_decide_eq_false hb.symm;have e2:Instr.findNow (.int kd) (.int q n) (e::Dl) i=Instr.findNow (.int kd) (.int q n) Dl (i+1):=by
     have:(n==m)=false:=by simpa using nJ
     simp [Instr.findNow,hk,Instr.sameNow,this]
    split at h
    . rename_i r2 Ay;cases h;rcases yz (kd:=kd) es Dl r2 (by simpa using hl) (fun i p e a b=>hp (i+1) p e (by simpa using a) (by simpa using b)) Ay (i+1)with⟨k1,k2⟩|⟨j,ee,k1,k2,k3,k4,k5⟩
      . exact .inl ⟨by rw [e2];exact k1,by rw [k2];rfl⟩
      . exact .inr ⟨j+1,ee,by rw [e2,k1];congr 3;omega,by simpa using k2,k3,by rw [k4];rfl,k5⟩
    . cases h
  . cases h
section
variable{E:Env}(hE:Rb E){B:Nat->Prop}{w0:World}{R:Mp}{σ:AH}{w:World}(hS:Vc B w0 R σ w)
include hE hS
theorem Az{ty:TypeId}{m k v m' k' v' x:Value}{σ':AH}(hm:VR R m m')(hk:VR R k k')(hv:VR R v v')(h:BO E σ ty m k v=some (x,σ')):
  ∃w',(Instr.mapUpdate ty m' k' v').run E.P w= .ok () w'/\x=undef/\Ext R σ R σ'/\Vc B w0 R σ' w':=by
 unfold BO at h
 split at h
 . rename_i i r hi;obtain ⟨ii,d,hT⟩:=hE.is hi
   split at h
   . rename_i kt et es ye Q6 hg;have:=hT.mp ye;subst this
     split at h
     . rename_i ik hkt;obtain ⟨ki,kd,OU⟩:=hE.is hkt
       split at h
       . rename_i PO;obtain ⟨kk,rfl⟩:∃kk,_=TypeDesc.int kk:=⟨_,OU.it PO⟩;have hX:∃q n,k= .int q n:=by cases k<;>simp [isI]at Q6;exact ⟨_,_,rfl⟩
         obtain ⟨q,n,rfl⟩:=hX;have:=Wc hk;subst this;have hr:∃r' s,m'= .map (some r')/\R r=some (r',s):=by
          cases hm with
          |flat v h=>simp [yc]at h
          |map r r' s h=>exact ⟨r',s,rfl,h⟩
         obtain ⟨r',s,rfl,hr⟩:=hr;obtain ⟨_,Dl,cl,h1,h2,h3⟩:=hS.obj r r' s _ hr hg;rw [di,Bk]at h
         split at h
         . rename_i es2 hes;rw [ic]at h;cases h;have Mf:=ID (P:=E.P) (w:=w) (q:=q) (n:=n) OU.Sf false 9999;have yk:(getObj r').run E.P w= .ok (.map Dl cl) w:=by simp [getObj,Sem.run,h1]
           have kad:∀o,(setObj r' o).run E.P w= .ok () {w with heap:=w.heap.setIfInBounds r' o}:=fun o=>by simp [setObj,Sem.run,h1]
           have zb:r'<w.heap.size:=(Array.getElem?_eq_some_iff.1 h1).1
           have fin:∀(es3:Array MapEntry) (cl3:Nat),es2.length=es3.size->(∀(i:Nat) (p:Value×Value) (e:MapEntry),es2[i]?=some p->es3[i]?=some e->VR R p.1 e.key/\VR R p.2 e.val)->
             Vc B w0 R (σ.put r (some (.map es2))) {w with heap:=w.heap.setIfInBounds r' (.map es3 cl3)}:=fun es3 cl3 k1 k2=>by
            refine hS.RO hr (by rw [hg];simp) ?_ (fun k hk=>by simp [Ne.symm hk]) (by simp) rfl rfl rfl
            exact ⟨es3,cl3,by simp [zb],k1,k2⟩
           rcases yz (kd:=kk) es Dl.toList es2 (by simpa using h2) (fun i p e a b=>h3 i p e a (by simpa using b)) hes 0 with⟨k1,k2⟩|⟨j,e,k1,k2,k3,k4,k5⟩
           . have PU:=Cq (P:=E.P) (w:=w) OU.Sf k1;refine ⟨{w with heap:=w.heap.setIfInBounds r' (.map (Dl.push {key:= .int q n,val:=v',born:=cl}) (cl+1))}, ?_,rfl,Ext.put R σ hr _,fin _ _ ?_ ?_⟩
             . simp [Instr.mapUpdate,Sa w hT.Sf,Result.andThen,yk,Mf,PU,kad]
             . rw [k2];simp [h2]
             . intro i p e hp he;rw [k2]at hp;by_cases hi:i<es.length
               . rw [List.getElem?_append_left hi]at hp;rw [Array.getElem?_push,if_neg (by omega)]at he;exact h3 i p e hp he
               . have mO:i=es.length:=by
                  have:=(List.getElem?_eq_some_iff.1 hp).1
                  simp at this;omega
                 subst mO;simp at hp;rw [h2]at he;simp at he;subst hp;subst he;exact ⟨.flat _ rfl,hv⟩
           . have PU:=Cq (P:=E.P) (w:=w) OU.Sf k1;have hj:Dl[j]?=some e:=by simpa using k2
             have VU:Instr.sameBits 10000 (.int q n) (.int q n)=true:=by simp [Instr.sameBits]
             refine ⟨{w with heap:=w.heap.setIfInBounds r' (.map (Dl.modify j fun e=>{e with key:= .int q n,val:=v'}) cl)}, ?_,rfl,Ext.put R σ hr _,fin _ _ ?_ ?_⟩
             . simp [Instr.mapUpdate,Sa w hT.Sf,Result.andThen,yk,Mf,PU,kad,hj,k3,Instr.keyThatStays,VU]
             . rw [k4];simp [h2]
             . intro i p e2 hp he;rw [k4]at hp;rw [Array.getElem?_modify]at he;by_cases Rm:j=i
               . subst Rm;have hjl:j<es.length:=by have:=(Array.getElem?_eq_some_iff.1 hj).1;omega
                 rw [List.getElem?_set_self hjl]at hp;rw [if_pos rfl,hj]at he;simp at he;cases hp;subst he;exact ⟨.flat _ rfl,hv⟩
               . rw [List.getElem?_set_ne Rm]at hp;rw [if_neg Rm]at he;exact h3 i p e2 hp he
         . cases h
       . cases h
     . cases h
   . cases h
 . cases h
theorem Cy{t:Tm}{a:Act}(ht:TR R t a.tmps)(go:Task->Option Ki)(o:Oper)(hb:∀c,o.op= .call c->∃b,c.callee= .builtin b){v:Value}{σ':AH}(h:Ak E go t σ o.op=some (v,σ')):
  SO B w0 R σ ((execOp a.eval o).run E.P w) v σ':=by
 obtain ⟨dst,op,tp,pos,af,g⟩:=o;cases op with
 |store ty x y=>
  simp only [Ak]at h
  split at h
  . rename_i u v0 i hu hv hi;obtain ⟨w',k1,k2,k3,k4⟩:=MD hE hS hi (Ia ht hu) (Ia ht hv) h;exact ⟨R,undef,w',k3,by rw [k2];exact me R,k4, .inr ⟨by simp [execOp,Result.andThen,k1],rfl⟩⟩
  . cases h
 |mapUpdate ty m k x=>
  simp only [Ak]at h
  split at h
  . rename_i u k0 v0 hu hk hv;obtain ⟨w',k1,k2,k3,k4⟩:=Az hE hS (Ia ht hu) (Ia ht hk) (Ia ht hv) h;exact ⟨R,undef,w',k3,by rw [k2];exact me R,k4, .inr ⟨by simp [execOp,Result.andThen,k1],rfl⟩⟩
  . cases h
 |insert ty m k x=>
  simp only [Ak]at h
  split at h
  . rename_i u k0 v0 hu hk hv;obtain ⟨w',k1,k2,k3,k4⟩:=Az hE hS (Ia ht hu) (Ia ht hk) (Ia ht hv) h;exact ⟨R,undef,w',k3,by rw [k2];exact me R,k4, .inr ⟨by simp [execOp,Result.andThen,k1],rfl⟩⟩
  . cases h
 |call c=>
  obtain ⟨b,hc⟩:=hb c rfl;obtain ⟨ce,xs,ts⟩:=c;simp only at hc;subst hc;simp only [Ak,iv]at h
  split at h
  . cases h
  . rename_i args Bz;have hl:=Hf ht Bz
    split at h
    . rename_i s x;obtain ⟨y1,l1,e1,hs,bP⟩:=hl.Ea;obtain ⟨y2,l2,rfl,hx,zG⟩:=bP.Ea;have:=zG.Fc;subst this;have xy:xs.map a.eval=#[y1,y2]:=by apply Array.ext';simpa using e1
      obtain ⟨R',v',w',k1,k2,k3,k4⟩:=bM hE hS (ty:=tp) hs hx h;exact ⟨R',v',w',k1,k2,k3, .inl (by simp [execOp,resolve,invoke,builtin,Result.andThen,xy,k4])⟩
    . rename_i d s;obtain ⟨y1,l1,e1,hs,bP⟩:=hl.Ea;obtain ⟨y2,l2,rfl,hx,zG⟩:=bP.Ea;have:=zG.Fc;subst this;have xy:xs.map a.eval=#[y1,y2]:=by apply Array.ext';simpa using e1
      obtain ⟨R',v',w',k1,k2,k3,k4⟩:=YG hE hS (ty:=tp) hs hx h;exact ⟨R',v',w',k1,k2,k3, .inl (by simp [execOp,resolve,invoke,builtin,Result.andThen,xy,k4])⟩
    . rename_i d;obtain ⟨y1,l1,e1,hs,bP⟩:=hl.Ea;have:=bP.Fc;subst this;have xy:xs.map a.eval=#[y1]:=by apply Array.ext';simpa using e1
      obtain ⟨R',v',w',k1,k2,k3,k4⟩:=QD hE hS (ty:=tp) hs h;exact ⟨R',v',w',k1,k2,k3, .inl (by simp [execOp,resolve,invoke,builtin,Result.andThen,xy,k4])⟩
    . cases h
 |_=>simp [Ak]at h
end
end Sk
end Go.Proofs.YtfnkmolffhfpoaaGreat
namespace Go.Proofs.YtfnkmolffhfpoaaGreat
namespace Sk
open Go.RowKit
variable[Interp]
structure Good(F:Fence):Prop where
 fn:∀f,F.fn f
 depth:F.depth=none
 alive:F.alive=false
theorem cM:Good Fence.wide:=⟨fun _=>trivial,rfl,rfl⟩
theorem Good.inRound{F:Fence}(h:Good F)(l:Nat):Good (F.inRound l):=⟨h.fn,h.depth,h.alive⟩
theorem Good.plain{F:Fence}(h:Good F):Good F.plain:=⟨h.fn,h.depth,h.alive⟩
theorem Good.fenced{F:Fence}(h:Good F)(P:Program)(m:Machine):m.fenced P F:=fun g _=>⟨fun e=>(by rw [h.alive]at e;cases e), .inl (h.fn _),fun f _=>h.fn f,fun d e=>(by rw [h.depth]at e;cases e)⟩
theorem Good.calls{F:Fence}(hF:Good F){n:Nat}{P:Program}{f:FuncId}{args:Array Value}{w:World}{R:Ending->World->Prop}(h:Calls P f args w R):CallsIn F n P f args w R:=
 ⟨hF.fn f,fun cs _=>let⟨e,w',fr,r,s,x⟩:=h cs;⟨e,w',fr,r,(by
   cases e with
   |outgrown=>exact s
   |returned v=>exact (StepsIn.of_steps s).mono fun m _=>hF.fenced P m
   |panicked c=>exact (StepsIn.of_steps s).mono fun m _=>hF.fenced P m),x⟩⟩
theorem Good.deep{F:Fence}(h:Good F)(n:Nat):F.depth.isSome=true->1<=n:=fun e=>by rw [h.depth]at e;cases e
def MR(R:Mp):List Nat->List Deferred->Prop
 |[],[]=>True
 |b::bs,d::ds=>(∃r s,R b=some (r,s)/\d={target:= .collected r,args:=#[]})/\MR R bs ds
 |_,_=>False
theorem MR.mono{R R':Mp}(hle:R.le R'):∀{ms:List Nat} {ds:List Deferred},MR R ms ds->MR R' ms ds
 |[],[],_=>trivial
 |b::bs,d::ds,⟨⟨r,s,h1,h2⟩,h3⟩=>⟨⟨r,s,hle _ _ h1,h2⟩,MR.mono hle h3⟩
 |[],_::_,h=>h.elim
 |_::_,[],h=>h.elim
def oh(B:Nat->Prop)(w0:World)(R:Mp)(σ:AH)(v:Value)(σ':AH)(e:Ending)(w':World):Prop:=
 ∃R' v',e= .returned v'/\Ext R σ R' σ'/\VR R' v v'/\Vc B w0 R' σ' w'
def oe(B:Nat->Prop)(w0:World)(R:Mp)(σ:AH)(x:Exit)(t:Tm)(ms:List Nat)(σ':AH)(e:Exit)(a:Act)(w':World):Prop:=
 ∃R',e=x/\Ext R σ R' σ'/\TR R' t a.tmps/\MR R' ms a.defers/\Vc B w0 R' σ' w'
structure RD(E:Env)(go:Task->Option Ki):Prop where
 call:∀f args σ v σ',go (.call f args σ)=some (.val v σ')->∀(B:Nat->Prop) (w0:World) (R:Mp) (w:World) (args':Array Value),Vc B w0 R σ w->LR R args args'.toList->
  (callFunc f args').run E.P w= .ok (.enter f args') w/\∀(F:Fence),Good F->∀n,CallsIn F n E.P f args' w (oh B w0 R σ v σ')
 round:∀l args σ v σ',go (.round l args σ)=some (.val v σ')->∀(B:Nat->Prop) (w0:World) (R:Mp) (w:World) (args':Array Value) (l' s:Nat),Vc B w0 R σ w->LR R args args'.toList->R l=some (l',s)->
  ∃f tmps assign body,(Instr.yield l' args').run E.P w= .ok (.round l' f tmps assign body) w/\∀(F:Fence),Good F->∀n,RoundIn F n E.P l' f tmps assign body w (oh B w0 R σ v σ')
 code:∀q c t ms σ x t' Bo σ',go (.code q c t ms σ)=some (.at x t' Bo σ')->∀(B:Nat->Prop) (w0:World) (R:Mp) (w:World) (a:Act),Vc B w0 R σ w->TR R t a.tmps->MR R ms a.defers->
  ∀(F:Fence),Good F->(q=false->F.round=none)->∀n,c.wpIn F n E.P (oe B w0 R σ x t' Bo σ') a w
section
variable{E:Env}(hE:Rb E){go:Task->Option Ki}(hG:RD E go){B:Nat->Prop}{w0:World}{R:Mp}{σ:AH}{w:World}(hS:Vc B w0 R σ w){t:Tm}{a:Act}(ht:TR R t a.tmps)
include hE hG hS ht
theorem BB{F:Fence}(hF:Good F){n:Nat}{o:Oper}(hd:∀c,o.op≠ .defer c){v:Value}{σ':AH}(h:SO B w0 R σ ((execOp a.eval o).run E.P w) v σ'){K:Act->World->Prop}{Q:Exit->Act->World->Prop}
  (hK:∀R' v' w',Ext R σ R' σ'->VR R' v v'->Vc B w0 R' σ' w'->K (a.put o.dst v') w'):o.wpIn F n E.P a w K Q:=by
 obtain ⟨R',v',w',k1,k2,k3,k4⟩:=h;refine ⟨fun f _=>hF.fn f, ?_⟩;rw [Oper.semAt_eq _ _ _ hd];rcases k4 with k4|⟨k4,k5⟩
 . rw [k4];exact hK R' v' w' k1 k2 k3
 . rw [k4];subst k5;exact hK R' undef w' k1 k2 k3
theorem WU{F:Fence}(hF:Good F){n:Nat}{dst:Option Tmp}{c:Call}{tp:TypeId}{pos:String}{af:Array Edge}{g:Option (Nat×Bool)}(nO:∀b,c.callee≠ .builtin b){v:Value}{σ':AH}(h:iv E go t σ c=some (v,σ')){K:Act->World->Prop}{Q:Exit->Act->World->Prop}
  (hK:∀R' v' w',Ext R σ R' σ'->VR R' v v'->Vc B w0 R' σ' w'->K (a.put dst v') w'):(⟨dst, .call c,tp,pos,af,g⟩:Oper).wpIn F n E.P a w K Q:=by
 obtain ⟨ce,xs,ts⟩:=c;have enter:∀(f:FuncId) (as:List Value) (as':Array Value),LR R as as'.toList->EU (go (.call f as σ))=some (v,σ')->(execOp a.eval ⟨dst, .call ⟨ce,xs,ts⟩,tp,pos,af,g⟩).run E.P w=(callFunc f as').run E.P w->
   (⟨dst, .call ⟨ce,xs,ts⟩,tp,pos,af,g⟩:Oper).wpIn F n E.P a w K Q:=fun f as as' hl hv hx=>by
  have yk:go (.call f as σ)=some (.val v σ'):=by
   cases yk:go (.call f as σ)with
   |none=>rw [yk]at hv;cases hv
   |some r=>cases r with
    |val v1 σ1=>rw [yk]at hv;cases hv;rfl
    |«at»=>rw [yk]at hv;cases hv
  obtain ⟨k1,k2⟩:=hG.call f as σ v σ' yk B w0 R w as' hS hl;refine ⟨fun f _=>hF.fn f, ?_⟩;rw [Oper.semAt_eq _ _ _ (fun c e=>by cases e),hx,k1];refine ⟨hF.deep n,(k2 F hF (n -1)).mono ?_⟩;rintro e w' ⟨R',v',rfl,q1,q2,q3⟩;exact hK R' v' w' q1 q2 q3
 unfold iv at h;simp only at h
 split at h
 . cases h
 . rename_i args Bz;have hl:=Hf ht Bz
   split at h
   . rename_i x
     split at h
     . rename_i fn fs cs hx;have AG:=Ia ht hx
       split at h
       . rename_i f;have:∃ZG SD,LR R fs.toList ZG/\LR R cs.toList SD/\a.eval x= .func (.func f) ⟨ZG⟩ ⟨SD⟩:=by
          generalize a.eval x=q at AG;cases AG with
          |flat v h=>exact ⟨fs.toList,cs.toList,by
            cases fs with|mk fs=>cases cs with|mk cs=>
            cases fs with
            |nil=>exact LR.nil R
            |cons=>simp [yc]at h,by
            cases fs with|mk fs=>cases cs with|mk cs=>
            cases fs with
            |nil=>cases cs with
             |nil=>exact LR.nil R
             |cons=>simp [yc]at h
            |cons=>simp [yc]at h,rfl⟩
          |fn f a a' c c' ha hc h1 h2=>exact ⟨a',c',⟨ha,h1⟩,⟨hc,h2⟩,rfl⟩
         obtain ⟨ZG,SD,l1,l2,hv⟩:=this;refine enter f _ (⟨ZG⟩++xs.map a.eval++⟨SD⟩) ?_ h ?_
         . have:(⟨ZG⟩++xs.map a.eval++⟨SD⟩:Array Value).toList=ZG++(xs.toList.map a.eval++SD):=by simp
           rw [this];exact LR.append l1 (LR.append hl l2)
         . simp only [execOp,resolve];rw [hv];simp [Deferred.ofValue,Result.andThen,invoke]
       . rename_i l
         split at h
         . rename_i KU;have:∃l' s,R l=some (l',s)/\a.eval x= .func (.yield l') #[] #[]:=by
            generalize a.eval x=q at AG;cases AG with
            |flat v h=>simp [yc]at h
            |yl l l' s h=>exact ⟨l',s,h,rfl⟩
           obtain ⟨l',s,hR,hv⟩:=this;have yk:go (.round l args σ)=some (.val v σ'):=by
            cases yk:go (.round l args σ)with
            |none=>rw [yk]at h;cases h
            |some r=>cases r with
             |val v1 σ1=>rw [yk]at h;cases h;rfl
             |«at»=>rw [yk]at h;cases h
           obtain ⟨f,tmps,as,bd,k1,k2⟩:=hG.round l args σ v σ' yk B w0 R w (xs.map a.eval) l' s hS (by simpa using hl) hR;refine ⟨fun f _=>hF.fn f, ?_⟩;have Y6:(execOp a.eval ⟨dst, .call ⟨.value x,xs,ts⟩,tp,pos,af,g⟩).run E.P w=(Instr.yield l' (xs.map a.eval)).run E.P w:=by
            simp only [execOp,resolve];rw [hv];simp [Deferred.ofValue,Result.andThen,invoke]
           rw [Oper.semAt_eq _ _ _ (fun c e=>by cases e),Y6,k1];refine ⟨hF.deep n,(k2 F hF (n -1)).mono ?_⟩;rintro e w' ⟨R',v',rfl,q1,q2,q3⟩;exact hK R' v' w' q1 q2 q3
         . cases h
       . cases h
     . cases h
   . rename_i x name
     split at h
     . rename_i ty u hx;have AG:=Ia ht hx
       split at h
       . rename_i f hm;have:∃u',VR R u u'/\a.eval x= .iface ty u':=by
          generalize a.eval x=q at AG;cases AG with
          |flat v h=>simp [yc]at h
          |Wu t v v' h=>exact ⟨v',h,rfl⟩
         obtain ⟨u',hu,hv⟩:=this;refine enter f _ (#[u']++xs.map a.eval) ?_ h ?_
         . have:(#[u']++xs.map a.eval:Array Value).toList=u'::xs.toList.map a.eval:=by simp
           rw [this];exact LR.cons hu hl
         . simp only [execOp,resolve];rw [hv];have hme:=hE.py ty name f hm u' w;obtain ⟨A,hA⟩:∃A,A=xs.map a.eval:=⟨_,rfl⟩;rw [<-hA];have e1:(#[Value.iface ty u']++A)[0]?=some (.iface ty u'):=by rw [Array.getElem?_append_left (by simp)];rfl
           have e2:(#[Value.iface ty u']++A).extract 1 (#[Value.iface ty u']++A).size=A:=by
            apply Array.ext';simp
           simp only [Sem.run_bind,Sem.run_pure,Result.andThen,invoke,e1,e2,callMethod,run_program,hme]
       . cases h
     . cases h
   . rename_i b;exact absurd rfl (nO b)
theorem Gv{F:Fence}(hF:Good F){n:Nat}(o:Oper){v:Value}{σ':AH}(h:iq E go t σ o.op=some (v,σ')){K:Act->World->Prop}{Q:Exit->Act->World->Prop}
  (hK:∀R' v' w',Ext R σ R' σ'->VR R' v v'->Vc B w0 R' σ' w'->K (a.put o.dst v') w'):o.wpIn F n E.P a w K Q:=by
 have Ch:cls o.op≠ .no:=fun e=>by unfold iq at h;rw [e]at h;cases h
 have hd:∀c,o.op≠ .defer c:=fun c e=>by rw [e]at Ch;exact Ch rfl
 unfold iq at h
 split at h
 . rename_i hc;cases hs:Ka E t o.op with
   |none=>rw [hs]at h;cases h
   |some v1=>
    rw [hs]at h;simp only [jv]at h;cases h;obtain ⟨v',k1,k2⟩:=CD hE ht o hc hs;exact BB hE hG hS ht hF hd ⟨R,v',w,Ext.refl R σ,k1,hS, .inl (k2 w)⟩ hK
 . rename_i hc;cases hs:Cf E t σ o.op with
   |none=>rw [hs]at h;cases h
   |some v1=>
    rw [hs]at h;simp only [jv]at h;cases h;obtain ⟨v',k1,k2⟩:=VG hE hS ht o hc hs;exact BB hE hG hS ht hF hd ⟨R,v',w,Ext.refl R σ,k1,hS, .inl k2⟩ hK
 . rename_i hc;cases hs:Zc E t o.op with
   |none=>rw [hs]at h;cases h
   |some p=>
    obtain ⟨x,f⟩:=p;obtain ⟨nx,tr⟩:=σ;rw [hs]at h;simp only [fresh,Vi]at h;cases h;obtain ⟨ob,s,g,k1,k2,k3⟩:=vt hE ht o hs;exact BB hE hG hS ht hF hd ⟨_,_,_,Ext.new hS x (w.heap.size,s),k3 _ _ _ (Mp.pd R _ _),hS.new k1 (JD hs), .inl (k2 w)⟩ hK
 . rename_i hc;obtain ⟨dst,op,tp,pos,af,g⟩:=o;by_cases qJ:∃c,op= .call c/\∀b,c.callee≠ .builtin b
   . obtain ⟨c,rfl,nO⟩:=qJ;exact WU hE hG hS ht hF nO h hK
   . refine BB hE hG hS ht hF hd (Cy hE hS ht go ⟨dst,op,tp,pos,af,g⟩ (fun c e=> ?_) h) hK;by_cases hb:∃b,c.callee= .builtin b
     . exact hb
     . exact absurd ⟨c,e,fun b kU=>hb ⟨b,kU⟩⟩ qJ
 . cases h
end
end Sk
end Go.Proofs.YtfnkmolffhfpoaaGreat
namespace Go.Proofs.YtfnkmolffhfpoaaGreat
namespace Sk
open Go.RowKit
variable[Interp]
theorem Vm{R:Mp}{v v':Value}(h:VR R v v')(hs:Am v=false)(b:Bool):v'= .bool b<->v= .bool b:=by
 constructor
 . intro e;subst e;cases h with
   |flat v h=>rfl
   |sym=>cases hs
 . intro e;subst e;exact vl h
theorem Hv{R:Mp}{t:Tm}{a:Act}(ht:TR R t a.tmps)(ops:Array Oper)(o:Oper)(Aq:ll ops.toList t o=true):Region.wanted o (yielded ops a.tmps)=ft ops.toList t o:=by
 unfold Region.wanted ft;unfold ll at Aq;cases hg:o.guard with
 |none=>rfl
 |some g=>
  obtain ⟨j,want⟩:=g;rw [hg]at Aq;simp only [Ec]at Aq⊢;unfold yielded;have hj:ops.toList[j]?=ops[j]?:=by simp
  rw [hj]at Aq⊢;cases h1:ops[j]?with
  |none=>rfl
  |some oj=>
   rw [h1]at Aq;simp only [Option.bind_some];cases h2:oj.dst with
   |none=>rfl
   |some d=>
    simp only [Option.bind_some];have hv:=ht.nth d;simp only [h2,Ae,Bool.not_eq_true']at Aq;rw [Array.getD_eq_getD_getElem?]at hv;cases h3:a.tmps[d]?with
    |none=>
     rw [h3]at hv;simp only [Option.getD_none]at hv;have:∀b,nth t d≠ .bool b:=fun b e=>by have:=(Vm hv Aq b).2 e;cases this
     generalize nth t d=q at this;cases q<;>first|rfl|exact absurd rfl (this _)
    |some y=>
     rw [h3]at hv;simp only [Option.getD_some]at hv;by_cases hb:∃b,y= .bool b
     . obtain ⟨b,rfl⟩:=hb;have:=(Vm hv Aq b).1 rfl
       rw [this];simp only [Ck];cases b<;>cases want<;>rfl
     . have:∀b,nth t d≠ .bool b:=fun b e=>hb ⟨b,(Vm hv Aq b).2 e⟩
       have h4:∀b,y≠ .bool b:=fun b e=>hb ⟨b,e⟩
       generalize nth t d=q at this;cases y<;>first|exact absurd rfl (h4 _)|skip
       all_goals cases q<;>first|rfl|exact absurd rfl (this _)
theorem Iv{R:Mp}{t:Tm}{a:Act}(ht:TR R t a.tmps){d:Option Tmp}{v v':Value}(hv:VR R v v'){β:Type}{k:Tm->Option β}{x:β}(h:oD t d v k=some x):∃t',k t'=some x/\TR R t' (a.put d v').tmps/\(a.put d v').defers=a.defers:=by
 cases d with
 |none=>exact ⟨t,h,ht,rfl⟩
 |some d=>
  simp only [oD,Dk]at h
  split at h
  . rename_i hd;exact ⟨_,h,ht.put hd hv,rfl⟩
  . cases h
section
variable{E:Env}(hE:Rb E){go:Task->Option Ki}(hG:RD E go){B:Nat->Prop}{w0:World}
include hE hG
theorem Ur{F:Fence}(hF:Good F){n:Nat}(ops:Array Oper){Q:Exit->Act->World->Prop}:∀(os:List Oper) (k:Nat) (R:Mp) (t:Tm) (σ:AH) (a:Act) (w:World) (t':Tm) (σ':AH),ops.toList.drop k=os->mv E go ops.toList os t σ=some (t',σ')->TR R t a.tmps->Vc B w0 R σ w->
  (∀R' a' w',Ext R σ R' σ'->TR R' t' a'.tmps->a'.defers=a.defers->Vc B w0 R' σ' w'->Q .normal a' w')->wpOpsIn F n E.P ops Q (List.range' k os.length) a w
 |[],k,R,t,σ,a,w,t',σ',hk,h,ht,hS,hQ=>by
  simp only [mv]at h;cases h;simp only [List.length_nil,List.range'_zero,wpOpsIn];exact hQ R a w (Ext.refl R σ) ht rfl hS
 |o::os,k,R,t,σ,a,w,t',σ',hk,h,ht,hS,hQ=>by
  have ho:ops[k]?=some o:=by
   have:=congrArg (fun l=>l[0]?) hk
   simpa [List.getElem?_drop]using this
  have dM:ops.toList.drop (k+1)=os:=by
   have:=congrArg (fun l=>l.drop 1) hk
   simpa [List.drop_drop,Nat.add_comm]using this
  simp only [List.length_cons,List.range'_succ,wpOpsIn,ho];simp only [mv]at h
  split at h
  . cases h
  rename_i Aq;rw [Hv ht ops o Aq]
  split at h
  . rename_i hw;rw [hw];simp only [Bool.false_eq_true,if_false];obtain ⟨t1,h1,h2,h3⟩:=Iv ht (me R) h;refine ⟨fun f _=>hF.fn f,Ur hF ops os (k+1) R t1 σ _ w t' σ' dM h1 h2 hS fun R' a' w' e1 e2 e3 e4=>hQ R' a' w' e1 e2 (e3.trans h3) e4⟩
  . rename_i hw;rw [hw];simp only [if_true]
    split at h
    . cases h
    . rename_i v σ1 Gl;rw [Bk]at h;refine Gv hE hG hS ht hF o Gl fun R' v' w' k1 k2 k3=> ?_
      obtain ⟨t1,h1,h2,h3⟩:=Iv (ht.mono k1.le) k2 h;exact Ur hF ops os (k+1) R' t1 σ1 _ w' t' σ' dM h1 h2 k3 fun R2 a' w2 e1 e2 e3 e4=>hQ R2 a' w2 (k1.trans e1) e2 (e3.trans h3) e4
theorem CB{F:Fence}(hF:Good F){n:Nat}(id:Nat)(ops:Array Oper){R:Mp}{t t':Tm}{σ σ':AH}{a:Act}{w:World}{ms:List Nat}(h:mv E go ops.toList ops.toList t σ=some (t',σ'))(ht:TR R t a.tmps)(hm:MR R ms a.defers)(hS:Vc B w0 R σ w):
  (Code.region id ops false).wpIn F n E.P (oe B w0 R σ .normal t' ms σ') a w:=by
 refine wpIn_region ?_
 have:=Ur hE hG hF (n:=n) ops (Q:=oe B w0 R σ .normal t' ms σ') ops.toList 0 R t σ a w t' σ' (by simp) h ht hS fun R' a' w' e1 e2 e3 e4=>⟨R',rfl,e1,e2,by rw [e3];exact hm.mono e1.le,e4⟩
 rw [Array.length_toList]at this;rwa [List.range_eq_range']
end
end Sk
end Go.Proofs.YtfnkmolffhfpoaaGreat
namespace Go.Proofs.YtfnkmolffhfpoaaGreat
namespace Sk
open Go.RowKit
variable[Interp]
theorem cP{t1 t2:Tm}{x:Operand}(h:∀d,x= .tmp d->nth t1 d=nth t2 d):ev t1 x=ev t2 x:=by
 cases x with
 |tmp d=>simp only [ev];rw [h d rfl]
 |_=>rfl
theorem Ik{t1 t2:Tm}:∀{xs:List Operand},(∀x∈xs,ev t1 x=ev t2 x)->eO t1 xs=eO t2 xs
 |[],_=>rfl
 |x::xs,h=>by simp only [eO];rw [h x (by simp),Ik (xs:=xs) fun y hy=>h y (by simp [hy])]
theorem Vr{t1 t2:Tm}:∀{ps:List (Nat×Operand)},(∀p∈ps,ev t1 p.2=ev t2 p.2)->iU t1 ps=iU t2 ps
 |[],_=>rfl
 |p::ps,h=>by simp only [iU];rw [h p (by simp),Vr (ps:=ps) fun y hy=>h y (by simp [hy])]
theorem Wr{t1 t2:Tm}{x:Option Operand}{d:Nat}(h:∀y,x=some y->ev t1 y=ev t2 y):cB t1 x d=cB t2 x d:=by
 cases x with
 |none=>rfl
 |some y=>simp only [cB];rw [h y rfl]
section
variable{E:Env}{go:Task->Option Ki}{t1 t2:Tm}
theorem TD{o:Op}(h:∀x∈o.operands,ev t1 x=ev t2 x):Ka E t1 o=Ka E t2 o:=by
 cases o with
 |move x=>simp only [Ka];exact h x (by simp [Op.operands])
 |assign x=>simp only [Ka];exact h x (by simp [Op.operands])
 |pick c a b=>simp only [Ka];rw [h c (by simp [Op.operands]),h a (by simp [Op.operands]),h b (by simp [Op.operands])]
 |nilCheck x=>simp only [Ka];rw [h x (by simp [Op.operands])]
 |build ty ps=>simp only [Ka];rw [Vr fun p hp=>h p.2 (by simp [Op.operands];exact ⟨p.1,by simpa using hp⟩)]
 |field ty x i=>simp only [Ka];rw [h x (by simp [Op.operands])]
 |fieldAddr ty x i=>simp only [Ka];rw [h x (by simp [Op.operands])]
 |indexAddr ty x i=>simp only [Ka];rw [h x (by simp [Op.operands]),h i (by simp [Op.operands])]
 |binOp op ty x y yt=>simp only [Ka];rw [h x (by simp [Op.operands]),h y (by simp [Op.operands])]
 |unOp op ty x=>simp only [Ka];rw [h x (by simp [Op.operands])]
 |convert s d x=>simp only [Ka];rw [h x (by simp [Op.operands])]
 |sliceToArrayPointer ty x=>simp only [Ka];rw [h x (by simp [Op.operands])]
 |makeInterface ty x=>simp only [Ka];rw [h x (by simp [Op.operands])]
 |makeFunc f fs cs=>simp only [Ka];rw [Ik fun x hx=>h x (by simp [Op.operands];left;simpa using hx),Ik fun x hx=>h x (by simp [Op.operands];right;simpa using hx)]
 |extract x i=>simp only [Ka];rw [h x (by simp [Op.operands])]
 |index ty x i=>simp only [Ka];rw [h x (by simp [Op.operands]),h i (by simp [Op.operands])]
 |call c=>simp only [Ka];rw [Ik fun x hx=>h x (by simp [Op.operands,Call.operands];right;simpa using hx)]
 |_=>rfl
theorem Jv{σ:AH}{o:Op}(h:∀x∈o.operands,ev t1 x=ev t2 x):Cf E t1 σ o=Cf E t2 σ o:=by
 cases o with
 |load ty x=>simp only [Cf];rw [h x (by simp [Op.operands])]
 |binOp op ty x y yt=>simp only [Cf];rw [h x (by simp [Op.operands]),h y (by simp [Op.operands])]
 |slice ty x lo hi mx=>
  have e1:∀d,cB t1 lo d=cB t2 lo d:=fun d=>Wr fun y hy=>h y (by subst hy;simp [Op.operands])
  have e2:∀d,cB t1 hi d=cB t2 hi d:=fun d=>Wr fun y hy=>h y (by subst hy;simp [Op.operands])
  have e3:∀m,mx=some m->cB t1 (some m) 0=cB t2 (some m) 0:=fun m hm=>Wr fun y hy=>by cases hy;exact h m (by subst hm;simp [Op.operands])
  simp only [Cf];rw [h x (by simp [Op.operands])];have:∀v,Sn E t1 ty v lo hi mx=Sn E t2 ty v lo hi mx:=fun v=>by
   unfold Sn;simp only [e1,e2];cases mx with
   |none=>rfl
   |some m=>simp only [e3 m rfl]
  simp only [this]
 |lookup ty x i ok=>simp only [Cf];rw [h x (by simp [Op.operands]),h i (by simp [Op.operands])]
 |_=>rfl
theorem At{o:Op}(h:∀x∈o.operands,ev t1 x=ev t2 x):Zc E t1 o=Zc E t2 o:=by
 cases o with
 |box e x=>simp only [Zc];rw [h x (by simp [Op.operands])]
 |buildSlice ty n ps=>simp only [Zc];rw [Vr fun p hp=>h p.2 (by simp [Op.operands];exact ⟨p.1,by simpa using hp⟩)]
 |makeSlice ty l c=>simp only [Zc];rw [h l (by simp [Op.operands]),h c (by simp [Op.operands])]
 |_=>rfl
theorem eM{σ:AH}{o:Op}(h:∀x∈o.operands,ev t1 x=ev t2 x):Ak E go t1 σ o=Ak E go t2 σ o:=by
 cases o with
 |store ty x y=>simp only [Ak];rw [h x (by simp [Op.operands]),h y (by simp [Op.operands])]
 |mapUpdate ty m k v=>simp only [Ak];rw [h m (by simp [Op.operands]),h k (by simp [Op.operands]),h v (by simp [Op.operands])]
 |insert ty m k v=>simp only [Ak];rw [h m (by simp [Op.operands]),h k (by simp [Op.operands]),h v (by simp [Op.operands])]
 |call c=>
  obtain ⟨ce,xs,ts⟩:=c;simp only [Ak,iv];rw [Ik fun x hx=>h x (by simp [Op.operands,Call.operands];right;simpa using hx)];cases ce with
  |value f=>simp only [h f (by simp [Op.operands,Call.operands])]
  |invoke r m=>simp only [h r (by simp [Op.operands,Call.operands])]
  |builtin b=>rfl
 |_=>rfl
theorem dP{σ:AH}{o:Op}(h:∀x∈o.operands,ev t1 x=ev t2 x):iq E go t1 σ o=iq E go t2 σ o:=by
 unfold iq;rw [TD h,Jv h,At h,eM h]
end
theorem UD{x y:Value}(h:Zu x y=true):x=y:=by
 unfold Zu at h
 split at h<;>(try simp only [Aa,Bool.and_eq_true,Na,Ck,Ce,decide_eq_true_eq,beq_iff_eq]at h)<;>first|rfl|(cases h;done)|skip
 . rw [h]
 . obtain ⟨h1,h2⟩:=h;have:=Qb (by rw [Na];exact decide_eq_true h1);rw [this,h2]
 . rw [h.1,h.2]
 . rw [h.1,h.2]
 . obtain ⟨h1,h2,h3,h4⟩:=h;rw [h1,h2,h3,h4]
 . obtain ⟨h1,h2,h3,h4,h5⟩:=h;rw [h1,h2,h3,h4,h5]
 . rw [h]
 . obtain ⟨h1,h2,h3⟩:=h;rw [h1,h2,h3]
 . rw [h]
mutual
theorem Kv:∀(d:Nat) (x y:Value),lz d x y=true->x=y
 |0,x,y,h=>by simp [lz]at h
 |d+1,x,y,h=>by
  simp only [lz]at h
  split at h
  . rename_i t s l u s' m
    split at h
    . rename_i hb;simp only [Aa,Bool.and_eq_true,Na,decide_eq_true_eq,beq_iff_eq]at hb;obtain ⟨rfl,rfl⟩:=hb;rw [Xr d l m h]
    . cases h
  . exact UD h
theorem Xr:∀(d:Nat) (x y:List Value),Jm d x y=true->x=y
 |0,x,y,h=>by cases x<;>cases y<;>simp [Jm]at h
 |d+1,[],[],h=>rfl
 |d+1,[],y::ys,h=>by simp [Jm]at h
 |d+1,x::xs,[],h=>by simp [Jm]at h
 |d+1,x::xs,y::ys,h=>by
  simp only [Jm]at h
  split at h
  . rename_i h1;rw [Kv d x y h1,Xr d xs ys h]
  . cases h
end
theorem ri:∀{x y:List Value},Km x y=true->x=y
 |[],[],_=>rfl
 |[],_::_,h=>by simp [Km]at h
 |_::_,[],h=>by simp [Km]at h
 |x::xs,y::ys,h=>by
  simp only [Km]at h
  split at h
  . rename_i h1;rw [Kv _ _ _ h1,ri h]
  . cases h
theorem eP{x y:Value}(h:DO x y=true):x=y:=by
 unfold DO at h
 split at h
 . congr 1;apply Array.ext';exact ri h
 . congr 1;apply Array.ext';exact ri h
 . simp only [Aa,Bool.and_eq_true,Na,decide_eq_true_eq]at h;obtain ⟨h1,h2,h3⟩:=h;rw [h1]
   congr 1
   . apply Array.ext';exact ri h2
   . apply Array.ext';exact ri h3
 . simp only [Aa,Bool.and_eq_true,Na,decide_eq_true_eq]at h;obtain ⟨h1,h2,h3⟩:=h;rw [h1]
   congr 1
   . apply Array.ext';exact ri h2
   . apply Array.ext';exact ri h3
 . exact Kv _ _ _ h
end Sk
end Go.Proofs.YtfnkmolffhfpoaaGreat
