/- -/
import Derived.Test.YtfnkmolffhfpoaaGreatHb10
set_option linter.unusedVariables false
set_option linter.unusedSimpArgs false
set_option linter.unusedSectionVars false
namespace Go.Proofs.YtfnkmolffhfpoaaGreat
namespace Sk
open Go.RowKit
variable[Interp]
theorem Kw{R:Mp}{k v:Value}{kd:IntKind}:∀(es:List (Value×Value)) (zj:List MapEntry) (r:List (Value×Value)),es.length=zj.length->
  (∀(i:Nat) (p:Value×Value) (e:MapEntry),es[i]?=some p->zj[i]?=some e->VR R p.1 e.key/\VR R p.2 e.val)->KK k v es=some r->∀i:Nat,
  (Instr.findNow (.int kd) k zj i=some none/\r=es++[(k,v)])\/
  ∃j e,Instr.findNow (.int kd) k zj i=some (some (i+j,e.val))/\zj[j]?=some e/\e.key=k/\r=es.set j (k,v)/\∃q n,k= .int q n
 |[],zj,r,hl,hp,h,i=>by
  have:zj=[]:=by simpa using hl.symm
  subst this;simp [KK]at h;subst h;exact .inl ⟨by simp [Instr.findNow],rfl⟩
 |p::es,[],r,hl,hp,h,i=>by simp at hl
 |p::es,e::zj,r,hl,hp,h,i=>by
  obtain ⟨h1,h2⟩:=hp 0 p e rfl rfl;simp only [KK]at h
  split at h
  . rename_i hs;cases h;obtain ⟨q,n,m,rfl,he,hb⟩:=Aj hs;rw [he]at h1;have hk:=wc h1;have gK:n=m:=of_decide_eq_true hb.symm;subst gK;exact .inr ⟨0,e,by simp [Instr.findNow,hk,Instr.sameNow],rfl,hk,rfl,q,n,rfl⟩
  . rename_i hs;obtain ⟨q,n,m,rfl,he,hb⟩:=Aj hs;rw [he]at h1;have hk:=wc h1;have gK:¬n=m:=of_decide_eq_false hb.symm;have e2:Instr.findNow (.int kd) (.int q n) (e::zj) i=Instr.findNow (.int kd) (.int q n) zj (i+1):=by
     have:(n==m)=false:=by simpa using gK
     simp [Instr.findNow,hk,Instr.sameNow,this]
    split at h
    . rename_i r2 Zx;cases h;rcases Kw (kd:=kd) es zj r2 (by simpa using hl) (fun i p e a b=>hp (i+1) p e (by simpa using a) (by simpa using b)) Zx (i+1)with⟨k1,k2⟩|⟨j,ee,k1,k2,k3,k4,k5⟩
      . exact .inl ⟨by rw [e2];exact k1,by rw [k2];rfl⟩
      . exact .inr ⟨j+1,ee,by rw [e2,k1];congr 3;omega,by simpa using k2,k3,by rw [k4];rfl,k5⟩
    . cases h
  . cases h
section
variable{E:Env}(hE:Pb E){B:Nat->Prop}{w0:World}{R:Mp}{σ:AH}{w:World}(hS:Ic B w0 R σ w)
include hE hS
theorem Lw{ty:TypeId}{m k v m' k' v' x:Value}{σ':AH}(hm:VR R m m')(hk:VR R k k')(hv:VR R v v')(h:LK E σ ty m k v=some (x,σ')):
  ∃w',(Instr.mapUpdate ty m' k' v').run E.P w= .ok () w'/\x=undef/\Ext R σ R σ'/\Ic B w0 R σ' w':=by
 unfold LK at h
 split at h
 . rename_i i r hi;obtain ⟨ii,d,hT⟩:=hE.is hi
   split at h
   . rename_i kt et es Zd YW hg;have:=hT.mp Zd;subst this
     split at h
     . rename_i ik hkt;obtain ⟨ki,kd,lQ⟩:=hE.is hkt
       split at h
       . rename_i BP;obtain ⟨kk,rfl⟩:∃kk,_=TypeDesc.int kk:=⟨_,lQ.it BP⟩;have gT:∃q n,k= .int q n:=by cases k<;>simp [isI]at YW;exact ⟨_,_,rfl⟩
         obtain ⟨q,n,rfl⟩:=gT;have:=wc hk;subst this;have hr:∃r' s,m'= .map (some r')/\R r=some (r',s):=by
          cases hm with
          |flat v h=>simp [ic]at h
          |map r r' s h=>exact ⟨r',s,rfl,h⟩
         obtain ⟨r',s,rfl,hr⟩:=hr;obtain ⟨_,zj,cl,h1,h2,h3⟩:=hS.obj r r' s _ hr hg;rw [fh,Ei]at h
         split at h
         . rename_i es2 hes;rw [Wb]at h;cases h;have ej:=qB (P:=E.P) (w:=w) (q:=q) (n:=n) lQ.Df false 9999;have wi:(getObj r').run E.P w= .ok (.map zj cl) w:=by simp [getObj,Sem.run,h1]
           have X3:∀o,(setObj r' o).run E.P w= .ok () {w with heap:=w.heap.setIfInBounds r' o}:=fun o=>by simp [setObj,Sem.run,h1]
           have Ab:r'<w.heap.size:=(Array.getElem?_eq_some_iff.1 h1).1
           have fin:∀(Y3:Array MapEntry) (cl3:Nat),es2.length=Y3.size->(∀(i:Nat) (p:Value×Value) (e:MapEntry),es2[i]?=some p->Y3[i]?=some e->VR R p.1 e.key/\VR R p.2 e.val)->
             Ic B w0 R (σ.put r (some (.map es2))) {w with heap:=w.heap.setIfInBounds r' (.map Y3 cl3)}:=fun Y3 cl3 k1 k2=>by
            refine hS.aL hr (by rw [hg];simp) ?_ (fun k hk=>by simp [Ne.symm hk]) (by simp) rfl rfl rfl
            exact ⟨Y3,cl3,by simp [Ab],k1,k2⟩
           rcases Kw (kd:=kk) es zj.toList es2 (by simpa using h2) (fun i p e a b=>h3 i p e a (by simpa using b)) hes 0 with⟨k1,k2⟩|⟨j,e,k1,k2,k3,k4,k5⟩
           . have mQ:=Yn (P:=E.P) (w:=w) lQ.Df k1;refine ⟨{w with heap:=w.heap.setIfInBounds r' (.map (zj.push {key:= .int q n,val:=v',born:=cl}) (cl+1))}, ?_,rfl,Ext.put R σ hr _,fin _ _ ?_ ?_⟩
             . simp [Instr.mapUpdate,Qa w hT.Df,Result.andThen,wi,ej,mQ,X3]
             . rw [k2];simp [h2]
             . intro i p e hp he;rw [k2]at hp;by_cases hi:i<es.length
               . rw [List.getElem?_append_left hi]at hp;rw [Array.getElem?_push,if_neg (by omega)]at he;exact h3 i p e hp he
               . have rQ:i=es.length:=by
                  have:=(List.getElem?_eq_some_iff.1 hp).1
                  simp at this;omega
                 subst rQ;simp at hp;rw [h2]at he;simp at he;subst hp;subst he;exact ⟨.flat _ rfl,hv⟩
           . have mQ:=Yn (P:=E.P) (w:=w) lQ.Df k1;have hj:zj[j]?=some e:=by simpa using k2
             have sQ:Instr.sameBits 10000 (.int q n) (.int q n)=true:=by simp [Instr.sameBits]
             refine ⟨{w with heap:=w.heap.setIfInBounds r' (.map (zj.modify j fun e=>{e with key:= .int q n,val:=v'}) cl)}, ?_,rfl,Ext.put R σ hr _,fin _ _ ?_ ?_⟩
             . simp [Instr.mapUpdate,Qa w hT.Df,Result.andThen,wi,ej,mQ,X3,hj,k3,Instr.keyThatStays,sQ]
             . rw [k4];simp [h2]
             . intro i p e2 hp he;rw [k4]at hp;rw [Array.getElem?_modify]at he;by_cases xk:j=i
               . subst xk;have O3:j<es.length:=by have:=(Array.getElem?_eq_some_iff.1 hj).1;omega
                 rw [List.getElem?_set_self O3]at hp;rw [if_pos rfl,hj]at he;simp at he;cases hp;subst he;exact ⟨.flat _ rfl,hv⟩
               . rw [List.getElem?_set_ne xk]at hp;rw [if_neg xk]at he;exact h3 i p e2 hp he
         . cases h
       . cases h
     . cases h
   . cases h
 . cases h
theorem Dv{t:Tm}{a:Act}(ht:TR R t a.tmps)(go:Task->Option Hh)(o:Oper)(hb:∀c,o.op= .call c->∃b,c.callee= .builtin b){v:Value}{σ':AH}(h:Di E go t σ o.op=some (v,σ')):
  cL B w0 R σ ((execOp a.eval o).run E.P w) v σ':=by
 obtain ⟨dst,op,tp,pos,af,g⟩:=o;cases op with
 |store ty x y=>
  simp only [Di]at h
  split at h
  . rename_i u v0 i hu hv hi;obtain ⟨w',k1,k2,k3,k4⟩:=uB hE hS hi (Aa ht hu) (Aa ht hv) h;exact ⟨R,undef,w',k3,by rw [k2];exact Vd R,k4, .inr ⟨by simp [execOp,Result.andThen,k1],rfl⟩⟩
  . cases h
 |mapUpdate ty m k x=>
  simp only [Di]at h
  split at h
  . rename_i u k0 v0 hu hk hv;obtain ⟨w',k1,k2,k3,k4⟩:=Lw hE hS (Aa ht hu) (Aa ht hk) (Aa ht hv) h;exact ⟨R,undef,w',k3,by rw [k2];exact Vd R,k4, .inr ⟨by simp [execOp,Result.andThen,k1],rfl⟩⟩
  . cases h
 |insert ty m k x=>
  simp only [Di]at h
  split at h
  . rename_i u k0 v0 hu hk hv;obtain ⟨w',k1,k2,k3,k4⟩:=Lw hE hS (Aa ht hu) (Aa ht hk) (Aa ht hv) h;exact ⟨R,undef,w',k3,by rw [k2];exact Vd R,k4, .inr ⟨by simp [execOp,Result.andThen,k1],rfl⟩⟩
  . cases h
 |call c=>
  obtain ⟨b,hc⟩:=hb c rfl;obtain ⟨ce,xs,ts⟩:=c;simp only at hc;subst hc;simp only [Di,Ar]at h
  split at h
  . cases h
  . rename_i args Mw;have hl:=We ht Mw
    split at h
    . rename_i s x;obtain ⟨y1,l1,e1,hs,CP⟩:=hl.qa;obtain ⟨y2,l2,rfl,hx,iG⟩:=CP.qa;have:=iG.uc;subst this;have vv:xs.map a.eval=#[y1,y2]:=by apply Array.ext';simpa using e1
      obtain ⟨R',v',w',k1,k2,k3,k4⟩:=pI hE hS (ty:=tp) hs hx h;exact ⟨R',v',w',k1,k2,k3, .inl (by simp [execOp,resolve,invoke,builtin,Result.andThen,vv,k4])⟩
    . rename_i d s;obtain ⟨y1,l1,e1,hs,CP⟩:=hl.qa;obtain ⟨y2,l2,rfl,hx,iG⟩:=CP.qa;have:=iG.uc;subst this;have vv:xs.map a.eval=#[y1,y2]:=by apply Array.ext';simpa using e1
      obtain ⟨R',v',w',k1,k2,k3,k4⟩:=XD hE hS (ty:=tp) hs hx h;exact ⟨R',v',w',k1,k2,k3, .inl (by simp [execOp,resolve,invoke,builtin,Result.andThen,vv,k4])⟩
    . rename_i d;obtain ⟨y1,l1,e1,hs,CP⟩:=hl.qa;have:=CP.uc;subst this;have vv:xs.map a.eval=#[y1]:=by apply Array.ext';simpa using e1
      obtain ⟨R',v',w',k1,k2,k3,k4⟩:=xB hE hS (ty:=tp) hs h;exact ⟨R',v',w',k1,k2,k3, .inl (by simp [execOp,resolve,invoke,builtin,Result.andThen,vv,k4])⟩
    . cases h
 |_=>simp [Di]at h
end
end Sk
end Go.Proofs.YtfnkmolffhfpoaaGreat
namespace Go.Proofs.YtfnkmolffhfpoaaGreat
namespace Sk
open Go.RowKit
variable[Interp]
structure Good(F:Fence):Prop where
 fn:∀f,F.fn f
 depth:F.depth=none
 alive:F.alive=false
theorem qI:Good Fence.wide:=⟨fun _=>trivial,rfl,rfl⟩
theorem Good.inRound{F:Fence}(h:Good F)(l:Nat):Good (F.inRound l):=⟨h.fn,h.depth,h.alive⟩
theorem Good.plain{F:Fence}(h:Good F):Good F.plain:=⟨h.fn,h.depth,h.alive⟩
theorem Good.fenced{F:Fence}(h:Good F)(P:Program)(m:Machine):m.fenced P F:=fun g _=>⟨fun e=>(by rw [h.alive]at e;cases e), .inl (h.fn _),fun f _=>h.fn f,fun d e=>(by rw [h.depth]at e;cases e)⟩
theorem Good.calls{F:Fence}(hF:Good F){n:Nat}{P:Program}{f:FuncId}{args:Array Value}{w:World}{R:Ending->World->Prop}(h:Calls P f args w R):CallsIn F n P f args w R:=
 ⟨hF.fn f,fun cs _=>let⟨e,w',fr,r,s,x⟩:=h cs;⟨e,w',fr,r,(by
   cases e with
   |outgrown=>exact s
   |returned v=>exact (StepsIn.of_steps s).mono fun m _=>hF.fenced P m
   |panicked c=>exact (StepsIn.of_steps s).mono fun m _=>hF.fenced P m),x⟩⟩
theorem Good.deep{F:Fence}(h:Good F)(n:Nat):F.depth.isSome=true->1<=n:=fun e=>by rw [h.depth]at e;cases e
def MR(R:Mp):List Nat->List Deferred->Prop
 |[],[]=>True
 |b::bs,d::ds=>(∃r s,R b=some (r,s)/\d={target:= .collected r,args:=#[]})/\MR R bs ds
 |_,_=>False
theorem MR.mono{R R':Mp}(hle:R.le R'):∀{ms:List Nat} {ds:List Deferred},MR R ms ds->MR R' ms ds
 |[],[],_=>trivial
 |b::bs,d::ds,⟨⟨r,s,h1,h2⟩,h3⟩=>⟨⟨r,s,hle _ _ h1,h2⟩,MR.mono hle h3⟩
 |[],_::_,h=>h.elim
 |_::_,[],h=>h.elim
def Gg(B:Nat->Prop)(w0:World)(R:Mp)(σ:AH)(v:Value)(σ':AH)(e:Ending)(w':World):Prop:=
 ∃R' v',e= .returned v'/\Ext R σ R' σ'/\VR R' v v'/\Ic B w0 R' σ' w'
def Xd(B:Nat->Prop)(w0:World)(R:Mp)(σ:AH)(x:Exit)(t:Tm)(ms:List Nat)(σ':AH)(e:Exit)(a:Act)(w':World):Prop:=
 ∃R',e=x/\Ext R σ R' σ'/\TR R' t a.tmps/\MR R' ms a.defers/\Ic B w0 R' σ' w'
structure yB(E:Env)(go:Task->Option Hh):Prop where
 call:∀f args σ v σ',go (.call f args σ)=some (.val v σ')->∀(B:Nat->Prop) (w0:World) (R:Mp) (w:World) (args':Array Value),Ic B w0 R σ w->LR R args args'.toList->
  (callFunc f args').run E.P w= .ok (.enter f args') w/\∀(F:Fence),Good F->∀n,CallsIn F n E.P f args' w (Gg B w0 R σ v σ')
 round:∀l args σ v σ',go (.round l args σ)=some (.val v σ')->∀(B:Nat->Prop) (w0:World) (R:Mp) (w:World) (args':Array Value) (l' s:Nat),Ic B w0 R σ w->LR R args args'.toList->R l=some (l',s)->
  ∃f tmps assign body,(Instr.yield l' args').run E.P w= .ok (.round l' f tmps assign body) w/\∀(F:Fence),Good F->∀n,RoundIn F n E.P l' f tmps assign body w (Gg B w0 R σ v σ')
 code:∀q c t ms σ x t' Kl σ',go (.code q c t ms σ)=some (.at x t' Kl σ')->∀(B:Nat->Prop) (w0:World) (R:Mp) (w:World) (a:Act),Ic B w0 R σ w->TR R t a.tmps->MR R ms a.defers->
  ∀(F:Fence),Good F->(q=false->F.round=none)->∀n,c.wpIn F n E.P (Xd B w0 R σ x t' Kl σ') a w
section
variable{E:Env}(hE:Pb E){go:Task->Option Hh}(hG:yB E go){B:Nat->Prop}{w0:World}{R:Mp}{σ:AH}{w:World}(hS:Ic B w0 R σ w){t:Tm}{a:Act}(ht:TR R t a.tmps)
include hE hG hS ht
theorem Sy{F:Fence}(hF:Good F){n:Nat}{o:Oper}(hd:∀c,o.op≠ .defer c){v:Value}{σ':AH}(h:cL B w0 R σ ((execOp a.eval o).run E.P w) v σ'){K:Act->World->Prop}{Q:Exit->Act->World->Prop}
  (hK:∀R' v' w',Ext R σ R' σ'->VR R' v v'->Ic B w0 R' σ' w'->K (a.put o.dst v') w'):o.wpIn F n E.P a w K Q:=by
 obtain ⟨R',v',w',k1,k2,k3,k4⟩:=h;refine ⟨fun f _=>hF.fn f, ?_⟩;rw [Oper.semAt_eq _ _ _ hd];rcases k4 with k4|⟨k4,k5⟩
 . rw [k4];exact hK R' v' w' k1 k2 k3
 . rw [k4];subst k5;exact hK R' undef w' k1 k2 k3
theorem tQ{F:Fence}(hF:Good F){n:Nat}{dst:Option Tmp}{c:Call}{tp:TypeId}{pos:String}{af:Array Edge}{g:Option (Nat×Bool)}(oK:∀b,c.callee≠ .builtin b){v:Value}{σ':AH}(h:Ar E go t σ c=some (v,σ')){K:Act->World->Prop}{Q:Exit->Act->World->Prop}
  (hK:∀R' v' w',Ext R σ R' σ'->VR R' v v'->Ic B w0 R' σ' w'->K (a.put dst v') w'):(⟨dst, .call c,tp,pos,af,g⟩:Oper).wpIn F n E.P a w K Q:=by
 obtain ⟨ce,xs,ts⟩:=c;have enter:∀(f:FuncId) (as:List Value) (as':Array Value),LR R as as'.toList->bQ (go (.call f as σ))=some (v,σ')->(execOp a.eval ⟨dst, .call ⟨ce,xs,ts⟩,tp,pos,af,g⟩).run E.P w=(callFunc f as').run E.P w->
   (⟨dst, .call ⟨ce,xs,ts⟩,tp,pos,af,g⟩:Oper).wpIn F n E.P a w K Q:=fun f as as' hl hv hx=>by
  have wi:go (.call f as σ)=some (.val v σ'):=by
   cases wi:go (.call f as σ)with
   |none=>rw [wi]at hv;cases hv
   |some r=>cases r with
    |val v1 σ1=>rw [wi]at hv;cases hv;rfl
    |«at»=>rw [wi]at hv;cases hv
  obtain ⟨k1,k2⟩:=hG.call f as σ v σ' wi B w0 R w as' hS hl;refine ⟨fun f _=>hF.fn f, ?_⟩;rw [Oper.semAt_eq _ _ _ (fun c e=>by cases e),hx,k1];refine ⟨hF.deep n,(k2 F hF (n -1)).mono ?_⟩;rintro e w' ⟨R',v',rfl,q1,q2,q3⟩;exact hK R' v' w' q1 q2 q3
 unfold Ar at h;simp only at h
 split at h
 . cases h
 . rename_i args Mw;have hl:=We ht Mw
   split at h
   . rename_i x
     split at h
     . rename_i fn fs cs hx;have uD:=Aa ht hx
       split at h
       . rename_i f;have:∃YD ZD,LR R fs.toList YD/\LR R cs.toList ZD/\a.eval x= .func (.func f) ⟨YD⟩ ⟨ZD⟩:=by
          generalize a.eval x=q at uD;cases uD with
          |flat v h=>exact ⟨fs.toList,cs.toList,by
            cases fs with|mk fs=>cases cs with|mk cs=>
            cases fs with
            |nil=>exact LR.nil R
            |cons=>simp [ic]at h,by
            cases fs with|mk fs=>cases cs with|mk cs=>
            cases fs with
            |nil=>cases cs with
             |nil=>exact LR.nil R
             |cons=>simp [ic]at h
            |cons=>simp [ic]at h,rfl⟩
          |fn f a a' c c' ha hc h1 h2=>exact ⟨a',c',⟨ha,h1⟩,⟨hc,h2⟩,rfl⟩
         obtain ⟨YD,ZD,l1,l2,hv⟩:=this;refine enter f _ (⟨YD⟩++xs.map a.eval++⟨ZD⟩) ?_ h ?_
         . have:(⟨YD⟩++xs.map a.eval++⟨ZD⟩:Array Value).toList=YD++(xs.toList.map a.eval++ZD):=by simp
           rw [this];exact LR.append l1 (LR.append hl l2)
         . simp only [execOp,resolve];rw [hv];simp [Deferred.ofValue,Result.andThen,invoke]
       . rename_i l
         split at h
         . rename_i gQ;have:∃l' s,R l=some (l',s)/\a.eval x= .func (.yield l') #[] #[]:=by
            generalize a.eval x=q at uD;cases uD with
            |flat v h=>simp [ic]at h
            |yl l l' s h=>exact ⟨l',s,h,rfl⟩
           obtain ⟨l',s,hR,hv⟩:=this;have wi:go (.round l args σ)=some (.val v σ'):=by
            cases wi:go (.round l args σ)with
            |none=>rw [wi]at h;cases h
            |some r=>cases r with
             |val v1 σ1=>rw [wi]at h;cases h;rfl
             |«at»=>rw [wi]at h;cases h
           obtain ⟨f,tmps,as,bd,k1,k2⟩:=hG.round l args σ v σ' wi B w0 R w (xs.map a.eval) l' s hS (by simpa using hl) hR;refine ⟨fun f _=>hF.fn f, ?_⟩;have dX:(execOp a.eval ⟨dst, .call ⟨.value x,xs,ts⟩,tp,pos,af,g⟩).run E.P w=(Instr.yield l' (xs.map a.eval)).run E.P w:=by
            simp only [execOp,resolve];rw [hv];simp [Deferred.ofValue,Result.andThen,invoke]
           rw [Oper.semAt_eq _ _ _ (fun c e=>by cases e),dX,k1];refine ⟨hF.deep n,(k2 F hF (n -1)).mono ?_⟩;rintro e w' ⟨R',v',rfl,q1,q2,q3⟩;exact hK R' v' w' q1 q2 q3
         . cases h
       . cases h
     . cases h
   . rename_i x name
     split at h
     . rename_i ty u hx;have uD:=Aa ht hx
       split at h
       . rename_i f hm;have:∃u',VR R u u'/\a.eval x= .iface ty u':=by
          generalize a.eval x=q at uD;cases uD with
          |flat v h=>simp [ic]at h
          |mv t v v' h=>exact ⟨v',h,rfl⟩
         obtain ⟨u',hu,hv⟩:=this;refine enter f _ (#[u']++xs.map a.eval) ?_ h ?_
         . have:(#[u']++xs.map a.eval:Array Value).toList=u'::xs.toList.map a.eval:=by simp
           rw [this];exact LR.cons hu hl
         . simp only [execOp,resolve];rw [hv];have hme:=hE.ov ty name f hm u' w;obtain ⟨A,hA⟩:∃A,A=xs.map a.eval:=⟨_,rfl⟩;rw [<-hA];have e1:(#[Value.iface ty u']++A)[0]?=some (.iface ty u'):=by rw [Array.getElem?_append_left (by simp)];rfl
           have e2:(#[Value.iface ty u']++A).extract 1 (#[Value.iface ty u']++A).size=A:=by
            apply Array.ext';simp
           simp only [Sem.run_bind,Sem.run_pure,Result.andThen,invoke,e1,e2,callMethod,run_program,hme]
       . cases h
     . cases h
   . rename_i b;exact absurd rfl (oK b)
theorem Nr{F:Fence}(hF:Good F){n:Nat}(o:Oper){v:Value}{σ':AH}(h:Hn E go t σ o.op=some (v,σ')){K:Act->World->Prop}{Q:Exit->Act->World->Prop}
  (hK:∀R' v' w',Ext R σ R' σ'->VR R' v v'->Ic B w0 R' σ' w'->K (a.put o.dst v') w'):o.wpIn F n E.P a w K Q:=by
 have Mh:cls o.op≠ .no:=fun e=>by unfold Hn at h;rw [e]at h;cases h
 have hd:∀c,o.op≠ .defer c:=fun c e=>by rw [e]at Mh;exact Mh rfl
 unfold Hn at h
 split at h
 . rename_i hc;cases hs:Da E t o.op with
   |none=>rw [hs]at h;cases h
   |some v1=>
    rw [hs]at h;simp only [Br]at h;cases h;obtain ⟨v',k1,k2⟩:=nB hE ht o hc hs;exact Sy hE hG hS ht hF hd ⟨R,v',w,Ext.refl R σ,k1,hS, .inl (k2 w)⟩ hK
 . rename_i hc;cases hs:Pe E t σ o.op with
   |none=>rw [hs]at h;cases h
   |some v1=>
    rw [hs]at h;simp only [Br]at h;cases h;obtain ⟨v',k1,k2⟩:=UD hE hS ht o hc hs;exact Sy hE hG hS ht hF hd ⟨R,v',w,Ext.refl R σ,k1,hS, .inl k2⟩ hK
 . rename_i hc;cases hs:Oc E t o.op with
   |none=>rw [hs]at h;cases h
   |some p=>
    obtain ⟨x,f⟩:=p;obtain ⟨nx,tr⟩:=σ;rw [hs]at h;simp only [fresh,Uh]at h;cases h;obtain ⟨ob,s,g,k1,k2,k3⟩:=Zp hE ht o hs;exact Sy hE hG hS ht hF hd ⟨_,_,_,Ext.new hS x (w.heap.size,s),k3 _ _ _ (Mp.Wc R _ _),hS.new k1 (rB hs), .inl (k2 w)⟩ hK
 . rename_i hc;obtain ⟨dst,op,tp,pos,af,g⟩:=o;by_cases jG:∃c,op= .call c/\∀b,c.callee≠ .builtin b
   . obtain ⟨c,rfl,oK⟩:=jG;exact tQ hE hG hS ht hF oK h hK
   . refine Sy hE hG hS ht hF hd (Dv hE hS ht go ⟨dst,op,tp,pos,af,g⟩ (fun c e=> ?_) h) hK;by_cases hb:∃b,c.callee= .builtin b
     . exact hb
     . exact absurd ⟨c,e,fun b zP=>hb ⟨b,zP⟩⟩ jG
 . cases h
end
end Sk
end Go.Proofs.YtfnkmolffhfpoaaGreat
namespace Go.Proofs.YtfnkmolffhfpoaaGreat
namespace Sk
open Go.RowKit
variable[Interp]
theorem Ak{R:Mp}{v v':Value}(h:VR R v v')(hs:Xj v=false)(b:Bool):v'= .bool b<->v= .bool b:=by
 constructor
 . intro e;subst e;cases h with
   |flat v h=>rfl
   |sym=>cases hs
 . intro e;subst e;exact ll h
theorem Pr{R:Mp}{t:Tm}{a:Act}(ht:TR R t a.tmps)(ops:Array Oper)(o:Oper)(Wn:pj ops.toList t o=true):Region.wanted o (yielded ops a.tmps)=Wp ops.toList t o:=by
 unfold Region.wanted Wp;unfold pj at Wn;cases hg:o.guard with
 |none=>rfl
 |some g=>
  obtain ⟨j,want⟩:=g;rw [hg]at Wn;simp only [Gc]at Wn⊢;unfold yielded;have hj:ops.toList[j]?=ops[j]?:=by simp
  rw [hj]at Wn⊢;cases h1:ops[j]?with
  |none=>rfl
  |some oj=>
   rw [h1]at Wn;simp only [Option.bind_some];cases h2:oj.dst with
   |none=>rfl
   |some d=>
    simp only [Option.bind_some];have hv:=ht.nth d;simp only [h2,ke,Bool.not_eq_true']at Wn;rw [Array.getD_eq_getD_getElem?]at hv;cases h3:a.tmps[d]?with
    |none=>
     rw [h3]at hv;simp only [Option.getD_none]at hv;have:∀b,nth t d≠ .bool b:=fun b e=>by have:=(Ak hv Wn b).2 e;cases this
     generalize nth t d=q at this;cases q<;>first|rfl|exact absurd rfl (this _)
    |some y=>
     rw [h3]at hv;simp only [Option.getD_some]at hv;by_cases hb:∃b,y= .bool b
     . obtain ⟨b,rfl⟩:=hb;have:=(Ak hv Wn b).1 rfl
       rw [this];simp only [Fi];cases b<;>cases want<;>rfl
     . have:∀b,nth t d≠ .bool b:=fun b e=>hb ⟨b,(Ak hv Wn b).2 e⟩
       have h4:∀b,y≠ .bool b:=fun b e=>hb ⟨b,e⟩
       generalize nth t d=q at this;cases y<;>first|exact absurd rfl (h4 _)|skip
       all_goals cases q<;>first|rfl|exact absurd rfl (this _)
theorem Qr{R:Mp}{t:Tm}{a:Act}(ht:TR R t a.tmps){d:Option Tmp}{v v':Value}(hv:VR R v v'){β:Type}{k:Tm->Option β}{x:β}(h:XA t d v k=some x):∃t',k t'=some x/\TR R t' (a.put d v').tmps/\(a.put d v').defers=a.defers:=by
 cases d with
 |none=>exact ⟨t,h,ht,rfl⟩
 |some d=>
  simp only [XA,Gi]at h
  split at h
  . rename_i hd;exact ⟨_,h,ht.put hd hv,rfl⟩
  . cases h
section
variable{E:Env}(hE:Pb E){go:Task->Option Hh}(hG:yB E go){B:Nat->Prop}{w0:World}
include hE hG
theorem Zo{F:Fence}(hF:Good F){n:Nat}(ops:Array Oper){Q:Exit->Act->World->Prop}:∀(os:List Oper) (k:Nat) (R:Mp) (t:Tm) (σ:AH) (a:Act) (w:World) (t':Tm) (σ':AH),ops.toList.drop k=os->Cr E go ops.toList os t σ=some (t',σ')->TR R t a.tmps->Ic B w0 R σ w->
  (∀R' a' w',Ext R σ R' σ'->TR R' t' a'.tmps->a'.defers=a.defers->Ic B w0 R' σ' w'->Q .normal a' w')->wpOpsIn F n E.P ops Q (List.range' k os.length) a w
 |[],k,R,t,σ,a,w,t',σ',hk,h,ht,hS,hQ=>by
  simp only [Cr]at h;cases h;simp only [List.length_nil,List.range'_zero,wpOpsIn];exact hQ R a w (Ext.refl R σ) ht rfl hS
 |o::os,k,R,t,σ,a,w,t',σ',hk,h,ht,hS,hQ=>by
  have ho:ops[k]?=some o:=by
   have:=congrArg (fun l=>l[0]?) hk
   simpa [List.getElem?_drop]using this
  have rI:ops.toList.drop (k+1)=os:=by
   have:=congrArg (fun l=>l.drop 1) hk
   simpa [List.drop_drop,Nat.add_comm]using this
  simp only [List.length_cons,List.range'_succ,wpOpsIn,ho];simp only [Cr]at h
  split at h
  . cases h
  rename_i Wn;rw [Pr ht ops o Wn]
  split at h
  . rename_i hw;rw [hw];simp only [Bool.false_eq_true,if_false];obtain ⟨t1,h1,h2,h3⟩:=Qr ht (Vd R) h;refine ⟨fun f _=>hF.fn f,Zo hF ops os (k+1) R t1 σ _ w t' σ' rI h1 h2 hS fun R' a' w' e1 e2 e3 e4=>hQ R' a' w' e1 e2 (e3.trans h3) e4⟩
  . rename_i hw;rw [hw];simp only [if_true]
    split at h
    . cases h
    . rename_i v σ1 Uj;rw [Ei]at h;refine Nr hE hG hS ht hF o Uj fun R' v' w' k1 k2 k3=> ?_
      obtain ⟨t1,h1,h2,h3⟩:=Qr (ht.mono k1.le) k2 h;exact Zo hF ops os (k+1) R' t1 σ1 _ w' t' σ' rI h1 h2 k3 fun R2 a' w2 e1 e2 e3 e4=>hQ R2 a' w2 (k1.trans e1) e2 (e3.trans h3) e4
theorem Ty{F:Fence}(hF:Good F){n:Nat}(id:Nat)(ops:Array Oper){R:Mp}{t t':Tm}{σ σ':AH}{a:Act}{w:World}{ms:List Nat}(h:Cr E go ops.toList ops.toList t σ=some (t',σ'))(ht:TR R t a.tmps)(hm:MR R ms a.defers)(hS:Ic B w0 R σ w):
  (Code.region id ops false).wpIn F n E.P (Xd B w0 R σ .normal t' ms σ') a w:=by
 refine wpIn_region ?_
 have:=Zo hE hG hF (n:=n) ops (Q:=Xd B w0 R σ .normal t' ms σ') ops.toList 0 R t σ a w t' σ' (by simp) h ht hS fun R' a' w' e1 e2 e3 e4=>⟨R',rfl,e1,e2,by rw [e3];exact hm.mono e1.le,e4⟩
 rw [Array.length_toList]at this;rwa [List.range_eq_range']
end
end Sk
end Go.Proofs.YtfnkmolffhfpoaaGreat
namespace Go.Proofs.YtfnkmolffhfpoaaGreat
namespace Sk
open Go.RowKit
variable[Interp]
theorem kL{t1 t2:Tm}{x:Operand}(h:∀d,x= .tmp d->nth t1 d=nth t2 d):ev t1 x=ev t2 x:=by
 cases x with
 |tmp d=>simp only [ev];rw [h d rfl]
 |_=>rfl
theorem Ni{t1 t2:Tm}:∀{xs:List Operand},(∀x∈xs,ev t1 x=ev t2 x)->iK t1 xs=iK t2 xs
 |[],_=>rfl
 |x::xs,h=>by simp only [iK];rw [h x (by simp),Ni (xs:=xs) fun y hy=>h y (by simp [hy])]
theorem bp{t1 t2:Tm}:∀{ps:List (Nat×Operand)},(∀p∈ps,ev t1 p.2=ev t2 p.2)->wP t1 ps=wP t2 ps
 |[],_=>rfl
 |p::ps,h=>by simp only [wP];rw [h p (by simp),bp (ps:=ps) fun y hy=>h y (by simp [hy])]
theorem cp{t1 t2:Tm}{x:Option Operand}{d:Nat}(h:∀y,x=some y->ev t1 y=ev t2 y):ly t1 x d=ly t2 x d:=by
 cases x with
 |none=>rfl
 |some y=>simp only [ly];rw [h y rfl]
section
variable{E:Env}{go:Task->Option Hh}{t1 t2:Tm}
theorem zB{o:Op}(h:∀x∈o.operands,ev t1 x=ev t2 x):Da E t1 o=Da E t2 o:=by
 cases o with
 |move x=>simp only [Da];exact h x (by simp [Op.operands])
 |assign x=>simp only [Da];exact h x (by simp [Op.operands])
 |pick c a b=>simp only [Da];rw [h c (by simp [Op.operands]),h a (by simp [Op.operands]),h b (by simp [Op.operands])]
 |nilCheck x=>simp only [Da];rw [h x (by simp [Op.operands])]
 |build ty ps=>simp only [Da];rw [bp fun p hp=>h p.2 (by simp [Op.operands];exact ⟨p.1,by simpa using hp⟩)]
 |field ty x i=>simp only [Da];rw [h x (by simp [Op.operands])]
 |fieldAddr ty x i=>simp only [Da];rw [h x (by simp [Op.operands])]
 |indexAddr ty x i=>simp only [Da];rw [h x (by simp [Op.operands]),h i (by simp [Op.operands])]
 |binOp op ty x y yt=>simp only [Da];rw [h x (by simp [Op.operands]),h y (by simp [Op.operands])]
 |unOp op ty x=>simp only [Da];rw [h x (by simp [Op.operands])]
 |convert s d x=>simp only [Da];rw [h x (by simp [Op.operands])]
 |sliceToArrayPointer ty x=>simp only [Da];rw [h x (by simp [Op.operands])]
 |makeInterface ty x=>simp only [Da];rw [h x (by simp [Op.operands])]
 |makeFunc f fs cs=>simp only [Da];rw [Ni fun x hx=>h x (by simp [Op.operands];left;simpa using hx),Ni fun x hx=>h x (by simp [Op.operands];right;simpa using hx)]
 |extract x i=>simp only [Da];rw [h x (by simp [Op.operands])]
 |index ty x i=>simp only [Da];rw [h x (by simp [Op.operands]),h i (by simp [Op.operands])]
 |call c=>simp only [Da];rw [Ni fun x hx=>h x (by simp [Op.operands,Call.operands];right;simpa using hx)]
 |_=>rfl
theorem Rr{σ:AH}{o:Op}(h:∀x∈o.operands,ev t1 x=ev t2 x):Pe E t1 σ o=Pe E t2 σ o:=by
 cases o with
 |load ty x=>simp only [Pe];rw [h x (by simp [Op.operands])]
 |binOp op ty x y yt=>simp only [Pe];rw [h x (by simp [Op.operands]),h y (by simp [Op.operands])]
 |slice ty x lo hi mx=>
  have e1:∀d,ly t1 lo d=ly t2 lo d:=fun d=>cp fun y hy=>h y (by subst hy;simp [Op.operands])
  have e2:∀d,ly t1 hi d=ly t2 hi d:=fun d=>cp fun y hy=>h y (by subst hy;simp [Op.operands])
  have e3:∀m,mx=some m->ly t1 (some m) 0=ly t2 (some m) 0:=fun m hm=>cp fun y hy=>by cases hy;exact h m (by subst hm;simp [Op.operands])
  simp only [Pe];rw [h x (by simp [Op.operands])];have:∀v,Zk E t1 ty v lo hi mx=Zk E t2 ty v lo hi mx:=fun v=>by
   unfold Zk;simp only [e1,e2];cases mx with
   |none=>rfl
   |some m=>simp only [e3 m rfl]
  simp only [this]
 |lookup ty x i ok=>simp only [Pe];rw [h x (by simp [Op.operands]),h i (by simp [Op.operands])]
 |_=>rfl
theorem cq{o:Op}(h:∀x∈o.operands,ev t1 x=ev t2 x):Oc E t1 o=Oc E t2 o:=by
 cases o with
 |box e x=>simp only [Oc];rw [h x (by simp [Op.operands])]
 |buildSlice ty n ps=>simp only [Oc];rw [bp fun p hp=>h p.2 (by simp [Op.operands];exact ⟨p.1,by simpa using hp⟩)]
 |makeSlice ty l c=>simp only [Oc];rw [h l (by simp [Op.operands]),h c (by simp [Op.operands])]
 |_=>rfl
theorem sI{σ:AH}{o:Op}(h:∀x∈o.operands,ev t1 x=ev t2 x):Di E go t1 σ o=Di E go t2 σ o:=by
 cases o with
 |store ty x y=>simp only [Di];rw [h x (by simp [Op.operands]),h y (by simp [Op.operands])]
 |mapUpdate ty m k v=>simp only [Di];rw [h m (by simp [Op.operands]),h k (by simp [Op.operands]),h v (by simp [Op.operands])]
 |insert ty m k v=>simp only [Di];rw [h m (by simp [Op.operands]),h k (by simp [Op.operands]),h v (by simp [Op.operands])]
 |call c=>
  obtain ⟨ce,xs,ts⟩:=c;simp only [Di,Ar];rw [Ni fun x hx=>h x (by simp [Op.operands,Call.operands];right;simpa using hx)];cases ce with
  |value f=>simp only [h f (by simp [Op.operands,Call.operands])]
  |invoke r m=>simp only [h r (by simp [Op.operands,Call.operands])]
  |builtin b=>rfl
 |_=>rfl
theorem lL{σ:AH}{o:Op}(h:∀x∈o.operands,ev t1 x=ev t2 x):Hn E go t1 σ o=Hn E go t2 σ o:=by
 unfold Hn;rw [zB h,Rr h,cq h,sI h]
end
theorem AB{x y:Value}(h:sr x y=true):x=y:=by
 unfold sr at h
 split at h<;>(try simp only [za,Bool.and_eq_true,Ja,Fi,oe,decide_eq_true_eq,beq_iff_eq]at h)<;>first|rfl|(cases h;done)|skip
 . rw [h]
 . obtain ⟨h1,h2⟩:=h;have:=Nb (by rw [Ja];exact decide_eq_true h1);rw [this,h2]
 . rw [h.1,h.2]
 . rw [h.1,h.2]
 . obtain ⟨h1,h2,h3,h4⟩:=h;rw [h1,h2,h3,h4]
 . obtain ⟨h1,h2,h3,h4,h5⟩:=h;rw [h1,h2,h3,h4,h5]
 . rw [h]
 . obtain ⟨h1,h2,h3⟩:=h;rw [h1,h2,h3]
 . rw [h]
mutual
theorem Sr:∀(d:Nat) (x y:Value),Bw d x y=true->x=y
 |0,x,y,h=>by simp [Bw]at h
 |d+1,x,y,h=>by
  simp only [Bw]at h
  split at h
  . rename_i t s l u s' m
    split at h
    . rename_i hb;simp only [za,Bool.and_eq_true,Ja,decide_eq_true_eq,beq_iff_eq]at hb;obtain ⟨rfl,rfl⟩:=hb;rw [xl d l m h]
    . cases h
  . exact AB h
theorem xl:∀(d:Nat) (x y:List Value),nj d x y=true->x=y
 |0,x,y,h=>by cases x<;>cases y<;>simp [nj]at h
 |d+1,[],[],h=>rfl
 |d+1,[],y::ys,h=>by simp [nj]at h
 |d+1,x::xs,[],h=>by simp [nj]at h
 |d+1,x::xs,y::ys,h=>by
  simp only [nj]at h
  split at h
  . rename_i h1;rw [Sr d x y h1,xl d xs ys h]
  . cases h
end
theorem uh:∀{x y:List Value},qk x y=true->x=y
 |[],[],_=>rfl
 |[],_::_,h=>by simp [qk]at h
 |_::_,[],h=>by simp [qk]at h
 |x::xs,y::ys,h=>by
  simp only [qk]at h
  split at h
  . rename_i h1;rw [Sr _ _ _ h1,uh h]
  . cases h
theorem mL{x y:Value}(h:NK x y=true):x=y:=by
 unfold NK at h
 split at h
 . congr 1;apply Array.ext';exact uh h
 . congr 1;apply Array.ext';exact uh h
 . simp only [za,Bool.and_eq_true,Ja,decide_eq_true_eq]at h;obtain ⟨h1,h2,h3⟩:=h;rw [h1]
   congr 1
   . apply Array.ext';exact uh h2
   . apply Array.ext';exact uh h3
 . simp only [za,Bool.and_eq_true,Ja,decide_eq_true_eq]at h;obtain ⟨h1,h2,h3⟩:=h;rw [h1]
   congr 1
   . apply Array.ext';exact uh h2
   . apply Array.ext';exact uh h3
 . exact Sr _ _ _ h
end Sk
end Go.Proofs.YtfnkmolffhfpoaaGreat
