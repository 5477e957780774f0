/- -/
import Derived.Test.YtfnkmolffhfpoaaGreatHp6
set_option linter.unusedVariables false
set_option linter.unusedSimpArgs false
set_option linter.unusedSectionVars false
namespace Go.Proofs.YtfnkmolffhfpoaaGreat
namespace Sk
open Go.RowKit
variable[Interp]
structure Good(F:Fence):Prop where
 fn:∀f,F.fn f
 depth:F.depth=none
 alive:F.alive=false
theorem qO:Good Fence.wide:=⟨fun _=>trivial,rfl,rfl⟩
theorem Good.inRound{F:Fence}(h:Good F)(l:Nat):Good (F.inRound l):=⟨h.fn,h.depth,h.alive⟩
theorem Good.plain{F:Fence}(h:Good F):Good F.plain:=⟨h.fn,h.depth,h.alive⟩
theorem Good.fenced{F:Fence}(h:Good F)(P:Program)(m:Machine):m.fenced P F:=fun g _=>⟨fun e=>(by rw [h.alive]at e;cases e), .inl (h.fn _),fun f _=>h.fn f,fun d e=>(by rw [h.depth]at e;cases e)⟩
theorem Good.calls{F:Fence}(hF:Good F){n:Nat}{P:Program}{f:FuncId}{args:Array Value}{w:World}{R:Ending->World->Prop}(h:Calls P f args w R):CallsIn F n P f args w R:=
 ⟨hF.fn f,fun cs _=>let⟨e,w',fr,r,s,x⟩:=h cs;⟨e,w',fr,r,(by
   cases e with
   |outgrown=>exact s
   |returned v=>exact (StepsIn.of_steps s).mono fun m _=>hF.fenced P m
   |panicked c=>exact (StepsIn.of_steps s).mono fun m _=>hF.fenced P m),x⟩⟩
theorem Good.deep{F:Fence}(h:Good F)(n:Nat):F.depth.isSome=true->1<=n:=fun e=>by rw [h.depth]at e;cases e
def MR(R:Mp):List Nat->List Deferred->Prop
 |[],[]=>True
 |b::bs,d::ds=>(∃r s,R b=some (r,s)/\d={target:= .collected r,args:=#[]})/\MR R bs ds
 |_,_=>False
theorem MR.mono{R R':Mp}(hle:R.le R'):∀{ms:List Nat} {ds:List Deferred},MR R ms ds->MR R' ms ds
 |[],[],_=>trivial
 |b::bs,d::ds,⟨⟨r,s,h1,h2⟩,h3⟩=>⟨⟨r,s,hle _ _ h1,h2⟩,MR.mono hle h3⟩
 |[],_::_,h=>h.elim
 |_::_,[],h=>h.elim
def Lh(B:Nat->Prop)(w0:World)(R:Mp)(σ:AH)(v:Value)(σ':AH)(e:Ending)(w':World):Prop:=
 ∃R' v',e= .returned v'/\Ext R σ R' σ'/\VR R' v v'/\Qc B w0 R' σ' w'
def He(B:Nat->Prop)(w0:World)(R:Mp)(σ:AH)(x:Exit)(t:Tm)(ms:List Nat)(σ':AH)(e:Exit)(a:Act)(w':World):Prop:=
 ∃R',e=x/\Ext R σ R' σ'/\TR R' t a.tmps/\MR R' ms a.defers/\Qc B w0 R' σ' w'
structure lF(E:Env)(go:Task->Option lj):Prop where
 call:∀f args σ v σ',go (.call f args σ)=some (.val v σ')->∀(B:Nat->Prop) (w0:World) (R:Mp) (w:World) (args':Array Value),Qc B w0 R σ w->LR R args args'.toList->
  (callFunc f args').run E.P w= .ok (.enter f args') w/\∀(F:Fence),Good F->∀n,CallsIn F n E.P f args' w (Lh B w0 R σ v σ')
 round:∀l args σ v σ',go (.round l args σ)=some (.val v σ')->∀(B:Nat->Prop) (w0:World) (R:Mp) (w:World) (args':Array Value) (l' s:Nat),Qc B w0 R σ w->LR R args args'.toList->R l=some (l',s)->
  ∃f tmps assign body,(Instr.yield l' args').run E.P w= .ok (.round l' f tmps assign body) w/\∀(F:Fence),Good F->∀n,RoundIn F n E.P l' f tmps assign body w (Lh B w0 R σ v σ')
 code:∀q c t ms σ x t' Qo σ',go (.code q c t ms σ)=some (.at x t' Qo σ')->∀(B:Nat->Prop) (w0:World) (R:Mp) (w:World) (a:Act),Qc B w0 R σ w->TR R t a.tmps->MR R ms a.defers->
  ∀(F:Fence),Good F->(q=false->F.round=none)->∀n,c.wpIn F n E.P (He B w0 R σ x t' Qo σ') a w
section
variable{E:Env}(hE:Yb E){go:Task->Option lj}(hG:lF E go){B:Nat->Prop}{w0:World}{R:Mp}{σ:AH}{w:World}(hS:Qc B w0 R σ w){t:Tm}{a:Act}(ht:TR R t a.tmps)
include hE hG hS ht
theorem GC{F:Fence}(hF:Good F){n:Nat}{o:Oper}(hd:∀c,o.op≠ .defer c){v:Value}{σ':AH}(h:zR B w0 R σ ((execOp a.eval o).run E.P w) v σ'){K:Act->World->Prop}{Q:Exit->Act->World->Prop}
  (hK:∀R' v' w',Ext R σ R' σ'->VR R' v v'->Qc B w0 R' σ' w'->K (a.put o.dst v') w'):o.wpIn F n E.P a w K Q:=by
 obtain ⟨R',v',w',k1,k2,k3,k4⟩:=h;refine ⟨fun f _=>hF.fn f, ?_⟩;rw [Oper.semAt_eq _ _ _ hd];rcases k4 with k4|⟨k4,k5⟩
 . rw [k4];exact hK R' v' w' k1 k2 k3
 . rw [k4];subst k5;exact hK R' undef w' k1 k2 k3
theorem IY{F:Fence}(hF:Good F){n:Nat}{dst:Option Tmp}{c:Call}{tp:TypeId}{pos:String}{af:Array Edge}{g:Option (Nat×Bool)}(RQ:∀b,c.callee≠ .builtin b){v:Value}{σ':AH}(h:Uv E go t σ c=some (v,σ')){K:Act->World->Prop}{Q:Exit->Act->World->Prop}
  (hK:∀R' v' w',Ext R σ R' σ'->VR R' v v'->Qc B w0 R' σ' w'->K (a.put dst v') w'):(⟨dst, .call c,tp,pos,af,g⟩:Oper).wpIn F n E.P a w K Q:=by
 obtain ⟨ce,xs,ts⟩:=c;have enter:∀(f:FuncId) (as:List Value) (as':Array Value),LR R as as'.toList->qY (go (.call f as σ))=some (v,σ')->(execOp a.eval ⟨dst, .call ⟨ce,xs,ts⟩,tp,pos,af,g⟩).run E.P w=(callFunc f as').run E.P w->
   (⟨dst, .call ⟨ce,xs,ts⟩,tp,pos,af,g⟩:Oper).wpIn F n E.P a w K Q:=fun f as as' hl hv hx=>by
  have Vj:go (.call f as σ)=some (.val v σ'):=by
   cases Vj:go (.call f as σ)with
   |none=>rw [Vj]at hv;cases hv
   |some r=>cases r with
    |val v1 σ1=>rw [Vj]at hv;cases hv;rfl
    |«at»=>rw [Vj]at hv;cases hv
  obtain ⟨k1,k2⟩:=hG.call f as σ v σ' Vj B w0 R w as' hS hl;refine ⟨fun f _=>hF.fn f, ?_⟩;rw [Oper.semAt_eq _ _ _ (fun c e=>by cases e),hx,k1];refine ⟨hF.deep n,(k2 F hF (n -1)).mono ?_⟩;rintro e w' ⟨R',v',rfl,q1,q2,q3⟩;exact hK R' v' w' q1 q2 q3
 unfold Uv at h;simp only at h
 split at h
 . cases h
 . rename_i args NA;have hl:=Yf ht NA
   split at h
   . rename_i x
     split at h
     . rename_i fn fs cs hx;have SH:=Qa ht hx
       split at h
       . rename_i f;have:∃xI mF,LR R fs.toList xI/\LR R cs.toList mF/\a.eval x= .func (.func f) ⟨xI⟩ ⟨mF⟩:=by
          generalize a.eval x=q at SH;cases SH with
          |flat v h=>exact ⟨fs.toList,cs.toList,by
            cases fs with|mk fs=>cases cs with|mk cs=>
            cases fs with
            |nil=>exact LR.nil R
            |cons=>simp [Mc]at h,by
            cases fs with|mk fs=>cases cs with|mk cs=>
            cases fs with
            |nil=>cases cs with
             |nil=>exact LR.nil R
             |cons=>simp [Mc]at h
            |cons=>simp [Mc]at h,rfl⟩
          |fn f a a' c c' ha hc h1 h2=>exact ⟨a',c',⟨ha,h1⟩,⟨hc,h2⟩,rfl⟩
         obtain ⟨xI,mF,l1,l2,hv⟩:=this;refine enter f _ (⟨xI⟩++xs.map a.eval++⟨mF⟩) ?_ h ?_
         . have:(⟨xI⟩++xs.map a.eval++⟨mF⟩:Array Value).toList=xI++(xs.toList.map a.eval++mF):=by simp
           rw [this];exact LR.append l1 (LR.append hl l2)
         . simp only [execOp,resolve];rw [hv];simp [Deferred.ofValue,Result.andThen,invoke]
       . rename_i l
         split at h
         . rename_i vY;have:∃l' s,R l=some (l',s)/\a.eval x= .func (.yield l') #[] #[]:=by
            generalize a.eval x=q at SH;cases SH with
            |flat v h=>simp [Mc]at h
            |yl l l' s h=>exact ⟨l',s,h,rfl⟩
           obtain ⟨l',s,hR,hv⟩:=this;have Vj:go (.round l args σ)=some (.val v σ'):=by
            cases Vj:go (.round l args σ)with
            |none=>rw [Vj]at h;cases h
            |some r=>cases r with
             |val v1 σ1=>rw [Vj]at h;cases h;rfl
             |«at»=>rw [Vj]at h;cases h
           obtain ⟨f,tmps,as,bd,k1,k2⟩:=hG.round l args σ v σ' Vj B w0 R w (xs.map a.eval) l' s hS (by simpa using hl) hR;refine ⟨fun f _=>hF.fn f, ?_⟩;have hx2:(execOp a.eval ⟨dst, .call ⟨.value x,xs,ts⟩,tp,pos,af,g⟩).run E.P w=(Instr.yield l' (xs.map a.eval)).run E.P w:=by
            simp only [execOp,resolve];rw [hv];simp [Deferred.ofValue,Result.andThen,invoke]
           rw [Oper.semAt_eq _ _ _ (fun c e=>by cases e),hx2,k1];refine ⟨hF.deep n,(k2 F hF (n -1)).mono ?_⟩;rintro e w' ⟨R',v',rfl,q1,q2,q3⟩;exact hK R' v' w' q1 q2 q3
         . cases h
       . cases h
     . cases h
   . rename_i x name
     split at h
     . rename_i ty u hx;have SH:=Qa ht hx
       split at h
       . rename_i f hm;have:∃u',VR R u u'/\a.eval x= .iface ty u':=by
          generalize a.eval x=q at SH;cases SH with
          |flat v h=>simp [Mc]at h
          |Kv t v v' h=>exact ⟨v',h,rfl⟩
         obtain ⟨u',hu,hv⟩:=this;refine enter f _ (#[u']++xs.map a.eval) ?_ h ?_
         . have:(#[u']++xs.map a.eval:Array Value).toList=u'::xs.toList.map a.eval:=by simp
           rw [this];exact LR.cons hu hl
         . simp only [execOp,resolve];rw [hv];have hme:=hE.Jz ty name f hm u' w;obtain ⟨A,hA⟩:∃A,A=xs.map a.eval:=⟨_,rfl⟩;rw [<-hA];have e1:(#[Value.iface ty u']++A)[0]?=some (.iface ty u'):=by rw [Array.getElem?_append_left (by simp)];rfl
           have e2:(#[Value.iface ty u']++A).extract 1 (#[Value.iface ty u']++A).size=A:=by
            apply Array.ext';simp
           simp only [Sem.run_bind,Sem.run_pure,Result.andThen,invoke,e1,e2,callMethod,run_program,hme]
       . cases h
     . cases h
   . rename_i b;exact absurd rfl (RQ b)
theorem uw{F:Fence}(hF:Good F){n:Nat}(o:Oper){v:Value}{σ':AH}(h:sq E go t σ o.op=some (v,σ')){K:Act->World->Prop}{Q:Exit->Act->World->Prop}
  (hK:∀R' v' w',Ext R σ R' σ'->VR R' v v'->Qc B w0 R' σ' w'->K (a.put o.dst v') w'):o.wpIn F n E.P a w K Q:=by
 have tg:cls o.op≠ .no:=fun e=>by unfold sq at h;rw [e]at h;cases h
 have hd:∀c,o.op≠ .defer c:=fun c e=>by rw [e]at tg;exact tg rfl
 unfold sq at h
 split at h
 . rename_i hc;cases hs:Sa E t o.op with
   |none=>rw [hs]at h;cases h
   |some v1=>
    rw [hs]at h;simp only [Vv]at h;cases h;obtain ⟨v',k1,k2⟩:=XE hE ht o hc hs;exact GC hE hG hS ht hF hd ⟨R,v',w,Ext.refl R σ,k1,hS, .inl (k2 w)⟩ hK
 . rename_i hc;cases hs:Pf E t σ o.op with
   |none=>rw [hs]at h;cases h
   |some v1=>
    rw [hs]at h;simp only [Vv]at h;cases h;obtain ⟨v',k1,k2⟩:=tI hE hS ht o hc hs;exact GC hE hG hS ht hF hd ⟨R,v',w,Ext.refl R σ,k1,hS, .inl k2⟩ hK
 . rename_i hc;cases hs:Ad E t o.op with
   |none=>rw [hs]at h;cases h
   |some p=>
    obtain ⟨x,f⟩:=p;obtain ⟨nx,tr⟩:=σ;rw [hs]at h;simp only [fresh,vj]at h;cases h;obtain ⟨ob,s,g,k1,k2,k3⟩:=Rt hE ht o hs;exact GC hE hG hS ht hF hd ⟨_,_,_,Ext.new hS x (w.heap.size,s),k3 _ _ _ (Mp.Jd R _ _),hS.new k1 (bF hs), .inl (k2 w)⟩ hK
 . rename_i hc;obtain ⟨dst,op,tp,pos,af,g⟩:=o;by_cases SK:∃c,op= .call c/\∀b,c.callee≠ .builtin b
   . obtain ⟨c,rfl,RQ⟩:=SK;exact IY hE hG hS ht hF RQ h hK
   . refine GC hE hG hS ht hF hd (Tz hE hS ht go ⟨dst,op,tp,pos,af,g⟩ (fun c e=> ?_) h) hK;by_cases hb:∃b,c.callee= .builtin b
     . exact hb
     . exact absurd ⟨c,e,fun b SE=>hb ⟨b,SE⟩⟩ SK
 . cases h
end
end Sk
end Go.Proofs.YtfnkmolffhfpoaaGreat
namespace Go.Proofs.YtfnkmolffhfpoaaGreat
namespace Sk
open Go.RowKit
variable[Interp]
theorem Ym{R:Mp}{v v':Value}(h:VR R v v')(hs:Bm v=false)(b:Bool):v'= .bool b<->v= .bool b:=by
 constructor
 . intro e;subst e;cases h with
   |flat v h=>rfl
   |sym=>cases hs
 . intro e;subst e;exact Jh h
theorem vw{R:Mp}{t:Tm}{a:Act}(ht:TR R t a.tmps)(ops:Array Oper)(o:Oper)(Iq:tl ops.toList t o=true):Region.wanted o (yielded ops a.tmps)=Ot ops.toList t o:=by
 unfold Region.wanted Ot;unfold tl at Iq;cases hg:o.guard with
 |none=>rfl
 |some g=>
  obtain ⟨j,want⟩:=g;rw [hg]at Iq;simp only [Pc]at Iq⊢;unfold yielded;have hj:ops.toList[j]?=ops[j]?:=by simp
  rw [hj]at Iq⊢;cases h1:ops[j]?with
  |none=>rfl
  |some oj=>
   rw [h1]at Iq;simp only [Option.bind_some];cases h2:oj.dst with
   |none=>rfl
   |some d=>
    simp only [Option.bind_some];have hv:=ht.nth d;simp only [h2,Cd,Bool.not_eq_true']at Iq;rw [Array.getD_eq_getD_getElem?]at hv;cases h3:a.tmps[d]?with
    |none=>
     rw [h3]at hv;simp only [Option.getD_none]at hv;have:∀b,nth t d≠ .bool b:=fun b e=>by have:=(Ym hv Iq b).2 e;cases this
     generalize nth t d=q at this;cases q<;>first|rfl|exact absurd rfl (this _)
    |some y=>
     rw [h3]at hv;simp only [Option.getD_some]at hv;by_cases hb:∃b,y= .bool b
     . obtain ⟨b,rfl⟩:=hb;have:=(Ym hv Iq b).1 rfl
       rw [this];simp only [nk];cases b<;>cases want<;>rfl
     . have:∀b,nth t d≠ .bool b:=fun b e=>hb ⟨b,(Ym hv Iq b).2 e⟩
       have h4:∀b,y≠ .bool b:=fun b e=>hb ⟨b,e⟩
       generalize nth t d=q at this;cases y<;>first|exact absurd rfl (h4 _)|skip
       all_goals cases q<;>first|rfl|exact absurd rfl (this _)
theorem xw{R:Mp}{t:Tm}{a:Act}(ht:TR R t a.tmps){d:Option Tmp}{v v':Value}(hv:VR R v v'){β:Type}{k:Tm->Option β}{x:β}(h:DE t d v k=some x):∃t',k t'=some x/\TR R t' (a.put d v').tmps/\(a.put d v').defers=a.defers:=by
 cases d with
 |none=>exact ⟨t,h,ht,rfl⟩
 |some d=>
  simp only [DE,qk]at h
  split at h
  . rename_i hd;exact ⟨_,h,ht.put hd hv,rfl⟩
  . cases h
section
variable{E:Env}(hE:Yb E){go:Task->Option lj}(hG:lF E go){B:Nat->Prop}{w0:World}
include hE hG
theorem Es{F:Fence}(hF:Good F){n:Nat}(ops:Array Oper){Q:Exit->Act->World->Prop}:∀(os:List Oper) (k:Nat) (R:Mp) (t:Tm) (σ:AH) (a:Act) (w:World) (t':Tm) (σ':AH),ops.toList.drop k=os->Wv E go ops.toList os t σ=some (t',σ')->TR R t a.tmps->Qc B w0 R σ w->
  (∀R' a' w',Ext R σ R' σ'->TR R' t' a'.tmps->a'.defers=a.defers->Qc B w0 R' σ' w'->Q .normal a' w')->wpOpsIn F n E.P ops Q (List.range' k os.length) a w
 |[],k,R,t,σ,a,w,t',σ',hk,h,ht,hS,hQ=>by
  simp only [Wv]at h;cases h;simp only [List.length_nil,List.range'_zero,wpOpsIn];exact hQ R a w (Ext.refl R σ) ht rfl hS
 |o::os,k,R,t,σ,a,w,t',σ',hk,h,ht,hS,hQ=>by
  have ho:ops[k]?=some o:=by
   have:=congrArg (fun l=>l[0]?) hk
   simpa [List.getElem?_drop]using this
  have yI:ops.toList.drop (k+1)=os:=by
   have:=congrArg (fun l=>l.drop 1) hk
   simpa [List.drop_drop,Nat.add_comm]using this
  simp only [List.length_cons,List.range'_succ,wpOpsIn,ho];simp only [Wv]at h
  split at h
  . cases h
  rename_i Iq;rw [vw ht ops o Iq]
  split at h
  . rename_i hw;rw [hw];simp only [Bool.false_eq_true,if_false];obtain ⟨t1,h1,h2,h3⟩:=xw ht (Ge R) h;refine ⟨fun f _=>hF.fn f,Es hF ops os (k+1) R t1 σ _ w t' σ' yI h1 h2 hS fun R' a' w' e1 e2 e3 e4=>hQ R' a' w' e1 e2 (e3.trans h3) e4⟩
  . rename_i hw;rw [hw];simp only [if_true]
    split at h
    . cases h
    . rename_i v σ1 Wj;rw [jk]at h;refine uw hE hG hS ht hF o Wj fun R' v' w' k1 k2 k3=> ?_
      obtain ⟨t1,h1,h2,h3⟩:=xw (ht.mono k1.le) k2 h;exact Es hF ops os (k+1) R' t1 σ1 _ w' t' σ' yI h1 h2 k3 fun R2 a' w2 e1 e2 e3 e4=>hQ R2 a' w2 (k1.trans e1) e2 (e3.trans h3) e4
theorem IC{F:Fence}(hF:Good F){n:Nat}(id:Nat)(ops:Array Oper){R:Mp}{t t':Tm}{σ σ':AH}{a:Act}{w:World}{ms:List Nat}(h:Wv E go ops.toList ops.toList t σ=some (t',σ'))(ht:TR R t a.tmps)(hm:MR R ms a.defers)(hS:Qc B w0 R σ w):
  (Code.region id ops false).wpIn F n E.P (He B w0 R σ .normal t' ms σ') a w:=by
 refine wpIn_region ?_
 have:=Es hE hG hF (n:=n) ops (Q:=He B w0 R σ .normal t' ms σ') ops.toList 0 R t σ a w t' σ' (by simp) h ht hS fun R' a' w' e1 e2 e3 e4=>⟨R',rfl,e1,e2,by rw [e3];exact hm.mono e1.le,e4⟩
 rw [Array.length_toList]at this;rwa [List.range_eq_range']
end
end Sk
end Go.Proofs.YtfnkmolffhfpoaaGreat
namespace Go.Proofs.YtfnkmolffhfpoaaGreat
namespace Sk
open Go.RowKit
variable[Interp]
theorem KR{t1 t2:Tm}{x:Operand}(h:∀d,x= .tmp d->nth t1 d=nth t2 d):ev t1 x=ev t2 x:=by
 cases x with
 |tmp d=>simp only [ev];rw [h d rfl]
 |_=>rfl
theorem xk{t1 t2:Tm}:∀{xs:List Operand},(∀x∈xs,ev t1 x=ev t2 x)->KQ t1 xs=KQ t2 xs
 |[],_=>rfl
 |x::xs,h=>by simp only [KQ];rw [h x (by simp),xk (xs:=xs) fun y hy=>h y (by simp [hy])]
theorem Fs{t1 t2:Tm}:∀{ps:List (Nat×Operand)},(∀p∈ps,ev t1 p.2=ev t2 p.2)->TX t1 ps=TX t2 ps
 |[],_=>rfl
 |p::ps,h=>by simp only [TX];rw [h p (by simp),Fs (ps:=ps) fun y hy=>h y (by simp [hy])]
theorem Gs{t1 t2:Tm}{x:Option Operand}{d:Nat}(h:∀y,x=some y->ev t1 y=ev t2 y):dC t1 x d=dC t2 x d:=by
 cases x with
 |none=>rfl
 |some y=>simp only [dC];rw [h y rfl]
section
variable{E:Env}{go:Task->Option lj}{t1 t2:Tm}
theorem nF{o:Op}(h:∀x∈o.operands,ev t1 x=ev t2 x):Sa E t1 o=Sa E t2 o:=by
 cases o with
 |move x=>simp only [Sa];exact h x (by simp [Op.operands])
 |assign x=>simp only [Sa];exact h x (by simp [Op.operands])
 |pick c a b=>simp only [Sa];rw [h c (by simp [Op.operands]),h a (by simp [Op.operands]),h b (by simp [Op.operands])]
 |nilCheck x=>simp only [Sa];rw [h x (by simp [Op.operands])]
 |build ty ps=>simp only [Sa];rw [Fs fun p hp=>h p.2 (by simp [Op.operands];exact ⟨p.1,by simpa using hp⟩)]
 |field ty x i=>simp only [Sa];rw [h x (by simp [Op.operands])]
 |fieldAddr ty x i=>simp only [Sa];rw [h x (by simp [Op.operands])]
 |indexAddr ty x i=>simp only [Sa];rw [h x (by simp [Op.operands]),h i (by simp [Op.operands])]
 |binOp op ty x y yt=>simp only [Sa];rw [h x (by simp [Op.operands]),h y (by simp [Op.operands])]
 |unOp op ty x=>simp only [Sa];rw [h x (by simp [Op.operands])]
 |convert s d x=>simp only [Sa];rw [h x (by simp [Op.operands])]
 |sliceToArrayPointer ty x=>simp only [Sa];rw [h x (by simp [Op.operands])]
 |makeInterface ty x=>simp only [Sa];rw [h x (by simp [Op.operands])]
 |makeFunc f fs cs=>simp only [Sa];rw [xk fun x hx=>h x (by simp [Op.operands];left;simpa using hx),xk fun x hx=>h x (by simp [Op.operands];right;simpa using hx)]
 |extract x i=>simp only [Sa];rw [h x (by simp [Op.operands])]
 |index ty x i=>simp only [Sa];rw [h x (by simp [Op.operands]),h i (by simp [Op.operands])]
 |call c=>simp only [Sa];rw [xk fun x hx=>h x (by simp [Op.operands,Call.operands];right;simpa using hx)]
 |_=>rfl
theorem yw{σ:AH}{o:Op}(h:∀x∈o.operands,ev t1 x=ev t2 x):Pf E t1 σ o=Pf E t2 σ o:=by
 cases o with
 |load ty x=>simp only [Pf];rw [h x (by simp [Op.operands])]
 |binOp op ty x y yt=>simp only [Pf];rw [h x (by simp [Op.operands]),h y (by simp [Op.operands])]
 |slice ty x lo hi mx=>
  have e1:∀d,dC t1 lo d=dC t2 lo d:=fun d=>Gs fun y hy=>h y (by subst hy;simp [Op.operands])
  have e2:∀d,dC t1 hi d=dC t2 hi d:=fun d=>Gs fun y hy=>h y (by subst hy;simp [Op.operands])
  have e3:∀m,mx=some m->dC t1 (some m) 0=dC t2 (some m) 0:=fun m hm=>Gs fun y hy=>by cases hy;exact h m (by subst hm;simp [Op.operands])
  simp only [Pf];rw [h x (by simp [Op.operands])];have:∀v,eo E t1 ty v lo hi mx=eo E t2 ty v lo hi mx:=fun v=>by
   unfold eo;simp only [e1,e2];cases mx with
   |none=>rfl
   |some m=>simp only [e3 m rfl]
  simp only [this]
 |lookup ty x i ok=>simp only [Pf];rw [h x (by simp [Op.operands]),h i (by simp [Op.operands])]
 |_=>rfl
theorem Vt{o:Op}(h:∀x∈o.operands,ev t1 x=ev t2 x):Ad E t1 o=Ad E t2 o:=by
 cases o with
 |box e x=>simp only [Ad];rw [h x (by simp [Op.operands])]
 |buildSlice ty n ps=>simp only [Ad];rw [Fs fun p hp=>h p.2 (by simp [Op.operands];exact ⟨p.1,by simpa using hp⟩)]
 |makeSlice ty l c=>simp only [Ad];rw [h l (by simp [Op.operands]),h c (by simp [Op.operands])]
 |_=>rfl
theorem rO{σ:AH}{o:Op}(h:∀x∈o.operands,ev t1 x=ev t2 x):bk E go t1 σ o=bk E go t2 σ o:=by
 cases o with
 |store ty x y=>simp only [bk];rw [h x (by simp [Op.operands]),h y (by simp [Op.operands])]
 |mapUpdate ty m k v=>simp only [bk];rw [h m (by simp [Op.operands]),h k (by simp [Op.operands]),h v (by simp [Op.operands])]
 |insert ty m k v=>simp only [bk];rw [h m (by simp [Op.operands]),h k (by simp [Op.operands]),h v (by simp [Op.operands])]
 |call c=>
  obtain ⟨ce,xs,ts⟩:=c;simp only [bk,Uv];rw [xk fun x hx=>h x (by simp [Op.operands,Call.operands];right;simpa using hx)];cases ce with
  |value f=>simp only [h f (by simp [Op.operands,Call.operands])]
  |invoke r m=>simp only [h r (by simp [Op.operands,Call.operands])]
  |builtin b=>rfl
 |_=>rfl
theorem NR{σ:AH}{o:Op}(h:∀x∈o.operands,ev t1 x=ev t2 x):sq E go t1 σ o=sq E go t2 σ o:=by
 unfold sq;rw [nF h,yw h,Vt h,rO h]
end
theorem oF{x y:Value}(h:Pv x y=true):x=y:=by
 unfold Pv at h
 split at h<;>(try simp only [Da,Bool.and_eq_true,Va,nk,Sd,decide_eq_true_eq,beq_iff_eq]at h)<;>first|rfl|(cases h;done)|skip
 . rw [h]
 . obtain ⟨h1,h2⟩:=h;have:=Zb (by rw [Va];exact decide_eq_true h1);rw [this,h2]
 . rw [h.1,h.2]
 . rw [h.1,h.2]
 . obtain ⟨h1,h2,h3,h4⟩:=h;rw [h1,h2,h3,h4]
 . obtain ⟨h1,h2,h3,h4,h5⟩:=h;rw [h1,h2,h3,h4,h5]
 . rw [h]
 . obtain ⟨h1,h2,h3⟩:=h;rw [h1,h2,h3]
 . rw [h]
mutual
theorem Qh:∀(d:Nat) (x y:Value),Mm d x y=true->x=y
 |0,x,y,h=>by simp [Mm]at h
 |d+1,x,y,h=>by
  simp only [Mm]at h
  split at h
  . rename_i t s l u s' m
    split at h
    . rename_i hb;simp only [Da,Bool.and_eq_true,Va,decide_eq_true_eq,beq_iff_eq]at hb;obtain ⟨rfl,rfl⟩:=hb;rw [zo d l m h]
    . cases h
  . exact oF h
theorem zo:∀(d:Nat) (x y:List Value),ql d x y=true->x=y
 |0,x,y,h=>by cases x<;>cases y<;>simp [ql]at h
 |d+1,[],[],h=>rfl
 |d+1,[],y::ys,h=>by simp [ql]at h
 |d+1,x::xs,[],h=>by simp [ql]at h
 |d+1,x::xs,y::ys,h=>by
  simp only [ql]at h
  split at h
  . rename_i h1;rw [Qh d x y h1,zo d xs ys h]
  . cases h
end
theorem Ri:∀{x y:List Value},Om x y=true->x=y
 |[],[],_=>rfl
 |[],_::_,h=>by simp [Om]at h
 |_::_,[],h=>by simp [Om]at h
 |x::xs,y::ys,h=>by
  simp only [Om]at h
  split at h
  . rename_i h1;rw [Qh _ _ _ h1,Ri h]
  . cases h
theorem OR{x y:Value}(h:mR x y=true):x=y:=by
 unfold mR at h
 split at h
 . congr 1;apply Array.ext';exact Ri h
 . congr 1;apply Array.ext';exact Ri h
 . simp only [Da,Bool.and_eq_true,Va,decide_eq_true_eq]at h;obtain ⟨h1,h2,h3⟩:=h;rw [h1]
   congr 1
   . apply Array.ext';exact Ri h2
   . apply Array.ext';exact Ri h3
 . simp only [Da,Bool.and_eq_true,Va,decide_eq_true_eq]at h;obtain ⟨h1,h2,h3⟩:=h;rw [h1]
   congr 1
   . apply Array.ext';exact Ri h2
   . apply Array.ext';exact Ri h3
 . exact Qh _ _ _ h
end Sk
end Go.Proofs.YtfnkmolffhfpoaaGreat
namespace Go.Proofs.YtfnkmolffhfpoaaGreat
namespace Sk
open Go.RowKit
variable[Interp]
theorem zw(m i:Nat):bit m i=m.testBit i:=by
 unfold bit;rw [Va,Nat.testBit_eq_decide_div_mod_eq];rfl
theorem zI(a b i:Nat):bit (Nat.lor a b) i=(bit a i||bit b i):=by
 rw [zw,zw,zw];exact Nat.testBit_or a b i
theorem TK(e i:Nat):bit (Nat.pow 2 e) i=decide (e=i):=by
 rw [zw];exact Nat.testBit_two_pow
theorem Aw(i:Nat):bit 0 i=false:=by rw [zw];simp
theorem Bw(acc:List Nat):∀(es:List Edge) (s j:Nat),bit (Wr acc es s) j=true<->bit s j=true\/∃e∈es,Region.binds .any e=true/\(j=e.on\/∃m,acc[e.on]?=some m/\bit m j=true)
 |[],s,j=>by simp [Wr]
 |e::es,s,j=>by
  simp only [Wr];rw [Bw acc es];cases hb:Region.binds .any e with
  |false=>simp [hb]
  |true=>
   simp only [zI,TK,Pc,Bool.or_eq_true,decide_eq_true_eq];constructor
   . rintro ((h|h|h)|⟨e',h1,h2,h3⟩)
     . exact .inl h
     . exact .inr ⟨e,by simp,hb, .inl h.symm⟩
     . right;refine ⟨e,by simp,hb, .inr ?_⟩;cases ha:acc[e.on]?with
       |none=>rw [ha]at h;simp [Aw]at h
       |some m=>rw [ha]at h;exact ⟨m,rfl,h⟩
     . exact .inr ⟨e',by simp [h1],h2,h3⟩
   . rintro (h|⟨e',h1,h2,h3⟩)
     . exact .inl (.inl h)
     . rcases List.mem_cons.1 h1 with rfl|h1
       . left;right;rcases h3 with h3|⟨m,h3,h4⟩
         . exact .inl h3.symm
         . right;rw [h3];exact h4
       . exact .inr ⟨e',h1,h2,h3⟩
theorem Fh(ms:List Nat)(i:Nat):Bc ms i=(ms[i]?).getD 0:=by
 unfold Bc;rw [Pc];cases ms[i]?<;>rfl
theorem Cw:∀(l:List Oper) (acc:List Nat),(zh l acc).length=acc.length+l.length/\(∀i,i<acc.length->(zh l acc)[i]?=acc[i]?)/\
  ∀k o,l[k]?=some o->∀j,bit (Bc (zh l acc) (acc.length+k)) j=true<->∃e∈o.after.toList,Region.binds .any e=true/\(j=e.on\/(e.on<acc.length+k/\bit (Bc (zh l acc) e.on) j=true))
 |[],acc=>⟨by simp [zh],fun i hi=>by simp [zh],fun k o h=>by simp at h⟩
 |o::os,acc=>by
  obtain ⟨m,hm⟩:∃m,m=Wr acc o.after.toList 0:=⟨_,rfl⟩;have hmk:zh (o::os) acc=zh os (acc++[m]):=by simp only [zh,xl];rw [hm]
  obtain ⟨h1,h2,h3⟩:=Cw os (acc++[m]);rw [hmk];have jaf:∀i,i<acc.length->(zh os (acc++[m]))[i]?=acc[i]?:=fun i hi=>by
   rw [h2 i (by simp;omega),List.getElem?_append_left hi]
  refine ⟨by rw [h1];simp;omega,jaf,fun k o' ho j=> ?_⟩;cases k with
  |zero=>
   simp at ho;subst ho;have:Bc (zh os (acc++[m])) (acc.length+0)=m:=by
    rw [Fh,Nat.add_zero,h2 acc.length (by simp)];simp
   have hmb:=Bw acc o.after.toList 0 j;rw [<-hm]at hmb;rw [this,hmb];simp only [Aw,Bool.false_eq_true,false_or];constructor
   . rintro ⟨e,q1,q2,q3⟩;refine ⟨e,q1,q2, ?_⟩;rcases q3 with q3|⟨x,q3,q4⟩
     . exact .inl q3
     . right;have hl:e.on<acc.length:=(List.getElem?_eq_some_iff.1 q3).1
       exact ⟨by omega,by rw [Fh,jaf e.on hl,q3];exact q4⟩
   . rintro ⟨e,q1,q2,q3⟩;refine ⟨e,q1,q2, ?_⟩;rcases q3 with q3|⟨q3,q4⟩
     . exact .inl q3
     . right;rw [Fh,jaf e.on (by omega)]at q4;have hl:e.on<acc.length:=by omega
       rw [List.getElem?_eq_getElem hl]at q4;exact ⟨acc[e.on],List.getElem?_eq_getElem hl,q4⟩
  |succ k=>
   have:=h3 k o' (by simpa using ho) j;simp only [List.length_append,List.length_cons,List.length_nil,Nat.zero_add]at this;rw [show acc.length+(k+1)=acc.length+1+k by omega];exact this
theorem Yg:∀(k:Nat) (l:List Oper) (ms:List Nat) (p:Nat),(Ee k l ms)[p]?=match l[p]?,ms[p]?with|some o,some m=>some (k+p,o,m)|_,_=>none
 |k,[],ms,p=>by cases ms<;>simp [Ee]
 |k,o::os,[],p=>by cases h:(o::os)[p]?<;>simp [Ee]
 |k,o::os,m::ms,p=>by
  cases p with
  |zero=>simp [Ee]
  |succ p=>
   simp only [Ee,List.getElem?_cons_succ];rw [Yg (k+1) os ms p];cases os[p]?<;>cases ms[p]?<;>simp
   omega
theorem JC{l:List Oper}{ms:List Nat}{x:Nat×Oper×Nat}(h:x∈Ee 0 l ms):l[x.1]?=some x.2.1/\Bc ms x.1=x.2.2:=by
 obtain ⟨p,hp⟩:=List.mem_iff_getElem?.1 h
 rw [Yg]at hp;cases h1:l[p]?with
 |none=>rw [h1]at hp;cases hp
 |some o=>
  cases h2:ms[p]?with
  |none=>rw [h1,h2]at hp;cases hp
  |some m=>
   rw [h1,h2]at hp;cases hp;simp only [Nat.zero_add];exact ⟨h1,by rw [Fh,h2];rfl⟩
theorem Dw(ops:List Oper):∀l:List (Nat×Oper×Nat),uq ops l=true->l.Pairwise fun x y=>fI ops x y=true
 |[],_=>List.Pairwise.nil
 |x::xs,h=>by
  simp only [uq,yq]at h
  split at h
  . rename_i h1;exact List.Pairwise.cons (fun y hy=>List.all_eq_true.1 h1 y hy) (Dw ops xs h)
  . cases h
structure Hs(ops:List Oper)(ms:List Nat)(i j:Nat)(oi oj:Oper):Prop where
 dst:∀d,oi.dst=some d->oj.dst≠some d
 ord:bit (Bc ms i) j=true\/bit (Bc ms j) i=true\/(¬(Cc oi.op=true/\Cc oj.op=true)/\(∀d,oi.dst=some d->looks ops oj d=false)/\(∀d,oj.dst=some d->looks ops oi d=false))
theorem Hs.symm{ops:List Oper}{ms:List Nat}{i j:Nat}{oi oj:Oper}(h:Hs ops ms i j oi oj):Hs ops ms j i oj oi:=
 ⟨fun d h1 h2=>h.dst d h2 h1,by
   rcases h.ord with h1|h1|⟨h1,h2,h3⟩
   . exact .inr (.inl h1)
   . exact .inl h1
   . exact .inr (.inr ⟨fun q=>h1 ⟨q.2,q.1⟩,h3,h2⟩)⟩
theorem sO{ops:List Oper}{ms:List Nat}(h:uq ops (Ee 0 ops ms)=true)(hl:ms.length=ops.length){i j:Nat}{oi oj:Oper}(hi:ops[i]?=some oi)(hj:ops[j]?=some oj)(Jc:i≠j):Hs ops ms i j oi oj:=by
 have key:∀(i j:Nat) (oi oj:Oper),ops[i]?=some oi->ops[j]?=some oj->i<j->Hs ops ms i j oi oj:=fun i j oi oj hi hj Db=>by
  have hp:=Dw ops _ h;have QQ:i<ops.length:=(List.getElem?_eq_some_iff.1 hi).1
  have hjl:j<ops.length:=(List.getElem?_eq_some_iff.1 hj).1
  have gi:(Ee 0 ops ms)[i]?=some (i,oi,Bc ms i):=by
   rw [Yg,hi,Fh,List.getElem?_eq_getElem (by omega:i<ms.length)];simp
  have gj:(Ee 0 ops ms)[j]?=some (j,oj,Bc ms j):=by
   rw [Yg,hj,Fh,List.getElem?_eq_getElem (by omega:j<ms.length)];simp
  have Gz:=List.pairwise_iff_getElem.1 hp i j (List.getElem?_eq_some_iff.1 gi).1 (List.getElem?_eq_some_iff.1 gj).1 Db
  rw [(List.getElem?_eq_some_iff.1 gi).2,(List.getElem?_eq_some_iff.1 gj).2]at Gz;unfold fI at Gz;simp only [zl,Da,Cd]at Gz
  split at Gz
  . cases Gz
  . rename_i hd;refine ⟨fun d h1 h2=> ?_, ?_⟩
    . rw [h1,h2]at hd;simp [Qaj,Va]at hd
    . split at Gz
      . rename_i ho;simp only [Bool.or_eq_true]at ho;rcases ho with ho|ho
        . exact .inl ho
        . exact .inr (.inl ho)
      . simp only [Bool.and_eq_true,Bool.not_eq_true',Bool.and_eq_false_iff]at Gz;obtain ⟨h1,h2,h3⟩:=Gz;refine .inr (.inr ⟨fun q=> ?_,fun d hd=> ?_,fun d hd=> ?_⟩)
        . rcases h1 with h1|h1
          . rw [q.1]at h1;cases h1
          . rw [q.2]at h1;cases h1
        . rw [hd]at h2;exact h2
        . rw [hd]at h3;exact h3
 rcases Nat.lt_or_ge i j with h1|h1
 . exact key i j oi oj hi hj h1
 . exact (key j i oj oi hj hi (by omega)).symm
theorem Ew:∀(l:List (Nat×Oper×Nat)) (q:Nat×Oper),q∈Xv l<->∃m,(q.1,q.2,m)∈l
 |[],q=>by simp [Xv]
 |x::r,q=>by
  simp only [Xv,List.mem_cons,Ew r q];constructor
  . rintro (h|⟨m,h⟩)
    . exact ⟨x.2.2, .inl (by rw [h])⟩
    . exact ⟨m, .inr h⟩
  . rintro ⟨m,h|h⟩
    . left;rw [<-h]
    . exact .inr ⟨m,h⟩
theorem Mq(s:Nat)(want:Bool):∀(l:List (Nat×Oper×Nat)) (q:Nat×Oper),q∈pick s want l<->bit s q.1=want/\∃m,(q.1,q.2,m)∈l
 |[],q=>by simp [pick]
 |x::r,q=>by
  simp only [pick,nk]
  split
  . rename_i h;have h:bit s x.1=want:=by simpa using h
    simp only [List.mem_cons,Mq s want r q];constructor
    . rintro (h1|⟨h1,m,h2⟩)
      . subst h1;exact ⟨h,x.2.2, .inl rfl⟩
      . exact ⟨h1,m, .inr h2⟩
    . rintro ⟨h1,m,h2|h2⟩
      . left;rw [<-h2]
      . exact .inr ⟨h1,m,h2⟩
  . rename_i h;have h:¬(bit s x.1=want):=by simpa using h
    rw [Mq s want r q];constructor
    . rintro ⟨h1,m,h2⟩;exact ⟨h1,m,by simp [h2]⟩
    . rintro ⟨h1,m,h2⟩;rcases List.mem_cons.1 h2 with h3|h3
      . rw [<-h3]at h;exact absurd h1 h
      . exact ⟨h1,m,h3⟩
theorem OA(l:List (Nat×Oper×Nat))(q:Nat×Oper):q∈order l<->∃m,(q.1,q.2,m)∈l:=by
 unfold order
 split
 . exact Ew l q
 . rename_i s _;rw [List.mem_append,Mq,Mq];constructor
   . rintro (⟨_,h⟩|⟨_,h⟩)<;>exact h
   . intro h;cases hb:bit (s+1) q.1
     . exact .inr ⟨rfl,h⟩
     . exact .inl ⟨rfl,h⟩
structure PR(ms:List Nat)(ord:List (Nat×Oper)):Prop where
 pre:∀(p:Nat) (q:Nat×Oper),ord[p]?=some q->∀j,bit (Bc ms q.1) j=true->∃(p':Nat) (q':Nat×Oper),p'<p/\ord[p']?=some q'/\q'.1=j
 once:∀(p p':Nat) (q q':Nat×Oper),p<p'->ord[p]?=some q->ord[p']?=some q'->q.1≠q'.1
 fresh:∀(p:Nat) (q:Nat×Oper),ord[p]?=some q->De q.2.op=true->∀(p':Nat) (q':Nat×Oper),p'<p->ord[p']?=some q'->Cc q'.2.op=true->bit (Bc ms q.1) q'.1=true
theorem pF(ms:List Nat):∀(r pre:List (Nat×Oper)) (s:Nat) (ef:List Nat),(∀j,bit s j=true<->∃q∈pre,q.1=j)->(∀j,(∃q∈pre,Cc q.2.op=true/\q.1=j)->j∈ef)->EE ms s ef r=true->PR ms pre->PR ms (pre++r)
 |[],pre,s,ef,h1,h2,h,hp=>by simpa using hp
 |q::r,pre,s,ef,h1,h2,h,hp=>by
  simp only [EE,Da,zl,Cd,yq]at h
  split at h
  . cases h
  . rename_i hc;simp only [Bool.and_eq_true,Bool.not_eq_true',Bool.or_eq_true,Va,decide_eq_true_eq]at hc;obtain ⟨c1,c2,c3⟩:=hc;have RaF:∀j,bit (Bc ms q.1) j=true->bit s j=true:=fun j hj=>by rw [<-c1,zI,hj];simp
    have e:pre++q::r=(pre++[q])++r:=by simp
    rw [e];refine pF ms r (pre++[q]) _ _ (fun j=> ?_) (fun j=> ?_) h ⟨fun p q' hq j hj=> ?_,fun p p' x y Db hx hy=> ?_,fun p x hx hf p' y Db hy Zu=> ?_⟩
    . rw [zI,TK,Bool.or_eq_true,h1 j,decide_eq_true_eq];constructor
      . rintro (⟨x,k1,k2⟩|k)
        . exact ⟨x,by simp [k1],k2⟩
        . exact ⟨q,by simp,k⟩
      . rintro ⟨x,k1,k2⟩;rcases List.mem_append.1 k1 with k1|k1
        . exact .inl ⟨x,k1,k2⟩
        . have:x=q:=by simpa using k1
          subst this;exact .inr k2
    . rintro ⟨x,k1,k2,k3⟩;rcases List.mem_append.1 k1 with k1|k1
      . have:=h2 j ⟨x,k1,k2,k3⟩
        split
        . exact List.mem_cons_of_mem _ this
        . exact this
      . have:x=q:=by simpa using k1
        subst this;rw [k2];simp [k3]
    . by_cases Gz:p<pre.length
      . rw [List.getElem?_append_left Gz]at hq;obtain ⟨p',q2,k1,k2,k3⟩:=hp.pre p q' hq j hj;exact ⟨p',q2,k1,by rw [List.getElem?_append_left (by omega)];exact k2,k3⟩
      . have hpe:p=pre.length:=by
         have:=(List.getElem?_eq_some_iff.1 hq).1
         simp at this;omega
        subst hpe;have:q'=q:=by simpa using hq.symm
        subst this;obtain ⟨x,k1,k2⟩:=(h1 j).1 (RaF j hj)
        obtain ⟨p',UK⟩:=List.mem_iff_getElem?.1 k1
        have:=(List.getElem?_eq_some_iff.1 UK).1
        exact ⟨p',x,this,by rw [List.getElem?_append_left this];exact UK,k2⟩
    . by_cases Gz:p'<pre.length
      . rw [List.getElem?_append_left (by omega)]at hx;rw [List.getElem?_append_left Gz]at hy;exact hp.once p p' x y Db hx hy
      . have hpe:p'=pre.length:=by
         have:=(List.getElem?_eq_some_iff.1 hy).1
         simp at this;omega
        subst hpe;have:y=q:=by simpa using hy.symm
        subst this;rw [List.getElem?_append_left Db]at hx;intro heq;have:bit s y.1=true:=(h1 y.1).2 ⟨x,List.mem_iff_getElem?.2 ⟨p,hx⟩,heq⟩
        rw [c2]at this;cases this
    . by_cases Gz:p<pre.length
      . rw [List.getElem?_append_left Gz]at hx;rw [List.getElem?_append_left (by omega)]at hy;exact hp.fresh p x hx hf p' y Db hy Zu
      . have hpe:p=pre.length:=by
         have:=(List.getElem?_eq_some_iff.1 hx).1
         simp at this;omega
        subst hpe;have:x=q:=by simpa using hx.symm
        subst this;rw [List.getElem?_append_left Db]at hy;rcases c3 with c3|c3
        . rw [hf]at c3;cases c3
        . exact List.all_eq_true.1 c3 _ (h2 y.1 ⟨y,List.mem_iff_getElem?.2 ⟨p',hy⟩,Zu,rfl⟩)
theorem gak{ms:List Nat}{ord:List (Nat×Oper)}(h:EE ms 0 [] ord=true):PR ms ord:=by
 have:=pF ms ord [] 0 [] (fun j=>by simp [Aw]) (fun j h=>by obtain ⟨q,k,_⟩:=h;cases k) h ⟨fun p q h=>by simp at h,fun p p' q q' _ h=>by simp at h,fun p q h=>by simp at h⟩
 simpa using this
end Sk
end Go.Proofs.YtfnkmolffhfpoaaGreat
namespace Go.Proofs.YtfnkmolffhfpoaaGreat
namespace Sk
open Go.RowKit
variable[Interp]
def Lp(t:Tm)(d:Option Tmp)(v:Value):Tm:=match d with|some d=>t.put d v|none=>t
theorem Ao(t:Tm)(d:Nat)(v:Value)(x:Nat):nth (t.put d v) x=if x=d then v else nth t x:=by
 unfold nth;rw [Rm];by_cases h:x=d<;>simp [h]
theorem VK{β:Type}{t:Tm}{d:Option Tmp}{v:Value}{k:Tm->Option β}{x:β}(h:DE t d v k=some x):k (Lp t d v)=some x/\∀q,d=some q->q<t.n:=by
 cases d with
 |none=>exact ⟨h,fun q e=>by cases e⟩
 |some d=>
  simp only [DE,qk]at h
  split at h
  . rename_i hd;exact ⟨h,fun q e=>by cases e;exact hd⟩
  . cases h
structure QR(E:Env)(go:Task->Option lj)(ops:List Oper)(r:Rec):Prop where
 w:r.w=Ot ops r.t r.o
 cl:tl ops r.t r.o=true
 no:r.w=false->r.v=undef/\r.σ'=r.σ
 yes:r.w=true->sq E go r.t r.σ r.o.op=some (r.v,r.σ')
 dst:∀d,r.o.dst=some d->d<r.t.n
inductive Wt(E:Env)(go:Task->Option lj)(ops:List Oper):List Rec->Tm->AH->Tm->AH->Prop
 |nil (t:Tm) (σ:AH):Wt E go ops [] t σ t σ
 |cons (r:Rec) (rs:List Rec) (t':Tm) (σ':AH) (h:QR E go ops r) (k:Wt E go ops rs (Lp r.t r.o.dst r.v) r.σ' t' σ'):Wt E go ops (r::rs) r.t r.σ t' σ'
theorem Np{E:Env}{go:Task->Option lj}{ops:List Oper}:∀(l:List (Nat×Oper)) (t:Tm) (σ:AH) (rs:List Rec) (t':Tm) (σ':AH),Vr E go ops l t σ=some (rs,t',σ')->
  Wt E go ops rs t σ t' σ'/\rs.map (fun r=>(r.i,r.o))=l
 |[],t,σ,rs,t',σ',h=>by simp [Vr]at h;obtain ⟨rfl,rfl,rfl⟩:=h;exact ⟨.nil t σ,rfl⟩
 |q::l,t,σ,rs,t',σ',h=>by
  simp only [Vr]at h;have cons:∀(r:Rec) (x:Option (List Rec×Tm×AH)),GK r x=some (rs,t',σ')->∃U3,rs=r::U3/\x=some (U3,t',σ'):=fun r x hx=>by
   cases x with
   |none=>cases hx
   |some y=>obtain ⟨a,b⟩:=y;simp only [GK]at hx;cases hx;exact ⟨a,rfl,rfl⟩
  split at h
  . cases h
  rename_i Iq
  split at h
  . rename_i hw;obtain ⟨h1,h2⟩:=VK h;obtain ⟨U3,rfl,h3⟩:=cons _ _ h1;obtain ⟨k1,k2⟩:=Np l _ _ U3 t' σ' h3;exact ⟨.cons ⟨q.1,q.2,t,σ,false,undef,σ⟩ U3 t' σ' ⟨hw.symm,Iq,fun _=>⟨rfl,rfl⟩,fun e=>(by cases e),h2⟩ k1,by simp [k2]⟩
  . rename_i hw
    split at h
    . cases h
    . rename_i v σ1 Wj;rw [jk]at h;obtain ⟨h1,h2⟩:=VK h;obtain ⟨U3,rfl,h3⟩:=cons _ _ h1;obtain ⟨k1,k2⟩:=Np l _ _ U3 t' σ' h3;exact ⟨.cons ⟨q.1,q.2,t,σ,true,v,σ1⟩ U3 t' σ' ⟨hw.symm,Iq,fun e=>(by cases e),fun _=>Wj,h2⟩ k1,by simp [k2]⟩
def qF(rs:List Rec)(t':Tm)(p:Nat):Tm:=match rs[p]?with|some r=>r.t|none=>t'
def Xj(rs:List Rec)(σ':AH)(p:Nat):AH:=match rs[p]?with|some r=>r.σ|none=>σ'
section
variable{E:Env}{go:Task->Option lj}{ops:List Oper}{rs:List Rec}{t t':Tm}{σ σ':AH}
theorem Zg(h:Wt E go ops rs t σ t' σ'):(qF rs t' 0=t/\Xj rs σ' 0=σ)/\∀p r,rs[p]?=some r->QR E go ops r/\qF rs t' (p+1)=Lp r.t r.o.dst r.v/\Xj rs σ' (p+1)=r.σ':=by
 induction h with
 |nil t σ=>exact ⟨⟨rfl,rfl⟩,fun p r h=>by simp at h⟩
 |cons r rs t' σ' hr k ih=>
  refine ⟨⟨rfl,rfl⟩,fun p r' hp=> ?_⟩;cases p with
  |zero=>
   simp at hp;subst hp;refine ⟨hr, ?_, ?_⟩
   . show qF (r::rs) t' 1=_
     have:qF (r::rs) t' 1=qF rs t' 0:=by simp [qF]
     rw [this,ih.1.1]
   . have:Xj (r::rs) σ' 1=Xj rs σ' 0:=by simp [Xj]
     rw [this,ih.1.2]
  |succ p=>
   have UK:rs[p]?=some r':=by simpa using hp
   obtain ⟨q1,q2,q3⟩:=ih.2 p r' UK
   refine ⟨q1, ?_, ?_⟩
   . have:qF (r::rs) t' (p+1+1)=qF rs t' (p+1):=by simp [qF]
     rw [this];exact q2
   . have:Xj (r::rs) σ' (p+1+1)=Xj rs σ' (p+1):=by simp [Xj]
     rw [this];exact q3
theorem Fw{p:Nat}{r:Rec}(h:rs[p]?=some r):qF rs t' p=r.t:=by simp [qF,h]
theorem Si{p:Nat}{r:Rec}(h:rs[p]?=some r):Xj rs σ' p=r.σ:=by simp [Xj,h]
theorem WK:Xj rs σ' rs.length=σ':=by simp [Xj]
theorem JY:qF rs t' rs.length=t':=by simp [qF]
def V3(rs:List Rec):Prop:=∀(p q:Nat) (r s:Rec) (d:Tmp),rs[p]?=some r->rs[q]?=some s->r.o.dst=some d->s.o.dst=some d->p=q
theorem KC(h:Wt E go ops rs t σ t' σ')(hd:V3 rs):∀p,p<=rs.length->(qF rs t' p).n=t.n/\(qF rs t' p).d=t.d/\∀x,(∀q r,q<p->rs[q]?=some r->r.o.dst=some x->nth (qF rs t' p) x=r.v)/\((∀q r,q<p->rs[q]?=some r->r.o.dst≠some x)->nth (qF rs t' p) x=nth t x)
 |0,_=>by rw [(Zg h).1.1];exact ⟨rfl,rfl,fun x=>⟨fun q r hq=>absurd hq (Nat.not_lt_zero _),fun _=>rfl⟩⟩
 |p+1,hp=>by
  obtain ⟨i1,i2,i3⟩:=KC h hd p (by omega);have hr:rs[p]?=some (rs[p]'(by omega)):=List.getElem?_eq_getElem (by omega)
  obtain ⟨k1,k2,k3⟩:=(Zg h).2 p _ hr
  have hT:=Fw (t':=t') hr;generalize rs[p]'(by omega)=r at*;rw [hT]at i1 i2 i3;rw [k2];refine ⟨?_, ?_,fun x=>⟨fun q s hq hs hx=> ?_,fun tg=> ?_⟩⟩
  . unfold Lp;split<;>exact i1
  . unfold Lp;split<;>exact i2
  . by_cases RR:q=p
    . subst RR;rw [hr]at hs;cases hs;unfold Lp;rw [hx];simp only [Ao,if_true]
    . have h1:=(i3 x).1 q s (by omega) hs hx
      unfold Lp
      split
      . rename_i d tO;rw [Ao];have:x≠d:=fun e=>by subst e;exact RR (hd q p s r x hs hr hx tO)
        rw [if_neg this];exact h1
      . exact h1
  . have h1:=(i3 x).2 fun q s hq hs=>tg q s (by omega) hs
    unfold Lp
    split
    . rename_i d tO;rw [Ao];have:x≠d:=fun e=>by subst e;exact tg p r (by omega) hr tO
      rw [if_neg this];exact h1
    . exact h1
theorem LC(h:Wt E go ops rs t σ t' σ')(hn:∀r∈rs,r.σ.next<=r.σ'.next){p:Nat}:∀(d:Nat),p+d<=rs.length->(Xj rs σ' p).next<=(Xj rs σ' (p+d)).next
 |0,_=>Nat.le_refl _
 |d+1,hd=>by
  have ih:=LC (p:=p) h hn d (by omega);have hr:rs[p+d]?=some (rs[p+d]'(by omega)):=List.getElem?_eq_getElem (by omega)
  obtain ⟨_,_,k3⟩:=(Zg h).2 (p+d) _ hr
  have:=hn _ (List.mem_iff_getElem?.2 ⟨p+d,hr⟩);rw [Si hr]at ih;rw [show p+(d+1)=p+d+1 by omega,k3];omega
end
theorem Zm{ops:List Oper}{o:Oper}{d:Tmp}(h:looks ops o d=false):(∀x∈o.op.operands,x≠ .tmp d)/\∀g og,o.guard=some g->ops[g.1]?=some og->og.dst≠some d:=by
 have key:∀l:List Operand,tq d l=false->∀x∈l,x≠ .tmp d:=by
  intro l
  induction l with
  |nil=>intro _ x hx;cases hx
  |cons y ys ih=>
   intro h x hx e;simp only [tq]at h;cases y with
   |tmp q=>
    simp only at h
    split at h
    . cases h
    . rename_i hb;rw [Va]at hb;have hb:=of_decide_eq_false hb;rcases List.mem_cons.1 hx with rfl|hx
      . cases e;exact hb rfl
      . exact ih h x hx e
   |_=>
    simp only at h;rcases List.mem_cons.1 hx with rfl|hx
    . cases e
    . exact ih h x hx e
 unfold looks at h
 split at h
 . cases h
 . rename_i hl;refine ⟨fun x hx=>key _ hl x (by simpa using hx),fun g og hg ho e=> ?_⟩;rw [hg]at h;simp only [Pc,ho,e]at h;rw [Va]at h;simp at h
theorem AI{ops:List Oper}{o:Oper}{t1 t2:Tm}(h:∀d,looks ops o d=true->nth t1 d=nth t2 d):Ot ops t1 o=Ot ops t2 o:=by
 unfold Ot;cases hg:o.guard with
 |none=>rfl
 |some g=>
  simp only [Pc];cases ho:ops[g.1]?with
  |none=>rfl
  |some og=>
   simp only;cases hd:og.dst with
   |none=>rfl
   |some d=>
    simp only;have:looks ops o d=true:=by
     cases hl:looks ops o d with
     |true=>rfl
     |false=>exact absurd hd ((Zm hl).2 g og hg ho)
    rw [h d this]
theorem rF{ops:List Oper}{o:Oper}{t1 t2:Tm}(h:∀d,looks ops o d=true->nth t1 d=nth t2 d):tl ops t1 o=tl ops t2 o:=by
 unfold tl;cases hg:o.guard with
 |none=>rfl
 |some g=>
  simp only [Pc];cases ho:ops[g.1]?with
  |none=>rfl
  |some og=>
   simp only;cases hd:og.dst with
   |none=>rfl
   |some d=>
    simp only;have:looks ops o d=true:=by
     cases hl:looks ops o d with
     |true=>rfl
     |false=>exact absurd hd ((Zm hl).2 g og hg ho)
    rw [h d this]
theorem KY{ops:List Oper}{o:Oper}{t1 t2:Tm}(h:∀d,looks ops o d=true->nth t1 d=nth t2 d):∀x∈o.op.operands,ev t1 x=ev t2 x:=fun x hx=>KR fun d e=>by
 refine h d ?_
 cases hl:looks ops o d with
 |true=>rfl
 |false=>exact absurd e ((Zm hl).1 x hx)
theorem Gw{E:Env}{go:Task->Option lj}{ops:List Oper}{r:Rec}(h:QR E go ops r)(he:Cc r.o.op=false):
  (r.w=false/\r.σ'=r.σ)\/(r.w=true/\De r.o.op=false/\r.σ'=r.σ)\/∃x f,r.w=true/\De r.o.op=true/\Ad E r.t r.o.op=some (x,f)/\r.v=f r.σ.next/\r.σ'=r.σ.new x:=by
 cases hw:r.w with
 |false=>exact .inl ⟨rfl,(h.no hw).2⟩
 |true=>
  right;have:=h.yes hw;unfold sq at this;unfold Cc at he;unfold De
  split at this
  . rename_i hc;left;rw [hc];cases hs:Sa E r.t r.o.op with
    |none=>rw [hs]at this;cases this
    |some v=>rw [hs]at this;simp only [Vv]at this;injection this with this;injection this with _ this;exact ⟨rfl,rfl,this.symm⟩
  . rename_i hc;left;rw [hc];cases hs:Pf E r.t r.σ r.o.op with
    |none=>rw [hs]at this;cases this
    |some v=>rw [hs]at this;simp only [Vv]at this;injection this with this;injection this with _ this;exact ⟨rfl,rfl,this.symm⟩
  . rename_i hc;right;rw [hc];cases hs:Ad E r.t r.o.op with
    |none=>rw [hs]at this;cases this
    |some p=>
     obtain ⟨x,f⟩:=p;rw [hs]at this;have e:fresh r.σ (some (x,f))=some (f r.σ.next,r.σ.new x):=by
      generalize r.σ=s;obtain ⟨n,tr⟩:=s;simp [fresh,vj]
     rw [e]at this;injection this with this
     injection this with h1 h2
     exact ⟨x,f,rfl,rfl,rfl,h1.symm,h2.symm⟩
  . rename_i hc;rw [hc]at he;cases he
  . cases this
end Sk
end Go.Proofs.YtfnkmolffhfpoaaGreat
