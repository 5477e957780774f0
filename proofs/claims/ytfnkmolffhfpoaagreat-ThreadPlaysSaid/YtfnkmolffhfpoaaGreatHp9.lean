/- -/
import Derived.Test.YtfnkmolffhfpoaaGreatHp8
import Derived.Conc.MuLone
set_option linter.unusedVariables false
set_option linter.unusedSimpArgs false
set_option linter.unusedSectionVars false
namespace Go.Proofs.YtfnkmolffhfpoaaGreat
namespace Sk
open Go.RowKit
variable[Interp]
theorem He.ext{B:Nat->Prop}{w0:World}{R R1:Mp}{σ σ1:AH}{x:Exit}{t:Tm}{ms:List Nat}{σ':AH}{e:Exit}{a:Act}{w:World}(h:Ext R σ R1 σ1)(k:He B w0 R1 σ1 x t ms σ' e a w):He B w0 R σ x t ms σ' e a w:=by
 obtain ⟨R',k1,k2,k3⟩:=k;exact ⟨R',k1,h.trans k2,k3⟩
theorem bp{F:Fence}{n:Nat}{P:Program}{c:Code}{Q Q':Exit->Act->World->Prop}(h:∀e a w,Q e a w->Q' e a w):∀(m:Nat) (a:Act) (w:World),Code.roundsIn F n P c Q m a w->Code.roundsIn F n P c Q' m a w
 |0,_,_,k=>k.elim
 |m+1,a,w,k=>wpIn_mono k fun e a w q=>by
  cases e with
  |normal=>exact bp h m a w q
  |_=>exact h _ _ _ q
def yk(E:Env):Prop:=∀f g,E.orc f=some g->∀args σ v σ',g E.facts args σ=some (v,σ')->∀(B:Nat->Prop) (w0:World) (R:Mp) (w:World) (args':Array Value),Qc B w0 R σ w->LR R args args'.toList->
    (callFunc f args').run E.P w= .ok (.enter f args') w/\∀(F:Fence),Good F->∀n,CallsIn F n E.P f args' w (Lh B w0 R σ v σ')
def DI(E:Env)(go:Task->Option lj)(m:Nat):Prop:=∀q c t ms σ x t' Qo σ',go (.code q (.loop c) t ms σ)=some (.at x t' Qo σ')->∀(B:Nat->Prop) (w0:World) (R:Mp) (w:World) (a:Act),Qc B w0 R σ w->TR R t a.tmps->MR R ms a.defers->
    ∀(F:Fence),Good F->(q=false->F.round=none)->∀n,Code.roundsIn F n E.P c (He B w0 R σ x t' Qo σ') m a w
section
variable{E:Env}(hE:Yb E)(hO:yk E){go:Task->Option lj}(hG:lF E go)
include hE hG
include hO in
theorem PY{f:FuncId}{args:List Value}{σ:AH}{v:Value}{σ':AH}(h:step E go (.call f args σ)=some (.val v σ'))(B:Nat->Prop)(w0:World)(R:Mp)(w:World)(args':Array Value)(hS:Qc B w0 R σ w)(hl:LR R args args'.toList):
  (callFunc f args').run E.P w= .ok (.enter f args') w/\∀(F:Fence),Good F->∀n,CallsIn F n E.P f args' w (Lh B w0 R σ v σ'):=by
 simp only [step]at h
 split at h
 . rename_i r Vj;cases h
   split at Vj
   . rename_i g hg;exact hO f g hg args σ _ _ Vj B w0 R w args' hS hl
   . cases Vj
 . split at h
   . cases h
   . rename_i fn hfn;obtain ⟨q1,q2⟩:=hE.fn f fn hfn
     split at h
     . cases h
     . rename_i c hb;obtain ⟨t,h1,ht⟩:=wF hl h;refine ⟨MuLone.run_callFunc_enter q1 q2 hb args' w,fun F hF n=> ?_⟩;have h2:=h1;unfold tell at h2
       split at h2
       . rename_i x t1 QH σ1 Vj;have body:∀(hx:x= .ret\/x= .normal),kC E fn t1 QH σ1=some (.val v σ')->CallsIn F.plain n E.P f args' w (Lh B w0 R σ v σ'):=fun hx hta=>by
          refine callsIn_of_wp_marks q1 hb (hF.plain.fn f) ?_ rfl
          refine wpIn_mono (hG.code false c t [] σ x t1 QH σ1 Vj B w0 R w ⟨_,[]⟩ hS ht trivial F.plain hF.plain (fun _=>rfl) n) ?_
          rintro e a w' ⟨R',rfl,e1,e2,e3,e4⟩;unfold kC at hta
          split at hta
          . cases hta
          . rename_i σ2 Iq
            split at hta
            . cases hta
            . rename_i l aaG;rw [jk]at hta;cases hta;have:LeavesInM F.plain n E.P fn a.tmps (Lh B w0 R σ (rY l) σ') a.defers .returning w':=by
               refine Yt QH a.defers σ1 σ' w' e3 Iq e4 fun w2 k1 k2=> ?_
               obtain ⟨v',y1,y2⟩:=Uz hE k1 e2 aaG;exact ⟨v',y2,R',v',rfl,e1.trans k2,y1,k1⟩
              rcases hx with rfl|rfl
              . exact this
              . exact this
         have hc:CallsIn F.plain n E.P f args' w (Lh B w0 R σ v σ'):=by
          cases x with
          |ret=>exact body (.inl rfl) h2
          |normal=>exact body (.inr rfl) h2
          |_=>cases h2
         exact hc
       . cases h2
theorem aS{l:Nat}{args:List Value}{σ:AH}{v:Value}{σ':AH}(h:step E go (.round l args σ)=some (.val v σ'))(B:Nat->Prop)(w0:World)(R:Mp)(w:World)(args':Array Value)(l' s:Nat)(hS:Qc B w0 R σ w)(hl:LR R args args'.toList)(hR:R l=some (l',s)):
  ∃f tmps assign body,(Instr.yield l' args').run E.P w= .ok (.round l' f tmps assign body) w/\∀(F:Fence),Good F->∀n,RoundIn F n E.P l' f tmps assign body w (Lh B w0 R σ v σ'):=by
 simp only [step]at h
 split at h
 . rename_i pe fn tmps ps as bd d hg
   split at h
   . cases h
   . rename_i hlen;rw [Va,Dc,Dc]at hlen;have hlen:=of_decide_eq_true hlen
     split at h
     . cases h
     . rename_i t0 PQ;obtain ⟨hB,fn',xF,d',sd,o1,o2,o3⟩:=hS.obj l l' s _ hR hg;have mj:args'.size=ps.size:=by
        have:=hl.1
        simp at this hlen;omega
       refine ⟨_,_,_,_,run_yield o1 mj,fun F hF n=> ?_⟩;have ht:TR R t0 ((ps.zip args').foldl (fun tmps (q:Tmp×Value)=>tmps.setIfInBounds q.1 q.2) xF):=by
        have:=Jw ps.toList args args'.toList tmps t0 xF hl o2 PQ;rw [<-Array.toList_zip,Array.foldl_toList]at this;exact this
       split at h
       . rename_i t1 σ1 Vj;refine roundIn_of_wpIn (hF.fn _) (wpIn_mono (hG.code true as t0 [] σ .normal t1 [] σ1 Vj B w0 R w ⟨_,[]⟩ hS ht trivial (F.inRound l') (hF.inRound l') (fun e=>by cases e) n) ?_);rintro e a1 w1 ⟨R1,rfl,e1,e2,e3,e4⟩;unfold DA at h
         split at h
         . rename_i pe1 fn1 Z3 bS as1 Mu d1 Vz;rw [Ec]at h
           split at h
           . rename_i x t2 σ3 daG;have cp:=e1.le _ _ hR;obtain ⟨_,kak,cS,d1',sd1,p1,p2,p3⟩:=e4.obj l l' s _ cp Vz;have hS2:Qc B w0 R1 (σ1.put l (some (.loop .busy pe1 fn1 Z3 bS as1 Mu d1))) (w1.putObj l' (.loop {state:= .busy,pending:=pe1,fn:=kak,tmps:=cS,params:=bS,assign:=as1,body:=Mu,defers:=d1'})):=e4.putObj cp (by rw [Vz];simp) ⟨kak,cS,d1',sd1,rfl,p2,p3⟩;have hx2:Ext R1 σ1 R1 (σ1.put l (some (.loop .busy pe1 fn1 Z3 bS as1 Mu d1))):=Ext.put R1 σ1 cp _;have Le:MR R1 [] a1.defers:=e3;refine ⟨_,run_beginRound p1 rfl,wpIn_mono (hG.code true bd t1 [] _ x t2 [] σ3 daG B w0 R1 _ a1 hS2 e2 Le (F.inRound l') (hF.inRound l') (fun e=>by cases e) n) ?_⟩;rintro e a2 w2 ⟨R2,rfl,f1,f2,f3,f4⟩;unfold FE at h
             split at h
             . rename_i st3 pe3 fn3 A4 ps3 as3 bd3 d3 hg3;have EI:=f1.le _ _ cp;obtain ⟨_,mak,dS,d3',sd3,q1,q2,q3⟩:=f4.obj l l' s _ EI hg3;have fin:∀(st:LoopState) (pe:Option Code),Qc B w0 R2 (σ3.put l (some (.loop st pe fn3 A4 ps3 as3 bd3 d3))) (w2.putObj l' (.loop {state:=st,pending:=pe,fn:=mak,tmps:=dS,params:=ps3,assign:=as3,body:=bd3,defers:=d3'}))/\Ext R σ R2 (σ3.put l (some (.loop st pe fn3 A4 ps3 as3 bd3 d3))):=fun st pe=>
                ⟨f4.putObj EI (by rw [hg3];simp) ⟨mak,dS,d3',sd3,rfl,q2,q3⟩,e1.trans (hx2.trans (f1.trans (Ext.put R2 σ3 EI _)))⟩
               split at h
               . rw [Ec]at h;cases h;exact ⟨_,_,run_endRound none q1,R2,_,rfl,(fin .ready none).2,Bf R2 rfl,(fin .ready none).1⟩
               . rw [Ec]at h;cases h;exact ⟨_,_,run_endRound (some .ret) q1,R2,_,rfl,(fin .done (some .ret)).2,Bf R2 rfl,(fin .done (some .ret)).1⟩
               . rename_i i;rw [Ec]at h;cases h;exact ⟨_,_,run_endRound (some (.exit i)) q1,R2,_,rfl,(fin .done (some (.exit i))).2,Bf R2 rfl,(fin .done (some (.exit i))).1⟩
               . cases h
             . cases h
           . cases h
         . cases h
       . cases h
 . cases h
theorem yF{l d:Nat}{t:Tm}{ms:List Nat}{σ3:AH}{x:Exit}{t':Tm}{Qo:List Nat}{σ':AH}(h:Yv go l d t ms σ3=some (.at x t' Qo σ'))(B:Nat->Prop)(w0:World)(R:Mp)(w3:World)(a:Act)(l' s d' sd:Nat)(hS:Qc B w0 R σ3 w3)(ht:TR R t a.tmps)(hm:MR R ms a.defers)(hR:R l=some (l',s))(hd:R d=some (d',sd)){F:Fence}(hF:Good F)(Bo:F.round=none)(n:Nat):
  ∃jump w4,(Instr.endLoop l').run E.P w3= .ok jump w4/\
   (match jump with
    |none=>He B w0 R σ3 x t' Qo σ' .normal {a with defers:=[{target:= .collected d',args:=#[]}]++a.defers} w4
    |some c=>c.wpIn F n E.P (He B w0 R σ3 x t' Qo σ') {a with defers:=[{target:= .collected d',args:=#[]}]++a.defers} w4):=by
 unfold Yv at h
 split at h
 . rename_i st pe fn tmps ps as bd dd hg;obtain ⟨_,fn',xF,d1',sd1,q1,q2,q3⟩:=hS.obj l l' s _ hR hg;have hS4:Qc B w0 R (σ3.put l (some (.loop .exhausted pe fn tmps ps as bd dd))) (w3.putObj l' (.loop {state:= .exhausted,pending:=pe,fn:=fn',tmps:=xF,params:=ps,assign:=as,body:=bd,defers:=d1'})):=hS.putObj hR (by rw [hg];simp) ⟨fn',xF,d1',sd1,rfl,q2,q3⟩;have hm4:MR R (d::ms) ([{target:= .collected d',args:=#[]}]++a.defers):=⟨⟨d',sd,hd,rfl⟩,hm⟩;have hx4:Ext R σ3 R (σ3.put l (some (.loop .exhausted pe fn tmps ps as bd dd))):=Ext.put R σ3 hR _;clear hg
   split at h
   . cases h
   . rename_i KA;rw [Ec]at h;refine ⟨_,_,run_endLoop q1 (fun e=>KA e), ?_⟩;cases pe with
     |none=>
      cases h;exact ⟨R,rfl,hx4,ht,hm4,hS4⟩
     |some c=>
      exact wpIn_mono (hG.code false c t (d::ms) _ x t' Qo σ' h B w0 R _ {a with defers:=[{target:= .collected d',args:=#[]}]++a.defers} hS4 ht hm4 F hF (fun _=>Bo) n) fun e a w k=>He.ext hx4 k
 . cases h
theorem QY{m:Nat}(hL:DI E go m){q:Bool}{c:Code}{t:Tm}{ms:List Nat}{σ:AH}{x:Exit}{t':Tm}{Qo:List Nat}{σ':AH}(h:step E go (.code q c t ms σ)=some (.at x t' Qo σ'))(B:Nat->Prop)(w0:World)(R:Mp)(w:World)(a:Act)(hS:Qc B w0 R σ w)(ht:TR R t a.tmps)(hm:MR R ms a.defers)
  (F:Fence)(hF:Good F)(Bo:q=false->F.round=none)(n:Nat):(∀b,c≠ .loop b)->c.wpIn F n E.P (He B w0 R σ x t' Qo σ') a w:=by
 intro hnl;have here:∀e:Exit,some (lj.at e t ms σ)=some (lj.at x t' Qo σ')->He B w0 R σ x t' Qo σ' e a w:=fun e h=>by
  cases h;exact ⟨R,rfl,Ext.refl R σ,ht,hm,hS⟩
 cases c with
 |skip=>exact wpIn_skip (here _ h)
 |label l=>exact wpIn_label (here _ h)
 |ret=>exact wpIn_ret (here _ h)
 |exit i=>exact wpIn_exit (here _ h)
 |region id ops dr=>
  cases dr with
  |false=>
   simp only [step]at h
   split at h
   . rename_i t1 σ1 Wj;cases h;exact IC hE hG hF id ops Wj ht hm hS
   . cases h
  |true=>
   simp only [step]at h
   split at h
   . rename_i t1 σ1 Wj;cases h;exact vF hE hG hF id ops Wj ht hm hS
   . cases h
 |seq b d=>
  simp only [step]at h
  split at h
  . rename_i t1 QH σ1 Vj;refine wpIn_seq (wpIn_mono (hG.code q b t ms σ .normal t1 QH σ1 Vj B w0 R w a hS ht hm F hF Bo n) ?_);rintro e a1 w1 ⟨R1,rfl,e1,e2,e3,e4⟩;exact wpIn_mono (hG.code q d t1 QH σ1 x t' Qo σ' h B w0 R1 w1 a1 e4 e2 e3 F hF Bo n) fun e a w k=>k.ext e1
  . rename_i Jc;have hx:x≠ .normal:=fun e=>by subst e;exact Jc _ _ _ h
    refine wpIn_seq (wpIn_mono (hG.code q b t ms σ x t' Qo σ' h B w0 R w a hS ht hm F hF Bo n) ?_);intro e a1 w1 k;have:e≠ .normal:=by obtain ⟨R1,rfl,_⟩:=k;exact hx
    cases e with
    |normal=>exact absurd rfl this
    |_=>exact k
 |cond y b d=>
  simp only [step]at h
  split at h
  . rename_i v hv;have hv:=Jh (Qa ht hv)
    split at h
    . exact wpIn_cond_true hv (hG.code q b t ms σ x t' Qo σ' h B w0 R w a hS ht hm F hF Bo n)
    . exact wpIn_cond_false hv (hG.code q d t ms σ x t' Qo σ' h B w0 R w a hS ht hm F hF Bo n)
  . cases h
 |block i b=>
  simp only [step]at h
  split at h
  . rename_i j t1 QH σ1 Vj;refine wpIn_block (wpIn_mono (hG.code q b t ms σ (.exit j) t1 QH σ1 Vj B w0 R w a hS ht hm F hF Bo n) ?_);rintro e a1 w1 ⟨R1,rfl,e1,e2,e3,e4⟩;simp only [Exit.inBlock]
    split at h
    . rename_i Vm;rw [Va]at Vm;have Vm:=of_decide_eq_true Vm;cases h;rw [if_pos Vm.symm];exact ⟨R1,rfl,e1,e2,e3,e4⟩
    . rename_i Vm;rw [Va]at Vm;have Vm:=of_decide_eq_false Vm;cases h;rw [if_neg (Ne.symm Vm)];exact ⟨R1,rfl,e1,e2,e3,e4⟩
  . rename_i Jc;have hx:∀j,x≠ .exit j:=fun j e=>by subst e;exact Jc _ _ _ _ h
    refine wpIn_block (wpIn_mono (hG.code q b t ms σ x t' Qo σ' h B w0 R w a hS ht hm F hF Bo n) ?_);intro e a1 w1 k;have:∀j,e≠ .exit j:=by obtain ⟨R1,rfl,_⟩:=k;exact hx
    cases e with
    |exit j=>exact absurd rfl (this j)
    |_=>exact k
 |loop b=>exact absurd rfl (hnl b)
 |goto l=>
  simp only [step]at h;cases h;exact wpIn_goto ⟨R,rfl,Ext.refl R σ,ht,hm,hS⟩
 |scope b=>
  simp only [step]at h
  split at h
  . rename_i l t1 QH σ1 Vj
    split at h
    . rename_i rest hf
      split at h
      . cases h
      . rename_i Jc;have hx:∀j,x≠ .goto j:=fun j e=>by subst e;exact Jc _ _ _ _ h
        refine Kw (wpIn_mono (hG.code q b t ms σ (.goto l) t1 QH σ1 Vj B w0 R w a hS ht hm F hF Bo n) ?_);rintro e a1 w1 ⟨R1,rfl,e1,e2,e3,e4⟩;refine ⟨rest,hf,wpIn_mono (hG.code q rest t1 QH σ1 x t' Qo σ' h B w0 R1 w1 a1 e4 e2 e3 F hF Bo n) ?_⟩;intro e a2 w2 k;have:∀j,e≠ .goto j:=by obtain ⟨R2,rfl,_⟩:=k;exact hx
        cases e with
        |goto j=>exact absurd rfl (this j)
        |_=>exact k.ext e1
    . cases h
  . rename_i Jc;have hx:∀j,x≠ .goto j:=fun j e=>by subst e;exact Jc _ _ _ _ h
    refine Kw (wpIn_mono (hG.code q b t ms σ x t' Qo σ' h B w0 R w a hS ht hm F hF Bo n) ?_);intro e a1 w1 k;have:∀j,e≠ .goto j:=by obtain ⟨R1,rfl,_⟩:=k;exact hx
    cases e with
    |goto j=>exact absurd rfl (this j)
    |_=>exact k
 |rangeFunc g ps as bd=>
  simp only [step]at h
  split at h
  . rename_i f fs cs hg;have eS:=Bo rfl;rw [vj,vj]at h
    split at h
    . rename_i v σ3 Vj;have SH:=Qa ht hg;have:∃xI mF,LR R fs.toList xI/\LR R cs.toList mF/\a.eval g= .func (.func f) ⟨xI⟩ ⟨mF⟩:=by
       generalize a.eval g=q at SH;cases SH with
       |flat v h=>exact ⟨fs.toList,cs.toList,by
         cases fs with|mk fs=>cases cs with|mk cs=>
         cases fs with
         |nil=>exact LR.nil R
         |cons=>simp [Mc]at h,by
         cases fs with|mk fs=>cases cs with|mk cs=>
         cases fs with
         |nil=>cases cs with
          |nil=>exact LR.nil R
          |cons=>simp [Mc]at h
         |cons=>simp [Mc]at h,rfl⟩
       |fn f a a' c c' ha hc h1 h2=>exact ⟨a',c',⟨ha,h1⟩,⟨hc,h2⟩,rfl⟩
      obtain ⟨xI,mF,l1,l2,hv⟩:=this;have hS1:=hS.new (x:= .YB true) (o:= .deferred (some [])) (s:=0) (by simp [Jp]);obtain ⟨σ1,qaf⟩:∃s,s=σ.new (.YB true):=⟨_,rfl⟩;obtain ⟨R1,cp⟩:∃s,s=R.set σ.next (w.heap.size,0):=⟨_,rfl⟩;have hx1:Ext R σ R1 σ1:=by rw [cp,qaf];exact Ext.new hS _ _
      have hd1:R1 σ.next=some (w.heap.size,0):=by rw [cp];exact Mp.Jd _ _ _
      rw [<-cp,<-qaf]at hS1;rw [<-qaf]at h Vj;refine wpIn_rangeFunc fun fn hfn=> ?_
      have hlo:Jp R1 (.loop .ready none 0 t ps as bd σ.next) (some (.loop {state:= .ready,pending:=none,fn:=fn,tmps:=a.tmps,params:=ps,assign:=as,body:=bd,defers:=w.heap.size})) 0:=⟨fn,a.tmps,w.heap.size,0,rfl,ht.mono hx1.le,hd1⟩;have hS2:=hS1.new hlo;obtain ⟨W2,hW2⟩:∃W,W=(w.alloc (.deferred (some []))).alloc (.loop {state:= .ready,pending:=none,fn:=fn,tmps:=a.tmps,params:=ps,assign:=as,body:=bd,defers:=w.heap.size}):=⟨_,rfl⟩
      rw [<-hW2]at hS2;obtain ⟨σ2,raf⟩:∃s,s=σ1.new (.loop .ready none 0 t ps as bd σ.next):=⟨_,rfl⟩;obtain ⟨R2,EI⟩:∃s,s=R1.set σ1.next ((w.alloc (.deferred (some []))).heap.size,0):=⟨_,rfl⟩;have hx2:Ext R1 σ1 R2 σ2:=by rw [EI,raf];exact Ext.new hS1 _ _
      have RK:R2 σ1.next=some (w.heap.size+1,0):=by rw [EI,Mp.Jd];simp
      rw [<-EI,<-raf]at hS2;rw [<-raf]at Vj;have hle:R.le R2:=Mp.le_trans hx1.le hx2.le;have NA:LR R2 (fs.toList++(.func (.yield σ1.next) #[] #[]::cs.toList)) (⟨xI++(.func (.yield (w.heap.size+1)) #[] #[]::mF)⟩:Array Value).toList:=LR.append (l1.mono hle) (LR.cons (.yl _ _ 0 RK) (l2.mono hle))
      obtain ⟨c1,c2⟩:=hG.call f _ σ2 v σ3 Vj B w0 R2 _ _ hS2 NA;refine ⟨w.heap.size+1,_,W2,{target:= .fn (.func f) ⟨mF⟩,args:=⟨xI⟩++#[.func (.yield (w.heap.size+1)) #[] #[]]},W2,f,⟨xI++(.func (.yield (w.heap.size+1)) #[] #[]::mF)⟩,W2,by rw [eS,hW2];exact run_enterLoop_outer fn a.tmps ps as bd, ?_,fun f' _=>hF.fn f', ?_,hF.deep n, ?_⟩
      . simp only [resolve,rangeCall];rw [hv];simp [Deferred.ofValue,Act.eval]
      . simp only [invoke];have e:(⟨xI⟩++#[Value.func (.yield (w.heap.size+1)) #[] #[]]++⟨mF⟩:Array Value)=⟨xI++(.func (.yield (w.heap.size+1)) #[] #[]::mF)⟩:=by apply Array.ext';simp
        rw [e];exact c1
      . refine (c2 F hF (n -1)).mono ?_
        rintro e w3 ⟨R3,v',rfl,e1,e2,e3⟩;have pak:R.le R3:=Mp.le_trans hle e1.le;obtain ⟨jump,w4,j1,j2⟩:=yF hE hG h B w0 R3 w3 a (w.heap.size+1) 0 w.heap.size 0 e3 (ht.mono pak) (hm.mono pak) (e1.le _ _ RK) (e1.le _ _ (hx2.le _ _ hd1)) hF eS n;refine ⟨jump,w4,j1, ?_⟩;have hxx:Ext R σ R3 σ3:=hx1.trans (hx2.trans e1);cases jump with
        |none=>exact He.ext hxx j2
        |some c=>exact wpIn_mono j2 fun e a w k=>k.ext hxx
    . cases h
  . cases h
 |_=>cases h
end
end Sk
end Go.Proofs.YtfnkmolffhfpoaaGreat
namespace Go.Proofs.YtfnkmolffhfpoaaGreat
namespace Sk
open Go.RowKit
variable[Interp]
theorem iS{E:Env}(hE:Yb E)(hO:yk E):∀n,lF E (run E n)/\DI E (run E n) n
 |0=>⟨⟨fun f args σ v σ' h=>(by cases h),fun l args σ v σ' h=>(by cases h),fun q c t ms σ x t' Qo σ' h=>(by cases h)⟩,fun q c t ms σ x t' Qo σ' h=>(by cases h)⟩
 |n+1=>by
  obtain ⟨hG,hL⟩:=iS hE hO n;have hL':DI E (run E (n+1)) (n+1):=fun q c t ms σ x t' Qo σ' h B w0 R w a hS ht hm F hF Bo k=>by
   simp only [run,step]at h;rw [roundsIn_succ]
   split at h
   . rename_i t1 QH σ1 Vj;refine wpIn_mono (hG.code q c t ms σ .normal t1 QH σ1 Vj B w0 R w a hS ht hm F hF Bo k) ?_
     rintro e a1 w1 ⟨R1,rfl,e1,e2,e3,e4⟩;exact bp (fun e a w k=>He.ext e1 k) n a1 w1 (hL q c t1 QH σ1 x t' Qo σ' h B w0 R1 w1 a1 e4 e2 e3 F hF Bo k)
   . rename_i Jc;have hx:x≠ .normal:=fun e=>by subst e;exact Jc _ _ _ h
     refine wpIn_mono (hG.code q c t ms σ x t' Qo σ' h B w0 R w a hS ht hm F hF Bo k) ?_
     intro e a1 w1 k;have:e≠ .normal:=by obtain ⟨R1,rfl,_⟩:=k;exact hx
     cases e with
     |normal=>exact absurd rfl this
     |_=>exact k
  refine ⟨⟨fun f args σ v σ' h B w0 R w args' hS hl=>PY hE hO hG h B w0 R w args' hS hl,fun l args σ v σ' h B w0 R w args' l' s hS hl hR=>aS hE hG h B w0 R w args' l' s hS hl hR,fun q c t ms σ x t' Qo σ' h B w0 R w a hS ht hm F hF Bo k=> ?_⟩,hL'⟩;by_cases hc:∃b,c= .loop b
  . obtain ⟨b,rfl⟩:=hc;exact wpIn_loop_rounds (n+1) (hL' q b t ms σ x t' Qo σ' h B w0 R w a hS ht hm F hF Bo k)
  . exact QY hE hG hL h B w0 R w a hS ht hm F hF Bo k fun b e=>hc ⟨b,e⟩
theorem yO(w:World):Qc (fun k=>w.heap.size<=k) w (fun _=>none) ⟨0, .nil⟩ w:=
 ⟨fun b x h=>(by cases h),fun b r s h=>(by cases h),fun b r s o h=>(by cases h),fun b1 b2 r s1 s2 h=>(by cases h),Ci.refl _ _,fun k hk=>hk,fun _ _=>False,fun b r s e h=>(by cases h)⟩
theorem Ci.below{w w':World}(h:Ci (fun k=>w.heap.size<=k) w w'):Below w.heap.size w w':=
 ⟨h.os,h.tape,h.output,h.size,fun k hk=>h.block k hk (by omega)⟩
theorem Mh{E:Env}(hE:Yb E)(hO:yk E){n:Nat}{f:FuncId}{args:List Value}{σ:AH}{v:Value}{σ':AH}(h:run E n (.call f args σ)=some (.val v σ')){B:Nat->Prop}{w0:World}{R:Mp}{w:World}{args':Array Value}(hS:Qc B w0 R σ w)(hl:LR R args args'.toList):
  Calls E.P f args' w fun e w'=>∃R' v',e= .returned v'/\Ext R σ R' σ'/\VR R' v v'/\Qc B w0 R' σ' w':=by
 obtain ⟨k1,k2⟩:=((iS hE hO n).1).call f args _ v σ' h B w0 R w args' hS hl
 exact callsIn_wide.1 (k2 Fence.wide qO 0)
theorem zF{E:Env}(hE:Yb E)(hO:yk E){n:Nat}{f:FuncId}{v:Value}{σ':AH}(h:run E n (.call f [] ⟨0, .nil⟩)=some (.val v σ'))(hv:Sk.flat v=true)(w:World):
  Calls E.P f #[] w fun e w'=>e= .returned v/\Below w.heap.size w w':=by
 refine (Mh hE hO h (yO w) (LR.nil _) (args':=#[])).mono ?_
 rintro e w' ⟨R',v',rfl,e1,e2,e3⟩;rw [Hp e2 hv];exact ⟨rfl,e3.below.below⟩
#printaxioms zF
end Sk
end Go.Proofs.YtfnkmolffhfpoaaGreat
namespace Go.Proofs.YtfnkmolffhfpoaaGreat
namespace Sk
open Go.RowKit
variable[Interp]
theorem Is{α:Type}{n:Nat}{F G:Nat->α}(h:(List.range n).map F=(List.range n).map G)(i:Nat)(hi:i<n):F i=G i:=List.map_inj_left.1 h i (List.mem_range.2 hi)
def zO{α:Type}(n:Nat)(f:Nat->Option α)(i:Nat):Option α:=match Nat.ble n i with|true=>none|false=>f i
theorem QA{α:Type}{n:Nat}{f:Nat->Option α}{i:Nat}{x:α}(h:zO n f i=some x):i<n/\f i=some x:=by
 unfold zO at h
 split at h
 . cases h
 . rename_i hb;rw [xd]at hb;have:=of_decide_eq_false hb;exact ⟨by omega,h⟩
def jS(P:Program)(T:Nat->Option Func)(i:Nat):Option Func:=match T i with|some _=>P.funcs[i]?|none=>none
def kS(P:Program)(T:Nat->Option Ti)(i:Nat):Option Ti:=match T i with|some _=>Tae P i|none=>none
def PC(T:Nat->Option Func)(i:Nat):Bool:=match T i with|some fn=>fn.name== "runtime.NumGoroutine" |none=>false
theorem lS{P:Program}{n m:Nat}{fT:Nat->Option Func}{tT:Nat->Option Ti}{Jz:TypeId->String->Option FuncId}{orc:FuncId->Option (List (Value×Value)->List Value->AH->Option (Value×AH))}
  (h1:(List.range n).map fT=(List.range n).map (jS P fT))(h2:(List.range n).map (PC fT)=(List.range n).map fun _=>false)(h3:(List.range m).map tT=(List.range m).map (kS P tT))
  (h4:∀t n f,Jz t n=some f->∀v w,(method (P.types.size+Made.depth) t v n).run P w= .ok (f,v) w)(h5:P.follows .mixedOrders=true){Ju:List (Value×Value)->Value->Value}(h6:∀F,(∀p,p∈F->den p.1=den p.2)->∀v c,Wf v=some c->(∃c',Wf (Ju F v)=some c')/\den (Ju F v)=den v){oY:Value->Nat->TypeId->Option Value}(h7:∀e o ty v,oY e o ty=some v->∀g r O w,den e= .g g->Interp.gh g r O w->∃v',(∃c,Wf v=some c)/\den v= .v v'/\(loadVar ty ⟨r,o,none⟩).run P w= .ok v' w):Yb ⟨P,zO n fT,zO m tT,Jz,orc,oY,[],Ju⟩:=by
 refine ⟨fun f fn h=> ?_,fun t i h=> ?_,h4,h5,fun p h=>(by cases h),h6,h7⟩
 . obtain ⟨k1,k2⟩:=QA h;have e1:=Is h1 f k1;have e2:=Is h2 f k1;unfold jS at e1;unfold PC at e2;rw [k2]at e1 e2;exact ⟨e1.symm,e2⟩
 . obtain ⟨k1,k2⟩:=QA h;have e1:=Is h3 t k1;unfold kS at e1;rw [k2]at e1;exact e1.symm
def Env.Ll(E:Env)(F:List (Value×Value)):Env:=⟨E.P,E.fn,E.ty,E.Jz,E.orc,E.oY,F,E.Ju⟩
theorem Yb.Ll{E:Env}(h:Yb E){F:List (Value×Value)}(hF:∀p,p∈F->den p.1=den p.2):Yb (E.Ll F):=⟨h.fn,h.ty,h.Jz,h.mixed,hF,h.Ju,h.oY⟩
def Qp:Option lj->Bool
 |some (.val (.bool b) _)=>b
 |_=>false
theorem Wz{E:Env}(hE:Yb E)(hO:yk E){n:Nat}{f:FuncId}(h:Qp (run E n (.call f [] ⟨0, .nil⟩))=true)(w:World):
  Calls E.P f #[] w fun e w'=>e= .returned (.bool true)/\Below w.heap.size w w':=by
 cases hr:run E n (.call f [] ⟨0, .nil⟩)with
 |none=>rw [hr]at h;cases h
 |some r=>
  rw [hr]at h;cases r with
  |val v σ'=>
   cases v with
   |bool b=>cases b with
    |true=>exact zF hE hO hr rfl w
    |false=>cases h
   |_=>cases h
  |«at»=>cases h
end Sk
end Go.Proofs.YtfnkmolffhfpoaaGreat
namespace Go.Proofs.YtfnkmolffhfpoaaGreat
namespace Sk
open Go.RowKit
noncomputable section
structure Kj where
 G:Type
 U:Nat->List (Tc G)->Int
 V:Nat->List (Tc G)->G
 W:Nat->G->G
 W_W:∀k g,W k (W k g)=W k g
 gh:G->Nat->(Nat->Prop)->World->Prop
 gh_lt:∀g r O w,gh g r O w->∀k,O k->k<w.heap.size
 gh_own:∀g r O w,gh g r O w->O r
 gh_keep:∀g r O w w',gh g r O w->w.heap.size<=w'.heap.size->(∀k,O k->w'.heap[k]?=w.heap[k]?)->gh g r O w'
@[reducible] def Kj.at(T:Kj)(ρ:Nat->Int)(γ:Nat->T.G):Interp:=⟨T.G,ρ,γ,T.U,T.V,T.W,T.W_W,T.gh,T.gh_lt,T.gh_own,T.gh_keep⟩
def vr(k i:Nat):Value:=sy k [.int .i64 (.ofNat i)]
def tc(k:Nat)(u:Value):Bool:=
 match u with
 | .int q n=>match Nat.beq (Hc q) k with|true=>ae (Vo q n) n|false=>false
 | .bool _=>Nat.beq k 8
 | .func (.methodOf t _) _ _=>Nat.beq (Nat.mod t 16) k
 |_=>false
def gn(k:Nat)(u:Value):Bool:=
 match u with
 | .func (.methodOf t _) _ _=>La (Wg (Nat.ble (Nat.mod t 16) 8)) (Nat.beq (Nat.mod t 16) k)
 |_=>false
mutual
def FI(E:Env)(θ:List Value)(η:List Value):Nat->Value->Option Value
 |0,_=>none
 |d+1,v=>match v with
  | .func f a c=>match f with
    | .methodOf t _=>match a with
      |⟨l⟩=>match Nat.div t 16 with
       |0=>match l with
        |[.int _ (.ofNat i)]=>match Nat.ble (Nat.mod t 16) 8 with
         |true=>match Xf θ i with
          |some u=>match tc (Nat.mod t 16) u with|true=>some u|false=>none
          |none=>none
         |false=>match Xf η i with
          |some u=>match gn (Nat.mod t 16) u with|true=>some u|false=>none
          |none=>none
        |_=>none
       |_+1=>match AO E θ η d l with
        |some l'=>match Nat.ble (Nat.mod t 16) 8 with
         |true=>some (E.norm (sy t l'))
         |false=>some (sy t l')
        |none=>none
    |_=>none
  | .int k n=>some (.int k n)
  | .bool b=>some (.bool b)
  |_=>none
def AO(E:Env)(θ:List Value)(η:List Value):Nat->List Value->Option (List Value)
 |0,_=>none
 |_+1,[]=>some []
 |d+1,x::xs=>match FI E θ η d x with
  |some y=>match AO E θ η d xs with
   |some ys=>some (y::ys)
   |none=>none
  |none=>none
end
def isSome{α:Type}:Option α->Bool
 |some _=>true
 |none=>false
mutual
def mtV(E:Env)(θ η:List Value)(f:List Nat):Nat->Value->Value->Bool
 |0,_,_=>false
 |d+1,p,v=>match p with
  | .pointer (some ⟨b,o,none⟩)=>match v with
    | .pointer (some ⟨b',o',none⟩)=>match Xf f b with
      |some c=>La (Nat.beq c b') (Nat.beq o o')
      |none=>false
    |_=>false
  | .slice (some ⟨b,o,none⟩) n z=>match v with
    | .slice (some ⟨b',o',none⟩) n' z'=>match z with
      |0=>false
      |_+1=>match Xf f b with
       |some c=>La (Nat.beq c b') (La (Nat.beq o o') (La (Nat.beq n n') (Nat.beq z z')))
       |none=>false
    |_=>false
  | .iface t u=>match v with
    | .iface t' u'=>match Nat.beq t t' with|true=>mtV E θ η f d u u'|false=>false
    |_=>false
  | .func g ⟨a⟩ ⟨c⟩=>match g with
    | .methodOf _ _=>match FI E θ η 60 p with
      |some u=>La (isSome (Wf v)) (La (isSome (Wf p)) (re 60 u v))
      |none=>false
    | .func g=>match v with
      | .func (.func g') ⟨a'⟩ ⟨c'⟩=>match Nat.beq g g' with
        |true=>match mS E θ η f d a a' with|true=>mS E θ η f d c c'|false=>false
        |false=>false
      |_=>false
    |_=>false
  |p=>match Mc p with|true=>Pv p v|false=>false
def mS(E:Env)(θ η:List Value)(f:List Nat):Nat->List Value->List Value->Bool
 |0,_,_=>false
 |_+1,[],[]=>true
 |d+1,x::xs,y::ys=>match mtV E θ η f d x y with|true=>mS E θ η f d xs ys|false=>false
 |_+1,_,_=>false
end
inductive ah where
 |cells(l:List (Option Value))(e:TypeId)(full:Bool)
 |gh(e:Value)
def rowP(n:Nat):Nat->List (Option Value)->Tr Value->Tr Value
 |_,[],t=>t
 |i,none::l,t=>rowP n (Nat.succ i) l t
 |i,some v::l,t=>rowP n (Nat.succ i) l (Tr.put (Nat.succ n) t i (some v))
def ah.obj:ah->Na
 | .cells l e full=> .cells ⟨Ze l,none,rowP (Ze l) 0 l .nil⟩ e full
 | .gh e=> .gh e
def ahP(n:Nat):Nat->List ah->Tr Na->Tr Na
 |_,[],t=>t
 |i,o::l,t=>ahP n (Nat.succ i) l (Tr.put (Nat.succ n) t i (some o.obj))
def Rp(l:List ah):AH:=⟨Ze l,ahP (Ze l) 0 l .nil⟩
def mtC(E:Env)(θ η:List Value)(f:List Nat)(c':Row):Nat->List (Option Value)->Bool
 |_,[]=>true
 |i,none::l=>mtC E θ η f c' (Nat.succ i) l
 |i,some v::l=>match c'.get i with
  |some u=>match mtV E θ η f 20 v u with|true=>mtC E θ η f c' (Nat.succ i) l|false=>false
  |none=>false
def RY(E:Env)(θ η:List Value)(f:List Nat)(p:ah)(x:Option Na):Bool:=
 match p,x with
 | .cells l e full,some (.cells c' e' C4)=>match La (Nat.beq e e') (La (Nat.beq (Ze l) c'.n) (Ov full C4))with
   |true=>mtC E θ η f c' 0 l
   |false=>false
 | .gh e,some (.gh e')=>match FI E θ η 60 e with
   |some u=>re 60 u e'
   |none=>false
 |_,_=>false
def D4(E:Env)(θ η:List Value)(f:List Nat)(σ:AH):List Nat->List ah->Bool
 |[],[]=>true
 |b::bs,o::os=>match RY E θ η f o (σ.get b)with|true=>D4 E θ η f σ bs os|false=>false
 |_,_=>false
def SY(n:Nat):List Nat->Bool
 |[]=>false
 |m::ms=>match Nat.beq n m with|true=>true|false=>SY n ms
def AF:List Nat->Bool
 |[]=>true
 |n::ns=>match SY n ns with|true=>false|false=>AF ns
def mtF(E:Env)(θ η:List Value):List (Value×Value)->Bool
 |[]=>true
 |p::ps=>match FI E θ η 60 p.1,Wf p.1,p.2 with
  |some u,some _, .bool b=>match re 60 u (.bool b)with|true=>mtF E θ η ps|false=>false
  |some u,some _, .int k n=>match re 60 u (.int k n)with|true=>mtF E θ η ps|false=>false
  |_,_,_=>false
end
noncomputable section
theorem nS[Interp]{k:Nat}{u:Value}(h:tc k u=true)(hk:k<=8):∃x,den u= .v x/\fk k (Oa (.v x:Tc Interp.G))=x:=by
 cases u with
 |int q n=>
  simp only [tc]at h
  split at h
  . rename_i hb;rw [Va]at hb;have:=of_decide_eq_true hb;subst this;rw [Sd,Qm]at h;have:=of_decide_eq_true h;exact ⟨_,rfl,by rw [pd];simp only [Oa];rw [this]⟩
  . cases h
 |bool b=>
  simp only [tc,Va]at h;have:=of_decide_eq_true h;subst this;exact ⟨_,rfl,by rw [Dd];cases b<;>rfl⟩
 |func f a c=>cases f with
  |methodOf t s=>
   simp only [tc,Va]at h;have ht:t %16=k:=of_decide_eq_true h;rw [Qf,Bl _ (by rw [ht];exact hk)];refine ⟨_,rfl, ?_⟩;rw [ht];by_cases h8:k=8
   . subst h8;rw [Dd,Dd];generalize (match Nat.ble 64 (t/16)with|true=>Interp.U (t/16) (jI a)|false=>Sm Interp.ρ (t/16) ((jI a).map Oa) ((tY 8).getD .i64))=z;by_cases hz:z=0<;>simp [Oa,hz]
   . obtain ⟨q,h1,h2⟩:=qC (c:=k) (by omega);subst h2;rw [pd,pd];simp only [Oa];rw [wrap_wrap]
  |_=>simp [tc]at h
 |_=>simp [tc]at h
theorem taf[Interp]{k:Nat}{u:Value}(h:gn k u=true):∃g,den u= .g (Interp.W k g):=by
 cases u with
 |func f a c=>cases f with
  |methodOf t s=>
   simp only [gn,Cd,Da,Bool.and_eq_true,Va,decide_eq_true_eq]at h;obtain ⟨h,rfl⟩:=h;rw [Qf];unfold Bh;cases hb:Nat.ble (Nat.mod t 16) 8 with
   |true=>rw [hb]at h;cases h
   |false=>exact ⟨_,rfl⟩
  |_=>simp [gn]at h
 |_=>simp [gn]at h
variable{T:Kj}(ρ:Nat->Int)(γ:Nat->T.G)(θ η:List Value)
def QC(u:Value):Option Nat:=
 match u with
 | .func f a c=>match f with
   | .methodOf t _=>match Nat.div t 16 with
     |0=>match a with
      |⟨l⟩=>match l with
       |[.int _ (.ofNat i)]=>some i
       |_=>none
     |_+1=>none
   |_=>none
 |_=>none
def qm(i:Nat):Int:=match θ[i]?with|some u=>(match QC u with|some j=>ρ j|none=>Oa (@den (T.at ρ γ) u))|none=>ρ i
def zk(i:Nat):T.G:=match η[i]?with|some u=>(match @den (T.at ρ γ) u with| .g g=>g| .v _=>γ i)|none=>γ i
theorem oS{u:Value}{j k:Nat}(h:QC u=some j)(hs:tc k u=true)(hk:k<=8): @den (T.at ρ γ) u= .v (@fk k (ρ j)):=by
 letI:Interp:=T.at ρ γ
 cases u with
 |func f a c=>cases f with
  |methodOf t s=>
   simp only [QC]at h
   split at h
   . rename_i hdiv;obtain ⟨l⟩:=a;simp only at h
     split at h
     . rename_i q i;cases h;simp only [tc,Va]at hs;have ht:t %16=k:=of_decide_eq_true hs;rw [@Qf (T.at ρ γ), @Bl (T.at ρ γ) _ _ (by rw [ht];exact hk)];have hl: @jI (T.at ρ γ) ⟨[.int q (.ofNat j)]⟩=[.v (.int q (.ofNat j))]:=rfl;rw [hl];have e1:t/16=0:=hdiv;have e0:Nat.ble 64 (t/16)=false:=by rw [e1];rfl
       rw [e0,e1,ht];rfl
     . cases h
   . cases h
  |_=>simp [QC]at h
 |_=>simp [QC]at h
@[reducible] def ri:Interp:=T.at (qm ρ γ θ) (zk ρ γ η)
variable{E:Env}(hE: @Yb (T.at ρ γ) E)
include hE
mutual
theorem Pq:∀(d:Nat) (v u:Value),FI E θ η d v=some u-> @den (ri ρ γ θ η) v= @den (T.at ρ γ) u
 |0,v,u,h=>by simp [FI]at h
 |d+1,v,u,h=>by
  letI:Interp:=T.at ρ γ
  simp only [FI]at h
  split at h
  . rename_i f a c
    split at h
    . rename_i t s;obtain ⟨l⟩:=a;simp only at h
      split at h
      . rename_i hdiv
        split at h
        . rename_i q i;have hl:∀J:Interp, @jI J ⟨[.int q (.ofNat i)]⟩=[.v (.int q (.ofNat i))]:=fun J=>rfl
          split at h
          . rename_i hk;rw [xd]at hk;have hk:t %16<=8:=of_decide_eq_true hk
            split at h
            . rename_i u0 hu
              split at h
              . rename_i hsc;cases h;obtain ⟨x,h1,h2⟩:= @nS (T.at ρ γ) _ _ hsc hk;rw [Pc]at hu;rw [@Qf (ri ρ γ θ η), @Bl (ri ρ γ θ η) _ _ hk,hl,h1];have e0:Nat.ble 64 (t/16)=false:=by rw [show t/16=0 from hdiv];rfl
                have e1:t/16=0:=hdiv;rw [e0,e1];simp only [List.map,Oa,Sm]
                congr 1
                show fk (t %16) (qm ρ γ θ (Int.toNat (Int.ofNat i)))=_
                unfold qm;rw [show(Int.toNat (Int.ofNat i))=i from rfl,hu];simp only;cases hvn:QC u with
                |none=>
                 simp only;rw [h1];exact h2
                |some j=>
                 simp only;have:=oS ρ γ hvn hsc hk;rw [h1]at this;injection this with this
                 exact this.symm
              . cases h
            . cases h
          . rename_i hk
            split at h
            . rename_i u0 hu
              split at h
              . rename_i hg;cases h;obtain ⟨g,h1⟩:= @taf (T.at ρ γ) _ _ hg;rw [Pc]at hu;rw [@Qf (ri ρ γ θ η),hl,h1];unfold Bh;rw [hk];have e1:Nat.div t 16=0:=hdiv;rw [e1];simp only [Oa];have:zk ρ γ η (Int.toNat (Int.ofNat i))=T.W (Nat.mod t 16) g:=by
                 unfold zk;rw [show(Int.toNat (Int.ofNat i))=i from rfl,hu];simp only;rw [h1];rfl
                exact congrArg Tc.g ((congrArg (T.W (Nat.mod t 16)) this).trans (T.W_W _ _))
              . cases h
            . cases h
        . cases h
      . rename_i n hdiv
        split at h
        . rename_i l' hl;have laG:=BF d l l' hl;have e: @den (ri ρ γ θ η) (.func (.methodOf t s) ⟨l⟩ c)= @den (T.at ρ γ) (sy t l'):=by
           rw [@Qf (ri ρ γ θ η)];unfold sy;rw [@Qf (T.at ρ γ)]
           show @Bh (ri ρ γ θ η) t (@mc (ri ρ γ θ η) l)= @Bh (T.at ρ γ) t (@mc (T.at ρ γ) l')
           rw [laG];have e1:Nat.div t 16=n+1:=hdiv;unfold Bh;rw [e1];rfl
          rw [e]
          split at h
          . rename_i hk;rw [xd]at hk;have hk:t %16<=8:=of_decide_eq_true hk;cases h;exact (@ME (T.at ρ γ) E hE _ _ (PE l' hk)).symm
          . cases h;rfl
        . cases h
    . cases h
  . cases h;rfl
  . cases h;rfl
  . cases h
theorem BF:∀(d:Nat) (l m:List Value),AO E θ η d l=some m-> @mc (ri ρ γ θ η) l= @mc (T.at ρ γ) m
 |0,l,m,h=>by simp [AO]at h
 |d+1,[],m,h=>by simp [AO]at h;subst h;rfl
 |d+1,x::xs,m,h=>by
  simp only [AO]at h
  split at h
  . rename_i y hy
    split at h
    . rename_i ys hys;cases h;simp only [mc];rw [Pq d x y hy,BF d xs ys hys]
    . cases h
  . cases h
end
def Lj(f:List Nat)(R:Mp):Mp:=fun b=>match f[b]?with|some c=>R c|none=>none
mutual
theorem Js(f:List Nat)(R:Mp):∀(d:Nat) (p v w:Value),mtV E θ η f d p v=true-> @VR (T.at ρ γ) R v w-> @VR (ri ρ γ θ η) (Lj f R) p w
 |0,p,v,w,h,hv=>by simp [mtV]at h
 |d+1,p,v,w,h,hv=>by
  letI:Interp:=T.at ρ γ
  simp only [mtV]at h
  split at h
  . rename_i b o
    split at h
    . rename_i b' o'
      split at h
      . rename_i c hc;simp only [Da,Bool.and_eq_true,Va,decide_eq_true_eq]at h;obtain ⟨rfl,rfl⟩:=h;rw [Pc]at hc;obtain ⟨r,s,h1,rfl⟩:= @ji (T.at ρ γ) _ _ _ _ hv;exact @VR.ptr (ri ρ γ θ η) _ b o r s (by unfold Lj;rw [hc];exact h1)
      . cases h
    . cases h
  . rename_i b o n z
    split at h
    . rename_i b' o' n' z'
      split at h
      . cases h
      . rename_i z
        split at h
        . rename_i c hc;simp only [Da,Bool.and_eq_true,Va,decide_eq_true_eq]at h;obtain ⟨rfl,rfl,rfl,rfl⟩:=h;rw [Pc]at hc;cases hv with
          |flat v h=>simp [Mc]at h
          |Fz b1 o b2 s n z c' h1 h2 h3 h4=>exact @VR.Fz (ri ρ γ θ η) _ b o b2 s n _ c' (by unfold Lj;rw [hc];exact h1) h2 h3 h4
        . cases h
    . cases h
  . rename_i t u
    split at h
    . rename_i t' u'
      split at h
      . rename_i ht;rw [Va]at ht;have ht:=of_decide_eq_true ht;subst ht;cases hv with
        |flat v h=>simp [Mc]at h
        |Kv t v v' hv=>exact @VR.Kv (ri ρ γ θ η) _ t u v' (Js f R d u u' v' h hv)
      . cases h
    . cases h
  . rename_i g a c
    split at h
    . rename_i t s
      split at h
      . rename_i u hu;simp only [Da,Bool.and_eq_true]at h;obtain ⟨h1,h2,h3⟩:=h;have e1:=Pq ρ γ θ η hE 60 _ u hu;have e2:= @Hf (T.at ρ γ) 60 u v h3;cases hk:Wf v with
        |none=>rw [hk]at h1;cases h1
        |some k=>
         have e3:= @js (T.at ρ γ) _ _ _ hv _ hk;exact @VR.sym (ri ρ γ θ η) _ t s _ _ w (by rw [e1,e2,e3])
      . cases h
    . rename_i g
      split at h
      . rename_i g' a' c'
        split at h
        . rename_i hg;rw [Va]at hg;have hg:=of_decide_eq_true hg;subst hg
          split at h
          . rename_i ha;cases hv with
            |flat v hf=>
             simp only [Mc]at hf;cases a' with
             |nil=>cases c' with
              |nil=>
               have q1:=XK f d a ha;have q2:=XK f d c h;subst q1;subst q2;exact @VR.flat (ri ρ γ θ η) _ _ rfl
              |cons x y=>simp at hf
             |cons x y=>simp at hf
            |fn f0 a1 a2 c1 c2 k1 k2 k3 k4=>
             have l1:=Ks f R d a a' a2 ha ⟨k1,k3⟩;have l2:=Ks f R d c c' c2 h ⟨k2,k4⟩;exact @VR.fn (ri ρ γ θ η) _ _ a a2 c c2 l1.1 l2.1 l1.2 l2.2
          . cases h
        . cases h
      . cases h
    . cases h
  . split at h
    . rename_i hp;have:=oF h;subst this;rw [@Ic (T.at ρ γ) _ _ _ hv hp];exact @VR.flat (ri ρ γ θ η) _ _ hp
    . cases h
theorem XK(f:List Nat):∀(d:Nat) (p:List Value),mS E θ η f d p []=true->p=[]
 |0,p,h=>by simp [mS]at h
 |d+1,[],h=>rfl
 |d+1,x::xs,h=>by simp [mS]at h
theorem Ks(f:List Nat)(R:Mp):∀(d:Nat) (p v w:List Value),mS E θ η f d p v=true-> @LR (T.at ρ γ) R v w-> @LR (ri ρ γ θ η) (Lj f R) p w
 |0,p,v,w,h,hv=>by cases p<;>cases v<;>simp [mS]at h
 |d+1,[],[],w,h,hv=>by
  have:= @LR.ic (T.at ρ γ) _ _ hv;subst this;exact @LR.nil (ri ρ γ θ η) _
 |d+1,[],y::ys,w,h,hv=>by simp [mS]at h
 |d+1,x::xs,[],w,h,hv=>by simp [mS]at h
 |d+1,x::xs,y::ys,w,h,hv=>by
  simp only [mS]at h
  split at h
  . rename_i h1;obtain ⟨z,zs,rfl,k1,k2⟩:= @LR.ya (T.at ρ γ) _ _ _ _ hv;exact @LR.cons (ri ρ γ θ η) _ _ _ _ _ (Js f R d x y z h1 k1) (Ks f R d xs ys zs h k2)
  . cases h
end
end
end Sk
end Go.Proofs.YtfnkmolffhfpoaaGreat
