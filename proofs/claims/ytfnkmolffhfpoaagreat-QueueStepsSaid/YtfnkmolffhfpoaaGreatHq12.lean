/- -/
import Derived.Test.YtfnkmolffhfpoaaGreatHq11
import Derived.Conc.MuLone
set_option linter.unusedVariables false
set_option linter.unusedSimpArgs false
set_option linter.unusedSectionVars false
namespace Go.Proofs.YtfnkmolffhfpoaaGreat
namespace Sk
open Go.RowKit
variable[Interp]
theorem oe.ext{B:Nat->Prop}{w0:World}{R R1:Mp}{σ σ1:AH}{x:Exit}{t:Tm}{ms:List Nat}{σ':AH}{e:Exit}{a:Act}{w:World}(h:Ext R σ R1 σ1)(k:oe B w0 R1 σ1 x t ms σ' e a w):oe B w0 R σ x t ms σ' e a w:=by
 obtain ⟨R',k1,k2,k3⟩:=k;exact ⟨R',k1,h.trans k2,k3⟩
theorem To{F:Fence}{n:Nat}{P:Program}{c:Code}{Q Q':Exit->Act->World->Prop}(h:∀e a w,Q e a w->Q' e a w):∀(m:Nat) (a:Act) (w:World),Code.roundsIn F n P c Q m a w->Code.roundsIn F n P c Q' m a w
 |0,_,_,k=>k.elim
 |m+1,a,w,k=>wpIn_mono k fun e a w q=>by
  cases e with
  |normal=>exact To h m a w q
  |_=>exact h _ _ _ q
def Yl(E:Env):Prop:=∀f g,E.E6 f=some g->∀args σ v σ',g E.facts args σ=some (v,σ')->∀(B:Nat->Prop) (w0:World) (R:Mp) (w:World) (args':Array Value),Vc B w0 R σ w->LR R args args'.toList->
    (callFunc f args').run E.P w= .ok (.enter f args') w/\∀(F:Fence),Good F->∀n,CallsIn F n E.P f args' w (oh B w0 R σ v σ')
def eH(E:Env)(go:Task->Option Ki)(m:Nat):Prop:=∀q c t ms σ x t' Bo σ',go (.code q (.loop c) t ms σ)=some (.at x t' Bo σ')->∀(B:Nat->Prop) (w0:World) (R:Mp) (w:World) (a:Act),Vc B w0 R σ w->TR R t a.tmps->MR R ms a.defers->
    ∀(F:Fence),Good F->(q=false->F.round=none)->∀n,Code.roundsIn F n E.P c (oe B w0 R σ x t' Bo σ') m a w
section
variable{E:Env}(hE:Rb E)(hO:Yl E){go:Task->Option Ki}(hG:RD E go)
include hE hG
include hO in
theorem cV{f:FuncId}{args:List Value}{σ:AH}{v:Value}{σ':AH}(h:step E go (.call f args σ)=some (.val v σ'))(B:Nat->Prop)(w0:World)(R:Mp)(w:World)(args':Array Value)(hS:Vc B w0 R σ w)(hl:LR R args args'.toList):
  (callFunc f args').run E.P w= .ok (.enter f args') w/\∀(F:Fence),Good F->∀n,CallsIn F n E.P f args' w (oh B w0 R σ v σ'):=by
 simp only [step]at h
 split at h
 . rename_i r yk;cases h
   split at yk
   . rename_i g hg;exact hO f g hg args σ _ _ yk B w0 R w args' hS hl
   . cases yk
 . split at h
   . cases h
   . rename_i fn hfn;obtain ⟨q1,q2⟩:=hE.fn f fn hfn
     split at h
     . cases h
     . rename_i c hb;obtain ⟨t,h1,ht⟩:=cE hl h;refine ⟨MuLone.run_callFunc_enter q1 q2 hb args' w,fun F hF n=> ?_⟩;have h2:=h1;unfold tell at h2
       split at h2
       . rename_i x t1 xG σ1 yk;have body:∀(hx:x= .ret\/x= .normal),jB E fn t1 xG σ1=some (.val v σ')->CallsIn F.plain n E.P f args' w (oh B w0 R σ v σ'):=fun hx A7=>by
          refine callsIn_of_wp_marks q1 hb (hF.plain.fn f) ?_ rfl
          refine wpIn_mono (hG.code false c t [] σ x t1 xG σ1 yk B w0 R w ⟨_,[]⟩ hS ht trivial F.plain hF.plain (fun _=>rfl) n) ?_
          rintro e a w' ⟨R',rfl,e1,e2,e3,e4⟩;unfold jB at A7
          split at A7
          . cases A7
          . rename_i σ2 Aq
            split at A7
            . cases A7
            . rename_i l sau;rw [Bk]at A7;cases A7;have:LeavesInM F.plain n E.P fn a.tmps (oh B w0 R σ (FU l) σ') a.defers .returning w':=by
               refine Et xG a.defers σ1 σ' w' e3 Aq e4 fun w2 k1 k2=> ?_
               obtain ⟨v',y1,y2⟩:=Ey hE k1 e2 sau;exact ⟨v',y2,R',v',rfl,e1.trans k2,y1,k1⟩
              rcases hx with rfl|rfl
              . exact this
              . exact this
         have hc:CallsIn F.plain n E.P f args' w (oh B w0 R σ v σ'):=by
          cases x with
          |ret=>exact body (.inl rfl) h2
          |normal=>exact body (.inr rfl) h2
          |_=>cases h2
         exact hc
       . cases h2
theorem rP{l:Nat}{args:List Value}{σ:AH}{v:Value}{σ':AH}(h:step E go (.round l args σ)=some (.val v σ'))(B:Nat->Prop)(w0:World)(R:Mp)(w:World)(args':Array Value)(l' s:Nat)(hS:Vc B w0 R σ w)(hl:LR R args args'.toList)(hR:R l=some (l',s)):
  ∃f tmps assign body,(Instr.yield l' args').run E.P w= .ok (.round l' f tmps assign body) w/\∀(F:Fence),Good F->∀n,RoundIn F n E.P l' f tmps assign body w (oh B w0 R σ v σ'):=by
 simp only [step]at h
 split at h
 . rename_i pe fn tmps ps as bd d hg
   split at h
   . cases h
   . rename_i hlen;rw [Na,cd,cd]at hlen;have hlen:=of_decide_eq_true hlen
     split at h
     . cases h
     . rename_i t0 lO;obtain ⟨hB,O6,dE,d',sd,o1,o2,o3⟩:=hS.obj l l' s _ hR hg;have Vh:args'.size=ps.size:=by
        have:=hl.1
        simp at this hlen;omega
       refine ⟨_,_,_,_,run_yield o1 Vh,fun F hF n=> ?_⟩;have ht:TR R t0 ((ps.zip args').foldl (fun tmps (q:Tmp×Value)=>tmps.setIfInBounds q.1 q.2) dE):=by
        have:=Yv ps.toList args args'.toList tmps t0 dE hl o2 lO;rw [<-Array.toList_zip,Array.foldl_toList]at this;exact this
       split at h
       . rename_i t1 σ1 yk;refine roundIn_of_wpIn (hF.fn _) (wpIn_mono (hG.code true as t0 [] σ .normal t1 [] σ1 yk B w0 R w ⟨_,[]⟩ hS ht trivial (F.inRound l') (hF.inRound l') (fun e=>by cases e) n) ?_);rintro e a1 w1 ⟨R1,rfl,e1,e2,e3,e4⟩;unfold pz at h
         split at h
         . rename_i pe1 fn1 tX qU as1 ju d1 Fy;rw [ic]at h
           split at h
           . rename_i x t2 σ3 vau;have Uo:=e1.le _ _ hR;obtain ⟨_,oad,sP,d1',sd1,p1,p2,p3⟩:=e4.obj l l' s _ Uo Fy;have o7:Vc B w0 R1 (σ1.put l (some (.loop .busy pe1 fn1 tX qU as1 ju d1))) (w1.putObj l' (.loop {state:= .busy,pending:=pe1,fn:=oad,tmps:=sP,params:=qU,assign:=as1,body:=ju,defers:=d1'})):=e4.putObj Uo (by rw [Fy];simp) ⟨oad,sP,d1',sd1,rfl,p2,p3⟩;have Y6:Ext R1 σ1 R1 (σ1.put l (some (.loop .busy pe1 fn1 tX qU as1 ju d1))):=Ext.put R1 σ1 Uo _;have ye:MR R1 [] a1.defers:=e3;refine ⟨_,run_beginRound p1 rfl,wpIn_mono (hG.code true bd t1 [] _ x t2 [] σ3 vau B w0 R1 _ a1 o7 e2 ye (F.inRound l') (hF.inRound l') (fun e=>by cases e) n) ?_⟩;rintro e a2 w2 ⟨R2,rfl,f1,f2,f3,f4⟩;unfold qD at h
             split at h
             . rename_i st3 pe3 fn3 uX ps3 as3 bd3 d3 hg3;have fH:=f1.le _ _ Uo;obtain ⟨_,rad,tP,d3',sd3,q1,q2,q3⟩:=f4.obj l l' s _ fH hg3;have fin:∀(st:LoopState) (pe:Option Code),Vc B w0 R2 (σ3.put l (some (.loop st pe fn3 uX ps3 as3 bd3 d3))) (w2.putObj l' (.loop {state:=st,pending:=pe,fn:=rad,tmps:=tP,params:=ps3,assign:=as3,body:=bd3,defers:=d3'}))/\Ext R σ R2 (σ3.put l (some (.loop st pe fn3 uX ps3 as3 bd3 d3))):=fun st pe=>
                ⟨f4.putObj fH (by rw [hg3];simp) ⟨rad,tP,d3',sd3,rfl,q2,q3⟩,e1.trans (Y6.trans (f1.trans (Ext.put R2 σ3 fH _)))⟩
               split at h
               . rw [ic]at h;cases h;exact ⟨_,_,run_endRound none q1,R2,_,rfl,(fin .ready none).2,Qe R2 rfl,(fin .ready none).1⟩
               . rw [ic]at h;cases h;exact ⟨_,_,run_endRound (some .ret) q1,R2,_,rfl,(fin .done (some .ret)).2,Qe R2 rfl,(fin .done (some .ret)).1⟩
               . rename_i i;rw [ic]at h;cases h;exact ⟨_,_,run_endRound (some (.exit i)) q1,R2,_,rfl,(fin .done (some (.exit i))).2,Qe R2 rfl,(fin .done (some (.exit i))).1⟩
               . cases h
             . cases h
           . cases h
         . cases h
       . cases h
 . cases h
theorem eE{l d:Nat}{t:Tm}{ms:List Nat}{σ3:AH}{x:Exit}{t':Tm}{Bo:List Nat}{σ':AH}(h:qv go l d t ms σ3=some (.at x t' Bo σ'))(B:Nat->Prop)(w0:World)(R:Mp)(w3:World)(a:Act)(l' s d' sd:Nat)(hS:Vc B w0 R σ3 w3)(ht:TR R t a.tmps)(hm:MR R ms a.defers)(hR:R l=some (l',s))(hd:R d=some (d',sd)){F:Fence}(hF:Good F)(Dt:F.round=none)(n:Nat):
  ∃jump w4,(Instr.endLoop l').run E.P w3= .ok jump w4/\
   (match jump with
    |none=>oe B w0 R σ3 x t' Bo σ' .normal {a with defers:=[{target:= .collected d',args:=#[]}]++a.defers} w4
    |some c=>c.wpIn F n E.P (oe B w0 R σ3 x t' Bo σ') {a with defers:=[{target:= .collected d',args:=#[]}]++a.defers} w4):=by
 unfold qv at h
 split at h
 . rename_i st pe fn tmps ps as bd dd hg;obtain ⟨_,O6,dE,d1',sd1,q1,q2,q3⟩:=hS.obj l l' s _ hR hg;have hS4:Vc B w0 R (σ3.put l (some (.loop .exhausted pe fn tmps ps as bd dd))) (w3.putObj l' (.loop {state:= .exhausted,pending:=pe,fn:=O6,tmps:=dE,params:=ps,assign:=as,body:=bd,defers:=d1'})):=hS.putObj hR (by rw [hg];simp) ⟨O6,dE,d1',sd1,rfl,q2,q3⟩;have hm4:MR R (d::ms) ([{target:= .collected d',args:=#[]}]++a.defers):=⟨⟨d',sd,hd,rfl⟩,hm⟩;have hx4:Ext R σ3 R (σ3.put l (some (.loop .exhausted pe fn tmps ps as bd dd))):=Ext.put R σ3 hR _;clear hg
   split at h
   . cases h
   . rename_i bo;rw [ic]at h;refine ⟨_,_,run_endLoop q1 (fun e=>bo e), ?_⟩;cases pe with
     |none=>
      cases h;exact ⟨R,rfl,hx4,ht,hm4,hS4⟩
     |some c=>
      exact wpIn_mono (hG.code false c t (d::ms) _ x t' Bo σ' h B w0 R _ {a with defers:=[{target:= .collected d',args:=#[]}]++a.defers} hS4 ht hm4 F hF (fun _=>Dt) n) fun e a w k=>oe.ext hx4 k
 . cases h
theorem dV{m:Nat}(hL:eH E go m){q:Bool}{c:Code}{t:Tm}{ms:List Nat}{σ:AH}{x:Exit}{t':Tm}{Bo:List Nat}{σ':AH}(h:step E go (.code q c t ms σ)=some (.at x t' Bo σ'))(B:Nat->Prop)(w0:World)(R:Mp)(w:World)(a:Act)(hS:Vc B w0 R σ w)(ht:TR R t a.tmps)(hm:MR R ms a.defers)
  (F:Fence)(hF:Good F)(Dt:q=false->F.round=none)(n:Nat):(∀b,c≠ .loop b)->c.wpIn F n E.P (oe B w0 R σ x t' Bo σ') a w:=by
 intro C7;have here:∀e:Exit,some (Ki.at e t ms σ)=some (Ki.at x t' Bo σ')->oe B w0 R σ x t' Bo σ' e a w:=fun e h=>by
  cases h;exact ⟨R,rfl,Ext.refl R σ,ht,hm,hS⟩
 cases c with
 |skip=>exact wpIn_skip (here _ h)
 |label l=>exact wpIn_label (here _ h)
 |ret=>exact wpIn_ret (here _ h)
 |exit i=>exact wpIn_exit (here _ h)
 |region id ops dr=>
  cases dr with
  |false=>
   simp only [step]at h
   split at h
   . rename_i t1 σ1 Gl;cases h;exact CB hE hG hF id ops Gl ht hm hS
   . cases h
  |true=>
   simp only [step]at h
   split at h
   . rename_i t1 σ1 Gl;cases h;exact bE hE hG hF id ops Gl ht hm hS
   . cases h
 |seq b d=>
  simp only [step]at h
  split at h
  . rename_i t1 xG σ1 yk;refine wpIn_seq (wpIn_mono (hG.code q b t ms σ .normal t1 xG σ1 yk B w0 R w a hS ht hm F hF Dt n) ?_);rintro e a1 w1 ⟨R1,rfl,e1,e2,e3,e4⟩;exact wpIn_mono (hG.code q d t1 xG σ1 x t' Bo σ' h B w0 R1 w1 a1 e4 e2 e3 F hF Dt n) fun e a w k=>k.ext e1
  . rename_i bc;have hx:x≠ .normal:=fun e=>by subst e;exact bc _ _ _ h
    refine wpIn_seq (wpIn_mono (hG.code q b t ms σ x t' Bo σ' h B w0 R w a hS ht hm F hF Dt n) ?_);intro e a1 w1 k;have:e≠ .normal:=by obtain ⟨R1,rfl,_⟩:=k;exact hx
    cases e with
    |normal=>exact absurd rfl this
    |_=>exact k
 |cond y b d=>
  simp only [step]at h
  split at h
  . rename_i v hv;have hv:=vl (Ia ht hv)
    split at h
    . exact wpIn_cond_true hv (hG.code q b t ms σ x t' Bo σ' h B w0 R w a hS ht hm F hF Dt n)
    . exact wpIn_cond_false hv (hG.code q d t ms σ x t' Bo σ' h B w0 R w a hS ht hm F hF Dt n)
  . cases h
 |block i b=>
  simp only [step]at h
  split at h
  . rename_i j t1 xG σ1 yk;refine wpIn_block (wpIn_mono (hG.code q b t ms σ (.exit j) t1 xG σ1 yk B w0 R w a hS ht hm F hF Dt n) ?_);rintro e a1 w1 ⟨R1,rfl,e1,e2,e3,e4⟩;simp only [Exit.inBlock]
    split at h
    . rename_i Rm;rw [Na]at Rm;have Rm:=of_decide_eq_true Rm;cases h;rw [if_pos Rm.symm];exact ⟨R1,rfl,e1,e2,e3,e4⟩
    . rename_i Rm;rw [Na]at Rm;have Rm:=of_decide_eq_false Rm;cases h;rw [if_neg (Ne.symm Rm)];exact ⟨R1,rfl,e1,e2,e3,e4⟩
  . rename_i bc;have hx:∀j,x≠ .exit j:=fun j e=>by subst e;exact bc _ _ _ _ h
    refine wpIn_block (wpIn_mono (hG.code q b t ms σ x t' Bo σ' h B w0 R w a hS ht hm F hF Dt n) ?_);intro e a1 w1 k;have:∀j,e≠ .exit j:=by obtain ⟨R1,rfl,_⟩:=k;exact hx
    cases e with
    |exit j=>exact absurd rfl (this j)
    |_=>exact k
 |loop b=>exact absurd rfl (C7 b)
 |goto l=>
  simp only [step]at h;cases h;exact wpIn_goto ⟨R,rfl,Ext.refl R σ,ht,hm,hS⟩
 |scope b=>
  simp only [step]at h
  split at h
  . rename_i l t1 xG σ1 yk
    split at h
    . rename_i rest hf
      split at h
      . cases h
      . rename_i bc;have hx:∀j,x≠ .goto j:=fun j e=>by subst e;exact bc _ _ _ _ h
        refine Zv (wpIn_mono (hG.code q b t ms σ (.goto l) t1 xG σ1 yk B w0 R w a hS ht hm F hF Dt n) ?_);rintro e a1 w1 ⟨R1,rfl,e1,e2,e3,e4⟩;refine ⟨rest,hf,wpIn_mono (hG.code q rest t1 xG σ1 x t' Bo σ' h B w0 R1 w1 a1 e4 e2 e3 F hF Dt n) ?_⟩;intro e a2 w2 k;have:∀j,e≠ .goto j:=by obtain ⟨R2,rfl,_⟩:=k;exact hx
        cases e with
        |goto j=>exact absurd rfl (this j)
        |_=>exact k.ext e1
    . cases h
  . rename_i bc;have hx:∀j,x≠ .goto j:=fun j e=>by subst e;exact bc _ _ _ _ h
    refine Zv (wpIn_mono (hG.code q b t ms σ x t' Bo σ' h B w0 R w a hS ht hm F hF Dt n) ?_);intro e a1 w1 k;have:∀j,e≠ .goto j:=by obtain ⟨R1,rfl,_⟩:=k;exact hx
    cases e with
    |goto j=>exact absurd rfl (this j)
    |_=>exact k
 |rangeFunc g ps as bd=>
  simp only [step]at h
  split at h
  . rename_i f fs cs hg;have uP:=Dt rfl;rw [Vi,Vi]at h
    split at h
    . rename_i v σ3 yk;have AG:=Ia ht hg;have:∃ZG SD,LR R fs.toList ZG/\LR R cs.toList SD/\a.eval g= .func (.func f) ⟨ZG⟩ ⟨SD⟩:=by
       generalize a.eval g=q at AG;cases AG with
       |flat v h=>exact ⟨fs.toList,cs.toList,by
         cases fs with|mk fs=>cases cs with|mk cs=>
         cases fs with
         |nil=>exact LR.nil R
         |cons=>simp [yc]at h,by
         cases fs with|mk fs=>cases cs with|mk cs=>
         cases fs with
         |nil=>cases cs with
          |nil=>exact LR.nil R
          |cons=>simp [yc]at h
         |cons=>simp [yc]at h,rfl⟩
       |fn f a a' c c' ha hc h1 h2=>exact ⟨a',c',⟨ha,h1⟩,⟨hc,h2⟩,rfl⟩
      obtain ⟨ZG,SD,l1,l2,hv⟩:=this;have hS1:=hS.new (x:= .XA true) (o:= .deferred (some [])) (s:=0) (by simp [Bq]);obtain ⟨σ1,E7⟩:∃s,s=σ.new (.XA true):=⟨_,rfl⟩;obtain ⟨R1,Uo⟩:∃s,s=R.set σ.next (w.heap.size,0):=⟨_,rfl⟩;have hx1:Ext R σ R1 σ1:=by rw [Uo,E7];exact Ext.new hS _ _
      have hd1:R1 σ.next=some (w.heap.size,0):=by rw [Uo];exact Mp.pd _ _ _
      rw [<-Uo,<-E7]at hS1;rw [<-E7]at h yk;refine wpIn_rangeFunc fun fn hfn=> ?_
      have hlo:Bq R1 (.loop .ready none 0 t ps as bd σ.next) (some (.loop {state:= .ready,pending:=none,fn:=fn,tmps:=a.tmps,params:=ps,assign:=as,body:=bd,defers:=w.heap.size})) 0:=⟨fn,a.tmps,w.heap.size,0,rfl,ht.mono hx1.le,hd1⟩;have o7:=hS1.new hlo;obtain ⟨W2,hW2⟩:∃W,W=(w.alloc (.deferred (some []))).alloc (.loop {state:= .ready,pending:=none,fn:=fn,tmps:=a.tmps,params:=ps,assign:=as,body:=bd,defers:=w.heap.size}):=⟨_,rfl⟩
      rw [<-hW2]at o7;obtain ⟨σ2,F7⟩:∃s,s=σ1.new (.loop .ready none 0 t ps as bd σ.next):=⟨_,rfl⟩;obtain ⟨R2,fH⟩:∃s,s=R1.set σ1.next ((w.alloc (.deferred (some []))).heap.size,0):=⟨_,rfl⟩;have Y6:Ext R1 σ1 R2 σ2:=by rw [fH,F7];exact Ext.new hS1 _ _
      have zG:R2 σ1.next=some (w.heap.size+1,0):=by rw [fH,Mp.pd];simp
      rw [<-fH,<-F7]at o7;rw [<-F7]at yk;have hle:R.le R2:=Mp.le_trans hx1.le Y6.le;have Bz:LR R2 (fs.toList++(.func (.yield σ1.next) #[] #[]::cs.toList)) (⟨ZG++(.func (.yield (w.heap.size+1)) #[] #[]::SD)⟩:Array Value).toList:=LR.append (l1.mono hle) (LR.cons (.yl _ _ 0 zG) (l2.mono hle))
      obtain ⟨c1,c2⟩:=hG.call f _ σ2 v σ3 yk B w0 R2 _ _ o7 Bz;refine ⟨w.heap.size+1,_,W2,{target:= .fn (.func f) ⟨SD⟩,args:=⟨ZG⟩++#[.func (.yield (w.heap.size+1)) #[] #[]]},W2,f,⟨ZG++(.func (.yield (w.heap.size+1)) #[] #[]::SD)⟩,W2,by rw [uP,hW2];exact run_enterLoop_outer fn a.tmps ps as bd, ?_,fun f' _=>hF.fn f', ?_,hF.deep n, ?_⟩
      . simp only [resolve,rangeCall];rw [hv];simp [Deferred.ofValue,Act.eval]
      . simp only [invoke];have e:(⟨ZG⟩++#[Value.func (.yield (w.heap.size+1)) #[] #[]]++⟨SD⟩:Array Value)=⟨ZG++(.func (.yield (w.heap.size+1)) #[] #[]::SD)⟩:=by apply Array.ext';simp
        rw [e];exact c1
      . refine (c2 F hF (n -1)).mono ?_
        rintro e w3 ⟨R3,v',rfl,e1,e2,e3⟩;have uad:R.le R3:=Mp.le_trans hle e1.le;obtain ⟨jump,w4,j1,j2⟩:=eE hE hG h B w0 R3 w3 a (w.heap.size+1) 0 w.heap.size 0 e3 (ht.mono uad) (hm.mono uad) (e1.le _ _ zG) (e1.le _ _ (Y6.le _ _ hd1)) hF uP n;refine ⟨jump,w4,j1, ?_⟩;have hxx:Ext R σ R3 σ3:=hx1.trans (Y6.trans e1);cases jump with
        |none=>exact oe.ext hxx j2
        |some c=>exact wpIn_mono j2 fun e a w k=>k.ext hxx
    . cases h
  . cases h
 |_=>cases h
end
end Sk
end Go.Proofs.YtfnkmolffhfpoaaGreat
namespace Go.Proofs.YtfnkmolffhfpoaaGreat
namespace Sk
open Go.RowKit
variable[Interp]
theorem vP{E:Env}(hE:Rb E)(hO:Yl E):∀n,RD E (run E n)/\eH E (run E n) n
 |0=>⟨⟨fun f args σ v σ' h=>(by cases h),fun l args σ v σ' h=>(by cases h),fun q c t ms σ x t' Bo σ' h=>(by cases h)⟩,fun q c t ms σ x t' Bo σ' h=>(by cases h)⟩
 |n+1=>by
  obtain ⟨hG,hL⟩:=vP hE hO n;have hL':eH E (run E (n+1)) (n+1):=fun q c t ms σ x t' Bo σ' h B w0 R w a hS ht hm F hF Dt k=>by
   simp only [run,step]at h;rw [roundsIn_succ]
   split at h
   . rename_i t1 xG σ1 yk;refine wpIn_mono (hG.code q c t ms σ .normal t1 xG σ1 yk B w0 R w a hS ht hm F hF Dt k) ?_
     rintro e a1 w1 ⟨R1,rfl,e1,e2,e3,e4⟩;exact To (fun e a w k=>oe.ext e1 k) n a1 w1 (hL q c t1 xG σ1 x t' Bo σ' h B w0 R1 w1 a1 e4 e2 e3 F hF Dt k)
   . rename_i bc;have hx:x≠ .normal:=fun e=>by subst e;exact bc _ _ _ h
     refine wpIn_mono (hG.code q c t ms σ x t' Bo σ' h B w0 R w a hS ht hm F hF Dt k) ?_
     intro e a1 w1 k;have:e≠ .normal:=by obtain ⟨R1,rfl,_⟩:=k;exact hx
     cases e with
     |normal=>exact absurd rfl this
     |_=>exact k
  refine ⟨⟨fun f args σ v σ' h B w0 R w args' hS hl=>cV hE hO hG h B w0 R w args' hS hl,fun l args σ v σ' h B w0 R w args' l' s hS hl hR=>rP hE hG h B w0 R w args' l' s hS hl hR,fun q c t ms σ x t' Bo σ' h B w0 R w a hS ht hm F hF Dt k=> ?_⟩,hL'⟩;by_cases hc:∃b,c= .loop b
  . obtain ⟨b,rfl⟩:=hc;exact wpIn_loop_rounds (n+1) (hL' q b t ms σ x t' Bo σ' h B w0 R w a hS ht hm F hF Dt k)
  . exact dV hE hG hL h B w0 R w a hS ht hm F hF Dt k fun b e=>hc ⟨b,e⟩
theorem lM(w:World):Vc (fun k=>w.heap.size<=k) w (fun _=>none) ⟨0, .nil⟩ w:=
 ⟨fun b x h=>(by cases h),fun b r s h=>(by cases h),fun b r s o h=>(by cases h),fun b1 b2 r s1 s2 h=>(by cases h),Lh.refl _ _,fun k hk=>hk,fun _ _=>False,fun b r s e h=>(by cases h)⟩
theorem Lh.below{w w':World}(h:Lh (fun k=>w.heap.size<=k) w w'):Below w.heap.size w w':=
 ⟨h.os,h.tape,h.output,h.size,fun k hk=>h.block k hk (by omega)⟩
theorem nk{E:Env}(hE:Rb E)(hO:Yl E){n:Nat}{f:FuncId}{args:List Value}{σ:AH}{v:Value}{σ':AH}(h:run E n (.call f args σ)=some (.val v σ')){B:Nat->Prop}{w0:World}{R:Mp}{w:World}{args':Array Value}(hS:Vc B w0 R σ w)(hl:LR R args args'.toList):
  Calls E.P f args' w fun e w'=>∃R' v',e= .returned v'/\Ext R σ R' σ'/\VR R' v v'/\Vc B w0 R' σ' w':=by
 obtain ⟨k1,k2⟩:=((vP hE hO n).1).call f args _ v σ' h B w0 R w args' hS hl
 exact callsIn_wide.1 (k2 Fence.wide cM 0)
theorem fE{E:Env}(hE:Rb E)(hO:Yl E){n:Nat}{f:FuncId}{v:Value}{σ':AH}(h:run E n (.call f [] ⟨0, .nil⟩)=some (.val v σ'))(hv:Sk.flat v=true)(w:World):
  Calls E.P f #[] w fun e w'=>e= .returned v/\Below w.heap.size w w':=by
 refine (nk hE hO h (lM w) (LR.nil _) (args':=#[])).mono ?_
 rintro e w' ⟨R',v',rfl,e1,e2,e3⟩;rw [Cp e2 hv];exact ⟨rfl,e3.below.below⟩
#printaxioms fE
end Sk
end Go.Proofs.YtfnkmolffhfpoaaGreat
namespace Go.Proofs.YtfnkmolffhfpoaaGreat
namespace Sk
open Go.RowKit
variable[Interp]
theorem Zr{α:Type}{n:Nat}{F G:Nat->α}(h:(List.range n).map F=(List.range n).map G)(i:Nat)(hi:i<n):F i=G i:=List.map_inj_left.1 h i (List.mem_range.2 hi)
def mM{α:Type}(n:Nat)(f:Nat->Option α)(i:Nat):Option α:=match Nat.ble n i with|true=>none|false=>f i
theorem Ez{α:Type}{n:Nat}{f:Nat->Option α}{i:Nat}{x:α}(h:mM n f i=some x):i<n/\f i=some x:=by
 unfold mM at h
 split at h
 . cases h
 . rename_i hb;rw [yd]at hb;have:=of_decide_eq_false hb;exact ⟨by omega,h⟩
def wP(P:Program)(T:Nat->Option Func)(i:Nat):Option Func:=match T i with|some _=>P.funcs[i]?|none=>none
def xP(P:Program)(T:Nat->Option Ti)(i:Nat):Option Ti:=match T i with|some _=>H6 P i|none=>none
def LB(T:Nat->Option Func)(i:Nat):Bool:=match T i with|some fn=>fn.name== "runtime.NumGoroutine" |none=>false
theorem yP{P:Program}{n m:Nat}{fT:Nat->Option Func}{tT:Nat->Option Ti}{py:TypeId->String->Option FuncId}{E6:FuncId->Option (List (Value×Value)->List Value->AH->Option (Value×AH))}
  (h1:(List.range n).map fT=(List.range n).map (wP P fT))(h2:(List.range n).map (LB fT)=(List.range n).map fun _=>false)(h3:(List.range m).map tT=(List.range m).map (xP P tT))
  (h4:∀t n f,py t n=some f->∀v w,(method (P.types.size+Made.depth) t v n).run P w= .ok (f,v) w)(h5:P.follows .mixedOrders=true){fu:List (Value×Value)->Value->Value}(h6:∀F,(∀p,p∈F->den p.1=den p.2)->∀v c,Gf v=some c->(∃c',Gf (fu F v)=some c')/\den (fu F v)=den v){CU:Value->Nat->TypeId->Option Value}(h7:∀e o ty v,CU e o ty=some v->∀g r O w,den e= .g g->Interp.gh g r O w->∃v',(∃c,Gf v=some c)/\den v= .v v'/\(loadVar ty ⟨r,o,none⟩).run P w= .ok v' w):Rb ⟨P,mM n fT,mM m tT,py,E6,CU,[],fu⟩:=by
 refine ⟨fun f fn h=> ?_,fun t i h=> ?_,h4,h5,fun p h=>(by cases h),h6,h7⟩
 . obtain ⟨k1,k2⟩:=Ez h;have e1:=Zr h1 f k1;have e2:=Zr h2 f k1;unfold wP at e1;unfold LB at e2;rw [k2]at e1 e2;exact ⟨e1.symm,e2⟩
 . obtain ⟨k1,k2⟩:=Ez h;have e1:=Zr h3 t k1;unfold xP at e1;rw [k2]at e1;exact e1.symm
def Env.Jl(E:Env)(F:List (Value×Value)):Env:=⟨E.P,E.fn,E.ty,E.py,E.E6,E.CU,F,E.fu⟩
theorem Rb.Jl{E:Env}(h:Rb E){F:List (Value×Value)}(hF:∀p,p∈F->den p.1=den p.2):Rb (E.Jl F):=⟨h.fn,h.ty,h.py,h.mixed,hF,h.fu,h.CU⟩
def Jp:Option Ki->Bool
 |some (.val (.bool b) _)=>b
 |_=>false
theorem Gy{E:Env}(hE:Rb E)(hO:Yl E){n:Nat}{f:FuncId}(h:Jp (run E n (.call f [] ⟨0, .nil⟩))=true)(w:World):
  Calls E.P f #[] w fun e w'=>e= .returned (.bool true)/\Below w.heap.size w w':=by
 cases hr:run E n (.call f [] ⟨0, .nil⟩)with
 |none=>rw [hr]at h;cases h
 |some r=>
  rw [hr]at h;cases r with
  |val v σ'=>
   cases v with
   |bool b=>cases b with
    |true=>exact fE hE hO hr rfl w
    |false=>cases h
   |_=>cases h
  |«at»=>cases h
end Sk
end Go.Proofs.YtfnkmolffhfpoaaGreat
namespace Go.Proofs.YtfnkmolffhfpoaaGreat
namespace Sk
open Go.RowKit
noncomputable section
structure ti where
 G:Type
 U:Nat->List (Qc G)->Int
 V:Nat->List (Qc G)->G
 W:Nat->G->G
 W_W:∀k g,W k (W k g)=W k g
 gh:G->Nat->(Nat->Prop)->World->Prop
 gh_lt:∀g r O w,gh g r O w->∀k,O k->k<w.heap.size
 gh_own:∀g r O w,gh g r O w->O r
 gh_keep:∀g r O w w',gh g r O w->w.heap.size<=w'.heap.size->(∀k,O k->w'.heap[k]?=w.heap[k]?)->gh g r O w'
@[reducible] def ti.at(T:ti)(ρ:Nat->Int)(γ:Nat->T.G):Interp:=⟨T.G,ρ,γ,T.U,T.V,T.W,T.W_W,T.gh,T.gh_lt,T.gh_own,T.gh_keep⟩
def vr(k i:Nat):Value:=sy k [.int .i64 (.ofNat i)]
def qc(k:Nat)(u:Value):Bool:=
 match u with
 | .int q n=>match Nat.beq (jc q) k with|true=>Pg (Mo q n) n|false=>false
 | .bool _=>Nat.beq k 8
 | .func (.methodOf t _) _ _=>Nat.beq (Nat.mod t 16) k
 |_=>false
def Eo(k:Nat)(u:Value):Bool:=
 match u with
 | .func (.methodOf t _) _ _=>Ra (Qh (Nat.ble (Nat.mod t 16) 8)) (Nat.beq (Nat.mod t 16) k)
 |_=>false
mutual
def gH(E:Env)(θ:List Value)(η:List Value):Nat->Value->Option Value
 |0,_=>none
 |d+1,v=>match v with
  | .func f a c=>match f with
    | .methodOf t _=>match a with
      |⟨l⟩=>match Nat.div t 16 with
       |0=>match l with
        |[.int _ (.ofNat i)]=>match Nat.ble (Nat.mod t 16) 8 with
         |true=>match Rf θ i with
          |some u=>match qc (Nat.mod t 16) u with|true=>some u|false=>none
          |none=>none
         |false=>match Rf η i with
          |some u=>match Eo (Nat.mod t 16) u with|true=>some u|false=>none
          |none=>none
        |_=>none
       |_+1=>match nM E θ η d l with
        |some l'=>match Nat.ble (Nat.mod t 16) 8 with
         |true=>some (E.norm (sy t l'))
         |false=>some (sy t l')
        |none=>none
    |_=>none
  | .int k n=>some (.int k n)
  | .bool b=>some (.bool b)
  |_=>none
def nM(E:Env)(θ:List Value)(η:List Value):Nat->List Value->Option (List Value)
 |0,_=>none
 |_+1,[]=>some []
 |d+1,x::xs=>match gH E θ η d x with
  |some y=>match nM E θ η d xs with
   |some ys=>some (y::ys)
   |none=>none
  |none=>none
end
def isSome{α:Type}:Option α->Bool
 |some _=>true
 |none=>false
mutual
def G7(E:Env)(θ η:List Value)(f:List Nat):Nat->Value->Value->Bool
 |0,_,_=>false
 |d+1,p,v=>match p with
  | .pointer (some ⟨b,o,none⟩)=>match v with
    | .pointer (some ⟨b',o',none⟩)=>match Rf f b with
      |some c=>Ra (Nat.beq c b') (Nat.beq o o')
      |none=>false
    |_=>false
  | .slice (some ⟨b,o,none⟩) n z=>match v with
    | .slice (some ⟨b',o',none⟩) n' z'=>match z with
      |0=>false
      |_+1=>match Rf f b with
       |some c=>Ra (Nat.beq c b') (Ra (Nat.beq o o') (Ra (Nat.beq n n') (Nat.beq z z')))
       |none=>false
    |_=>false
  | .iface t u=>match v with
    | .iface t' u'=>match Nat.beq t t' with|true=>G7 E θ η f d u u'|false=>false
    |_=>false
  | .func g ⟨a⟩ ⟨c⟩=>match g with
    | .methodOf _ _=>match gH E θ η 60 p with
      |some u=>Ra (isSome (Gf v)) (Ra (isSome (Gf p)) (Lf 60 u v))
      |none=>false
    | .func g=>match v with
      | .func (.func g') ⟨a'⟩ ⟨c'⟩=>match Nat.beq g g' with
        |true=>match zP E θ η f d a a' with|true=>zP E θ η f d c c'|false=>false
        |false=>false
      |_=>false
    |_=>false
  |p=>match yc p with|true=>Zu p v|false=>false
def zP(E:Env)(θ η:List Value)(f:List Nat):Nat->List Value->List Value->Bool
 |0,_,_=>false
 |_+1,[],[]=>true
 |d+1,x::xs,y::ys=>match G7 E θ η f d x y with|true=>zP E θ η f d xs ys|false=>false
 |_+1,_,_=>false
end
inductive dh where
 |cells(l:List (Option Value))(e:TypeId)(full:Bool)
 |gh(e:Value)
def rowP(n:Nat):Nat->List (Option Value)->Tr Value->Tr Value
 |_,[],t=>t
 |i,none::l,t=>rowP n (Nat.succ i) l t
 |i,some v::l,t=>rowP n (Nat.succ i) l (Tr.put (Nat.succ n) t i (some v))
def dh.obj:dh->qa
 | .cells l e full=> .cells ⟨Ue l,none,rowP (Ue l) 0 l .nil⟩ e full
 | .gh e=> .gh e
def ahP(n:Nat):Nat->List dh->Tr qa->Tr qa
 |_,[],t=>t
 |i,o::l,t=>ahP n (Nat.succ i) l (Tr.put (Nat.succ n) t i (some o.obj))
def Cu(l:List dh):AH:=⟨Ue l,ahP (Ue l) 0 l .nil⟩
def mtC(E:Env)(θ η:List Value)(f:List Nat)(c':Row):Nat->List (Option Value)->Bool
 |_,[]=>true
 |i,none::l=>mtC E θ η f c' (Nat.succ i) l
 |i,some v::l=>match c'.get i with
  |some u=>match G7 E θ η f 20 v u with|true=>mtC E θ η f c' (Nat.succ i) l|false=>false
  |none=>false
def eV(E:Env)(θ η:List Value)(f:List Nat)(p:dh)(x:Option qa):Bool:=
 match p,x with
 | .cells l e full,some (.cells c' e' vX)=>match Ra (Nat.beq e e') (Ra (Nat.beq (Ue l) c'.n) (Yu full vX))with
   |true=>mtC E θ η f c' 0 l
   |false=>false
 | .gh e,some (.gh e')=>match gH E θ η 60 e with
   |some u=>Lf 60 u e'
   |none=>false
 |_,_=>false
def H7(E:Env)(θ η:List Value)(f:List Nat)(σ:AH):List Nat->List dh->Bool
 |[],[]=>true
 |b::bs,o::os=>match eV E θ η f o (σ.get b)with|true=>H7 E θ η f σ bs os|false=>false
 |_,_=>false
def fV(n:Nat):List Nat->Bool
 |[]=>false
 |m::ms=>match Nat.beq n m with|true=>true|false=>fV n ms
def gE:List Nat->Bool
 |[]=>true
 |n::ns=>match fV n ns with|true=>false|false=>gE ns
def mtF(E:Env)(θ η:List Value):List (Value×Value)->Bool
 |[]=>true
 |p::ps=>match gH E θ η 60 p.1,Gf p.1,p.2 with
  |some u,some _, .bool b=>match Lf 60 u (.bool b)with|true=>mtF E θ η ps|false=>false
  |some u,some _, .int k n=>match Lf 60 u (.int k n)with|true=>mtF E θ η ps|false=>false
  |_,_,_=>false
end
end Sk
end Go.Proofs.YtfnkmolffhfpoaaGreat
