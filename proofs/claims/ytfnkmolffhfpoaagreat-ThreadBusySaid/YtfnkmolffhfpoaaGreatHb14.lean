/- -/
import Derived.Test.YtfnkmolffhfpoaaGreatHb13
import Derived.Conc.MuLone
set_option linter.unusedVariables false
set_option linter.unusedSimpArgs false
set_option linter.unusedSectionVars false
namespace Go.Proofs.YtfnkmolffhfpoaaGreat
namespace Sk
open Go.RowKit
variable[Interp]
theorem Xd.ext{B:Nat->Prop}{w0:World}{R R1:Mp}{σ σ1:AH}{x:Exit}{t:Tm}{ms:List Nat}{σ':AH}{e:Exit}{a:Act}{w:World}(h:Ext R σ R1 σ1)(k:Xd B w0 R1 σ1 x t ms σ' e a w):Xd B w0 R σ x t ms σ' e a w:=by
 obtain ⟨R',k1,k2,k3⟩:=k;exact ⟨R',k1,h.trans k2,k3⟩
theorem Yl{F:Fence}{n:Nat}{P:Program}{c:Code}{Q Q':Exit->Act->World->Prop}(h:∀e a w,Q e a w->Q' e a w):∀(m:Nat) (a:Act) (w:World),Code.roundsIn F n P c Q m a w->Code.roundsIn F n P c Q' m a w
 |0,_,_,k=>k.elim
 |m+1,a,w,k=>wpIn_mono k fun e a w q=>by
  cases e with
  |normal=>exact Yl h m a w q
  |_=>exact h _ _ _ q
def Dk(E:Env):Prop:=∀f g,E.NW f=some g->∀args σ v σ',g E.facts args σ=some (v,σ')->∀(B:Nat->Prop) (w0:World) (R:Mp) (w:World) (args':Array Value),Ic B w0 R σ w->LR R args args'.toList->
    (callFunc f args').run E.P w= .ok (.enter f args') w/\∀(F:Fence),Good F->∀n,CallsIn F n E.P f args' w (Gg B w0 R σ v σ')
def eE(E:Env)(go:Task->Option Hh)(m:Nat):Prop:=∀q c t ms σ x t' Kl σ',go (.code q (.loop c) t ms σ)=some (.at x t' Kl σ')->∀(B:Nat->Prop) (w0:World) (R:Mp) (w:World) (a:Act),Ic B w0 R σ w->TR R t a.tmps->MR R ms a.defers->
    ∀(F:Fence),Good F->(q=false->F.round=none)->∀n,Code.roundsIn F n E.P c (Xd B w0 R σ x t' Kl σ') m a w
section
variable{E:Env}(hE:Pb E)(hO:Dk E){go:Task->Option Hh}(hG:yB E go)
include hE hG
include hO in
theorem AQ{f:FuncId}{args:List Value}{σ:AH}{v:Value}{σ':AH}(h:step E go (.call f args σ)=some (.val v σ'))(B:Nat->Prop)(w0:World)(R:Mp)(w:World)(args':Array Value)(hS:Ic B w0 R σ w)(hl:LR R args args'.toList):
  (callFunc f args').run E.P w= .ok (.enter f args') w/\∀(F:Fence),Good F->∀n,CallsIn F n E.P f args' w (Gg B w0 R σ v σ'):=by
 simp only [step]at h
 split at h
 . rename_i r wi;cases h
   split at wi
   . rename_i g hg;exact hO f g hg args σ _ _ wi B w0 R w args' hS hl
   . cases wi
 . split at h
   . cases h
   . rename_i fn hfn;obtain ⟨q1,q2⟩:=hE.fn f fn hfn
     split at h
     . cases h
     . rename_i c hb;obtain ⟨t,h1,ht⟩:=KB hl h;refine ⟨MuLone.run_callFunc_enter q1 q2 hb args' w,fun F hF n=> ?_⟩;have h2:=h1;unfold tell at h2
       split at h2
       . rename_i x t1 rD σ1 wi;have body:∀(hx:x= .ret\/x= .normal),xy E fn t1 rD σ1=some (.val v σ')->CallsIn F.plain n E.P f args' w (Gg B w0 R σ v σ'):=fun hx jX=>by
          refine callsIn_of_wp_marks q1 hb (hF.plain.fn f) ?_ rfl
          refine wpIn_mono (hG.code false c t [] σ x t1 rD σ1 wi B w0 R w ⟨_,[]⟩ hS ht trivial F.plain hF.plain (fun _=>rfl) n) ?_
          rintro e a w' ⟨R',rfl,e1,e2,e3,e4⟩;unfold xy at jX
          split at jX
          . cases jX
          . rename_i σ2 Wn
            split at jX
            . cases jX
            . rename_i l fan;rw [Ei]at jX;cases jX;have:LeavesInM F.plain n E.P fn a.tmps (Gg B w0 R σ (cQ l) σ') a.defers .returning w':=by
               refine jq rD a.defers σ1 σ' w' e3 Wn e4 fun w2 k1 k2=> ?_
               obtain ⟨v',y1,y2⟩:=Ev hE k1 e2 fan;exact ⟨v',y2,R',v',rfl,e1.trans k2,y1,k1⟩
              rcases hx with rfl|rfl
              . exact this
              . exact this
         have hc:CallsIn F.plain n E.P f args' w (Gg B w0 R σ v σ'):=by
          cases x with
          |ret=>exact body (.inl rfl) h2
          |normal=>exact body (.inr rfl) h2
          |_=>cases h2
         exact hc
       . cases h2
theorem vL{l:Nat}{args:List Value}{σ:AH}{v:Value}{σ':AH}(h:step E go (.round l args σ)=some (.val v σ'))(B:Nat->Prop)(w0:World)(R:Mp)(w:World)(args':Array Value)(l' s:Nat)(hS:Ic B w0 R σ w)(hl:LR R args args'.toList)(hR:R l=some (l',s)):
  ∃f tmps assign body,(Instr.yield l' args').run E.P w= .ok (.round l' f tmps assign body) w/\∀(F:Fence),Good F->∀n,RoundIn F n E.P l' f tmps assign body w (Gg B w0 R σ v σ'):=by
 simp only [step]at h
 split at h
 . rename_i pe fn tmps ps as bd d hg
   split at h
   . cases h
   . rename_i hlen;rw [Ja,Pc,Pc]at hlen;have hlen:=of_decide_eq_true hlen
     split at h
     . cases h
     . rename_i t0 nK;obtain ⟨hB,WW,LB,d',sd,o1,o2,o3⟩:=hS.obj l l' s _ hR hg;have Xg:args'.size=ps.size:=by
        have:=hl.1
        simp at this hlen;omega
       refine ⟨_,_,_,_,run_yield o1 Xg,fun F hF n=> ?_⟩;have ht:TR R t0 ((ps.zip args').foldl (fun tmps (q:Tmp×Value)=>tmps.setIfInBounds q.1 q.2) LB):=by
        have:=Fs ps.toList args args'.toList tmps t0 LB hl o2 nK;rw [<-Array.toList_zip,Array.foldl_toList]at this;exact this
       split at h
       . rename_i t1 σ1 wi;refine roundIn_of_wpIn (hF.fn _) (wpIn_mono (hG.code true as t0 [] σ .normal t1 [] σ1 wi B w0 R w ⟨_,[]⟩ hS ht trivial (F.inRound l') (hF.inRound l') (fun e=>by cases e) n) ?_);rintro e a1 w1 ⟨R1,rfl,e1,e2,e3,e4⟩;unfold Ew at h
         split at h
         . rename_i pe1 fn1 wT wL as1 zq d1 A4;rw [Wb]at h
           split at h
           . rename_i x t2 σ3 ian;have Zl:=e1.le _ _ hR;obtain ⟨_,C4,xL,D4,sd1,p1,p2,p3⟩:=e4.obj l l' s _ Zl A4;have hX:Ic B w0 R1 (σ1.put l (some (.loop .busy pe1 fn1 wT wL as1 zq d1))) (w1.putObj l' (.loop {state:= .busy,pending:=pe1,fn:=C4,tmps:=xL,params:=wL,assign:=as1,body:=zq,defers:=D4})):=e4.putObj Zl (by rw [A4];simp) ⟨C4,xL,D4,sd1,rfl,p2,p3⟩;have dX:Ext R1 σ1 R1 (σ1.put l (some (.loop .busy pe1 fn1 wT wL as1 zq d1))):=Ext.put R1 σ1 Zl _;have Zd:MR R1 [] a1.defers:=e3;refine ⟨_,run_beginRound p1 rfl,wpIn_mono (hG.code true bd t1 [] _ x t2 [] σ3 ian B w0 R1 _ a1 hX e2 Zd (F.inRound l') (hF.inRound l') (fun e=>by cases e) n) ?_⟩;rintro e a2 w2 ⟨R2,rfl,f1,f2,f3,f4⟩;unfold ZA at h
             split at h
             . rename_i st3 pe3 fn3 xT ps3 as3 bd3 d3 hg3;have fE:=f1.le _ _ Zl;obtain ⟨_,E4,yL,d3',sd3,q1,q2,q3⟩:=f4.obj l l' s _ fE hg3;have fin:∀(st:LoopState) (pe:Option Code),Ic B w0 R2 (σ3.put l (some (.loop st pe fn3 xT ps3 as3 bd3 d3))) (w2.putObj l' (.loop {state:=st,pending:=pe,fn:=E4,tmps:=yL,params:=ps3,assign:=as3,body:=bd3,defers:=d3'}))/\Ext R σ R2 (σ3.put l (some (.loop st pe fn3 xT ps3 as3 bd3 d3))):=fun st pe=>
                ⟨f4.putObj fE (by rw [hg3];simp) ⟨E4,yL,d3',sd3,rfl,q2,q3⟩,e1.trans (dX.trans (f1.trans (Ext.put R2 σ3 fE _)))⟩
               split at h
               . rw [Wb]at h;cases h;exact ⟨_,_,run_endRound none q1,R2,_,rfl,(fin .ready none).2,we R2 rfl,(fin .ready none).1⟩
               . rw [Wb]at h;cases h;exact ⟨_,_,run_endRound (some .ret) q1,R2,_,rfl,(fin .done (some .ret)).2,we R2 rfl,(fin .done (some .ret)).1⟩
               . rename_i i;rw [Wb]at h;cases h;exact ⟨_,_,run_endRound (some (.exit i)) q1,R2,_,rfl,(fin .done (some (.exit i))).2,we R2 rfl,(fin .done (some (.exit i))).1⟩
               . cases h
             . cases h
           . cases h
         . cases h
       . cases h
 . cases h
theorem MB{l d:Nat}{t:Tm}{ms:List Nat}{σ3:AH}{x:Exit}{t':Tm}{Kl:List Nat}{σ':AH}(h:Er go l d t ms σ3=some (.at x t' Kl σ'))(B:Nat->Prop)(w0:World)(R:Mp)(w3:World)(a:Act)(l' s d' sd:Nat)(hS:Ic B w0 R σ3 w3)(ht:TR R t a.tmps)(hm:MR R ms a.defers)(hR:R l=some (l',s))(hd:R d=some (d',sd)){F:Fence}(hF:Good F)(iq:F.round=none)(n:Nat):
  ∃jump w4,(Instr.endLoop l').run E.P w3= .ok jump w4/\
   (match jump with
    |none=>Xd B w0 R σ3 x t' Kl σ' .normal {a with defers:=[{target:= .collected d',args:=#[]}]++a.defers} w4
    |some c=>c.wpIn F n E.P (Xd B w0 R σ3 x t' Kl σ') {a with defers:=[{target:= .collected d',args:=#[]}]++a.defers} w4):=by
 unfold Er at h
 split at h
 . rename_i st pe fn tmps ps as bd dd hg;obtain ⟨_,WW,LB,D4,sd1,q1,q2,q3⟩:=hS.obj l l' s _ hR hg;have hS4:Ic B w0 R (σ3.put l (some (.loop .exhausted pe fn tmps ps as bd dd))) (w3.putObj l' (.loop {state:= .exhausted,pending:=pe,fn:=WW,tmps:=LB,params:=ps,assign:=as,body:=bd,defers:=D4})):=hS.putObj hR (by rw [hg];simp) ⟨WW,LB,D4,sd1,rfl,q2,q3⟩;have F4:MR R (d::ms) ([{target:= .collected d',args:=#[]}]++a.defers):=⟨⟨d',sd,hd,rfl⟩,hm⟩;have hx4:Ext R σ3 R (σ3.put l (some (.loop .exhausted pe fn tmps ps as bd dd))):=Ext.put R σ3 hR _;clear hg
   split at h
   . cases h
   . rename_i CD;rw [Wb]at h;refine ⟨_,_,run_endLoop q1 (fun e=>CD e), ?_⟩;cases pe with
     |none=>
      cases h;exact ⟨R,rfl,hx4,ht,F4,hS4⟩
     |some c=>
      exact wpIn_mono (hG.code false c t (d::ms) _ x t' Kl σ' h B w0 R _ {a with defers:=[{target:= .collected d',args:=#[]}]++a.defers} hS4 ht F4 F hF (fun _=>iq) n) fun e a w k=>Xd.ext hx4 k
 . cases h
theorem BQ{m:Nat}(hL:eE E go m){q:Bool}{c:Code}{t:Tm}{ms:List Nat}{σ:AH}{x:Exit}{t':Tm}{Kl:List Nat}{σ':AH}(h:step E go (.code q c t ms σ)=some (.at x t' Kl σ'))(B:Nat->Prop)(w0:World)(R:Mp)(w:World)(a:Act)(hS:Ic B w0 R σ w)(ht:TR R t a.tmps)(hm:MR R ms a.defers)
  (F:Fence)(hF:Good F)(iq:q=false->F.round=none)(n:Nat):(∀b,c≠ .loop b)->c.wpIn F n E.P (Xd B w0 R σ x t' Kl σ') a w:=by
 intro kX;have here:∀e:Exit,some (Hh.at e t ms σ)=some (Hh.at x t' Kl σ')->Xd B w0 R σ x t' Kl σ' e a w:=fun e h=>by
  cases h;exact ⟨R,rfl,Ext.refl R σ,ht,hm,hS⟩
 cases c with
 |skip=>exact wpIn_skip (here _ h)
 |label l=>exact wpIn_label (here _ h)
 |ret=>exact wpIn_ret (here _ h)
 |exit i=>exact wpIn_exit (here _ h)
 |region id ops dr=>
  cases dr with
  |false=>
   simp only [step]at h
   split at h
   . rename_i t1 σ1 Uj;cases h;exact Ty hE hG hF id ops Uj ht hm hS
   . cases h
  |true=>
   simp only [step]at h
   split at h
   . rename_i t1 σ1 Uj;cases h;exact JB hE hG hF id ops Uj ht hm hS
   . cases h
 |seq b d=>
  simp only [step]at h
  split at h
  . rename_i t1 rD σ1 wi;refine wpIn_seq (wpIn_mono (hG.code q b t ms σ .normal t1 rD σ1 wi B w0 R w a hS ht hm F hF iq n) ?_);rintro e a1 w1 ⟨R1,rfl,e1,e2,e3,e4⟩;exact wpIn_mono (hG.code q d t1 rD σ1 x t' Kl σ' h B w0 R1 w1 a1 e4 e2 e3 F hF iq n) fun e a w k=>k.ext e1
  . rename_i Jc;have hx:x≠ .normal:=fun e=>by subst e;exact Jc _ _ _ h
    refine wpIn_seq (wpIn_mono (hG.code q b t ms σ x t' Kl σ' h B w0 R w a hS ht hm F hF iq n) ?_);intro e a1 w1 k;have:e≠ .normal:=by obtain ⟨R1,rfl,_⟩:=k;exact hx
    cases e with
    |normal=>exact absurd rfl this
    |_=>exact k
 |cond y b d=>
  simp only [step]at h
  split at h
  . rename_i v hv;have hv:=ll (Aa ht hv)
    split at h
    . exact wpIn_cond_true hv (hG.code q b t ms σ x t' Kl σ' h B w0 R w a hS ht hm F hF iq n)
    . exact wpIn_cond_false hv (hG.code q d t ms σ x t' Kl σ' h B w0 R w a hS ht hm F hF iq n)
  . cases h
 |block i b=>
  simp only [step]at h
  split at h
  . rename_i j t1 rD σ1 wi;refine wpIn_block (wpIn_mono (hG.code q b t ms σ (.exit j) t1 rD σ1 wi B w0 R w a hS ht hm F hF iq n) ?_);rintro e a1 w1 ⟨R1,rfl,e1,e2,e3,e4⟩;simp only [Exit.inBlock]
    split at h
    . rename_i xk;rw [Ja]at xk;have xk:=of_decide_eq_true xk;cases h;rw [if_pos xk.symm];exact ⟨R1,rfl,e1,e2,e3,e4⟩
    . rename_i xk;rw [Ja]at xk;have xk:=of_decide_eq_false xk;cases h;rw [if_neg (Ne.symm xk)];exact ⟨R1,rfl,e1,e2,e3,e4⟩
  . rename_i Jc;have hx:∀j,x≠ .exit j:=fun j e=>by subst e;exact Jc _ _ _ _ h
    refine wpIn_block (wpIn_mono (hG.code q b t ms σ x t' Kl σ' h B w0 R w a hS ht hm F hF iq n) ?_);intro e a1 w1 k;have:∀j,e≠ .exit j:=by obtain ⟨R1,rfl,_⟩:=k;exact hx
    cases e with
    |exit j=>exact absurd rfl (this j)
    |_=>exact k
 |loop b=>exact absurd rfl (kX b)
 |goto l=>
  simp only [step]at h;cases h;exact wpIn_goto ⟨R,rfl,Ext.refl R σ,ht,hm,hS⟩
 |scope b=>
  simp only [step]at h
  split at h
  . rename_i l t1 rD σ1 wi
    split at h
    . rename_i rest hf
      split at h
      . cases h
      . rename_i Jc;have hx:∀j,x≠ .goto j:=fun j e=>by subst e;exact Jc _ _ _ _ h
        refine Gs (wpIn_mono (hG.code q b t ms σ (.goto l) t1 rD σ1 wi B w0 R w a hS ht hm F hF iq n) ?_);rintro e a1 w1 ⟨R1,rfl,e1,e2,e3,e4⟩;refine ⟨rest,hf,wpIn_mono (hG.code q rest t1 rD σ1 x t' Kl σ' h B w0 R1 w1 a1 e4 e2 e3 F hF iq n) ?_⟩;intro e a2 w2 k;have:∀j,e≠ .goto j:=by obtain ⟨R2,rfl,_⟩:=k;exact hx
        cases e with
        |goto j=>exact absurd rfl (this j)
        |_=>exact k.ext e1
    . cases h
  . rename_i Jc;have hx:∀j,x≠ .goto j:=fun j e=>by subst e;exact Jc _ _ _ _ h
    refine Gs (wpIn_mono (hG.code q b t ms σ x t' Kl σ' h B w0 R w a hS ht hm F hF iq n) ?_);intro e a1 w1 k;have:∀j,e≠ .goto j:=by obtain ⟨R1,rfl,_⟩:=k;exact hx
    cases e with
    |goto j=>exact absurd rfl (this j)
    |_=>exact k
 |rangeFunc g ps as bd=>
  simp only [step]at h
  split at h
  . rename_i f fs cs hg;have zL:=iq rfl;rw [Uh,Uh]at h
    split at h
    . rename_i v σ3 wi;have uD:=Aa ht hg;have:∃YD ZD,LR R fs.toList YD/\LR R cs.toList ZD/\a.eval g= .func (.func f) ⟨YD⟩ ⟨ZD⟩:=by
       generalize a.eval g=q at uD;cases uD with
       |flat v h=>exact ⟨fs.toList,cs.toList,by
         cases fs with|mk fs=>cases cs with|mk cs=>
         cases fs with
         |nil=>exact LR.nil R
         |cons=>simp [ic]at h,by
         cases fs with|mk fs=>cases cs with|mk cs=>
         cases fs with
         |nil=>cases cs with
          |nil=>exact LR.nil R
          |cons=>simp [ic]at h
         |cons=>simp [ic]at h,rfl⟩
       |fn f a a' c c' ha hc h1 h2=>exact ⟨a',c',⟨ha,h1⟩,⟨hc,h2⟩,rfl⟩
      obtain ⟨YD,ZD,l1,l2,hv⟩:=this;have hS1:=hS.new (x:= .ey true) (o:= .deferred (some [])) (s:=0) (by simp [Xn]);obtain ⟨σ1,lX⟩:∃s,s=σ.new (.ey true):=⟨_,rfl⟩;obtain ⟨R1,Zl⟩:∃s,s=R.set σ.next (w.heap.size,0):=⟨_,rfl⟩;have hx1:Ext R σ R1 σ1:=by rw [Zl,lX];exact Ext.new hS _ _
      have hd1:R1 σ.next=some (w.heap.size,0):=by rw [Zl];exact Mp.Wc _ _ _
      rw [<-Zl,<-lX]at hS1;rw [<-lX]at h wi;refine wpIn_rangeFunc fun fn hfn=> ?_
      have hlo:Xn R1 (.loop .ready none 0 t ps as bd σ.next) (some (.loop {state:= .ready,pending:=none,fn:=fn,tmps:=a.tmps,params:=ps,assign:=as,body:=bd,defers:=w.heap.size})) 0:=⟨fn,a.tmps,w.heap.size,0,rfl,ht.mono hx1.le,hd1⟩;have hX:=hS1.new hlo;obtain ⟨W2,G4⟩:∃W,W=(w.alloc (.deferred (some []))).alloc (.loop {state:= .ready,pending:=none,fn:=fn,tmps:=a.tmps,params:=ps,assign:=as,body:=bd,defers:=w.heap.size}):=⟨_,rfl⟩
      rw [<-G4]at hX;obtain ⟨σ2,mX⟩:∃s,s=σ1.new (.loop .ready none 0 t ps as bd σ.next):=⟨_,rfl⟩;obtain ⟨R2,fE⟩:∃s,s=R1.set σ1.next ((w.alloc (.deferred (some []))).heap.size,0):=⟨_,rfl⟩;have dX:Ext R1 σ1 R2 σ2:=by rw [fE,mX];exact Ext.new hS1 _ _
      have iG:R2 σ1.next=some (w.heap.size+1,0):=by rw [fE,Mp.Wc];simp
      rw [<-fE,<-mX]at hX;rw [<-mX]at wi;have hle:R.le R2:=Mp.le_trans hx1.le dX.le;have Mw:LR R2 (fs.toList++(.func (.yield σ1.next) #[] #[]::cs.toList)) (⟨YD++(.func (.yield (w.heap.size+1)) #[] #[]::ZD)⟩:Array Value).toList:=LR.append (l1.mono hle) (LR.cons (.yl _ _ 0 iG) (l2.mono hle))
      obtain ⟨c1,c2⟩:=hG.call f _ σ2 v σ3 wi B w0 R2 _ _ hX Mw;refine ⟨w.heap.size+1,_,W2,{target:= .fn (.func f) ⟨ZD⟩,args:=⟨YD⟩++#[.func (.yield (w.heap.size+1)) #[] #[]]},W2,f,⟨YD++(.func (.yield (w.heap.size+1)) #[] #[]::ZD)⟩,W2,by rw [zL,G4];exact run_enterLoop_outer fn a.tmps ps as bd, ?_,fun f' _=>hF.fn f', ?_,hF.deep n, ?_⟩
      . simp only [resolve,rangeCall];rw [hv];simp [Deferred.ofValue,Act.eval]
      . simp only [invoke];have e:(⟨YD⟩++#[Value.func (.yield (w.heap.size+1)) #[] #[]]++⟨ZD⟩:Array Value)=⟨YD++(.func (.yield (w.heap.size+1)) #[] #[]::ZD)⟩:=by apply Array.ext';simp
        rw [e];exact c1
      . refine (c2 F hF (n -1)).mono ?_
        rintro e w3 ⟨R3,v',rfl,e1,e2,e3⟩;have I4:R.le R3:=Mp.le_trans hle e1.le;obtain ⟨jump,w4,j1,j2⟩:=MB hE hG h B w0 R3 w3 a (w.heap.size+1) 0 w.heap.size 0 e3 (ht.mono I4) (hm.mono I4) (e1.le _ _ iG) (e1.le _ _ (dX.le _ _ hd1)) hF zL n;refine ⟨jump,w4,j1, ?_⟩;have hxx:Ext R σ R3 σ3:=hx1.trans (dX.trans e1);cases jump with
        |none=>exact Xd.ext hxx j2
        |some c=>exact wpIn_mono j2 fun e a w k=>k.ext hxx
    . cases h
  . cases h
 |_=>cases h
end
end Sk
end Go.Proofs.YtfnkmolffhfpoaaGreat
namespace Go.Proofs.YtfnkmolffhfpoaaGreat
namespace Sk
open Go.RowKit
variable[Interp]
theorem AL{E:Env}(hE:Pb E)(hO:Dk E):∀n,yB E (run E n)/\eE E (run E n) n
 |0=>⟨⟨fun f args σ v σ' h=>(by cases h),fun l args σ v σ' h=>(by cases h),fun q c t ms σ x t' Kl σ' h=>(by cases h)⟩,fun q c t ms σ x t' Kl σ' h=>(by cases h)⟩
 |n+1=>by
  obtain ⟨hG,hL⟩:=AL hE hO n;have hL':eE E (run E (n+1)) (n+1):=fun q c t ms σ x t' Kl σ' h B w0 R w a hS ht hm F hF iq k=>by
   simp only [run,step]at h;rw [roundsIn_succ]
   split at h
   . rename_i t1 rD σ1 wi;refine wpIn_mono (hG.code q c t ms σ .normal t1 rD σ1 wi B w0 R w a hS ht hm F hF iq k) ?_
     rintro e a1 w1 ⟨R1,rfl,e1,e2,e3,e4⟩;exact Yl (fun e a w k=>Xd.ext e1 k) n a1 w1 (hL q c t1 rD σ1 x t' Kl σ' h B w0 R1 w1 a1 e4 e2 e3 F hF iq k)
   . rename_i Jc;have hx:x≠ .normal:=fun e=>by subst e;exact Jc _ _ _ h
     refine wpIn_mono (hG.code q c t ms σ x t' Kl σ' h B w0 R w a hS ht hm F hF iq k) ?_
     intro e a1 w1 k;have:e≠ .normal:=by obtain ⟨R1,rfl,_⟩:=k;exact hx
     cases e with
     |normal=>exact absurd rfl this
     |_=>exact k
  refine ⟨⟨fun f args σ v σ' h B w0 R w args' hS hl=>AQ hE hO hG h B w0 R w args' hS hl,fun l args σ v σ' h B w0 R w args' l' s hS hl hR=>vL hE hG h B w0 R w args' l' s hS hl hR,fun q c t ms σ x t' Kl σ' h B w0 R w a hS ht hm F hF iq k=> ?_⟩,hL'⟩;by_cases hc:∃b,c= .loop b
  . obtain ⟨b,rfl⟩:=hc;exact wpIn_loop_rounds (n+1) (hL' q b t ms σ x t' Kl σ' h B w0 R w a hS ht hm F hF iq k)
  . exact BQ hE hG hL h B w0 R w a hS ht hm F hF iq k fun b e=>hc ⟨b,e⟩
theorem zI(w:World):Ic (fun k=>w.heap.size<=k) w (fun _=>none) ⟨0, .nil⟩ w:=
 ⟨fun b x h=>(by cases h),fun b r s h=>(by cases h),fun b r s o h=>(by cases h),fun b1 b2 r s1 s2 h=>(by cases h),yk.refl _ _,fun k hk=>hk,fun _ _=>False,fun b r s e h=>(by cases h)⟩
theorem yk.below{w w':World}(h:yk (fun k=>w.heap.size<=k) w w'):Below w.heap.size w w':=
 ⟨h.os,h.tape,h.output,h.size,fun k hk=>h.block k hk (by omega)⟩
theorem cm{E:Env}(hE:Pb E)(hO:Dk E){n:Nat}{f:FuncId}{args:List Value}{σ:AH}{v:Value}{σ':AH}(h:run E n (.call f args σ)=some (.val v σ')){B:Nat->Prop}{w0:World}{R:Mp}{w:World}{args':Array Value}(hS:Ic B w0 R σ w)(hl:LR R args args'.toList):
  Calls E.P f args' w fun e w'=>∃R' v',e= .returned v'/\Ext R σ R' σ'/\VR R' v v'/\Ic B w0 R' σ' w':=by
 obtain ⟨k1,k2⟩:=((AL hE hO n).1).call f args _ v σ' h B w0 R w args' hS hl
 exact callsIn_wide.1 (k2 Fence.wide qI 0)
theorem NB{E:Env}(hE:Pb E)(hO:Dk E){n:Nat}{f:FuncId}{v:Value}{σ':AH}(h:run E n (.call f [] ⟨0, .nil⟩)=some (.val v σ'))(hv:Sk.flat v=true)(w:World):
  Calls E.P f #[] w fun e w'=>e= .returned v/\Below w.heap.size w w':=by
 refine (cm hE hO h (zI w) (LR.nil _) (args':=#[])).mono ?_
 rintro e w' ⟨R',v',rfl,e1,e2,e3⟩;rw [Lm e2 hv];exact ⟨rfl,e3.below.below⟩
#printaxioms NB
end Sk
end Go.Proofs.YtfnkmolffhfpoaaGreat
namespace Go.Proofs.YtfnkmolffhfpoaaGreat
namespace Sk
open Go.RowKit
variable[Interp]
theorem lp{α:Type}{n:Nat}{F G:Nat->α}(h:(List.range n).map F=(List.range n).map G)(i:Nat)(hi:i<n):F i=G i:=List.map_inj_left.1 h i (List.mem_range.2 hi)
def AI{α:Type}(n:Nat)(f:Nat->Option α)(i:Nat):Option α:=match Nat.ble n i with|true=>none|false=>f i
theorem Pw{α:Type}{n:Nat}{f:Nat->Option α}{i:Nat}{x:α}(h:AI n f i=some x):i<n/\f i=some x:=by
 unfold AI at h
 split at h
 . cases h
 . rename_i hb;rw [jd]at hb;have:=of_decide_eq_false hb;exact ⟨by omega,h⟩
def BL(P:Program)(T:Nat->Option Func)(i:Nat):Option Func:=match T i with|some _=>P.funcs[i]?|none=>none
def CL(P:Program)(T:Nat->Option Ti)(i:Nat):Option Ti:=match T i with|some _=>QW P i|none=>none
def bz(T:Nat->Option Func)(i:Nat):Bool:=match T i with|some fn=>fn.name== "runtime.NumGoroutine" |none=>false
theorem DL{P:Program}{n m:Nat}{fT:Nat->Option Func}{tT:Nat->Option Ti}{ov:TypeId->String->Option FuncId}{NW:FuncId->Option (List (Value×Value)->List Value->AH->Option (Value×AH))}
  (h1:(List.range n).map fT=(List.range n).map (BL P fT))(h2:(List.range n).map (bz fT)=(List.range n).map fun _=>false)(h3:(List.range m).map tT=(List.range m).map (CL P tT))
  (h4:∀t n f,ov t n=some f->∀v w,(method (P.types.size+Made.depth) t v n).run P w= .ok (f,v) w)(h5:P.follows .mixedOrders=true){wq:List (Value×Value)->Value->Value}(h6:∀F,(∀p,p∈F->den p.1=den p.2)->∀v c,Ue v=some c->(∃c',Ue (wq F v)=some c')/\den (wq F v)=den v){ZP:Value->Nat->TypeId->Option Value}(h7:∀e o ty v,ZP e o ty=some v->∀g r O w,den e= .g g->Interp.gh g r O w->∃v',(∃c,Ue v=some c)/\den v= .v v'/\(loadVar ty ⟨r,o,none⟩).run P w= .ok v' w):Pb ⟨P,AI n fT,AI m tT,ov,NW,ZP,[],wq⟩:=by
 refine ⟨fun f fn h=> ?_,fun t i h=> ?_,h4,h5,fun p h=>(by cases h),h6,h7⟩
 . obtain ⟨k1,k2⟩:=Pw h;have e1:=lp h1 f k1;have e2:=lp h2 f k1;unfold BL at e1;unfold bz at e2;rw [k2]at e1 e2;exact ⟨e1.symm,e2⟩
 . obtain ⟨k1,k2⟩:=Pw h;have e1:=lp h3 t k1;unfold CL at e1;rw [k2]at e1;exact e1.symm
def Env.Sm(E:Env)(F:List (Value×Value)):Env:=⟨E.P,E.fn,E.ty,E.ov,E.NW,E.ZP,F,E.wq⟩
theorem Pb.Sm{E:Env}(h:Pb E){F:List (Value×Value)}(hF:∀p,p∈F->den p.1=den p.2):Pb (E.Sm F):=⟨h.fn,h.ty,h.ov,h.mixed,hF,h.wq,h.ZP⟩
def Um:Option Hh->Bool
 |some (.val (.bool b) _)=>b
 |_=>false
theorem Fv{E:Env}(hE:Pb E)(hO:Dk E){n:Nat}{f:FuncId}(h:Um (run E n (.call f [] ⟨0, .nil⟩))=true)(w:World):
  Calls E.P f #[] w fun e w'=>e= .returned (.bool true)/\Below w.heap.size w w':=by
 cases hr:run E n (.call f [] ⟨0, .nil⟩)with
 |none=>rw [hr]at h;cases h
 |some r=>
  rw [hr]at h;cases r with
  |val v σ'=>
   cases v with
   |bool b=>cases b with
    |true=>exact NB hE hO hr rfl w
    |false=>cases h
   |_=>cases h
  |«at»=>cases h
end Sk
end Go.Proofs.YtfnkmolffhfpoaaGreat
namespace Go.Proofs.YtfnkmolffhfpoaaGreat
namespace Sk
open Go.RowKit
noncomputable section
structure si where
 G:Type
 U:Nat->List (tc G)->Int
 V:Nat->List (tc G)->G
 W:Nat->G->G
 W_W:∀k g,W k (W k g)=W k g
 gh:G->Nat->(Nat->Prop)->World->Prop
 gh_lt:∀g r O w,gh g r O w->∀k,O k->k<w.heap.size
 gh_own:∀g r O w,gh g r O w->O r
 gh_keep:∀g r O w w',gh g r O w->w.heap.size<=w'.heap.size->(∀k,O k->w'.heap[k]?=w.heap[k]?)->gh g r O w'
@[reducible] def si.at(T:si)(ρ:Nat->Int)(γ:Nat->T.G):Interp:=⟨T.G,ρ,γ,T.U,T.V,T.W,T.W_W,T.gh,T.gh_lt,T.gh_own,T.gh_keep⟩
def vr(k i:Nat):Value:=sy k [.int .i64 (.ofNat i)]
def Qb(k:Nat)(u:Value):Bool:=
 match u with
 | .int q n=>match Nat.beq (Xb q) k with|true=>Of (Tl q n) n|false=>false
 | .bool _=>Nat.beq k 8
 | .func (.methodOf t _) _ _=>Nat.beq (Nat.mod t 16) k
 |_=>false
def Ml(k:Nat)(u:Value):Bool:=
 match u with
 | .func (.methodOf t _) _ _=>Ia (Pg (Nat.ble (Nat.mod t 16) 8)) (Nat.beq (Nat.mod t 16) k)
 |_=>false
mutual
def gE(E:Env)(θ:List Value)(η:List Value):Nat->Value->Option Value
 |0,_=>none
 |d+1,v=>match v with
  | .func f a c=>match f with
    | .methodOf t _=>match a with
      |⟨l⟩=>match Nat.div t 16 with
       |0=>match l with
        |[.int _ (.ofNat i)]=>match Nat.ble (Nat.mod t 16) 8 with
         |true=>match Qf θ i with
          |some u=>match Qb (Nat.mod t 16) u with|true=>some u|false=>none
          |none=>none
         |false=>match Qf η i with
          |some u=>match Ml (Nat.mod t 16) u with|true=>some u|false=>none
          |none=>none
        |_=>none
       |_+1=>match BI E θ η d l with
        |some l'=>match Nat.ble (Nat.mod t 16) 8 with
         |true=>some (E.norm (sy t l'))
         |false=>some (sy t l')
        |none=>none
    |_=>none
  | .int k n=>some (.int k n)
  | .bool b=>some (.bool b)
  |_=>none
def BI(E:Env)(θ:List Value)(η:List Value):Nat->List Value->Option (List Value)
 |0,_=>none
 |_+1,[]=>some []
 |d+1,x::xs=>match gE E θ η d x with
  |some y=>match BI E θ η d xs with
   |some ys=>some (y::ys)
   |none=>none
  |none=>none
end
def isSome{α:Type}:Option α->Bool
 |some _=>true
 |none=>false
mutual
def nX(E:Env)(θ η:List Value)(f:List Nat):Nat->Value->Value->Bool
 |0,_,_=>false
 |d+1,p,v=>match p with
  | .pointer (some ⟨b,o,none⟩)=>match v with
    | .pointer (some ⟨b',o',none⟩)=>match Qf f b with
      |some c=>Ia (Nat.beq c b') (Nat.beq o o')
      |none=>false
    |_=>false
  | .slice (some ⟨b,o,none⟩) n z=>match v with
    | .slice (some ⟨b',o',none⟩) n' z'=>match z with
      |0=>false
      |_+1=>match Qf f b with
       |some c=>Ia (Nat.beq c b') (Ia (Nat.beq o o') (Ia (Nat.beq n n') (Nat.beq z z')))
       |none=>false
    |_=>false
  | .iface t u=>match v with
    | .iface t' u'=>match Nat.beq t t' with|true=>nX E θ η f d u u'|false=>false
    |_=>false
  | .func g ⟨a⟩ ⟨c⟩=>match g with
    | .methodOf _ _=>match gE E θ η 60 p with
      |some u=>Ia (isSome (Ue v)) (Ia (isSome (Ue p)) (Jg 60 u v))
      |none=>false
    | .func g=>match v with
      | .func (.func g') ⟨a'⟩ ⟨c'⟩=>match Nat.beq g g' with
        |true=>match EL E θ η f d a a' with|true=>EL E θ η f d c c'|false=>false
        |false=>false
      |_=>false
    |_=>false
  |p=>match ic p with|true=>sr p v|false=>false
def EL(E:Env)(θ η:List Value)(f:List Nat):Nat->List Value->List Value->Bool
 |0,_,_=>false
 |_+1,[],[]=>true
 |d+1,x::xs,y::ys=>match nX E θ η f d x y with|true=>EL E θ η f d xs ys|false=>false
 |_+1,_,_=>false
end
inductive yh where
 |cells(l:List (Option Value))(e:TypeId)(full:Bool)
 |gh(e:Value)
def rowP(n:Nat):Nat->List (Option Value)->Tr Value->Tr Value
 |_,[],t=>t
 |i,none::l,t=>rowP n (Nat.succ i) l t
 |i,some v::l,t=>rowP n (Nat.succ i) l (Tr.put (Nat.succ n) t i (some v))
def yh.obj:yh->ya
 | .cells l e full=> .cells ⟨Be l,none,rowP (Be l) 0 l .nil⟩ e full
 | .gh e=> .gh e
def T1(n:Nat):Nat->List yh->Tr ya->Tr ya
 |_,[],t=>t
 |i,o::l,t=>T1 n (Nat.succ i) l (Tr.put (Nat.succ n) t i (some o.obj))
def OB(l:List yh):AH:=⟨Be l,T1 (Be l) 0 l .nil⟩
def U1(E:Env)(θ η:List Value)(f:List Nat)(c':Row):Nat->List (Option Value)->Bool
 |_,[]=>true
 |i,none::l=>U1 E θ η f c' (Nat.succ i) l
 |i,some v::l=>match c'.get i with
  |some u=>match nX E θ η f 20 v u with|true=>U1 E θ η f c' (Nat.succ i) l|false=>false
  |none=>false
def CQ(E:Env)(θ η:List Value)(f:List Nat)(p:yh)(x:Option ya):Bool:=
 match p,x with
 | .cells l e full,some (.cells c' e' yT)=>match Ia (Nat.beq e e') (Ia (Nat.beq (Be l) c'.n) (pr full yT))with
   |true=>U1 E θ η f c' 0 l
   |false=>false
 | .gh e,some (.gh e')=>match gE E θ η 60 e with
   |some u=>Jg 60 u e'
   |none=>false
 |_,_=>false
def oX(E:Env)(θ η:List Value)(f:List Nat)(σ:AH):List Nat->List yh->Bool
 |[],[]=>true
 |b::bs,o::os=>match CQ E θ η f o (σ.get b)with|true=>oX E θ η f σ bs os|false=>false
 |_,_=>false
def DQ(n:Nat):List Nat->Bool
 |[]=>false
 |m::ms=>match Nat.beq n m with|true=>true|false=>DQ n ms
def PB:List Nat->Bool
 |[]=>true
 |n::ns=>match DQ n ns with|true=>false|false=>PB ns
def J4(E:Env)(θ η:List Value):List (Value×Value)->Bool
 |[]=>true
 |p::ps=>match gE E θ η 60 p.1,Ue p.1,p.2 with
  |some u,some _, .bool b=>match Jg 60 u (.bool b)with|true=>J4 E θ η ps|false=>false
  |some u,some _, .int k n=>match Jg 60 u (.int k n)with|true=>J4 E θ η ps|false=>false
  |_,_,_=>false
end
end Sk
end Go.Proofs.YtfnkmolffhfpoaaGreat
