/- -/
import Derived.Test.YtfnkmolffhfpoaaGreatHp23
import Derived.Test.YtfnkmolffhfpoaaGreatHp19
import Derived.Shelf.Abstract
import Derived.Test.YtfnkmolffhfpoaaGreatHp13
import Derived.WalkSpells
import Derived.Test.YtfnkmolffhfpoaaGreatHp16
set_option linter.unusedVariables false
set_option linter.unusedSimpArgs false
namespace Go.Proofs.YtfnkmolffhfpoaaGreat
open Go.RowKit Go.BigFrame
theorem BD(M:Mv)(l:Int)(hl:l<0\/(M.n:Int)<=l)(W:World)(h:Ga W M):Calls Tryz.prog 291 #[.pointer (some ⟨M.d,0,none⟩), .int .i64 l] W (Gc (.int .i64 0) W):=by
 have HL:=Lib.hid (Ns M.d (some ⟨M.sb,0,none⟩) M.n M.c1 l W (by rw [Wa h.dev];rfl));rw [Rh,if_pos hl]at HL;clear h hl
 go_enter Tryz.func291,Tryz.ntmps291
 go_wp2_with fail
 refine HL.out.mono ?_
 rintro e w ⟨rfl,rfl⟩
 go_wp2_with fail
 go_ret
 exact ⟨rfl,rfl⟩
set_option maxRecDepth 100000 in
theorem mA(M:Mv)(k:Nat)(hk:k<M.n)(W:World)(h:Ga W M):Calls Tryz.prog 291 #[.pointer (some ⟨M.d,0,none⟩), .int .i64 (k:Int)] W (Gc (.int .i64 (M.wr k)) W):=by
 have HL:=Lib.hid (Ns M.d (some ⟨M.sb,0,none⟩) M.n M.c1 (k:Int) W (by rw [Wa h.dev];rfl));rw [Rh,if_neg (by omega)]at HL;have y2:W.cell? ⟨M.d,2,none⟩=some (.slice (some ⟨M.wb,0,none⟩) M.n M.c2):=by rw [Wa h.dev];rfl
 have hc:=h.wr.cell hk;have n1:=h.n1;clear h;generalize M.wr k=v at*;generalize M.n=n at*;have f1:(k:Int)<(n:Int):=by omega
 have f2:decide ((k:Int)<(n:Int))=true:=ga f1
 go_enter Tryz.func291,Tryz.ntmps291
 go_wp2_with fail
 refine HL.out.mono ?_
 rintro e w ⟨rfl,rfl⟩
 go_wp2_with fail
 go_ret
 exact ⟨rfl,rfl⟩
set_option maxRecDepth 100000 in
theorem nA(m:Nat)(a:Int)(ha:a<0)(W:World):Calls Tryz.prog 237 #[.pointer (some ⟨m,0,none⟩), .int .i64 a] W (Gc (.int .i64 0) W):=by
 have d0:decide (a<0)=true:=ga ha
 go_enter Tryz.func237,Tryz.ntmps237
 go_wp2_with fail
 go_ret
 exact ⟨rfl,rfl⟩
set_option maxRecDepth 100000 in
theorem Ar(M:Mv)(a v:Int)(ha:0<=a)(q1:a<=9223372036854775807)(W:World)(h:Ga W M)(hc:Calls Tryz.prog 291 #[.pointer (some ⟨M.d,0,none⟩), .int .i64 (a/8)] W (Gc (.int .i64 v) W)):Calls Tryz.prog 237 #[.pointer (some ⟨M.m,0,none⟩), .int .i64 a] W (Gc (.int .i64 v) W):=by
 have d0:decide (a<0)=false:=ua (by omega);have e8:a.tdiv 8=a/8:=Int.tdiv_eq_ediv_of_nonneg ha;have hd:W.cell? ⟨M.m,0,none⟩=some (.pointer (some ⟨M.d,0,none⟩)):=(qd h.row).1
 have HC:=Lib.hid hc;clear h hc
 go_enter Tryz.func237,Tryz.ntmps237
 go_wp2_with fail
 refine HC.out.mono ?_
 rintro e w ⟨rfl,rfl⟩
 go_wp2_with fail
 go_ret
 exact ⟨rfl,rfl⟩
theorem FJ(M:Mv)(a:Int)(q1:a<=9223372036854775807)(W:World)(h:Ga W M):Calls Tryz.prog 237 #[.pointer (some ⟨M.m,0,none⟩), .int .i64 a] W (Gc (.int .i64 (if 0<=a/\a/8<(M.n:Int)then M.wr (a/8).toNat else 0)) W):=by
 by_cases h0:0<=a
 . by_cases h1:a/8<(M.n:Int)
   . rw [if_pos ⟨h0,h1⟩];have:=mA M (a/8).toNat (by omega) W h
     rw [show(((a/8).toNat:Nat):Int)=a/8 by omega]at this;exact Ar M a _ h0 q1 W h this
   . rw [if_neg (fun q=>h1 q.2)];exact Ar M a _ h0 q1 W h (BD M (a/8) (by omega) W h)
 . rw [if_neg (fun q=>h0 q.1)];exact nA M.m a (by omega) W
end Go.Proofs.YtfnkmolffhfpoaaGreat
namespace Go.Proofs.YtfnkmolffhfpoaaGreat
namespace Sk
section
variable{ρ:Nat->Int}{γ:Nat->Gh}{F:List (Value×Value)}(hF:∀p,p∈F-> @den (Th.at ρ γ) p.1= @den (Th.at ρ γ) p.2)
include hF
theorem GJ: @yG (Th.at ρ γ) Tryz.prog F iv 237:=by
 letI:Interp:=Th.at ρ γ
 haveI:Wc:=Ia ρ γ
 intro args σ v σ' hg B w0 R w args' hS hl;unfold iv at hg
 split at hg
 . rename_i p a
   split at hg
   . rename_i e he ha;cases hg;obtain ⟨p',l',rfl,hp,hl⟩:=hl.ya;obtain ⟨a',l',rfl,Rx,hl⟩:=hl.ya;cases hl.ic;obtain ⟨b,r,s,A,M,rfl,rfl,k1,k2,k3,rfl,k5,k6,k7⟩:=dm he hS hp;obtain ⟨an,rfl,da,a0,a1⟩:=Te Rx ha;obtain ⟨⟨q,q1⟩,q2⟩:=Ue hF [e,a] (t:=tWr) (by decide);refine Eg hS (Yc R q1 (q2.trans (dWr (WZ k3 k5 k6 an) k2 da))) (gb ?_);have:Jk A an=if 0<=an/\an/8<(M.n:Int)then M.wr (an/8).toNat else 0:=by
      unfold Jk;rw [k5.Md.n];by_cases q:0<=an/\an/8<(A.n:Int)
      . rw [if_pos q,if_pos q,k5.wr _ (by rw [k5.Md.n];omega)]
      . rw [if_neg q,if_neg q]
     rw [this];exact FJ M an a1 w k3
   . cases hg
 . cases hg
end
end Sk
end Go.Proofs.YtfnkmolffhfpoaaGreat
namespace Go.Proofs.YtfnkmolffhfpoaaGreat
open Go.RowKit Go.BigFrame
def iar(R:World->Prop):Exit->Act->World->Prop
 | .normal,_,w=>R w
 |_,_,_=>False
theorem XZ{assign body:Code}{Q:Exit->Act->World->Prop}{a:Act}{g:Operand}{w0 w:World}{po b2 b3 b off n cap:Nat}{f:Nat->Int}(hn:n<=cap)(hc:cap<=9223372036854775807)(n1:po≠b2)(n2:b2≠b3)
  (hg:a.eval g= .func (.func 274) #[] #[.pointer (some ⟨b2,0,none⟩), .pointer (some ⟨b3,0,none⟩)])
  (h0:Nf w0 w po b2 b3 b off n cap f 0 0)
  (YZ:∀(l:Nat) (v:Value) (W:World) (K:Act->World->Prop),K {tmps:=(a.tmps.setIfInBounds 15 v).setIfInBounds 6 v,defers:=[]} W->
    assign.wpIn (Fence.wide.inRound l) 7 Tryz.prog (Exit.then K (fun _ _ _=>False)) {tmps:=a.tmps.setIfInBounds 15 v,defers:=[]} W)
  (jar:∀(l k:Nat) (W:World),8*(k+1)<=n->Nf w0 W po b2 b3 b off n cap f k k->
    body.wpIn (Fence.wide.inRound l) 7 Tryz.prog (iar fun W'=>Nf w0 W' po b2 b3 b off n cap f k (k+1)/\ku W W') {tmps:=(a.tmps.setIfInBounds 15 (.slice (some ⟨b,off+8*k,none⟩) 8 8)).setIfInBounds 6 (.slice (some ⟨b,off+8*k,none⟩) 8 8),defers:=[]} W)
  (XS:∀(D:Nat) (W:World),w0.heap.size<=D->Nf w0 W po b2 b3 b off n cap f (n/8) (n/8)->W.heap[D]?=some (.deferred (some []))->Q .normal {a with defers:={target:= .collected D,args:=#[]}::a.defers} W):
  (Code.rangeFunc g #[15] assign body).wpIn Fence.wide 9 Tryz.prog Q a w:=by
 refine wpIn_rangeFunc ?_
 intro fn hfn;obtain ⟨rec,IJ⟩:∃rec:LoopState->Option Code->Loop,rec=fun st pe=>{state:=st,pending:=pe,fn,tmps:=a.tmps,params:=#[15],assign,body,defers:=w.heap.size}:=⟨_,rfl⟩
 obtain ⟨W1,mg⟩:∃W1,(w.alloc (.deferred (some []))).alloc (.loop (rec .ready none))=W1:=⟨_,rfl⟩
 have hsw:=h0.below.size;have hL1:W1.heap[w.heap.size+1]?=some (.loop (rec .ready none)):=by
  rw [<-mg];have:=World.alloc_heap_new (w.alloc (.deferred (some []))) (.loop (rec .ready none));rwa [World.size_alloc]at this
 have hK1:W1.heap[w.heap.size]?=some (.deferred (some [])):=by
  rw [<-mg];exact (Below.heap_alloc _ _ _ (by simp)).trans (World.alloc_heap_new w _)
 have hI1:Nf w0 W1 po b2 b3 b off n cap f 0 0:=h0.grow (by rw [<-mg];exact ((Below.refl _ w).alloc (Nat.le_refl _) _).alloc (by simp) _);refine ⟨w.heap.size+1,[{target:= .collected w.heap.size,args:=#[]}],W1,{target:= .fn (.func 274) #[.pointer (some ⟨b2,0,none⟩), .pointer (some ⟨b3,0,none⟩)],args:=#[.func (.yield (w.heap.size+1)) #[] #[]]},W1,274,
  #[.func (.yield (w.heap.size+1)) #[] #[]]++#[.pointer (some ⟨b2,0,none⟩), .pointer (some ⟨b3,0,none⟩)],W1, ?_, ?_, ?_, ?_,fun _=>by omega, ?_⟩
 . rw [<-mg,IJ];exact run_enterLoop_outer _ _ _ _ _
 . simp only [resolve,hg];simp [go_sem]
 . intro f' hf';simp [Target.leads]at hf';subst hf';trivial
 . have eg:∀args w,(callFunc 274 args).run Tryz.prog w= .ok (.enter 274 args) w:=Ca Tryz.func274 (by kernel_rfl) rfl
   simp [invoke,go_sem,eg]
 . have K:∀(k j:Nat),World->Prop:=fun _ _ _=>True
   refine (pag 8 (w.heap.size+1) b2 b3 b off n cap n2 (by omega) hn hc
    (fun k W=>Nf w0 W po b2 b3 b off n cap f k k/\W.heap[w.heap.size+1]?=some (.loop (rec .ready none))/\W.heap[w.heap.size]?=some (.deferred (some [])))
    (fun k W=>Nf w0 W po b2 b3 b off n cap f k (k+1)/\W.heap[w.heap.size+1]?=some (.loop (rec .ready none))/\W.heap[w.heap.size]?=some (.deferred (some [])))
    (fun k W h=>h.1.parts) (fun k W h=>h.1.parts) ?_ ?_ W1 ⟨hI1,hL1,hK1⟩).mono ?_
   . rintro k W hk ⟨hi,hl,M3⟩;have Db:w.heap.size+1<W.heap.size:=(Array.getElem?_eq_some_iff.1 hl).1
     have hy:(Instr.yield (w.heap.size+1) #[.slice (some ⟨b,off+8*k,none⟩) 8 8]).run Tryz.prog W= .ok (.round (w.heap.size+1) fn (a.tmps.setIfInBounds 15 (.slice (some ⟨b,off+8*k,none⟩) 8 8)) assign body) W:=by
      refine (run_yield (P:=Tryz.prog) (args:=#[.slice (some ⟨b,off+8*k,none⟩) 8 8]) hl (by rw [IJ];rfl)).trans ?_
      rw [IJ];simp
     refine ⟨fn,_,assign,body,hy,roundIn_of_wpIn hfn (YZ _ _ W _ ⟨_,run_beginRound hl (by rw [IJ]), ?_⟩)⟩;have RK:(W.putObj (w.heap.size+1) (.loop {rec .ready none with state:= .busy})).heap[w.heap.size+1]?=some (.loop {rec .ready none with state:= .busy}):=World.putObj_heap_same Db
     have pS:(W.putObj (w.heap.size+1) (.loop {rec .ready none with state:= .busy})).heap[w.heap.size]?=some (.deferred (some [])):=(World.putObj_heap_other (by omega)).trans M3
     refine wpIn_mono (jar _ k _ hk (hi.put hl rfl (by omega) _)) ?_
     rintro e a3 W3 hp;cases e with
     |normal=>
      obtain ⟨hi3,hs3⟩:=hp;have hl3:=hs3 _ _ RK rfl;have hk3:=hs3 _ _ pS rfl;have waJ:=run_endRound (P:=Tryz.prog) none hl3;refine ⟨_,_,waJ,rfl,hi3.put hl3 rfl (by omega) _, ?_,(World.putObj_heap_other (by omega)).trans hk3⟩;rw [World.putObj_heap_same (Array.getElem?_eq_some_iff.1 hl3).1,IJ];rfl
     |_=>exact hp.elim
   . rintro k W A hk ⟨hi,hl,M3⟩ hA;obtain ⟨A0,-,c2,-,-⟩:=hi.parts;have hs:=mP (v:= .slice A (n -8*(k+1)) (cap -8*(k+1))) c2 0;exact ⟨hi.next n1 n2 hA,hs _ _ hl rfl,hs _ _ M3 rfl⟩
   . rintro e W2 ⟨⟨v,rfl⟩,hi,hl,hk⟩;exact ⟨none,_,by have:=run_endLoop (P:=Tryz.prog) hl (by rw [IJ];simp);rw [IJ]at this;exact this,XS _ _ hsw (hi.put hl rfl (by omega) _) ((World.putObj_heap_other (by omega)).trans hk)⟩
theorem ZZ(v:Value)(hv:∃a m c,v= .slice a m c)(n:Int)(w:World):Calls Tryz.prog 202 #[v, .int .i64 n] w fun e w'=>
  e= .returned (.func (.func 274) #[] #[.pointer (some ⟨w.heap.size,0,none⟩), .pointer (some ⟨w.heap.size+1,0,none⟩)])/\w'=(w.alloc (.cells #[v] 99)).alloc (.cells #[.int .i64 n] 3):=by
 obtain ⟨a,m,c,rfl⟩:=hv;have hmf:∀(fn:Fn) (first cap:Array Value) (w:World),(Instr.makeFunc fn first cap).run Tryz.prog w= .ok (.func fn first cap) w:=fun _ _ _ _=>rfl
 go_enter Tryz.func202,Tryz.ntmps202
 go_wp2_with fail
 go_ret
 exact ⟨rfl,rfl⟩
theorem XL:(Tryz.prog.info? 259).map (fun i=>(i.zero,i.size,i.bytes))=some (some (.agg #[.int .u64 0, .int .u64 0, .int .u64 0, .int .u64 0, .int .u64 0, .int .u64 0, .int .u64 0, .int .u64 0]),8,64):=by kernel_rfl
theorem No{ops:Array Oper}{o:Oper}{a:Act}{w:World}{K:Act->World->Prop}{Q:Exit->Act->World->Prop}{E:Prop}(hgd:o.guard=none)(t:Nat)(ho:o.op= .buildSlice 176 1 #[(0, .tmp t)])(v0 v1 v2 v3 v4 v5 v6 v7:Int)
  (hs:a.tmps[t]?.getD undef= .agg #[.int .u64 v0, .int .u64 v1, .int .u64 v2, .int .u64 v3, .int .u64 v4, .int .u64 v5, .int .u64 v6, .int .u64 v7])
  (h:K (a.put o.dst (.slice (some ⟨w.heap.size,0,none⟩) 1 1)) (w.alloc (.cells #[.int .u64 v0, .int .u64 v1, .int .u64 v2, .int .u64 v3, .int .u64 v4, .int .u64 v5, .int .u64 v6, .int .u64 v7] 259))):
  if Region.wanted o (yielded ops a.tmps)=true then Oper.wp Tryz.prog o a w K Q else E:=by
 have hw:Region.wanted o (yielded ops a.tmps)=true:=by simp [Region.wanted,hgd]
 rw [if_pos hw];obtain ⟨o1,o2,o3,o4,o5,o6⟩:=o;subst ho;simp [Oper.wp,go_sem,hs];exact h
def jU(f:Nat->Int)(n:Nat)(w:World)(e:Ending)(w':World):Prop:=
 ∃v,e= .returned (.tuple #[v, .int .i64 0])/\Below w.heap.size w w'/\w'.ownsRow w.heap.size 259 8 v (n/8) (od f (8*(n/8)))
def ph(n:Nat):Int:=if(n:Int) %8≠0 then 3 else if 262144<(n:Int)/8 then 2 else 0
theorem kar(a:Option Addr)(n cap:Nat)(hn:n<=9223372036854775807)(he:ph n≠0)(w:World):Calls Tryz.prog 103 #[.slice a n cap] w (Wi (.tuple #[.slice none 0 0, .int .i64 (ph n)]) w):=by
 have HW:=Lib.hid (kL n hn w);rw [show(if(n:Int) %8≠0 then(3:Int)else if 262144<(n:Int)/8 then 2 else 0)=ph n from rfl]at HW;generalize ph n=e at*;have e1:(e != 0)=true:=by simpa using he
 clear he
 go_enter Tryz.func103,Tryz.ntmps103
 go_wp2_with fail
 with_reducible refine HW.out.mono ?_
 rintro e w' ⟨rfl,hw⟩;cases hw
 go_wp2_with fail
 go_ret2
 exact ⟨rfl,Below.refl _ _,rfl⟩
set_option maxRecDepth 100000 in
set_option maxHeartbeats 4000000 in
theorem lar(a0:Option Addr)(b off n cap:Nat)(ha:8<=n->a0=some ⟨b,off,none⟩)(hn:n<=cap)(hc:cap<=9223372036854775807)(he:ph n=0)(f:Nat->Int)(w0:World)(hb:0<n->b<w0.heap.size)(hw:∀j,j<n->w0.cell? ⟨b,off+j,none⟩=some (.int .u64 (f j))):
  Calls Tryz.prog 103 #[.slice a0 n cap] w0 (jU f n w0):=by
 have HW:=Lib.hid (kL n (by omega) w0);rw [show(if(n:Int) %8≠0 then(3:Int)else if 262144<(n:Int)/8 then 2 else 0)=0 from he]at HW;have HN:Hid (n %8=0/\n/8<=262144):=Lib.hid (by unfold ph at he;split at he;omega;split at he;omega;omega);have HB:=Lib.hid hb;have HA:=Lib.hid ha;have HD:=Lib.hid hw;have HC:=Lib.hid (And.intro hn hc);clear hb hw hn hc he ha;refine (callsIn_wide (n:=9)).1 (callsIn_of_wp_marks Tryz.func103 rfl trivial ?_ rfl)
 refine wpIn_wide.2 ?_
 simp only [Tryz.ntmps103,List.size_toArray,List.length_cons,List.length_nil,Nat.reduceAdd,Nat.reduceSub,Array.replicate_succ,Array.replicate_zero,List.push_toArray,List.append_toArray,List.nil_append,List.cons_append]
 go_wp2_with fail
 with_reducible refine HW.out.mono ?_
 rintro e w' ⟨rfl,hw⟩;cases hw
 go_wp2_with (go_at_call 202;refine (ZZ _ ⟨_,_,_,rfl⟩ _ _).mono ?_;rintro e w3 ⟨rfl,hw3⟩;have HW3:=Lib.hid hw3;clear hw3)
 obtain ⟨i102,hi,Bx,Mi,uh⟩:=info_parts XL;obtain ⟨po,CD⟩:∃po,po=w0.heap.size:=⟨_,rfl⟩;have n1:po≠po+1:=by omega
 have n2:po+1≠po+1+1:=by omega
 have n3:po≠po+1+1:=by omega
 have HST:Hid (Nf w0 w3 po (po+1) (po+1+1) b off n cap f 0 0):=Lib.hid (by
  have h3:=HW3.out;have k0:w3.heap[po]?=some (.cells #[.slice none 0 0] 176 (0,0)):=by
   rw [h3,Below.heap_alloc _ _ _ (by simp;omega),Below.heap_alloc _ _ _ (by simp;omega),CD,heap_alloc_new]
  have k1:w3.heap[po+1]?=some (.cells #[.slice a0 n cap] 99 (0,0)):=by
   have:=heap_alloc_new (w0.alloc (.cells #[.slice none 0 0] 176)) (.cells #[.slice a0 n cap] 99);rw [World.size_alloc]at this;rw [h3,Below.heap_alloc _ _ _ (by simp;omega),CD];exact this
  have k2:w3.heap[po+1+1]?=some (.cells #[.int .i64 8] 3 (0,0)):=by
   have:=heap_alloc_new ((w0.alloc (.cells #[.slice none 0 0] 176)).alloc (.cells #[.slice a0 n cap] 99)) (.cells #[.int .i64 8] 3);rw [World.size_alloc,World.size_alloc]at this;rw [h3,CD];exact this
  have l2:=(Array.getElem?_eq_some_iff.1 k2).1
  refine ⟨?_,⟨a0,fun h=>HA.out (by omega),by rw [Wa k1];rfl,by rw [Wa k2];rfl,by unfold World.frozen?;rw [k1];simp⟩,⟨_,by rw [Wa k0];rfl,World.ownsRow_nil _ _ _ _,(by intro e;cases e),(by intro e;cases e),(by intro e;cases e)⟩,by unfold World.frozen?;rw [k0];simp,⟨by omega,by omega⟩,⟨by omega,by omega⟩,⟨by omega,by omega⟩⟩;rw [h3];exact ((((Below.refl _ _).alloc (Nat.le_refl _) _).alloc (by simp) _).alloc (by simp;omega) _))
 rw [<-CD];clear CD;refine (wpIn_wide (n:=9)).1 (XZ (w0:=w0) (f:=f) HC.out.1 HC.out.2 n1 n2 rfl HST.out ?_ ?_ ?_)
 . intro l v W K hK;simp only [List.setIfInBounds_toArray,List.set_cons_succ,List.set_cons_zero]at hK⊢
   gi_wp2
   exact hK
 . intro l k W hk h;have HK:Hid (k+1<=262144):=Lib.hid (by have:=HN.out;omega);have oA:Hid (Nf w0 W.drew po (po+1) (po+1+1) b off n cap f k k):=Lib.hid (h.grow ((Below.refl _ W).drew));have HSD:Hid (ku W W.drew):=Lib.hid (fun _ _ h _=>h);have HW8:=Lib.hid (jG f k);have h8:YA W.drew b (off+8*k) (fun r=>f (k*8+r)):=fun r hr=>by
    have:=HD.out (8*k+r) (by omega)
    show W.drew.cell? ⟨b,off+8*k+r,none⟩=some (.int .u64 (f (k*8+r)))
    rw [show off+8*k+r=off+(8*k+r)by omega,show k*8+r=8*k+r by omega];exact (oA.out.below.cell (p:=⟨b,off+(8*k+r),none⟩) (HB.out (by omega))).trans this
   obtain ⟨c0,c1,c2,c3,c4,c5,c6,c7⟩:=h8.cells;rw [Nat.add_zero]at c0;clear h h8 hk;refine wpIn_block (lP (by kernel_rfl) ?_ ?_ ?_)
   . intro i o ho cc hc;have hi:i<7:=(Array.getElem?_eq_some_iff.1 ho).1
     rcases i with _|_|_|_|_|_|_|i<;>first|(cases ho;cases hc)|omega
   . rintro ⟨a,w,h⟩;exact h
   simp only [List.setIfInBounds_toArray,List.set_cons_succ,List.set_cons_zero];generalize W.drew=Wd at*;obtain ⟨vo,hvo,ke,u1,u2,u3⟩:=oA.out.out;obtain ⟨oa,om,oc,rfl⟩:=Ce ke;have co:=hvo;have fo:=oA.out.fpo;have HO:=Lib.hid ke;have B0:Hid (some po≠(Value.slice oa om oc).ownBlock):=Lib.hid (Ne.symm u1);have p1:po≠Wd.heap.size:=by have:=oA.out.h1.2;omega
   have p2:Wd.heap.size≠po:=Ne.symm p1;have p3:po<Wd.heap.size:=oA.out.h1.2
   clear hvo ke u1 u2 u3;generalize off+8*k=o at*;generalize f (k*8)=v0 at*;generalize f (k*8+1)=v1 at*;generalize f (k*8+2)=v2 at*;generalize f (k*8+3)=v3 at*;generalize f (k*8+4)=v4 at*;generalize f (k*8+5)=v5 at*;generalize f (k*8+6)=v6 at*;generalize f (k*8+7)=v7 at*;refine wpAny_take (i:=1) (v:= .slice (some ⟨b,o,none⟩) 8 8) rfl (by kernel_rfl) (by kernel_rfl) (by kernel_rfl) (fun _ _ _ h=>h) (Or.inl ⟨by rfl,by intro w;go_simp;try with_reducible rfl⟩) ?_
   refine wpAny_ready (rs:=[0,2]) (by kernel_rfl) (by simp) (AllReady.cons rfl (fun K hK=> ?_) (AllReady.cons rfl (fun K hK=> ?_) AllReady.nil))
   . skip
     go_simp
     refine hK _ _ ?_
     clear hK;refine wpAny_ready (rs:=[2]) (by kernel_rfl) (by simp) (AllReady.cons rfl (fun K hK=> ?_) AllReady.nil)
     go_simp
     refine hK _ _ ?_
     clear hK;refine wpAny_ready (rs:=[3]) (by kernel_rfl) (by simp) (AllReady.cons rfl (fun K hK=> ?_) AllReady.nil)
     go_simp
     refine hK _ _ ?_
     clear hK;refine wpAny_ready (rs:=[4]) (by kernel_rfl) (by simp) (AllReady.cons rfl (fun K hK=> ?_) AllReady.nil);refine No rfl 19 rfl v0 v1 v2 v3 v4 v5 v6 v7 rfl ?_
     refine hK _ _ ?_
     clear hK;refine wpAny_ready (rs:=[5]) (by kernel_rfl) (by simp) (AllReady.cons rfl (fun K hK=> ?_) AllReady.nil);have YL:Hid (Below Wd.heap.size Wd (Wd.alloc (.cells #[.int .u64 v0, .int .u64 v1, .int .u64 v2, .int .u64 v3, .int .u64 v4, .int .u64 v5, .int .u64 v6, .int .u64 v7] 259))):=Lib.hid ((Below.refl _ _).alloc (Nat.le_refl _) _);refine se rfl (.tmp 16) (.tmp 20) 176 rfl w0.heap.size 259 i102 _ 8 64 Tryz.underlying176 hi Bx Mi uh rfl (by decide) (.slice oa om oc) k _ rfl (HO.out.alloc _) ⟨Wd.heap.size,0,none⟩ 1 1 [.int .u64 v0, .int .u64 v1, .int .u64 v2, .int .u64 v3, .int .u64 v4, .int .u64 v5, .int .u64 v6, .int .u64 v7] rfl rfl (fun j u hj=>Df Wd _ _ j u hj) (by simp [Value.oneCell']) (by have:=HK.out;unfold maxLen;omega) (by have:=HK.out;omega) (by have:=oA.out.below.size;simp;omega) ?_
     intro v' w4 JJ KJ mU;obtain ⟨na,nm,nc,rfl⟩:=Ce JJ;have HO4:=Lib.hid JJ;have HG4:=Lib.hid KJ;have VH:=Lib.hid mU;have pG:w4.heap[po]?=Wd.heap[po]?:=(KJ.block po (by have:=oA.out.h1.2;simp;omega) B0.out).trans (Below.heap_alloc _ _ _ oA.out.h1.2)
     have co4:w4.cell? ⟨po,0,none⟩=some (.slice oa om oc):=by rw [cell_of_heap pG];exact co
     have fo4:w4.frozen? ⟨po,0,none⟩=false:=by rw [frozen_of_heap pG];exact fo
     clear JJ KJ mU pG;refine hK _ _ ?_
     clear hK;refine wpAny_ready (rs:=[6]) (by kernel_rfl) (by simp) (AllReady.cons rfl (fun K hK=> ?_) AllReady.nil)
     go_simp
     refine hK _ _ ?_
     clear hK;refine wpAny_done (by kernel_rfl) ?_ _
     have Kq:=oA.out.add n1 n2 n3 co YL.out (by rw [HW8.out];exact HO4.out) HG4.out VH.out;exact ⟨Kq.1,HSD.out.trans Kq.2⟩
   . skip
     go_simp
     refine hK _ _ ?_
     clear hK;refine wpAny_ready (rs:=[0,3]) (by kernel_rfl) (by simp) (AllReady.cons rfl (fun K hK=> ?_) (AllReady.cons rfl (fun K hK=> ?_) AllReady.nil))
     . skip
       go_simp
       refine hK _ _ ?_
       clear hK;refine wpAny_ready (rs:=[3]) (by kernel_rfl) (by simp) (AllReady.cons rfl (fun K hK=> ?_) AllReady.nil)
       go_simp
       refine hK _ _ ?_
       clear hK;refine wpAny_ready (rs:=[4]) (by kernel_rfl) (by simp) (AllReady.cons rfl (fun K hK=> ?_) AllReady.nil);refine No rfl 19 rfl v0 v1 v2 v3 v4 v5 v6 v7 rfl ?_
       refine hK _ _ ?_
       clear hK;refine wpAny_ready (rs:=[5]) (by kernel_rfl) (by simp) (AllReady.cons rfl (fun K hK=> ?_) AllReady.nil);have YL:Hid (Below Wd.heap.size Wd (Wd.alloc (.cells #[.int .u64 v0, .int .u64 v1, .int .u64 v2, .int .u64 v3, .int .u64 v4, .int .u64 v5, .int .u64 v6, .int .u64 v7] 259))):=Lib.hid ((Below.refl _ _).alloc (Nat.le_refl _) _);refine se rfl (.tmp 16) (.tmp 20) 176 rfl w0.heap.size 259 i102 _ 8 64 Tryz.underlying176 hi Bx Mi uh rfl (by decide) (.slice oa om oc) k _ rfl (HO.out.alloc _) ⟨Wd.heap.size,0,none⟩ 1 1 [.int .u64 v0, .int .u64 v1, .int .u64 v2, .int .u64 v3, .int .u64 v4, .int .u64 v5, .int .u64 v6, .int .u64 v7] rfl rfl (fun j u hj=>Df Wd _ _ j u hj) (by simp [Value.oneCell']) (by have:=HK.out;unfold maxLen;omega) (by have:=HK.out;omega) (by have:=oA.out.below.size;simp;omega) ?_
       intro v' w4 JJ KJ mU;obtain ⟨na,nm,nc,rfl⟩:=Ce JJ;have HO4:=Lib.hid JJ;have HG4:=Lib.hid KJ;have VH:=Lib.hid mU;have pG:w4.heap[po]?=Wd.heap[po]?:=(KJ.block po (by have:=oA.out.h1.2;simp;omega) B0.out).trans (Below.heap_alloc _ _ _ oA.out.h1.2)
       have co4:w4.cell? ⟨po,0,none⟩=some (.slice oa om oc):=by rw [cell_of_heap pG];exact co
       have fo4:w4.frozen? ⟨po,0,none⟩=false:=by rw [frozen_of_heap pG];exact fo
       clear JJ KJ mU pG;refine hK _ _ ?_
       clear hK;refine wpAny_ready (rs:=[6]) (by kernel_rfl) (by simp) (AllReady.cons rfl (fun K hK=> ?_) AllReady.nil)
       go_simp
       refine hK _ _ ?_
       clear hK;refine wpAny_done (by kernel_rfl) ?_ _
       have Kq:=oA.out.add n1 n2 n3 co YL.out (by rw [HW8.out];exact HO4.out) HG4.out VH.out;exact ⟨Kq.1,HSD.out.trans Kq.2⟩
     . skip
       go_simp
       refine hK _ _ ?_
       clear hK;refine wpAny_ready (rs:=[0,4]) (by kernel_rfl) (by simp) (AllReady.cons rfl (fun K hK=> ?_) (AllReady.cons rfl (fun K hK=> ?_) AllReady.nil))
       . skip
         go_simp
         refine hK _ _ ?_
         clear hK;refine wpAny_ready (rs:=[4]) (by kernel_rfl) (by simp) (AllReady.cons rfl (fun K hK=> ?_) AllReady.nil);refine No rfl 19 rfl v0 v1 v2 v3 v4 v5 v6 v7 rfl ?_
         refine hK _ _ ?_
         clear hK;refine wpAny_ready (rs:=[5]) (by kernel_rfl) (by simp) (AllReady.cons rfl (fun K hK=> ?_) AllReady.nil);have YL:Hid (Below Wd.heap.size Wd (Wd.alloc (.cells #[.int .u64 v0, .int .u64 v1, .int .u64 v2, .int .u64 v3, .int .u64 v4, .int .u64 v5, .int .u64 v6, .int .u64 v7] 259))):=Lib.hid ((Below.refl _ _).alloc (Nat.le_refl _) _);refine se rfl (.tmp 16) (.tmp 20) 176 rfl w0.heap.size 259 i102 _ 8 64 Tryz.underlying176 hi Bx Mi uh rfl (by decide) (.slice oa om oc) k _ rfl (HO.out.alloc _) ⟨Wd.heap.size,0,none⟩ 1 1 [.int .u64 v0, .int .u64 v1, .int .u64 v2, .int .u64 v3, .int .u64 v4, .int .u64 v5, .int .u64 v6, .int .u64 v7] rfl rfl (fun j u hj=>Df Wd _ _ j u hj) (by simp [Value.oneCell']) (by have:=HK.out;unfold maxLen;omega) (by have:=HK.out;omega) (by have:=oA.out.below.size;simp;omega) ?_
         intro v' w4 JJ KJ mU;obtain ⟨na,nm,nc,rfl⟩:=Ce JJ;have HO4:=Lib.hid JJ;have HG4:=Lib.hid KJ;have VH:=Lib.hid mU;have pG:w4.heap[po]?=Wd.heap[po]?:=(KJ.block po (by have:=oA.out.h1.2;simp;omega) B0.out).trans (Below.heap_alloc _ _ _ oA.out.h1.2)
         have co4:w4.cell? ⟨po,0,none⟩=some (.slice oa om oc):=by rw [cell_of_heap pG];exact co
         have fo4:w4.frozen? ⟨po,0,none⟩=false:=by rw [frozen_of_heap pG];exact fo
         clear JJ KJ mU pG;refine hK _ _ ?_
         clear hK;refine wpAny_ready (rs:=[6]) (by kernel_rfl) (by simp) (AllReady.cons rfl (fun K hK=> ?_) AllReady.nil)
         go_simp
         refine hK _ _ ?_
         clear hK;refine wpAny_done (by kernel_rfl) ?_ _
         have Kq:=oA.out.add n1 n2 n3 co YL.out (by rw [HW8.out];exact HO4.out) HG4.out VH.out;exact ⟨Kq.1,HSD.out.trans Kq.2⟩
       . skip
         refine No rfl 19 rfl v0 v1 v2 v3 v4 v5 v6 v7 rfl ?_
         refine hK _ _ ?_
         clear hK;refine wpAny_ready (rs:=[0]) (by kernel_rfl) (by simp) (AllReady.cons rfl (fun K hK=> ?_) AllReady.nil)
         go_simp
         refine hK _ _ ?_
         clear hK;refine wpAny_ready (rs:=[5]) (by kernel_rfl) (by simp) (AllReady.cons rfl (fun K hK=> ?_) AllReady.nil);have YL:Hid (Below Wd.heap.size Wd (Wd.alloc (.cells #[.int .u64 v0, .int .u64 v1, .int .u64 v2, .int .u64 v3, .int .u64 v4, .int .u64 v5, .int .u64 v6, .int .u64 v7] 259))):=Lib.hid ((Below.refl _ _).alloc (Nat.le_refl _) _);refine se rfl (.tmp 16) (.tmp 20) 176 rfl w0.heap.size 259 i102 _ 8 64 Tryz.underlying176 hi Bx Mi uh rfl (by decide) (.slice oa om oc) k _ rfl (HO.out.alloc _) ⟨Wd.heap.size,0,none⟩ 1 1 [.int .u64 v0, .int .u64 v1, .int .u64 v2, .int .u64 v3, .int .u64 v4, .int .u64 v5, .int .u64 v6, .int .u64 v7] rfl rfl (fun j u hj=>Df Wd _ _ j u hj) (by simp [Value.oneCell']) (by have:=HK.out;unfold maxLen;omega) (by have:=HK.out;omega) (by have:=oA.out.below.size;simp;omega) ?_
         intro v' w4 JJ KJ mU;obtain ⟨na,nm,nc,rfl⟩:=Ce JJ;have HO4:=Lib.hid JJ;have HG4:=Lib.hid KJ;have VH:=Lib.hid mU;have pG:w4.heap[po]?=Wd.heap[po]?:=(KJ.block po (by have:=oA.out.h1.2;simp;omega) B0.out).trans (Below.heap_alloc _ _ _ oA.out.h1.2)
         have co4:w4.cell? ⟨po,0,none⟩=some (.slice oa om oc):=by rw [cell_of_heap pG];exact co
         have fo4:w4.frozen? ⟨po,0,none⟩=false:=by rw [frozen_of_heap pG];exact fo
         clear JJ KJ mU pG;refine hK _ _ ?_
         clear hK;refine wpAny_ready (rs:=[6]) (by kernel_rfl) (by simp) (AllReady.cons rfl (fun K hK=> ?_) AllReady.nil)
         go_simp
         refine hK _ _ ?_
         clear hK;refine wpAny_done (by kernel_rfl) ?_ _
         have Kq:=oA.out.add n1 n2 n3 co YL.out (by rw [HW8.out];exact HO4.out) HG4.out VH.out;exact ⟨Kq.1,HSD.out.trans Kq.2⟩
 . intro D W hD h hK;dsimp only;obtain ⟨vo,hvo,ke,u1,u2,u3⟩:=h.out;obtain ⟨oa,om,oc,rfl⟩:=Ce ke;have HH:=Lib.hid h;have HO:=Lib.hid ke;have HKK:=Lib.hid hK;clear h ke hK u1 u2 u3
   go_wp2_with fail
   show LeavesInM Fence.wide 9 Tryz.prog Tryz.f103 _ (jU f n w0) [{target:= .collected D,args:=#[]}] .returning W
   unfold LeavesInM;refine ⟨by simp, .inl ⟨_,_,rfl,run_takeDeferred HKK.out, ?_⟩⟩;exact ⟨_,results_tmp2 rfl _ _ _,_,rfl,(HH.out.put HKK.out rfl hD _).below,ownsRow_putObj HO.out _ HKK.out rfl⟩
def DD(xs:List Value)(n:Nat)(W:World)(e:Ending)(W':World):Prop:=∃v,e= .returned v/\Below W.heap.size W W'/\W'.ownsRow W.heap.size 259 8 v n xs
set_option maxRecDepth 100000 in
theorem C0(g n cap:Nat)(c:Array Value)(hn:0<n)(h1:n<=262144)(xs:List Value)(W:World)(hg:W.heap[g]?=some (.cells c 259 (0,0)))(Oz:xs.length=n*8)(hc:∀j,j<n*8->c[j]?=xs[j]?)(h1c:∀u∈xs,u.oneCell'=true):
  Calls Tryz.prog 203 #[.slice (some ⟨g,0,none⟩) n cap] W (DD xs n W):=by
 obtain ⟨i102,hi,Bx,Mi,uh⟩:=info_parts XL;have HG:=Lib.hid hg;have HC:=Lib.hid hc;have HX:=Lib.hid Oz;have H1:=Lib.hid h1c;clear hg hc Oz h1c;obtain ⟨B,hB⟩:∃B,B=W.heap.size:=⟨_,rfl⟩;unfold DD;rw [<-hB];have HB:=Lib.hid hB;clear hB;have Qz:=fun w:World=>Lib.run_eql_slice_nil (P:=Tryz.prog) w 176 259 (some ⟨g,0,none⟩) n cap 0 0 Tryz.underlying176
 go_enter Tryz.func203,Tryz.ntmps203
 have hgl:g<W.heap.size:=(Array.getElem?_eq_some_iff.1 HG.out).1
 go_wp2_with (at_builtin;refine wpList_append_own _ rfl (.tmp 5) (.tmp 6) 176 rfl B 259 i102 _ 8 64 Tryz.underlying176 hi Bx Mi uh rfl (by decide) (.slice (some ⟨W.heap.size,0,none⟩) 0 0) 0 [] rfl (World.ownsRow_made W #[] 0 (by have:=HB.out;omega) (by unfold maxLen;omega) rfl) ⟨g,0,none⟩ n cap xs rfl HX.out (fun j u hj=>by rw [Addr.add_lit,Nat.zero_add,Wa ((Below.heap_alloc W _ g hgl).trans HG.out),HC.out j (by rw [<-HX.out];exact (List.getElem?_eq_some_iff.1 hj).1)];exact hj) H1.out (by unfold maxLen;omega) (by omega) (by have:=HB.out;simp;omega) ?_;intro v' w' ke Ni Jc;have HO':=Lib.hid ke;have HG':=Lib.hid Ni;clear ke Ni Jc)
 go_wp2_with fail
 go_ret
 refine ⟨_,rfl, ?_, ?_⟩
 . exact ((Below.refl _ _).alloc (by have:=HB.out;omega) _).grown HG'.out (by have:=HB.out;rw [World.size_alloc];omega) (fun q e=>by cases e;show B<=W.heap.size;have:=HB.out;omega)
 . have:=HO'.out;rw [Nat.zero_add,List.nil_append]at this;exact this
theorem Yp(t e:TypeId)(z v:Value)(by_:Nat)(ht:Tryz.prog.underlying t=some (.slice e))(hi:(Tryz.prog.info? e).map (fun i=>(i.zero,i.size,i.bytes))=some (some z,1,by_))(hz:z.cells=#[v])(n:Nat)(hb:by_*n<=281474976710656)(h63:n<=9223372036854775807)(w:World):
  (Instr.makeSlice t (.int .i64 n) (.int .i64 n)).run Tryz.prog w= .ok (.slice (some ⟨w.heap.size,0,none⟩) n n) (w.alloc (.cells (madeCells #[v] n) e)):=by
 obtain ⟨i,h1,h2,h3,h4⟩:=info_parts hi;have SE:(i.bytes:Int)*(n:Int)<=281474976710656:=by
  have h:((by_*n:Nat):Int)<=281474976710656:=by omega
  rw [Int.natCast_mul]at h;rw [h4];exact h
 have:=run_make (P:=Tryz.prog) w t e i z ht h1 h2 .i64 .i64 n n (by omega) (Int.le_refl _) SE (by omega)
 rw [this,h3,hz];rw [Int.toNat_natCast,Nat.mul_one]
theorem qh(v:Value)(n j:Nat)(hj:j<n):(madeCells #[v] n)[j]?=some v:=by
 rw [<-Array.getElem?_toList,toList_madeCells_one];simp [hj]
theorem L5:(Tryz.prog.info? 3).map (fun i=>(i.zero,i.size,i.bytes))=some (some (.int .i64 0),1,8):=by kernel_rfl
theorem D0:(Tryz.prog.info? 285).map (fun i=>(i.zero,i.size,i.bytes))=some (some (.agg #[.slice none 0 0]),1,24):=by kernel_rfl
structure GG(W:World)(B d kb sb wb fb n nt c0 c1:Nat)(f:Nat->Int):Prop where
 dev:W.heap[d]?=some (.cells #[.slice (some ⟨kb,0,none⟩) n c0, .slice (some ⟨sb,0,none⟩) n c1, .slice (some ⟨wb,0,none⟩) n n, .slice (some ⟨fb,0,none⟩) nt nt] 188 (0,0))
 rk:tb W kb (8*n) fun k=> .int .u64 (f k)
 rs:tb W sb (8*n) fun k=> .int .u64 (f k)
 rw:tb W wb n fun _=> .int .i64 0
 rf:tb W fb nt fun _=> .slice none 0 0
 apart:[d,kb,sb,wb,fb].Nodup
 base:B<=d/\B<=kb/\B<=sb/\B<=wb/\B<=fb
def LJ(B kb n cap nt:Nat)(f:Nat->Int)(W:World)(e:Ending)(W':World):Prop:=∃d sb wb fb c1,e= .returned (.pointer (some ⟨d,0,none⟩))/\Below W.heap.size W W'/\GG W' B d kb sb wb fb n nt cap c1 f
theorem Br{w:World}{X n g cap:Nat}{f:Nat->Int}(h:w.ownsRow X 259 8 (.slice (some ⟨g,0,none⟩) n cap) n (od f (8*n)))(hn:0<n):tb w g (8*n) fun k=> .int .u64 (f k):=by
 obtain ⟨g',XO,c,e1,hb,hg,JR,Cs,hcc⟩:=lh h hn;cases e1;exact ⟨c,_,hg,fun k hk=>by rw [hcc k (by omega)];exact Vl f _ k hk⟩
theorem Mk{B kb n cap nt:Nat}{f:Nat->Int}{W wf:World}(hn:0<n)(hW:W.ownsRow B 259 8 (.slice (some ⟨kb,0,none⟩) n cap) n (od f (8*n))){d sb wb fb c1 X:Nat}(hb:Below W.heap.size W wf)
  (h0:wf.heap[d]?=some (.cells #[.slice (some ⟨kb,0,none⟩) n cap, .slice (some ⟨sb,0,none⟩) n c1, .slice (some ⟨wb,0,none⟩) n n, .slice (some ⟨fb,0,none⟩) nt nt] 188 (0,0)))
  (h1:wf.heap[wb]?=some (.cells (madeCells #[.int .i64 0] n) 3 (0,0)))(h2:wf.heap[fb]?=some (.cells (madeCells #[.slice none 0 0] nt) 285 (0,0)))
  (h3:wf.ownsRow X 259 8 (.slice (some ⟨sb,0,none⟩) n c1) n (od f (8*n)))(hx:W.heap.size<=X/\W.heap.size<=d/\W.heap.size<=wb/\W.heap.size<=fb)
  (ne:d≠wb/\d≠fb/\wb≠fb/\sb≠d/\sb≠wb/\sb≠fb):LJ B kb n cap nt f W (.returned (.pointer (some ⟨d,0,none⟩))) wf:=by
 obtain ⟨k1,k2⟩:=wg hW (k:=kb) rfl;obtain ⟨s1,s2⟩:=wg h3 (k:=sb) rfl;refine ⟨d,sb,wb,fb,c1,rfl,hb,h0,(Br hW hn).keep (hb.block _ k2),Br h3 hn,⟨_,_,h1,fun k hk=>qh _ _ _ hk⟩,⟨_,_,h2,fun k hk=>qh _ _ _ hk⟩, ?_,by omega⟩;simp only [List.nodup_cons,List.mem_cons,List.not_mem_nil,or_false,not_or,List.nodup_nil,and_true,not_false_eq_true];omega
theorem mar(w:World)(a b c:Obj):(((w.alloc a).alloc b).alloc c).heap[w.heap.size]?=some a/\(((w.alloc a).alloc b).alloc c).heap[w.heap.size+1]?=some b/\(((w.alloc a).alloc b).alloc c).heap[w.heap.size+1+1]?=some c:=by
 refine ⟨?_, ?_, ?_⟩
 . rw [Below.heap_alloc _ _ _ (by simp;omega)];exact (Yd w a b).1
 . rw [Below.heap_alloc _ _ _ (by simp)];exact (Yd w a b).2
 . have:=heap_alloc_new ((w.alloc a).alloc b) c;simpa using this
set_option maxRecDepth 100000 in
set_option maxHeartbeats 2000000 in
theorem fah(B kb n cap nt:Nat)(hn:0<n)(h1:n<=262144)(ht:nt<=64)(f:Nat->Int)(W:World)(h:W.ownsRow B 259 8 (.slice (some ⟨kb,0,none⟩) n cap) n (od f (8*n))):
  Calls Tryz.prog 104 #[.slice (some ⟨kb,0,none⟩) n cap, .int .i64 nt] W (LJ B kb n cap nt f W):=by
 have i0:(0:Int)<=(n:Int):=by omega
 have i1:(0:Int)<=(nt:Int):=by omega
 have HCL:Hid (∀w,Below W.heap.size W w->Calls Tryz.prog 203 #[.slice (some ⟨kb,0,none⟩) n cap] w (DD (od f (8*n)) n w)):=Lib.hid fun w hw=>by
  obtain ⟨g,XO,c,e1,hb,hg,JR,Cs,hcc⟩:=lh h hn;cases e1;refine C0 _ n _ c hn h1 _ w ((hw.block _ (Array.getElem?_eq_some_iff.1 hg).1).trans hg) (by rw [mJ];omega) hcc (fun u hu=> ?_);unfold od at hu;obtain ⟨q,_,rfl⟩:=List.mem_map.1 hu
  rfl
 have HH:=Lib.hid h;clear h;have UX:=Yp 145 3 _ _ 8 Tryz.underlying145 L5 rfl n (by omega) (by omega);have RH:=Yp 186 285 _ _ 24 Tryz.underlying186 D0 rfl nt (by omega) (by omega)
 go_enter Tryz.func104,Tryz.ntmps104
 go_wp2_with fail
 go_region_with (go_at_call 203;refine (HCL.out _ (by first|exact (Below.refl _ _).drew|exact ((Below.refl _ _).alloc (Nat.le_refl _) _).drew|exact (((Below.refl _ _).alloc (Nat.le_refl _) _).alloc (by simp) _).drew|exact (Below.refl _ _).drew.alloc (by simp) _|exact ((Below.refl _ _).drew.alloc (by simp) _).alloc (by simp) _)).mono ?_;rintro e w1 ⟨v,rfl,hb,ho⟩;obtain ⟨sb,c1,cc,rfl,hq⟩:=lh ho hn;have Vh:=Lib.hid hb;have M5:=Lib.hid ho;clear hb ho hq)
 all_goals
  go_wp2_with fail
  go_ret
 all_goals (have s1:=(wg M5.out rfl).1;have s2:=(wg M5.out rfl).2;have z1:=Vh.out.size)
 . obtain ⟨a,b,c⟩:=mar w1 (.cells (madeCells #[.int .i64 0] n) 3) (.cells (madeCells #[.slice none 0 0] nt) 285) (.cells #[.slice (some ⟨kb,0,none⟩) n cap, .slice (some ⟨sb,0,none⟩) n c1, .slice (some ⟨w1.heap.size,0,none⟩) n n, .slice (some ⟨w1.heap.size+1,0,none⟩) nt nt] 188);refine Mk hn HH.out ?_ c a b (((M5.out.alloc _).alloc _).alloc _) ?_ ?_
   . exact ((((Below.refl _ _).drew.trans Vh.out).alloc z1 _).alloc (by simp at z1⊢;omega) _).alloc (by simp at z1⊢;omega) _
   all_goals (simp at z1 s1 s2⊢;omega)
 . obtain ⟨a,b,c⟩:=mar w1 (.cells (madeCells #[.slice none 0 0] nt) 285) (.cells (madeCells #[.int .i64 0] n) 3) (.cells #[.slice (some ⟨kb,0,none⟩) n cap, .slice (some ⟨sb,0,none⟩) n c1, .slice (some ⟨w1.heap.size+1,0,none⟩) n n, .slice (some ⟨w1.heap.size,0,none⟩) nt nt] 188);refine Mk hn HH.out ?_ c b a (((M5.out.alloc _).alloc _).alloc _) ?_ ?_
   . exact ((((Below.refl _ _).drew.trans Vh.out).alloc z1 _).alloc (by simp at z1⊢;omega) _).alloc (by simp at z1⊢;omega) _
   all_goals (simp at z1 s1 s2⊢;omega)
 . have e0:=(Vh.out.block W.heap.size (by simp)).trans (heap_alloc_new W _)
   have zz:W.heap.size+1<=w1.heap.size:=by have:=z1;simp at this;omega
   refine Mk hn HH.out ?_ (Yd w1 _ _).2 ((Below.heap_alloc _ _ _ (by simp;omega)).trans ((Below.heap_alloc w1 _ W.heap.size (by omega)).trans e0)) (Yd w1 _ _).1 ((M5.out.alloc _).alloc _) ?_ ?_
   . exact (((((Below.refl _ _).alloc (Nat.le_refl _) _).drew.trans (Vh.out.mono (by simp))).alloc (by omega) _).alloc (by simp;omega) _)
   all_goals (simp at z1 s1 s2⊢;omega)
 . have e0:=(Vh.out.block W.heap.size (by simp;omega)).trans (Yd W _ _).1
   have e1:=(Vh.out.block (W.heap.size+1) (by simp)).trans (Yd W _ _).2
   have zz:W.heap.size+1+1<=w1.heap.size:=by have:=z1;simp at this;omega
   refine Mk hn HH.out ?_ (heap_alloc_new w1 _) ((Below.heap_alloc w1 _ W.heap.size (by omega)).trans e0) ((Below.heap_alloc w1 _ (W.heap.size+1) (by omega)).trans e1) (M5.out.alloc _) ?_ ?_
   . exact ((((Below.refl _ _).alloc (Nat.le_refl _) _).alloc (by simp) _).drew.trans (Vh.out.mono (by simp;omega))).alloc (by omega) _
   all_goals (simp at z1 s1 s2⊢;omega)
 . have e0:=(Vh.out.block W.heap.size (by simp)).trans (heap_alloc_new W _)
   have zz:W.heap.size+1<=w1.heap.size:=by have:=z1;simp at this;omega
   refine Mk hn HH.out ?_ (Yd w1 _ _).2 (Yd w1 _ _).1 ((Below.heap_alloc _ _ _ (by simp;omega)).trans ((Below.heap_alloc w1 _ W.heap.size (by omega)).trans e0)) ((M5.out.alloc _).alloc _) ?_ ?_
   . exact (((((Below.refl _ _).alloc (Nat.le_refl _) _).drew.trans (Vh.out.mono (by simp))).alloc (by omega) _).alloc (by simp;omega) _)
   all_goals (simp at z1 s1 s2⊢;omega)
 . have e0:=(Vh.out.block W.heap.size (by simp;omega)).trans (Yd W _ _).1
   have e1:=(Vh.out.block (W.heap.size+1) (by simp)).trans (Yd W _ _).2
   have zz:W.heap.size+1+1<=w1.heap.size:=by have:=z1;simp at this;omega
   refine Mk hn HH.out ?_ (heap_alloc_new w1 _) ((Below.heap_alloc w1 _ (W.heap.size+1) (by omega)).trans e1) ((Below.heap_alloc w1 _ W.heap.size (by omega)).trans e0) (M5.out.alloc _) ?_ ?_
   . exact ((((Below.refl _ _).alloc (Nat.le_refl _) _).alloc (by simp) _).drew.trans (Vh.out.mono (by simp;omega))).alloc (by omega) _
   all_goals (simp at z1 s1 s2⊢;omega)
def Zh(n:Nat)(t:Int):Int:=if¬(1<=t/\t<=64)then 1 else if ph n≠0 then ph n else if n=0 then 3 else 0
theorem MJ{n:Nat}{t:Int}(h:Zh n t=0):(1<=t/\t<=64)/\ph n=0/\0<n:=by
 unfold Zh at h;by_cases h1:1<=t/\t<=64
 . rw [if_neg (by simpa using h1)]at h;by_cases h2:ph n=0
   . rw [if_neg (by simpa using h2)]at h;by_cases h3:n=0
     . rw [if_pos h3]at h;omega
     . exact ⟨h1,h2,by omega⟩
   . rw [if_pos h2]at h;exact absurd h h2
 . rw [if_pos h1]at h;omega
theorem MP{n:Nat}(h:ph n=0):8*(n/8)=n/\n/8<=262144:=by
 unfold ph at h
 split at h
 . omega
 . split at h<;>omega
def gah(f:Nat->Int)(n:Nat)(t:Int)(W:World)(e:Ending)(W':World):Prop:=
 Below W.heap.size W W'/\(Zh n t≠0/\e= .returned (.tuple #[.pointer none, .int .i64 (Zh n t)])\/
  Zh n t=0/\∃d kb sb wb fb c0 c1,e= .returned (.tuple #[.pointer (some ⟨d,0,none⟩), .int .i64 0])/\GG W' W.heap.size d kb sb wb fb (n/8) t.toNat c0 c1 f)
theorem NJ(a:Option Addr)(b off n cap:Nat)(ha:0<n->a=some ⟨b,off,none⟩)(hn:n<=cap)(hc:cap<=9223372036854775807)(t:Int)(f:Nat->Int)(w:World)(h0:Zh n t=0)(hb:b<w.heap.size)(hw:∀j,j<n->w.cell? ⟨b,off+j,none⟩=some (.int .u64 (f j))):
  Calls Tryz.prog 43 #[.slice a n cap, .int .i64 t] w (gah f n t w):=by
 obtain ⟨h1,h2,h3⟩:=MJ h0;obtain ⟨h4,h5⟩:=MP h2;have HT:=Lib.hid (JO t w);rw [ga h1]at HT;have HC:=Lib.hid (lar a b off n cap (fun _=>ha h3) hn hc h2 f w (fun _=>hb) hw);unfold jU at HC;obtain ⟨m,hm⟩:∃m,m=n/8:=⟨_,rfl⟩;rw [<-hm]at HC;have HM:Hid (n/8=m):=Lib.hid hm.symm;obtain ⟨k,rfl⟩:=Int.eq_ofNat_of_zero_le (show 0<=t by omega);have HD:Hid (∀g c w1,w1.ownsRow w.heap.size 259 8 (.slice (some ⟨g,0,none⟩) m c) m (od f (8*m))->Calls Tryz.prog 104 #[.slice (some ⟨g,0,none⟩) m c, .int .i64 k] w1 (LJ w.heap.size g m c k f w1)):=Lib.hid fun g c w1 h=>fah w.heap.size g m c k (by omega) (by omega) (by omega) f w1 h
 have HE:=Lib.hid h0;have sI:0<m:=by omega
 have m1:((m:Int)==0)=false:=by simp;omega
 have m2:(m==0)=false:=by simp;omega
 have HS:Hid (8*m=n):=Lib.hid (by omega);clear h0 h1 h2 h3 h4 h5 hw ha hn hc hm hb
 go_enter Tryz.func43,Tryz.ntmps43
 go_wp2_with fail
 refine HT.out.mono ?_
 rintro e w' ⟨rfl,hw⟩;cases hw
 go_wp2_with fail
 with_reducible refine HC.out.mono ?_
 rintro e w1 ⟨v,rfl,hb,ho⟩;obtain ⟨g,c,cc,rfl,-⟩:=lh ho sI;have HB:=Lib.hid hb;have HDD:=Lib.hid (HD.out g c w1 ho);clear hb ho HD
 go_wp2_with fail
 with_reducible refine HDD.out.mono ?_
 rintro e w2 ⟨d,sb,wb,fb,c1,rfl,Uj,hd⟩;have Iz:=Lib.hid Uj;have HDV:=Lib.hid hd;clear Uj hd
 go_wp2_with fail
 go_ret2
 exact ⟨HB.out.trans (Iz.out.mono HB.out.size),Or.inr ⟨HE.out,d,g,sb,wb,fb,c,c1,rfl,by rw [HM.out];exact HDV.out⟩⟩
theorem ZL:(Tryz.prog.info? 43).map (fun i=>(i.zero,i.size,i.bytes))=some (some (.int .u64 0),1,8):=by kernel_rfl
def nar(d np:Nat)(W:World)(e:Ending)(W':World):Prop:=
 ∃m pb,e= .returned (.tuple #[.pointer (some ⟨m,0,none⟩), .int .i64 0])/\Below W.heap.size W W'/\W.heap.size<=m/\W.heap.size<=pb/\m≠pb/\
  Mj W' m (.pointer (some ⟨d,0,none⟩)) (.slice (some ⟨pb,0,none⟩) np np) 0 0 ⟨0,0,0,0,0,false⟩/\tb W' pb np fun _=> .int .u64 0
theorem NP(d np:Nat)(hp:np<=262144)(w:World):Calls Tryz.prog 44 #[.pointer (some ⟨d,0,none⟩), .int .i64 np] w (nar d np w):=by
 have UX:=Yp 99 43 _ _ 8 Tryz.underlying99 ZL rfl np (by omega) (by omega);have d0:decide ((np:Int)<0)=false:=ua (by omega);have d1:decide (262144<(np:Int))=false:=ua (by omega);have i0:(0:Int)<=(np:Int):=by omega
 go_enter Tryz.func44,Tryz.ntmps44
 go_wp2_with fail
 go_ret2
 refine ⟨w.heap.size+1,w.heap.size,rfl,((Below.refl _ _).alloc (Nat.le_refl _) _).alloc (by simp) _,by omega,by omega,by omega,(Yd w _ _).2,⟨_,_,(Yd w _ _).1,fun k hk=>qh _ _ _ hk⟩⟩
def Mv.start(m d kb sb wb fb pb n nt np c0 c1:Nat)(f:Nat->Int):Mv:=
 {m,d,kb,sb,wb,fb,pb,n,nt,np,c0,c1,c2:=n,c3:=nt,c4:=np,kept:=f,seen:=f,pass:=fun _=>0,wr:=fun _=>0,fl:=fun _=>[],fv:=fun _=> .slice none 0 0,ck:=0,bd:=0,la:=⟨0,0,0,0,0,false⟩,wm:=0}
theorem OP{W W':World}{B m d kb sb wb fb pb n nt np c0 c1:Nat}{f:Nat->Int}(h:GG W B d kb sb wb fb n nt c0 c1 f)(hb:Below W.heap.size W W')(hm:W.heap.size<=m)(hp:W.heap.size<=pb)(hmp:m≠pb)
  (hr:Mj W' m (.pointer (some ⟨d,0,none⟩)) (.slice (some ⟨pb,0,none⟩) np np) 0 0 ⟨0,0,0,0,0,false⟩)(hpr:tb W' pb np fun _=> .int .u64 0)(n0:0<n)(n1:n<=262144)(t1:nt<=64)(p1:np<=262144):
  Ga W' (Mv.start m d kb sb wb fb pb n nt np c0 c1 f)/\∀k,(Mv.start m d kb sb wb fb pb n nt np c0 c1 f).own k->B<=k\/W.heap.size<=k:=by
 have hd:=(Array.getElem?_eq_some_iff.1 h.dev).1
 have l1:=h.rk.lt;have l2:=h.rs.lt;have l3:=h.rw.lt;have l4:=h.rf.lt;have ap:=h.apart;refine ⟨⟨hr,(hb.block d hd).trans h.dev,h.rk.keep (hb.block _ l1),h.rs.keep (hb.block _ l2),h.rw.keep (hb.block _ l3),h.rf.keep (hb.block _ l4),hpr,fun t _=>Or.inl ⟨rfl,rfl⟩, ?_,(fun t _ g hg=>by cases hg),(fun t _ t' _ _ g hg=>by cases hg),n0,n1,t1,p1,fun t _=>List.Pairwise.nil,(fun t _ x hx=>by cases hx),Int.le_refl _,Int.le_refl _,Int.le_refl _,fun k _=>⟨Int.le_refl _,Int.le_refl _⟩⟩, ?_⟩
 . simp only [List.nodup_cons,List.mem_cons,List.not_mem_nil,or_false,not_or,List.nodup_nil,and_true,not_false_eq_true]at ap;simp only [Mv.blocks,Mv.start,List.nodup_cons,List.mem_cons,List.not_mem_nil,or_false,not_or,List.nodup_nil,and_true,not_false_eq_true];omega
 . rintro k (hk|⟨t,_,e⟩)
   . have b:=h.base;simp only [Mv.blocks,Mv.start,List.mem_cons,List.not_mem_nil,or_false]at hk;omega
   . cases e
structure Init(R:Rv)(f:Nat->Int)(n nt np:Nat):Prop where
 hn:R.n=n
 hnt:R.nt=nt
 Zj:R.np=np
 oar:∀k,k<8*n->R.kept k=f k
 qar:∀k,k<8*n->R.seen k=f k
 rar:∀k,k<np->R.pass k=0
 rL:∀t,t<nt->∀j,j<n->R.fl t j=false
 jg:R.ck=0
 hbd:R.bd=0
 hla:R.la=⟨0,0,0,0,0,false⟩
def tar(f:Nat->Int)(n nt np:Nat)(l:Nat->Acc)(k:Nat)(M:Mv)(r:Nat):Prop:=∀R,Init R f n nt np->Alike M (ZO R l k).1/\r=(ZO R l k).2
theorem QP(m d kb sb wb fb pb n nt np c0 c1:Nat)(f:Nat->Int)(l:Nat->Acc):tar f n nt np l 0 (Mv.start m d kb sb wb fb pb n nt np c0 c1 f) 0:=fun R h=>
 ⟨⟨h.hn.symm,h.hnt.symm,h.Zj.symm,fun k hk=>(h.qar k hk).symm,fun k hk=>(h.oar k hk).symm,fun k hk=>(h.rar k hk).symm,fun t ht j hj=>by
   show R.fl t j=true<->(j:Int)∈([]:List Int)
   rw [h.rL t ht j hj];simp,h.jg.symm,h.hbd.symm,h.hla.symm⟩,rfl⟩
theorem Ux(x y:Acc):dJ x y=true<->x=y:=by
 obtain ⟨a,b,c,d,e,f⟩:=x;obtain ⟨a',b',c',d',e',f'⟩:=y;simp [dJ];constructor
 . rintro ⟨⟨⟨⟨⟨h1,h2⟩,h3⟩,h4⟩,h5⟩,h6⟩;exact ⟨h1,h2,h3,h4,h5,h6⟩
 . rintro ⟨h1,h2,h3,h4,h5,h6⟩;exact ⟨⟨⟨⟨⟨h1,h2⟩,h3⟩,h4⟩,h5⟩,h6⟩
theorem uar(x y:Acc)(w:World):(binOp .neq 112 (.agg x.cells) (.agg y.cells)).run Tryz.prog w= .ok (.bool (!dJ x y)) w:=by
 simp only [Acc.cells]
 go_simp
 by_cases h:dJ x y=true
 . have:=(Ux x y).1 h
   subst this;rw [h];simp
 . rw [show dJ x y=false by simpa using h]
   repeat' split
   all_goals first|rfl|(exfalso;apply h;rw [Ux];obtain ⟨a,b,c,d,e,f⟩:=x;obtain ⟨a',b',c',d',e',f'⟩:=y;simp_all)
theorem ED{w:World}{X n g cap:Nat}{f:Nat->Int}(h:w.ownsRow X 43 1 (.slice (some ⟨g,0,none⟩) n cap) n (od f n))(hn:0<n):tb w g n fun k=> .int .u64 (f k):=by
 obtain ⟨g',XO,c,e1,hb,hg,JR,Cs,hcc⟩:=lh h hn;cases e1;exact ⟨c,_,hg,fun k hk=>by rw [hcc k (by omega)];exact Vl f _ k hk⟩
def Dv(f:Nat->Int)(n:Nat)(W:World)(e:Ending)(W':World):Prop:=∃g c,e= .returned (.slice (some ⟨g,0,none⟩) n c)/\Below W.heap.size W W'/\tb W' g n (fun k=> .int .u64 (f k))/\W.heap.size<=g
theorem mr.to{f:Nat->Int}{n:Nat}{W W':World}{e:Ending}(h:mr f n W e W')(hn:0<n):Dv f n W e W':=by
 obtain ⟨v,rfl,hb,ho⟩:=h;obtain ⟨g,cap,c,rfl,hg,-⟩:=lh ho hn;exact ⟨g,cap,rfl,hb,ED ho hn,hg⟩
theorem aM(M:Mv)(W:World)(h:Ga W M):Calls Tryz.prog 49 #[.pointer (some ⟨M.d,0,none⟩)] W (Dv M.seen (8*M.n) W):=by
 have hd:=(Mb h.dev).2.1
 have HW:=Lib.hid ((BL M.sb M.n M.c1 h.n1 M.seen W h.seen).mono fun e w hw=>hw.to (by have:=h.n0;omega));clear h;generalize 8*M.n=N at*
 go_enter Tryz.func49,Tryz.ntmps49
 go_wp2_with fail
 with_reducible refine HW.out.mono ?_
 rintro e w ⟨g,c,rfl,hb,hr,hg⟩;have H:=Lib.hid (And.intro hb (And.intro hr hg));clear hb hr hg
 go_wp2_with fail
 go_ret
 exact ⟨g,c,rfl,H.out.1,H.out.2⟩
theorem F0(M:Mv)(W:World)(h:Ga W M):Calls Tryz.prog 76 #[.pointer (some ⟨M.d,0,none⟩)] W (Dv M.kept (8*M.n) W):=by
 have hd:=(Mb h.dev).1
 have HW:=Lib.hid ((BL M.kb M.n M.c0 h.n1 M.kept W h.kept).mono fun e w hw=>hw.to (by have:=h.n0;omega));clear h;generalize 8*M.n=N at*
 go_enter Tryz.func76,Tryz.ntmps76
 go_wp2_with fail
 with_reducible refine HW.out.mono ?_
 rintro e w ⟨g,c,rfl,hb,hr,hg⟩;have H:=Lib.hid (And.intro hb (And.intro hr hg));clear hb hr hg
 go_wp2_with fail
 go_ret
 exact ⟨g,c,rfl,H.out.1,H.out.2⟩
theorem bM(g h n ca cb:Nat)(hn:n<=2097152)(f f':Nat->Int)(W:World)(h1:tb W g n fun k=> .int .u64 (f k))(h2:tb W h n fun k=> .int .u64 (f' k))(e:∀k,k<n->f k=f' k):
  Calls Tryz.prog 75 #[.slice (some ⟨g,0,none⟩) n ca, .slice (some ⟨h,0,none⟩) n cb] W (Fc (.bool true) W):=by
 exact Kaf _ _ n ca cb hn f W fun _=>⟨g,h,rfl,rfl,h1.lt,h2.lt,fun j hj=>⟨h1.cell hj,by rw [e j hj];exact h2.cell hj⟩⟩
theorem G0(M:Mv)(W:World)(h:Ga W M):Calls Tryz.prog 74 #[.pointer (some ⟨M.m,0,none⟩)] W (Fc (.agg M.la.cells) W):=by
 obtain ⟨_,_,_,_,y4,y5,y6,y7,y8,y9,_⟩:=qd h.row;exact Iaf M.m _ _ _ _ _ _ W (h.lt (Or.inl (by simp [Mv.blocks]))) y4 y5 y6 y7 y8 y9
theorem qU(M:Mv)(W:World)(h:Ga W M):Calls Tryz.prog 72 #[.pointer (some ⟨M.m,0,none⟩)] W (Gc (.int .i64 M.ck) W):=
 iL M.m M.ck W (qd h.row).2.2.1
end Go.Proofs.YtfnkmolffhfpoaaGreat
