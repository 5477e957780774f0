/- -/
import Derived.Test.YtfnkmolffhfpoaaGreatHq16
import Derived.StillTailTactics
import Derived.Deep.Quiet
import Derived.OrdersHeld
import Derived.Deep.RegionHeld3
import Derived.BigQuiet
import Derived.Deep.QuietTactic
import Derived.Test.YtfnkmolffhfpoaaGreatHq21
import Derived.Test.YtfnkmolffhfpoaaGreatHq17
import Derived.Test.YtfnkmolffhfpoaaGreatHq18
import Derived.IntWalk
set_option linter.unusedVariables false
set_option linter.unusedSimpArgs false
namespace Go.Proofs.YtfnkmolffhfpoaaGreat
section
variable{P:Program}{ops:Array Oper}{md:Region.Mode}{C:World->Prop}
def PJ(md:Region.Mode)(ops:Array Oper)(fl:List Nat)(n:Nat):Bool:=
 (List.range n).all fun i=>fl.contains i||(List.range (n+1)).any fun j=>decide (i<j)&&Region.waitsFor md ops j i
theorem Kt{fl:List Nat}{n:Nat}{ga:Array Bool}(hs:PJ md ops fl n=true)(hc:Region.chainB md ops n=true)(hn:n<ops.size)(inv:HeadInv md ops n ga)(hf:∀i∈fl,ga.getD i true=true):
  ∀(d i:Nat),n -i=d->i<n->ga.getD i true=false->∀t,n<=t->t∉Region.ready md ops ga:=by
 intro d
 induction d using Nat.strongRecOn with
 |_ d ih=>
  intro i hd hi BG t ht hr;obtain ⟨_,ot,hot,ug⟩:=mem_ready.1 hr
  have Oaw:t<ops.size:=(Array.getElem?_eq_some_iff.1 hot).1
  by_cases htn:t=n
  . subst htn;have h1:=List.all_eq_true.1 hs i (List.mem_range.2 hi)
    simp only [Bool.or_eq_true]at h1;rcases h1 with h1|h1
    . have:=hf i (by simpa using h1);rw [BG]at this;cases this
    obtain ⟨j,hj,hj2⟩:=List.any_eq_true.1 h1
    simp only [Bool.and_eq_true,decide_eq_true_eq]at hj2;obtain ⟨oj,hoj,e,he,hb,hon⟩:=Region.waitsFor_spec hj2.2
    have haG:j<=t:=by have:=List.mem_range.1 hj;omega
    by_cases hjt:j=t
    . subst hjt;obtain rfl:oj=ot:=Option.some.inj (hoj.symm.trans hot);have h2:=ug e he hb;rw [hon,getD_both BG]at h2;cases h2
    . cases hl:ga.getD j false with
      |true=>
       have h2:=inv.closed j oj hoj hl e he hb;rw [hon,getD_both BG]at h2;cases h2
      |false=>exact ih (t -j) (by omega) j rfl (by omega) (getD_in (by rw [inv.size];omega) hl) t (Nat.le_refl _) hr
  . have h1:=List.all_eq_true.1 hc t (List.mem_range.2 Oaw)
    simp only [Bool.or_eq_true,decide_eq_true_eq]at h1;rcases h1 with h1|h1
    . omega
    . obtain ⟨o',jM,e,he,hb,hon⟩:=Region.waitsFor_spec h1;obtain rfl:o'=ot:=Option.some.inj (jM.symm.trans hot);have h2:=ug e he hb;rw [hon,getD_both (inv.tail (t -1) (by omega) (by omega))]at h2;cases h2
def Tq(P:Program)(md:Region.Mode)(ops:Array Oper)(C:World->Prop)(n:Nat)(L:Array Bool->Act->Prop):Nat->Array Bool->Act->Prop
 |0,ga,a=>L ga a
 |f+1,ga,a=>Region.ready md ops ga≠[]/\∀i∈Region.ready md ops ga,i<n/\qOp P ops C i (Tq P md ops C n L f (ga.setIfInBounds i true)) a
theorem Lt{n g:Nat}{L:Array Bool->Act->Prop}{Q':Exit->Act->World->Prop}(hL:∀ga a w,C w->L ga a->wpAny P md ops Q' g ga a w):
  ∀(f:Nat) (ga:Array Bool) (a:Act) (w:World),C w->Tq P md ops C n L f ga a->wpAny P md ops Q' (f+g) ga a w
 |0,ga,a,w,hw,h=>by rw [Nat.zero_add];exact hL _ _ _ hw h
 |f+1,ga,a,w,hw,h=>by
  rw [show f+1+g=(f+g)+1 by omega];exact ⟨fun h0=>absurd h0 h.1,fun i hi=>wpOp_of_qOp hw (fun a' w' hw' h'=>Lt hL f _ a' w' hw' h') (h.2 i hi).2⟩
theorem Js{ga:Array Bool}{fl:List Nat}(hf:∀i∈fl,ga.getD i true=true)(j:Nat):∀i∈fl,(ga.setIfInBounds j true).getD i true=true:=fun i hi=>by
 by_cases h:j=i
 . subst h;rcases Nat.lt_or_ge j ga.size with h'|h'
   . simp [h']
   . simp [h']
 . rw [getD_set_ne true h];exact hf i hi
theorem EH{fl:List Nat}{n i:Nat}{oi:Oper}{v:Value}{L:Array Bool->Act->Prop}(hi:ops[i]?=some oi)(Kw:∀(j:Nat) (o:Oper) cs b,ops[j]?=some o->o.op≠ .select cs b)
  (hs:PJ md ops fl n=true)(hc:Region.chainB md ops n=true)(hn:n<ops.size)(ag:i<n)
  (jQ:∀ga a,L ga a->∀j∈Region.ready md ops ga,n<=j):
  ∀(f:Nat) (ga:Array Bool) (a:Act),HeadInv md ops n ga->(∀i∈fl,ga.getD i true=true)->
   (∀j oj,ops[j]?=some oj->j≠i->ga.getD j true=false->(∀e∈oj.after,Region.binds md e=true->e.on≠i)->oi.apart ops oj=true)->
   i∈Region.ready md ops ga->YieldsIn P ops C oi v a->
   Tq P md ops C n L f (ga.setIfInBounds i true) (a.put oi.dst v)->Tq P md ops C n L (f+1) ga a:=by
 intro f
 induction f with
 |zero=>
  intro ga a inv AM _ hr hy H;have BG:=(mem_ready.1 hr).1
  refine ⟨fun h=>(by rw [h]at hr;cases hr),fun j hj=> ?_⟩;have hjn:j<n:=by
   rcases Nat.lt_or_ge j n with h|h
   . exact h
   . exact absurd hj (Kt hs hc hn inv AM _ i rfl ag BG j h)
  refine ⟨hjn, ?_⟩;by_cases DX:j=i
  . subst DX;exact hy.qOp hi H
  . have:=jQ _ _ H j (ready_mono hj DX);omega
 |succ f ih=>
  intro ga a inv AM EX hr hy H;have BG:=(mem_ready.1 hr).1
  refine ⟨fun h=>(by rw [h]at hr;cases hr),fun j hj=> ?_⟩;have hjn:j<n:=by
   rcases Nat.lt_or_ge j n with h|h
   . exact h
   . exact absurd hj (Kt hs hc hn inv AM _ i rfl ag BG j h)
  refine ⟨hjn, ?_⟩;by_cases DX:j=i
  . subst DX;exact hy.qOp hi H
  . have h1:=(H.2 j (ready_mono hj DX)).2
    obtain ⟨Mai,oj,hoj,ug⟩:=mem_ready.1 hj
    have Qaw:∀e∈oj.after,Region.binds md e=true->e.on≠i:=fun e he hb heq=>by
     have h1:=ug e he hb;rw [heq,getD_both BG]at h1;cases h1
    have h2:=qOp_put hoj (EX j oj hoj DX Mai Qaw) (fun cs b=>Kw i oi cs b hi) (fun cs b=>Kw j oj cs b hoj) hy h1;have T8:∀k ok,ops[k]?=some ok->k≠i->(ga.setIfInBounds j true).getD k true=false->
      (∀e∈ok.after,Region.binds md e=true->e.on≠i)->oi.apart ops ok=true:=fun k ok hk hki BG Ch=>by
     refine EX k ok hk hki ?_ Ch
     by_cases hjk:j=k
     . subst hjk;exact Mai
     . rw [getD_set_ne true hjk]at BG;exact BG
    refine qOp_mono (fun a' h3=>ih (ga.setIfInBounds j true) a' (inv.set hj hjn) (Js AM j) T8 (ready_mono hr (Ne.symm DX)) h3.1 ?_) h2;rw [Array.setIfInBounds_comm _ _ DX];exact h3.2
def QJ(md:Region.Mode)(ops:Array Oper)(g n:Nat):List Nat->Array Bool->Bool
 |[],ga=>Region.seqB md ops g n ga
 |k::ks,ga=>(Region.ready md ops ga).contains k&&Region.free md ops ga k&&decide (k<n)&&QJ md ops g n ks (ga.setIfInBounds k true)
theorem SE{fl:List Nat}{n g:Nat}{Lq:Act->Prop}(Kw:Region.noSelect ops=true)(hs:PJ md ops fl n=true)(hc:Region.chainB md ops n=true)(hn:n<ops.size):
  ∀(ix:List Nat) (ga:Array Bool) (a:Act),HeadInv md ops n ga->(∀i∈fl,ga.getD i true=true)->
  QJ md ops g n ix ga=true->wpQuiet P ops C Lq (ix.filterMap fun i=>ops[i]?) a->
  Tq P md ops C n (fun Cg a'=>Region.seqB md ops g n Cg=true/\Lq a') ix.length ga a
 |[],ga,a,inv,AM,hB,h=>⟨hB,h⟩
 |k::ks,ga,a,inv,AM,hB,h=>by
  simp only [QJ,Bool.and_eq_true,decide_eq_true_eq]at hB;obtain ⟨⟨⟨hr,hf⟩,bq⟩,hB'⟩:=hB;have qP:k∈Region.ready md ops ga:=by simpa using hr
  obtain ⟨_,o,h0,_⟩:=mem_ready.1 qP
  rw [List.filterMap_cons,h0]at h;have bo:qOp P ops C k (wpQuiet P ops C Lq (ks.filterMap fun i=>ops[i]?)) a:=by unfold qOp;simp only [h0];exact h
  obtain ⟨v,hy,hK⟩:=yieldsIn_of_qOp h0 bo;exact EH h0 (Region.noSelect_spec Kw) hs hc hn bq (fun Cg a' hL=>seqB_ready hL.1) ks.length ga a inv AM (Region.free_spec h0 hf) qP hy
   (SE Kw hs hc hn ks _ _ (inv.set qP bq) (Js AM k) hB' hK)
def eC(md:Region.Mode)(ops:Array Oper)(n:Nat)(K:Array Bool->Bool):List Nat->Array Bool->Bool
 |[],ga=>K ga
 |k::ks,ga=>(Region.ready md ops ga).contains k&&Region.free md ops ga k&&decide (k<n)&&
  (match ops[k]?with|some o=>(match o.op with| .move _=>o.guard.isNone|_=>false)|none=>false)&&eC md ops n K ks (ga.setIfInBounds k true)
def uh(ops:Array Oper):List Nat->Act->Act
 |[],a=>a
 |k::ks,a=>uh ops ks (match ops[k]?with|some o=>(match o.op with| .move x=>a.put o.dst (a.eval x)|_=>a)|none=>a)
theorem Sz{Q:Exit->Act->World->Prop}:∀(fuel:Nat) (ga:Array Bool) (a:Act) (w:World),wpAny P md ops Q fuel ga a w->wpAnyH P md ops Q (fun _=>True) fuel ga a w
 |0,_,_,_,h=>h
 |fuel+1,_,_,_,h=>⟨h.1,fun i hi=>wpOp_mono (fun a' w' h'=>⟨trivial,Sz fuel _ a' w' h'⟩) (h.2 i hi)⟩
theorem Uq{Q:Exit->Act->World->Prop}{n:Nat}{K:Array Bool->Bool}(Kw:Region.noSelect ops=true)(hQ:∀c a d v w,Q (.panic c) (Act.put a d v) w->Q (.panic c) a w)(fuel:Nat):
  ∀(fl done:List Nat) (ga:Array Bool) (a:Act) (w:World),HeadInv md ops n ga->(∀i∈done,ga.getD i true=true)->eC md ops n K fl ga=true->
   (∀Cg,HeadInv md ops n Cg->(∀i∈done++fl,Cg.getD i true=true)->K Cg=true->wpAny P md ops Q fuel Cg (uh ops fl a) w)->
   wpAnyH P md ops Q (fun _=>True) (fl.length+fuel) ga a w
 |[],done,ga,a,w,inv,hd,hB,h=>by
  rw [List.length_nil,Nat.zero_add];exact Sz _ _ _ _ (h ga inv (by simpa using hd) hB)
 |k::ks,done,ga,a,w,inv,hd,hB,h=>by
  simp only [eC,Bool.and_eq_true,decide_eq_true_eq]at hB;obtain ⟨⟨⟨⟨hr,hf⟩,bq⟩,hmv⟩,hB'⟩:=hB;have qP:k∈Region.ready md ops ga:=by simpa using hr
  obtain ⟨BG,o,h0,_⟩:=mem_ready.1 qP
  rw [h0]at hmv;simp only [uh,h0]at h;cases Gl:o.op with
  |move x=>
   simp only [Gl]at hmv h;have hg:o.guard=none:=by simpa using hmv
   have hy:YieldsIf P ops (fun _=>True) o (a.eval x) a:= .inl ⟨by simp [Region.wanted,hg],fun w _=>by simp [execOp,Gl,Sem.run_pure]⟩
   rw [show(k::ks).length+fuel=(ks.length+fuel)+1 by simp;omega];refine wpAnyH_take h0 Kw hf hr (fun c a w=>hQ c a _ _ w) hy trivial ?_
   refine Uq Kw hQ fuel ks (done++[k]) _ _ w (inv.set qP bq) (fun i hi=> ?_) hB' (fun Cg i1 i2 i3=>h Cg i1 (by simpa using i2) i3);rw [List.mem_append]at hi;rcases hi with hi|hi
   . exact Js hd k i hi
   . obtain rfl:i=k:=by simpa using hi
     rcases Nat.lt_or_ge i ga.size with h'|h'
     . simp [h']
     . simp [h']
  |_=>simp [Gl]at hmv
def qtB(md:Region.Mode)(ops:Array Oper)(fl ix:List Nat)(n:Nat):Bool:=
 Region.noSelect ops&&decide (n<ops.size)&&decide (fl.length+ix.length=n)&&PJ md ops fl n&&Region.chainB md ops n&&
  eC md ops n (fun ga=>QJ md ops (ops.size -n) n ix ga) fl (Array.replicate ops.size false)
end
theorem U8{P:Program}{Q:Exit->Act->World->Prop}{a:Act}{w:World}{l:List Oper}(C:World->Prop)(fl ix:List Nat)(n:Nat)
  (hB:qtB .any l.toArray fl ix n=true)(hQ:∀c a d v w,Q (.panic c) (Act.put a d v) w->Q (.panic c) a w)(hC:C w)
  (h:wpQuiet P l.toArray C (fun a'=>∀w',C w'->wpList P l.toArray Q (l.drop n) a' w') (ix.filterMap fun i=>l[i]?) (uh l.toArray fl a)):wpAny P .any l.toArray Q l.toArray.size (Array.replicate l.toArray.size false) a w:=by
 simp only [qtB,Bool.and_eq_true,decide_eq_true_eq]at hB;obtain ⟨⟨⟨⟨⟨Kw,hn⟩,hlen⟩,hs⟩,hc⟩,AM⟩:=hB;have hn':n<l.length:=by simpa using hn
 have hdl:(l.drop n).length=l.toArray.size -n:=by simp
 have Taw:HeadInv .any l.toArray n (Array.replicate l.toArray.size false):=
  ⟨by simp,fun j oj _ hl=>(by rw [getD_replicate_false]at hl;cases hl),fun t _ ht=>getD_in (by simpa using ht) (getD_replicate_false _ _)⟩
 have Vh:l.toArray.size=fl.length+(ix.length+(l.toArray.size -n)):=by omega
 have key:=Uq (P:=P) (Q:=Q) Kw hQ (ix.length+(l.toArray.size -n)) fl [] _ a w Taw (fun i hi=>by cases hi) AM (fun Cg i1 i2 i3=>by
  have H:=SE (P:=P) (C:=C) (md:= .any) (g:=l.toArray.size -n) Kw hs hc hn ix Cg (uh l.toArray fl a) i1 (by simpa using i2) i3 (by simpa using h);exact Lt (Q':=Q) (g:=l.toArray.size -n) (fun ga a' w' hw' hL=>by
   have:=wpAny_of_seq (md:= .any) (Q':=Q) (l.drop n) n ga a' w' (fun j=>by simp [List.getElem?_drop]) (by rw [hdl];exact hL.1) (hL.2 w' hw');rwa [hdl]at this) _ _ _ _ hC H)
 rw [<-Vh]at key;exact wpAny_of_held _ _ _ _ key
def Lw(ops:Array Oper)(fl:List Nat):Bool:=fl.all fun k=>match ops[k]?with|some o=>(match o.op with| .move _=>o.guard.isNone|_=>false)|none=>false
theorem Mt{P:Program}{ops:Array Oper}{K:Act->Prop}:∀(fl:List Nat) (a:Act),Lw ops fl=true->wpQuiet P ops (fun _=>True) K (fl.filterMap fun i=>ops[i]?) a->K (uh ops fl a)
 |[],a,_,h=>h
 |k::ks,a,hm,h=>by
  simp only [Lw,List.all_cons,Bool.and_eq_true]at hm;obtain ⟨hk,hks⟩:=hm;cases h0:ops[k]?with
  |none=>simp [h0]at hk
  |some o=>
   simp only [h0]at hk;rw [List.filterMap_cons,h0]at h;simp only [uh,h0];cases Gl:o.op with
   |move x=>
    simp only [Gl]at hk;have hg:o.guard=none:=by simpa using hk
    have hw:Region.wanted o (yielded ops a.tmps)=true:=by simp [Region.wanted,hg]
    have h':(if Region.wanted o (yielded ops a.tmps)=true then o.quiet P a (fun _=>True) (wpQuiet P ops (fun _=>True) K (ks.filterMap fun i=>ops[i]?))else wpQuiet P ops (fun _=>True) K (ks.filterMap fun i=>ops[i]?) (a.put o.dst undef)):=h;rw [if_pos hw]at h';obtain ⟨v,h1,h2⟩:=h';have h3:=h1 default trivial;have hr:(execOp a.eval o).run P default= .ok (.value (a.eval x)) default:=by simp [execOp,Gl,Sem.run_pure]
    unfold Oper.quietAt at h3;rw [hr]at h3;obtain ⟨_,he⟩:(default:World)=default/\a.eval x=v:=h3
    show K (uh ops ks (a.put o.dst (a.eval x)))
    rw [he];exact Mt ks _ (by simpa [Lw]using hks) h2
   |_=>simp [Gl]at hk
theorem V8{P:Program}{Q:Exit->Act->World->Prop}{a:Act}{w:World}{l:List Oper}(C:World->Prop)(fl ix:List Nat)(n:Nat)
  (hB:(Lw l.toArray fl&&qtB .any l.toArray fl ix n)=true)(hQ:∀c a d v w,Q (.panic c) (Act.put a d v) w->Q (.panic c) a w)(hC:C w)
  (h:wpQuiet P l.toArray (fun _=>True) (fun a'=>wpQuiet P l.toArray C (fun a'=>∀w',C w'->wpList P l.toArray Q (l.drop n) a' w') (ix.filterMap fun i=>l[i]?) a') (fl.filterMap fun i=>l[i]?) a):wpAny P .any l.toArray Q l.toArray.size (Array.replicate l.toArray.size false) a w:=by
 rw [Bool.and_eq_true]at hB;refine U8 C fl ix n hB.2 hQ hC ?_
 exact Mt (K:=fun a'=>wpQuiet P l.toArray C (fun a'=>∀w',C w'->wpList P l.toArray Q (l.drop n) a' w') (ix.filterMap fun i=>l[i]?) a') fl a hB.1 (by simpa using h)
theorem Ql{α:Type}(l:List α):∀(m k:Nat),(List.range' k m).filterMap (fun i=>l[i]?)=(l.drop k).take m
 |0,k=>by simp
 |m+1,k=>by
  rw [List.range'_succ,List.filterMap_cons];by_cases h:k<l.length
  . rw [List.getElem?_eq_getElem h,List.drop_eq_getElem_cons h,List.take_succ_cons];simp only;rw [Ql l m (k+1)]
  . rw [List.getElem?_eq_none (by omega)];simp only;rw [Ql l m (k+1),List.drop_eq_nil_of_le (by omega),List.drop_eq_nil_of_le (by omega)];simp
theorem ae{P:Program}{id:Nat}{Q:Exit->Act->World->Prop}{a:Act}{w:World}{l:List Oper}(k m:Nat)(hm:P.follows .mixedOrders=true)
  (hB:(Lw l.toArray (List.range' 0 k)&&qtB .any l.toArray (List.range' 0 k) (List.range' k m) (k+m))=true)(hQ:∀c a d v w,Q (.panic c) (Act.put a d v) w->Q (.panic c) a w)
  (h:wpQuiet P l.toArray (fun _=>True) (fun a'=>wpQuiet P l.toArray (fun w'=>∃n,w'=w.drewN n) (fun a'=>∀w',(∃n,w'=w.drewN n)->wpList P l.toArray Q (l.drop (k+m)) a' w') ((l.drop k).take m) a') (l.take k) a):(Code.region id l.toArray true).wp P Q a w:=
 wp_region_any hm (V8 (fun w'=>∃n,w'=w.drewN n) _ _ (k+m) hB hQ ⟨1,rfl⟩ (by rw [Ql,Ql];exact h))
end Go.Proofs.YtfnkmolffhfpoaaGreat
namespace Go.Proofs.YtfnkmolffhfpoaaGreat
open Go.RowKit Go.BigFrame
theorem TE{P:Program}{id:Nat}{Q:Exit->Act->World->Prop}{a:Act}{w:World}{l:List Oper}(n:Nat)(hm:P.follows .mixedOrders=true)(hB:Region.lexTailB .any l.toArray n=true)
  (h:wpStill P l.toArray w.drew (fun a'=>wpList P l.toArray Q (l.drop n) a' w.drew) (l.take n) a):(Code.region id l.toArray true).wp P Q a w:=
 wp_region_still_tail n hm hB h
theorem ja{W:World}{b:Nat}{c:Array Value}{t:TypeId}{f:Nat×Nat}(h:W.heap[b]?=some (.cells c t f))(k:Nat)(v:Value)(hv:c.toList[k]?=some v):W.cell? ⟨b,k,none⟩=some v:=by
 rw [cell_of_row _ _ k _ _ _ h];simpa using hv
theorem Pk{W:World}{b:Nat}{c:Array Value}{t:TypeId}(h:W.heap[b]?=some (.cells c t (0,0)))(j:Nat):W.frozen? ⟨b,j,none⟩=false:=by
 unfold World.frozen?;rw [h];simp
theorem Db{W:World}{b:Nat}{o:Obj}(h:W.heap[b]?=some o):b<W.heap.size:=(Array.getElem?_eq_some_iff.1 h).1
theorem Oai{W:World}{b:Nat}{k0 k1 k2 k3:Value}{t:TypeId}(h:W.heap[b]?=some (.cells #[k0,k1,k2,k3] t (0,0))):
  W.cell? ⟨b,0,none⟩=some k0/\W.cell? ⟨b,1,none⟩=some k1/\W.cell? ⟨b,2,none⟩=some k2/\W.cell? ⟨b,3,none⟩=some k3/\∀j,W.frozen? ⟨b,j,none⟩=false:=
 ⟨ja h 0 _ rfl,ja h 1 _ rfl,ja h 2 _ rfl,ja h 3 _ rfl,Pk h⟩
theorem Tz{W:World}{b:Nat}{k0 k1 k2 k3 k4 k5 k6 k7 k8:Value}{t:TypeId}(h:W.heap[b]?=some (.cells #[k0,k1,k2,k3,k4,k5,k6,k7,k8] t (0,0))):
  W.cell? ⟨b,0,none⟩=some k0/\W.cell? ⟨b,1,none⟩=some k1/\W.cell? ⟨b,2,none⟩=some k2/\W.cell? ⟨b,3,none⟩=some k3/\W.cell? ⟨b,4,none⟩=some k4/\W.cell? ⟨b,5,none⟩=some k5/\W.cell? ⟨b,6,none⟩=some k6/\W.cell? ⟨b,7,none⟩=some k7/\W.cell? ⟨b,8,none⟩=some k8/\∀j,W.frozen? ⟨b,j,none⟩=false:=
 ⟨ja h 0 _ rfl,ja h 1 _ rfl,ja h 2 _ rfl,ja h 3 _ rfl,ja h 4 _ rfl,ja h 5 _ rfl,ja h 6 _ rfl,ja h 7 _ rfl,ja h 8 _ rfl,Pk h⟩
structure Lv where
 th:Int
 sl:Int
 lo:Int
 bu:Int
 pt:Int
 pl:Int
 ls:Int
 ps:Int
 ln:Int
structure Lv.Ok(v:Lv):Prop where
 RM:0<=v.th
 tU:v.th<=64
 kQ:0<=v.sl
 W8:v.sl<=65536
 uU:0<=v.lo
 lo1:v.lo<=64
 lQ:0<=v.bu
 bu1:v.bu<=64
 FX:0<=v.pt
 pt1:v.pt<=100
 X8:0<=v.pl
 pl1:v.pl<=200
 Y8:0<=v.ls
 b9:v.ls<=8
 c9:0<=v.ps
 qU:v.ps<=1000
 mQ:0<=v.ln
 nQ:v.ln<=100000
structure Kc(W:World)(l:Nat)(v:Lv):Prop where
 row:W.heap[l]?=some (.cells #[.int .i64 v.th, .int .i64 v.sl, .int .i64 v.lo, .int .i64 v.bu, .int .i64 v.pt, .int .i64 v.pl, .int .i64 v.ls, .int .i64 v.ps, .int .i64 v.ln] 174 (0,0))
 ok:v.Ok
theorem Kc.lt{W:World}{l:Nat}{v:Lv}(h:Kc W l v):l<W.heap.size:=(Array.getElem?_eq_some_iff.1 h.row).1
theorem Kc.keep{W W':World}{l:Nat}{v:Lv}(h:Kc W l v)(e:W'.heap[l]?=W.heap[l]?):Kc W' l v:=⟨e.trans h.row,h.ok⟩
theorem Kc.below{W W':World}{l B:Nat}{v:Lv}(h:Kc W l v)(hb:Below B W W')(hB:l<B):Kc W' l v:=h.keep (hb.block l hB)
theorem Vq(l:Nat)(v:Lv)(w:World)(h:Kc w l v):Calls Tryz.prog 240 #[.pointer (some ⟨l,0,none⟩)] w (Cd (.agg #[.int .i64 v.th, .int .i64 v.sl, .int .i64 v.lo, .int .i64 v.bu]) w):=by
 have hl:=h.lt;have bc:l≠w.heap.size:=by omega
 have Fq:w.heap.size≠l:=by omega
 obtain ⟨l0,l1,l2,l3,l4,l5,l6,l7,l8,lf⟩:=Tz h.row;obtain ⟨th,sl,lo,bu,pt,pl,ls,ps,ln⟩:=v;obtain ⟨RM,tU,kQ,W8,uU,lo1,lQ,bu1,FX,pt1,X8,pl1,Y8,b9,c9,qU,mQ,nQ⟩:=h.ok;simp only at*;clear h
 go_enter Tryz.func240,Tryz.ntmps240
 go_wp2_with fail
 have hh:=heap_alloc_new w (.cells #[.int .i64 th, .int .i64 sl, .int .i64 lo, .int .i64 bu] 23);have z0:=cell_of_row _ _ 0 _ _ _ hh;have z1:=cell_of_row _ _ 1 _ _ _ hh;have z2:=cell_of_row _ _ 2 _ _ _ hh;have z3:=cell_of_row _ _ 3 _ _ _ hh;refine bodyPost_ret (v:= .agg #[.int .i64 th, .int .i64 sl, .int .i64 lo, .int .i64 bu]) (by simp [results,Tryz.results240,go_sem,z0,z1,z2,z3]) rfl ⟨rfl,(Below.refl _ _).alloc (Nat.le_refl _) _⟩
theorem Wq(l:Nat)(v:Lv)(w:World)(h:Kc w l v):Calls Tryz.prog 264 #[.pointer (some ⟨l,0,none⟩)] w (Cc (.int .i64 v.ln) w):=by
 have hl:=h.lt;have bc:l≠w.heap.size:=by omega
 have Fq:w.heap.size≠l:=by omega
 obtain ⟨l0,l1,l2,l3,l4,l5,l6,l7,l8,lf⟩:=Tz h.row;obtain ⟨th,sl,lo,bu,pt,pl,ls,ps,ln⟩:=v;obtain ⟨RM,tU,kQ,W8,uU,lo1,lQ,bu1,FX,pt1,X8,pl1,Y8,b9,c9,qU,mQ,nQ⟩:=h.ok;simp only at*;clear h
 go_enter Tryz.func264,Tryz.ntmps264
 go_wp2_with fail
 go_ret
 exact ⟨rfl,rfl⟩
theorem Ku(l:Nat)(n:Int)(h0:0<=n)(h1:n<=1000000)(w:World):Calls Tryz.prog 213 #[.pointer (some ⟨l,0,none⟩), .int .i64 n] w (Cc (.int .i64 (n*8)) w):=by
 go_enter Tryz.func213,Tryz.ntmps213
 go_wp2_with fail
 go_ret
 exact ⟨rfl,rfl⟩
theorem Uaw(l:Nat)(w:World):Calls Tryz.prog 129 #[.pointer (some ⟨l,0,none⟩)] w (Cc (.int .i64 16) w):=by
 have HL:=Lib.hid fun w=>Ku l 2 (by omega) (by omega) w
 go_enter Tryz.func129,Tryz.ntmps129
 go_wp2_with fail
 refine (HL.out _).mono ?_
 rintro e w1 ⟨rfl,rfl⟩
 go_wp2_with fail
 go_ret
 exact ⟨rfl,rfl⟩
theorem Vaw(l:Nat)(w:World):Calls Tryz.prog 266 #[.pointer (some ⟨l,0,none⟩)] w (Cc (.int .i64 32) w):=by
 have HL:=Lib.hid fun w=>Ku l 4 (by omega) (by omega) w
 go_enter Tryz.func266,Tryz.ntmps266
 go_wp2_with fail
 refine (HL.out _).mono ?_
 rintro e w1 ⟨rfl,rfl⟩
 go_wp2_with fail
 go_ret
 exact ⟨rfl,rfl⟩
theorem eat(l:Nat)(w:World):Calls Tryz.prog 115 #[.pointer (some ⟨l,0,none⟩)] w (Cc (.int .i64 24) w):=by
 have HL:=Lib.hid fun w=>Ku l 3 (by omega) (by omega) w
 go_enter Tryz.func115,Tryz.ntmps115
 go_wp2_with fail
 refine (HL.out _).mono ?_
 rintro e w1 ⟨rfl,rfl⟩
 go_wp2_with fail
 go_ret
 exact ⟨rfl,rfl⟩
def hasB(n m:Int):Bool:=decide (0<=n/\n<m)
theorem Ks(n m:Int)(w:World):Calls Tryz.prog 263 #[.int .i64 n, .int .i64 m] w (Cc (.bool (hasB n m)) w):=by
 by_cases h:0<=n
 . have d1:decide (0<=n)=true:=ea h;have e:hasB n m=decide (n<m):=by simp [hasB,h]
   rw [e]
   go_enter Tryz.func263,Tryz.ntmps263
   go_wp2_with fail
   go_ret
   exact ⟨rfl,rfl⟩
 . have d1:decide (0<=n)=false:=ta h;have e:hasB n m=false:=by simp [hasB,h]
   rw [e]
   go_enter Tryz.func263,Tryz.ntmps263
   go_wp2_with fail
   go_ret
   exact ⟨rfl,rfl⟩
def Lv.word(v:Lv)(n many first size at_:Int):Int:=if hasB n many then(first+size*n)*8+at_ else v.ln*8
theorem UE(l:Nat)(v:Lv)(n many first size at_:Int)(hh:hasB n many=true)(hm:many<=100000)(f0:0<=first)(f1:first<=100000)(s0:0<=size)(s1:size<=8)(a0:0<=at_)(a1:at_<=100)(w:World)(h:Kc w l v):
  Calls Tryz.prog 282 #[.pointer (some ⟨l,0,none⟩), .int .i64 n, .int .i64 many, .int .i64 first, .int .i64 size, .int .i64 at_] w (Cc (.int .i64 ((first+size*n)*8+at_)) w):=by
 have HH:Hid (∀w,Calls Tryz.prog 263 #[.int .i64 n, .int .i64 many] w (Cc (.bool true) w)):=Lib.hid fun w=>by rw [<-hh];exact Ks n many w
 have hn:0<=n/\n<many:=by simpa [hasB]using hh
 obtain ⟨n0,n1⟩:=hn;have m0:0<=size*n:=Int.mul_nonneg s0 n0;have m1:size*n<=800000:=by
  have:=Int.mul_le_mul s1 (show n<=100000 by omega) n0 (by omega);omega
 clear hh h
 go_enter Tryz.func282,Tryz.ntmps282
 go_wp2_with fail
 refine (HH.out _).mono ?_
 rintro e w1 ⟨rfl,rfl⟩
 go_wp2_with fail
 go_ret
 exact ⟨rfl,rfl⟩
theorem FH(l:Nat)(v:Lv)(n many first size at_:Int)(hh:hasB n many=false)(w:World)(h:Kc w l v):
  Calls Tryz.prog 282 #[.pointer (some ⟨l,0,none⟩), .int .i64 n, .int .i64 many, .int .i64 first, .int .i64 size, .int .i64 at_] w (Cc (.int .i64 (v.ln*8)) w):=by
 have HH:Hid (∀w,Calls Tryz.prog 263 #[.int .i64 n, .int .i64 many] w (Cc (.bool false) w)):=Lib.hid fun w=>by rw [<-hh];exact Ks n many w
 have HL:=Lib.hid (Wq l v w h);obtain ⟨n0,n1⟩:=(show 0<=v.ln/\v.ln<=100000 from⟨h.ok.mQ,h.ok.nQ⟩);clear hh h;generalize v.ln=ln at*
 go_enter Tryz.func282,Tryz.ntmps282
 go_wp2_with fail
 refine (HH.out _).mono ?_
 rintro e w1 ⟨rfl,rfl⟩
 go_wp2_with fail
 refine (HL.out).mono ?_
 rintro e w1 ⟨rfl,rfl⟩
 go_wp2_with fail
 go_ret
 exact ⟨rfl,rfl⟩
theorem fC(l:Nat)(v:Lv)(n many first size at_:Int)(hm:many<=100000)(f0:0<=first)(f1:first<=100000)(s0:0<=size)(s1:size<=8)(a0:0<=at_)(a1:at_<=100)(w:World)(h:Kc w l v):
  Calls Tryz.prog 282 #[.pointer (some ⟨l,0,none⟩), .int .i64 n, .int .i64 many, .int .i64 first, .int .i64 size, .int .i64 at_] w (Cc (.int .i64 (v.word n many first size at_)) w):=by
 unfold Lv.word;cases hh:hasB n many with
 |true=>exact UE l v n many first size at_ hh hm f0 f1 s0 s1 a0 a1 w h
 |false=>exact FH l v n many first size at_ hh w h
def Lv.slot(v:Lv)(s at_:Int):Int:=v.word s v.sl v.ps 1 at_
theorem Xq(l:Nat)(v:Lv)(s at_:Int)(a0:0<=at_)(a1:at_<=100)(w:World)(h:Kc w l v):
  Calls Tryz.prog 220 #[.pointer (some ⟨l,0,none⟩), .int .i64 s, .int .i64 at_] w (Nl (.int .i64 (v.slot s at_)) w):=by
 have HW:Hid (∀w,Kc w l v->Calls Tryz.prog 282 #[.pointer (some ⟨l,0,none⟩), .int .i64 s, .int .i64 v.sl, .int .i64 v.ps, .int .i64 1, .int .i64 at_] w (Cc (.int .i64 (v.slot s at_)) w)):=Lib.hid fun w h=>
  fC l v s v.sl v.ps 1 at_ (by have:=h.ok.W8;omega) h.ok.c9 (by have:=h.ok.qU;omega) (by omega) (by omega) a0 a1 w h
 have HL:=Lib.hid h;obtain ⟨l0,l1,l2,l3,l4,l5,l6,l7,l8,lf⟩:=Tz h.row;clear h;generalize v.slot s at_=r at*;generalize v.sl=sl at*;generalize v.ps=ps at*
 go_enter Tryz.func220,Tryz.ntmps220
 go_wp2_with fail
 go_quiet ((go_at_call 282;exact Calls.quiet_of_same (HW.out _ (HL.out.keep rfl))))
 go_wp2_with fail
 go_ret
 exact ⟨rfl,_,rfl⟩
theorem Pai(l:Nat)(v:Lv)(s:Int)(w:World)(h:Kc w l v):Calls Tryz.prog 341 #[.pointer (some ⟨l,0,none⟩), .int .i64 s] w (Nl (.int .i64 (v.slot s 1)) w):=by
 have HS:=Lib.hid (Xq l v s 1 (by omega) (by omega) w h);clear h
 go_enter Tryz.func341,Tryz.ntmps341
 go_wp2_with fail
 refine HS.out.mono ?_
 rintro e w1 ⟨rfl,n,rfl⟩
 go_wp2_with fail
 go_ret
 exact ⟨rfl,n,rfl⟩
theorem Qai(l:Nat)(v:Lv)(s:Int)(w:World)(h:Kc w l v):Calls Tryz.prog 133 #[.pointer (some ⟨l,0,none⟩), .int .i64 s] w (Nl (.int .i64 (v.slot s 2)) w):=by
 have HS:=Lib.hid (Xq l v s 2 (by omega) (by omega) w h);clear h
 go_enter Tryz.func133,Tryz.ntmps133
 go_wp2_with fail
 refine HS.out.mono ?_
 rintro e w1 ⟨rfl,n,rfl⟩
 go_wp2_with fail
 go_ret
 exact ⟨rfl,n,rfl⟩
theorem e9(l:Nat)(v:Lv)(s:Int)(w:World)(h:Kc w l v):Calls Tryz.prog 211 #[.pointer (some ⟨l,0,none⟩), .int .i64 s] w (Nl (.int .i64 (v.slot s 3)) w):=by
 have HS:=Lib.hid (Xq l v s 3 (by omega) (by omega) w h);clear h
 go_enter Tryz.func211,Tryz.ntmps211
 go_wp2_with fail
 refine HS.out.mono ?_
 rintro e w1 ⟨rfl,n,rfl⟩
 go_wp2_with fail
 go_ret
 exact ⟨rfl,n,rfl⟩
theorem g9(l:Nat)(v:Lv)(s:Int)(w:World)(h:Kc w l v):Calls Tryz.prog 212 #[.pointer (some ⟨l,0,none⟩), .int .i64 s] w (Nl (.int .i64 (v.slot s 4)) w):=by
 have HS:=Lib.hid (Xq l v s 4 (by omega) (by omega) w h);clear h
 go_enter Tryz.func212,Tryz.ntmps212
 go_wp2_with fail
 refine HS.out.mono ?_
 rintro e w1 ⟨rfl,n,rfl⟩
 go_wp2_with fail
 go_ret
 exact ⟨rfl,n,rfl⟩
theorem j9(l:Nat)(v:Lv)(s:Int)(w:World)(h:Kc w l v):Calls Tryz.prog 343 #[.pointer (some ⟨l,0,none⟩), .int .i64 s] w (Nl (.int .i64 (v.slot s 0)) w):=by
 have HS:=Lib.hid (Xq l v s 0 (by omega) (by omega) w h);clear h
 go_enter Tryz.func343,Tryz.ntmps343
 go_wp2_with fail
 refine HS.out.mono ?_
 rintro e w1 ⟨rfl,n,rfl⟩
 go_wp2_with fail
 go_ret
 exact ⟨rfl,n,rfl⟩
def xb(n:Int):Int:=(n+7)/8
theorem Mw(n:Int)(h0:0<=n)(h1:n<=1000000)(w:World):Calls Tryz.prog 100 #[.int .i64 n] w (Cc (.int .i64 (xb n)) w):=by
 have HC:Hid ((n+8 -1)/8=xb n):=Lib.hid (by unfold xb;omega);have HD:Hid ((n+7)/8=xb n):=Lib.hid rfl
 go_enter Tryz.func100,Tryz.ntmps100
 go_wp2_with fail
 go_ret
 exact ⟨Ta (by first|exact HC.out|exact HD.out),rfl⟩
theorem GH(a n:Int)(b:Nat)(a0:0<=a)(a1:a<=10000000)(n0:0<=n)(n1:n<=10000000)(w:World)(h:w.cell? ⟨b,0,none⟩=some (.int .i64 a))(hf:w.frozen? ⟨b,0,none⟩=false):
  Calls Tryz.prog 99 #[.int .i64 n, .pointer (some ⟨b,0,none⟩)] w fun e w'=>e= .returned (.int .i64 a)/\w'=w.setCell ⟨b,0,none⟩ (.int .i64 (a+n)):=by
 have HE:Hid (a+n -n=a):=Lib.hid (by omega);have hc:=gn (.int .i64 (a+n)) h
 go_enter Tryz.func99,Tryz.ntmps99
 go_wp2_with fail
 go_ret
 exact ⟨Ta (by first|rfl|exact HE.out|omega),rfl⟩
theorem Fu.oQ{p B:Nat}{w w':World}(h:Fu p w w')(hp:B<=p)(hs:B<=w.heap.size):Below B w w':=⟨h.os,h.tape,h.output,h.size,fun k hk=>h.block k (by omega) (by omega)⟩
theorem RJ(a n:Int)(b:Nat)(a0:0<=a)(a1:a<=10000000)(n0:0<=n)(n1:n<=10000000)(w:World)(h:w.heap[b]?=some (.cells #[.int .i64 a] 3 (0,0))):
  Calls Tryz.prog 99 #[.int .i64 n, .pointer (some ⟨b,0,none⟩)] w fun e w'=>e= .returned (.int .i64 a)/\w'.heap[b]?=some (.cells #[.int .i64 (a+n)] 3 (0,0))/\Fu b w w':=by
 refine (GH a n b a0 a1 n0 n1 w (ja h 0 _ rfl) (Pk h 0)).mono ?_
 rintro e w' ⟨rfl,rfl⟩;exact ⟨rfl,heap_set _ h,⟨rfl,rfl,rfl,by simp [World.setCell],fun k _ hk=>aa hk⟩⟩
def Nc.lv(c:Nc):Lv:=
 {th:=c.th,sl:=c.sl,lo:=c.lo,bu:=c.bu,pt:=5+xb c.bu,pl:=5+xb c.bu+c.th,ls:=xb c.lo,
  ps:=5+xb c.bu+c.th+c.th*xb c.lo,ln:=5+xb c.bu+c.th+c.th*xb c.lo+c.sl}
theorem IH(a b m n:Int)(a0:0<=a)(a1:a<=m)(b0:0<=b)(b1:b<=n):0<=a*b/\a*b<=m*n:=
 ⟨Int.mul_nonneg a0 b0,Int.le_trans (Int.mul_le_mul_of_nonneg_right a1 b0) (Int.mul_le_mul_of_nonneg_left b1 (by omega))⟩
theorem Nc.GX(c:Nc)(h:c.right):c.lv.Ok:=by
 obtain ⟨h1,h2,h3,h4,h5,h6,h7,h8⟩:=h;have b0:0<=xb c.bu/\xb c.bu<=8:=by unfold xb;omega
 have l0:0<=xb c.lo/\xb c.lo<=8:=by unfold xb;omega
 have m:=IH c.th (xb c.lo) 64 8 (by omega) h2 l0.1 l0.2
 unfold Nc.lv;constructor<;>simp only<;>omega
def Waw(v:Lv)(W:World)(e:Ending)(W':World):Prop:=∃l,e= .returned (.tuple #[.pointer (some ⟨l,0,none⟩), .int .i64 0])/\Below W.heap.size W W'/\W.heap.size<=l/\Kc W' l v
set_option maxRecDepth 100000 in
set_option maxHeartbeats 1000000 in
theorem Xaw(c:Nc)(h:c.right)(w:World):Calls Tryz.prog 40 #[.agg c.cells] w (Waw c.lv w):=by
 have HR:Hid (∀w,Calls Tryz.prog 98 #[.agg c.cells] w (cC true w)):=Lib.hid fun w=>by have:=QM c w;rw [ea h]at this;exact this
 have HOK:=Lib.hid (c.GX h);obtain ⟨h1,h2,h3,h4,h5,h6,h7,h8⟩:=h;have b0:0<=xb c.bu/\xb c.bu<=8:=by unfold xb;omega
 have l0:0<=xb c.lo/\xb c.lo<=8:=by unfold xb;omega
 have m:=IH c.th (xb c.lo) 64 8 (by omega) h2 l0.1 l0.2
 have HB:=Lib.hid fun w=>Mw c.bu (by omega) (by omega) w
 have HL:=Lib.hid fun w=>Mw c.lo (by omega) (by omega) w
 unfold Nc.lv at*;obtain ⟨th,sl,lo,bu⟩:=c;simp only [Nc.cells]at*;generalize xb bu=nb at*;generalize xb lo=nl at*;obtain ⟨b0,b1⟩:=b0;obtain ⟨l0,l1⟩:=l0;obtain ⟨m0,m1⟩:=m
 go_enter Tryz.func40,Tryz.ntmps40
 go_wp2_with fail
 refine (HR.out _).mono ?_
 rintro e w1 ⟨rfl,hb⟩;have cj:Hid (Below w.heap.size w w1):=Lib.hid (((Below.refl _ _).alloc (Nat.le_refl _) _).trans (hb.mono (by simp)));have HS:Hid (w.heap.size<w1.heap.size):=Lib.hid (by have:=hb.size;simp at this;omega);have HC:Hid (w1.heap[w.heap.size]?=some (.cells #[.int .i64 th, .int .i64 sl, .int .i64 lo, .int .i64 bu] 23)):=Lib.hid ((hb.block _ (by simp)).trans (heap_alloc_new w _));obtain ⟨c0,c1,c2,c3,cf⟩:=Oai HC.out;have hs:=HS.out;clear hb
 go_wp2_with fail
 refine (HB.out _).mono ?_
 rintro e w2 ⟨rfl,rfl⟩
 go_wp2_with fail
 refine (GH 5 nb w1.heap.size (by omega) (by omega) b0 (by omega) _ (by simp) (by simp)).mono ?_
 rintro e w2 ⟨rfl,rfl⟩
 go_wp2_with fail
 refine TE 5 (by kernel_rfl) (by kernel_rfl) ?_
 simp only [List.take_succ_cons,List.take_zero,List.drop_succ_cons,List.drop_zero]
 still_step
 still_step
 still_step
 still_call (HL.out _)
 still_step
 refine wpStill_nil ?_
 go_wp2_with fail
 refine (GH (5+nb) th w1.heap.size (by omega) (by omega) (by omega) (by omega) _ (by simp) (by simp)).mono ?_
 rintro e w2 ⟨rfl,rfl⟩
 go_wp2_with fail
 obtain ⟨W3,h3⟩:∃W3,W3=World.drew ((w1.alloc (.cells #[.int .i64 (5+nb+th)] 3)).alloc (.cells #[.int .i64 th, .int .i64 sl, .int .i64 lo, .int .i64 bu, .int .i64 (5+nb), .int .i64 0, .int .i64 nl, .int .i64 0, .int .i64 0] 174)):=⟨_,rfl⟩;rw [<-h3];have e3:W3.heap=((w1.alloc (.cells #[.int .i64 (5+nb+th)] 3)).alloc (.cells #[.int .i64 th, .int .i64 sl, .int .i64 lo, .int .i64 bu, .int .i64 (5+nb), .int .i64 0, .int .i64 nl, .int .i64 0, .int .i64 0] 174)).heap:=by rw [h3];rfl
 have HA:Hid (W3.heap[w1.heap.size]?=some (.cells #[.int .i64 (5+nb+th)] 3)):=Lib.hid (by rw [e3];exact (Hd w1 _ _).1);have qO:Hid (W3.heap[w1.heap.size+1]?=some (.cells #[.int .i64 th, .int .i64 sl, .int .i64 lo, .int .i64 bu, .int .i64 (5+nb), .int .i64 0, .int .i64 nl, .int .i64 0, .int .i64 0] 174)):=Lib.hid (by rw [e3];exact (Hd w1 _ _).2);have HC3:Hid (W3.heap[w.heap.size]?=some (.cells #[.int .i64 th, .int .i64 sl, .int .i64 lo, .int .i64 bu] 23)):=Lib.hid (by rw [e3,Below.heap_alloc _ _ _ (by simp;omega),Below.heap_alloc _ _ _ hs];exact HC.out);have HB3:Hid (Below w.heap.size w W3):=Lib.hid (by rw [h3];exact ((cj.out.alloc cj.out.size _).alloc (by have:=cj.out.size;simp;omega) _).drew);obtain ⟨A,hA⟩:∃A,A=w1.heap.size:=⟨_,rfl⟩;rw [<-hA]at HA qO hs⊢;have hw:w.heap.size<=A:=by omega
 have HWA:Hid (w.heap.size<=A):=Lib.hid hw;clear h3 e3 c0 c1 c2 c3 cf HC cj HS hA;obtain ⟨C,hC⟩:∃C,C=w.heap.size:=⟨_,rfl⟩;rw [<-hC]at HC3 hs⊢;clear hC hw;have q0:=ja HC3.out 0 _ rfl;have q1:=ja HC3.out 1 _ rfl;have q2:=ja qO.out 2 _ rfl;have q4:=ja qO.out 4 _ rfl;have q6:=ja qO.out 6 _ rfl;have q7:=ja qO.out 7 _ rfl;have q8:=ja qO.out 8 _ rfl;have qf:=Pk qO.out;have hw2:IntKind.i64.wrap (th*nl)=th*nl:=IntWalk.i64_in _ (by omega);have bc:C≠A:=by omega
 have Fq:A≠C:=by omega
 have Sai:=Lib.hid fun w h=>RJ (5+nb+th) (th*nl) A (by omega) (by omega) m0 (by omega) w h
 have HAS:Hid (A+1<W3.heap.size):=Lib.hid (Db qO.out);refine ae 1 8 (by kernel_rfl) (by kernel_rfl) (fun _ _ d _ _ h=>by cases d<;>exact h) ?_
 simp only [List.take_succ_cons,List.take_zero,List.drop_succ_cons,List.drop_zero,Nat.reduceAdd]
 repeat (first|go_big_quiet_skip|(go_big_quiet_want;go_big_quiet_op;go_big_quiet_on))
 refine wpQuiet_nil ?_
 repeat (first|go_big_quiet_skip|(go_big_quiet_want;go_big_quiet_op;go_big_quiet_on))
 refine wpQuiet_nil ?_
 rintro _ ⟨k,rfl⟩
 go_wp2_with fail
 refine (Sai.out _ (by exact HA.out)).mono ?_
 rintro e w2 ⟨rfl,ha2,Zp⟩;have yE:=Lib.hid ha2;have l9:=Lib.hid ((Zp.block (A+1) HAS.out (by omega)).trans qO.out);have HC4:=Lib.hid ((Zp.block C (by have:=HAS.out;show C<W3.heap.size;omega) bc).trans HC3.out);have vU:=Lib.hid ((ab HB3.out k).trans (Fu.oQ Zp HWA.out HB3.out.size));clear ha2 Zp q0 q1 q2 q4 q6 q7 q8 qf hw2 Sai HB3 qO HC3 HA;have q1:=ja HC4.out 1 _ rfl;have q2:=ja l9.out 5 _ rfl;have qf:=Pk l9.out
 go_wp2_with fail
 obtain ⟨W5,h5⟩:∃W5,W5=w2.setCell ⟨A+1,5,none⟩ (.int .i64 (5+nb+th)):=⟨_,rfl⟩;rw [<-h5];have HA5:Hid (W5.heap[A]?=some (.cells #[.int .i64 (5+nb+th+th*nl)] 3)):=Lib.hid (by rw [h5];exact (aa (by omega)).trans yE.out);have HL5:Hid (W5.heap[A+1]?=some (.cells #[.int .i64 th, .int .i64 sl, .int .i64 lo, .int .i64 bu, .int .i64 (5+nb), .int .i64 (5+nb+th), .int .i64 nl, .int .i64 0, .int .i64 0] 174)):=Lib.hid (by rw [h5];exact heap_set _ l9.out);have n9:Hid (Below w.heap.size w W5):=Lib.hid (by rw [h5];exact vU.out.setCell (by have:=HWA.out;simp;omega) _);clear h5 q1 q2 qf vU l9 yE;refine (RJ (5+nb+th+th*nl) sl A (by omega) (by omega) (by omega) (by omega) W5 HA5.out).mono ?_
 rintro e w6 ⟨rfl,ha6,hb6⟩;have HA6:=Lib.hid ha6;have o9:=Lib.hid ((hb6.block (A+1) (Db HL5.out) (by omega)).trans HL5.out);have HB6:=Lib.hid (n9.out.trans (Fu.oQ hb6 HWA.out n9.out.size));clear ha6 hb6 n9 HL5 HA5;have q0:=ja HA6.out 0 _ rfl;have q7:=ja o9.out 7 _ rfl;have q8:=ja o9.out 8 _ rfl;have qf:=Pk o9.out
 go_wp2_with fail
 go_ret2
 refine ⟨A+1,rfl, ?_,by have:=HWA.out;omega,⟨?_,HOK.out⟩⟩
 . exact (HB6.out.setCell (by have:=HWA.out;simp;omega) _).setCell (by have:=HWA.out;simp;omega) _
 . exact heap_set _ (heap_set _ o9.out)
end Go.Proofs.YtfnkmolffhfpoaaGreat
