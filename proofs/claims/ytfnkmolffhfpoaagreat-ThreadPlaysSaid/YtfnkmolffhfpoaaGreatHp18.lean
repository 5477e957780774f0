/- -/
import Derived.Test.YtfnkmolffhfpoaaGreatHp13
import Derived.StillTailTactics
import Derived.Deep.Quiet
import Derived.OrdersHeld
import Derived.Deep.RegionHeld3
import Derived.BigQuiet
import Derived.Deep.QuietTactic
import Derived.Test.YtfnkmolffhfpoaaGreatHp17
import Derived.Test.YtfnkmolffhfpoaaGreatHp14
import Derived.IntWalk
import Derived.RangeFuncNested
import Derived.RangeFuncBound
import Derived.RangeFuncCalls
import Derived.RangeFuncLeaves
import Derived.WalkKit
import Derived.OwnWalkIn
import Derived.TacticsInMore
import Derived.LoopNIn
import Derived.LoopIn
import Derived.Sort.LoopGhostIn
import Derived.OrdersIn
import Derived.Maps.AppendAt
import Derived.Test.YtfnkmolffhfpoaaGreatHp15
set_option linter.unusedVariables false
set_option linter.unusedSimpArgs false
namespace Go.Proofs.YtfnkmolffhfpoaaGreat
section
variable{P:Program}{ops:Array Oper}{md:Region.Mode}{C:World->Prop}
def yL(md:Region.Mode)(ops:Array Oper)(fl:List Nat)(n:Nat):Bool:=
 (List.range n).all fun i=>fl.contains i||(List.range (n+1)).any fun j=>decide (i<j)&&Region.waitsFor md ops j i
theorem gu{fl:List Nat}{n:Nat}{ja:Array Bool}(hs:yL md ops fl n=true)(hc:Region.chainB md ops n=true)(hn:n<ops.size)(inv:HeadInv md ops n ja)(hf:∀i∈fl,ja.getD i true=true):
  ∀(d i:Nat),n -i=d->i<n->ja.getD i true=false->∀t,n<=t->t∉Region.ready md ops ja:=by
 intro d
 induction d using Nat.strongRecOn with
 |_ d ih=>
  intro i hd hi TH t ht hr;obtain ⟨_,ot,hot,Ug⟩:=mem_ready.1 hr
  have xaI:t<ops.size:=(Array.getElem?_eq_some_iff.1 hot).1
  by_cases htn:t=n
  . subst htn;have h1:=List.all_eq_true.1 hs i (List.mem_range.2 hi)
    simp only [Bool.or_eq_true]at h1;rcases h1 with h1|h1
    . have:=hf i (by simpa using h1);rw [TH]at this;cases this
    obtain ⟨j,hj,hj2⟩:=List.any_eq_true.1 h1
    simp only [Bool.and_eq_true,decide_eq_true_eq]at hj2;obtain ⟨oj,hoj,e,he,hb,hon⟩:=Region.waitsFor_spec hj2.2
    have qaQ:j<=t:=by have:=List.mem_range.1 hj;omega
    by_cases hjt:j=t
    . subst hjt;obtain rfl:oj=ot:=Option.some.inj (hoj.symm.trans hot);have h2:=Ug e he hb;rw [hon,getD_both TH]at h2;cases h2
    . cases hl:ja.getD j false with
      |true=>
       have h2:=inv.closed j oj hoj hl e he hb;rw [hon,getD_both TH]at h2;cases h2
      |false=>exact ih (t -j) (by omega) j rfl (by omega) (getD_in (by rw [inv.size];omega) hl) t (Nat.le_refl _) hr
  . have h1:=List.all_eq_true.1 hc t (List.mem_range.2 xaI)
    simp only [Bool.or_eq_true,decide_eq_true_eq]at h1;rcases h1 with h1|h1
    . omega
    . obtain ⟨o',wO,e,he,hb,hon⟩:=Region.waitsFor_spec h1;obtain rfl:o'=ot:=Option.some.inj (wO.symm.trans hot);have h2:=Ug e he hb;rw [hon,getD_both (inv.tail (t -1) (by omega) (by omega))]at h2;cases h2
def ir(P:Program)(md:Region.Mode)(ops:Array Oper)(C:World->Prop)(n:Nat)(L:Array Bool->Act->Prop):Nat->Array Bool->Act->Prop
 |0,ja,a=>L ja a
 |f+1,ja,a=>Region.ready md ops ja≠[]/\∀i∈Region.ready md ops ja,i<n/\qOp P ops C i (ir P md ops C n L f (ja.setIfInBounds i true)) a
theorem iu{n g:Nat}{L:Array Bool->Act->Prop}{Q':Exit->Act->World->Prop}(hL:∀ja a w,C w->L ja a->wpAny P md ops Q' g ja a w):
  ∀(f:Nat) (ja:Array Bool) (a:Act) (w:World),C w->ir P md ops C n L f ja a->wpAny P md ops Q' (f+g) ja a w
 |0,ja,a,w,hw,h=>by rw [Nat.zero_add];exact hL _ _ _ hw h
 |f+1,ja,a,w,hw,h=>by
  rw [show f+1+g=(f+g)+1 by omega];exact ⟨fun h0=>absurd h0 h.1,fun i hi=>wpOp_of_qOp hw (fun a' w' hw' h'=>iu hL f _ a' w' hw' h') (h.2 i hi).2⟩
theorem Ss{ja:Array Bool}{fl:List Nat}(hf:∀i∈fl,ja.getD i true=true)(j:Nat):∀i∈fl,(ja.setIfInBounds j true).getD i true=true:=fun i hi=>by
 by_cases h:j=i
 . subst h;rcases Nat.lt_or_ge j ja.size with h'|h'
   . simp [h']
   . simp [h']
 . rw [getD_set_ne true h];exact hf i hi
theorem fJ{fl:List Nat}{n i:Nat}{oi:Oper}{v:Value}{L:Array Bool->Act->Prop}(hi:ops[i]?=some oi)(vx:∀(j:Nat) (o:Oper) cs b,ops[j]?=some o->o.op≠ .select cs b)
  (hs:yL md ops fl n=true)(hc:Region.chainB md ops n=true)(hn:n<ops.size)(Bg:i<n)
  (XS:∀ja a,L ja a->∀j∈Region.ready md ops ja,n<=j):
  ∀(f:Nat) (ja:Array Bool) (a:Act),HeadInv md ops n ja->(∀i∈fl,ja.getD i true=true)->
   (∀j oj,ops[j]?=some oj->j≠i->ja.getD j true=false->(∀e∈oj.after,Region.binds md e=true->e.on≠i)->oi.apart ops oj=true)->
   i∈Region.ready md ops ja->YieldsIn P ops C oi v a->
   ir P md ops C n L f (ja.setIfInBounds i true) (a.put oi.dst v)->ir P md ops C n L (f+1) ja a:=by
 intro f
 induction f with
 |zero=>
  intro ja a inv rL _ hr hy H;have TH:=(mem_ready.1 hr).1
  refine ⟨fun h=>(by rw [h]at hr;cases hr),fun j hj=> ?_⟩;have hjn:j<n:=by
   rcases Nat.lt_or_ge j n with h|h
   . exact h
   . exact absurd hj (gu hs hc hn inv rL _ i rfl Bg TH j h)
  refine ⟨hjn, ?_⟩;by_cases M4:j=i
  . subst M4;exact hy.qOp hi H
  . have:=XS _ _ H j (ready_mono hj M4);omega
 |succ f ih=>
  intro ja a inv rL N4 hr hy H;have TH:=(mem_ready.1 hr).1
  refine ⟨fun h=>(by rw [h]at hr;cases hr),fun j hj=> ?_⟩;have hjn:j<n:=by
   rcases Nat.lt_or_ge j n with h|h
   . exact h
   . exact absurd hj (gu hs hc hn inv rL _ i rfl Bg TH j h)
  refine ⟨hjn, ?_⟩;by_cases M4:j=i
  . subst M4;exact hy.qOp hi H
  . have h1:=(H.2 j (ready_mono hj M4)).2
    obtain ⟨Tap,oj,hoj,Ug⟩:=mem_ready.1 hj
    have zaI:∀e∈oj.after,Region.binds md e=true->e.on≠i:=fun e he hb heq=>by
     have h1:=Ug e he hb;rw [heq,getD_both TH]at h1;cases h1
    have h2:=qOp_put hoj (N4 j oj hoj M4 Tap zaI) (fun cs b=>vx i oi cs b hi) (fun cs b=>vx j oj cs b hoj) hy h1;have cag:∀k ok,ops[k]?=some ok->k≠i->(ja.setIfInBounds j true).getD k true=false->
      (∀e∈ok.after,Region.binds md e=true->e.on≠i)->oi.apart ops ok=true:=fun k ok hk hki TH tg=>by
     refine N4 k ok hk hki ?_ tg
     by_cases hjk:j=k
     . subst hjk;exact Tap
     . rw [getD_set_ne true hjk]at TH;exact TH
    refine qOp_mono (fun a' h3=>ih (ja.setIfInBounds j true) a' (inv.set hj hjn) (Ss rL j) cag (ready_mono hr (Ne.symm M4)) h3.1 ?_) h2;rw [Array.setIfInBounds_comm _ _ M4];exact h3.2
def zL(md:Region.Mode)(ops:Array Oper)(g n:Nat):List Nat->Array Bool->Bool
 |[],ja=>Region.seqB md ops g n ja
 |k::ks,ja=>(Region.ready md ops ja).contains k&&Region.free md ops ja k&&decide (k<n)&&zL md ops g n ks (ja.setIfInBounds k true)
theorem eG{fl:List Nat}{n g:Nat}{Lq:Act->Prop}(vx:Region.noSelect ops=true)(hs:yL md ops fl n=true)(hc:Region.chainB md ops n=true)(hn:n<ops.size):
  ∀(ix:List Nat) (ja:Array Bool) (a:Act),HeadInv md ops n ja->(∀i∈fl,ja.getD i true=true)->
  zL md ops g n ix ja=true->wpQuiet P ops C Lq (ix.filterMap fun i=>ops[i]?) a->
  ir P md ops C n (fun fh a'=>Region.seqB md ops g n fh=true/\Lq a') ix.length ja a
 |[],ja,a,inv,rL,hB,h=>⟨hB,h⟩
 |k::ks,ja,a,inv,rL,hB,h=>by
  simp only [zL,Bool.and_eq_true,decide_eq_true_eq]at hB;obtain ⟨⟨⟨hr,hf⟩,mq⟩,hB'⟩:=hB;have ZR:k∈Region.ready md ops ja:=by simpa using hr
  obtain ⟨_,o,h0,_⟩:=mem_ready.1 ZR
  rw [List.filterMap_cons,h0]at h;have KA:qOp P ops C k (wpQuiet P ops C Lq (ks.filterMap fun i=>ops[i]?)) a:=by unfold qOp;simp only [h0];exact h
  obtain ⟨v,hy,hK⟩:=yieldsIn_of_qOp h0 KA;exact fJ h0 (Region.noSelect_spec vx) hs hc hn mq (fun fh a' hL=>seqB_ready hL.1) ks.length ja a inv rL (Region.free_spec h0 hf) ZR hy
   (eG vx hs hc hn ks _ _ (inv.set ZR mq) (Ss rL k) hB' hK)
def jD(md:Region.Mode)(ops:Array Oper)(n:Nat)(K:Array Bool->Bool):List Nat->Array Bool->Bool
 |[],ja=>K ja
 |k::ks,ja=>(Region.ready md ops ja).contains k&&Region.free md ops ja k&&decide (k<n)&&
  (match ops[k]?with|some o=>(match o.op with| .move _=>o.guard.isNone|_=>false)|none=>false)&&jD md ops n K ks (ja.setIfInBounds k true)
def Wh(ops:Array Oper):List Nat->Act->Act
 |[],a=>a
 |k::ks,a=>Wh ops ks (match ops[k]?with|some o=>(match o.op with| .move x=>a.put o.dst (a.eval x)|_=>a)|none=>a)
theorem dB{Q:Exit->Act->World->Prop}:∀(fuel:Nat) (ja:Array Bool) (a:Act) (w:World),wpAny P md ops Q fuel ja a w->wpAnyH P md ops Q (fun _=>True) fuel ja a w
 |0,_,_,_,h=>h
 |fuel+1,_,_,_,h=>⟨h.1,fun i hi=>wpOp_mono (fun a' w' h'=>⟨trivial,dB fuel _ a' w' h'⟩) (h.2 i hi)⟩
theorem jr{Q:Exit->Act->World->Prop}{n:Nat}{K:Array Bool->Bool}(vx:Region.noSelect ops=true)(hQ:∀c a d v w,Q (.panic c) (Act.put a d v) w->Q (.panic c) a w)(fuel:Nat):
  ∀(fl done:List Nat) (ja:Array Bool) (a:Act) (w:World),HeadInv md ops n ja->(∀i∈done,ja.getD i true=true)->jD md ops n K fl ja=true->
   (∀fh,HeadInv md ops n fh->(∀i∈done++fl,fh.getD i true=true)->K fh=true->wpAny P md ops Q fuel fh (Wh ops fl a) w)->
   wpAnyH P md ops Q (fun _=>True) (fl.length+fuel) ja a w
 |[],done,ja,a,w,inv,hd,hB,h=>by
  rw [List.length_nil,Nat.zero_add];exact dB _ _ _ _ (h ja inv (by simpa using hd) hB)
 |k::ks,done,ja,a,w,inv,hd,hB,h=>by
  simp only [jD,Bool.and_eq_true,decide_eq_true_eq]at hB;obtain ⟨⟨⟨⟨hr,hf⟩,mq⟩,fP⟩,hB'⟩:=hB;have ZR:k∈Region.ready md ops ja:=by simpa using hr
  obtain ⟨TH,o,h0,_⟩:=mem_ready.1 ZR
  rw [h0]at fP;simp only [Wh,h0]at h;cases Wj:o.op with
  |move x=>
   simp only [Wj]at fP h;have hg:o.guard=none:=by simpa using fP
   have hy:YieldsIf P ops (fun _=>True) o (a.eval x) a:= .inl ⟨by simp [Region.wanted,hg],fun w _=>by simp [execOp,Wj,Sem.run_pure]⟩
   rw [show(k::ks).length+fuel=(ks.length+fuel)+1 by simp;omega];refine wpAnyH_take h0 vx hf hr (fun c a w=>hQ c a _ _ w) hy trivial ?_
   refine jr vx hQ fuel ks (done++[k]) _ _ w (inv.set ZR mq) (fun i hi=> ?_) hB' (fun fh i1 i2 i3=>h fh i1 (by simpa using i2) i3);rw [List.mem_append]at hi;rcases hi with hi|hi
   . exact Ss hd k i hi
   . obtain rfl:i=k:=by simpa using hi
     rcases Nat.lt_or_ge i ja.size with h'|h'
     . simp [h']
     . simp [h']
  |_=>simp [Wj]at fP
def qtB(md:Region.Mode)(ops:Array Oper)(fl ix:List Nat)(n:Nat):Bool:=
 Region.noSelect ops&&decide (n<ops.size)&&decide (fl.length+ix.length=n)&&yL md ops fl n&&Region.chainB md ops n&&
  jD md ops n (fun ja=>zL md ops (ops.size -n) n ix ja) fl (Array.replicate ops.size false)
end
theorem dag{P:Program}{Q:Exit->Act->World->Prop}{a:Act}{w:World}{l:List Oper}(C:World->Prop)(fl ix:List Nat)(n:Nat)
  (hB:qtB .any l.toArray fl ix n=true)(hQ:∀c a d v w,Q (.panic c) (Act.put a d v) w->Q (.panic c) a w)(hC:C w)
  (h:wpQuiet P l.toArray C (fun a'=>∀w',C w'->wpList P l.toArray Q (l.drop n) a' w') (ix.filterMap fun i=>l[i]?) (Wh l.toArray fl a)):wpAny P .any l.toArray Q l.toArray.size (Array.replicate l.toArray.size false) a w:=by
 simp only [qtB,Bool.and_eq_true,decide_eq_true_eq]at hB;obtain ⟨⟨⟨⟨⟨vx,hn⟩,hlen⟩,hs⟩,hc⟩,rL⟩:=hB;have hn':n<l.length:=by simpa using hn
 have hdl:(l.drop n).length=l.toArray.size -n:=by simp
 have BaI:HeadInv .any l.toArray n (Array.replicate l.toArray.size false):=
  ⟨by simp,fun j oj _ hl=>(by rw [getD_replicate_false]at hl;cases hl),fun t _ ht=>getD_in (by simpa using ht) (getD_replicate_false _ _)⟩
 have mj:l.toArray.size=fl.length+(ix.length+(l.toArray.size -n)):=by omega
 have key:=jr (P:=P) (Q:=Q) vx hQ (ix.length+(l.toArray.size -n)) fl [] _ a w BaI (fun i hi=>by cases hi) rL (fun fh i1 i2 i3=>by
  have H:=eG (P:=P) (C:=C) (md:= .any) (g:=l.toArray.size -n) vx hs hc hn ix fh (Wh l.toArray fl a) i1 (by simpa using i2) i3 (by simpa using h);exact iu (Q':=Q) (g:=l.toArray.size -n) (fun ja a' w' hw' hL=>by
   have:=wpAny_of_seq (md:= .any) (Q':=Q) (l.drop n) n ja a' w' (fun j=>by simp [List.getElem?_drop]) (by rw [hdl];exact hL.1) (hL.2 w' hw');rwa [hdl]at this) _ _ _ _ hC H)
 rw [<-mj]at key;exact wpAny_of_held _ _ _ _ key
def yx(ops:Array Oper)(fl:List Nat):Bool:=fl.all fun k=>match ops[k]?with|some o=>(match o.op with| .move _=>o.guard.isNone|_=>false)|none=>false
theorem ju{P:Program}{ops:Array Oper}{K:Act->Prop}:∀(fl:List Nat) (a:Act),yx ops fl=true->wpQuiet P ops (fun _=>True) K (fl.filterMap fun i=>ops[i]?) a->K (Wh ops fl a)
 |[],a,_,h=>h
 |k::ks,a,hm,h=>by
  simp only [yx,List.all_cons,Bool.and_eq_true]at hm;obtain ⟨hk,hks⟩:=hm;cases h0:ops[k]?with
  |none=>simp [h0]at hk
  |some o=>
   simp only [h0]at hk;rw [List.filterMap_cons,h0]at h;simp only [Wh,h0];cases Wj:o.op with
   |move x=>
    simp only [Wj]at hk;have hg:o.guard=none:=by simpa using hk
    have hw:Region.wanted o (yielded ops a.tmps)=true:=by simp [Region.wanted,hg]
    have h':(if Region.wanted o (yielded ops a.tmps)=true then o.quiet P a (fun _=>True) (wpQuiet P ops (fun _=>True) K (ks.filterMap fun i=>ops[i]?))else wpQuiet P ops (fun _=>True) K (ks.filterMap fun i=>ops[i]?) (a.put o.dst undef)):=h;rw [if_pos hw]at h';obtain ⟨v,h1,h2⟩:=h';have h3:=h1 default trivial;have hr:(execOp a.eval o).run P default= .ok (.value (a.eval x)) default:=by simp [execOp,Wj,Sem.run_pure]
    unfold Oper.quietAt at h3;rw [hr]at h3;obtain ⟨_,he⟩:(default:World)=default/\a.eval x=v:=h3
    show K (Wh ops ks (a.put o.dst (a.eval x)))
    rw [he];exact ju ks _ (by simpa [yx]using hks) h2
   |_=>simp [Wj]at hk
theorem eag{P:Program}{Q:Exit->Act->World->Prop}{a:Act}{w:World}{l:List Oper}(C:World->Prop)(fl ix:List Nat)(n:Nat)
  (hB:(yx l.toArray fl&&qtB .any l.toArray fl ix n)=true)(hQ:∀c a d v w,Q (.panic c) (Act.put a d v) w->Q (.panic c) a w)(hC:C w)
  (h:wpQuiet P l.toArray (fun _=>True) (fun a'=>wpQuiet P l.toArray C (fun a'=>∀w',C w'->wpList P l.toArray Q (l.drop n) a' w') (ix.filterMap fun i=>l[i]?) a') (fl.filterMap fun i=>l[i]?) a):wpAny P .any l.toArray Q l.toArray.size (Array.replicate l.toArray.size false) a w:=by
 rw [Bool.and_eq_true]at hB;refine dag C fl ix n hB.2 hQ hC ?_
 exact ju (K:=fun a'=>wpQuiet P l.toArray C (fun a'=>∀w',C w'->wpList P l.toArray Q (l.drop n) a' w') (ix.filterMap fun i=>l[i]?) a') fl a hB.1 (by simpa using h)
theorem Ul{α:Type}(l:List α):∀(m k:Nat),(List.range' k m).filterMap (fun i=>l[i]?)=(l.drop k).take m
 |0,k=>by simp
 |m+1,k=>by
  rw [List.range'_succ,List.filterMap_cons];by_cases h:k<l.length
  . rw [List.getElem?_eq_getElem h,List.drop_eq_getElem_cons h,List.take_succ_cons];simp only;rw [Ul l m (k+1)]
  . rw [List.getElem?_eq_none (by omega)];simp only;rw [Ul l m (k+1),List.drop_eq_nil_of_le (by omega),List.drop_eq_nil_of_le (by omega)];simp
theorem Be{P:Program}{id:Nat}{Q:Exit->Act->World->Prop}{a:Act}{w:World}{l:List Oper}(k m:Nat)(hm:P.follows .mixedOrders=true)
  (hB:(yx l.toArray (List.range' 0 k)&&qtB .any l.toArray (List.range' 0 k) (List.range' k m) (k+m))=true)(hQ:∀c a d v w,Q (.panic c) (Act.put a d v) w->Q (.panic c) a w)
  (h:wpQuiet P l.toArray (fun _=>True) (fun a'=>wpQuiet P l.toArray (fun w'=>∃n,w'=w.drewN n) (fun a'=>∀w',(∃n,w'=w.drewN n)->wpList P l.toArray Q (l.drop (k+m)) a' w') ((l.drop k).take m) a') (l.take k) a):(Code.region id l.toArray true).wp P Q a w:=
 wp_region_any hm (eag (fun w'=>∃n,w'=w.drewN n) _ _ (k+m) hB hQ ⟨1,rfl⟩ (by rw [Ul,Ul];exact h))
end Go.Proofs.YtfnkmolffhfpoaaGreat
namespace Go.Proofs.YtfnkmolffhfpoaaGreat
open Go.RowKit Go.BigFrame
theorem fG{P:Program}{id:Nat}{Q:Exit->Act->World->Prop}{a:Act}{w:World}{l:List Oper}(n:Nat)(hm:P.follows .mixedOrders=true)(hB:Region.lexTailB .any l.toArray n=true)
  (h:wpStill P l.toArray w.drew (fun a'=>wpList P l.toArray Q (l.drop n) a' w.drew) (l.take n) a):(Code.region id l.toArray true).wp P Q a w:=
 wp_region_still_tail n hm hB h
theorem ma{W:World}{b:Nat}{c:Array Value}{t:TypeId}{f:Nat×Nat}(h:W.heap[b]?=some (.cells c t f))(k:Nat)(v:Value)(hv:c.toList[k]?=some v):W.cell? ⟨b,k,none⟩=some v:=by
 rw [cell_of_row _ _ k _ _ _ h];simpa using hv
theorem Gk{W:World}{b:Nat}{c:Array Value}{t:TypeId}(h:W.heap[b]?=some (.cells c t (0,0)))(j:Nat):W.frozen? ⟨b,j,none⟩=false:=by
 unfold World.frozen?;rw [h];simp
theorem zb{W:World}{b:Nat}{o:Obj}(h:W.heap[b]?=some o):b<W.heap.size:=(Array.getElem?_eq_some_iff.1 h).1
theorem Uap{W:World}{b:Nat}{k0 k1 k2 k3:Value}{t:TypeId}(h:W.heap[b]?=some (.cells #[k0,k1,k2,k3] t (0,0))):
  W.cell? ⟨b,0,none⟩=some k0/\W.cell? ⟨b,1,none⟩=some k1/\W.cell? ⟨b,2,none⟩=some k2/\W.cell? ⟨b,3,none⟩=some k3/\∀j,W.frozen? ⟨b,j,none⟩=false:=
 ⟨ma h 0 _ rfl,ma h 1 _ rfl,ma h 2 _ rfl,ma h 3 _ rfl,Gk h⟩
theorem eB{W:World}{b:Nat}{k0 k1 k2 k3 k4 k5 k6 k7 k8:Value}{t:TypeId}(h:W.heap[b]?=some (.cells #[k0,k1,k2,k3,k4,k5,k6,k7,k8] t (0,0))):
  W.cell? ⟨b,0,none⟩=some k0/\W.cell? ⟨b,1,none⟩=some k1/\W.cell? ⟨b,2,none⟩=some k2/\W.cell? ⟨b,3,none⟩=some k3/\W.cell? ⟨b,4,none⟩=some k4/\W.cell? ⟨b,5,none⟩=some k5/\W.cell? ⟨b,6,none⟩=some k6/\W.cell? ⟨b,7,none⟩=some k7/\W.cell? ⟨b,8,none⟩=some k8/\∀j,W.frozen? ⟨b,j,none⟩=false:=
 ⟨ma h 0 _ rfl,ma h 1 _ rfl,ma h 2 _ rfl,ma h 3 _ rfl,ma h 4 _ rfl,ma h 5 _ rfl,ma h 6 _ rfl,ma h 7 _ rfl,ma h 8 _ rfl,Gk h⟩
structure Lv where
 th:Int
 sl:Int
 lo:Int
 bu:Int
 pt:Int
 pl:Int
 ls:Int
 ps:Int
 ln:Int
structure Lv.Ok(v:Lv):Prop where
 gJ:0<=v.th
 YS:v.th<=64
 gP:0<=v.sl
 P4:v.sl<=65536
 TQ:0<=v.lo
 lo1:v.lo<=64
 UH:0<=v.bu
 Q4:v.bu<=64
 zZ:0<=v.pt
 pt1:v.pt<=100
 R4:0<=v.pl
 pl1:v.pl<=200
 S4:0<=v.ls
 T4:v.ls<=8
 U4:0<=v.ps
 bS:v.ps<=1000
 iP:0<=v.ln
 jP:v.ln<=100000
structure Nc(W:World)(l:Nat)(v:Lv):Prop where
 row:W.heap[l]?=some (.cells #[.int .i64 v.th, .int .i64 v.sl, .int .i64 v.lo, .int .i64 v.bu, .int .i64 v.pt, .int .i64 v.pl, .int .i64 v.ls, .int .i64 v.ps, .int .i64 v.ln] 174 (0,0))
 ok:v.Ok
theorem Nc.lt{W:World}{l:Nat}{v:Lv}(h:Nc W l v):l<W.heap.size:=(Array.getElem?_eq_some_iff.1 h.row).1
theorem Nc.keep{W W':World}{l:Nat}{v:Lv}(h:Nc W l v)(e:W'.heap[l]?=W.heap[l]?):Nc W' l v:=⟨e.trans h.row,h.ok⟩
theorem Nc.below{W W':World}{l B:Nat}{v:Lv}(h:Nc W l v)(hb:Below B W W')(hB:l<B):Nc W' l v:=h.keep (hb.block l hB)
theorem Dn(l:Nat)(v:Lv)(w:World)(h:Nc w l v):Calls Tryz.prog 240 #[.pointer (some ⟨l,0,none⟩)] w (Fc (.agg #[.int .i64 v.th, .int .i64 v.sl, .int .i64 v.lo, .int .i64 v.bu]) w):=by
 have hl:=h.lt;have Jc:l≠w.heap.size:=by omega
 have Rz:w.heap.size≠l:=by omega
 obtain ⟨l0,l1,l2,l3,l4,l5,l6,l7,l8,lf⟩:=eB h.row;obtain ⟨th,sl,lo,bu,pt,pl,ls,ps,ln⟩:=v;obtain ⟨gJ,YS,gP,P4,TQ,lo1,UH,Q4,zZ,pt1,R4,pl1,S4,T4,U4,bS,iP,jP⟩:=h.ok;simp only at*;clear h
 go_enter Tryz.func240,Tryz.ntmps240
 go_wp2_with fail
 have hh:=heap_alloc_new w (.cells #[.int .i64 th, .int .i64 sl, .int .i64 lo, .int .i64 bu] 23);have z0:=cell_of_row _ _ 0 _ _ _ hh;have z1:=cell_of_row _ _ 1 _ _ _ hh;have z2:=cell_of_row _ _ 2 _ _ _ hh;have z3:=cell_of_row _ _ 3 _ _ _ hh;refine bodyPost_ret (v:= .agg #[.int .i64 th, .int .i64 sl, .int .i64 lo, .int .i64 bu]) (by simp [results,Tryz.results240,go_sem,z0,z1,z2,z3]) rfl ⟨rfl,(Below.refl _ _).alloc (Nat.le_refl _) _⟩
theorem Jo(l:Nat)(v:Lv)(w:World)(h:Nc w l v):Calls Tryz.prog 264 #[.pointer (some ⟨l,0,none⟩)] w (Gc (.int .i64 v.ln) w):=by
 have hl:=h.lt;have Jc:l≠w.heap.size:=by omega
 have Rz:w.heap.size≠l:=by omega
 obtain ⟨l0,l1,l2,l3,l4,l5,l6,l7,l8,lf⟩:=eB h.row;obtain ⟨th,sl,lo,bu,pt,pl,ls,ps,ln⟩:=v;obtain ⟨gJ,YS,gP,P4,TQ,lo1,UH,Q4,zZ,pt1,R4,pl1,S4,T4,U4,bS,iP,jP⟩:=h.ok;simp only at*;clear h
 go_enter Tryz.func264,Tryz.ntmps264
 go_wp2_with fail
 go_ret
 exact ⟨rfl,rfl⟩
theorem kr(l:Nat)(n:Int)(h0:0<=n)(h1:n<=1000000)(w:World):Calls Tryz.prog 213 #[.pointer (some ⟨l,0,none⟩), .int .i64 n] w (Gc (.int .i64 (n*8)) w):=by
 go_enter Tryz.func213,Tryz.ntmps213
 go_wp2_with fail
 go_ret
 exact ⟨rfl,rfl⟩
theorem CaI(l:Nat)(w:World):Calls Tryz.prog 129 #[.pointer (some ⟨l,0,none⟩)] w (Gc (.int .i64 16) w):=by
 have HL:=Lib.hid fun w=>kr l 2 (by omega) (by omega) w
 go_enter Tryz.func129,Tryz.ntmps129
 go_wp2_with fail
 refine (HL.out _).mono ?_
 rintro e w1 ⟨rfl,rfl⟩
 go_wp2_with fail
 go_ret
 exact ⟨rfl,rfl⟩
theorem DaI(l:Nat)(w:World):Calls Tryz.prog 266 #[.pointer (some ⟨l,0,none⟩)] w (Gc (.int .i64 32) w):=by
 have HL:=Lib.hid fun w=>kr l 4 (by omega) (by omega) w
 go_enter Tryz.func266,Tryz.ntmps266
 go_wp2_with fail
 refine (HL.out _).mono ?_
 rintro e w1 ⟨rfl,rfl⟩
 go_wp2_with fail
 go_ret
 exact ⟨rfl,rfl⟩
theorem UaE(l:Nat)(w:World):Calls Tryz.prog 115 #[.pointer (some ⟨l,0,none⟩)] w (Gc (.int .i64 24) w):=by
 have HL:=Lib.hid fun w=>kr l 3 (by omega) (by omega) w
 go_enter Tryz.func115,Tryz.ntmps115
 go_wp2_with fail
 refine (HL.out _).mono ?_
 rintro e w1 ⟨rfl,rfl⟩
 go_wp2_with fail
 go_ret
 exact ⟨rfl,rfl⟩
def hasB(n m:Int):Bool:=decide (0<=n/\n<m)
theorem Ts(n m:Int)(w:World):Calls Tryz.prog 263 #[.int .i64 n, .int .i64 m] w (Gc (.bool (hasB n m)) w):=by
 by_cases h:0<=n
 . have d1:decide (0<=n)=true:=ga h;have e:hasB n m=decide (n<m):=by simp [hasB,h]
   rw [e]
   go_enter Tryz.func263,Tryz.ntmps263
   go_wp2_with fail
   go_ret
   exact ⟨rfl,rfl⟩
 . have d1:decide (0<=n)=false:=ua h;have e:hasB n m=false:=by simp [hasB,h]
   rw [e]
   go_enter Tryz.func263,Tryz.ntmps263
   go_wp2_with fail
   go_ret
   exact ⟨rfl,rfl⟩
def Lv.word(v:Lv)(n many first size at_:Int):Int:=if hasB n many then(first+size*n)*8+at_ else v.ln*8
theorem gG(l:Nat)(v:Lv)(n many first size at_:Int)(hh:hasB n many=true)(hm:many<=100000)(f0:0<=first)(f1:first<=100000)(s0:0<=size)(s1:size<=8)(a0:0<=at_)(a1:at_<=100)(w:World)(h:Nc w l v):
  Calls Tryz.prog 282 #[.pointer (some ⟨l,0,none⟩), .int .i64 n, .int .i64 many, .int .i64 first, .int .i64 size, .int .i64 at_] w (Gc (.int .i64 ((first+size*n)*8+at_)) w):=by
 have HH:Hid (∀w,Calls Tryz.prog 263 #[.int .i64 n, .int .i64 many] w (Gc (.bool true) w)):=Lib.hid fun w=>by rw [<-hh];exact Ts n many w
 have hn:0<=n/\n<many:=by simpa [hasB]using hh
 obtain ⟨n0,n1⟩:=hn;have m0:0<=size*n:=Int.mul_nonneg s0 n0;have m1:size*n<=800000:=by
  have:=Int.mul_le_mul s1 (show n<=100000 by omega) n0 (by omega);omega
 clear hh h
 go_enter Tryz.func282,Tryz.ntmps282
 go_wp2_with fail
 refine (HH.out _).mono ?_
 rintro e w1 ⟨rfl,rfl⟩
 go_wp2_with fail
 go_ret
 exact ⟨rfl,rfl⟩
theorem iJ(l:Nat)(v:Lv)(n many first size at_:Int)(hh:hasB n many=false)(w:World)(h:Nc w l v):
  Calls Tryz.prog 282 #[.pointer (some ⟨l,0,none⟩), .int .i64 n, .int .i64 many, .int .i64 first, .int .i64 size, .int .i64 at_] w (Gc (.int .i64 (v.ln*8)) w):=by
 have HH:Hid (∀w,Calls Tryz.prog 263 #[.int .i64 n, .int .i64 many] w (Gc (.bool false) w)):=Lib.hid fun w=>by rw [<-hh];exact Ts n many w
 have HL:=Lib.hid (Jo l v w h);obtain ⟨n0,n1⟩:=(show 0<=v.ln/\v.ln<=100000 from⟨h.ok.iP,h.ok.jP⟩);clear hh h;generalize v.ln=ln at*
 go_enter Tryz.func282,Tryz.ntmps282
 go_wp2_with fail
 refine (HH.out _).mono ?_
 rintro e w1 ⟨rfl,rfl⟩
 go_wp2_with fail
 refine (HL.out).mono ?_
 rintro e w1 ⟨rfl,rfl⟩
 go_wp2_with fail
 go_ret
 exact ⟨rfl,rfl⟩
theorem kD(l:Nat)(v:Lv)(n many first size at_:Int)(hm:many<=100000)(f0:0<=first)(f1:first<=100000)(s0:0<=size)(s1:size<=8)(a0:0<=at_)(a1:at_<=100)(w:World)(h:Nc w l v):
  Calls Tryz.prog 282 #[.pointer (some ⟨l,0,none⟩), .int .i64 n, .int .i64 many, .int .i64 first, .int .i64 size, .int .i64 at_] w (Gc (.int .i64 (v.word n many first size at_)) w):=by
 unfold Lv.word;cases hh:hasB n many with
 |true=>exact gG l v n many first size at_ hh hm f0 f1 s0 s1 a0 a1 w h
 |false=>exact iJ l v n many first size at_ hh w h
def Lv.slot(v:Lv)(s at_:Int):Int:=v.word s v.sl v.ps 1 at_
theorem lr(l:Nat)(v:Lv)(s at_:Int)(a0:0<=at_)(a1:at_<=100)(w:World)(h:Nc w l v):
  Calls Tryz.prog 220 #[.pointer (some ⟨l,0,none⟩), .int .i64 s, .int .i64 at_] w (Sl (.int .i64 (v.slot s at_)) w):=by
 have HW:Hid (∀w,Nc w l v->Calls Tryz.prog 282 #[.pointer (some ⟨l,0,none⟩), .int .i64 s, .int .i64 v.sl, .int .i64 v.ps, .int .i64 1, .int .i64 at_] w (Gc (.int .i64 (v.slot s at_)) w)):=Lib.hid fun w h=>
  kD l v s v.sl v.ps 1 at_ (by have:=h.ok.P4;omega) h.ok.U4 (by have:=h.ok.bS;omega) (by omega) (by omega) a0 a1 w h
 have HL:=Lib.hid h;obtain ⟨l0,l1,l2,l3,l4,l5,l6,l7,l8,lf⟩:=eB h.row;clear h;generalize v.slot s at_=r at*;generalize v.sl=sl at*;generalize v.ps=ps at*
 go_enter Tryz.func220,Tryz.ntmps220
 go_wp2_with fail
 go_quiet ((go_at_call 282;exact Calls.quiet_of_same (HW.out _ (HL.out.keep rfl))))
 go_wp2_with fail
 go_ret
 exact ⟨rfl,_,rfl⟩
theorem Vap(l:Nat)(v:Lv)(s:Int)(w:World)(h:Nc w l v):Calls Tryz.prog 341 #[.pointer (some ⟨l,0,none⟩), .int .i64 s] w (Sl (.int .i64 (v.slot s 1)) w):=by
 have HS:=Lib.hid (lr l v s 1 (by omega) (by omega) w h);clear h
 go_enter Tryz.func341,Tryz.ntmps341
 go_wp2_with fail
 refine HS.out.mono ?_
 rintro e w1 ⟨rfl,n,rfl⟩
 go_wp2_with fail
 go_ret
 exact ⟨rfl,n,rfl⟩
theorem Wap(l:Nat)(v:Lv)(s:Int)(w:World)(h:Nc w l v):Calls Tryz.prog 133 #[.pointer (some ⟨l,0,none⟩), .int .i64 s] w (Sl (.int .i64 (v.slot s 2)) w):=by
 have HS:=Lib.hid (lr l v s 2 (by omega) (by omega) w h);clear h
 go_enter Tryz.func133,Tryz.ntmps133
 go_wp2_with fail
 refine HS.out.mono ?_
 rintro e w1 ⟨rfl,n,rfl⟩
 go_wp2_with fail
 go_ret
 exact ⟨rfl,n,rfl⟩
theorem jag(l:Nat)(v:Lv)(s:Int)(w:World)(h:Nc w l v):Calls Tryz.prog 211 #[.pointer (some ⟨l,0,none⟩), .int .i64 s] w (Sl (.int .i64 (v.slot s 3)) w):=by
 have HS:=Lib.hid (lr l v s 3 (by omega) (by omega) w h);clear h
 go_enter Tryz.func211,Tryz.ntmps211
 go_wp2_with fail
 refine HS.out.mono ?_
 rintro e w1 ⟨rfl,n,rfl⟩
 go_wp2_with fail
 go_ret
 exact ⟨rfl,n,rfl⟩
theorem kag(l:Nat)(v:Lv)(s:Int)(w:World)(h:Nc w l v):Calls Tryz.prog 212 #[.pointer (some ⟨l,0,none⟩), .int .i64 s] w (Sl (.int .i64 (v.slot s 4)) w):=by
 have HS:=Lib.hid (lr l v s 4 (by omega) (by omega) w h);clear h
 go_enter Tryz.func212,Tryz.ntmps212
 go_wp2_with fail
 refine HS.out.mono ?_
 rintro e w1 ⟨rfl,n,rfl⟩
 go_wp2_with fail
 go_ret
 exact ⟨rfl,n,rfl⟩
theorem lag(l:Nat)(v:Lv)(s:Int)(w:World)(h:Nc w l v):Calls Tryz.prog 343 #[.pointer (some ⟨l,0,none⟩), .int .i64 s] w (Sl (.int .i64 (v.slot s 0)) w):=by
 have HS:=Lib.hid (lr l v s 0 (by omega) (by omega) w h);clear h
 go_enter Tryz.func343,Tryz.ntmps343
 go_wp2_with fail
 refine HS.out.mono ?_
 rintro e w1 ⟨rfl,n,rfl⟩
 go_wp2_with fail
 go_ret
 exact ⟨rfl,n,rfl⟩
def qb(n:Int):Int:=(n+7)/8
theorem zx(n:Int)(h0:0<=n)(h1:n<=1000000)(w:World):Calls Tryz.prog 100 #[.int .i64 n] w (Gc (.int .i64 (qb n)) w):=by
 have HC:Hid ((n+8 -1)/8=qb n):=Lib.hid (by unfold qb;omega);have HD:Hid ((n+7)/8=qb n):=Lib.hid rfl
 go_enter Tryz.func100,Tryz.ntmps100
 go_wp2_with fail
 go_ret
 exact ⟨Ta (by first|exact HC.out|exact HD.out),rfl⟩
theorem jJ(a n:Int)(b:Nat)(a0:0<=a)(a1:a<=10000000)(n0:0<=n)(n1:n<=10000000)(w:World)(h:w.cell? ⟨b,0,none⟩=some (.int .i64 a))(hf:w.frozen? ⟨b,0,none⟩=false):
  Calls Tryz.prog 99 #[.int .i64 n, .pointer (some ⟨b,0,none⟩)] w fun e w'=>e= .returned (.int .i64 a)/\w'=w.setCell ⟨b,0,none⟩ (.int .i64 (a+n)):=by
 have HE:Hid (a+n -n=a):=Lib.hid (by omega);have hc:=rn (.int .i64 (a+n)) h
 go_enter Tryz.func99,Tryz.ntmps99
 go_wp2_with fail
 go_ret
 exact ⟨Ta (by first|rfl|exact HE.out|omega),rfl⟩
theorem jv.ZS{p B:Nat}{w w':World}(h:jv p w w')(hp:B<=p)(hs:B<=w.heap.size):Below B w w':=⟨h.os,h.tape,h.output,h.size,fun k hk=>h.block k (by omega) (by omega)⟩
theorem AL(a n:Int)(b:Nat)(a0:0<=a)(a1:a<=10000000)(n0:0<=n)(n1:n<=10000000)(w:World)(h:w.heap[b]?=some (.cells #[.int .i64 a] 3 (0,0))):
  Calls Tryz.prog 99 #[.int .i64 n, .pointer (some ⟨b,0,none⟩)] w fun e w'=>e= .returned (.int .i64 a)/\w'.heap[b]?=some (.cells #[.int .i64 (a+n)] 3 (0,0))/\jv b w w':=by
 refine (jJ a n b a0 a1 n0 n1 w (ma h 0 _ rfl) (Gk h 0)).mono ?_
 rintro e w' ⟨rfl,rfl⟩;exact ⟨rfl,heap_set _ h,⟨rfl,rfl,rfl,by simp [World.setCell],fun k _ hk=>aa hk⟩⟩
def Xc.lv(c:Xc):Lv:=
 {th:=c.th,sl:=c.sl,lo:=c.lo,bu:=c.bu,pt:=5+qb c.bu,pl:=5+qb c.bu+c.th,ls:=qb c.lo,
  ps:=5+qb c.bu+c.th+c.th*qb c.lo,ln:=5+qb c.bu+c.th+c.th*qb c.lo+c.sl}
theorem kJ(a b m n:Int)(a0:0<=a)(a1:a<=m)(b0:0<=b)(b1:b<=n):0<=a*b/\a*b<=m*n:=
 ⟨Int.mul_nonneg a0 b0,Int.le_trans (Int.mul_le_mul_of_nonneg_right a1 b0) (Int.mul_le_mul_of_nonneg_left b1 (by omega))⟩
theorem Xc.V4(c:Xc)(h:c.right):c.lv.Ok:=by
 obtain ⟨h1,h2,h3,h4,h5,h6,h7,h8⟩:=h;have b0:0<=qb c.bu/\qb c.bu<=8:=by unfold qb;omega
 have l0:0<=qb c.lo/\qb c.lo<=8:=by unfold qb;omega
 have m:=kJ c.th (qb c.lo) 64 8 (by omega) h2 l0.1 l0.2
 unfold Xc.lv;constructor<;>simp only<;>omega
def EaI(v:Lv)(W:World)(e:Ending)(W':World):Prop:=∃l,e= .returned (.tuple #[.pointer (some ⟨l,0,none⟩), .int .i64 0])/\Below W.heap.size W W'/\W.heap.size<=l/\Nc W' l v
set_option maxRecDepth 100000 in
set_option maxHeartbeats 1000000 in
theorem FaI(c:Xc)(h:c.right)(w:World):Calls Tryz.prog 40 #[.agg c.cells] w (EaI c.lv w):=by
 have HR:Hid (∀w,Calls Tryz.prog 98 #[.agg c.cells] w (gD true w)):=Lib.hid fun w=>by have:=eP c w;rw [ga h]at this;exact this
 have kP:=Lib.hid (c.V4 h);obtain ⟨h1,h2,h3,h4,h5,h6,h7,h8⟩:=h;have b0:0<=qb c.bu/\qb c.bu<=8:=by unfold qb;omega
 have l0:0<=qb c.lo/\qb c.lo<=8:=by unfold qb;omega
 have m:=kJ c.th (qb c.lo) 64 8 (by omega) h2 l0.1 l0.2
 have HB:=Lib.hid fun w=>zx c.bu (by omega) (by omega) w
 have HL:=Lib.hid fun w=>zx c.lo (by omega) (by omega) w
 unfold Xc.lv at*;obtain ⟨th,sl,lo,bu⟩:=c;simp only [Xc.cells]at*;generalize qb bu=nb at*;generalize qb lo=nl at*;obtain ⟨b0,b1⟩:=b0;obtain ⟨l0,l1⟩:=l0;obtain ⟨m0,m1⟩:=m
 go_enter Tryz.func40,Tryz.ntmps40
 go_wp2_with fail
 refine (HR.out _).mono ?_
 rintro e w1 ⟨rfl,hb⟩;have Vh:Hid (Below w.heap.size w w1):=Lib.hid (((Below.refl _ _).alloc (Nat.le_refl _) _).trans (hb.mono (by simp)));have HS:Hid (w.heap.size<w1.heap.size):=Lib.hid (by have:=hb.size;simp at this;omega);have HC:Hid (w1.heap[w.heap.size]?=some (.cells #[.int .i64 th, .int .i64 sl, .int .i64 lo, .int .i64 bu] 23)):=Lib.hid ((hb.block _ (by simp)).trans (heap_alloc_new w _));obtain ⟨c0,c1,c2,c3,cf⟩:=Uap HC.out;have hs:=HS.out;clear hb
 go_wp2_with fail
 refine (HB.out _).mono ?_
 rintro e w2 ⟨rfl,rfl⟩
 go_wp2_with fail
 refine (jJ 5 nb w1.heap.size (by omega) (by omega) b0 (by omega) _ (by simp) (by simp)).mono ?_
 rintro e w2 ⟨rfl,rfl⟩
 go_wp2_with fail
 refine fG 5 (by kernel_rfl) (by kernel_rfl) ?_
 simp only [List.take_succ_cons,List.take_zero,List.drop_succ_cons,List.drop_zero]
 still_step
 still_step
 still_step
 still_call (HL.out _)
 still_step
 refine wpStill_nil ?_
 go_wp2_with fail
 refine (jJ (5+nb) th w1.heap.size (by omega) (by omega) (by omega) (by omega) _ (by simp) (by simp)).mono ?_
 rintro e w2 ⟨rfl,rfl⟩
 go_wp2_with fail
 obtain ⟨W3,h3⟩:∃W3,W3=World.drew ((w1.alloc (.cells #[.int .i64 (5+nb+th)] 3)).alloc (.cells #[.int .i64 th, .int .i64 sl, .int .i64 lo, .int .i64 bu, .int .i64 (5+nb), .int .i64 0, .int .i64 nl, .int .i64 0, .int .i64 0] 174)):=⟨_,rfl⟩;rw [<-h3];have e3:W3.heap=((w1.alloc (.cells #[.int .i64 (5+nb+th)] 3)).alloc (.cells #[.int .i64 th, .int .i64 sl, .int .i64 lo, .int .i64 bu, .int .i64 (5+nb), .int .i64 0, .int .i64 nl, .int .i64 0, .int .i64 0] 174)).heap:=by rw [h3];rfl
 have HA:Hid (W3.heap[w1.heap.size]?=some (.cells #[.int .i64 (5+nb+th)] 3)):=Lib.hid (by rw [e3];exact (Yd w1 _ _).1);have UQ:Hid (W3.heap[w1.heap.size+1]?=some (.cells #[.int .i64 th, .int .i64 sl, .int .i64 lo, .int .i64 bu, .int .i64 (5+nb), .int .i64 0, .int .i64 nl, .int .i64 0, .int .i64 0] 174)):=Lib.hid (by rw [e3];exact (Yd w1 _ _).2);have HC3:Hid (W3.heap[w.heap.size]?=some (.cells #[.int .i64 th, .int .i64 sl, .int .i64 lo, .int .i64 bu] 23)):=Lib.hid (by rw [e3,Below.heap_alloc _ _ _ (by simp;omega),Below.heap_alloc _ _ _ hs];exact HC.out);have W4:Hid (Below w.heap.size w W3):=Lib.hid (by rw [h3];exact ((Vh.out.alloc Vh.out.size _).alloc (by have:=Vh.out.size;simp;omega) _).drew);obtain ⟨A,hA⟩:∃A,A=w1.heap.size:=⟨_,rfl⟩;rw [<-hA]at HA UQ hs⊢;have hw:w.heap.size<=A:=by omega
 have HWA:Hid (w.heap.size<=A):=Lib.hid hw;clear h3 e3 c0 c1 c2 c3 cf HC Vh HS hA;obtain ⟨C,hC⟩:∃C,C=w.heap.size:=⟨_,rfl⟩;rw [<-hC]at HC3 hs⊢;clear hC hw;have q0:=ma HC3.out 0 _ rfl;have q1:=ma HC3.out 1 _ rfl;have q2:=ma UQ.out 2 _ rfl;have q4:=ma UQ.out 4 _ rfl;have q6:=ma UQ.out 6 _ rfl;have q7:=ma UQ.out 7 _ rfl;have q8:=ma UQ.out 8 _ rfl;have qf:=Gk UQ.out;have hw2:IntKind.i64.wrap (th*nl)=th*nl:=IntWalk.i64_in _ (by omega);have Jc:C≠A:=by omega
 have Rz:A≠C:=by omega
 have Yap:=Lib.hid fun w h=>AL (5+nb+th) (th*nl) A (by omega) (by omega) m0 (by omega) w h
 have HAS:Hid (A+1<W3.heap.size):=Lib.hid (zb UQ.out);refine Be 1 8 (by kernel_rfl) (by kernel_rfl) (fun _ _ d _ _ h=>by cases d<;>exact h) ?_
 simp only [List.take_succ_cons,List.take_zero,List.drop_succ_cons,List.drop_zero,Nat.reduceAdd]
 repeat (first|go_big_quiet_skip|(go_big_quiet_want;go_big_quiet_op;go_big_quiet_on))
 refine wpQuiet_nil ?_
 repeat (first|go_big_quiet_skip|(go_big_quiet_want;go_big_quiet_op;go_big_quiet_on))
 refine wpQuiet_nil ?_
 rintro _ ⟨k,rfl⟩
 go_wp2_with fail
 refine (Yap.out _ (by exact HA.out)).mono ?_
 rintro e w2 ⟨rfl,ha2,Uj⟩;have OF:=Lib.hid ha2;have HL4:=Lib.hid ((Uj.block (A+1) HAS.out (by omega)).trans UQ.out);have HC4:=Lib.hid ((Uj.block C (by have:=HAS.out;show C<W3.heap.size;omega) Jc).trans HC3.out);have VH:=Lib.hid ((xb W4.out k).trans (jv.ZS Uj HWA.out W4.out.size));clear ha2 Uj q0 q1 q2 q4 q6 q7 q8 qf hw2 Yap W4 UQ HC3 HA;have q1:=ma HC4.out 1 _ rfl;have q2:=ma HL4.out 5 _ rfl;have qf:=Gk HL4.out
 go_wp2_with fail
 obtain ⟨W5,h5⟩:∃W5,W5=w2.setCell ⟨A+1,5,none⟩ (.int .i64 (5+nb+th)):=⟨_,rfl⟩;rw [<-h5];have HA5:Hid (W5.heap[A]?=some (.cells #[.int .i64 (5+nb+th+th*nl)] 3)):=Lib.hid (by rw [h5];exact (aa (by omega)).trans OF.out);have HL5:Hid (W5.heap[A+1]?=some (.cells #[.int .i64 th, .int .i64 sl, .int .i64 lo, .int .i64 bu, .int .i64 (5+nb), .int .i64 (5+nb+th), .int .i64 nl, .int .i64 0, .int .i64 0] 174)):=Lib.hid (by rw [h5];exact heap_set _ HL4.out);have X4:Hid (Below w.heap.size w W5):=Lib.hid (by rw [h5];exact VH.out.setCell (by have:=HWA.out;simp;omega) _);clear h5 q1 q2 qf VH HL4 OF;refine (AL (5+nb+th+th*nl) sl A (by omega) (by omega) (by omega) (by omega) W5 HA5.out).mono ?_
 rintro e w6 ⟨rfl,ha6,hb6⟩;have HA6:=Lib.hid ha6;have HL6:=Lib.hid ((hb6.block (A+1) (zb HL5.out) (by omega)).trans HL5.out);have HB6:=Lib.hid (X4.out.trans (jv.ZS hb6 HWA.out X4.out.size));clear ha6 hb6 X4 HL5 HA5;have q0:=ma HA6.out 0 _ rfl;have q7:=ma HL6.out 7 _ rfl;have q8:=ma HL6.out 8 _ rfl;have qf:=Gk HL6.out
 go_wp2_with fail
 go_ret2
 refine ⟨A+1,rfl, ?_,by have:=HWA.out;omega,⟨?_,kP.out⟩⟩
 . exact (HB6.out.setCell (by have:=HWA.out;simp;omega) _).setCell (by have:=HWA.out;simp;omega) _
 . exact heap_set _ (heap_set _ HL6.out)
end Go.Proofs.YtfnkmolffhfpoaaGreat
namespace Go.Proofs.YtfnkmolffhfpoaaGreat
open Go.RowKit
theorem iG{n:Nat}{P:Program}{row:String}{args:Array Value}{w:World}{R:Value->World->Prop}(h:Rows P row args w R):RowsIn Fence.wide n P row args w R:=
 fun c cs _=>by
  obtain ⟨v,w',r,s⟩:=h c cs;exact ⟨v,w',r,stepsIn_wide.2 s⟩
theorem AZ{P:Program}{o:Oper}{a:Act}{w:World}{K:Act->World->Prop}{Q:Exit->Act->World->Prop}{l n:Nat}(hd:∀c,o.op≠ .defer c)(h:o.wp P a w K Q):o.wpIn (Fence.wide.inRound l) n P a w K Q:=by
 refine ⟨fun _ _=>trivial, ?_⟩;unfold Oper.wp at h;rw [show(o.semAt (Fence.wide.inRound l).round a.eval)=execOp a.eval o from Oper.semAt_eq _ _ _ hd];generalize (execOp a.eval o).run P w=r at*
 cases r with
 |ok x w'=>
  cases x<;>first
   |exact h
   |exact ⟨(fun e=>by cases e),CallsIn.inRound l (callsIn_wide.2 h)⟩
   |exact ⟨(fun e=>by cases e),iG h⟩
   |exact h.elim
 |halt x w'=>cases x<;>exact h
theorem oag{P:Program}{md:Region.Mode}{ops:Array Oper}{Q:Exit->Act->World->Prop}{l n:Nat}(hd:∀(i:Nat) (o:Oper),ops[i]?=some o->∀c,o.op≠ .defer c)(hQ:¬LetsOut Q):
  ∀(fuel:Nat) (ja:Array Bool) (a:Act) (w:World),wpAny P md ops Q fuel ja a w->wpAnyIn (Fence.wide.inRound l) n P md ops Q fuel ja a w:=by
 intro fuel
 induction fuel with
 |zero=>intro ja a w h;exact h
 |succ fuel ih=>
  intro ja a w h;refine ⟨h.1,fun i hi=> ?_⟩;have hs:=h.2 i hi
  unfold wpOp at hs;unfold wpOpIn;cases ho:ops[i]?with
  |none=>rw [ho]at hs;exact ih _ _ _ hs
  |some o=>
   rw [ho]at hs;simp only at hs⊢
   split
   . rename_i hw;rw [if_pos hw]at hs;rcases hs with hs|⟨-,hs⟩
     . exact Oper.wpIn_mono (fun a w h=>ih _ _ _ h) (AZ (hd i o ho) hs)
     . exact absurd hs hQ
   . rename_i hw;rw [if_neg hw]at hs;exact ⟨fun _ _=>trivial,ih _ _ _ hs⟩
theorem lP{P:Program}{ops:Array Oper}{Q:Exit->Act->World->Prop}{l n id:Nat}{a:Act}{w:World}(hm:P.follows .mixedOrders=true)(hd:∀(i:Nat) (o:Oper),ops[i]?=some o->∀c,o.op≠ .defer c)(hQ:¬LetsOut Q)
  (h:wpAny P .any ops Q ops.size (Array.replicate ops.size false) a w.drew):(Code.region id ops true).wpIn (Fence.wide.inRound l) n P Q a w:=
 wpIn_region_any hm (oag hd hQ _ _ _ _ h)
theorem se{P:Program}{ops:Array Oper}{o:Oper}{a:Act}{w:World}{K:Act->World->Prop}{Q:Exit->Act->World->Prop}{E:Prop}(hgd:o.guard=none)(s x:Operand)(t:TypeId)
  (ho:o.op= .call {callee:= .builtin .append,args:=#[s,x],argTypes:=#[t,t]})
  (base:Nat)(e:TypeId)(i:TypeInfo)(z:Value)(size bytes:Nat)(ht:P.underlying t=some (.slice e))(hi:P.info? e=some i)(hz:i.zero=some z)
  (IF:i.size=size)(BY:i.bytes=bytes)(CY:z.cells.size=size)(mj:0<size)
  (v:Value)(n:Nat)(xs:List Value)(hs:a.eval s=v)(ke:w.ownsRow base e size v n xs)
  (ad:Addr)(m c:Nat)(news:List Value)(hx:a.eval x= .slice (some ad) m c)(hl:news.length=m*size)(BR:∀j u,news[j]?=some u->w.cell? (ad.add j)=some u)(h1:∀u∈news,u.oneCell'=true)
  (h63:n+m<=maxLen)(Yw:(n+m)*bytes<=140737488355328)(BS:base<=w.heap.size)
  (h:∀v' w',w'.ownsRow base e size v' (n+m) (xs++news)->w.grownBy w' v.ownBlock->(v'.ownBlock=v.ownBlock\/v'.ownBlock=some w.heap.size)->K (a.put o.dst v') w'):
  if Region.wanted o (yielded ops a.tmps)=true then Oper.wp P o a w K Q else E:=by
 have hw:Region.wanted o (yielded ops a.tmps)=true:=by simp [Region.wanted,hgd]
 rw [if_pos hw];obtain ⟨v',w',hr,h2,h3,h4,h5⟩:=run_append_own_at (P:=P) w base t o.type e i z size bytes ht hi hz IF BY CY mj v n xs ke ad m c news hl BR h1 h63 Yw BS;unfold Oper.wp execOp;simp only [ho,resolve,invoke,builtin,Sem.run_bind,Sem.run_pure,Result.andThen_ok,List.map_toArray,List.map_cons,List.map_nil,hs,hx,hr];exact h v' w' h2 h3 h5
end Go.Proofs.YtfnkmolffhfpoaaGreat
namespace Go.Proofs.YtfnkmolffhfpoaaGreat
open Go.RowKit Go.BigFrame
def Ko(W:World)(b2 b3 b off n cap k:Nat):Prop:=
 ∃A,(8*(k+1)<=n->A=some ⟨b,off+8*k,none⟩)/\W.cell? ⟨b2,0,none⟩=some (.slice A (n -8*k) (cap -8*k))/\W.cell? ⟨b3,0,none⟩=some (.int .i64 8)/\W.frozen? ⟨b2,0,none⟩=false
set_option maxRecDepth 100000 in
theorem pag(m l b2 b3 b off n cap:Nat)(Jc:b2≠b3)(hm:1<=m)(hn:n<=cap)(hc:cap<=9223372036854775807)(J J':Nat->World->Prop)
  (hJ:∀k W,J k W->Ko W b2 b3 b off n cap k)
  (hJ':∀k W,J' k W->Ko W b2 b3 b off n cap k)
  (hY:∀k W,8*(k+1)<=n->J k W->YieldAt Fence.wide (m -1) Tryz.prog l #[.slice (some ⟨b,off+8*k,none⟩) 8 8] W fun e W'=>e= .returned (.bool true)/\J' k W')
  (hN:∀k W A,8*(k+1)<=n->J' k W->(8*(k+1+1)<=n->A=some ⟨b,off+8*(k+1),none⟩)->J (k+1) (W.setCell ⟨b2,0,none⟩ (.slice A (n -8*(k+1)) (cap -8*(k+1)))))
  (W:World)(h0:J 0 W):
  CallsIn Fence.wide m Tryz.prog 274 #[.func (.yield l) #[] #[], .pointer (some ⟨b2,0,none⟩), .pointer (some ⟨b3,0,none⟩)] W fun e W'=>(∃v,e= .returned v)/\J (n/8) W':=by
 have HJ:=Lib.hid hJ;have HJ':=Lib.hid hJ';have HY:=Lib.hid hY;have HN:=Lib.hid hN;have H0:=Lib.hid h0;clear hJ hJ' hY hN h0;refine callsIn_of_wp Tryz.func274 rfl trivial ?_ rfl
 simp only [Tryz.ntmps274,List.size_toArray,List.length_cons,List.length_nil,Nat.reduceAdd,Nat.reduceSub,Array.replicate_succ,Array.replicate_zero,List.push_toArray,List.append_toArray,List.nil_append,List.cons_append]
 gi_wp2
 gi_loopg [] (n/8) (fun g wr=>∃k:Nat,k+g=n/8/\Hid (J k wr))
 case atStart=>exact ⟨0,by omega,H0⟩
 case round=>
  obtain ⟨k,hk,HK⟩:=hrel;obtain ⟨A,hA,c2,c3,f2⟩:=HJ.out k wr HK.out;by_cases Db:8*(k+1)<=n
  . obtain rfl:=hA (by omega);obtain ⟨fn,tmps,assign,body,hy,hR⟩:=HY.out k wr Db HK.out;have HR:=Lib.hid hR;have HL:=Lib.hid Db;obtain ⟨r,hr⟩:∃r,r=n -8*k:=⟨_,rfl⟩;obtain ⟨q,hq⟩:∃q,q=cap -8*k:=⟨_,rfl⟩;rw [<-hr,<-hq]at c2;have d1:decide ((8:Int)<=(r:Int))=true:=ga (by omega);have i1:(8:Int)<=(q:Int):=by omega
    have i2:(8:Int)<=(r:Int):=by omega
    have i3:(r:Int)<=(q:Int):=by omega
    have HRQ:Hid (r=n -8*k/\q=cap -8*k):=Lib.hid ⟨hr,hq⟩;obtain ⟨o,ho⟩:∃o,o=off+8*k:=⟨_,rfl⟩;rw [<-ho]at c2 hy;have HO:=Lib.hid ho;clear hA hr hq ho hR Db HY HJ
    gi_wp2
    refine HR.out.mono ?_
    rintro e W' ⟨rfl,hj⟩;have HK2:=Lib.hid hj;obtain ⟨A2,hA2,e2,e3,g2⟩:=HJ'.out k W' hj;obtain rfl:=hA2 (by have:=HL.out;omega);rw [<-HO.out,<-HRQ.out.1,<-HRQ.out.2]at e2;clear hj hA2 c2 c3 f2 hy HR;by_cases hq8:q=8
    . have hN1:=HN.out k W' (some ⟨b,o,none⟩) HL.out HK2.out (fun h=>by have:=HRQ.out.2;have:=HL.out;omega);have VO:J (k+1) (W'.setCell ⟨b2,0,none⟩ (.slice (some ⟨b,o,none⟩) (r -8) (q -8))):=by
       rw [show r -8=n -8*(k+1)by have:=HRQ.out;omega,show q -8=cap -8*(k+1)by have:=HRQ.out;omega];exact hN1
      have Y4:=Lib.hid VO;clear hN1 VO;subst hq8
      gi_wp2
      go_roundg (gk -1)
      case rel=>exact ⟨k+1,by have:=HL.out;omega,Y4⟩
      case measure=>have:=HL.out;omega
    . have hN1:=HN.out k W' (some ⟨b,o+8,none⟩) HL.out HK2.out (fun _=>by rw [HO.out];congr 2);have VO:J (k+1) (W'.setCell ⟨b2,0,none⟩ (.slice (some ⟨b,o+8,none⟩) (r -8) (q -8))):=by
       rw [show r -8=n -8*(k+1)by have:=HRQ.out;omega,show q -8=cap -8*(k+1)by have:=HRQ.out;omega];exact hN1
      have Y4:=Lib.hid VO;have q1:(8==q)=false:=by simp;omega
      have q2:(q==8)=false:=by simp;omega
      clear hN1 VO
      gi_wp2
      go_roundg (gk -1)
      case rel=>exact ⟨k+1,by have:=HL.out;omega,Y4⟩
      case measure=>have:=HL.out;omega
  . have HL:=Lib.hid Db;have mq:k=n/8:=by omega
    have HR:Hid (n -8*k<8):=Lib.hid (by omega);generalize n -8*k=r at*;have d1:decide ((8:Int)<=(r:Int))=false:=ua (by have:=HR.out;omega);have HKN:=Lib.hid mq;clear mq Db hA
    gi_wp2
    go_end0
    exact ⟨⟨_,rfl⟩,by rw [<-HKN.out];exact HK.out⟩
end Go.Proofs.YtfnkmolffhfpoaaGreat
