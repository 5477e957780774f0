/- -/
import Derived.Test.YtfnkmolffhfpoaaGreatHb1
import Derived.StillTailTactics
import Derived.Deep.Quiet
import Derived.OrdersHeld
import Derived.Deep.RegionHeld3
import Derived.BigQuiet
import Derived.Deep.QuietTactic
set_option linter.unusedVariables false
set_option linter.unusedSimpArgs false
namespace Go.Proofs.YtfnkmolffhfpoaaGreat
section
variable{P:Program}{ops:Array Oper}{md:Region.Mode}{C:World->Prop}
def TF(md:Region.Mode)(ops:Array Oper)(fl:List Nat)(n:Nat):Bool:=
 (List.range n).all fun i=>fl.contains i||(List.range (n+1)).any fun j=>decide (i<j)&&Region.waitsFor md ops j i
theorem Sp{fl:List Nat}{n:Nat}{ba:Array Bool}(hs:TF md ops fl n=true)(hc:Region.chainB md ops n=true)(hn:n<ops.size)(inv:HeadInv md ops n ba)(hf:∀i∈fl,ba.getD i true=true):
  ∀(d i:Nat),n -i=d->i<n->ba.getD i true=false->∀t,n<=t->t∉Region.ready md ops ba:=by
 intro d
 induction d using Nat.strongRecOn with
 |_ d ih=>
  intro i hd hi qD t ht hr;obtain ⟨_,ot,hot,ug⟩:=mem_ready.1 hr
  have Aam:t<ops.size:=(Array.getElem?_eq_some_iff.1 hot).1
  by_cases htn:t=n
  . subst htn;have h1:=List.all_eq_true.1 hs i (List.mem_range.2 hi)
    simp only [Bool.or_eq_true]at h1;rcases h1 with h1|h1
    . have:=hf i (by simpa using h1);rw [qD]at this;cases this
    obtain ⟨j,hj,hj2⟩:=List.any_eq_true.1 h1
    simp only [Bool.and_eq_true,decide_eq_true_eq]at hj2;obtain ⟨oj,J1,e,he,hb,hon⟩:=Region.waitsFor_spec hj2.2
    have aay:j<=t:=by have:=List.mem_range.1 hj;omega
    by_cases hjt:j=t
    . subst hjt;obtain rfl:oj=ot:=Option.some.inj (J1.symm.trans hot);have h2:=ug e he hb;rw [hon,getD_both qD]at h2;cases h2
    . cases hl:ba.getD j false with
      |true=>
       have h2:=inv.closed j oj J1 hl e he hb;rw [hon,getD_both qD]at h2;cases h2
      |false=>exact ih (t -j) (by omega) j rfl (by omega) (getD_in (by rw [inv.size];omega) hl) t (Nat.le_refl _) hr
  . have h1:=List.all_eq_true.1 hc t (List.mem_range.2 Aam)
    simp only [Bool.or_eq_true,decide_eq_true_eq]at h1;rcases h1 with h1|h1
    . omega
    . obtain ⟨o',OH,e,he,hb,hon⟩:=Region.waitsFor_spec h1;obtain rfl:o'=ot:=Option.some.inj (OH.symm.trans hot);have h2:=ug e he hb;rw [hon,getD_both (inv.tail (t -1) (by omega) (by omega))]at h2;cases h2
def Bn(P:Program)(md:Region.Mode)(ops:Array Oper)(C:World->Prop)(n:Nat)(L:Array Bool->Act->Prop):Nat->Array Bool->Act->Prop
 |0,ba,a=>L ba a
 |f+1,ba,a=>Region.ready md ops ba≠[]/\∀i∈Region.ready md ops ba,i<n/\qOp P ops C i (Bn P md ops C n L f (ba.setIfInBounds i true)) a
theorem Tp{n g:Nat}{L:Array Bool->Act->Prop}{Q':Exit->Act->World->Prop}(hL:∀ba a w,C w->L ba a->wpAny P md ops Q' g ba a w):
  ∀(f:Nat) (ba:Array Bool) (a:Act) (w:World),C w->Bn P md ops C n L f ba a->wpAny P md ops Q' (f+g) ba a w
 |0,ba,a,w,hw,h=>by rw [Nat.zero_add];exact hL _ _ _ hw h
 |f+1,ba,a,w,hw,h=>by
  rw [show f+1+g=(f+g)+1 by omega];exact ⟨fun h0=>absurd h0 h.1,fun i hi=>wpOp_of_qOp hw (fun a' w' hw' h'=>Tp hL f _ a' w' hw' h') (h.2 i hi).2⟩
theorem Oo{ba:Array Bool}{fl:List Nat}(hf:∀i∈fl,ba.getD i true=true)(j:Nat):∀i∈fl,(ba.setIfInBounds j true).getD i true=true:=fun i hi=>by
 by_cases h:j=i
 . subst h;rcases Nat.lt_or_ge j ba.size with h'|h'
   . simp [h']
   . simp [h']
 . rw [getD_set_ne true h];exact hf i hi
theorem BD{fl:List Nat}{n i:Nat}{oi:Oper}{v:Value}{L:Array Bool->Act->Prop}(hi:ops[i]?=some oi)(jr:∀(j:Nat) (o:Oper) cs b,ops[j]?=some o->o.op≠ .select cs b)
  (hs:TF md ops fl n=true)(hc:Region.chainB md ops n=true)(hn:n<ops.size)(Cf:i<n)
  (CK:∀ba a,L ba a->∀j∈Region.ready md ops ba,n<=j):
  ∀(f:Nat) (ba:Array Bool) (a:Act),HeadInv md ops n ba->(∀i∈fl,ba.getD i true=true)->
   (∀j oj,ops[j]?=some oj->j≠i->ba.getD j true=false->(∀e∈oj.after,Region.binds md e=true->e.on≠i)->oi.apart ops oj=true)->
   i∈Region.ready md ops ba->YieldsIn P ops C oi v a->
   Bn P md ops C n L f (ba.setIfInBounds i true) (a.put oi.dst v)->Bn P md ops C n L (f+1) ba a:=by
 intro f
 induction f with
 |zero=>
  intro ba a inv UF _ hr hy H;have qD:=(mem_ready.1 hr).1
  refine ⟨fun h=>(by rw [h]at hr;cases hr),fun j hj=> ?_⟩;have M1:j<n:=by
   rcases Nat.lt_or_ge j n with h|h
   . exact h
   . exact absurd hj (Sp hs hc hn inv UF _ i rfl Cf qD j h)
  refine ⟨M1, ?_⟩;by_cases YS:j=i
  . subst YS;exact hy.qOp hi H
  . have:=CK _ _ H j (ready_mono hj YS);omega
 |succ f ih=>
  intro ba a inv UF ZS hr hy H;have qD:=(mem_ready.1 hr).1
  refine ⟨fun h=>(by rw [h]at hr;cases hr),fun j hj=> ?_⟩;have M1:j<n:=by
   rcases Nat.lt_or_ge j n with h|h
   . exact h
   . exact absurd hj (Sp hs hc hn inv UF _ i rfl Cf qD j h)
  refine ⟨M1, ?_⟩;by_cases YS:j=i
  . subst YS;exact hy.qOp hi H
  . have h1:=(H.2 j (ready_mono hj YS)).2
    obtain ⟨j3,oj,J1,ug⟩:=mem_ready.1 hj
    have Cam:∀e∈oj.after,Region.binds md e=true->e.on≠i:=fun e he hb heq=>by
     have h1:=ug e he hb;rw [heq,getD_both qD]at h1;cases h1
    have h2:=qOp_put J1 (ZS j oj J1 YS j3 Cam) (fun cs b=>jr i oi cs b hi) (fun cs b=>jr j oj cs b J1) hy h1;have JW:∀k ok,ops[k]?=some ok->k≠i->(ba.setIfInBounds j true).getD k true=false->
      (∀e∈ok.after,Region.binds md e=true->e.on≠i)->oi.apart ops ok=true:=fun k ok hk hki qD Mh=>by
     refine ZS k ok hk hki ?_ Mh
     by_cases hjk:j=k
     . subst hjk;exact j3
     . rw [getD_set_ne true hjk]at qD;exact qD
    refine qOp_mono (fun a' h3=>ih (ba.setIfInBounds j true) a' (inv.set hj M1) (Oo UF j) JW (ready_mono hr (Ne.symm YS)) h3.1 ?_) h2;rw [Array.setIfInBounds_comm _ _ YS];exact h3.2
def VF(md:Region.Mode)(ops:Array Oper)(g n:Nat):List Nat->Array Bool->Bool
 |[],ba=>Region.seqB md ops g n ba
 |k::ks,ba=>(Region.ready md ops ba).contains k&&Region.free md ops ba k&&decide (k<n)&&VF md ops g n ks (ba.setIfInBounds k true)
theorem PA{fl:List Nat}{n g:Nat}{Lq:Act->Prop}(jr:Region.noSelect ops=true)(hs:TF md ops fl n=true)(hc:Region.chainB md ops n=true)(hn:n<ops.size):
  ∀(ix:List Nat) (ba:Array Bool) (a:Act),HeadInv md ops n ba->(∀i∈fl,ba.getD i true=true)->
  VF md ops g n ix ba=true->wpQuiet P ops C Lq (ix.filterMap fun i=>ops[i]?) a->
  Bn P md ops C n (fun Tf a'=>Region.seqB md ops g n Tf=true/\Lq a') ix.length ba a
 |[],ba,a,inv,UF,hB,h=>⟨hB,h⟩
 |k::ks,ba,a,inv,UF,hB,h=>by
  simp only [VF,Bool.and_eq_true,decide_eq_true_eq]at hB;obtain ⟨⟨⟨hr,hf⟩,yn⟩,hB'⟩:=hB;have DK:k∈Region.ready md ops ba:=by simpa using hr
  obtain ⟨_,o,h0,_⟩:=mem_ready.1 DK
  rw [List.filterMap_cons,h0]at h;have CD:qOp P ops C k (wpQuiet P ops C Lq (ks.filterMap fun i=>ops[i]?)) a:=by unfold qOp;simp only [h0];exact h
  obtain ⟨v,hy,hK⟩:=yieldsIn_of_qOp h0 CD;exact BD h0 (Region.noSelect_spec jr) hs hc hn yn (fun Tf a' hL=>seqB_ready hL.1) ks.length ba a inv UF (Region.free_spec h0 hf) DK hy
   (PA jr hs hc hn ks _ _ (inv.set DK yn) (Oo UF k) hB' hK)
def ay(md:Region.Mode)(ops:Array Oper)(n:Nat)(K:Array Bool->Bool):List Nat->Array Bool->Bool
 |[],ba=>K ba
 |k::ks,ba=>(Region.ready md ops ba).contains k&&Region.free md ops ba k&&decide (k<n)&&
  (match ops[k]?with|some o=>(match o.op with| .move _=>o.guard.isNone|_=>false)|none=>false)&&ay md ops n K ks (ba.setIfInBounds k true)
def Ig(ops:Array Oper):List Nat->Act->Act
 |[],a=>a
 |k::ks,a=>Ig ops ks (match ops[k]?with|some o=>(match o.op with| .move x=>a.put o.dst (a.eval x)|_=>a)|none=>a)
theorem zw{Q:Exit->Act->World->Prop}:∀(fuel:Nat) (ba:Array Bool) (a:Act) (w:World),wpAny P md ops Q fuel ba a w->wpAnyH P md ops Q (fun _=>True) fuel ba a w
 |0,_,_,_,h=>h
 |fuel+1,_,_,_,h=>⟨h.1,fun i hi=>wpOp_mono (fun a' w' h'=>⟨trivial,zw fuel _ a' w' h'⟩) (h.2 i hi)⟩
theorem Cn{Q:Exit->Act->World->Prop}{n:Nat}{K:Array Bool->Bool}(jr:Region.noSelect ops=true)(hQ:∀c a d v w,Q (.panic c) (Act.put a d v) w->Q (.panic c) a w)(fuel:Nat):
  ∀(fl done:List Nat) (ba:Array Bool) (a:Act) (w:World),HeadInv md ops n ba->(∀i∈done,ba.getD i true=true)->ay md ops n K fl ba=true->
   (∀Tf,HeadInv md ops n Tf->(∀i∈done++fl,Tf.getD i true=true)->K Tf=true->wpAny P md ops Q fuel Tf (Ig ops fl a) w)->
   wpAnyH P md ops Q (fun _=>True) (fl.length+fuel) ba a w
 |[],done,ba,a,w,inv,hd,hB,h=>by
  rw [List.length_nil,Nat.zero_add];exact zw _ _ _ _ (h ba inv (by simpa using hd) hB)
 |k::ks,done,ba,a,w,inv,hd,hB,h=>by
  simp only [ay,Bool.and_eq_true,decide_eq_true_eq]at hB;obtain ⟨⟨⟨⟨hr,hf⟩,yn⟩,hmv⟩,hB'⟩:=hB;have DK:k∈Region.ready md ops ba:=by simpa using hr
  obtain ⟨qD,o,h0,_⟩:=mem_ready.1 DK
  rw [h0]at hmv;simp only [Ig,h0]at h;cases Uj:o.op with
  |move x=>
   simp only [Uj]at hmv h;have hg:o.guard=none:=by simpa using hmv
   have hy:YieldsIf P ops (fun _=>True) o (a.eval x) a:= .inl ⟨by simp [Region.wanted,hg],fun w _=>by simp [execOp,Uj,Sem.run_pure]⟩
   rw [show(k::ks).length+fuel=(ks.length+fuel)+1 by simp;omega];refine wpAnyH_take h0 jr hf hr (fun c a w=>hQ c a _ _ w) hy trivial ?_
   refine Cn jr hQ fuel ks (done++[k]) _ _ w (inv.set DK yn) (fun i hi=> ?_) hB' (fun Tf i1 i2 i3=>h Tf i1 (by simpa using i2) i3);rw [List.mem_append]at hi;rcases hi with hi|hi
   . exact Oo hd k i hi
   . obtain rfl:i=k:=by simpa using hi
     rcases Nat.lt_or_ge i ba.size with h'|h'
     . simp [h']
     . simp [h']
  |_=>simp [Uj]at hmv
def qtB(md:Region.Mode)(ops:Array Oper)(fl ix:List Nat)(n:Nat):Bool:=
 Region.noSelect ops&&decide (n<ops.size)&&decide (fl.length+ix.length=n)&&TF md ops fl n&&Region.chainB md ops n&&
  ay md ops n (fun ba=>VF md ops (ops.size -n) n ix ba) fl (Array.replicate ops.size false)
end
theorem KW{P:Program}{Q:Exit->Act->World->Prop}{a:Act}{w:World}{l:List Oper}(C:World->Prop)(fl ix:List Nat)(n:Nat)
  (hB:qtB .any l.toArray fl ix n=true)(hQ:∀c a d v w,Q (.panic c) (Act.put a d v) w->Q (.panic c) a w)(hC:C w)
  (h:wpQuiet P l.toArray C (fun a'=>∀w',C w'->wpList P l.toArray Q (l.drop n) a' w') (ix.filterMap fun i=>l[i]?) (Ig l.toArray fl a)):wpAny P .any l.toArray Q l.toArray.size (Array.replicate l.toArray.size false) a w:=by
 simp only [qtB,Bool.and_eq_true,decide_eq_true_eq]at hB;obtain ⟨⟨⟨⟨⟨jr,hn⟩,hlen⟩,hs⟩,hc⟩,UF⟩:=hB;have hn':n<l.length:=by simpa using hn
 have hdl:(l.drop n).length=l.toArray.size -n:=by simp
 have Eam:HeadInv .any l.toArray n (Array.replicate l.toArray.size false):=
  ⟨by simp,fun j oj _ hl=>(by rw [getD_replicate_false]at hl;cases hl),fun t _ ht=>getD_in (by simpa using ht) (getD_replicate_false _ _)⟩
 have Xg:l.toArray.size=fl.length+(ix.length+(l.toArray.size -n)):=by omega
 have key:=Cn (P:=P) (Q:=Q) jr hQ (ix.length+(l.toArray.size -n)) fl [] _ a w Eam (fun i hi=>by cases hi) UF (fun Tf i1 i2 i3=>by
  have H:=PA (P:=P) (C:=C) (md:= .any) (g:=l.toArray.size -n) jr hs hc hn ix Tf (Ig l.toArray fl a) i1 (by simpa using i2) i3 (by simpa using h);exact Tp (Q':=Q) (g:=l.toArray.size -n) (fun ba a' w' hw' hL=>by
   have:=wpAny_of_seq (md:= .any) (Q':=Q) (l.drop n) n ba a' w' (fun j=>by simp [List.getElem?_drop]) (by rw [hdl];exact hL.1) (hL.2 w' hw');rwa [hdl]at this) _ _ _ _ hC H)
 rw [<-Xg]at key;exact wpAny_of_held _ _ _ _ key
def kr(ops:Array Oper)(fl:List Nat):Bool:=fl.all fun k=>match ops[k]?with|some o=>(match o.op with| .move _=>o.guard.isNone|_=>false)|none=>false
theorem Up{P:Program}{ops:Array Oper}{K:Act->Prop}:∀(fl:List Nat) (a:Act),kr ops fl=true->wpQuiet P ops (fun _=>True) K (fl.filterMap fun i=>ops[i]?) a->K (Ig ops fl a)
 |[],a,_,h=>h
 |k::ks,a,hm,h=>by
  simp only [kr,List.all_cons,Bool.and_eq_true]at hm;obtain ⟨hk,hks⟩:=hm;cases h0:ops[k]?with
  |none=>simp [h0]at hk
  |some o=>
   simp only [h0]at hk;rw [List.filterMap_cons,h0]at h;simp only [Ig,h0];cases Uj:o.op with
   |move x=>
    simp only [Uj]at hk;have hg:o.guard=none:=by simpa using hk
    have hw:Region.wanted o (yielded ops a.tmps)=true:=by simp [Region.wanted,hg]
    have h':(if Region.wanted o (yielded ops a.tmps)=true then o.quiet P a (fun _=>True) (wpQuiet P ops (fun _=>True) K (ks.filterMap fun i=>ops[i]?))else wpQuiet P ops (fun _=>True) K (ks.filterMap fun i=>ops[i]?) (a.put o.dst undef)):=h;rw [if_pos hw]at h';obtain ⟨v,h1,h2⟩:=h';have h3:=h1 default trivial;have hr:(execOp a.eval o).run P default= .ok (.value (a.eval x)) default:=by simp [execOp,Uj,Sem.run_pure]
    unfold Oper.quietAt at h3;rw [hr]at h3;obtain ⟨_,he⟩:(default:World)=default/\a.eval x=v:=h3
    show K (Ig ops ks (a.put o.dst (a.eval x)))
    rw [he];exact Up ks _ (by simpa [kr]using hks) h2
   |_=>simp [Uj]at hk
theorem LW{P:Program}{Q:Exit->Act->World->Prop}{a:Act}{w:World}{l:List Oper}(C:World->Prop)(fl ix:List Nat)(n:Nat)
  (hB:(kr l.toArray fl&&qtB .any l.toArray fl ix n)=true)(hQ:∀c a d v w,Q (.panic c) (Act.put a d v) w->Q (.panic c) a w)(hC:C w)
  (h:wpQuiet P l.toArray (fun _=>True) (fun a'=>wpQuiet P l.toArray C (fun a'=>∀w',C w'->wpList P l.toArray Q (l.drop n) a' w') (ix.filterMap fun i=>l[i]?) a') (fl.filterMap fun i=>l[i]?) a):wpAny P .any l.toArray Q l.toArray.size (Array.replicate l.toArray.size false) a w:=by
 rw [Bool.and_eq_true]at hB;refine KW C fl ix n hB.2 hQ hC ?_
 exact Up (K:=fun a'=>wpQuiet P l.toArray C (fun a'=>∀w',C w'->wpList P l.toArray Q (l.drop n) a' w') (ix.filterMap fun i=>l[i]?) a') fl a hB.1 (by simpa using h)
theorem jj{α:Type}(l:List α):∀(m k:Nat),(List.range' k m).filterMap (fun i=>l[i]?)=(l.drop k).take m
 |0,k=>by simp
 |m+1,k=>by
  rw [List.range'_succ,List.filterMap_cons];by_cases h:k<l.length
  . rw [List.getElem?_eq_getElem h,List.drop_eq_getElem_cons h,List.take_succ_cons];simp only;rw [jj l m (k+1)]
  . rw [List.getElem?_eq_none (by omega)];simp only;rw [jj l m (k+1),List.drop_eq_nil_of_le (by omega),List.drop_eq_nil_of_le (by omega)];simp
theorem vg{P:Program}{id:Nat}{Q:Exit->Act->World->Prop}{a:Act}{w:World}{l:List Oper}(k m:Nat)(hm:P.follows .mixedOrders=true)
  (hB:(kr l.toArray (List.range' 0 k)&&qtB .any l.toArray (List.range' 0 k) (List.range' k m) (k+m))=true)(hQ:∀c a d v w,Q (.panic c) (Act.put a d v) w->Q (.panic c) a w)
  (h:wpQuiet P l.toArray (fun _=>True) (fun a'=>wpQuiet P l.toArray (fun w'=>∃n,w'=w.drewN n) (fun a'=>∀w',(∃n,w'=w.drewN n)->wpList P l.toArray Q (l.drop (k+m)) a' w') ((l.drop k).take m) a') (l.take k) a):(Code.region id l.toArray true).wp P Q a w:=
 wp_region_any hm (LW (fun w'=>∃n,w'=w.drewN n) _ _ (k+m) hB hQ ⟨1,rfl⟩ (by rw [jj,jj];exact h))
end Go.Proofs.YtfnkmolffhfpoaaGreat
namespace Go.Proofs.YtfnkmolffhfpoaaGreat
open Go.RowKit Go.BigFrame
theorem QA{P:Program}{id:Nat}{Q:Exit->Act->World->Prop}{a:Act}{w:World}{l:List Oper}(n:Nat)(hm:P.follows .mixedOrders=true)(hB:Region.lexTailB .any l.toArray n=true)
  (h:wpStill P l.toArray w.drew (fun a'=>wpList P l.toArray Q (l.drop n) a' w.drew) (l.take n) a):(Code.region id l.toArray true).wp P Q a w:=
 wp_region_still_tail n hm hB h
theorem ga{W:World}{b:Nat}{c:Array Value}{t:TypeId}{f:Nat×Nat}(h:W.heap[b]?=some (.cells c t f))(k:Nat)(v:Value)(hv:c.toList[k]?=some v):W.cell? ⟨b,k,none⟩=some v:=by
 rw [cell_of_row _ _ k _ _ _ h];simpa using hv
theorem Ci{W:World}{b:Nat}{c:Array Value}{t:TypeId}(h:W.heap[b]?=some (.cells c t (0,0)))(j:Nat):W.frozen? ⟨b,j,none⟩=false:=by
 unfold World.frozen?;rw [h];simp
theorem Mb{W:World}{b:Nat}{o:Obj}(h:W.heap[b]?=some o):b<W.heap.size:=(Array.getElem?_eq_some_iff.1 h).1
theorem A3{W:World}{b:Nat}{k0 k1 k2 k3:Value}{t:TypeId}(h:W.heap[b]?=some (.cells #[k0,k1,k2,k3] t (0,0))):
  W.cell? ⟨b,0,none⟩=some k0/\W.cell? ⟨b,1,none⟩=some k1/\W.cell? ⟨b,2,none⟩=some k2/\W.cell? ⟨b,3,none⟩=some k3/\∀j,W.frozen? ⟨b,j,none⟩=false:=
 ⟨ga h 0 _ rfl,ga h 1 _ rfl,ga h 2 _ rfl,ga h 3 _ rfl,Ci h⟩
theorem Aw{W:World}{b:Nat}{k0 k1 k2 k3 k4 k5 k6 k7 k8:Value}{t:TypeId}(h:W.heap[b]?=some (.cells #[k0,k1,k2,k3,k4,k5,k6,k7,k8] t (0,0))):
  W.cell? ⟨b,0,none⟩=some k0/\W.cell? ⟨b,1,none⟩=some k1/\W.cell? ⟨b,2,none⟩=some k2/\W.cell? ⟨b,3,none⟩=some k3/\W.cell? ⟨b,4,none⟩=some k4/\W.cell? ⟨b,5,none⟩=some k5/\W.cell? ⟨b,6,none⟩=some k6/\W.cell? ⟨b,7,none⟩=some k7/\W.cell? ⟨b,8,none⟩=some k8/\∀j,W.frozen? ⟨b,j,none⟩=false:=
 ⟨ga h 0 _ rfl,ga h 1 _ rfl,ga h 2 _ rfl,ga h 3 _ rfl,ga h 4 _ rfl,ga h 5 _ rfl,ga h 6 _ rfl,ga h 7 _ rfl,ga h 8 _ rfl,Ci h⟩
theorem MW(k:Int)(w:World):Calls Tryz.prog 88 #[.int .i64 k] w (Rb (.bool (decide (1<=k)&&decide (k<=8))) w):=by
 by_cases h1:1<=k
 . by_cases h2:k<=8
   . have e1:decide (1<=k)=true:=ca h1;have e2:decide (k<=8)=true:=ca h2
     go_enter Tryz.func88,Tryz.ntmps88
     go_wp2_with fail
     go_ret
     exact ⟨by simp [e1,e2],rfl⟩
   . have e1:decide (1<=k)=true:=ca h1;have e2:decide (k<=8)=false:=ea h2
     go_enter Tryz.func88,Tryz.ntmps88
     go_wp2_with fail
     go_ret
     exact ⟨by simp [e1,e2],rfl⟩
 . have e1:decide (1<=k)=false:=ea h1
   go_enter Tryz.func88,Tryz.ntmps88
   go_wp2_with fail
   go_ret
   exact ⟨by simp [e1],rfl⟩
theorem aT{fn:Func}{s t:Nat}(hf:fn.results=#[.cell s 60, .tmp t]){tmps:Array Value}{b:Nat}{v:Value}(ht:tmps.getD s undef= .pointer (some ⟨b,0,none⟩))(hv:tmps.getD t undef=v){w:World}{c0 c1:Value}{ty:TypeId}
  (h:w.heap[b]?=some (.cells #[c0,c1] ty (0,0))):(results fn tmps).run Tryz.prog w= .ok (.tuple #[.agg #[c0,c1],v]) w:=by
 have z0:=ga h 0 _ rfl;have z1:=ga h 1 _ rfl;have dj:tmps[s]?.getD undef= .pointer (some ⟨b,0,none⟩):=by simpa using ht
 have EK:tmps[t]?.getD undef=v:=by simpa using hv
 simp only [results,hf];simp [go_sem,dj,EK,z0,z1]
theorem C3{fn:Func}{s t:Nat}(hf:fn.results=#[.cell s 29, .tmp t]){tmps:Array Value}{b:Nat}{v:Value}(ht:tmps.getD s undef= .pointer (some ⟨b,0,none⟩))(hv:tmps.getD t undef=v){w:World}{c0 c1 c2:Value}{ty:TypeId}
  (h:w.heap[b]?=some (.cells #[c0,c1,c2] ty (0,0))):(results fn tmps).run Tryz.prog w= .ok (.tuple #[.agg #[c0,c1,c2],v]) w:=by
 have z0:=ga h 0 _ rfl;have z1:=ga h 1 _ rfl;have z2:=ga h 2 _ rfl;have dj:tmps[s]?.getD undef= .pointer (some ⟨b,0,none⟩):=by simpa using ht
 have EK:tmps[t]?.getD undef=v:=by simpa using hv
 simp only [results,hf];simp [go_sem,dj,EK,z0,z1,z2]
theorem Em(w:World):Calls Tryz.prog 26 #[.pointer none] w (Rc (.tuple #[.agg #[.int .i64 0, .int .u32 0], .int .i64 1]) w):=by
 go_enter Tryz.func26,Tryz.ntmps26
 go_wp2_with fail
 refine bodyPost_ret (v:= .tuple #[.agg #[.int .i64 0, .int .u32 0], .int .i64 1]) ?_ rfl ⟨rfl,(Below.refl _ _).alloc (Nat.le_refl _) _⟩
 exact aT (fn:=Tryz.f26) (s:=2) (t:=3) (b:=w.heap.size) Tryz.results26 rfl rfl (heap_alloc_new w _)
theorem RA(x:Nat)(w:World)(h:w.cell? ⟨x,2,none⟩=some (.int .i64 0))(hx:x<w.heap.size):Calls Tryz.prog 26 #[.pointer (some ⟨x,0,none⟩)] w (Rc (.tuple #[.agg #[.int .i64 0, .int .u32 0], .int .i64 4]) w):=by
 go_enter Tryz.func26,Tryz.ntmps26
 go_wp2_with fail
 refine bodyPost_ret (v:= .tuple #[.agg #[.int .i64 0, .int .u32 0], .int .i64 4]) ?_ rfl ⟨rfl,(Below.refl _ _).alloc (Nat.le_refl _) _⟩
 exact aT (fn:=Tryz.f26) (s:=2) (t:=3) (b:=w.heap.size) Tryz.results26 rfl rfl (heap_alloc_new w _)
theorem Gm(v:Value)(w:World):Calls Tryz.prog 27 #[.pointer none,v] w (Rb (.bool false) w):=by
 go_enter Tryz.func27,Tryz.ntmps27
 go_wp2_with fail
 go_ret
 exact ⟨rfl,rfl⟩
theorem SA(x:Nat)(v:Value)(w:World)(h:w.cell? ⟨x,2,none⟩=some (.int .i64 0)):Calls Tryz.prog 27 #[.pointer (some ⟨x,0,none⟩),v] w (Rb (.bool false) w):=by
 go_enter Tryz.func27,Tryz.ntmps27
 go_wp2_with fail
 go_ret
 exact ⟨rfl,rfl⟩
theorem Xk(w:World):Calls Tryz.prog 92 #[.pointer none] w (Rb (.bool false) w):=by
 go_enter Tryz.func92,Tryz.ntmps92
 go_wp2_with fail
 go_ret
 exact ⟨rfl,rfl⟩
theorem ek(w:World):Calls Tryz.prog 30 #[.pointer none] w (Rb (.int .i64 (-1)) w):=by
 have HH:=Lib.hid fun w=>Xk w
 go_enter Tryz.func30,Tryz.ntmps30
 go_wp2_with fail
 refine (HH.out _).mono ?_
 rintro e w1 ⟨rfl,rfl⟩
 go_wp2_with fail
 go_ret
 exact ⟨rfl,rfl⟩
theorem Hm(w:World):Calls Tryz.prog 31 #[.pointer none] w (Rb (.int .i64 (-1)) w):=by
 have HH:=Lib.hid fun w=>Xk w
 go_enter Tryz.func31,Tryz.ntmps31
 go_wp2_with fail
 refine (HH.out _).mono ?_
 rintro e w1 ⟨rfl,rfl⟩
 go_wp2_with fail
 go_ret
 exact ⟨rfl,rfl⟩
theorem jk(w:World):Calls Tryz.prog 32 #[.pointer none] w (Rb (.int .i64 (-1)) w):=by
 have HH:=Lib.hid fun w=>Xk w
 go_enter Tryz.func32,Tryz.ntmps32
 go_wp2_with fail
 refine (HH.out _).mono ?_
 rintro e w1 ⟨rfl,rfl⟩
 go_wp2_with fail
 go_ret
 exact ⟨rfl,rfl⟩
theorem kj(w:World):Calls Tryz.prog 33 #[.pointer none] w (Rb (.int .i64 0) w):=by
 have HH:=Lib.hid fun w=>Xk w
 go_enter Tryz.func33,Tryz.ntmps33
 go_wp2_with fail
 refine (HH.out _).mono ?_
 rintro e w1 ⟨rfl,rfl⟩
 go_wp2_with fail
 go_ret
 exact ⟨rfl,rfl⟩
theorem ph(w:World):Calls Tryz.prog 34 #[.pointer none] w (Rb (.bool false) w):=by
 go_enter Tryz.func34,Tryz.ntmps34
 go_wp2_with fail
 go_ret
 exact ⟨rfl,rfl⟩
theorem lj(a b c:Value)(w:World):Calls Tryz.prog 28 #[.pointer none, .agg #[a,b,c]] w (Rc (.int .i64 1) w):=by
 go_enter Tryz.func28,Tryz.ntmps28
 go_wp2_with fail
 go_ret
 exact ⟨rfl,(Below.refl _ _).alloc (Nat.le_refl _) _⟩
def XF(k:Int):Int:=if 1<=k/\k<=8 then 7 else 1
theorem jv(x:Nat)(n k:Int)(b c:Value)(w:World)(h:w.cell? ⟨x,2,none⟩=some (.int .i64 n))(hn:n≠0)(hx:x<w.heap.size):Calls Tryz.prog 28 #[.pointer (some ⟨x,0,none⟩), .agg #[.int .i64 k,b,c]] w (Rc (.int .i64 (XF k)) w):=by
 have HK:=Lib.hid fun w=>MW k w
 have h2:∀o,(w.alloc o).cell? ⟨x,2,none⟩=some (.int .i64 n):=fun o=>by rw [<-h];exact ((Below.refl _ _).alloc (Nat.le_refl _) o).cell (p:=⟨x,2,none⟩) hx
 have hd:(n != 0)=true:=by simpa using hn
 clear h hx hn;by_cases hk:1<=k/\k<=8
 . have e:XF k=7:=if_pos hk;have e1:(decide (1<=k)&&decide (k<=8))=true:=by simp [hk.1,hk.2]
   rw [e];rw [e1]at HK;clear hk e e1
   go_enter Tryz.func28,Tryz.ntmps28
   go_wp2_with fail
   refine (HK.out _).mono ?_
   rintro e w1 ⟨rfl,rfl⟩
   go_wp2_with fail
   go_ret
   exact ⟨rfl,(Below.refl _ _).alloc (Nat.le_refl _) _⟩
 . have e:XF k=1:=if_neg hk;have e1:(decide (1<=k)&&decide (k<=8))=false:=by
    by_cases h1:1<=k
    . have:¬k<=8:=fun h=>hk ⟨h1,h⟩
      simp [this]
    . simp [h1]
   rw [e];rw [e1]at HK;clear hk e e1
   go_enter Tryz.func28,Tryz.ntmps28
   go_wp2_with fail
   refine (HK.out _).mono ?_
   rintro e w1 ⟨rfl,rfl⟩
   go_wp2_with fail
   go_ret
   exact ⟨rfl,(Below.refl _ _).alloc (Nat.le_refl _) _⟩
theorem Po(x:Nat)(n a b c:Int)(w:World)(h:w.cell? ⟨x,2,none⟩=some (.int .i64 n))(h3:w.cell? ⟨x,3,none⟩=some (.int .i64 a))(h4:w.cell? ⟨x,4,none⟩=some (.int .u32 b))(h5:w.cell? ⟨x,5,none⟩=some (.int .u32 c))(hn:n≠0)(hx:x<w.heap.size):Calls Tryz.prog 29 #[.pointer (some ⟨x,0,none⟩)] w (Rc (.tuple #[.agg #[.int .i64 a, .int .u32 b, .int .u32 c], .bool true]) w):=by
 have hc:∀j o,(w.alloc o).cell? ⟨x,j,none⟩=w.cell? ⟨x,j,none⟩:=fun j o=>((Below.refl _ _).alloc (Nat.le_refl _) o).cell (p:=⟨x,j,none⟩) hx
 have g2:=fun o=>(hc 2 o).trans h
 have g3:=fun o=>(hc 3 o).trans h3
 have g4:=fun o=>(hc 4 o).trans h4
 have g5:=fun o=>(hc 5 o).trans h5
 have hd:(n==0)=false:=by simpa using hn
 clear h h3 h4 h5 hn hc hx
 go_enter Tryz.func29,Tryz.ntmps29
 go_wp2_with fail
 refine bodyPost_ret (v:= .tuple #[.agg #[.int .i64 a, .int .u32 b, .int .u32 c], .bool true]) ?_ rfl ⟨rfl,(Below.refl _ _).alloc (Nat.le_refl _) _⟩
 exact C3 (fn:=Tryz.f29) (s:=2) (t:=3) (b:=w.heap.size) Tryz.results29 rfl rfl (heap_alloc_new w _)
end Go.Proofs.YtfnkmolffhfpoaaGreat
