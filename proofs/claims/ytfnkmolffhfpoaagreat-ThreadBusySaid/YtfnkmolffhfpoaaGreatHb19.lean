/- -/
import Derived.Ground.Names2Prog
import Derived.Shelf.Slices.SearchI
import Derived.Shelf.Slices.Empties
import Derived.Test.YtfnkmolffhfpoaaGreatProg
import Derived.Test.YtfnkmolffhfpoaaGreatHb18
import Derived.Shelf.Spec.SlicesInsert
import Derived.Shelf.Spec.SlicesInsertGrow
set_option linter.unusedVariables false
set_option linter.unusedSimpArgs false
namespace Go.Proofs
open Go.Shelf
def Tryz.Sv:Go.Shelf.Ren:=⟨fun|25=>296|31=>310|32=>311|37=>325|n=>n,fun|22=>145|3=>3|4=>4|40=>317|0=>0|n=>n,fun|n=>n⟩
theorem Tryz.Yw:Go.Proofs.Lays2.n25 Tryz.prog Tryz.Sv:={
 mixed:=by kernel_rfl
 f25:=Tryz.func296.trans (congrArg some (by kernel_rfl))
 f31:=Tryz.func310.trans (congrArg some (by kernel_rfl))
 f32:=Tryz.func311.trans (congrArg some (by kernel_rfl))
 f37:=Tryz.func325.trans (congrArg some (by kernel_rfl))
 t0:=Tryz.underlying0
 a0:=Tryz.isAgg0
 z0:=Tryz.sizeOf0
 v0:=Tryz.zeroValue0
 t3:=Tryz.underlying3
 a3:=Tryz.isAgg3
 z3:=Tryz.sizeOf3
 v3:=Tryz.zeroValue3
 t4:=Tryz.underlying4
 a4:=Tryz.isAgg4
 z4:=Tryz.sizeOf4
 v4:=Tryz.zeroValue4
 t22:=Tryz.underlying145
 a22:=Tryz.isAgg145
 z22:=Tryz.sizeOf145
 v22:=Tryz.zeroValue145
 t40:=Tryz.underlying317
 a40:=Tryz.isAgg317
 z40:=Tryz.sizeOf317
 v40:=Tryz.zeroValue317}
open Go.RowKit Go.Lib in
theorem Tryz.slices_BinarySearch_int(b off n c:Nat)(zs:List Int)(x:Int)(w:World)(hz:n<=zs.length)(ZW:n<4611686018427387904)(hc:∀j,j<zs.length->w.cell? ⟨b,off+j,none⟩=some (.int .i64 (zs.getD j 0)))(hs:(zs.take n).Pairwise (·<=·)):
 Calls Tryz.prog 296 #[.slice (some ⟨b,off,none⟩) n c, .int .i64 x] w fun e w'=>e= .returned (.tuple #[.int .i64 ((zs.take n).countP (·<x):Nat), .bool ((zs.take n).contains x)])/\∃q,w'=w.drewN q:=Any.slices_BinarySearch_int Tryz.Yw b off n c zs x w hz ZW hc hs
open Go.RowKit Go.Lib in
theorem Tryz.slices_BinarySearch_int_empty(a:Option Addr)(c:Nat)(x:Int)(w:World):
 Calls Tryz.prog 296 #[.slice a 0 c, .int .i64 x] w fun e w'=>e= .returned (.tuple #[.int .i64 0, .bool false])/\w'=w:=Any.slices_BinarySearch_int_empty Tryz.Yw a c x w
def Tryz.Gk:Go.Shelf.Ren:=⟨fun|21=>297|27=>312|28=>313|35=>326|39=>337|n=>n,fun|22=>145|3=>3|4=>4|0=>0|n=>n,fun|n=>n⟩
theorem Tryz.Pq:Go.Proofs.Lays2.n21 Tryz.prog Tryz.Gk:={
 mixed:=by kernel_rfl
 f21:=Tryz.func297.trans (congrArg some (by kernel_rfl))
 f27:=Tryz.func312.trans (congrArg some (by kernel_rfl))
 f28:=Tryz.func313.trans (congrArg some (by kernel_rfl))
 f35:=Tryz.func326.trans (congrArg some (by kernel_rfl))
 f39:=Tryz.func337.trans (congrArg some (by kernel_rfl))
 t0:=Tryz.underlying0
 a0:=Tryz.isAgg0
 z0:=Tryz.sizeOf0
 v0:=Tryz.zeroValue0
 t3:=Tryz.underlying3
 a3:=Tryz.isAgg3
 z3:=Tryz.sizeOf3
 v3:=Tryz.zeroValue3
 t4:=Tryz.underlying4
 a4:=Tryz.isAgg4
 z4:=Tryz.sizeOf4
 v4:=Tryz.zeroValue4
 t22:=Tryz.underlying145
 a22:=Tryz.isAgg145
 z22:=Tryz.sizeOf145
 v22:=Tryz.zeroValue145
 i3:=by kernel_rfl}
end Go.Proofs
namespace Go.Proofs.YtfnkmolffhfpoaaGreat
open Go.RowKit Go.BigFrame
def Vg(l:List Int)(i:Nat)(x:Int):List Int:=l.take i++x::l.drop i
theorem Pd{l:List Int}{i:Nat}(h:i<=l.length)(x:Int):(Vg l i x).length=l.length+1:=by
 simp [Vg];omega
theorem Cl{l:List Int}{i:Nat}(h:i<=l.length)(x:Int)(k:Nat):(Vg l i x).getD k 0=if k<i then l.getD k 0 else if k=i then x else l.getD (k -1) 0:=by
 unfold Vg;rw [List.getD_eq_getElem?_getD,List.getElem?_append];have hl:(l.take i).length=i:=by simp;omega
 rw [hl];by_cases h1:k<i
 . rw [if_pos h1,if_pos h1,List.getElem?_take,if_pos h1,List.getD_eq_getElem?_getD]
 . rw [if_neg h1,if_neg h1];by_cases h2:k=i
   . subst h2;simp
   . rw [if_neg h2];obtain ⟨j,hj⟩:∃j,k -i=j+1:=⟨k -i -1,by omega⟩;rw [hj,List.getElem?_cons_succ,List.getElem?_drop,List.getD_eq_getElem?_getD,show i+j=k -1 by omega]
theorem Ee(b:Nat):∀(vs:List Value) (o:Nat) (w:World) (c:Array Value) (t:TypeId) (f:Nat×Nat),w.heap[b]?=some (.cells c t f)->∃c',(w.setCells b o vs).heap[b]?=some (.cells c' t f)/\c'.size=c.size
 |[],_,_,c,_,_,h=>⟨c,h,rfl⟩
 |v::r,o,w,c,t,f,h=>by
  obtain ⟨c',h1,h2⟩:=Ee b r (o+1) _ _ t f (heap_set (j:=o) v h);exact ⟨c',h1,h2.trans (by simp)⟩
theorem Ea.setCells{F:Nat->Prop}{a:World}{b:Nat}(hb:b<a.heap.size->F b):∀(vs:List Value) (o:Nat) (w:World),Ea F a w->Ea F a (w.setCells b o vs)
 |[],_,_,h=>h
 |v::r,o,w,h=>Ea.setCells hb r (o+1) _ (h.set hb o v)
theorem Ea.drew{F:Nat->Prop}{a w:World}(h:Ea F a w):Ea F a w.drew:=⟨h.os,h.tape,h.output,h.size,h.block⟩
theorem Ma{w:World}{b j:Nat}{c:Array Value}{t:TypeId}{f:Nat×Nat}(h:w.heap[b]?=some (.cells c t f)):w.cell? ⟨b,j,none⟩=c[j]?:=cell_of_row _ _ j _ _ _ h
def zG(v:Value)(l:List Int)(W:World)(e:Ending)(W':World):Prop:=
 ∃v',e= .returned v'/\Ze W' v' l/\Ea (fun k=>v.ownBlock=some k) W W'/\∀g,v'.ownBlock=some g->v.ownBlock=some g\/W.heap.size<=g
theorem Ts(l:List Int)(j:Nat)(v:Value)(h:(l.map (Value.int .i64))[j]?=some v):j<l.length/\v= .int .i64 (l.getD j 0):=by
 rw [List.getElem?_map]at h;cases hj:l[j]?with
 |none=>rw [hj]at h;cases h
 |some y=>
  rw [hj]at h;cases h;exact ⟨(List.getElem?_eq_some_iff.1 hj).1,by rw [List.getD_eq_getElem?_getD,hj];rfl⟩
theorem Dl(l:List Int)(j:Nat)(h:j<l.length):(l.map (Value.int .i64))[j]?=some (.int .i64 (l.getD j 0)):=by
 rw [List.getElem?_map,List.getD_eq_getElem?_getD,List.getElem?_eq_getElem h];rfl
theorem bC(l:List Int):∀v∈l.map (Value.int .i64),v.oneCell'=true:=by
 intro v hv;obtain ⟨x,_,rfl⟩:=List.mem_map.1 hv
 rfl
theorem Us(v:Value)(l:List Int)(i:Nat)(hi:i<=l.length)(x:Int)(vb:Nat)(W:World)(hl:l.length<=1000000)(a:Option Addr)(cap:Nat)(EK:v= .slice a l.length cap)(Mr:l.length<=cap)(Uf:cap<l.length+1)
  (ha:a=none/\l=[]\/∃g,a=some ⟨g,0,none⟩/\∀j,j<l.length->W.cell? ⟨g,j,none⟩=some (.int .i64 (l.getD j 0)))
  (hv:W.cell? ⟨vb,0,none⟩=some (.int .i64 x)):
  Calls Tryz.prog 297 #[v, .int .i64 i, .slice (some ⟨vb,0,none⟩) 1 1] W (zG v (Vg l i x) W):=by
 subst EK;have UK:∀j u,[Value.int .i64 x][j]?=some u->W.cell? ⟨vb,0+j,none⟩=some u:=by
  intro j u hj;cases j with
  |zero=>simp at hj;subst hj;exact hv
  |succ j=>simp at hj
 have TK:∀u∈[Value.int .i64 x],u.oneCell'=true:=by simp [Value.oneCell']
 by_cases Zj:i=l.length
 . subst Zj;refine (Any2.slices_Insert_int_end_grow Tryz.Pq a l.length cap vb 0 1 1 (l.map (Value.int .i64)) [.int .i64 x] W (by omega) Mr Uf (by omega) (by simp) rfl (fun e=>by rcases ha with⟨_,rfl⟩|⟨g,rfl,_⟩;rfl;cases e) ?_ UK TK).mono ?_
   . intro b hb j u hj;obtain ⟨h1,rfl⟩:=Ts _ _ _ hj;rcases ha with⟨rfl,_⟩|⟨g,rfl,hc⟩
     . cases hb
     . cases hb;have:=hc j h1;rw [Addr.add_lit,Nat.zero_add];exact this
   . rintro e W' ⟨rfl,rfl⟩;have hg:=grownCap_ge W (l.length+1) cap 3;have CA:=grownCap_le_maxLen W (l.length+1) cap 3 (by unfold maxLen;omega);unfold maxLen at CA;obtain ⟨C,hC⟩:∃C,C=grownCap W (l.length+1) cap 3:=⟨_,rfl⟩;have e3:Tryz.Gk.t 3=3:=rfl;rw [e3,<-hC];rw [<-hC]at hg CA;refine ⟨_,rfl,Or.inr ⟨W.heap.size,C,_, ?_,heap_alloc_new W.drew _, ?_,CA, ?_, ?_, ?_⟩, ?_, ?_⟩
     . rw [Pd (Nat.le_refl _)]
     . rw [Pd (Nat.le_refl _)];exact hg
     . simp [size_zeroCells,Value.cells];omega
     . simp [size_zeroCells,Value.cells];omega
     . intro k hk;rw [Pd (Nat.le_refl _)]at hk;rw [Cl (Nat.le_refl _)];rw [Array.getElem?_append_left (by simp;omega)];simp only [List.getElem?_toArray];rw [List.getElem?_append];by_cases h1:k<l.length
       . rw [if_pos (by simpa using h1),if_pos h1];exact Dl _ _ h1
       . have:k=l.length:=by omega
         subst this;simp
     . exact (Ea.refl _ W).drew.alloc _
     . intro g Qp;cases Qp;exact Or.inr (Nat.le_refl _)
 . rcases ha with⟨_,rfl⟩|⟨g,rfl,hc⟩
   . simp at hi Zj;omega
   refine (Any2.slices_Insert_int_grow Tryz.Pq g 0 l.length cap i vb 0 1 1 (l.map (Value.int .i64)) [.int .i64 x] W (by omega) (by omega) Mr Uf (by omega) (by simp) rfl ?_ UK (bC l) TK).mono ?_
   . intro j u hj;obtain ⟨h1,rfl⟩:=Ts _ _ _ hj;rw [Nat.zero_add];exact hc j h1
   . rintro e W' ⟨rfl,rfl⟩;have hg:=grownCap_ge W (l.length+1) cap 3;have CA:=grownCap_le_maxLen W (l.length+1) cap 3 (by unfold maxLen;omega);unfold maxLen at CA;obtain ⟨C,hC⟩:∃C,C=grownCap W (l.length+1) cap 3:=⟨_,rfl⟩;have e3:Tryz.Gk.t 3=3:=rfl;rw [e3,<-hC];rw [<-hC]at hg CA;obtain ⟨c0,mT⟩:∃c0,c0=(((l.map (Value.int .i64)).take i).toArray++Builtin.zeroCells (Value.int .i64 0).cells (l.length+1 -i)++Builtin.zeroCells (Value.int .i64 0).cells (C -(l.length+1))):=⟨_,rfl⟩;rw [<-mT];have s0:c0.size=C:=by rw [mT];simp [size_zeroCells,Value.cells];omega
     have g0:∀k,k<i->c0[k]?=some (.int .i64 (l.getD k 0)):=by
      intro k hk;rw [mT,Array.getElem?_append_left (by simp [size_zeroCells];omega),Array.getElem?_append_left (by simp;omega)];simp only [List.getElem?_toArray];rw [List.getElem?_take,if_pos hk];exact Dl _ _ (by omega)
     clear mT;have h0:(W.alloc (.cells c0 3)).heap[W.heap.size]?=some (.cells c0 3 (0,0)):=heap_alloc_new W _
     obtain ⟨c1,h1,s1⟩:=Ee W.heap.size [.int .i64 x] i (W.alloc (.cells c0 3)).drew c0 3 (0,0) h0
     obtain ⟨c2,h2,s2⟩:=Ee W.heap.size ((l.map (Value.int .i64)).drop i) (i+1) (((W.alloc (.cells c0 3)).drew.setCells W.heap.size i [.int .i64 x]).drew) c1 3 (0,0) h1;have r0:∀j,j<C->((W.alloc (.cells c0 3)).drew.cell? ⟨W.heap.size,j,none⟩).isSome=true:=fun j hj=>by
      rw [Ma (w:=(W.alloc (.cells c0 3)).drew) h0,Array.getElem?_eq_getElem (by omega)];rfl
     have r1:∀j,j<C->((((W.alloc (.cells c0 3)).drew.setCells W.heap.size i [.int .i64 x]).drew).cell? ⟨W.heap.size,j,none⟩).isSome=true:=fun j hj=>by
      rw [Ma (w:=((W.alloc (.cells c0 3)).drew.setCells W.heap.size i [.int .i64 x]).drew) h1,Array.getElem?_eq_getElem (by omega)];rfl
     refine ⟨_,rfl,Or.inr ⟨W.heap.size,C,c2, ?_,h2, ?_,CA,by omega,by omega, ?_⟩, ?_, ?_⟩
     . rw [Pd hi]
     . rw [Pd hi];exact hg
     . intro k hk;rw [Pd hi]at hk;rw [Cl hi,<-Ma h2];by_cases k1:k<i
       . rw [if_pos k1,World.cell?_setCells_out _ _ _ _ _ (fun _ _=>Or.inl (by show k<i+1;omega))]
         show(((W.alloc (.cells c0 3)).drew.setCells W.heap.size i [.int .i64 x]).cell? ⟨W.heap.size,k,none⟩)=_
         rw [World.cell?_setCells_out _ _ _ _ _ (fun _ _=>Or.inl (by show k<i;omega))];rw [Ma (w:=(W.alloc (.cells c0 3)).drew) h0];exact g0 k k1
       . rw [if_neg k1];by_cases k2:k=i
         . subst k2;rw [if_pos rfl,World.cell?_setCells_out _ _ _ _ _ (fun _ _=>Or.inl (by show k<k+1;omega))]
           show(((W.alloc (.cells c0 3)).drew.setCells W.heap.size k [.int .i64 x]).cell? ⟨W.heap.size,k,none⟩)=_
           have:=World.cell?_setCells_in W.heap.size [.int .i64 x] k (W.alloc (.cells c0 3)).drew (fun j hj=>r0 _ (by simp at hj;omega)) 0 (by simp)
           simpa using this
         . rw [if_neg k2];have hd:((l.map (Value.int .i64)).drop i).length=l.length -i:=by simp
           have:=World.cell?_setCells_in W.heap.size ((l.map (Value.int .i64)).drop i) (i+1) (((W.alloc (.cells c0 3)).drew.setCells W.heap.size i [.int .i64 x]).drew) (fun j hj=>r1 _ (by omega)) (k -(i+1)) (by omega);rw [show i+1+(k -(i+1))=k by omega]at this;rw [this];have e1:((l.map (Value.int .i64)).drop i)[k -(i+1)]?=some (.int .i64 (l.getD (k -1) 0)):=by
            rw [List.getElem?_drop,show i+(k -(i+1))=k -1 by omega];exact Dl _ _ (by omega)
           rw [<-e1,List.getElem?_eq_getElem]
     . exact Ea.setCells (fun e=>absurd e (by omega)) _ _ _ (Ea.setCells (fun e=>absurd e (by omega)) _ _ _ ((Ea.refl _ W).alloc _).drew).drew
     . intro g Qp;cases Qp;exact Or.inr (Nat.le_refl _)
theorem rE(g cap:Nat)(c:Array Value)(l:List Int)(i:Nat)(hi:i<=l.length)(x:Int)(vb:Nat)(W:World)(hl:l.length<=1000000)(h:W.heap[g]?=some (.cells c 3 (0,0)))(Uf:l.length+1<=cap)(SQ:cap<=9223372036854775807)(mK:cap<=c.size)(hc:∀k,k<l.length->c[k]?=some (.int .i64 (l.getD k 0)))
  (hv:W.heap[vb]?=some (.cells #[.int .i64 x] 3 (0,0)))(Jc:vb≠g):
  Calls Tryz.prog 297 #[.slice (some ⟨g,0,none⟩) l.length cap, .int .i64 i, .slice (some ⟨vb,0,none⟩) 1 1] W (zG (.slice (some ⟨g,0,none⟩) l.length cap) (Vg l i x) W):=by
 have UK:∀j u,[Value.int .i64 x][j]?=some u->W.cell? ⟨vb,0+j,none⟩=some u:=by
  intro j u hj;cases j with
  |zero=>simp at hj;subst hj;rw [Ma hv];rfl
  |succ j=>simp at hj
 have TK:∀u∈[Value.int .i64 x],u.oneCell'=true:=by simp [Value.oneCell']
 have hfz:∀b (c:Array Value) (t:TypeId),W.heap[b]?=some (.cells c t (0,0))->∀j,W.frozen? ⟨b,j,none⟩=false:=fun b c t h j=>by unfold World.frozen?;rw [h];simp
 have r0:∀j,j<cap->(W.cell? ⟨g,j,none⟩).isSome=true:=fun j hj=>by
  rw [Ma h,Array.getElem?_eq_getElem (by omega)];rfl
 by_cases Zj:i=l.length
 . subst Zj;refine (Any2.slices_Insert_int_end_room Tryz.Pq g 0 l.length cap vb 0 1 1 [.int .i64 x] W (by omega) Uf SQ rfl (fun j hj=>by rw [show 0+l.length+j=l.length+j by omega];exact r0 _ (by omega)) (fun j hj=>hfz _ _ _ h _) UK TK).mono ?_
   rintro e W' ⟨rfl,rfl⟩;rw [Nat.zero_add];obtain ⟨c1,h1,s1⟩:=Ee g [.int .i64 x] l.length W c 3 (0,0) h;refine ⟨_,rfl,Or.inr ⟨g,cap,c1, ?_,h1, ?_,SQ,by omega,by omega, ?_⟩, ?_,fun g' Qp=>by cases Qp;exact Or.inl rfl⟩
   . rw [Pd (Nat.le_refl _)]
   . rw [Pd (Nat.le_refl _)];exact Uf
   . intro k hk;rw [Pd (Nat.le_refl _)]at hk;rw [Cl (Nat.le_refl _),<-Ma h1];by_cases k1:k<l.length
     . rw [if_pos k1,World.cell?_setCells_out _ _ _ _ _ (fun _ _=>Or.inl (by show k<l.length;omega)),Ma h];exact hc k k1
     . obtain rfl:k=l.length:=by omega
       rw [if_neg k1,if_pos rfl];have:=World.cell?_setCells_in g [.int .i64 x] l.length W (fun j hj=>r0 _ (by simp at hj;omega)) 0 (by simp)
       simpa using this
   . exact Ea.setCells (F:=fun k=>(Value.slice (some ⟨g,0,none⟩) l.length cap).ownBlock=some k) (fun _=>rfl) _ _ _ (Ea.refl _ W)
 . have hsa:W.shape? vb=some (3,1):=by unfold World.shape?;rw [hv];rfl
   have sQ:W.shape? g=some (3,c.size):=by unfold World.shape?;rw [h]
   refine (Any2.slices_Insert_int_shift Tryz.Pq g 0 l.length cap i vb 0 1 1 (l.map (Value.int .i64)) [.int .i64 x] W (by omega) (by omega) Uf SQ Jc (by simp) rfl ?_ (fun j hj=>by rw [Nat.zero_add];exact r0 _ (by omega)) (fun j hj=>hfz _ _ _ h _) UK (bC l) TK 3 3 1 c.size hsa sQ (by omega) (hfz _ _ _ hv _) (hfz _ _ _ hv _)).mono ?_
   . intro j u hj;obtain ⟨h1,rfl⟩:=Ts _ _ _ hj;rw [Nat.zero_add,Ma h];exact hc j h1
   . rintro e W' ⟨rfl,rfl⟩;rw [Nat.zero_add,Nat.zero_add];have h0:W.drew.heap[g]?=some (.cells c 3 (0,0)):=h
     obtain ⟨c1,h1,s1⟩:=Ee g ((l.map (Value.int .i64)).drop i) (i+1) W.drew c 3 (0,0) h0;obtain ⟨c2,h2,s2⟩:=Ee g [.int .i64 x] i (W.drew.setCells g (i+1) ((l.map (Value.int .i64)).drop i)) c1 3 (0,0) h1;have q0:∀j,j<cap->(W.drew.cell? ⟨g,j,none⟩).isSome=true:=r0
     have q1:∀j,j<cap->((W.drew.setCells g (i+1) ((l.map (Value.int .i64)).drop i)).cell? ⟨g,j,none⟩).isSome=true:=fun j hj=>by
      rw [Ma h1,Array.getElem?_eq_getElem (by omega)];rfl
     refine ⟨_,rfl,Or.inr ⟨g,cap,c2, ?_,h2, ?_,SQ,by omega,by omega, ?_⟩, ?_,fun g' Qp=>by cases Qp;exact Or.inl rfl⟩
     . rw [Pd hi]
     . rw [Pd hi];exact Uf
     . intro k hk;rw [Pd hi]at hk;rw [Cl hi,<-Ma h2];have hd:((l.map (Value.int .i64)).drop i).length=l.length -i:=by simp
       by_cases k1:k<i
       . rw [if_pos k1,World.cell?_setCells_out _ _ _ _ _ (fun _ _=>Or.inl (by show k<i;omega)),World.cell?_setCells_out _ _ _ _ _ (fun _ _=>Or.inl (by show k<i+1;omega))];rw [Ma h0];exact hc k (by omega)
       . rw [if_neg k1];by_cases k2:k=i
         . subst k2;rw [if_pos rfl];have:=World.cell?_setCells_in g [.int .i64 x] k (W.drew.setCells g (k+1) ((l.map (Value.int .i64)).drop k)) (fun j hj=>q1 _ (by simp at hj;omega)) 0 (by simp)
           simpa using this
         . rw [if_neg k2,World.cell?_setCells_out _ _ _ _ _ (fun _ _=>Or.inr (by show i+1<=k;omega))];have:=World.cell?_setCells_in g ((l.map (Value.int .i64)).drop i) (i+1) W.drew (fun j hj=>q0 _ (by omega)) (k -(i+1)) (by omega);rw [show i+1+(k -(i+1))=k by omega]at this;rw [this];have e1:((l.map (Value.int .i64)).drop i)[k -(i+1)]?=some (.int .i64 (l.getD (k -1) 0)):=by
            rw [List.getElem?_drop,show i+(k -(i+1))=k -1 by omega];exact Dl _ _ (by omega)
           rw [<-e1,List.getElem?_eq_getElem]
     . exact Ea.setCells (F:=fun k=>(Value.slice (some ⟨g,0,none⟩) l.length cap).ownBlock=some k) (fun _=>rfl) _ _ _ (Ea.setCells (F:=fun k=>(Value.slice (some ⟨g,0,none⟩) l.length cap).ownBlock=some k) (fun _=>rfl) _ _ _ (Ea.refl _ W).drew)
theorem Wab(v:Value)(l:List Int)(i:Nat)(hi:i<=l.length)(x:Int)(vb:Nat)(W:World)(hl:l.length<=1000000)(h:Ze W v l)(hv:W.heap[vb]?=some (.cells #[.int .i64 x] 3 (0,0)))(Jc:v.ownBlock≠some vb):
  Calls Tryz.prog 297 #[v, .int .i64 i, .slice (some ⟨vb,0,none⟩) 1 1] W (zG v (Vg l i x) W):=by
 have nT:W.cell? ⟨vb,0,none⟩=some (.int .i64 x):=by rw [Ma hv];rfl
 rcases h with⟨rfl,rfl⟩|⟨g,cap,c,rfl,h1,h2,h3,h4,h5,h6⟩
 . exact Us _ [] i hi x vb W hl none 0 rfl (Nat.le_refl _) (by simp) (Or.inl ⟨rfl,rfl⟩) nT
 . by_cases hr:l.length+1<=cap
   . exact rE g cap c l i hi x vb W hl h1 hr h3 h4 h6 hv (fun e=>Jc (by rw [e];rfl))
   . exact Us _ l i hi x vb W hl (some ⟨g,0,none⟩) cap rfl h2 (by omega) (Or.inr ⟨g,rfl,fun j hj=>by rw [Ma h1];exact h6 j hj⟩) nT
def Vs(l:List Int)(x:Int):List Int:=if l.contains x then l else Vg l (l.countP (·<x)) x
def Xab(fb t:Nat)(v:Value)(l:List Int)(W:World)(e:Ending)(W':World):Prop:=
 (∃u,e= .returned u)/\∃v' W1,Ea (fun k=>v.ownBlock=some k) W W1/\Ze W1 v' l/\(∀g,v'.ownBlock=some g->v.ownBlock=some g\/W.heap.size<=g)/\W'=W1.setCell ⟨fb,t,none⟩ v'
theorem Ze.slice{W:World}{v:Value}{l:List Int}(h:Ze W v l):∃a n c,v= .slice a n c:=by
 rcases h with⟨rfl,_⟩|⟨g,cap,c,rfl,_⟩
 . exact ⟨_,_,_,rfl⟩
 . exact ⟨_,_,_,rfl⟩
theorem cC(v:Value)(l:List Int)(x:Int)(W:World)(hl:l.length<=1000000)(h:Ze W v l)(hs:l.Pairwise (·<·)):
  Calls Tryz.prog 296 #[v, .int .i64 x] W fun e w'=>e= .returned (.tuple #[.int .i64 (l.countP (·<x):Nat), .bool (l.contains x)])/\w'.heap=W.heap/\Below W.heap.size W w':=by
 rcases h with⟨rfl,rfl⟩|⟨g,cap,c,rfl,h1,h2,h3,h4,h5,h6⟩
 . refine (Tryz.slices_BinarySearch_int_empty none 0 x W).mono ?_
   rintro e w' ⟨rfl,rfl⟩;exact ⟨rfl,rfl,Below.refl _ _⟩
 . refine (Tryz.slices_BinarySearch_int g 0 l.length cap l x W (Nat.le_refl _) (by omega) (fun j hj=>by rw [Nat.zero_add,Ma h1];exact h6 j hj) (by rw [List.take_length];exact hs.imp fun h=>Int.le_of_lt h)).mono ?_
   rintro e w' ⟨rfl,q,rfl⟩;rw [List.take_length];exact ⟨rfl,rfl,rfl,rfl,rfl,Nat.le_refl _,fun _ _=>rfl⟩
set_option maxRecDepth 100000 in
theorem UL(fb t:Nat)(v:Value)(l:List Int)(x:Int)(W:World)(hl:l.length<=1000000)(hc:W.cell? ⟨fb,t,none⟩=some v)(h:Ze W v l)(hs:l.Pairwise (·<·))(hx:l.contains x=true):
  Calls Tryz.prog 256 #[.pointer (some ⟨fb,t,none⟩), .int .i64 x] W (fun e W'=>(∃u,e= .returned u)/\Below W.heap.size W W'/\W'.heap=W.heap):=by
 have HS:=Lib.hid (cC v l x W hl h hs);rw [hx]at HS;generalize l.countP (·<x)=i at*;clear h hs hx
 go_enter Tryz.func256,Tryz.ntmps256
 go_wp2_with fail
 refine HS.out.mono ?_
 rintro e w1 ⟨rfl,hh,hb⟩;have HH:=Lib.hid hh;have HB:=Lib.hid hb;clear hh hb
 go_wp2_with fail
 go_end0
 exact ⟨⟨_,rfl⟩,HB.out,HH.out⟩
set_option maxRecDepth 100000 in
theorem II(fb t:Nat)(v:Value)(l:List Int)(x:Int)(W:World)(hl:l.length<=1000000)(hc:W.cell? ⟨fb,t,none⟩=some v)(hf:W.frozen? ⟨fb,t,none⟩=false)(Ab:fb<W.heap.size)(uD:v.ownBlock≠some fb)(h:Ze W v l)(hs:l.Pairwise (·<·))(hx:l.contains x=false):
  Calls Tryz.prog 256 #[.pointer (some ⟨fb,t,none⟩), .int .i64 x] W (Xab fb t v (Vg l (l.countP (·<x)) x) W):=by
 have HS:=Lib.hid (cC v l x W hl h hs);rw [hx]at HS;have HL:Hid (∀w:World,w.heap=W.heap->∀vb,w.heap.size=vb->Calls Tryz.prog 297 #[v, .int .i64 (l.countP (·<x):Nat), .slice (some ⟨vb,0,none⟩) 1 1] (w.alloc (.cells #[.int .i64 x] 3)) (zG v (Vg l (l.countP (·<x)) x) (w.alloc (.cells #[.int .i64 x] 3)))):=Lib.hid fun w hw vb hvb=>by
  subst hvb;refine Wab v l (l.countP (·<x)) List.countP_le_length x w.heap.size _ hl ?_ (heap_alloc_new w _) (fun e=> ?_)
  . refine h.keep fun g hg=> ?_
    have:=h.lt hg;rw [Below.heap_alloc _ _ _ (by rw [hw];exact this),hw]
  . have:=h.lt e;rw [hw]at this;omega
 generalize l.countP (·<x)=i at*;have Ah:=Lib.hid Ab;have HF:=Lib.hid hf;have HFV:=Lib.hid uD;have HC:=Lib.hid hc;clear h hs hx Ab hf uD
 go_enter Tryz.func256,Tryz.ntmps256
 go_wp2_with fail
 refine HS.out.mono ?_
 rintro e w1 ⟨rfl,hh,hb⟩;have jL:w1.cell? ⟨fb,t,none⟩=some v:=(Oi hh _).trans HC.out
 have HH:=Lib.hid hh;have HB:=Lib.hid hb;clear hh hb
 go_wp2_with fail
 refine (HL.out w1 HH.out _ rfl).mono ?_
 rintro e w2 ⟨v',rfl,WK,ht,hn⟩;have Xg:W.heap.size<(w1.alloc (.cells #[.int .i64 x] 3)).heap.size:=by simp [HH.out]
 have e2:w2.heap[fb]?=W.heap[fb]?:=by
  rw [ht.block fb (by have:=Ah.out;omega) (fun e=>HFV.out e),Below.heap_alloc _ _ _ (by rw [HH.out];exact Ah.out),HH.out]
 have kK:w2.cell? ⟨fb,t,none⟩=some v:=(cell_of_heap e2 t).trans HC.out
 have hf2:w2.frozen? ⟨fb,t,none⟩=false:=(frozen_of_heap e2 t).trans HF.out
 have HE:Hid (Ea (fun k=>v.ownBlock=some k) W w2):=Lib.hid (((Ea.Tb HB.out).alloc _).trans ht (fun _ _ h=>h));have HN:Hid (∀g,v'.ownBlock=some g->v.ownBlock=some g\/W.heap.size<=g):=Lib.hid fun g hg=>by
  rcases hn g hg with h|h
  . exact Or.inl h
  . exact Or.inr (by omega)
 have JI:=Lib.hid WK;obtain ⟨a',n',k',rfl⟩:=WK.slice;clear ht WK hn Xg e2 hc jL
 go_wp2_with fail
 go_end0
 exact ⟨⟨_,rfl⟩,_,w2,HE.out,JI.out,HN.out,rfl⟩
structure Mv.Ne(M:Mv):Prop where
 md:M.m≠M.d
 mkb:M.m≠M.kb
 ms:M.m≠M.sb
 mw:M.m≠M.wb
 mf:M.m≠M.fb
 mp:M.m≠M.pb
 dk:M.d≠M.kb
 ds:M.d≠M.sb
 dw:M.d≠M.wb
 df:M.d≠M.fb
 dp:M.d≠M.pb
 ks:M.kb≠M.sb
 kw:M.kb≠M.wb
 kf:M.kb≠M.fb
 kp:M.kb≠M.pb
 sw:M.sb≠M.wb
 sf:M.sb≠M.fb
 sp:M.sb≠M.pb
 wf:M.wb≠M.fb
 wp:M.wb≠M.pb
 fp:M.fb≠M.pb
theorem Ba.ne{W:World}{M:Mv}(h:Ba W M):M.Ne:=by
 have:=h.apart;simp only [Mv.blocks,List.nodup_cons,List.mem_cons,List.not_mem_nil,or_false,not_or,List.nodup_nil,and_true,not_false_eq_true]at this;obtain ⟨⟨a1,a2,a3,a4,a5,a6⟩,⟨b1,b2,b3,b4,b5⟩,⟨c1,c2,c3,c4⟩,⟨d1,d2,d3⟩,⟨e1,e2⟩,f1⟩:=this;exact ⟨a1,a2,a3,a4,a5,a6,b1,b2,b3,b4,b5,c1,c2,c3,c4,d1,d2,d3,e1,e2,f1⟩
theorem Ba.VL{W:World}{M:Mv}(h:Ba W M){b:Nat}(hb:b∈M.blocks)(j:Nat)(v:Value)(t:Nat)(ht:t<M.nt):Ze (W.setCell ⟨b,j,none⟩ v) (M.fv t) (M.fl t):=
 (h.fl t ht).keep fun g hg=>aa fun e=>h.alone t ht g hg (e▸hb)
theorem Ba.qo{W:World}{M:Mv}(h:Ba W M)(k:Nat)(v:Int):Ba (W.setCell ⟨M.sb,k,none⟩ (.int .u64 v)) {M with seen:=Ed M.seen k v}:=by
 have n:=h.ne;exact {h with
  row:=(aa n.ms).trans h.row
  dev:=(aa n.ds).trans h.dev
  kept:=h.kept.keep (aa n.ks)
  seen:=by
   have:=h.seen.set k (.int .u64 v);simp only [ai];exact this
  wr:=h.wr.keep (aa (Ne.symm n.sw))
  fb:=h.fb.keep (aa (Ne.symm n.sf))
  pass:=h.pass.keep (aa (Ne.symm n.sp))
  fl:=fun t ht=>h.VL (by simp [Mv.blocks]) _ _ t ht}
theorem Ba.so{W:World}{M:Mv}(h:Ba W M)(k:Nat)(v:Int):Ba (W.setCell ⟨M.pb,k,none⟩ (.int .u64 v)) {M with pass:=Ed M.pass k v}:=by
 have n:=h.ne;exact {h with
  row:=(aa n.mp).trans h.row
  dev:=(aa n.dp).trans h.dev
  kept:=h.kept.keep (aa n.kp)
  seen:=h.seen.keep (aa n.sp)
  wr:=h.wr.keep (aa n.wp)
  fb:=h.fb.keep (aa n.fp)
  pass:=by
   have:=h.pass.set k (.int .u64 v);simp only [ai];exact this
  fl:=fun t ht=>h.VL (by simp [Mv.blocks]) _ _ t ht}
def Mv.note(M:Mv)(x:Acc)(is:Bool):Mv:={M with ck:=M.ck+1,bd:=if is then M.bd else M.bd+1,la:=x}
theorem Ba.note{W W':World}{M:Mv}(h:Ba W M)(x:Acc)(is:Bool)(hr:ti W' M.m (.pointer (some ⟨M.d,0,none⟩)) (.slice (some ⟨M.pb,0,none⟩) M.np M.c4) (M.ck+1) (if is then M.bd else M.bd+1) x)(hb:Nq M.m W W'):Ba W' (M.note x is):=by
 have n:=h.ne;have o:∀k,M.own k->k≠M.m->W'.heap[k]?=W.heap[k]?:=fun k hk e=>hb.block k (h.lt hk) e
 have i:∀k,k∈M.blocks->M.own k:=fun k hk=>Or.inl hk
 exact {h with
  row:=hr
  dev:=(o _ (i _ (by simp [Mv.blocks])) (Ne.symm n.md)).trans h.dev
  kept:=h.kept.keep (o _ (i _ (by simp [Mv.blocks])) (Ne.symm n.mkb))
  seen:=h.seen.keep (o _ (i _ (by simp [Mv.blocks])) (Ne.symm n.ms))
  wr:=h.wr.keep (o _ (i _ (by simp [Mv.blocks])) (Ne.symm n.mw))
  fb:=h.fb.keep (o _ (i _ (by simp [Mv.blocks])) (Ne.symm n.mf))
  pass:=h.pass.keep (o _ (i _ (by simp [Mv.blocks])) (Ne.symm n.mp))
  fl:=fun t ht=>(h.fl t ht).keep fun g hg=>o g (Or.inr ⟨t,ht,hg⟩) fun e=>h.alone t ht g hg (by rw [e];simp [Mv.blocks])
  ak:=by have:=h.ak;simp only [Mv.note];omega
  Qv:=by have:=h.Qv;simp only [Mv.note];split<;>omega
  zq:=by have:=h.zq;simp only [Mv.note];split<;>omega}
theorem Ba.words{W:World}{M:Mv}(h:Ba W M):Oq W M.m M.d M.sb M.n M.c1 (some ⟨M.pb,0,none⟩) M.np M.c4 M.seen M.pass where
 dv:=by have:=(ae h.row).1;exact this
 ps:=(ae h.row).2.1
 sn:=by rw [cell_of_row _ _ 1 _ _ _ h.dev];rfl
 sw:=fun k hk=>h.seen.cell (by omega)
 pw:=fun _=>⟨M.pb,rfl,fun k hk=>h.pass.cell hk⟩
def Mv.Ga(M:Mv)(at_:Int):Int×Bool:=fe M.n M.np M.seen M.pass at_
theorem WL(M:Mv)(at_:Int)(q0:-9223372036854775808<=at_)(q1:at_<=9223372036854775807)(W:World)(h:Ba W M):
  Calls Tryz.prog 77 #[.pointer (some ⟨M.m,0,none⟩), .int .i64 at_] W (zh (.tuple #[.int .u64 (M.Ga at_).1, .bool (M.Ga at_).2]) W):=
 FX M.m M.d M.sb M.n M.c1 h.n1 _ M.np M.c4 h.p1 M.seen M.pass at_ q0 q1 W h.words
def Mv.put(M:Mv)(at_ v:Int):Mv:=if 0<=at_ then{M with seen:=Ed M.seen at_.toNat v}else{M with pass:=Ed M.pass (-1 -at_).toNat v}
theorem Mv.AG(M:Mv)(at_ v:Int):(M.put at_ v).own=M.own:=by unfold Mv.put;split<;>rfl
theorem Mv.ET(M:Mv)(at_ v:Int):(M.put at_ v).m=M.m:=by unfold Mv.put;split<;>rfl
theorem Mv.Zab(M:Mv)(at_ v:Int):(M.put at_ v).d=M.d:=by unfold Mv.put;split<;>rfl
theorem Mv.Ws(M:Mv)(at_ v:Int):(M.put at_ v).ck=M.ck:=by unfold Mv.put;split<;>rfl
def Cq(M M':Mv)(W:World)(e:Ending)(W':World):Prop:=(∃x,e= .returned x)/\Ba W' M'/\Ea M.own W W'
theorem wap(M:Mv)(at_ v:Int)(W:World)(h:Ba W M)(hp:(M.Ga at_).2=true):
  Calls Tryz.prog 204 #[.pointer (some ⟨M.m,0,none⟩), .int .i64 at_, .int .u64 v] W (Cq M (M.put at_ v) W):=by
 unfold Mv.Ga fe at hp;by_cases h0:0<=at_
 . rw [if_pos h0]at hp;have h1:at_/8<(M.n:Int):=by by_cases q:at_/8<(M.n:Int)<;>simp [q]at hp⊢
   have e:((at_.toNat:Nat):Int)=at_:=by omega
   have:=oE M.m M.d M.sb M.n M.c1 h.n1 _ M.np M.c4 M.seen M.pass at_.toNat (by omega) v W h.words h.seen.free;rw [e]at this;refine this.mono ?_
   rintro e' W' ⟨hx,w1,hh,hb,rfl⟩;have h1':Ba w1 M:=h.below hb;refine ⟨hx, ?_,(Ea.Tb hb).set (fun _=>Or.inl (by simp [Mv.blocks])) _ _⟩;unfold Mv.put;rw [if_pos h0];exact h1'.qo _ _
 . rw [if_neg h0]at hp;have h1:-1 -at_<(M.np:Int):=by by_cases q:-1 -at_<(M.np:Int)<;>simp [q]at hp⊢
   have e:(-1 -((-1 -at_).toNat:Int))=at_:=by omega
   have:=pE M.m M.d M.sb M.n M.c1 M.pb M.np M.c4 h.p1 M.seen M.pass (-1 -at_).toNat (by omega) v W h.words h.pass.free
   rw [e]at this;refine this.mono ?_
   rintro e' W' ⟨hx,w1,hh,hb,rfl⟩;have h1':Ba w1 M:=h.below hb;refine ⟨hx, ?_,(Ea.Tb hb).set (fun _=>Or.inl (by simp [Mv.blocks])) _ _⟩;unfold Mv.put;rw [if_neg h0];exact h1'.so _ _
theorem sE(M:Mv)(x:Acc)(is:Bool)(W:World)(h:Ba W M)(hc:M.ck<=1000000):
  Calls Tryz.prog 205 #[.pointer (some ⟨M.m,0,none⟩), .agg x.cells, .bool is] W (Cq M (M.note x is) W):=by
 have:=h.zq;refine (wG M.m _ _ M.ck M.bd h.ak hc h.Qv (by omega) M.la x is W h.row).mono ?_
 rintro e W' ⟨hx,hr,hb⟩;exact ⟨hx,h.note x is hr hb,Ea.TL hb fun _=>Or.inl (by simp [Mv.blocks])⟩
theorem dC(M:Mv)(x:Acc)(er:Int)(W:World)(h:Ba W M)(hc:M.ck<=1000000):
  Calls Tryz.prog 170 #[.pointer (some ⟨M.m,0,none⟩), .agg x.cells, .int .i64 er] W (Cq M (M.note ⟨x.ki,x.th,x.pl,x.ol,x.ne,er==0⟩ (er==0)) W):=by
 have:=h.zq;refine (EX M.m _ _ M.ck M.bd h.ak hc h.Qv (by omega) M.la x er W h.row).mono ?_
 rintro e W' ⟨hx,hr,hb⟩;exact ⟨hx,h.note _ _ hr hb,Ea.TL hb fun _=>Or.inl (by simp [Mv.blocks])⟩
end Go.Proofs.YtfnkmolffhfpoaaGreat
