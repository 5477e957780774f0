/- -/
import Derived.Ground.Names2Prog
import Derived.Shelf.Slices.SearchI
import Derived.Shelf.Slices.Empties
import Derived.Test.YtfnkmolffhfpoaaGreatProg
import Derived.Test.YtfnkmolffhfpoaaGreatHp13
import Derived.Shelf.Spec.SlicesInsert
import Derived.Shelf.Spec.SlicesInsertGrow
set_option linter.unusedVariables false
set_option linter.unusedSimpArgs false
namespace Go.Proofs
open Go.Shelf
def Tryz.gA:Go.Shelf.Ren:=⟨fun|25=>296|31=>310|32=>311|37=>325|n=>n,fun|22=>145|3=>3|4=>4|40=>317|0=>0|n=>n,fun|n=>n⟩
theorem Tryz.aB:Go.Proofs.Lays2.n25 Tryz.prog Tryz.gA:={
 mixed:=by kernel_rfl
 f25:=Tryz.func296.trans (congrArg some (by kernel_rfl))
 f31:=Tryz.func310.trans (congrArg some (by kernel_rfl))
 f32:=Tryz.func311.trans (congrArg some (by kernel_rfl))
 f37:=Tryz.func325.trans (congrArg some (by kernel_rfl))
 t0:=Tryz.underlying0
 a0:=Tryz.isAgg0
 z0:=Tryz.sizeOf0
 v0:=Tryz.zeroValue0
 t3:=Tryz.underlying3
 a3:=Tryz.isAgg3
 z3:=Tryz.sizeOf3
 v3:=Tryz.zeroValue3
 t4:=Tryz.underlying4
 a4:=Tryz.isAgg4
 z4:=Tryz.sizeOf4
 v4:=Tryz.zeroValue4
 t22:=Tryz.underlying145
 a22:=Tryz.isAgg145
 z22:=Tryz.sizeOf145
 v22:=Tryz.zeroValue145
 t40:=Tryz.underlying317
 a40:=Tryz.isAgg317
 z40:=Tryz.sizeOf317
 v40:=Tryz.zeroValue317}
open Go.RowKit Go.Lib in
theorem Tryz.slices_BinarySearch_int(b off n c:Nat)(zs:List Int)(x:Int)(w:World)(hz:n<=zs.length)(baf:n<4611686018427387904)(hc:∀j,j<zs.length->w.cell? ⟨b,off+j,none⟩=some (.int .i64 (zs.getD j 0)))(hs:(zs.take n).Pairwise (·<=·)):
 Calls Tryz.prog 296 #[.slice (some ⟨b,off,none⟩) n c, .int .i64 x] w fun e w'=>e= .returned (.tuple #[.int .i64 ((zs.take n).countP (·<x):Nat), .bool ((zs.take n).contains x)])/\∃q,w'=w.drewN q:=Any.slices_BinarySearch_int Tryz.aB b off n c zs x w hz baf hc hs
open Go.RowKit Go.Lib in
theorem Tryz.slices_BinarySearch_int_empty(a:Option Addr)(c:Nat)(x:Int)(w:World):
 Calls Tryz.prog 296 #[.slice a 0 c, .int .i64 x] w fun e w'=>e= .returned (.tuple #[.int .i64 0, .bool false])/\w'=w:=Any.slices_BinarySearch_int_empty Tryz.aB a c x w
def Tryz.mn:Go.Shelf.Ren:=⟨fun|21=>297|27=>312|28=>313|35=>326|39=>337|n=>n,fun|22=>145|3=>3|4=>4|0=>0|n=>n,fun|n=>n⟩
theorem Tryz.ov:Go.Proofs.Lays2.n21 Tryz.prog Tryz.mn:={
 mixed:=by kernel_rfl
 f21:=Tryz.func297.trans (congrArg some (by kernel_rfl))
 f27:=Tryz.func312.trans (congrArg some (by kernel_rfl))
 f28:=Tryz.func313.trans (congrArg some (by kernel_rfl))
 f35:=Tryz.func326.trans (congrArg some (by kernel_rfl))
 f39:=Tryz.func337.trans (congrArg some (by kernel_rfl))
 t0:=Tryz.underlying0
 a0:=Tryz.isAgg0
 z0:=Tryz.sizeOf0
 v0:=Tryz.zeroValue0
 t3:=Tryz.underlying3
 a3:=Tryz.isAgg3
 z3:=Tryz.sizeOf3
 v3:=Tryz.zeroValue3
 t4:=Tryz.underlying4
 a4:=Tryz.isAgg4
 z4:=Tryz.sizeOf4
 v4:=Tryz.zeroValue4
 t22:=Tryz.underlying145
 a22:=Tryz.isAgg145
 z22:=Tryz.sizeOf145
 v22:=Tryz.zeroValue145
 i3:=by kernel_rfl}
end Go.Proofs
namespace Go.Proofs.YtfnkmolffhfpoaaGreat
open Go.RowKit Go.BigFrame
def Di(l:List Int)(i:Nat)(x:Int):List Int:=l.take i++x::l.drop i
theorem Ae{l:List Int}{i:Nat}(h:i<=l.length)(x:Int):(Di l i x).length=l.length+1:=by
 simp [Di];omega
theorem Ho{l:List Int}{i:Nat}(h:i<=l.length)(x:Int)(k:Nat):(Di l i x).getD k 0=if k<i then l.getD k 0 else if k=i then x else l.getD (k -1) 0:=by
 unfold Di;rw [List.getD_eq_getElem?_getD,List.getElem?_append];have hl:(l.take i).length=i:=by simp;omega
 rw [hl];by_cases h1:k<i
 . rw [if_pos h1,if_pos h1,List.getElem?_take,if_pos h1,List.getD_eq_getElem?_getD]
 . rw [if_neg h1,if_neg h1];by_cases h2:k=i
   . subst h2;simp
   . rw [if_neg h2];obtain ⟨j,hj⟩:∃j,k -i=j+1:=⟨k -i -1,by omega⟩;rw [hj,List.getElem?_cons_succ,List.getElem?_drop,List.getD_eq_getElem?_getD,show i+j=k -1 by omega]
theorem Jf(b:Nat):∀(vs:List Value) (o:Nat) (w:World) (c:Array Value) (t:TypeId) (f:Nat×Nat),w.heap[b]?=some (.cells c t f)->∃c',(w.setCells b o vs).heap[b]?=some (.cells c' t f)/\c'.size=c.size
 |[],_,_,c,_,_,h=>⟨c,h,rfl⟩
 |v::r,o,w,c,t,f,h=>by
  obtain ⟨c',h1,h2⟩:=Jf b r (o+1) _ _ t f (heap_set (j:=o) v h);exact ⟨c',h1,h2.trans (by simp)⟩
theorem Ja.setCells{F:Nat->Prop}{a:World}{b:Nat}(hb:b<a.heap.size->F b):∀(vs:List Value) (o:Nat) (w:World),Ja F a w->Ja F a (w.setCells b o vs)
 |[],_,_,h=>h
 |v::r,o,w,h=>Ja.setCells hb r (o+1) _ (h.set hb o v)
theorem Ja.drew{F:Nat->Prop}{a w:World}(h:Ja F a w):Ja F a w.drew:=⟨h.os,h.tape,h.output,h.size,h.block⟩
theorem Wa{w:World}{b j:Nat}{c:Array Value}{t:TypeId}{f:Nat×Nat}(h:w.heap[b]?=some (.cells c t f)):w.cell? ⟨b,j,none⟩=c[j]?:=cell_of_row _ _ j _ _ _ h
def lL(v:Value)(l:List Int)(W:World)(e:Ending)(W':World):Prop:=
 ∃v',e= .returned v'/\lg W' v' l/\Ja (fun k=>v.ownBlock=some k) W W'/\∀g,v'.ownBlock=some g->v.ownBlock=some g\/W.heap.size<=g
theorem Zw(l:List Int)(j:Nat)(v:Value)(h:(l.map (Value.int .i64))[j]?=some v):j<l.length/\v= .int .i64 (l.getD j 0):=by
 rw [List.getElem?_map]at h;cases hj:l[j]?with
 |none=>rw [hj]at h;cases h
 |some y=>
  rw [hj]at h;cases h;exact ⟨(List.getElem?_eq_some_iff.1 hj).1,by rw [List.getD_eq_getElem?_getD,hj];rfl⟩
theorem Io(l:List Int)(j:Nat)(h:j<l.length):(l.map (Value.int .i64))[j]?=some (.int .i64 (l.getD j 0)):=by
 rw [List.getElem?_map,List.getD_eq_getElem?_getD,List.getElem?_eq_getElem h];rfl
theorem MF(l:List Int):∀v∈l.map (Value.int .i64),v.oneCell'=true:=by
 intro v hv;obtain ⟨x,_,rfl⟩:=List.mem_map.1 hv
 rfl
theorem ax(v:Value)(l:List Int)(i:Nat)(hi:i<=l.length)(x:Int)(vb:Nat)(W:World)(hl:l.length<=1000000)(a:Option Addr)(cap:Nat)(hv':v= .slice a l.length cap)(tw:l.length<=cap)(Xg:cap<l.length+1)
  (ha:a=none/\l=[]\/∃g,a=some ⟨g,0,none⟩/\∀j,j<l.length->W.cell? ⟨g,j,none⟩=some (.int .i64 (l.getD j 0)))
  (hv:W.cell? ⟨vb,0,none⟩=some (.int .i64 x)):
  Calls Tryz.prog 297 #[v, .int .i64 i, .slice (some ⟨vb,0,none⟩) 1 1] W (lL v (Di l i x) W):=by
 subst hv';have sR:∀j u,[Value.int .i64 x][j]?=some u->W.cell? ⟨vb,0+j,none⟩=some u:=by
  intro j u hj;cases j with
  |zero=>simp at hj;subst hj;exact hv
  |succ j=>simp at hj
 have rR:∀u∈[Value.int .i64 x],u.oneCell'=true:=by simp [Value.oneCell']
 by_cases Im:i=l.length
 . subst Im;refine (Any2.slices_Insert_int_end_grow Tryz.ov a l.length cap vb 0 1 1 (l.map (Value.int .i64)) [.int .i64 x] W (by omega) tw Xg (by omega) (by simp) rfl (fun e=>by rcases ha with⟨_,rfl⟩|⟨g,rfl,_⟩;rfl;cases e) ?_ sR rR).mono ?_
   . intro b hb j u hj;obtain ⟨h1,rfl⟩:=Zw _ _ _ hj;rcases ha with⟨rfl,_⟩|⟨g,rfl,hc⟩
     . cases hb
     . cases hb;have:=hc j h1;rw [Addr.add_lit,Nat.zero_add];exact this
   . rintro e W' ⟨rfl,rfl⟩;have hg:=grownCap_ge W (l.length+1) cap 3;have Sr:=grownCap_le_maxLen W (l.length+1) cap 3 (by unfold maxLen;omega);unfold maxLen at Sr;obtain ⟨C,hC⟩:∃C,C=grownCap W (l.length+1) cap 3:=⟨_,rfl⟩;have e3:Tryz.mn.t 3=3:=rfl;rw [e3,<-hC];rw [<-hC]at hg Sr;refine ⟨_,rfl,Or.inr ⟨W.heap.size,C,_, ?_,heap_alloc_new W.drew _, ?_,Sr, ?_, ?_, ?_⟩, ?_, ?_⟩
     . rw [Ae (Nat.le_refl _)]
     . rw [Ae (Nat.le_refl _)];exact hg
     . simp [size_zeroCells,Value.cells];omega
     . simp [size_zeroCells,Value.cells];omega
     . intro k hk;rw [Ae (Nat.le_refl _)]at hk;rw [Ho (Nat.le_refl _)];rw [Array.getElem?_append_left (by simp;omega)];simp only [List.getElem?_toArray];rw [List.getElem?_append];by_cases h1:k<l.length
       . rw [if_pos (by simpa using h1),if_pos h1];exact Io _ _ h1
       . have:k=l.length:=by omega
         subst this;simp
     . exact (Ja.refl _ W).drew.alloc _
     . intro g du;cases du;exact Or.inr (Nat.le_refl _)
 . rcases ha with⟨_,rfl⟩|⟨g,rfl,hc⟩
   . simp at hi Im;omega
   refine (Any2.slices_Insert_int_grow Tryz.ov g 0 l.length cap i vb 0 1 1 (l.map (Value.int .i64)) [.int .i64 x] W (by omega) (by omega) tw Xg (by omega) (by simp) rfl ?_ sR (MF l) rR).mono ?_
   . intro j u hj;obtain ⟨h1,rfl⟩:=Zw _ _ _ hj;rw [Nat.zero_add];exact hc j h1
   . rintro e W' ⟨rfl,rfl⟩;have hg:=grownCap_ge W (l.length+1) cap 3;have Sr:=grownCap_le_maxLen W (l.length+1) cap 3 (by unfold maxLen;omega);unfold maxLen at Sr;obtain ⟨C,hC⟩:∃C,C=grownCap W (l.length+1) cap 3:=⟨_,rfl⟩;have e3:Tryz.mn.t 3=3:=rfl;rw [e3,<-hC];rw [<-hC]at hg Sr;obtain ⟨c0,XX⟩:∃c0,c0=(((l.map (Value.int .i64)).take i).toArray++Builtin.zeroCells (Value.int .i64 0).cells (l.length+1 -i)++Builtin.zeroCells (Value.int .i64 0).cells (C -(l.length+1))):=⟨_,rfl⟩;rw [<-XX];have s0:c0.size=C:=by rw [XX];simp [size_zeroCells,Value.cells];omega
     have g0:∀k,k<i->c0[k]?=some (.int .i64 (l.getD k 0)):=by
      intro k hk;rw [XX,Array.getElem?_append_left (by simp [size_zeroCells];omega),Array.getElem?_append_left (by simp;omega)];simp only [List.getElem?_toArray];rw [List.getElem?_take,if_pos hk];exact Io _ _ (by omega)
     clear XX;have h0:(W.alloc (.cells c0 3)).heap[W.heap.size]?=some (.cells c0 3 (0,0)):=heap_alloc_new W _
     obtain ⟨c1,h1,s1⟩:=Jf W.heap.size [.int .i64 x] i (W.alloc (.cells c0 3)).drew c0 3 (0,0) h0
     obtain ⟨c2,h2,s2⟩:=Jf W.heap.size ((l.map (Value.int .i64)).drop i) (i+1) (((W.alloc (.cells c0 3)).drew.setCells W.heap.size i [.int .i64 x]).drew) c1 3 (0,0) h1;have r0:∀j,j<C->((W.alloc (.cells c0 3)).drew.cell? ⟨W.heap.size,j,none⟩).isSome=true:=fun j hj=>by
      rw [Wa (w:=(W.alloc (.cells c0 3)).drew) h0,Array.getElem?_eq_getElem (by omega)];rfl
     have r1:∀j,j<C->((((W.alloc (.cells c0 3)).drew.setCells W.heap.size i [.int .i64 x]).drew).cell? ⟨W.heap.size,j,none⟩).isSome=true:=fun j hj=>by
      rw [Wa (w:=((W.alloc (.cells c0 3)).drew.setCells W.heap.size i [.int .i64 x]).drew) h1,Array.getElem?_eq_getElem (by omega)];rfl
     refine ⟨_,rfl,Or.inr ⟨W.heap.size,C,c2, ?_,h2, ?_,Sr,by omega,by omega, ?_⟩, ?_, ?_⟩
     . rw [Ae hi]
     . rw [Ae hi];exact hg
     . intro k hk;rw [Ae hi]at hk;rw [Ho hi,<-Wa h2];by_cases k1:k<i
       . rw [if_pos k1,World.cell?_setCells_out _ _ _ _ _ (fun _ _=>Or.inl (by show k<i+1;omega))]
         show(((W.alloc (.cells c0 3)).drew.setCells W.heap.size i [.int .i64 x]).cell? ⟨W.heap.size,k,none⟩)=_
         rw [World.cell?_setCells_out _ _ _ _ _ (fun _ _=>Or.inl (by show k<i;omega))];rw [Wa (w:=(W.alloc (.cells c0 3)).drew) h0];exact g0 k k1
       . rw [if_neg k1];by_cases k2:k=i
         . subst k2;rw [if_pos rfl,World.cell?_setCells_out _ _ _ _ _ (fun _ _=>Or.inl (by show k<k+1;omega))]
           show(((W.alloc (.cells c0 3)).drew.setCells W.heap.size k [.int .i64 x]).cell? ⟨W.heap.size,k,none⟩)=_
           have:=World.cell?_setCells_in W.heap.size [.int .i64 x] k (W.alloc (.cells c0 3)).drew (fun j hj=>r0 _ (by simp at hj;omega)) 0 (by simp)
           simpa using this
         . rw [if_neg k2];have hd:((l.map (Value.int .i64)).drop i).length=l.length -i:=by simp
           have:=World.cell?_setCells_in W.heap.size ((l.map (Value.int .i64)).drop i) (i+1) (((W.alloc (.cells c0 3)).drew.setCells W.heap.size i [.int .i64 x]).drew) (fun j hj=>r1 _ (by omega)) (k -(i+1)) (by omega);rw [show i+1+(k -(i+1))=k by omega]at this;rw [this];have e1:((l.map (Value.int .i64)).drop i)[k -(i+1)]?=some (.int .i64 (l.getD (k -1) 0)):=by
            rw [List.getElem?_drop,show i+(k -(i+1))=k -1 by omega];exact Io _ _ (by omega)
           rw [<-e1,List.getElem?_eq_getElem]
     . exact Ja.setCells (fun e=>absurd e (by omega)) _ _ _ (Ja.setCells (fun e=>absurd e (by omega)) _ _ _ ((Ja.refl _ W).alloc _).drew).drew
     . intro g du;cases du;exact Or.inr (Nat.le_refl _)
theorem TI(g cap:Nat)(c:Array Value)(l:List Int)(i:Nat)(hi:i<=l.length)(x:Int)(vb:Nat)(W:World)(hl:l.length<=1000000)(h:W.heap[g]?=some (.cells c 3 (0,0)))(Xg:l.length+1<=cap)(nZ:cap<=9223372036854775807)(Cs:cap<=c.size)(hc:∀k,k<l.length->c[k]?=some (.int .i64 (l.getD k 0)))
  (hv:W.heap[vb]?=some (.cells #[.int .i64 x] 3 (0,0)))(Jc:vb≠g):
  Calls Tryz.prog 297 #[.slice (some ⟨g,0,none⟩) l.length cap, .int .i64 i, .slice (some ⟨vb,0,none⟩) 1 1] W (lL (.slice (some ⟨g,0,none⟩) l.length cap) (Di l i x) W):=by
 have sR:∀j u,[Value.int .i64 x][j]?=some u->W.cell? ⟨vb,0+j,none⟩=some u:=by
  intro j u hj;cases j with
  |zero=>simp at hj;subst hj;rw [Wa hv];rfl
  |succ j=>simp at hj
 have rR:∀u∈[Value.int .i64 x],u.oneCell'=true:=by simp [Value.oneCell']
 have hfz:∀b (c:Array Value) (t:TypeId),W.heap[b]?=some (.cells c t (0,0))->∀j,W.frozen? ⟨b,j,none⟩=false:=fun b c t h j=>by unfold World.frozen?;rw [h];simp
 have r0:∀j,j<cap->(W.cell? ⟨g,j,none⟩).isSome=true:=fun j hj=>by
  rw [Wa h,Array.getElem?_eq_getElem (by omega)];rfl
 by_cases Im:i=l.length
 . subst Im;refine (Any2.slices_Insert_int_end_room Tryz.ov g 0 l.length cap vb 0 1 1 [.int .i64 x] W (by omega) Xg nZ rfl (fun j hj=>by rw [show 0+l.length+j=l.length+j by omega];exact r0 _ (by omega)) (fun j hj=>hfz _ _ _ h _) sR rR).mono ?_
   rintro e W' ⟨rfl,rfl⟩;rw [Nat.zero_add];obtain ⟨c1,h1,s1⟩:=Jf g [.int .i64 x] l.length W c 3 (0,0) h;refine ⟨_,rfl,Or.inr ⟨g,cap,c1, ?_,h1, ?_,nZ,by omega,by omega, ?_⟩, ?_,fun g' du=>by cases du;exact Or.inl rfl⟩
   . rw [Ae (Nat.le_refl _)]
   . rw [Ae (Nat.le_refl _)];exact Xg
   . intro k hk;rw [Ae (Nat.le_refl _)]at hk;rw [Ho (Nat.le_refl _),<-Wa h1];by_cases k1:k<l.length
     . rw [if_pos k1,World.cell?_setCells_out _ _ _ _ _ (fun _ _=>Or.inl (by show k<l.length;omega)),Wa h];exact hc k k1
     . obtain rfl:k=l.length:=by omega
       rw [if_neg k1,if_pos rfl];have:=World.cell?_setCells_in g [.int .i64 x] l.length W (fun j hj=>r0 _ (by simp at hj;omega)) 0 (by simp)
       simpa using this
   . exact Ja.setCells (F:=fun k=>(Value.slice (some ⟨g,0,none⟩) l.length cap).ownBlock=some k) (fun _=>rfl) _ _ _ (Ja.refl _ W)
 . have hsa:W.shape? vb=some (3,1):=by unfold World.shape?;rw [hv];rfl
   have FY:W.shape? g=some (3,c.size):=by unfold World.shape?;rw [h]
   refine (Any2.slices_Insert_int_shift Tryz.ov g 0 l.length cap i vb 0 1 1 (l.map (Value.int .i64)) [.int .i64 x] W (by omega) (by omega) Xg nZ Jc (by simp) rfl ?_ (fun j hj=>by rw [Nat.zero_add];exact r0 _ (by omega)) (fun j hj=>hfz _ _ _ h _) sR (MF l) rR 3 3 1 c.size hsa FY (by omega) (hfz _ _ _ hv _) (hfz _ _ _ hv _)).mono ?_
   . intro j u hj;obtain ⟨h1,rfl⟩:=Zw _ _ _ hj;rw [Nat.zero_add,Wa h];exact hc j h1
   . rintro e W' ⟨rfl,rfl⟩;rw [Nat.zero_add,Nat.zero_add];have h0:W.drew.heap[g]?=some (.cells c 3 (0,0)):=h
     obtain ⟨c1,h1,s1⟩:=Jf g ((l.map (Value.int .i64)).drop i) (i+1) W.drew c 3 (0,0) h0;obtain ⟨c2,h2,s2⟩:=Jf g [.int .i64 x] i (W.drew.setCells g (i+1) ((l.map (Value.int .i64)).drop i)) c1 3 (0,0) h1;have q0:∀j,j<cap->(W.drew.cell? ⟨g,j,none⟩).isSome=true:=r0
     have q1:∀j,j<cap->((W.drew.setCells g (i+1) ((l.map (Value.int .i64)).drop i)).cell? ⟨g,j,none⟩).isSome=true:=fun j hj=>by
      rw [Wa h1,Array.getElem?_eq_getElem (by omega)];rfl
     refine ⟨_,rfl,Or.inr ⟨g,cap,c2, ?_,h2, ?_,nZ,by omega,by omega, ?_⟩, ?_,fun g' du=>by cases du;exact Or.inl rfl⟩
     . rw [Ae hi]
     . rw [Ae hi];exact Xg
     . intro k hk;rw [Ae hi]at hk;rw [Ho hi,<-Wa h2];have hd:((l.map (Value.int .i64)).drop i).length=l.length -i:=by simp
       by_cases k1:k<i
       . rw [if_pos k1,World.cell?_setCells_out _ _ _ _ _ (fun _ _=>Or.inl (by show k<i;omega)),World.cell?_setCells_out _ _ _ _ _ (fun _ _=>Or.inl (by show k<i+1;omega))];rw [Wa h0];exact hc k (by omega)
       . rw [if_neg k1];by_cases k2:k=i
         . subst k2;rw [if_pos rfl];have:=World.cell?_setCells_in g [.int .i64 x] k (W.drew.setCells g (k+1) ((l.map (Value.int .i64)).drop k)) (fun j hj=>q1 _ (by simp at hj;omega)) 0 (by simp)
           simpa using this
         . rw [if_neg k2,World.cell?_setCells_out _ _ _ _ _ (fun _ _=>Or.inr (by show i+1<=k;omega))];have:=World.cell?_setCells_in g ((l.map (Value.int .i64)).drop i) (i+1) W.drew (fun j hj=>q0 _ (by omega)) (k -(i+1)) (by omega);rw [show i+1+(k -(i+1))=k by omega]at this;rw [this];have e1:((l.map (Value.int .i64)).drop i)[k -(i+1)]?=some (.int .i64 (l.getD (k -1) 0)):=by
            rw [List.getElem?_drop,show i+(k -(i+1))=k -1 by omega];exact Io _ _ (by omega)
           rw [<-e1,List.getElem?_eq_getElem]
     . exact Ja.setCells (F:=fun k=>(Value.slice (some ⟨g,0,none⟩) l.length cap).ownBlock=some k) (fun _=>rfl) _ _ _ (Ja.setCells (F:=fun k=>(Value.slice (some ⟨g,0,none⟩) l.length cap).ownBlock=some k) (fun _=>rfl) _ _ _ (Ja.refl _ W).drew)
theorem Dap(v:Value)(l:List Int)(i:Nat)(hi:i<=l.length)(x:Int)(vb:Nat)(W:World)(hl:l.length<=1000000)(h:lg W v l)(hv:W.heap[vb]?=some (.cells #[.int .i64 x] 3 (0,0)))(Jc:v.ownBlock≠some vb):
  Calls Tryz.prog 297 #[v, .int .i64 i, .slice (some ⟨vb,0,none⟩) 1 1] W (lL v (Di l i x) W):=by
 have FR:W.cell? ⟨vb,0,none⟩=some (.int .i64 x):=by rw [Wa hv];rfl
 rcases h with⟨rfl,rfl⟩|⟨g,cap,c,rfl,h1,h2,h3,h4,h5,h6⟩
 . exact ax _ [] i hi x vb W hl none 0 rfl (Nat.le_refl _) (by simp) (Or.inl ⟨rfl,rfl⟩) FR
 . by_cases hr:l.length+1<=cap
   . exact TI g cap c l i hi x vb W hl h1 hr h3 h4 h6 hv (fun e=>Jc (by rw [e];rfl))
   . exact ax _ l i hi x vb W hl (some ⟨g,0,none⟩) cap rfl h2 (by omega) (Or.inr ⟨g,rfl,fun j hj=>by rw [Wa h1];exact h6 j hj⟩) FR
def bx(l:List Int)(x:Int):List Int:=if l.contains x then l else Di l (l.countP (·<x)) x
def Eap(fb t:Nat)(v:Value)(l:List Int)(W:World)(e:Ending)(W':World):Prop:=
 (∃u,e= .returned u)/\∃v' W1,Ja (fun k=>v.ownBlock=some k) W W1/\lg W1 v' l/\(∀g,v'.ownBlock=some g->v.ownBlock=some g\/W.heap.size<=g)/\W'=W1.setCell ⟨fb,t,none⟩ v'
theorem lg.slice{W:World}{v:Value}{l:List Int}(h:lg W v l):∃a n c,v= .slice a n c:=by
 rcases h with⟨rfl,_⟩|⟨g,cap,c,rfl,_⟩
 . exact ⟨_,_,_,rfl⟩
 . exact ⟨_,_,_,rfl⟩
theorem NF(v:Value)(l:List Int)(x:Int)(W:World)(hl:l.length<=1000000)(h:lg W v l)(hs:l.Pairwise (·<·)):
  Calls Tryz.prog 296 #[v, .int .i64 x] W fun e w'=>e= .returned (.tuple #[.int .i64 (l.countP (·<x):Nat), .bool (l.contains x)])/\w'.heap=W.heap/\Below W.heap.size W w':=by
 rcases h with⟨rfl,rfl⟩|⟨g,cap,c,rfl,h1,h2,h3,h4,h5,h6⟩
 . refine (Tryz.slices_BinarySearch_int_empty none 0 x W).mono ?_
   rintro e w' ⟨rfl,rfl⟩;exact ⟨rfl,rfl,Below.refl _ _⟩
 . refine (Tryz.slices_BinarySearch_int g 0 l.length cap l x W (Nat.le_refl _) (by omega) (fun j hj=>by rw [Nat.zero_add,Wa h1];exact h6 j hj) (by rw [List.take_length];exact hs.imp fun h=>Int.le_of_lt h)).mono ?_
   rintro e w' ⟨rfl,q,rfl⟩;rw [List.take_length];exact ⟨rfl,rfl,rfl,rfl,rfl,Nat.le_refl _,fun _ _=>rfl⟩
set_option maxRecDepth 100000 in
theorem GS(fb t:Nat)(v:Value)(l:List Int)(x:Int)(W:World)(hl:l.length<=1000000)(hc:W.cell? ⟨fb,t,none⟩=some v)(h:lg W v l)(hs:l.Pairwise (·<·))(hx:l.contains x=true):
  Calls Tryz.prog 256 #[.pointer (some ⟨fb,t,none⟩), .int .i64 x] W (fun e W'=>(∃u,e= .returned u)/\Below W.heap.size W W'/\W'.heap=W.heap):=by
 have HS:=Lib.hid (NF v l x W hl h hs);rw [hx]at HS;generalize l.countP (·<x)=i at*;clear h hs hx
 go_enter Tryz.func256,Tryz.ntmps256
 go_wp2_with fail
 refine HS.out.mono ?_
 rintro e w1 ⟨rfl,hh,hb⟩;have HH:=Lib.hid hh;have HB:=Lib.hid hb;clear hh hb
 go_wp2_with fail
 go_end0
 exact ⟨⟨_,rfl⟩,HB.out,HH.out⟩
set_option maxRecDepth 100000 in
theorem LO(fb t:Nat)(v:Value)(l:List Int)(x:Int)(W:World)(hl:l.length<=1000000)(hc:W.cell? ⟨fb,t,none⟩=some v)(hf:W.frozen? ⟨fb,t,none⟩=false)(Db:fb<W.heap.size)(SH:v.ownBlock≠some fb)(h:lg W v l)(hs:l.Pairwise (·<·))(hx:l.contains x=false):
  Calls Tryz.prog 256 #[.pointer (some ⟨fb,t,none⟩), .int .i64 x] W (Eap fb t v (Di l (l.countP (·<x)) x) W):=by
 have HS:=Lib.hid (NF v l x W hl h hs);rw [hx]at HS;have HL:Hid (∀w:World,w.heap=W.heap->∀vb,w.heap.size=vb->Calls Tryz.prog 297 #[v, .int .i64 (l.countP (·<x):Nat), .slice (some ⟨vb,0,none⟩) 1 1] (w.alloc (.cells #[.int .i64 x] 3)) (lL v (Di l (l.countP (·<x)) x) (w.alloc (.cells #[.int .i64 x] 3)))):=Lib.hid fun w hw vb hvb=>by
  subst hvb;refine Dap v l (l.countP (·<x)) List.countP_le_length x w.heap.size _ hl ?_ (heap_alloc_new w _) (fun e=> ?_)
  . refine h.keep fun g hg=> ?_
    have:=h.lt hg;rw [Below.heap_alloc _ _ _ (by rw [hw];exact this),hw]
  . have:=h.lt e;rw [hw]at this;omega
 generalize l.countP (·<x)=i at*;have ui:=Lib.hid Db;have HF:=Lib.hid hf;have HFV:=Lib.hid SH;have HC:=Lib.hid hc;clear h hs hx Db hf SH
 go_enter Tryz.func256,Tryz.ntmps256
 go_wp2_with fail
 refine HS.out.mono ?_
 rintro e w1 ⟨rfl,hh,hb⟩;have JR:w1.cell? ⟨fb,t,none⟩=some v:=(Bk hh _).trans HC.out
 have HH:=Lib.hid hh;have HB:=Lib.hid hb;clear hh hb
 go_wp2_with fail
 refine (HL.out w1 HH.out _ rfl).mono ?_
 rintro e w2 ⟨v',rfl,uR,ht,hn⟩;have mj:W.heap.size<(w1.alloc (.cells #[.int .i64 x] 3)).heap.size:=by simp [HH.out]
 have e2:w2.heap[fb]?=W.heap[fb]?:=by
  rw [ht.block fb (by have:=ui.out;omega) (fun e=>HFV.out e),Below.heap_alloc _ _ _ (by rw [HH.out];exact ui.out),HH.out]
 have NQ:w2.cell? ⟨fb,t,none⟩=some v:=(cell_of_heap e2 t).trans HC.out
 have hf2:w2.frozen? ⟨fb,t,none⟩=false:=(frozen_of_heap e2 t).trans HF.out
 have HE:Hid (Ja (fun k=>v.ownBlock=some k) W w2):=Lib.hid (((Ja.jc HB.out).alloc _).trans ht (fun _ _ h=>h));have HN:Hid (∀g,v'.ownBlock=some g->v.ownBlock=some g\/W.heap.size<=g):=Lib.hid fun g hg=>by
  rcases hn g hg with h|h
  . exact Or.inl h
  . exact Or.inr (by omega)
 have MO:=Lib.hid uR;obtain ⟨a',n',k',rfl⟩:=uR.slice;clear ht uR hn mj e2 hc JR
 go_wp2_with fail
 go_end0
 exact ⟨⟨_,rfl⟩,_,w2,HE.out,MO.out,HN.out,rfl⟩
structure Mv.Ne(M:Mv):Prop where
 md:M.m≠M.d
 mkb:M.m≠M.kb
 ms:M.m≠M.sb
 mw:M.m≠M.wb
 mf:M.m≠M.fb
 mp:M.m≠M.pb
 dk:M.d≠M.kb
 ds:M.d≠M.sb
 dw:M.d≠M.wb
 df:M.d≠M.fb
 dp:M.d≠M.pb
 ks:M.kb≠M.sb
 kw:M.kb≠M.wb
 kf:M.kb≠M.fb
 kp:M.kb≠M.pb
 sw:M.sb≠M.wb
 sf:M.sb≠M.fb
 sp:M.sb≠M.pb
 wf:M.wb≠M.fb
 wp:M.wb≠M.pb
 fp:M.fb≠M.pb
theorem Ga.ne{W:World}{M:Mv}(h:Ga W M):M.Ne:=by
 have:=h.apart;simp only [Mv.blocks,List.nodup_cons,List.mem_cons,List.not_mem_nil,or_false,not_or,List.nodup_nil,and_true,not_false_eq_true]at this;obtain ⟨⟨a1,a2,a3,a4,a5,a6⟩,⟨b1,b2,b3,b4,b5⟩,⟨c1,c2,c3,c4⟩,⟨d1,d2,d3⟩,⟨e1,e2⟩,f1⟩:=this;exact ⟨a1,a2,a3,a4,a5,a6,b1,b2,b3,b4,b5,c1,c2,c3,c4,d1,d2,d3,e1,e2,f1⟩
theorem Ga.IS{W:World}{M:Mv}(h:Ga W M){b:Nat}(hb:b∈M.blocks)(j:Nat)(v:Value)(t:Nat)(ht:t<M.nt):lg (W.setCell ⟨b,j,none⟩ v) (M.fv t) (M.fl t):=
 (h.fl t ht).keep fun g hg=>aa fun e=>h.alone t ht g hg (e▸hb)
theorem Ga.pn{W:World}{M:Mv}(h:Ga W M)(k:Nat)(v:Int):Ga (W.setCell ⟨M.sb,k,none⟩ (.int .u64 v)) {M with seen:=nd M.seen k v}:=by
 have n:=h.ne;exact {h with
  row:=(aa n.ms).trans h.row
  dev:=(aa n.ds).trans h.dev
  kept:=h.kept.keep (aa n.ks)
  seen:=by
   have:=h.seen.set k (.int .u64 v);simp only [Aj];exact this
  wr:=h.wr.keep (aa (Ne.symm n.sw))
  fb:=h.fb.keep (aa (Ne.symm n.sf))
  pass:=h.pass.keep (aa (Ne.symm n.sp))
  fl:=fun t ht=>h.IS (by simp [Mv.blocks]) _ _ t ht}
theorem Ga.qn{W:World}{M:Mv}(h:Ga W M)(k:Nat)(v:Int):Ga (W.setCell ⟨M.pb,k,none⟩ (.int .u64 v)) {M with pass:=nd M.pass k v}:=by
 have n:=h.ne;exact {h with
  row:=(aa n.mp).trans h.row
  dev:=(aa n.dp).trans h.dev
  kept:=h.kept.keep (aa n.kp)
  seen:=h.seen.keep (aa n.sp)
  wr:=h.wr.keep (aa n.wp)
  fb:=h.fb.keep (aa n.fp)
  pass:=by
   have:=h.pass.set k (.int .u64 v);simp only [Aj];exact this
  fl:=fun t ht=>h.IS (by simp [Mv.blocks]) _ _ t ht}
def Mv.note(M:Mv)(x:Acc)(is:Bool):Mv:={M with ck:=M.ck+1,bd:=if is then M.bd else M.bd+1,la:=x}
theorem Ga.note{W W':World}{M:Mv}(h:Ga W M)(x:Acc)(is:Bool)(hr:Mj W' M.m (.pointer (some ⟨M.d,0,none⟩)) (.slice (some ⟨M.pb,0,none⟩) M.np M.c4) (M.ck+1) (if is then M.bd else M.bd+1) x)(hb:jv M.m W W'):Ga W' (M.note x is):=by
 have n:=h.ne;have o:∀k,M.own k->k≠M.m->W'.heap[k]?=W.heap[k]?:=fun k hk e=>hb.block k (h.lt hk) e
 have i:∀k,k∈M.blocks->M.own k:=fun k hk=>Or.inl hk
 exact {h with
  row:=hr
  dev:=(o _ (i _ (by simp [Mv.blocks])) (Ne.symm n.md)).trans h.dev
  kept:=h.kept.keep (o _ (i _ (by simp [Mv.blocks])) (Ne.symm n.mkb))
  seen:=h.seen.keep (o _ (i _ (by simp [Mv.blocks])) (Ne.symm n.ms))
  wr:=h.wr.keep (o _ (i _ (by simp [Mv.blocks])) (Ne.symm n.mw))
  fb:=h.fb.keep (o _ (i _ (by simp [Mv.blocks])) (Ne.symm n.mf))
  pass:=h.pass.keep (o _ (i _ (by simp [Mv.blocks])) (Ne.symm n.mp))
  fl:=fun t ht=>(h.fl t ht).keep fun g hg=>o g (Or.inr ⟨t,ht,hg⟩) fun e=>h.alone t ht g hg (by rw [e];simp [Mv.blocks])
  Cm:=by have:=h.Cm;simp only [Mv.note];omega
  fA:=by have:=h.fA;simp only [Mv.note];split<;>omega
  Mu:=by have:=h.Mu;simp only [Mv.note];split<;>omega}
theorem Ga.words{W:World}{M:Mv}(h:Ga W M):mv W M.m M.d M.sb M.n M.c1 (some ⟨M.pb,0,none⟩) M.np M.c4 M.seen M.pass where
 dv:=by have:=(qd h.row).1;exact this
 ps:=(qd h.row).2.1
 sn:=by rw [cell_of_row _ _ 1 _ _ _ h.dev];rfl
 sw:=fun k hk=>h.seen.cell (by omega)
 pw:=fun _=>⟨M.pb,rfl,fun k hk=>h.pass.cell hk⟩
def Mv.Ua(M:Mv)(at_:Int):Int×Bool:=Je M.n M.np M.seen M.pass at_
theorem mL(M:Mv)(at_:Int)(q0:-9223372036854775808<=at_)(q1:at_<=9223372036854775807)(W:World)(h:Ga W M):
  Calls Tryz.prog 77 #[.pointer (some ⟨M.m,0,none⟩), .int .i64 at_] W (Wi (.tuple #[.int .u64 (M.Ua at_).1, .bool (M.Ua at_).2]) W):=
 Laf M.m M.d M.sb M.n M.c1 h.n1 _ M.np M.c4 h.p1 M.seen M.pass at_ q0 q1 W h.words
def Mv.put(M:Mv)(at_ v:Int):Mv:=if 0<=at_ then{M with seen:=nd M.seen at_.toNat v}else{M with pass:=nd M.pass (-1 -at_).toNat v}
theorem Mv.nL(M:Mv)(at_ v:Int):(M.put at_ v).own=M.own:=by unfold Mv.put;split<;>rfl
theorem Mv.J4(M:Mv)(at_ v:Int):(M.put at_ v).m=M.m:=by unfold Mv.put;split<;>rfl
theorem Mv.Fap(M:Mv)(at_ v:Int):(M.put at_ v).d=M.d:=by unfold Mv.put;split<;>rfl
theorem Mv.fx(M:Mv)(at_ v:Int):(M.put at_ v).ck=M.ck:=by unfold Mv.put;split<;>rfl
def Xq(M M':Mv)(W:World)(e:Ending)(W':World):Prop:=(∃x,e= .returned x)/\Ga W' M'/\Ja M.own W W'
theorem kaI(M:Mv)(at_ v:Int)(W:World)(h:Ga W M)(hp:(M.Ua at_).2=true):
  Calls Tryz.prog 204 #[.pointer (some ⟨M.m,0,none⟩), .int .i64 at_, .int .u64 v] W (Xq M (M.put at_ v) W):=by
 unfold Mv.Ua Je at hp;by_cases h0:0<=at_
 . rw [if_pos h0]at hp;have h1:at_/8<(M.n:Int):=by by_cases q:at_/8<(M.n:Int)<;>simp [q]at hp⊢
   have e:((at_.toNat:Nat):Int)=at_:=by omega
   have:=QI M.m M.d M.sb M.n M.c1 h.n1 _ M.np M.c4 M.seen M.pass at_.toNat (by omega) v W h.words h.seen.free;rw [e]at this;refine this.mono ?_
   rintro e' W' ⟨hx,w1,hh,hb,rfl⟩;have h1':Ga w1 M:=h.below hb;refine ⟨hx, ?_,(Ja.jc hb).set (fun _=>Or.inl (by simp [Mv.blocks])) _ _⟩;unfold Mv.put;rw [if_pos h0];exact h1'.pn _ _
 . rw [if_neg h0]at hp;have h1:-1 -at_<(M.np:Int):=by by_cases q:-1 -at_<(M.np:Int)<;>simp [q]at hp⊢
   have e:(-1 -((-1 -at_).toNat:Int))=at_:=by omega
   have:=RI M.m M.d M.sb M.n M.c1 M.pb M.np M.c4 h.p1 M.seen M.pass (-1 -at_).toNat (by omega) v W h.words h.pass.free
   rw [e]at this;refine this.mono ?_
   rintro e' W' ⟨hx,w1,hh,hb,rfl⟩;have h1':Ga w1 M:=h.below hb;refine ⟨hx, ?_,(Ja.jc hb).set (fun _=>Or.inl (by simp [Mv.blocks])) _ _⟩;unfold Mv.put;rw [if_neg h0];exact h1'.qn _ _
theorem UI(M:Mv)(x:Acc)(is:Bool)(W:World)(h:Ga W M)(hc:M.ck<=1000000):
  Calls Tryz.prog 205 #[.pointer (some ⟨M.m,0,none⟩), .agg x.cells, .bool is] W (Xq M (M.note x is) W):=by
 have:=h.Mu;refine (jL M.m _ _ M.ck M.bd h.Cm hc h.fA (by omega) M.la x is W h.row).mono ?_
 rintro e W' ⟨hx,hr,hb⟩;exact ⟨hx,h.note x is hr hb,Ja.ES hb fun _=>Or.inl (by simp [Mv.blocks])⟩
theorem qp(M:Mv)(x:Acc)(er:Int)(W:World)(h:Ga W M)(hc:M.ck<=1000000):
  Calls Tryz.prog 170 #[.pointer (some ⟨M.m,0,none⟩), .agg x.cells, .int .i64 er] W (Xq M (M.note ⟨x.ki,x.th,x.pl,x.ol,x.ne,er==0⟩ (er==0)) W):=by
 have:=h.Mu;refine (Jaf M.m _ _ M.ck M.bd h.Cm hc h.fA (by omega) M.la x er W h.row).mono ?_
 rintro e W' ⟨hx,hr,hb⟩;exact ⟨hx,h.note _ _ hr hb,Ja.ES hb fun _=>Or.inl (by simp [Mv.blocks])⟩
def Mv.res(M:Mv)(x:Acc)(pu:Bool):Acc:=if(M.Ua x.pl).2 then⟨x.ki,x.th,x.pl,(M.Ua x.pl).1,x.ne,pu||x.ki==1⟩else x
def Mv.Ye(M:Mv)(x:Acc)(nw:Int)(pu:Bool):Mv:=(if(M.Ua x.pl).2&&pu then M.put x.pl nw else M).note (M.res x pu) (M.Ua x.pl).2
def rp(M M':Mv)(v:Value)(W:World)(e:Ending)(W':World):Prop:=e= .returned v/\Ga W' M'/\Ja M.own W W'
theorem Td{W:World}{b:Nat}{k0 k1 k2 k3 k4 k5:Value}{t:TypeId}(h:W.heap[b]?=some (.cells #[k0,k1,k2,k3,k4,k5] t (0,0))):
  W.cell? ⟨b,0,none⟩=some k0/\W.cell? ⟨b,1,none⟩=some k1/\W.cell? ⟨b,2,none⟩=some k2/\W.cell? ⟨b,3,none⟩=some k3/\W.cell? ⟨b,4,none⟩=some k4/\W.cell? ⟨b,5,none⟩=some k5/\∀j,W.frozen? ⟨b,j,none⟩=false:=by
 refine ⟨?_, ?_, ?_, ?_, ?_, ?_,fun j=> ?_⟩
 all_goals first|(rw [cell_of_row _ _ _ _ _ _ h];rfl)|(unfold World.frozen?;rw [h];simp)
theorem Yd(W:World)(a b:Obj):((W.alloc a).alloc b).heap[W.heap.size]?=some a/\((W.alloc a).alloc b).heap[W.heap.size+1]?=some b:=by
 constructor
 . rw [Below.heap_alloc _ _ _ (by simp)];exact heap_alloc_new W a
 . have:=heap_alloc_new (W.alloc a) b;simpa using this
theorem Kd{W w:World}{a b:Obj}(h:w.heap=((W.alloc a).alloc b).heap):w.heap[W.heap.size]?=some a/\w.heap[W.heap.size+1]?=some b:=by
 rw [h];exact Yd W a b
theorem rn{w:World}{b j:Nat}{u:Value}(v:Value)(h:w.cell? ⟨b,j,none⟩=some u):(w.setCell ⟨b,j,none⟩ v).cell? ⟨b,j,none⟩=some v:=by
 unfold World.cell? at h
 split at h
 . rename_i c t f e;simp at h;have hl:j<c.size:=(Array.getElem?_eq_some_iff.1 h).1
   rw [cell_of_row _ _ j _ _ _ (heap_set v e)];simp [hl]
 . cases h
theorem gx{F:Nat->Prop}{a w:World}(h:Ja F a w){b:Nat}(hb:a.heap.size<=b)(v0 v1 v2 v3 v4 v5:Value):
  Ja F a ((((((w.setCell ⟨b,0,none⟩ v0).setCell ⟨b,1,none⟩ v1).setCell ⟨b,2,none⟩ v2).setCell ⟨b,3,none⟩ v3).setCell ⟨b,4,none⟩ v4).setCell ⟨b,5,none⟩ v5):=by
 have e:b<a.heap.size->F b:=fun x=>by omega
 exact ((((((h.set e _ _).set e _ _).set e _ _).set e _ _).set e _ _).set e _ _)
theorem Ga.six{w:World}{M:Mv}(h:Ga w M){b:Nat}(hb:¬M.own b)(v0 v1 v2 v3 v4 v5:Value):
  Ga ((((((w.setCell ⟨b,0,none⟩ v0).setCell ⟨b,1,none⟩ v1).setCell ⟨b,2,none⟩ v2).setCell ⟨b,3,none⟩ v3).setCell ⟨b,4,none⟩ v4).setCell ⟨b,5,none⟩ v5) M:=by
 refine h.keep fun k hk=> ?_
 have e:k≠b:=fun e=>hb (e▸hk)
 rw [aa e,aa e,aa e,aa e,aa e,aa e]
theorem qv{w:World}{b:Nat}{k0 k1 k2 k3 k4 k5:Value}{t:TypeId}{f:Nat×Nat}(h:w.heap[b]?=some (.cells #[k0,k1,k2,k3,k4,k5] t f))(v0 v1 v2 v3 v4 v5:Value):
  ((((((w.setCell ⟨b,0,none⟩ v0).setCell ⟨b,1,none⟩ v1).setCell ⟨b,2,none⟩ v2).setCell ⟨b,3,none⟩ v3).setCell ⟨b,4,none⟩ v4).setCell ⟨b,5,none⟩ v5).heap[b]?=some (.cells #[v0,v1,v2,v3,v4,v5] t f):=by
 rw [heap_set v5 (heap_set v4 (heap_set v3 (heap_set v2 (heap_set v1 (heap_set v0 h)))))];rfl
theorem Lb{fn:Func}{s:Nat}(hf:fn.results=#[.cell s 112]){tmps:Array Value}{b:Nat}(ht:tmps.getD s undef= .pointer (some ⟨b,0,none⟩)){w:World}{v0 v1 v2 v3 v4 v5:Value}
  (h:w.heap[b]?=some (.cells #[v0,v1,v2,v3,v4,v5] 112 (0,0))):(results fn tmps).run Tryz.prog w= .ok (.agg #[v0,v1,v2,v3,v4,v5]) w:=by
 obtain ⟨z0,z1,z2,z3,z4,z5,zf⟩:=Td h;have um:tmps[s]?.getD undef= .pointer (some ⟨b,0,none⟩):=by simpa using ht
 simp only [results,hf];simp [go_sem,um,z0,z1,z2,z3,z4,z5]
theorem Ga.Ab{W:World}{M:Mv}(h:Ga W M){k:Nat}(hk:W.heap.size<=k):¬M.own k:=fun e=>by have:=h.lt e;omega
set_option maxRecDepth 100000 in
theorem NO(M:Mv)(x:Acc)(fv:Value)(W:World)(h:Ga W M)(hc:M.ck<=1000000)(q0:-9223372036854775808<=x.pl)(q1:x.pl<=9223372036854775807)(hp:(M.Ua x.pl).2=false):
  Calls Tryz.prog 106 #[.pointer (some ⟨M.m,0,none⟩), .agg x.cells,fv] W (rp M (M.note x false) (.agg x.cells) W):=by
 have HM:=Lib.hid h;have HP:Hid (∀w,Ga w M->Calls Tryz.prog 77 #[.pointer (some ⟨M.m,0,none⟩), .int .i64 x.pl] w (Wi (.tuple #[.int .u64 (M.Ua x.pl).1, .bool false]) w)):=Lib.hid fun w hw=>by have:=mL M x.pl q0 q1 w hw;rw [hp]at this;exact this
 have HC:Hid (∀w,Ga w M->Calls Tryz.prog 205 #[.pointer (some ⟨M.m,0,none⟩), .agg x.cells, .bool false] w (Xq M (M.note x false) w)):=Lib.hid fun w hw=>UI M x false w hw hc
 clear h hp;generalize (M.Ua x.pl).1=o at*
 obtain ⟨N,hN⟩:∃N,N=M.note x false:=⟨_,rfl⟩;have HN:Hid (∀k,N.own k->M.own k):=Lib.hid fun k hk=>by rw [hN]at hk;exact hk
 rw [<-hN]at HC⊢;clear hN;obtain ⟨ki,th,pl,ol,ne,dn⟩:=x;simp only [Acc.cells]at*
 go_enter Tryz.func106,Tryz.ntmps106
 go_wp2_with fail
 refine (HP.out _ (HM.out.below (((Below.refl _ _).alloc (Nat.le_refl _) _).alloc (by simp) _))).mono ?_
 rintro e w1 ⟨rfl,hb,hh⟩;have HH:=Lib.hid hh;obtain ⟨ra,rr⟩:=Kd hh;obtain ⟨a0,a1,a2,a3,a4,a5,af⟩:=Td ra;obtain ⟨r0,r1,r2,r3,r4,r5,rf⟩:=Td rr;have HB:Hid (Below W.heap.size W w1):=Lib.hid ((((Below.refl _ _).alloc (Nat.le_refl _) _).alloc (by simp) _).trans (hb.mono (by simp;omega)));have HS:Hid (W.heap.size+1<w1.heap.size):=Lib.hid (by rw [hh];simp);have HA:=Lib.hid ra;have HR:=Lib.hid rr;clear hb hh ra rr
 go_wp2_with fail
 refine (HC.out _ (HM.out.below HB.out)).mono ?_
 rintro e w2 ⟨⟨x,rfl⟩,hm,ht⟩;have HT:=Lib.hid ((Ja.jc (F:=M.own) HB.out).trans ht (fun _ _ h=>h));have ra:=(ht.block W.heap.size (by have:=HS.out;omega) (HM.out.Ab (by omega))).trans HA.out
 have rr:=(ht.block (W.heap.size+1) (by have:=HS.out;omega) (HM.out.Ab (by omega))).trans HR.out
 have Kg:=Lib.hid hm;clear hm ht a0 a1 a2 a3 a4 a5 af r0 r1 r2 r3 r4 r5 rf;obtain ⟨a0,a1,a2,a3,a4,a5,af⟩:=Td ra;obtain ⟨r0,r1,r2,r3,r4,r5,rf⟩:=Td rr;have OF:=Lib.hid ra;have HR2:=Lib.hid rr;clear ra rr
 go_wp2_with fail
 refine bodyPost_ret (v:= .agg #[.int .i64 ki, .int .i64 th, .int .i64 pl, .int .u64 ol, .int .u64 ne, .bool dn]) ?_ rfl ?_
 . exact Lb rfl rfl (qv HR2.out _ _ _ _ _ _)
 . exact ⟨rfl,Kg.out.six (fun e=>HM.out.Ab (by omega) (HN.out _ e)) _ _ _ _ _ _,gx HT.out (by omega) _ _ _ _ _ _⟩
set_option maxRecDepth 100000 in
theorem PF(M:Mv)(x:Acc)(f:Nat)(lb:Array Value)(nw:Int)(ef:∀args w,(callFunc f args).run Tryz.prog w= .ok (.enter f args) w)(W:World)(h:Ga W M)(hc:M.ck<=1000000)(q0:-9223372036854775808<=x.pl)(q1:x.pl<=9223372036854775807)(hp:(M.Ua x.pl).2=true)
  (hf:∀w1,Below W.heap.size W w1->Calls Tryz.prog f (#[.int .u64 (M.Ua x.pl).1]++lb) w1 (Wi (.tuple #[.int .u64 nw, .bool true]) w1)):
  Calls Tryz.prog 106 #[.pointer (some ⟨M.m,0,none⟩), .agg x.cells, .func (.func f) #[] lb] W (rp M ((M.put x.pl nw).note ⟨x.ki,x.th,x.pl,(M.Ua x.pl).1,x.ne,true||x.ki==1⟩ true) (.agg (Acc.cells ⟨x.ki,x.th,x.pl,(M.Ua x.pl).1,x.ne,true||x.ki==1⟩)) W):=by
 have HM:=Lib.hid h;have HP:Hid (∀w,Ga w M->Calls Tryz.prog 77 #[.pointer (some ⟨M.m,0,none⟩), .int .i64 x.pl] w (Wi (.tuple #[.int .u64 (M.Ua x.pl).1, .bool true]) w)):=Lib.hid fun w hw=>by have:=mL M x.pl q0 q1 w hw;rw [hp]at this;exact this
 have HQ:Hid (∀w,Ga w M->Calls Tryz.prog 204 #[.pointer (some ⟨M.m,0,none⟩), .int .i64 x.pl, .int .u64 nw] w (Xq M (M.put x.pl nw) w)):=Lib.hid fun w hw=>kaI M x.pl nw w hw hp
 have HO:Hid (∀k,(M.put x.pl nw).own k->M.own k):=Lib.hid fun k hk=>by rw [Mv.nL]at hk;exact hk
 have jg:(M.put x.pl nw).ck<=1000000:=by rw [Mv.fx];exact hc
 have hem:(M.put x.pl nw).m=M.m:=Mv.J4 _ _ _
 have HF:=Lib.hid hf;clear h hp hf;generalize (M.Ua x.pl).1=o at*
 obtain ⟨y,hy⟩:∃y,y=(true||x.ki==1):=⟨_,rfl⟩;rw [<-hy];obtain ⟨N0,oZ⟩:∃N0,N0=M.put x.pl nw:=⟨_,rfl⟩;rw [<-oZ]at HQ HO jg hem⊢;clear oZ;have HC:Hid (∀w,Ga w N0->Calls Tryz.prog 205 #[.pointer (some ⟨M.m,0,none⟩), .agg (Acc.cells ⟨x.ki,x.th,x.pl,o,x.ne,y⟩), .bool true] w (Xq N0 (N0.note ⟨x.ki,x.th,x.pl,o,x.ne,y⟩ true) w)):=Lib.hid fun w hw=>by have:=UI N0 ⟨x.ki,x.th,x.pl,o,x.ne,y⟩ true w hw jg;rw [hem]at this;exact this
 obtain ⟨N,hN⟩:∃N,N=N0.note ⟨x.ki,x.th,x.pl,o,x.ne,y⟩ true:=⟨_,rfl⟩;have HN:Hid (∀k,N.own k->M.own k):=Lib.hid fun k hk=>HO.out k (by rw [hN]at hk;exact hk)
 rw [<-hN]at HC⊢;clear hN jg hem;obtain ⟨ki,th,pl,ol,ne,dn⟩:=x;simp only [Acc.cells]at*;have HY:=Lib.hid hy;clear hy
 go_enter Tryz.func106,Tryz.ntmps106
 go_wp2_with fail
 refine (HP.out _ (HM.out.below (((Below.refl _ _).alloc (Nat.le_refl _) _).alloc (by simp) _))).mono ?_
 rintro e w1 ⟨rfl,hb,hh⟩;obtain ⟨ra,rr⟩:=Kd hh;obtain ⟨a0,a1,a2,a3,a4,a5,af⟩:=Td ra;have HB:Hid (Below W.heap.size W w1):=Lib.hid ((((Below.refl _ _).alloc (Nat.le_refl _) _).alloc (by simp) _).trans (hb.mono (by simp;omega)));have HS:Hid (W.heap.size+1<w1.heap.size):=Lib.hid (by rw [hh];simp);have HA:=Lib.hid ra;have HR:=Lib.hid rr;clear hb hh ra rr
 go_wp2_with fail
 with_reducible refine (HF.out _ (HB.out.setCell (Nat.le_refl _) _)).mono ?_
 rintro e w2 ⟨rfl,hb,hh⟩;have ra:=heap_set (j:=3) (.int .u64 o) HA.out;have rr:=(aa (j:=3) (v:= .int .u64 o) (show W.heap.size+1≠W.heap.size by omega)).trans HR.out
 rw [<-hh]at ra rr;have Iz:Hid (Below W.heap.size W w2):=Lib.hid ((HB.out.setCell (Nat.le_refl _) _).trans (hb.mono (by have:=HS.out;simp [World.setCell];omega)));have VI:Hid (W.heap.size+1<w2.heap.size):=Lib.hid (by rw [hh];have:=HS.out;simpa [World.setCell]using this);simp only [List.setIfInBounds_toArray,List.set_cons_succ,List.set_cons_zero]at ra;have OF:=Lib.hid ra;have HR2:=Lib.hid rr;clear a0 a1 a2 a3 a4 a5 af hb hh;obtain ⟨a0,a1,a2,a3,a4,a5,af⟩:=Td ra;clear ra rr
 go_wp2_with fail
 refine (HQ.out _ (HM.out.below Iz.out)).mono ?_
 rintro e w3 ⟨⟨u,rfl⟩,hm,ht⟩;have HT3:=Lib.hid ((Ja.jc (F:=M.own) Iz.out).trans ht (fun _ _ h=>h));have ra:=(ht.block W.heap.size (by have:=VI.out;omega) (HM.out.Ab (by omega))).trans OF.out
 have rr:=(ht.block (W.heap.size+1) (by have:=VI.out;omega) (HM.out.Ab (by omega))).trans HR2.out
 have HS3:Hid (W.heap.size+1<w3.heap.size):=Lib.hid (Nat.lt_of_lt_of_le VI.out ht.size);have HM3:=Lib.hid hm;have HA3:=Lib.hid ra;have HR3:=Lib.hid rr;clear hm ht a0 a1 a2 a3 a4 a5 af;obtain ⟨a0,a1,a2,a3,a4,a5,af⟩:=Td ra;clear ra rr
 go_wp2_with fail
 obtain rfl:y=true:=by rw [HY.out];simp
 have hmA:Ga (w3.setCell ⟨W.heap.size,5,none⟩ (.bool true)) N0:=HM3.out.keep fun k hk=>aa fun e=>HM.out.Ab (Nat.le_refl _) (e▸HO.out k hk)
 refine (HC.out _ hmA).mono ?_
 rintro e w4 ⟨⟨u',rfl⟩,hm,ht⟩;have HT4:Hid (Ja M.own W w4):=Lib.hid ((HT3.out.set (fun e=>absurd e (by omega)) _ _).trans ht (fun k _ hk=>HO.out k hk));have ra:=(ht.block W.heap.size (by have:=HS3.out;simp [World.setCell];omega) (fun e=>HM.out.Ab (Nat.le_refl _) (HO.out _ e))).trans (heap_set (j:=5) (.bool true) HA3.out)
 have rr:=(ht.block (W.heap.size+1) (by have:=HS3.out;simp [World.setCell];omega) (fun e=>HM.out.Ab (by omega) (HO.out _ e))).trans ((aa (j:=5) (v:= .bool true) (show W.heap.size+1≠W.heap.size by omega)).trans HR3.out)
 simp only [List.setIfInBounds_toArray,List.set_cons_succ,List.set_cons_zero]at ra;have HM4:=Lib.hid hm;have HR4:=Lib.hid rr;clear hm ht a0 a1 a2 a3 a4 a5 af hmA;obtain ⟨a0,a1,a2,a3,a4,a5,af⟩:=Td ra;obtain ⟨r0,r1,r2,r3,r4,r5,rf⟩:=Td rr;clear ra rr
 go_wp2_with fail
 refine bodyPost_ret (v:= .agg #[.int .i64 ki, .int .i64 th, .int .i64 pl, .int .u64 o, .int .u64 ne, .bool true]) ?_ rfl ?_
 . exact Lb rfl rfl (qv HR4.out _ _ _ _ _ _)
 . exact ⟨rfl,HM4.out.six (fun e=>HM.out.Ab (by omega) (HN.out _ e)) _ _ _ _ _ _,gx HT4.out (by omega) _ _ _ _ _ _⟩
set_option maxRecDepth 100000 in
theorem ZC(M:Mv)(x:Acc)(f:Nat)(lb:Array Value)(nw:Int)(ef:∀args w,(callFunc f args).run Tryz.prog w= .ok (.enter f args) w)(W:World)(h:Ga W M)(hc:M.ck<=1000000)(q0:-9223372036854775808<=x.pl)(q1:x.pl<=9223372036854775807)(hp:(M.Ua x.pl).2=true)
  (hf:∀w1,Below W.heap.size W w1->Calls Tryz.prog f (#[.int .u64 (M.Ua x.pl).1]++lb) w1 (Wi (.tuple #[.int .u64 nw, .bool false]) w1)):
  Calls Tryz.prog 106 #[.pointer (some ⟨M.m,0,none⟩), .agg x.cells, .func (.func f) #[] lb] W (rp M (M.note ⟨x.ki,x.th,x.pl,(M.Ua x.pl).1,x.ne,false||x.ki==1⟩ true) (.agg (Acc.cells ⟨x.ki,x.th,x.pl,(M.Ua x.pl).1,x.ne,false||x.ki==1⟩)) W):=by
 have HM:=Lib.hid h;have HP:Hid (∀w,Ga w M->Calls Tryz.prog 77 #[.pointer (some ⟨M.m,0,none⟩), .int .i64 x.pl] w (Wi (.tuple #[.int .u64 (M.Ua x.pl).1, .bool true]) w)):=Lib.hid fun w hw=>by have:=mL M x.pl q0 q1 w hw;rw [hp]at this;exact this
 have HF:=Lib.hid hf;clear h hp hf;generalize (M.Ua x.pl).1=o at*
 obtain ⟨y,hy⟩:∃y,y=(false||x.ki==1):=⟨_,rfl⟩;rw [<-hy];obtain ⟨N0,oZ⟩:∃N0,N0=M:=⟨_,rfl⟩;have jg:N0.ck<=1000000:=by rw [oZ];exact hc
 have hem:N0.m=M.m:=by rw [oZ]
 have HO:Hid (∀k,N0.own k->M.own k):=Lib.hid fun k hk=>by rw [oZ]at hk;exact hk
 have HE:=Lib.hid oZ;rw [show M.note ⟨x.ki,x.th,x.pl,o,x.ne,y⟩ true=N0.note ⟨x.ki,x.th,x.pl,o,x.ne,y⟩ true by rw [oZ]];clear oZ;have HC:Hid (∀w,Ga w N0->Calls Tryz.prog 205 #[.pointer (some ⟨M.m,0,none⟩), .agg (Acc.cells ⟨x.ki,x.th,x.pl,o,x.ne,y⟩), .bool true] w (Xq N0 (N0.note ⟨x.ki,x.th,x.pl,o,x.ne,y⟩ true) w)):=Lib.hid fun w hw=>by have:=UI N0 ⟨x.ki,x.th,x.pl,o,x.ne,y⟩ true w hw jg;rw [hem]at this;exact this
 obtain ⟨N,hN⟩:∃N,N=N0.note ⟨x.ki,x.th,x.pl,o,x.ne,y⟩ true:=⟨_,rfl⟩;have HN:Hid (∀k,N.own k->M.own k):=Lib.hid fun k hk=>HO.out k (by rw [hN]at hk;exact hk)
 rw [<-hN]at HC⊢;clear hN jg hem;obtain ⟨ki,th,pl,ol,ne,dn⟩:=x;simp only [Acc.cells]at*;have HY:=Lib.hid hy;clear hy
 go_enter Tryz.func106,Tryz.ntmps106
 go_wp2_with fail
 refine (HP.out _ (HM.out.below (((Below.refl _ _).alloc (Nat.le_refl _) _).alloc (by simp) _))).mono ?_
 rintro e w1 ⟨rfl,hb,hh⟩;obtain ⟨ra,rr⟩:=Kd hh;obtain ⟨a0,a1,a2,a3,a4,a5,af⟩:=Td ra;have HB:Hid (Below W.heap.size W w1):=Lib.hid ((((Below.refl _ _).alloc (Nat.le_refl _) _).alloc (by simp) _).trans (hb.mono (by simp;omega)));have HS:Hid (W.heap.size+1<w1.heap.size):=Lib.hid (by rw [hh];simp);have HA:=Lib.hid ra;have HR:=Lib.hid rr;clear hb hh ra rr
 go_wp2_with fail
 with_reducible refine (HF.out _ (HB.out.setCell (Nat.le_refl _) _)).mono ?_
 rintro e w2 ⟨rfl,hb,hh⟩;have ra:=heap_set (j:=3) (.int .u64 o) HA.out;have rr:=(aa (j:=3) (v:= .int .u64 o) (show W.heap.size+1≠W.heap.size by omega)).trans HR.out
 rw [<-hh]at ra rr;have Iz:Hid (Below W.heap.size W w2):=Lib.hid ((HB.out.setCell (Nat.le_refl _) _).trans (hb.mono (by have:=HS.out;simp [World.setCell];omega)));have VI:Hid (W.heap.size+1<w2.heap.size):=Lib.hid (by rw [hh];have:=HS.out;simpa [World.setCell]using this);simp only [List.setIfInBounds_toArray,List.set_cons_succ,List.set_cons_zero]at ra;have OF:=Lib.hid ra;have HR2:=Lib.hid rr;clear a0 a1 a2 a3 a4 a5 af hb hh;obtain ⟨a0,a1,a2,a3,a4,a5,af⟩:=Td ra;clear ra rr;have HT3:Hid (Ja M.own W w2):=Lib.hid (Ja.jc Iz.out);have HM3:Hid (Ga w2 N0):=Lib.hid (by rw [HE.out];exact HM.out.below Iz.out);have HA3:=OF;have HR3:=HR2;have HS3:=VI
 go_wp2_with fail
 have ky:(ki==1)=y:=by rw [HY.out];simp
 rw [ky];have hmA:Ga (w2.setCell ⟨W.heap.size,5,none⟩ (.bool y)) N0:=HM3.out.keep fun k hk=>aa fun e=>HM.out.Ab (Nat.le_refl _) (e▸HO.out k hk)
 refine (HC.out _ hmA).mono ?_
 rintro e w4 ⟨⟨u',rfl⟩,hm,ht⟩;have HT4:Hid (Ja M.own W w4):=Lib.hid ((HT3.out.set (fun e=>absurd e (by omega)) _ _).trans ht (fun k _ hk=>HO.out k hk));have ra:=(ht.block W.heap.size (by have:=HS3.out;simp [World.setCell];omega) (fun e=>HM.out.Ab (Nat.le_refl _) (HO.out _ e))).trans (heap_set (j:=5) (.bool y) HA3.out)
 have rr:=(ht.block (W.heap.size+1) (by have:=HS3.out;simp [World.setCell];omega) (fun e=>HM.out.Ab (by omega) (HO.out _ e))).trans ((aa (j:=5) (v:= .bool y) (show W.heap.size+1≠W.heap.size by omega)).trans HR3.out)
 simp only [List.setIfInBounds_toArray,List.set_cons_succ,List.set_cons_zero]at ra;have HM4:=Lib.hid hm;have HR4:=Lib.hid rr;clear hm ht a0 a1 a2 a3 a4 a5 af hmA;obtain ⟨a0,a1,a2,a3,a4,a5,af⟩:=Td ra;obtain ⟨r0,r1,r2,r3,r4,r5,rf⟩:=Td rr;clear ra rr
 go_wp2_with fail
 refine bodyPost_ret (v:= .agg #[.int .i64 ki, .int .i64 th, .int .i64 pl, .int .u64 o, .int .u64 ne, .bool y]) ?_ rfl ?_
 . exact Lb rfl rfl (qv HR4.out _ _ _ _ _ _)
 . exact ⟨rfl,HM4.out.six (fun e=>HM.out.Ab (by omega) (HN.out _ e)) _ _ _ _ _ _,gx HT4.out (by omega) _ _ _ _ _ _⟩
end Go.Proofs.YtfnkmolffhfpoaaGreat
