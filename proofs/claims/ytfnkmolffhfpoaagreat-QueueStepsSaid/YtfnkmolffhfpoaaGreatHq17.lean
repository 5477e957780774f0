/- -/
import Derived.Test.YtfnkmolffhfpoaaGreatHq16
import Derived.Ground.Names2Prog
import Derived.Shelf.Slices.SearchI
import Derived.Shelf.Slices.Empties
import Derived.Test.YtfnkmolffhfpoaaGreatProg
import Derived.Shelf.Spec.SlicesInsert
import Derived.Shelf.Spec.SlicesInsertGrow
set_option linter.unusedVariables false
set_option linter.unusedSimpArgs false
namespace Go.Proofs.YtfnkmolffhfpoaaGreat
open Go.RowKit Go.BigFrame
def Nz(W:World)(b o:Nat)(l:Nat->Int):Prop:=∀r,r<8->W.cell? ⟨b,o+r,none⟩=some (.int .u64 (l r))
theorem Nz.cells{W:World}{b o:Nat}{l:Nat->Int}(h:Nz W b o l):W.cell? ⟨b,o,none⟩=some (.int .u64 (l 0))/\W.cell? ⟨b,o+1,none⟩=some (.int .u64 (l 1))/\W.cell? ⟨b,o+2,none⟩=some (.int .u64 (l 2))/\W.cell? ⟨b,o+3,none⟩=some (.int .u64 (l 3))/\
  W.cell? ⟨b,o+4,none⟩=some (.int .u64 (l 4))/\W.cell? ⟨b,o+5,none⟩=some (.int .u64 (l 5))/\W.cell? ⟨b,o+6,none⟩=some (.int .u64 (l 6))/\W.cell? ⟨b,o+7,none⟩=some (.int .u64 (l 7)):=
 ⟨h 0 (by omega),h 1 (by omega),h 2 (by omega),h 3 (by omega),h 4 (by omega),h 5 (by omega),h 6 (by omega),h 7 (by omega)⟩
def Ny(w:World)(b o:Nat)(l:Nat->Int):World:=
 (((((((w.setCell ⟨b,o,none⟩ (.int .u64 (l 0))).setCell ⟨b,o+1,none⟩ (.int .u64 (l 1))).setCell ⟨b,o+2,none⟩ (.int .u64 (l 2))).setCell ⟨b,o+3,none⟩ (.int .u64 (l 3))).setCell ⟨b,o+4,none⟩ (.int .u64 (l 4))).setCell ⟨b,o+5,none⟩ (.int .u64 (l 5))).setCell ⟨b,o+6,none⟩ (.int .u64 (l 6))).setCell ⟨b,o+7,none⟩ (.int .u64 (l 7))
theorem ko{w:World}{b o g:Nat}{l:Nat->Int}(h:g≠b):(Ny w b o l).heap[g]?=w.heap[g]?:=by
 unfold Ny;rw [aa h,aa h,aa h,aa h,aa h,aa h,aa h,aa h]
def tai(w w1:World):Prop:=w1.heap=w.heap/\Below w.heap.size w w1
set_option maxRecDepth 100000 in
set_option maxHeartbeats 1000000 in
theorem s8(d kb sb wb:Nat)(n ck cs cw:Nat)(hn:n<=262144)(i:Nat)(hi:i<n)(lk ls:Nat->Int)(c:Int)(c0:0<=c)(c1:c<=1000000)(w:World)
  (h0:w.cell? ⟨d,0,none⟩=some (.slice (some ⟨kb,0,none⟩) n ck))(h1:w.cell? ⟨d,1,none⟩=some (.slice (some ⟨sb,0,none⟩) n cs))(h2:w.cell? ⟨d,2,none⟩=some (.slice (some ⟨wb,0,none⟩) n cw))
  (hk:Nz w kb (i*8) lk)(hs:Nz w sb (i*8) ls)(hw:w.cell? ⟨wb,i,none⟩=some (.int .i64 c))(fk:∀j,w.frozen? ⟨kb,j,none⟩=false)(fw:∀j,w.frozen? ⟨wb,j,none⟩=false)(e1:kb≠d)(e2:wb≠kb)(e3:wb≠d)(e4:sb≠kb):
  Calls Tryz.prog 174 #[.pointer (some ⟨d,0,none⟩), .int .i64 i] w fun e w'=>(∃x,e= .returned x)/\∃w1,tai (Ny w kb (i*8) ls) w1/\w'=w1.setCell ⟨wb,i,none⟩ (.int .i64 (c+1)):=by
 obtain ⟨k0,k1,k2,k3,k4,k5,k6,k7⟩:=hk.cells;obtain ⟨s0,s1,s2,s3,s4,s5,s6,s7⟩:=hs.cells;have f1:(0:Int)<=(i:Int):=by omega
 have f2:(i:Int)<(n:Int):=by omega
 clear hk hs
 go_enter Tryz.func174,Tryz.ntmps174
 go_wp2_with fail
 go_region
 obtain ⟨W,hW⟩:∃W,W=Ny w kb (i*8) ls:=⟨_,rfl⟩;have g2:W.cell? ⟨d,2,none⟩=some (.slice (some ⟨wb,0,none⟩) n cw):=by rw [hW];exact (cell_of_heap (ko (Ne.symm e1)) 2).trans h2
 have gw:W.cell? ⟨wb,i,none⟩=some (.int .i64 c):=by rw [hW];exact (cell_of_heap (ko e2) i).trans hw
 have gf:W.frozen? ⟨wb,i,none⟩=false:=by rw [hW];exact (frozen_of_heap (ko e2) i).trans (fw i)
 have HW:=Lib.hid hW;simp only [Ny]at hW;rw [<-hW];clear hW k0 k1 k2 k3 k4 k5 k6 k7 s0 s1 s2 s3 s4 s5 s6 s7 h0 h1 h2 hw fk fw
 go_wp2_with fail
 go_end0
 exact ⟨⟨_,rfl⟩,W.drew,⟨show W.heap=_ from congrArg World.heap HW.out,by rw [<-HW.out];exact ⟨rfl,rfl,rfl,Nat.le_refl _,fun _ _=>rfl⟩⟩,rfl⟩
theorem ya{P:Program}{f:FuncId}{fn:Func}{c:Code}(hf:P.funcs[f]?=some fn)(uai:(fn.name== "runtime.NumGoroutine")=false)(hb:fn.body=some c)(args:Array Value)(w:World):
  (callFunc f args).run P w= .ok (.enter f args) w:=by
 have h1:fn.name≠ "runtime.NumGoroutine" :=by simpa using uai
 simp [callFunc,hf,h1,hb]
def Mc{α:Type}(f:Nat->α)(j:Nat)(v:α):Nat->α:=fun k=>if k=j then v else f k
theorem Pb{α:Type}(f:Nat->α)(j:Nat)(v:α):Mc f j v j=v:=by simp [Mc]
theorem Gb{α:Type}(f:Nat->α){j k:Nat}(v:α)(h:k≠j):Mc f j v k=f k:=by simp [Mc,h]
theorem aj{α β:Type}(g:α->β)(f:Nat->α)(j:Nat)(v:α):(fun k=>g (Mc f j v k))=Mc (fun k=>g (f k)) j (g v):=by
 funext k;unfold Mc;split<;>rfl
def Za(W:World)(b n:Nat)(f:Nat->Value):Prop:=∃c t,W.heap[b]?=some (.cells c t (0,0))/\∀k,k<n->c[k]?=some (f k)
theorem Za.lt{W:World}{b n:Nat}{f:Nat->Value}(h:Za W b n f):b<W.heap.size:=by
 obtain ⟨c,t,h1,_⟩:=h;exact (Array.getElem?_eq_some_iff.1 h1).1
theorem Za.cell{W:World}{b n:Nat}{f:Nat->Value}(h:Za W b n f){k:Nat}(hk:k<n):W.cell? ⟨b,k,none⟩=some (f k):=by
 obtain ⟨c,t,h1,h2⟩:=h;rw [cell_of_row _ _ k _ _ _ h1];exact h2 k hk
theorem Za.free{W:World}{b n:Nat}{f:Nat->Value}(h:Za W b n f)(j:Nat):W.frozen? ⟨b,j,none⟩=false:=by
 obtain ⟨c,t,h1,h2⟩:=h;unfold World.frozen?;rw [h1];simp
theorem Za.keep{W W':World}{b n:Nat}{f:Nat->Value}(h:Za W b n f)(e:W'.heap[b]?=W.heap[b]?):Za W' b n f:=by
 obtain ⟨c,t,h1,h2⟩:=h;exact ⟨c,t,e.trans h1,h2⟩
theorem Za.set{W:World}{b n:Nat}{f:Nat->Value}(h:Za W b n f)(j:Nat)(v:Value):Za (W.setCell ⟨b,j,none⟩ v) b n (Mc f j v):=by
 obtain ⟨c,t,h1,h2⟩:=h;refine ⟨_,t,heap_set v h1,fun k hk=> ?_⟩;rw [Array.getElem?_setIfInBounds];have dM:k<c.size:=(Array.getElem?_eq_some_iff.1 (h2 k hk)).1
 by_cases e:k=j
 . subst e;simp [Mc,dM]
 . rw [if_neg (Ne.symm e),Gb _ _ e];exact h2 k hk
theorem Za.congr{W:World}{b n:Nat}{f g:Nat->Value}(h:Za W b n f)(e:∀k,k<n->f k=g k):Za W b n g:=by
 obtain ⟨c,t,h1,h2⟩:=h;exact ⟨c,t,h1,fun k hk=>by rw [<-e k hk];exact h2 k hk⟩
structure Ba(F:Nat->Prop)(w w':World):Prop where
 os:w'.os=w.os
 tape:w'.tape=w.tape
 output:w'.output=w.output
 size:w.heap.size<=w'.heap.size
 block:∀k,k<w.heap.size->¬F k->w'.heap[k]?=w.heap[k]?
theorem Ba.refl(F:Nat->Prop)(w:World):Ba F w w:=⟨rfl,rfl,rfl,Nat.le_refl _,fun _ _ _=>rfl⟩
theorem Ba.trans{F G:Nat->Prop}{x y z:World}(h:Ba F x y)(k:Ba G y z)(hs:∀i,i<x.heap.size->G i->F i):Ba F x z:=
 ⟨k.os.trans h.os,k.tape.trans h.tape,k.output.trans h.output,Nat.le_trans h.size k.size,fun i hi h1=>(k.block i (Nat.lt_of_lt_of_le hi h.size) (fun g=>h1 (hs i hi g))).trans (h.block i hi h1)⟩
theorem Ba.mono{F G:Nat->Prop}{x y:World}(h:Ba F x y)(hs:∀i,i<x.heap.size->F i->G i):Ba G x y:=
 ⟨h.os,h.tape,h.output,h.size,fun i hi h1=>h.block i hi fun f=>h1 (hs i hi f)⟩
theorem Ba.Sb{F:Nat->Prop}{w w':World}(h:Below w.heap.size w w'):Ba F w w':=⟨h.os,h.tape,h.output,h.size,fun k hk _=>h.block k hk⟩
theorem Ba.OP{F:Nat->Prop}{p:Nat}{w w':World}(h:Fu p w w')(hp:p<w.heap.size->F p):Ba F w w':=
 ⟨h.os,h.tape,h.output,h.size,fun k hk hf=>h.block k hk fun e=>hf (by rw [e];rw [e]at hk;exact hp hk)⟩
theorem Ba.alloc{F:Nat->Prop}{a w:World}(h:Ba F a w)(o:Obj):Ba F a (w.alloc o):=
 ⟨h.os,h.tape,h.output,Nat.le_trans h.size (by simp),fun k hk hb=>by rw [Below.heap_alloc _ _ _ (Nat.lt_of_lt_of_le hk h.size)];exact h.block k hk hb⟩
theorem Ba.set{F:Nat->Prop}{a w:World}(h:Ba F a w){b:Nat}(hb:b<a.heap.size->F b)(j:Nat)(v:Value):Ba F a (w.setCell ⟨b,j,none⟩ v):=
 ⟨h.os,h.tape,h.output,by simpa [World.setCell]using h.size,fun k hk hf=>by rw [aa (fun e=>hf (by rw [e];rw [e]at hk;exact hb hk))];exact h.block k hk hf⟩
theorem Ba.below{F:Nat->Prop}{B:Nat}{w w':World}(h:Ba F w w')(hB:B<=w.heap.size)(hf:∀k,k<B->¬F k):Below B w w':=
 ⟨h.os,h.tape,h.output,h.size,fun k hk=>h.block k (by omega) (hf k hk)⟩
def Of(W:World)(v:Value)(l:List Int):Prop:=
 v= .slice none 0 0/\l=[]\/
 ∃g cap c,v= .slice (some ⟨g,0,none⟩) l.length cap/\W.heap[g]?=some (.cells c 3 (0,0))/\l.length<=cap/\cap<=9223372036854775807/\cap<=c.size/\0<c.size/\∀k,k<l.length->c[k]?=some (.int .i64 (l.getD k 0))
theorem Of.keep{W W':World}{v:Value}{l:List Int}(h:Of W v l)(e:∀g,v.ownBlock=some g->W'.heap[g]?=W.heap[g]?):Of W' v l:=by
 rcases h with h|⟨g,cap,c,rfl,h1,h2⟩
 . exact Or.inl h
 . exact Or.inr ⟨g,cap,c,rfl,(e g rfl).trans h1,h2⟩
theorem Of.lt{W:World}{v:Value}{l:List Int}(h:Of W v l){g:Nat}(e:v.ownBlock=some g):g<W.heap.size:=by
 rcases h with⟨rfl,_⟩|⟨g',cap,c,rfl,h1,h2⟩
 . cases e
 . cases e;exact (Array.getElem?_eq_some_iff.1 h1).1
structure Mv where
 m:Nat
 d:Nat
 kb:Nat
 sb:Nat
 wb:Nat
 fb:Nat
 pb:Nat
 n:Nat
 nt:Nat
 np:Nat
 c0:Nat
 c1:Nat
 c2:Nat
 c3:Nat
 c4:Nat
 kept:Nat->Int
 seen:Nat->Int
 pass:Nat->Int
 wr:Nat->Int
 fl:Nat->List Int
 fv:Nat->Value
 ck:Int
 bd:Int
 la:Acc
 wm:Int
def Mv.blocks(M:Mv):List Nat:=[M.m,M.d,M.kb,M.sb,M.wb,M.fb,M.pb]
def Mv.own(M:Mv)(k:Nat):Prop:=k∈M.blocks\/∃t,t<M.nt/\(M.fv t).ownBlock=some k
structure za(W:World)(M:Mv):Prop where
 row:pk W M.m (.pointer (some ⟨M.d,0,none⟩)) (.slice (some ⟨M.pb,0,none⟩) M.np M.c4) M.ck M.bd M.la
 dev:W.heap[M.d]?=some (.cells #[.slice (some ⟨M.kb,0,none⟩) M.n M.c0, .slice (some ⟨M.sb,0,none⟩) M.n M.c1, .slice (some ⟨M.wb,0,none⟩) M.n M.c2, .slice (some ⟨M.fb,0,none⟩) M.nt M.c3] 188 (0,0))
 kept:Za W M.kb (8*M.n) fun k=> .int .u64 (M.kept k)
 seen:Za W M.sb (8*M.n) fun k=> .int .u64 (M.seen k)
 wr:Za W M.wb M.n fun k=> .int .i64 (M.wr k)
 fb:Za W M.fb M.nt M.fv
 pass:Za W M.pb M.np fun k=> .int .u64 (M.pass k)
 fl:∀t,t<M.nt->Of W (M.fv t) (M.fl t)
 apart:M.blocks.Nodup
 alone:∀t,t<M.nt->∀g,(M.fv t).ownBlock=some g->g∉M.blocks
 lone:∀t,t<M.nt->∀t',t'<M.nt->t≠t'->∀g,(M.fv t).ownBlock=some g->(M.fv t').ownBlock≠some g
 n0:0<M.n
 n1:M.n<=262144
 t1:M.nt<=64
 p1:M.np<=262144
 qH:∀t,t<M.nt->(M.fl t).Pairwise (·<·)
 inn:∀t,t<M.nt->∀x∈M.fl t,0<=x/\x<M.n
 Cm:0<=M.ck
 Oy:0<=M.bd
 ju:M.bd<=M.ck
 Oz:∀k,k<M.n->0<=M.wr k/\M.wr k<=M.wm
theorem za.lt{W:World}{M:Mv}(h:za W M){k:Nat}(hk:M.own k):k<W.heap.size:=by
 rcases hk with hk|⟨t,ht,e⟩
 . simp only [Mv.blocks,List.mem_cons,List.not_mem_nil,or_false]at hk;rcases hk with rfl|rfl|rfl|rfl|rfl|rfl|rfl
   . exact (Array.getElem?_eq_some_iff.1 h.row).1
   . exact (Array.getElem?_eq_some_iff.1 h.dev).1
   . exact h.kept.lt
   . exact h.seen.lt
   . exact h.wr.lt
   . exact h.fb.lt
   . exact h.pass.lt
 . exact (h.fl t ht).lt e
theorem za.keep{W W':World}{M:Mv}(h:za W M)(e:∀k,M.own k->W'.heap[k]?=W.heap[k]?):za W' M:=by
 have o:∀k,k∈M.blocks->W'.heap[k]?=W.heap[k]?:=fun k hk=>e k (Or.inl hk)
 exact {h with
  row:=(o _ (by simp [Mv.blocks])).trans h.row
  dev:=(o _ (by simp [Mv.blocks])).trans h.dev
  kept:=h.kept.keep (o _ (by simp [Mv.blocks]))
  seen:=h.seen.keep (o _ (by simp [Mv.blocks]))
  wr:=h.wr.keep (o _ (by simp [Mv.blocks]))
  fb:=h.fb.keep (o _ (by simp [Mv.blocks]))
  pass:=h.pass.keep (o _ (by simp [Mv.blocks]))
  fl:=fun t ht=>(h.fl t ht).keep fun g hg=>e g (Or.inr ⟨t,ht,hg⟩)}
theorem za.v8{W W':World}{M:Mv}{F:Nat->Prop}(h:za W M)(t:Ba F W W')(hd:∀k,M.own k->¬F k):za W' M:=
 h.keep fun k hk=>t.block k (h.lt hk) (hd k hk)
theorem za.below{W W':World}{M:Mv}(h:za W M)(t:Below W.heap.size W W'):za W' M:=
 h.keep fun k hk=>t.block k (h.lt hk)
end Go.Proofs.YtfnkmolffhfpoaaGreat
namespace Go.Proofs
open Go.Shelf
def Tryz.Py:Go.Shelf.Ren:=⟨fun|25=>296|31=>310|32=>311|37=>325|n=>n,fun|22=>145|3=>3|4=>4|40=>317|0=>0|n=>n,fun|n=>n⟩
theorem Tryz.Pz:Go.Proofs.Lays2.n25 Tryz.prog Tryz.Py:={
 mixed:=by kernel_rfl
 f25:=Tryz.func296.trans (congrArg some (by kernel_rfl))
 f31:=Tryz.func310.trans (congrArg some (by kernel_rfl))
 f32:=Tryz.func311.trans (congrArg some (by kernel_rfl))
 f37:=Tryz.func325.trans (congrArg some (by kernel_rfl))
 t0:=Tryz.underlying0
 a0:=Tryz.isAgg0
 z0:=Tryz.sizeOf0
 v0:=Tryz.zeroValue0
 t3:=Tryz.underlying3
 a3:=Tryz.isAgg3
 z3:=Tryz.sizeOf3
 v3:=Tryz.zeroValue3
 t4:=Tryz.underlying4
 a4:=Tryz.isAgg4
 z4:=Tryz.sizeOf4
 v4:=Tryz.zeroValue4
 t22:=Tryz.underlying145
 a22:=Tryz.isAgg145
 z22:=Tryz.sizeOf145
 v22:=Tryz.zeroValue145
 t40:=Tryz.underlying317
 a40:=Tryz.isAgg317
 z40:=Tryz.sizeOf317
 v40:=Tryz.zeroValue317}
open Go.RowKit Go.Lib in
theorem Tryz.slices_BinarySearch_int(b off n c:Nat)(zs:List Int)(x:Int)(w:World)(hz:n<=zs.length)(S6:n<4611686018427387904)(hc:∀j,j<zs.length->w.cell? ⟨b,off+j,none⟩=some (.int .i64 (zs.getD j 0)))(hs:(zs.take n).Pairwise (·<=·)):
 Calls Tryz.prog 296 #[.slice (some ⟨b,off,none⟩) n c, .int .i64 x] w fun e w'=>e= .returned (.tuple #[.int .i64 ((zs.take n).countP (·<x):Nat), .bool ((zs.take n).contains x)])/\∃q,w'=w.drewN q:=Any.slices_BinarySearch_int Tryz.Pz b off n c zs x w hz S6 hc hs
open Go.RowKit Go.Lib in
theorem Tryz.slices_BinarySearch_int_empty(a:Option Addr)(c:Nat)(x:Int)(w:World):
 Calls Tryz.prog 296 #[.slice a 0 c, .int .i64 x] w fun e w'=>e= .returned (.tuple #[.int .i64 0, .bool false])/\w'=w:=Any.slices_BinarySearch_int_empty Tryz.Pz a c x w
def Tryz.Zm:Go.Shelf.Ren:=⟨fun|21=>297|27=>312|28=>313|35=>326|39=>337|n=>n,fun|22=>145|3=>3|4=>4|0=>0|n=>n,fun|n=>n⟩
theorem Tryz.Hu:Go.Proofs.Lays2.n21 Tryz.prog Tryz.Zm:={
 mixed:=by kernel_rfl
 f21:=Tryz.func297.trans (congrArg some (by kernel_rfl))
 f27:=Tryz.func312.trans (congrArg some (by kernel_rfl))
 f28:=Tryz.func313.trans (congrArg some (by kernel_rfl))
 f35:=Tryz.func326.trans (congrArg some (by kernel_rfl))
 f39:=Tryz.func337.trans (congrArg some (by kernel_rfl))
 t0:=Tryz.underlying0
 a0:=Tryz.isAgg0
 z0:=Tryz.sizeOf0
 v0:=Tryz.zeroValue0
 t3:=Tryz.underlying3
 a3:=Tryz.isAgg3
 z3:=Tryz.sizeOf3
 v3:=Tryz.zeroValue3
 t4:=Tryz.underlying4
 a4:=Tryz.isAgg4
 z4:=Tryz.sizeOf4
 v4:=Tryz.zeroValue4
 t22:=Tryz.underlying145
 a22:=Tryz.isAgg145
 z22:=Tryz.sizeOf145
 v22:=Tryz.zeroValue145
 i3:=by kernel_rfl}
end Go.Proofs
namespace Go.Proofs.YtfnkmolffhfpoaaGreat
open Go.RowKit Go.BigFrame
def Mh(l:List Int)(i:Nat)(x:Int):List Int:=l.take i++x::l.drop i
theorem Zd{l:List Int}{i:Nat}(h:i<=l.length)(x:Int):(Mh l i x).length=l.length+1:=by
 simp [Mh];omega
theorem mo{l:List Int}{i:Nat}(h:i<=l.length)(x:Int)(k:Nat):(Mh l i x).getD k 0=if k<i then l.getD k 0 else if k=i then x else l.getD (k -1) 0:=by
 unfold Mh;rw [List.getD_eq_getElem?_getD,List.getElem?_append];have hl:(l.take i).length=i:=by simp;omega
 rw [hl];by_cases h1:k<i
 . rw [if_pos h1,if_pos h1,List.getElem?_take,if_pos h1,List.getD_eq_getElem?_getD]
 . rw [if_neg h1,if_neg h1];by_cases h2:k=i
   . subst h2;simp
   . rw [if_neg h2];obtain ⟨j,hj⟩:∃j,k -i=j+1:=⟨k -i -1,by omega⟩;rw [hj,List.getElem?_cons_succ,List.getElem?_drop,List.getD_eq_getElem?_getD,show i+j=k -1 by omega]
theorem Xe(b:Nat):∀(vs:List Value) (o:Nat) (w:World) (c:Array Value) (t:TypeId) (f:Nat×Nat),w.heap[b]?=some (.cells c t f)->∃c',(w.setCells b o vs).heap[b]?=some (.cells c' t f)/\c'.size=c.size
 |[],_,_,c,_,_,h=>⟨c,h,rfl⟩
 |v::r,o,w,c,t,f,h=>by
  obtain ⟨c',h1,h2⟩:=Xe b r (o+1) _ _ t f (heap_set (j:=o) v h);exact ⟨c',h1,h2.trans (by simp)⟩
theorem Ba.setCells{F:Nat->Prop}{a:World}{b:Nat}(hb:b<a.heap.size->F b):∀(vs:List Value) (o:Nat) (w:World),Ba F a w->Ba F a (w.setCells b o vs)
 |[],_,_,h=>h
 |v::r,o,w,h=>Ba.setCells hb r (o+1) _ (h.set hb o v)
theorem Ba.drew{F:Nat->Prop}{a w:World}(h:Ba F a w):Ba F a w.drew:=⟨h.os,h.tape,h.output,h.size,h.block⟩
theorem Oa{w:World}{b j:Nat}{c:Array Value}{t:TypeId}{f:Nat×Nat}(h:w.heap[b]?=some (.cells c t f)):w.cell? ⟨b,j,none⟩=c[j]?:=cell_of_row _ _ j _ _ _ h
def GJ(v:Value)(l:List Int)(W:World)(e:Ending)(W':World):Prop:=
 ∃v',e= .returned v'/\Of W' v' l/\Ba (fun k=>v.ownBlock=some k) W W'/\∀g,v'.ownBlock=some g->v.ownBlock=some g\/W.heap.size<=g
theorem Cw(l:List Int)(j:Nat)(v:Value)(h:(l.map (Value.int .i64))[j]?=some v):j<l.length/\v= .int .i64 (l.getD j 0):=by
 rw [List.getElem?_map]at h;cases hj:l[j]?with
 |none=>rw [hj]at h;cases h
 |some y=>
  rw [hj]at h;cases h;exact ⟨(List.getElem?_eq_some_iff.1 hj).1,by rw [List.getD_eq_getElem?_getD,hj];rfl⟩
theorem qo(l:List Int)(j:Nat)(h:j<l.length):(l.map (Value.int .i64))[j]?=some (.int .i64 (l.getD j 0)):=by
 rw [List.getElem?_map,List.getD_eq_getElem?_getD,List.getElem?_eq_getElem h];rfl
theorem wE(l:List Int):∀v∈l.map (Value.int .i64),v.oneCell'=true:=by
 intro v hv;obtain ⟨x,_,rfl⟩:=List.mem_map.1 hv
 rfl
theorem Dw(v:Value)(l:List Int)(i:Nat)(hi:i<=l.length)(x:Int)(vb:Nat)(W:World)(hl:l.length<=1000000)(a:Option Addr)(cap:Nat)(V6:v= .slice a l.length cap)(Dv:l.length<=cap)(vg:cap<l.length+1)
  (ha:a=none/\l=[]\/∃g,a=some ⟨g,0,none⟩/\∀j,j<l.length->W.cell? ⟨g,j,none⟩=some (.int .i64 (l.getD j 0)))
  (hv:W.cell? ⟨vb,0,none⟩=some (.int .i64 x)):
  Calls Tryz.prog 297 #[v, .int .i64 i, .slice (some ⟨vb,0,none⟩) 1 1] W (GJ v (Mh l i x) W):=by
 subst V6;have mJ:∀j u,[Value.int .i64 x][j]?=some u->W.cell? ⟨vb,0+j,none⟩=some u:=by
  intro j u hj;cases j with
  |zero=>simp at hj;subst hj;exact hv
  |succ j=>simp at hj
 have KO:∀u∈[Value.int .i64 x],u.oneCell'=true:=by simp [Value.oneCell']
 by_cases Gm:i=l.length
 . subst Gm;refine (Any2.slices_Insert_int_end_grow Tryz.Hu a l.length cap vb 0 1 1 (l.map (Value.int .i64)) [.int .i64 x] W (by omega) Dv vg (by omega) (by simp) rfl (fun e=>by rcases ha with⟨_,rfl⟩|⟨g,rfl,_⟩;rfl;cases e) ?_ mJ KO).mono ?_
   . intro b hb j u hj;obtain ⟨h1,rfl⟩:=Cw _ _ _ hj;rcases ha with⟨rfl,_⟩|⟨g,rfl,hc⟩
     . cases hb
     . cases hb;have:=hc j h1;rw [Addr.add_lit,Nat.zero_add];exact this
   . rintro e W' ⟨rfl,rfl⟩;have hg:=grownCap_ge W (l.length+1) cap 3;have Hr:=grownCap_le_maxLen W (l.length+1) cap 3 (by unfold maxLen;omega);unfold maxLen at Hr;obtain ⟨C,hC⟩:∃C,C=grownCap W (l.length+1) cap 3:=⟨_,rfl⟩;have e3:Tryz.Zm.t 3=3:=rfl;rw [e3,<-hC];rw [<-hC]at hg Hr;refine ⟨_,rfl,Or.inr ⟨W.heap.size,C,_, ?_,heap_alloc_new W.drew _, ?_,Hr, ?_, ?_, ?_⟩, ?_, ?_⟩
     . rw [Zd (Nat.le_refl _)]
     . rw [Zd (Nat.le_refl _)];exact hg
     . simp [size_zeroCells,Value.cells];omega
     . simp [size_zeroCells,Value.cells];omega
     . intro k hk;rw [Zd (Nat.le_refl _)]at hk;rw [mo (Nat.le_refl _)];rw [Array.getElem?_append_left (by simp;omega)];simp only [List.getElem?_toArray];rw [List.getElem?_append];by_cases h1:k<l.length
       . rw [if_pos (by simpa using h1),if_pos h1];exact qo _ _ h1
       . have:k=l.length:=by omega
         subst this;simp
     . exact (Ba.refl _ W).drew.alloc _
     . intro g Ht;cases Ht;exact Or.inr (Nat.le_refl _)
 . rcases ha with⟨_,rfl⟩|⟨g,rfl,hc⟩
   . simp at hi Gm;omega
   refine (Any2.slices_Insert_int_grow Tryz.Hu g 0 l.length cap i vb 0 1 1 (l.map (Value.int .i64)) [.int .i64 x] W (by omega) (by omega) Dv vg (by omega) (by simp) rfl ?_ mJ (wE l) KO).mono ?_
   . intro j u hj;obtain ⟨h1,rfl⟩:=Cw _ _ _ hj;rw [Nat.zero_add];exact hc j h1
   . rintro e W' ⟨rfl,rfl⟩;have hg:=grownCap_ge W (l.length+1) cap 3;have Hr:=grownCap_le_maxLen W (l.length+1) cap 3 (by unfold maxLen;omega);unfold maxLen at Hr;obtain ⟨C,hC⟩:∃C,C=grownCap W (l.length+1) cap 3:=⟨_,rfl⟩;have e3:Tryz.Zm.t 3=3:=rfl;rw [e3,<-hC];rw [<-hC]at hg Hr;obtain ⟨c0,mU⟩:∃c0,c0=(((l.map (Value.int .i64)).take i).toArray++Builtin.zeroCells (Value.int .i64 0).cells (l.length+1 -i)++Builtin.zeroCells (Value.int .i64 0).cells (C -(l.length+1))):=⟨_,rfl⟩;rw [<-mU];have s0:c0.size=C:=by rw [mU];simp [size_zeroCells,Value.cells];omega
     have g0:∀k,k<i->c0[k]?=some (.int .i64 (l.getD k 0)):=by
      intro k hk;rw [mU,Array.getElem?_append_left (by simp [size_zeroCells];omega),Array.getElem?_append_left (by simp;omega)];simp only [List.getElem?_toArray];rw [List.getElem?_take,if_pos hk];exact qo _ _ (by omega)
     clear mU;have h0:(W.alloc (.cells c0 3)).heap[W.heap.size]?=some (.cells c0 3 (0,0)):=heap_alloc_new W _
     obtain ⟨c1,h1,s1⟩:=Xe W.heap.size [.int .i64 x] i (W.alloc (.cells c0 3)).drew c0 3 (0,0) h0
     obtain ⟨c2,h2,s2⟩:=Xe W.heap.size ((l.map (Value.int .i64)).drop i) (i+1) (((W.alloc (.cells c0 3)).drew.setCells W.heap.size i [.int .i64 x]).drew) c1 3 (0,0) h1;have r0:∀j,j<C->((W.alloc (.cells c0 3)).drew.cell? ⟨W.heap.size,j,none⟩).isSome=true:=fun j hj=>by
      rw [Oa (w:=(W.alloc (.cells c0 3)).drew) h0,Array.getElem?_eq_getElem (by omega)];rfl
     have r1:∀j,j<C->((((W.alloc (.cells c0 3)).drew.setCells W.heap.size i [.int .i64 x]).drew).cell? ⟨W.heap.size,j,none⟩).isSome=true:=fun j hj=>by
      rw [Oa (w:=((W.alloc (.cells c0 3)).drew.setCells W.heap.size i [.int .i64 x]).drew) h1,Array.getElem?_eq_getElem (by omega)];rfl
     refine ⟨_,rfl,Or.inr ⟨W.heap.size,C,c2, ?_,h2, ?_,Hr,by omega,by omega, ?_⟩, ?_, ?_⟩
     . rw [Zd hi]
     . rw [Zd hi];exact hg
     . intro k hk;rw [Zd hi]at hk;rw [mo hi,<-Oa h2];by_cases k1:k<i
       . rw [if_pos k1,World.cell?_setCells_out _ _ _ _ _ (fun _ _=>Or.inl (by show k<i+1;omega))]
         show(((W.alloc (.cells c0 3)).drew.setCells W.heap.size i [.int .i64 x]).cell? ⟨W.heap.size,k,none⟩)=_
         rw [World.cell?_setCells_out _ _ _ _ _ (fun _ _=>Or.inl (by show k<i;omega))];rw [Oa (w:=(W.alloc (.cells c0 3)).drew) h0];exact g0 k k1
       . rw [if_neg k1];by_cases k2:k=i
         . subst k2;rw [if_pos rfl,World.cell?_setCells_out _ _ _ _ _ (fun _ _=>Or.inl (by show k<k+1;omega))]
           show(((W.alloc (.cells c0 3)).drew.setCells W.heap.size k [.int .i64 x]).cell? ⟨W.heap.size,k,none⟩)=_
           have:=World.cell?_setCells_in W.heap.size [.int .i64 x] k (W.alloc (.cells c0 3)).drew (fun j hj=>r0 _ (by simp at hj;omega)) 0 (by simp)
           simpa using this
         . rw [if_neg k2];have hd:((l.map (Value.int .i64)).drop i).length=l.length -i:=by simp
           have:=World.cell?_setCells_in W.heap.size ((l.map (Value.int .i64)).drop i) (i+1) (((W.alloc (.cells c0 3)).drew.setCells W.heap.size i [.int .i64 x]).drew) (fun j hj=>r1 _ (by omega)) (k -(i+1)) (by omega);rw [show i+1+(k -(i+1))=k by omega]at this;rw [this];have e1:((l.map (Value.int .i64)).drop i)[k -(i+1)]?=some (.int .i64 (l.getD (k -1) 0)):=by
            rw [List.getElem?_drop,show i+(k -(i+1))=k -1 by omega];exact qo _ _ (by omega)
           rw [<-e1,List.getElem?_eq_getElem]
     . exact Ba.setCells (fun e=>absurd e (by omega)) _ _ _ (Ba.setCells (fun e=>absurd e (by omega)) _ _ _ ((Ba.refl _ W).alloc _).drew).drew
     . intro g Ht;cases Ht;exact Or.inr (Nat.le_refl _)
theorem rH(g cap:Nat)(c:Array Value)(l:List Int)(i:Nat)(hi:i<=l.length)(x:Int)(vb:Nat)(W:World)(hl:l.length<=1000000)(h:W.heap[g]?=some (.cells c 3 (0,0)))(vg:l.length+1<=cap)(xV:cap<=9223372036854775807)(Ev:cap<=c.size)(hc:∀k,k<l.length->c[k]?=some (.int .i64 (l.getD k 0)))
  (hv:W.heap[vb]?=some (.cells #[.int .i64 x] 3 (0,0)))(bc:vb≠g):
  Calls Tryz.prog 297 #[.slice (some ⟨g,0,none⟩) l.length cap, .int .i64 i, .slice (some ⟨vb,0,none⟩) 1 1] W (GJ (.slice (some ⟨g,0,none⟩) l.length cap) (Mh l i x) W):=by
 have mJ:∀j u,[Value.int .i64 x][j]?=some u->W.cell? ⟨vb,0+j,none⟩=some u:=by
  intro j u hj;cases j with
  |zero=>simp at hj;subst hj;rw [Oa hv];rfl
  |succ j=>simp at hj
 have KO:∀u∈[Value.int .i64 x],u.oneCell'=true:=by simp [Value.oneCell']
 have hfz:∀b (c:Array Value) (t:TypeId),W.heap[b]?=some (.cells c t (0,0))->∀j,W.frozen? ⟨b,j,none⟩=false:=fun b c t h j=>by unfold World.frozen?;rw [h];simp
 have r0:∀j,j<cap->(W.cell? ⟨g,j,none⟩).isSome=true:=fun j hj=>by
  rw [Oa h,Array.getElem?_eq_getElem (by omega)];rfl
 by_cases Gm:i=l.length
 . subst Gm;refine (Any2.slices_Insert_int_end_room Tryz.Hu g 0 l.length cap vb 0 1 1 [.int .i64 x] W (by omega) vg xV rfl (fun j hj=>by rw [show 0+l.length+j=l.length+j by omega];exact r0 _ (by omega)) (fun j hj=>hfz _ _ _ h _) mJ KO).mono ?_
   rintro e W' ⟨rfl,rfl⟩;rw [Nat.zero_add];obtain ⟨c1,h1,s1⟩:=Xe g [.int .i64 x] l.length W c 3 (0,0) h;refine ⟨_,rfl,Or.inr ⟨g,cap,c1, ?_,h1, ?_,xV,by omega,by omega, ?_⟩, ?_,fun g' Ht=>by cases Ht;exact Or.inl rfl⟩
   . rw [Zd (Nat.le_refl _)]
   . rw [Zd (Nat.le_refl _)];exact vg
   . intro k hk;rw [Zd (Nat.le_refl _)]at hk;rw [mo (Nat.le_refl _),<-Oa h1];by_cases k1:k<l.length
     . rw [if_pos k1,World.cell?_setCells_out _ _ _ _ _ (fun _ _=>Or.inl (by show k<l.length;omega)),Oa h];exact hc k k1
     . obtain rfl:k=l.length:=by omega
       rw [if_neg k1,if_pos rfl];have:=World.cell?_setCells_in g [.int .i64 x] l.length W (fun j hj=>r0 _ (by simp at hj;omega)) 0 (by simp)
       simpa using this
   . exact Ba.setCells (F:=fun k=>(Value.slice (some ⟨g,0,none⟩) l.length cap).ownBlock=some k) (fun _=>rfl) _ _ _ (Ba.refl _ W)
 . have hsa:W.shape? vb=some (3,1):=by unfold World.shape?;rw [hv];rfl
   have VU:W.shape? g=some (3,c.size):=by unfold World.shape?;rw [h]
   refine (Any2.slices_Insert_int_shift Tryz.Hu g 0 l.length cap i vb 0 1 1 (l.map (Value.int .i64)) [.int .i64 x] W (by omega) (by omega) vg xV bc (by simp) rfl ?_ (fun j hj=>by rw [Nat.zero_add];exact r0 _ (by omega)) (fun j hj=>hfz _ _ _ h _) mJ (wE l) KO 3 3 1 c.size hsa VU (by omega) (hfz _ _ _ hv _) (hfz _ _ _ hv _)).mono ?_
   . intro j u hj;obtain ⟨h1,rfl⟩:=Cw _ _ _ hj;rw [Nat.zero_add,Oa h];exact hc j h1
   . rintro e W' ⟨rfl,rfl⟩;rw [Nat.zero_add,Nat.zero_add];have h0:W.drew.heap[g]?=some (.cells c 3 (0,0)):=h
     obtain ⟨c1,h1,s1⟩:=Xe g ((l.map (Value.int .i64)).drop i) (i+1) W.drew c 3 (0,0) h0;obtain ⟨c2,h2,s2⟩:=Xe g [.int .i64 x] i (W.drew.setCells g (i+1) ((l.map (Value.int .i64)).drop i)) c1 3 (0,0) h1;have q0:∀j,j<cap->(W.drew.cell? ⟨g,j,none⟩).isSome=true:=r0
     have q1:∀j,j<cap->((W.drew.setCells g (i+1) ((l.map (Value.int .i64)).drop i)).cell? ⟨g,j,none⟩).isSome=true:=fun j hj=>by
      rw [Oa h1,Array.getElem?_eq_getElem (by omega)];rfl
     refine ⟨_,rfl,Or.inr ⟨g,cap,c2, ?_,h2, ?_,xV,by omega,by omega, ?_⟩, ?_,fun g' Ht=>by cases Ht;exact Or.inl rfl⟩
     . rw [Zd hi]
     . rw [Zd hi];exact vg
     . intro k hk;rw [Zd hi]at hk;rw [mo hi,<-Oa h2];have hd:((l.map (Value.int .i64)).drop i).length=l.length -i:=by simp
       by_cases k1:k<i
       . rw [if_pos k1,World.cell?_setCells_out _ _ _ _ _ (fun _ _=>Or.inl (by show k<i;omega)),World.cell?_setCells_out _ _ _ _ _ (fun _ _=>Or.inl (by show k<i+1;omega))];rw [Oa h0];exact hc k (by omega)
       . rw [if_neg k1];by_cases k2:k=i
         . subst k2;rw [if_pos rfl];have:=World.cell?_setCells_in g [.int .i64 x] k (W.drew.setCells g (k+1) ((l.map (Value.int .i64)).drop k)) (fun j hj=>q1 _ (by simp at hj;omega)) 0 (by simp)
           simpa using this
         . rw [if_neg k2,World.cell?_setCells_out _ _ _ _ _ (fun _ _=>Or.inr (by show i+1<=k;omega))];have:=World.cell?_setCells_in g ((l.map (Value.int .i64)).drop i) (i+1) W.drew (fun j hj=>q0 _ (by omega)) (k -(i+1)) (by omega);rw [show i+1+(k -(i+1))=k by omega]at this;rw [this];have e1:((l.map (Value.int .i64)).drop i)[k -(i+1)]?=some (.int .i64 (l.getD (k -1) 0)):=by
            rw [List.getElem?_drop,show i+(k -(i+1))=k -1 by omega];exact qo _ _ (by omega)
           rw [<-e1,List.getElem?_eq_getElem]
     . exact Ba.setCells (F:=fun k=>(Value.slice (some ⟨g,0,none⟩) l.length cap).ownBlock=some k) (fun _=>rfl) _ _ _ (Ba.setCells (F:=fun k=>(Value.slice (some ⟨g,0,none⟩) l.length cap).ownBlock=some k) (fun _=>rfl) _ _ _ (Ba.refl _ W).drew)
theorem xai(v:Value)(l:List Int)(i:Nat)(hi:i<=l.length)(x:Int)(vb:Nat)(W:World)(hl:l.length<=1000000)(h:Of W v l)(hv:W.heap[vb]?=some (.cells #[.int .i64 x] 3 (0,0)))(bc:v.ownBlock≠some vb):
  Calls Tryz.prog 297 #[v, .int .i64 i, .slice (some ⟨vb,0,none⟩) 1 1] W (GJ v (Mh l i x) W):=by
 have YO:W.cell? ⟨vb,0,none⟩=some (.int .i64 x):=by rw [Oa hv];rfl
 rcases h with⟨rfl,rfl⟩|⟨g,cap,c,rfl,h1,h2,h3,h4,h5,h6⟩
 . exact Dw _ [] i hi x vb W hl none 0 rfl (Nat.le_refl _) (by simp) (Or.inl ⟨rfl,rfl⟩) YO
 . by_cases hr:l.length+1<=cap
   . exact rH g cap c l i hi x vb W hl h1 hr h3 h4 h6 hv (fun e=>bc (by rw [e];rfl))
   . exact Dw _ l i hi x vb W hl (some ⟨g,0,none⟩) cap rfl h2 (by omega) (Or.inr ⟨g,rfl,fun j hj=>by rw [Oa h1];exact h6 j hj⟩) YO
def Ew(l:List Int)(x:Int):List Int:=if l.contains x then l else Mh l (l.countP (·<x)) x
def yai(fb t:Nat)(v:Value)(l:List Int)(W:World)(e:Ending)(W':World):Prop:=
 (∃u,e= .returned u)/\∃v' W1,Ba (fun k=>v.ownBlock=some k) W W1/\Of W1 v' l/\(∀g,v'.ownBlock=some g->v.ownBlock=some g\/W.heap.size<=g)/\W'=W1.setCell ⟨fb,t,none⟩ v'
theorem Of.slice{W:World}{v:Value}{l:List Int}(h:Of W v l):∃a n c,v= .slice a n c:=by
 rcases h with⟨rfl,_⟩|⟨g,cap,c,rfl,_⟩
 . exact ⟨_,_,_,rfl⟩
 . exact ⟨_,_,_,rfl⟩
theorem xE(v:Value)(l:List Int)(x:Int)(W:World)(hl:l.length<=1000000)(h:Of W v l)(hs:l.Pairwise (·<·)):
  Calls Tryz.prog 296 #[v, .int .i64 x] W fun e w'=>e= .returned (.tuple #[.int .i64 (l.countP (·<x):Nat), .bool (l.contains x)])/\w'.heap=W.heap/\Below W.heap.size W w':=by
 rcases h with⟨rfl,rfl⟩|⟨g,cap,c,rfl,h1,h2,h3,h4,h5,h6⟩
 . refine (Tryz.slices_BinarySearch_int_empty none 0 x W).mono ?_
   rintro e w' ⟨rfl,rfl⟩;exact ⟨rfl,rfl,Below.refl _ _⟩
 . refine (Tryz.slices_BinarySearch_int g 0 l.length cap l x W (Nat.le_refl _) (by omega) (fun j hj=>by rw [Nat.zero_add,Oa h1];exact h6 j hj) (by rw [List.take_length];exact hs.imp fun h=>Int.le_of_lt h)).mono ?_
   rintro e w' ⟨rfl,q,rfl⟩;rw [List.take_length];exact ⟨rfl,rfl,rfl,rfl,rfl,Nat.le_refl _,fun _ _=>rfl⟩
set_option maxRecDepth 100000 in
theorem QP(fb t:Nat)(v:Value)(l:List Int)(x:Int)(W:World)(hl:l.length<=1000000)(hc:W.cell? ⟨fb,t,none⟩=some v)(h:Of W v l)(hs:l.Pairwise (·<·))(hx:l.contains x=true):
  Calls Tryz.prog 256 #[.pointer (some ⟨fb,t,none⟩), .int .i64 x] W (fun e W'=>(∃u,e= .returned u)/\Below W.heap.size W W'/\W'.heap=W.heap):=by
 have HS:=Lib.hid (xE v l x W hl h hs);rw [hx]at HS;generalize l.countP (·<x)=i at*;clear h hs hx
 go_enter Tryz.func256,Tryz.ntmps256
 go_wp2_with fail
 refine HS.out.mono ?_
 rintro e w1 ⟨rfl,hh,hb⟩;have HH:=Lib.hid hh;have HB:=Lib.hid hb;clear hh hb
 go_wp2_with fail
 go_end0
 exact ⟨⟨_,rfl⟩,HB.out,HH.out⟩
set_option maxRecDepth 100000 in
theorem vM(fb t:Nat)(v:Value)(l:List Int)(x:Int)(W:World)(hl:l.length<=1000000)(hc:W.cell? ⟨fb,t,none⟩=some v)(hf:W.frozen? ⟨fb,t,none⟩=false)(zb:fb<W.heap.size)(AG:v.ownBlock≠some fb)(h:Of W v l)(hs:l.Pairwise (·<·))(hx:l.contains x=false):
  Calls Tryz.prog 256 #[.pointer (some ⟨fb,t,none⟩), .int .i64 x] W (yai fb t v (Mh l (l.countP (·<x)) x) W):=by
 have HS:=Lib.hid (xE v l x W hl h hs);rw [hx]at HS;have HL:Hid (∀w:World,w.heap=W.heap->∀vb,w.heap.size=vb->Calls Tryz.prog 297 #[v, .int .i64 (l.countP (·<x):Nat), .slice (some ⟨vb,0,none⟩) 1 1] (w.alloc (.cells #[.int .i64 x] 3)) (GJ v (Mh l (l.countP (·<x)) x) (w.alloc (.cells #[.int .i64 x] 3)))):=Lib.hid fun w hw vb hvb=>by
  subst hvb;refine xai v l (l.countP (·<x)) List.countP_le_length x w.heap.size _ hl ?_ (heap_alloc_new w _) (fun e=> ?_)
  . refine h.keep fun g hg=> ?_
    have:=h.lt hg;rw [Below.heap_alloc _ _ _ (by rw [hw];exact this),hw]
  . have:=h.lt e;rw [hw]at this;omega
 generalize l.countP (·<x)=i at*;have Ih:=Lib.hid zb;have HF:=Lib.hid hf;have HFV:=Lib.hid AG;have HC:=Lib.hid hc;clear h hs hx zb hf AG
 go_enter Tryz.func256,Tryz.ntmps256
 go_wp2_with fail
 refine HS.out.mono ?_
 rintro e w1 ⟨rfl,hh,hb⟩;have aP:w1.cell? ⟨fb,t,none⟩=some v:=(Jk hh _).trans HC.out
 have HH:=Lib.hid hh;have HB:=Lib.hid hb;clear hh hb
 go_wp2_with fail
 refine (HL.out w1 HH.out _ rfl).mono ?_
 rintro e w2 ⟨v',rfl,MO,ht,hn⟩;have Vh:W.heap.size<(w1.alloc (.cells #[.int .i64 x] 3)).heap.size:=by simp [HH.out]
 have e2:w2.heap[fb]?=W.heap[fb]?:=by
  rw [ht.block fb (by have:=Ih.out;omega) (fun e=>HFV.out e),Below.heap_alloc _ _ _ (by rw [HH.out];exact Ih.out),HH.out]
 have jO:w2.cell? ⟨fb,t,none⟩=some v:=(cell_of_heap e2 t).trans HC.out
 have hf2:w2.frozen? ⟨fb,t,none⟩=false:=(frozen_of_heap e2 t).trans HF.out
 have HE:Hid (Ba (fun k=>v.ownBlock=some k) W w2):=Lib.hid (((Ba.Sb HB.out).alloc _).trans ht (fun _ _ h=>h));have HN:Hid (∀g,v'.ownBlock=some g->v.ownBlock=some g\/W.heap.size<=g):=Lib.hid fun g hg=>by
  rcases hn g hg with h|h
  . exact Or.inl h
  . exact Or.inr (by omega)
 have A8:=Lib.hid MO;obtain ⟨a',n',k',rfl⟩:=MO.slice;clear ht MO hn Vh e2 hc aP
 go_wp2_with fail
 go_end0
 exact ⟨⟨_,rfl⟩,_,w2,HE.out,A8.out,HN.out,rfl⟩
end Go.Proofs.YtfnkmolffhfpoaaGreat
