/- -/
import Derived.Test.YtfnkmolffhfpoaaGreatHp15
import Derived.Test.YtfnkmolffhfpoaaGreatHp18
import Derived.Test.YtfnkmolffhfpoaaGreatHp14
import Derived.Deep.LoopGhost
set_option linter.unusedVariables false
set_option linter.unusedSimpArgs false
namespace Go.Proofs.YtfnkmolffhfpoaaGreat
open Go.RowKit Go.BigFrame
theorem lD{P:Program}{ops:Array Oper}{rest:List Oper}{o:Oper}{a:Act}{Q:Exit->Act->World->Prop}(hgd:o.guard=none)(s x:Operand)(t:TypeId)
  (ho:o.op= .call {callee:= .builtin .append,args:=#[s,x],argTypes:=#[t,t]})
  (base:Nat)(e e':TypeId)(i:TypeInfo)(z:Value)(size bytes:Nat)(ht:P.underlying t=some (.slice e))(hi:P.info? e=some i)(hz:i.zero=some z)
  (IF:i.size=size)(BY:i.bytes=bytes)(CY:z.cells.size=size)(mj:0<size)
  (wr:World)(BS:base<=wr.heap.size)(v:Value)(n:Nat)(xs:List Value)(hs:a.eval s=v)(ke:wr.ownsRow base e size v n xs)
  (cs:Array Value)(m c:Nat)(hx:a.eval x= .slice (some ⟨wr.heap.size,0,none⟩) m c)(hl:cs.size=m*size)(h1:∀u∈cs.toList,u.oneCell'=true)
  (h63:n+m<=maxLen)(Yw:(n+m)*bytes<=140737488355328)
  (h:∀v' w',w'.ownsRow base e size v' (n+m) (xs++cs.toList)->wr.grownBy w' v.ownBlock->(∀B W,Below B W wr->B<=base->Below B W w')->(v'= .slice none 0 0<->v= .slice none 0 0/\m=0)->wpList P ops Q rest (a.put o.dst v') w'):
  wpList P ops Q (o::rest) a (wr.alloc (.cells cs e')):=by
 refine wpList_append_own _ hgd s x t ho base e i z size bytes ht hi hz IF BY CY mj v n xs hs (ke.alloc _) ⟨wr.heap.size,0,none⟩ m c cs.toList hx (by simpa using hl) (fun j u hj=>Df wr cs e' j u hj) h1 h63 Yw (by simp;omega) ?_
 intro v' w' wO du hn';refine h v' w' wO (gp (World.grownBy_alloc wr _ _) du) (fun B W hb hB=> ?_) hn';refine (hb.alloc (by omega) _).grown du (by simp;omega) (fun k hk=> ?_)
 have:=ke.lt k hk;omega
theorem lJ:(Tryz.prog.info? 43).map (fun i=>(i.zero,i.size,i.bytes))=some (some (.int .u64 0),1,8):=by kernel_rfl
def od(f:Nat->Int)(n:Nat):List Value:=(List.range n).map fun k=> .int .u64 (f k)
theorem mJ(f:Nat->Int)(n:Nat):(od f n).length=n:=by simp [od]
theorem Vl(f:Nat->Int)(n k:Nat)(h:k<n):(od f n)[k]?=some (.int .u64 (f k)):=by
 unfold od;rw [List.getElem?_map,List.getElem?_range h];rfl
theorem jG(f:Nat->Int)(k:Nat):od f (8*(k+1))=od f (8*k)++[.int .u64 (f (k*8)), .int .u64 (f (k*8+1)), .int .u64 (f (k*8+2)), .int .u64 (f (k*8+3)), .int .u64 (f (k*8+4)), .int .u64 (f (k*8+5)), .int .u64 (f (k*8+6)), .int .u64 (f (k*8+7))]:=by
 unfold od;rw [show 8*(k+1)=8*k+8 by omega,List.range_add,List.map_append,List.map_map]
 congr 1
 simp only [List.range_succ_eq_map,List.range_zero,List.map_cons,List.map_nil,Function.comp,List.map_map];rw [show 8*k=k*8 by omega];rfl
def mr(f:Nat->Int)(n:Nat)(W:World)(e:Ending)(W':World):Prop:=∃v,e= .returned v/\Below W.heap.size W W'/\W'.ownsRow W.heap.size 43 1 v n (od f n)
set_option maxRecDepth 100000 in
set_option maxHeartbeats 1000000 in
theorem BL(b n cap:Nat)(hn:n<=262144)(f:Nat->Int)(W:World)(h:tb W b (8*n) fun k=> .int .u64 (f k)):
  Calls Tryz.prog 109 #[.slice (some ⟨b,0,none⟩) n cap] W (mr f (8*n) W):=by
 obtain ⟨i42,hi,Bx,Mi,uh⟩:=info_parts lJ;have HR:=Lib.hid h;have hb:=h.lt;clear h;obtain ⟨B,hB⟩:∃B,B=W.heap.size:=⟨_,rfl⟩;unfold mr;rw [<-hB]at hb⊢;have HBB:=Lib.hid hb;clear hb;have HB:=Lib.hid hB;clear hB
 go_enter Tryz.func109,Tryz.ntmps109
 go_wp2_with fail
 go_loopw [3,8] (fun v i wr=>∃k:Nat,k<=n/\i= .int .i64 k/\Hid (wr.ownsRow B 43 1 v (8*k) (od f (8*k)))/\Hid (Below B W wr)) (fun _ i _=>n -(intOf i).toNat)
 case atStart=>exact ⟨0,Nat.zero_le _,rfl,World.ownsRow_nil _ _ _ _,Below.refl _ _⟩
 case round=>
  obtain ⟨k,hk,rfl,HO,HBE⟩:=hrel;have HBw:Hid (B<=wr.heap.size):=Lib.hid (by rw [HB.out];exact HBE.out.size);by_cases Db:k<n
  . have hr:tb wr b (8*n) fun k=> .int .u64 (f k):=HR.out.keep (HBE.out.block b HBB.out)
    have h8:YA wr b (k*8) (fun r=>f (k*8+r)):=fun r ZR=>hr.cell (by omega)
    obtain ⟨c0,c1,c2,c3,c4,c5,c6,c7⟩:=h8.cells;have hw8:=jG f k;have i0:(0:Int)<=(k:Int):=by omega
    have i1:(k:Int)<(n:Int):=by omega
    have i2:decide ((k:Int)<(n:Int))=true:=ga i1;rw [Nat.add_zero]at c0;have HW8:=Lib.hid hw8;clear hr h8 hw8;generalize f (k*8)=v0 at*;generalize f (k*8+1)=v1 at*;generalize f (k*8+2)=v2 at*;generalize f (k*8+3)=v3 at*;generalize f (k*8+4)=v4 at*;generalize f (k*8+5)=v5 at*;generalize f (k*8+6)=v6 at*;generalize f (k*8+7)=v7 at*
    go_wp2_with (at_builtin;refine lD rfl _ _ 99 rfl B 43 259 i42 (.int .u64 0) 1 8 Tryz.underlying99 hi Bx Mi uh rfl (by decide) wr HBw.out u3 (8*k) (od f (8*k)) rfl HO.out #[.int .u64 v0, .int .u64 v1, .int .u64 v2, .int .u64 v3, .int .u64 v4, .int .u64 v5, .int .u64 v6, .int .u64 v7] 8 8 rfl rfl (by simp [Value.oneCell']) (by unfold maxLen;omega) (by omega) ?_;intro v' w' ke Ni jh Jc;have HO':=Lib.hid ke;have HB':=Lib.hid (jh B W HBE.out (Nat.le_refl _));clear ke Ni jh Jc)
    go_wp2_with fail
    go_roundw
    case rel=>exact ⟨k+1,by omega,by go_num,Lib.hid (by rw [HW8.out];exact HO'.out),HB'⟩
    case measure=>simp [intOf];omega
  . obtain rfl:k=n:=by omega
    have i2:decide ((k:Int)<(k:Int))=false:=by simp
    go_wp2_with fail
    go_ret
    exact ⟨_,rfl,HBE.out,HO.out⟩
theorem Ce{w:World}{base:Nat}{e:TypeId}{size:Nat}{v:Value}{n:Nat}{xs:List Value}(h:w.ownsRow base e size v n xs):∃a m c,v= .slice a m c:=by
 rcases h.2 with⟨rfl,-⟩|⟨g,cap,cur,rfl,-⟩
 . exact ⟨_,_,_,rfl⟩
 . exact ⟨_,_,_,rfl⟩
theorem Xa{w:World}{base:Nat}{e:TypeId}{size:Nat}{v:Value}{n:Nat}{xs:List Value}(h:w.ownsRow base e size v n xs):∃a c,v= .slice a n c:=by
 rcases h.2 with⟨rfl,rfl⟩|⟨g,cap,cur,rfl,-⟩
 . exact ⟨_,_,rfl⟩
 . exact ⟨_,_,rfl⟩
theorem wg{w:World}{base:Nat}{e:TypeId}{size:Nat}{v:Value}{n:Nat}{xs:List Value}(h:w.ownsRow base e size v n xs){k:Nat}(hk:v.ownBlock=some k):base<=k/\k<w.heap.size:=by
 rcases h.2 with⟨rfl,-⟩|⟨g,cap,cur,rfl,hb,hg,-⟩
 . cases hk
 . cases hk;exact ⟨hb,(Array.getElem?_eq_some_iff.1 hg).1⟩
theorem fB{w:World}{base:Nat}{e:TypeId}{size:Nat}{v:Value}{n:Nat}{xs:List Value}(h:w.ownsRow base e size v n xs){k:Nat}(hk:v.ownBlock=some k):∃cs t f,w.heap[k]?=some (.cells cs t f):=by
 rcases h.2 with⟨rfl,-⟩|⟨g,cap,cur,rfl,hb,hg,-⟩
 . cases hk
 . cases hk;exact ⟨_,_,_,hg⟩
theorem Og{w w':World}{base:Nat}{e:TypeId}{size:Nat}{v:Value}{n:Nat}{xs:List Value}(h:w.ownsRow base e size v n xs)(hk:∀k,v.ownBlock=some k->w'.heap[k]?=w.heap[k]?):w'.ownsRow base e size v n xs:=by
 refine ⟨h.1, ?_⟩;rcases h.2 with hn|⟨g,cap,cur,rfl,hb,hg,rest⟩
 . exact .inl hn
 . exact .inr ⟨g,cap,cur,rfl,hb,(hk g rfl).trans hg,rest⟩
theorem lh{w:World}{base:Nat}{e:TypeId}{size:Nat}{v:Value}{n:Nat}{xs:List Value}(h:w.ownsRow base e size v n xs)(hn:0<n):∃g cap c,v= .slice (some ⟨g,0,none⟩) n cap/\base<=g/\w.heap[g]?=some (.cells c e (0,0))/\n<=cap/\c.size=cap*size/\∀j,j<n*size->c[j]?=xs[j]?:=by
 rcases h.2 with⟨-,rfl⟩|⟨g,cap,cur,rfl,hb,hg,h1,h2,h3,h4⟩
 . omega
 . refine ⟨g,cap,cur,rfl,hb,hg,h1,h3,fun j hj=> ?_⟩;rw [<-h4,List.getElem?_take,if_pos hj];simp
theorem Hk{W:World}{b o:Nat}{v:Value}(h:W.cell? ⟨b,o,none⟩=some v):∃cs t f,W.heap[b]?=some (.cells cs t f):=by
 unfold World.cell? at h
 split at h
 . rename_i c t f e;exact ⟨c,t,f,e⟩
 . cases h
def ku(W W':World):Prop:=∀(k:Nat) (o:Obj),W.heap[k]?=some o->o.isCells=false->W'.heap[k]?=some o
theorem ku.trans{A B C:World}(h:ku A B)(k:ku B C):ku A C:=fun q o a b=>k q o (h q o a b) b
theorem mP{W:World}{p o:Nat}{v u:Value}(h:W.cell? ⟨p,o,none⟩=some u)(j:Nat):ku W (W.setCell ⟨p,j,none⟩ v):=fun k ob hk hc=>by
 by_cases e:k=p
 . subst e;obtain ⟨cs,t,f,he⟩:=Hk h;rw [hk]at he;cases he;cases hc
 . rw [aa e];exact hk
structure Nf(w0 W:World)(po b2 b3 b off n cap:Nat)(f:Nat->Int)(k j:Nat):Prop where
 below:Below w0.heap.size w0 W
 parts:Ko W b2 b3 b off n cap k
 out:∃v,W.cell? ⟨po,0,none⟩=some v/\W.ownsRow w0.heap.size 259 8 v j (od f (8*j))/\v.ownBlock≠some po/\v.ownBlock≠some b2/\v.ownBlock≠some b3
 fpo:W.frozen? ⟨po,0,none⟩=false
 h1:w0.heap.size<=po/\po<W.heap.size
 h2:w0.heap.size<=b2/\b2<W.heap.size
 h3:w0.heap.size<=b3/\b3<W.heap.size
theorem Ko.keep{W W':World}{b2 b3 b off n cap k:Nat}(h:Ko W b2 b3 b off n cap k)(e2:W'.heap[b2]?=W.heap[b2]?)(e3:W'.heap[b3]?=W.heap[b3]?):Ko W' b2 b3 b off n cap k:=by
 obtain ⟨A,a,c2,c3,f2⟩:=h;exact ⟨A,a,(cell_of_heap e2 0).trans c2,(cell_of_heap e3 0).trans c3,(frozen_of_heap e2 0).trans f2⟩
theorem Nf.same{w0 W W':World}{po b2 b3 b off n cap:Nat}{f:Nat->Int}{k j:Nat}(h:Nf w0 W po b2 b3 b off n cap f k j)(hs:W.heap.size<=W'.heap.size)
  (he:∀(g:Nat) (cs:Array Value) (t:TypeId) (q:Nat×Nat),W.heap[g]?=some (.cells cs t q)->W'.heap[g]?=some (.cells cs t q))(hb:Below w0.heap.size w0 W'):Nf w0 W' po b2 b3 b off n cap f k j:=by
 have e:∀g:Nat,(∃cs t q,W.heap[g]?=some (.cells cs t q))->W'.heap[g]?=W.heap[g]?:=fun g ⟨cs,t,q,hg⟩=>(he g cs t q hg).trans hg.symm
 obtain ⟨A,a,c2,c3,f2⟩:=h.parts;obtain ⟨v,hv,ho,n1,n2,n3⟩:=h.out;refine ⟨hb,h.parts.keep (e _ (Hk c2)) (e _ (Hk c3)),⟨v,(cell_of_heap (e _ (Hk hv)) 0).trans hv,Og ho fun q hq=>e _ (fB ho hq),n1,n2,n3⟩,(frozen_of_heap (e _ (Hk hv)) 0).trans h.fpo,
  ⟨h.h1.1,by have:=h.h1.2;omega⟩,⟨h.h2.1,by have:=h.h2.2;omega⟩,⟨h.h3.1,by have:=h.h3.2;omega⟩⟩
theorem Nf.grow{w0 W W':World}{po b2 b3 b off n cap:Nat}{f:Nat->Int}{k j:Nat}(h:Nf w0 W po b2 b3 b off n cap f k j)(hb:Below W.heap.size W W'):Nf w0 W' po b2 b3 b off n cap f k j:=
 h.same hb.size (fun g cs t f he=>(hb.block g (Array.getElem?_eq_some_iff.1 he).1).trans he) (h.below.trans (hb.mono h.below.size))
theorem grownBy_putObj'(W:World)(l:Nat)(o':Obj):W.grownBy (W.putObj l o') (some l):=
 ⟨rfl,rfl,rfl,by simp [World.putObj],fun i hi Jc=>World.putObj_heap_other (fun e=>Jc (by rw [e]))⟩
theorem Nf.put{w0 W:World}{po b2 b3 b off n cap:Nat}{f:Nat->Int}{k j:Nat}(h:Nf w0 W po b2 b3 b off n cap f k j){l:Nat}{o:Obj}(hl:W.heap[l]?=some o)(ho:o.isCells=false)(hw:w0.heap.size<=l)(o':Obj):Nf w0 (W.putObj l o') po b2 b3 b off n cap f k j:=by
 have hg:=grownBy_putObj' W l o';refine h.same hg.size (fun g cs t f he=> ?_) (h.below.grown hg h.below.size (fun k e=>by cases e;exact hw));rw [World.putObj_heap_other (by rintro rfl;rw [hl]at he;cases he;cases ho)];exact he
theorem Nf.next{w0 W:World}{po b2 b3 b off n cap:Nat}{f:Nat->Int}{k j:Nat}(h:Nf w0 W po b2 b3 b off n cap f k j)(n1:po≠b2)(n2:b2≠b3){A:Option Addr}(hA:8*(k+1+1)<=n->A=some ⟨b,off+8*(k+1),none⟩):
  Nf w0 (W.setCell ⟨b2,0,none⟩ (.slice A (n -8*(k+1)) (cap -8*(k+1)))) po b2 b3 b off n cap f (k+1) j:=by
 obtain ⟨A0,a,c2,c3,f2⟩:=h.parts;obtain ⟨v,hv,ho,m1,m2,m3⟩:=h.out;refine ⟨h.below.setCell h.h2.1 _,⟨A,hA,rn _ c2,(cell_of_heap (aa (Ne.symm n2)) 0).trans c3,by rw [World.frozen?_setCell];exact f2⟩,⟨v,(cell_of_heap (aa n1) 0).trans hv,Og ho fun q hq=>aa (fun e=>m2 (e▸hq)),m1,m2,m3⟩,by rw [World.frozen?_setCell];exact h.fpo,
  by simpa using h.h1,by simpa using h.h2,by simpa using h.h3⟩
theorem Nf.add{w0 W W1 w':World}{po b2 b3 b off n cap:Nat}{f:Nat->Int}{k:Nat}(h:Nf w0 W po b2 b3 b off n cap f k k)(n1:po≠b2)(n2:b2≠b3)(n3:po≠b3){v v':Value}(hv:W.cell? ⟨po,0,none⟩=some v)(hb:Below W.heap.size W W1)
  (wO:w'.ownsRow w0.heap.size 259 8 v' (k+1) (od f (8*(k+1))))(hg:W1.grownBy w' v.ownBlock)(eY:v'.ownBlock=v.ownBlock\/v'.ownBlock=some W1.heap.size):
  Nf w0 (w'.setCell ⟨po,0,none⟩ v') po b2 b3 b off n cap f k (k+1)/\ku W (w'.setCell ⟨po,0,none⟩ v'):=by
 obtain ⟨v0,FR,ho0,m1,m2,m3⟩:=h.out;obtain rfl:v0=v:=by rw [hv]at FR;cases FR;rfl
 obtain ⟨A0,a,c2,c3,f2⟩:=h.parts;have z1:=hb.size;have z2:=hg.size;have kA:∀g,g<W.heap.size->v0.ownBlock≠some g->w'.heap[g]?=W.heap[g]?:=fun g du e=>(hg.block g (by omega) (Ne.symm e)).trans (hb.block g du)
 have kB:∀g,g<W.heap.size->v0.ownBlock≠some g->g≠po->(w'.setCell ⟨po,0,none⟩ v').heap[g]?=W.heap[g]?:=fun g du e e2=>(aa e2).trans (kA g du e)
 have nn:∀g,g<W.heap.size->v0.ownBlock≠some g->v'.ownBlock≠some g:=fun g du e e2=>by
  rcases eY with q|q
  . exact e (by rw [<-q];exact e2)
  . rw [q]at e2;cases e2;omega
 have l1:=h.h1;have l2:=h.h2;have l3:=h.h3;refine ⟨⟨?_,h.parts.keep (kB b2 l2.2 m2 (Ne.symm n1)) (kB b3 l3.2 m3 (Ne.symm n3)),⟨v',rn _ ((cell_of_heap (kA po l1.2 m1) 0).trans hv),Og wO fun q hq=>aa (fun e=>nn po l1.2 m1 (e▸hq)),nn po l1.2 m1,nn b2 l2.2 m2,nn b3 l3.2 m3⟩, ?_, ?_, ?_, ?_⟩, ?_⟩
 . exact ((h.below.trans (hb.mono h.below.size)).grown hg (by have:=h.below.size;omega) (fun q e=>(wg ho0 e).1)).setCell l1.1 _
 . rw [World.frozen?_setCell,frozen_of_heap (kA po l1.2 m1)];exact h.fpo
 . simp only [World.size_setCell];omega
 . simp only [World.size_setCell];omega
 . simp only [World.size_setCell];omega
 . intro q o hq hc;have Db:=(Array.getElem?_eq_some_iff.1 hq).1
   have Jc:∀{g},(∃cs t f,W.heap[g]?=some (.cells cs t f))->q≠g:=by
    rintro g ⟨cs,t,f,he⟩ rfl;rw [hq]at he;cases he;cases hc
   rw [kB q Db (fun e=>Jc (fB ho0 e) rfl) (Jc (Hk hv))];exact hq
theorem nJ:(Tryz.prog.info? 154).map (fun i=>(i.zero,i.size,i.bytes))=some (some (.agg #[.int .i64 0, .int .i64 0, .int .i64 0]),3,24):=by kernel_rfl
abbrev Nm:=Int×Int×Int
def tE(l:List Nm):List Value:=l.flatMap fun p=>[.int .i64 p.1, .int .i64 p.2.1, .int .i64 p.2.2]
theorem aT(l:List Nm)(a b d:Int):tE (l++[(a,b,d)])=tE l++#[Value.int .i64 a, .int .i64 b, .int .i64 d].toList:=by simp [tE]
theorem BZ(l:List Nm):(tE l).length=l.length*3:=by
 induction l with
 |nil=>rfl
 |cons a t ih=>simp only [tE,List.flatMap_cons,List.length_append,List.length_cons,List.length_nil]at*;rw [ih];omega
def mD(n:Nat)(l:List Nm)(W:World)(e:Ending)(W':World):Prop:=∃v,e= .returned v/\Below W.heap.size W W'/\W'.ownsRow W.heap.size 154 3 v n (tE l)
structure Pb(W:World)(c:Array Value)(n:Nat)(l:List Nm)(v:Value)(wr:World):Prop where
 below:Below W.heap.size W wr
 box:wr.heap[W.heap.size]?=some (.cells c 23 (0,0))
 own:wr.ownsRow (W.heap.size+1) 154 3 v n (tE l)
theorem Pb.push{W wr w':World}{c:Array Value}{n:Nat}{l:List Nm}{v v':Value}(h:Pb W c n l v wr)(hv:∀k,v.ownBlock=some k->W.heap.size+1<=k){a b d:Int}
  (ho:w'.ownsRow (W.heap.size+1) 154 3 v' (n+1) (tE l++#[Value.int .i64 a, .int .i64 b, .int .i64 d].toList))(hg:wr.grownBy w' v.ownBlock)(hb:∀B W0,Below B W0 wr->B<=W.heap.size+1->Below B W0 w'):Pb W c (n+1) (l++[(a,b,d)]) v' w':=
 ⟨hb _ _ h.below (by omega),(hg.block _ (zb h.box) (fun e=>by have:=hv _ e.symm;omega)).trans h.box,by rw [aT];exact ho⟩
theorem kG{w:World}{b b':Nat}{e:TypeId}{size:Nat}{v:Value}{n:Nat}{xs:List Value}(h:w.ownsRow b e size v n xs)(hb:b'<=b):w.ownsRow b' e size v n xs:=by
 refine ⟨h.1, ?_⟩;rcases h.2 with hn|⟨g,cap,cur,hv,h2,rest⟩
 . exact .inl hn
 . exact .inr ⟨g,cap,cur,hv,Nat.le_trans hb h2,rest⟩
def fe(kind:Int)(k:Nat):List Nm:=(List.range k).map fun(i:Nat)=>(kind,(i:Int),0)
theorem Up(kind:Int)(k:Nat):fe kind (k+1)=fe kind k++[(kind,(k:Int),0)]:=by simp [fe,List.range_succ]
def Dg(th sl:Nat):List Nm:=[((14:Int),(0:Int),(0:Int)),(15,0,0)]++fe 16 th++fe 17 sl
set_option maxRecDepth 100000 in
theorem gB(th sl:Nat)(ib bu:Int)(h1:th<=64)(h2:sl<=65536)(W:World):
  Calls Tryz.prog 42 #[.agg #[.int .i64 (th:Int), .int .i64 (sl:Int), .int .i64 ib, .int .i64 bu]] W (mD (2+th+sl) (Dg th sl) W):=by
 obtain ⟨i64,hi,Bx,Mi,uh⟩:=info_parts nJ;obtain ⟨p0,hp0⟩:∃p0:List Nm,p0=[((14:Int),(0:Int),(0:Int)),(15,0,0)]:=⟨_,rfl⟩;unfold Dg;rw [<-hp0];have HP0:=Lib.hid hp0;clear hp0
 go_enter Tryz.func42,Tryz.ntmps42
 go_wp2_with fail
 obtain ⟨c,hc⟩:∃c,c=#[Value.int .i64 (th:Int),Value.int .i64 (sl:Int),Value.int .i64 ib,Value.int .i64 bu]:=⟨_,rfl⟩;have H0:Hid (Pb W c (2+0) (p0++fe 16 0) (.slice (some ⟨W.heap.size+1,0,none⟩) 2 2) ((W.alloc (.cells #[.int .i64 (th:Int), .int .i64 (sl:Int), .int .i64 ib, .int .i64 bu] 23)).alloc (.cells #[.int .i64 14, .int .i64 0, .int .i64 0, .int .i64 15, .int .i64 0, .int .i64 0] 154))):=Lib.hid
  ⟨((Below.refl _ _).alloc (Nat.le_refl _) _).alloc (by simp) _,by rw [hc,Below.heap_alloc _ _ _ (by simp)];exact heap_alloc_new _ _,
    by
     have e:tE (p0++fe 16 0)=[.int .i64 14, .int .i64 0, .int .i64 0, .int .i64 15, .int .i64 0, .int .i64 0]:=by rw [HP0.out];rfl
     rw [e];exact ⟨rfl, .inr ⟨W.heap.size+1,2,#[.int .i64 14, .int .i64 0, .int .i64 0, .int .i64 15, .int .i64 0, .int .i64 0],rfl,Nat.le_refl _,by
      have:=heap_alloc_new (W.alloc (.cells #[.int .i64 (th:Int), .int .i64 (sl:Int), .int .i64 ib, .int .i64 bu] 23)) (.cells #[.int .i64 14, .int .i64 0, .int .i64 0, .int .i64 15, .int .i64 0, .int .i64 0] 154);rw [World.size_alloc]at this;exact this,Nat.le_refl _,by unfold maxLen;omega,rfl,rfl⟩⟩⟩
 have Z4:=Lib.hid hc;clear hc
 go_loopw [3,4] (fun v i wr=>∃k:Nat,k<=th/\i= .int .i64 k/\Hid (Pb W c (2+k) (p0++fe 16 k) v wr)) (fun _ i _=>th -(intOf i).toNat)
 case atStart=>exact ⟨0,Nat.zero_le _,rfl,H0⟩
 case round=>
  obtain ⟨k,hk,rfl,HK⟩:=hrel;have cb:wr.cell? ⟨W.heap.size,0,none⟩=some (.int .i64 (th:Int)):=by rw [Wa HK.out.box,Z4.out];rfl
  by_cases Db:k<th
  . have d1:decide ((k:Int)<(th:Int))=true:=ga (by omega);obtain ⟨va,vc,rfl⟩:=Xa HK.out.own;have HO:=Lib.hid HK.out.own;have nj:Hid (W.heap.size+1<=wr.heap.size):=Lib.hid (zb HK.out.box);have ui:=Lib.hid Db;clear Db;obtain ⟨n0,yC⟩:∃n0,n0=2+k:=⟨_,rfl⟩;obtain ⟨l0,Xo⟩:∃l0,l0=p0++fe 16 k:=⟨_,rfl⟩;rw [<-yC,<-Xo]at HO HK;rw [<-yC];have lG:=Lib.hid yC;have fY:=Lib.hid Xo;clear yC Xo
    go_wp2_with (at_builtin;refine Ie rfl _ _ 100 rfl (W.heap.size+1) 154 i64 _ 3 24 Tryz.underlying100 hi Bx Mi uh rfl (by decide) wr nj.out (.slice va n0 vc) n0 (tE l0) rfl HO.out #[.int .i64 16, .int .i64 (k:Int), .int .i64 0] 1 1 rfl rfl (by simp [Value.oneCell']) (by have:=lG.out;unfold maxLen;omega) (by have:=lG.out;omega) ?_;intro v' w' ke Ni jh Jc;have HP:=Lib.hid (HK.out.push (fun q hq=>(HO.out.lt q hq).1) ke Ni jh);clear ke Ni jh Jc)
    go_roundw
    case rel=>exact ⟨k+1,by have:=ui.out;omega,by go_num,by have h:=HP.out;rw [lG.out,fY.out,List.append_assoc,<-Up]at h;exact Lib.hid h⟩
    case measure=>have:=ui.out;simp [intOf];omega
  . obtain rfl:k=th:=by omega
    have d1:decide ((k:Int)<(k:Int))=false:=by simp
    go_wp2
    obtain ⟨m,hm⟩:∃m,m=2+k:=⟨_,rfl⟩;obtain ⟨p1,WH⟩:∃p1,p1=p0++fe 16 k:=⟨_,rfl⟩;have hM:=HK.out;rw [<-hm,<-WH,show p1=p1++fe 17 0 by simp [fe]]at hM;have HM:=Lib.hid hM;clear hM;have A5:=Lib.hid hm;have HP1:=Lib.hid WH;rw [<-hm];clear HK cb hm H0 WH
    go_loopw [3,5] (fun v i wr=>∃q:Nat,q<=sl/\i= .int .i64 q/\Hid (Pb W c (m+q) (p1++fe 17 q) v wr)) (fun _ i _=>sl -(intOf i).toNat)
    case atStart=>exact ⟨0,Nat.zero_le _,rfl,HM⟩
    case round=>
     obtain ⟨q,hq,rfl,HQ⟩:=hrel;have cb:wr.cell? ⟨W.heap.size,1,none⟩=some (.int .i64 (sl:Int)):=by rw [Wa HQ.out.box,Z4.out];rfl
     by_cases Db:q<sl
     . have d1:decide ((q:Int)<(sl:Int))=true:=ga (by omega);obtain ⟨va,vc,rfl⟩:=Xa HQ.out.own;have HO:=Lib.hid HQ.out.own;have nj:Hid (W.heap.size+1<=wr.heap.size):=Lib.hid (zb HQ.out.box);have ui:=Lib.hid Db;clear Db;obtain ⟨n0,yC⟩:∃n0,n0=m+q:=⟨_,rfl⟩;obtain ⟨l0,Xo⟩:∃l0,l0=p1++fe 17 q:=⟨_,rfl⟩;rw [<-yC,<-Xo]at HO HQ;rw [<-yC];have lG:=Lib.hid yC;have fY:=Lib.hid Xo;clear yC Xo
       go_wp2_with (at_builtin;refine Ie rfl _ _ 100 rfl (W.heap.size+1) 154 i64 _ 3 24 Tryz.underlying100 hi Bx Mi uh rfl (by decide) wr nj.out (.slice va n0 vc) n0 (tE l0) rfl HO.out #[.int .i64 17, .int .i64 (q:Int), .int .i64 0] 1 1 rfl rfl (by simp [Value.oneCell']) (by have:=lG.out;have:=A5.out;have:=ui.out;unfold maxLen;omega) (by have:=lG.out;have:=A5.out;have:=ui.out;omega) ?_;intro v' w' ke Ni jh Jc;have HP:=Lib.hid (HQ.out.push (fun q hq=>(HO.out.lt q hq).1) ke Ni jh);clear ke Ni jh Jc)
       go_roundw
       case rel=>exact ⟨q+1,by have:=ui.out;omega,by go_num,by have h:=HP.out;rw [lG.out,fY.out,List.append_assoc,<-Up]at h;exact Lib.hid h⟩
       case measure=>have:=ui.out;simp [intOf];omega
     . obtain rfl:q=sl:=by omega
       have d1:decide ((q:Int)<(q:Int))=false:=by simp
       go_wp2
       go_ret
       exact ⟨_,rfl,HQ.out.below,by rw [<-A5.out,<-HP1.out];exact kG HQ.out.own (Nat.le_succ _)⟩
def Vd(n:Nat):Nat:=(n+7)/8*8
def te(k:Nat):List Nm:=List.replicate k (0,0,0)
theorem mG(k:Nat):te (k+1)=te k++[(0,0,0)]:=List.replicate_succ'
def ld(n:Nat)(l:List Nm):List Nm:=l++te (Vd n -n)
def bT(W:World)(c:Array Value)(n:Nat)(l:List Nm)(e:Ending)(w':World):Prop:=∃v',e= .returned v'/\Pb W c (Vd n) (ld n l) v' w'
set_option maxRecDepth 100000 in
theorem nr(W:World)(c:Array Value)(n:Nat)(hn:n<=1000000)(l:List Nm)(v:Value)(w:World)(h:Pb W c n l v w):Calls Tryz.prog 101 #[v] w (bT W c n l):=by
 obtain ⟨i64,hi,Bx,Mi,uh⟩:=info_parts nJ;have H0:Hid (Pb W c n (l++te (n -n)) v w):=Lib.hid (by rw [Nat.sub_self,show te 0=[]from rfl,List.append_nil];exact h);have HU:Hid (n<=Vd n/\Vd n<=1000008/\Vd n %8=0/\Vd n<n+8):=Lib.hid (by unfold Vd;omega);clear h;unfold bT ld;generalize Vd n=u at*
 go_enter Tryz.func101,Tryz.ntmps101
 go_wp2_with fail
 go_loopg [0] (u -n) (fun g v wr=>∃k:Nat,k+g=u/\n<=k/\Hid (Pb W c k (l++te (k -n)) v wr))
 case atStart=>exact ⟨n,by have:=HU.out;omega,Nat.le_refl _,H0⟩
 case round=>
  obtain ⟨k,hk,hnk,HK⟩:=hrel;obtain ⟨va,vc,rfl⟩:=Xa HK.out.own;have HO:=Lib.hid HK.out.own;have nj:Hid (W.heap.size+1<=wr.heap.size):=Lib.hid (zb HK.out.box);have HKU:Hid (k+gk=u/\n<=k):=Lib.hid ⟨hk,hnk⟩;clear hk hnk;obtain ⟨l0,Xo⟩:∃l0,l0=l++te (k -n):=⟨_,rfl⟩;rw [<-Xo]at HO HK;have fY:=Lib.hid Xo;clear Xo;by_cases Db:k %8=0
  . have d1:((k:Int) %8==0)=true:=by rw [beq_iff_eq];omega
    have d2:((k:Int) %8 != 0)=false:=by simp [bne,d1]
    have ui:=Lib.hid Db;clear Db
    go_wp2_with fail
    obtain rfl:k=u:=by have:=HKU.out;have:=HU.out;have:=ui.out;omega
    go_ret
    exact ⟨_,rfl,by rw [<-fY.out];exact HK.out⟩
  . have d1:((k:Int) %8==0)=false:=by rw [beq_eq_false_iff_ne];omega
    have d2:((k:Int) %8 != 0)=true:=by simp [bne,d1]
    have ui:Hid (k<u):=Lib.hid (by have:=HKU.out;have:=HU.out;omega);clear Db
    go_wp2_with (at_builtin;refine Ie rfl _ _ 100 rfl (W.heap.size+1) 154 i64 _ 3 24 Tryz.underlying100 hi Bx Mi uh rfl (by decide) wr nj.out (.slice va k vc) k (tE l0) rfl HO.out #[.int .i64 0, .int .i64 0, .int .i64 0] 1 1 rfl rfl (by simp [Value.oneCell']) (by have:=ui.out;have:=HU.out;unfold maxLen;omega) (by have:=ui.out;have:=HU.out;omega) ?_;intro v' w' ke Ni jh Jc;have HP:=Lib.hid (HK.out.push (fun q hq=>(HO.out.lt q hq).1) ke Ni jh);clear ke Ni jh Jc)
    go_roundg (gk -1)
    case rel=>exact ⟨k+1,by have:=HKU.out;have:=ui.out;omega,by have:=HKU.out;omega,by have h:=HP.out;rw [fY.out,List.append_assoc,<-mG,show k -n+1=k+1 -n by have:=HKU.out;omega]at h;exact Lib.hid h⟩
    case measure=>have:=HKU.out;have:=ui.out;omega
def oJ(k:Nat):List Nm:=(List.range k).map fun(i:Nat)=>(1,(i:Int)/8,(i:Int) %8)
theorem nP(k:Nat):oJ (k+1)=oJ k++[(1,(k:Int)/8,(k:Int) %8)]:=by simp [oJ,List.range_succ]
def Lg:List Nm:=ld 33 (ld 25 (ld 17 (oJ 16++[(2,0,0)])++[(3,0,0)])++[(4,0,0)])
def Ra(k:Nat):List Nm:=(List.range k).flatMap fun(t:Nat)=>[((6:Int),(t:Int),(0:Int)),(7,t,0)]++te 6
theorem nG(k:Nat):Ra (k+1)=Ra k++([((6:Int),(k:Int),(0:Int)),(7,k,0)]++te 6):=by simp [Ra,List.range_succ]
def To(t k:Nat):List Nm:=(List.range k).map fun(i:Nat)=>(8,(t:Int),(i:Int))
theorem oP(t k:Nat):To t (k+1)=To t k++[(8,(t:Int),(k:Int))]:=by simp [To,List.range_succ]
def cj(ib k:Nat):List Nm:=(List.range k).flatMap fun(t:Nat)=>To t ib++te (Vd ib -ib)
theorem pJ(ib k:Nat):cj ib (k+1)=cj ib k++(To k ib++te (Vd ib -ib)):=by simp [cj,List.range_succ]
def Ei(s k:Nat):List Nm:=(List.range k).map fun(i:Nat)=>(9+(i:Int),(s:Int),0)
theorem qJ(s k:Nat):Ei s (k+1)=Ei s k++[(9+(k:Int),(s:Int),0)]:=by simp [Ei,List.range_succ]
def mh(k:Nat):List Nm:=(List.range k).flatMap fun(s:Nat)=>Ei s 5++te 3
theorem oG(k:Nat):mh (k+1)=mh k++(Ei k 5++te 3):=by simp [mh,List.range_succ]
def Ud(th sl ib bu:Nat):List Nm:=ld (40+bu) (Lg++fe 5 bu)++Ra th++cj ib th++mh sl
set_option maxRecDepth 100000 in
set_option maxHeartbeats 4000000 in
theorem Us(th sl ib bu:Nat)(h1:th<=64)(h2:sl<=65536)(h3:ib<=64)(h4:bu<=64)(W:World):
  Calls Tryz.prog 41 #[.agg #[.int .i64 (th:Int), .int .i64 (sl:Int), .int .i64 (ib:Int), .int .i64 (bu:Int)]] W (mD (Vd (40+bu)+8*th+Vd ib*th+8*sl) (Ud th sl ib bu) W):=by
 obtain ⟨i64,hi,Bx,Mi,uh⟩:=info_parts nJ
 go_enter Tryz.func41,Tryz.ntmps41
 go_wp2_with fail
 obtain ⟨c,hc⟩:∃c,c=#[Value.int .i64 (th:Int),Value.int .i64 (sl:Int),Value.int .i64 (ib:Int),Value.int .i64 (bu:Int)]:=⟨_,rfl⟩;have H0:Hid (Pb W c 0 (oJ 0) (.slice none 0 0) (W.alloc (.cells #[.int .i64 (th:Int), .int .i64 (sl:Int), .int .i64 (ib:Int), .int .i64 (bu:Int)] 23))):=Lib.hid
  ⟨(Below.refl _ _).alloc (Nat.le_refl _) _,by rw [hc];exact heap_alloc_new _ _,World.ownsRow_nil _ _ _ _⟩
 have Z4:=Lib.hid hc;clear hc
 go_loopw [3,4] (fun v i wr=>∃k:Nat,k<=16/\i= .int .i64 k/\Hid (Pb W c k (oJ k) v wr)) (fun _ i _=>16 -(intOf i).toNat)
 case atStart=>exact ⟨0,Nat.zero_le _,rfl,H0⟩
 case round=>
  obtain ⟨k,hk,rfl,HP⟩:=hrel;obtain ⟨va,vc,rfl⟩:=Xa HP.out.own;have HO:=Lib.hid HP.out.own;have nj:Hid (W.heap.size+1<=_):=Lib.hid (zb HP.out.box);have HK:=HP;clear HP;by_cases Db:k<16
  . have d1:decide ((k:Int)<16)=true:=ga (by omega)
    go_wp2_with (at_builtin;refine Ie rfl _ _ 100 rfl (W.heap.size+1) 154 i64 _ 3 24 Tryz.underlying100 hi Bx Mi uh rfl (by decide) _ nj.out _ _ _ (by rfl) HO.out _ 1 1 (by rfl) (by rfl) (by simp [Value.oneCell']) (by unfold maxLen;first|omega|(simp only [Vd];omega)) (by first|omega|(simp only [Vd];omega)) ?_;intro v' w' ke Ni jh Jc;have HP:=Lib.hid (HK.out.push (fun q hq=>(HO.out.lt q hq).1) ke Ni jh);clear ke Ni jh Jc HO nj HK;obtain ⟨va,vc,rfl⟩:=Xa HP.out.own;have HO:=Lib.hid HP.out.own;have nj:Hid (W.heap.size+1<=_):=Lib.hid (zb HP.out.box);have HK:=HP;clear HP)
    go_roundw
    case rel=>exact ⟨k+1,by omega,by go_num,by rw [nP];exact HK⟩
    case measure=>simp [intOf];omega
  . obtain rfl:k=16:=by omega
    have d1:decide (((16:Nat):Int)<16)=false:=by decide
    clear Db hk H0;obtain ⟨m0,sI⟩:∃m0:Nat,m0=16:=⟨_,rfl⟩;have HM:=Lib.hid sI;obtain ⟨l0,Xo⟩:∃l0,l0=oJ 16:=⟨_,rfl⟩;rw [<-Xo]at HK HO;have fY:=Lib.hid Xo;clear Xo;rw [<-sI]at HK HO⊢;rw [<-sI]at d1;clear sI
    go_wp2_with (first|(at_builtin;refine Ie rfl _ _ 100 rfl (W.heap.size+1) 154 i64 _ 3 24 Tryz.underlying100 hi Bx Mi uh rfl (by decide) _ nj.out _ _ _ (by rfl) HO.out _ 1 1 (by rfl) (by rfl) (by simp [Value.oneCell']) (by unfold maxLen;have:=HM.out;first|omega|(simp only [Vd];omega)) (by have:=HM.out;first|omega|(simp only [Vd];omega)) ?_;intro v' w' ke Ni jh Jc;have HP:=Lib.hid (HK.out.push (fun q hq=>(HO.out.lt q hq).1) ke Ni jh);clear ke Ni jh Jc HO nj HK;obtain ⟨va,vc,rfl⟩:=Xa HP.out.own;have HO:=Lib.hid HP.out.own;have nj:Hid (W.heap.size+1<=_):=Lib.hid (zb HP.out.box);have HK:=HP;clear HP)|(go_at_call 101;refine (nr W c _ (by have:=HM.out;first|omega|(simp only [Vd];omega)) _ _ _ HK.out).mono ?_;rintro e w' ⟨v',rfl,hn⟩;have hn:Pb W c _ _ v' w':=hn;clear HO nj HK;have HP:=Lib.hid hn;clear hn;obtain ⟨va,vc,rfl⟩:=Xa HP.out.own;have HO:=Lib.hid HP.out.own;have nj:Hid (W.heap.size+1<=_):=Lib.hid (zb HP.out.box);have HK:=HP;clear HP))
    clear d1;obtain ⟨m1,uE⟩:∃m1,m1=Vd (Vd (Vd (m0+1)+1)+1):=⟨_,rfl⟩;obtain ⟨l1,GY,HKx⟩:∃l1,l1=ld (Vd (Vd (m0+1)+1)+1) (ld (Vd (m0+1)+1) (ld (m0+1) (l0++[(2,0,0)])++[(3,0,0)])++[(4,0,0)])/\Hid (Pb W c m1 l1 _ _):=⟨_,rfl,by rw [uE];exact HK⟩;rw [<-uE];have vE:Hid (m1=40):=Lib.hid (by rw [uE,HM.out];rfl);have dY:Hid (l1=Lg):=Lib.hid (by rw [GY,fY.out,HM.out];rfl);have HA:Hid (Pb W c (m1+0) (l1++fe 5 0) (.slice va m1 vc) _):=Lib.hid (by rw [show fe 5 0=[]from rfl,List.append_nil,uE];rw [uE]at HKx;exact HKx.out);clear uE GY HK HO nj HKx
    go_loopw [3,5] (fun v i wr=>∃k:Nat,k<=bu/\i= .int .i64 k/\Hid (Pb W c (m1+k) (l1++fe 5 k) v wr)) (fun _ i _=>bu -(intOf i).toNat)
    case atStart=>exact ⟨0,Nat.zero_le _,rfl,HA⟩
    case round=>
     obtain ⟨k,hk,rfl,HP⟩:=hrel;have cb:wr.cell? ⟨W.heap.size,3,none⟩=some (.int .i64 (bu:Int)):=by rw [Wa HP.out.box,Z4.out];rfl
     have X4:=Lib.hid (And.intro hk h4);obtain ⟨va,vc,rfl⟩:=Xa HP.out.own;have HO:=Lib.hid HP.out.own;have nj:Hid (W.heap.size+1<=_):=Lib.hid (zb HP.out.box);have HK:=HP;clear HP;obtain ⟨n0,yC⟩:∃n0,n0=m1+k:=⟨_,rfl⟩;obtain ⟨l2,RK⟩:∃l2,l2=l1++fe 5 k:=⟨_,rfl⟩;rw [<-yC,<-RK]at HK HO;rw [<-yC];have lG:=Lib.hid yC;have MO:=Lib.hid RK;clear yC RK;by_cases Db:k<bu
     . have d1:decide ((k:Int)<(bu:Int))=true:=ga (by omega);have d2:decide (k<bu)=true:=ga Db;have ui:=Lib.hid Db;clear Db
       go_wp2_with (at_builtin;refine Ie rfl _ _ 100 rfl (W.heap.size+1) 154 i64 _ 3 24 Tryz.underlying100 hi Bx Mi uh rfl (by decide) _ nj.out _ _ _ (by rfl) HO.out _ 1 1 (by rfl) (by rfl) (by simp [Value.oneCell']) (by unfold maxLen;have:=lG.out;have:=vE.out;have:=X4.out;first|omega|(simp only [Vd];omega)) (by have:=lG.out;have:=vE.out;have:=X4.out;first|omega|(simp only [Vd];omega)) ?_;intro v' w' ke Ni jh Jc;have HP:=Lib.hid (HK.out.push (fun q hq=>(HO.out.lt q hq).1) ke Ni jh);clear ke Ni jh Jc HO nj HK;obtain ⟨va,vc,rfl⟩:=Xa HP.out.own;have HO:=Lib.hid HP.out.own;have nj:Hid (W.heap.size+1<=_):=Lib.hid (zb HP.out.box);have HK:=HP;clear HP)
       go_roundw
       case rel=>exact ⟨k+1,by have:=ui.out;omega,by go_num,by rw [show m1+(k+1)=n0+1 by have:=lG.out;omega,Up,<-List.append_assoc,<-MO.out];exact HK⟩
       case measure=>have:=ui.out;simp [intOf];omega
     . have d1:decide ((k:Int)<(bu:Int))=false:=ua (by omega);have d2:decide (k<bu)=false:=ua Db;have HE:Hid (k=bu):=Lib.hid (by omega);clear Db hk
       go_wp2_with (go_at_call 101;refine (nr W c _ (by have:=lG.out;have:=vE.out;have:=X4.out;first|omega|(simp only [Vd];omega)) _ _ _ HK.out).mono ?_;rintro e w' ⟨v',rfl,hn⟩;have hn:Pb W c _ _ v' w':=hn;clear HO nj HK;have HP:=Lib.hid hn;clear hn;obtain ⟨va,vc,rfl⟩:=Xa HP.out.own;have HO:=Lib.hid HP.out.own;have nj:Hid (W.heap.size+1<=_):=Lib.hid (zb HP.out.box);have HK:=HP;clear HP)
       obtain ⟨m2,hm2⟩:∃m2,m2=Vd n0:=⟨_,rfl⟩;rw [<-hm2]at HK HO⊢;obtain ⟨l3,hl3,HKx⟩:∃l3,l3=ld n0 l2/\Hid (Pb W c m2 l3 _ _):=⟨_,rfl,HK⟩;have UQ:Hid (l3=ld (40+bu) (Lg++fe 5 bu)):=Lib.hid (by rw [hl3,MO.out,lG.out,vE.out,dY.out,HE.out]);have Kg:Hid (m2=Vd (40+bu)/\m2 %8=0/\m2<=200):=Lib.hid (by rw [hm2,lG.out,vE.out,HE.out];exact ⟨rfl,by unfold Vd;omega,by unfold Vd;omega⟩);have OF:Hid (Pb W c (m2+8*0) (l3++Ra 0) (.slice va m2 vc) _):=Lib.hid (by rw [show Ra 0=[]from rfl,List.append_nil];exact HKx.out);clear hm2 hl3 HK HO nj HKx cb d1 d2
       go_loopw [3,6] (fun v i wr=>∃k:Nat,k<=th/\i= .int .i64 k/\Hid (Pb W c (m2+8*k) (l3++Ra k) v wr)) (fun _ i _=>th -(intOf i).toNat)
       case atStart=>exact ⟨0,Nat.zero_le _,rfl,OF⟩
       case round=>
        obtain ⟨k3,hk3,rfl,HP⟩:=hrel;have cb:wr.cell? ⟨W.heap.size,0,none⟩=some (.int .i64 (th:Int)):=by rw [Wa HP.out.box,Z4.out];rfl
        obtain ⟨va,vc,rfl⟩:=Xa HP.out.own;have HO:=Lib.hid HP.out.own;have nj:Hid (W.heap.size+1<=_):=Lib.hid (zb HP.out.box);have HK:=HP;clear HP;obtain ⟨n3,hn3⟩:∃n3,n3=m2+8*k3:=⟨_,rfl⟩;obtain ⟨l4,hl4⟩:∃l4,l4=l3++Ra k3:=⟨_,rfl⟩;rw [<-hn3,<-hl4]at HK HO;rw [<-hn3];have HN3:Hid (n3=m2+8*k3/\k3<=64):=Lib.hid ⟨hn3,by omega⟩;have HL4:=Lib.hid hl4;clear hn3 hl4;by_cases Db:k3<th
        . have d1:decide ((k3:Int)<(th:Int))=true:=ga (by omega);have d2:decide (k3<th)=true:=ga Db;have ui:=Lib.hid Db;clear Db
          go_wp2_with (first|(at_builtin;refine Ie rfl _ _ 100 rfl (W.heap.size+1) 154 i64 _ 3 24 Tryz.underlying100 hi Bx Mi uh rfl (by decide) _ nj.out _ _ _ (by rfl) HO.out _ 1 1 (by rfl) (by rfl) (by simp [Value.oneCell']) (by unfold maxLen;have:=HN3.out;have:=Kg.out;first|omega|(simp only [Vd];omega)) (by have:=HN3.out;have:=Kg.out;first|omega|(simp only [Vd];omega)) ?_;intro v' w' ke Ni jh Jc;have HP:=Lib.hid (HK.out.push (fun q hq=>(HO.out.lt q hq).1) ke Ni jh);clear ke Ni jh Jc HO nj HK;obtain ⟨va,vc,rfl⟩:=Xa HP.out.own;have HO:=Lib.hid HP.out.own;have nj:Hid (W.heap.size+1<=_):=Lib.hid (zb HP.out.box);have HK:=HP;clear HP)|(go_at_call 101;refine (nr W c _ (by have:=HN3.out;have:=Kg.out;first|omega|(simp only [Vd];omega)) _ _ _ HK.out).mono ?_;rintro e w' ⟨v',rfl,hn⟩;have hn:Pb W c _ _ v' w':=hn;clear HO nj HK;have HP:=Lib.hid hn;clear hn;obtain ⟨va,vc,rfl⟩:=Xa HP.out.own;have HO:=Lib.hid HP.out.own;have nj:Hid (W.heap.size+1<=_):=Lib.hid (zb HP.out.box);have HK:=HP;clear HP))
          go_roundw
          case rel=>exact ⟨k3+1,by have:=ui.out;omega,by go_num,by rw [show m2+8*(k3+1)=Vd (n3+1+1)by have:=HN3.out;have:=Kg.out;unfold Vd;omega,show l3++Ra (k3+1)=ld (n3+1+1) (l4++[(6,(k3:Int),0)]++[(7,(k3:Int),0)])by rw [HL4.out,nG];unfold ld;rw [show Vd (n3+1+1) -(n3+1+1)=6 by have:=HN3.out;have:=Kg.out;unfold Vd;omega];simp];exact HK⟩
          case measure=>have:=ui.out;simp [intOf];omega
        . have d1:decide ((k3:Int)<(th:Int))=false:=ua (by omega);have d2:decide (k3<th)=false:=ua Db;have HE3:Hid (k3=th):=Lib.hid (by omega);clear Db hk3
          go_wp2_with fail
          obtain ⟨L,hL⟩:∃L,L=Vd ib:=⟨_,rfl⟩;have HLL:Hid (L=(ib+7)/8*8/\L<=72/\ib<=L/\ib<=64/\L<ib+8):=Lib.hid (by rw [hL];unfold Vd;omega);have fY:=Lib.hid hL;have HM3:Hid (n3 %8=0/\n3<=800):=Lib.hid (by have:=HN3.out;have:=Kg.out;omega);have HA3:Hid (Pb W c (n3+L*0) (l4++cj ib 0) (.slice va n3 vc) _):=Lib.hid (by rw [show cj ib 0=[]from rfl,List.append_nil];exact HK.out);clear hL HK HO nj cb d1 d2
          go_loopw [3,7] (fun v i wr=>∃k:Nat,k<=th/\i= .int .i64 k/\Hid (Pb W c (n3+L*k) (l4++cj ib k) v wr)) (fun _ i _=>th -(intOf i).toNat)
          case atStart=>exact ⟨0,Nat.zero_le _,rfl,HA3⟩
          case round=>
           obtain ⟨k4,pG,rfl,HP⟩:=hrel;have cb:wr.cell? ⟨W.heap.size,0,none⟩=some (.int .i64 (th:Int)):=by rw [Wa HP.out.box,Z4.out];rfl
           obtain ⟨n4,hn4⟩:∃n4,n4=n3+L*k4:=⟨_,rfl⟩;obtain ⟨l5,hl5⟩:∃l5,l5=l4++cj ib k4:=⟨_,rfl⟩;rw [<-hn4,<-hl5]at HP;have baq:=Lib.hid hl5;clear hl5;have cT:Hid (n4 %8=0/\n4<=5408):=Lib.hid (by
            have h5:L*k4=(ib+7)/8*k4*8:=by rw [HLL.out.1];exact Nat.mul_right_comm _ _ _
            have h6:L*k4<=72*64:=Nat.mul_le_mul HLL.out.2.1 (by omega)
            have:=HM3.out;omega)
           have HQ4:=Lib.hid hn4;clear hn4;obtain ⟨va,vc,rfl⟩:=Xa HP.out.own;have HO:=Lib.hid HP.out.own;have nj:Hid (W.heap.size+1<=_):=Lib.hid (zb HP.out.box);have HK:=HP;clear HP;by_cases Db:k4<th
           . have d1:decide ((k4:Int)<(th:Int))=true:=ga (by omega);have d2:decide (k4<th)=true:=ga Db;have ui:=Lib.hid Db;have HA4:Hid (Pb W c (n4+0) (l5++To k4 0) (.slice va n4 vc) wr):=Lib.hid (by rw [show To k4 0=[]from rfl,List.append_nil];exact HK.out);clear Db
             go_wp2_with fail
             clear HK HO nj cb d1 d2
             go_loopw [3,8] (fun v i wr=>∃k:Nat,k<=ib/\i= .int .i64 k/\Hid (Pb W c (n4+k) (l5++To k4 k) v wr)) (fun _ i _=>ib -(intOf i).toNat)
             case atStart=>exact ⟨0,Nat.zero_le _,rfl,HA4⟩
             case round=>
              obtain ⟨k5,hk5,rfl,HP⟩:=hrel;have cb:wr.cell? ⟨W.heap.size,2,none⟩=some (.int .i64 (ib:Int)):=by rw [Wa HP.out.box,Z4.out];rfl
              obtain ⟨va,vc,rfl⟩:=Xa HP.out.own;have HO:=Lib.hid HP.out.own;have nj:Hid (W.heap.size+1<=_):=Lib.hid (zb HP.out.box);have HK:=HP;clear HP;obtain ⟨n5,hn5⟩:∃n5,n5=n4+k5:=⟨_,rfl⟩;obtain ⟨l6,hl6⟩:∃l6,l6=l5++To k4 k5:=⟨_,rfl⟩;rw [<-hn5,<-hl6]at HK HO;rw [<-hn5];have HN5:Hid (n5=n4+k5/\k5<=64):=Lib.hid ⟨hn5,by omega⟩;have HL6:=Lib.hid hl6;clear hn5 hl6;by_cases Db:k5<ib
              . have d1:decide ((k5:Int)<(ib:Int))=true:=ga (by omega);have d2:decide (k5<ib)=true:=ga Db;have HL5:=Lib.hid Db;clear Db
                go_wp2_with (at_builtin;refine Ie rfl _ _ 100 rfl (W.heap.size+1) 154 i64 _ 3 24 Tryz.underlying100 hi Bx Mi uh rfl (by decide) _ nj.out _ _ _ (by rfl) HO.out _ 1 1 (by rfl) (by rfl) (by simp [Value.oneCell']) (by unfold maxLen;have:=HN5.out;have:=cT.out;first|omega|(simp only [Vd];omega)) (by have:=HN5.out;have:=cT.out;first|omega|(simp only [Vd];omega)) ?_;intro v' w' ke Ni jh Jc;have HP:=Lib.hid (HK.out.push (fun q hq=>(HO.out.lt q hq).1) ke Ni jh);clear ke Ni jh Jc HO nj HK;obtain ⟨va,vc,rfl⟩:=Xa HP.out.own;have HO:=Lib.hid HP.out.own;have nj:Hid (W.heap.size+1<=_):=Lib.hid (zb HP.out.box);have HK:=HP;clear HP)
                go_roundw
                case rel=>exact ⟨k5+1,by have:=HL5.out;omega,by go_num,by rw [show n4+(k5+1)=n5+1 by have:=HN5.out;omega,oP,<-List.append_assoc,<-HL6.out];exact HK⟩
                case measure=>have:=HL5.out;simp [intOf];omega
              . have d1:decide ((k5:Int)<(ib:Int))=false:=ua (by omega);have d2:decide (k5<ib)=false:=ua Db;have HE5:Hid (k5=ib):=Lib.hid (by omega);clear Db hk5
                go_wp2_with (go_at_call 101;refine (nr W c _ (by have:=HN5.out;have:=cT.out;first|omega|(simp only [Vd];omega)) _ _ _ HK.out).mono ?_;rintro e w' ⟨v',rfl,hn⟩;have hn:Pb W c _ _ v' w':=hn;clear HO nj HK;have HP:=Lib.hid hn;clear hn;obtain ⟨va,vc,rfl⟩:=Xa HP.out.own;have HO:=Lib.hid HP.out.own;have nj:Hid (W.heap.size+1<=_):=Lib.hid (zb HP.out.box);have HK:=HP;clear HP)
                go_roundw
                case rel=>exact ⟨k4+1,by have:=ui.out;omega,by go_num,by rw [show l4++cj ib (k4+1)=ld n5 l6 by rw [HL6.out,baq.out,pJ,HE5.out];unfold ld;rw [show Vd n5 -n5=Vd ib -ib by have:=HN5.out;have:=cT.out;have:=HE5.out;unfold Vd;omega];simp,show n3+L*(k4+1)=Vd n5 by(have h7:Vd n5=n4+L:=by(have:=HN5.out;have:=cT.out;have:=HE5.out;have:=HLL.out;unfold Vd;omega));rw [h7,HQ4.out,Nat.mul_succ];omega];exact HK⟩
                case measure=>have:=ui.out;simp [intOf];omega
           . have d1:decide ((k4:Int)<(th:Int))=false:=ua (by omega);have d2:decide (k4<th)=false:=ua Db;have HE4:Hid (k4=th):=Lib.hid (by omega);clear Db pG
             go_wp2_with fail
             obtain ⟨n6,hn6⟩:∃n6,n6=n4:=⟨_,rfl⟩;rw [<-hn6]at HK HO cT HQ4⊢;clear hn6;have HA6:Hid (Pb W c (n6+8*0) (l5++mh 0) (.slice va n6 vc) _):=Lib.hid (by rw [show mh 0=[]from rfl,List.append_nil];exact HK.out);clear HK HO nj cb d1 d2
             go_loopw [3,9] (fun v i wr=>∃k:Nat,k<=sl/\i= .int .i64 k/\Hid (Pb W c (n6+8*k) (l5++mh k) v wr)) (fun _ i _=>sl -(intOf i).toNat)
             case atStart=>exact ⟨0,Nat.zero_le _,rfl,HA6⟩
             case round=>
              obtain ⟨k6,hk6,rfl,HP⟩:=hrel;have cb:wr.cell? ⟨W.heap.size,1,none⟩=some (.int .i64 (sl:Int)):=by rw [Wa HP.out.box,Z4.out];rfl
              obtain ⟨n7,hn7⟩:∃n7,n7=n6+8*k6:=⟨_,rfl⟩;obtain ⟨l7,hl7⟩:∃l7,l7=l5++mh k6:=⟨_,rfl⟩;rw [<-hn7,<-hl7]at HP;have HL7:=Lib.hid hl7;clear hl7;have HN7:Hid (n7=n6+8*k6/\k6<=65536):=Lib.hid ⟨hn7,by omega⟩;clear hn7;obtain ⟨va,vc,rfl⟩:=Xa HP.out.own;have HO:=Lib.hid HP.out.own;have nj:Hid (W.heap.size+1<=_):=Lib.hid (zb HP.out.box);have HK:=HP;clear HP;by_cases Db:k6<sl
              . have d1:decide ((k6:Int)<(sl:Int))=true:=ga (by omega);have d2:decide (k6<sl)=true:=ga Db;have ui:=Lib.hid Db;have HA7:Hid (Pb W c (n7+0) (l7++Ei k6 0) (.slice va n7 vc) wr):=Lib.hid (by rw [show Ei k6 0=[]from rfl,List.append_nil];exact HK.out);clear Db
                go_wp2_with fail
                clear HK HO nj cb d1 d2
                go_loopw [3,10] (fun v i wr=>∃(k:Nat) (j:Int),k<=5/\i= .int .i64 j/\j=9+(k:Int)/\Hid (Pb W c (n7+k) (l7++Ei k6 k) v wr)) (fun _ i _=>14 -(intOf i).toNat)
                case atStart=>exact ⟨0,9,by omega,rfl,by omega,HA7⟩
                case round=>
                 obtain ⟨k8,j8,hk8,rfl,hj8,HP⟩:=hrel;obtain ⟨va,vc,rfl⟩:=Xa HP.out.own;have HO:=Lib.hid HP.out.own;have nj:Hid (W.heap.size+1<=_):=Lib.hid (zb HP.out.box);have HK:=HP;clear HP;obtain ⟨n8,gY⟩:∃n8,n8=n7+k8:=⟨_,rfl⟩;obtain ⟨l8,hl8⟩:∃l8,l8=l7++Ei k6 k8:=⟨_,rfl⟩;rw [<-gY,<-hl8]at HK HO;rw [<-gY];have VQ:Hid (n8=n7+k8/\k8<=5/\j8=9+(k8:Int)):=Lib.hid ⟨gY,hk8,hj8⟩;have daq:=Lib.hid hl8;clear gY hj8 hl8;by_cases Db:j8<=13
                 . have d1:decide (j8<=13)=true:=ga Db;have HL8:=Lib.hid Db;clear Db hk8
                   go_wp2_with (at_builtin;refine Ie rfl _ _ 100 rfl (W.heap.size+1) 154 i64 _ 3 24 Tryz.underlying100 hi Bx Mi uh rfl (by decide) _ nj.out _ _ _ (by rfl) HO.out _ 1 1 (by rfl) (by rfl) (by simp [Value.oneCell']) (by unfold maxLen;have:=VQ.out;have:=HN7.out;have:=cT.out;first|omega|(simp only [Vd];omega)) (by have:=VQ.out;have:=HN7.out;have:=cT.out;first|omega|(simp only [Vd];omega)) ?_;intro v' w' ke Ni jh Jc;have HP:=Lib.hid (HK.out.push (fun q hq=>(HO.out.lt q hq).1) ke Ni jh);clear ke Ni jh Jc HO nj HK;obtain ⟨va,vc,rfl⟩:=Xa HP.out.own;have HO:=Lib.hid HP.out.own;have nj:Hid (W.heap.size+1<=_):=Lib.hid (zb HP.out.box);have HK:=HP;clear HP)
                   go_roundw
                   case rel=>exact ⟨k8+1,j8+1,by have:=HL8.out;have:=VQ.out;omega,by have h8:=VQ.out;have h9:=HL8.out;have hw:wrap64 (j8+1)=j8+1:=(by unfold wrap64;omega);first|rw [hw]|(simp [hw];done)|go_num,by have:=VQ.out;omega,by rw [show n7+(k8+1)=n8+1 by have:=VQ.out;omega,qJ,<-List.append_assoc,<-daq.out,<-VQ.out.2.2];exact HK⟩
                   case measure=>have h9:=HL8.out;have h8:=VQ.out;have hw:wrap64 (j8+1)=j8+1:=(by unfold wrap64;omega);simp [intOf,hw];omega
                 . have d1:decide (j8<=13)=false:=ua Db;have HE8:Hid (k8=5):=Lib.hid (by have:=VQ.out;omega);clear Db hk8
                   go_wp2_with (go_at_call 101;refine (nr W c _ (by have:=VQ.out;have:=HN7.out;have:=cT.out;first|omega|(simp only [Vd];omega)) _ _ _ HK.out).mono ?_;rintro e w' ⟨v',rfl,hn⟩;have hn:Pb W c _ _ v' w':=hn;clear HO nj HK;have HP:=Lib.hid hn;clear hn;obtain ⟨va,vc,rfl⟩:=Xa HP.out.own;have HO:=Lib.hid HP.out.own;have nj:Hid (W.heap.size+1<=_):=Lib.hid (zb HP.out.box);have HK:=HP;clear HP)
                   go_roundw
                   case rel=>exact ⟨k6+1,by have:=ui.out;omega,by go_num,by rw [show l5++mh (k6+1)=ld n8 l8 by rw [daq.out,HL7.out,oG,HE8.out];unfold ld;rw [show Vd n8 -n8=3 by have:=VQ.out;have:=HN7.out;have:=cT.out;have:=HE8.out;unfold Vd;omega];simp,show n6+8*(k6+1)=Vd n8 by have:=VQ.out;have:=HN7.out;have:=cT.out;have:=HE8.out;unfold Vd;omega];exact HK⟩
                   case measure=>have:=ui.out;simp [intOf];omega
              . have d1:decide ((k6:Int)<(sl:Int))=false:=ua (by omega);have d2:decide (k6<sl)=false:=ua Db;have HE6:Hid (k6=sl):=Lib.hid (by omega);clear Db hk6
                go_wp2_with fail
                go_ret
                have e:n7=Vd (40+bu)+8*th+Vd ib*th+8*sl:=by
                 rw [HN7.out.1,HQ4.out,HE6.out,HE4.out,HN3.out.1,HE3.out,Kg.out.1,fY.out]
                have el:l7=Ud th sl ib bu:=by rw [HL7.out,HE6.out,baq.out,HE4.out,HL4.out,HE3.out,UQ.out];rfl
                exact ⟨_,rfl,HK.out.below,by rw [<-e,<-el];exact kG HK.out.own (Nat.le_succ _)⟩
end Go.Proofs.YtfnkmolffhfpoaaGreat
