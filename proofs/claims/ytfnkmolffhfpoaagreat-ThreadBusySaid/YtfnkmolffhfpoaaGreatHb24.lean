/- -/
import Derived.Test.YtfnkmolffhfpoaaGreatHb23
import Derived.Test.YtfnkmolffhfpoaaGreatHb20
import Derived.Deep.LoopGhost
set_option linter.unusedVariables false
set_option linter.unusedSimpArgs false
namespace Go.Proofs.YtfnkmolffhfpoaaGreat
open Go.RowKit Go.BigFrame
theorem Rd{w:World}{base:Nat}{e:TypeId}{size:Nat}{v:Value}{n:Nat}{xs:List Value}(h:w.ownsRow base e size v n xs):∃a m c,v= .slice a m c:=by
 rcases h.2 with⟨rfl,-⟩|⟨g,cap,cur,rfl,-⟩
 . exact ⟨_,_,_,rfl⟩
 . exact ⟨_,_,_,rfl⟩
theorem Ra{w:World}{base:Nat}{e:TypeId}{size:Nat}{v:Value}{n:Nat}{xs:List Value}(h:w.ownsRow base e size v n xs):∃a c,v= .slice a n c:=by
 rcases h.2 with⟨rfl,rfl⟩|⟨g,cap,cur,rfl,-⟩
 . exact ⟨_,_,rfl⟩
 . exact ⟨_,_,rfl⟩
theorem xf{w:World}{base:Nat}{e:TypeId}{size:Nat}{v:Value}{n:Nat}{xs:List Value}(h:w.ownsRow base e size v n xs){k:Nat}(hk:v.ownBlock=some k):base<=k/\k<w.heap.size:=by
 rcases h.2 with⟨rfl,-⟩|⟨g,cap,cur,rfl,hb,hg,-⟩
 . cases hk
 . cases hk;exact ⟨hb,(Array.getElem?_eq_some_iff.1 hg).1⟩
theorem ax{w:World}{base:Nat}{e:TypeId}{size:Nat}{v:Value}{n:Nat}{xs:List Value}(h:w.ownsRow base e size v n xs){k:Nat}(hk:v.ownBlock=some k):∃cs t f,w.heap[k]?=some (.cells cs t f):=by
 rcases h.2 with⟨rfl,-⟩|⟨g,cap,cur,rfl,hb,hg,-⟩
 . cases hk
 . cases hk;exact ⟨_,_,_,hg⟩
theorem Pf{w w':World}{base:Nat}{e:TypeId}{size:Nat}{v:Value}{n:Nat}{xs:List Value}(h:w.ownsRow base e size v n xs)(hk:∀k,v.ownBlock=some k->w'.heap[k]?=w.heap[k]?):w'.ownsRow base e size v n xs:=by
 refine ⟨h.1, ?_⟩;rcases h.2 with hn|⟨g,cap,cur,rfl,hb,hg,rest⟩
 . exact .inl hn
 . exact .inr ⟨g,cap,cur,rfl,hb,(hk g rfl).trans hg,rest⟩
theorem Zf{w:World}{base:Nat}{e:TypeId}{size:Nat}{v:Value}{n:Nat}{xs:List Value}(h:w.ownsRow base e size v n xs)(hn:0<n):∃g cap c,v= .slice (some ⟨g,0,none⟩) n cap/\base<=g/\w.heap[g]?=some (.cells c e (0,0))/\n<=cap/\c.size=cap*size/\∀j,j<n*size->c[j]?=xs[j]?:=by
 rcases h.2 with⟨-,rfl⟩|⟨g,cap,cur,rfl,hb,hg,h1,h2,h3,h4⟩
 . omega
 . refine ⟨g,cap,cur,rfl,hb,hg,h1,h3,fun j hj=> ?_⟩;rw [<-h4,List.getElem?_take,if_pos hj];simp
theorem Ri{W:World}{b o:Nat}{v:Value}(h:W.cell? ⟨b,o,none⟩=some v):∃cs t f,W.heap[b]?=some (.cells cs t f):=by
 unfold World.cell? at h
 split at h
 . rename_i c t f e;exact ⟨c,t,f,e⟩
 . cases h
def pq(W W':World):Prop:=∀(k:Nat) (o:Obj),W.heap[k]?=some o->o.isCells=false->W'.heap[k]?=some o
theorem pq.trans{A B C:World}(h:pq A B)(k:pq B C):pq A C:=fun q o a b=>k q o (h q o a b) b
theorem bJ{W:World}{p o:Nat}{v u:Value}(h:W.cell? ⟨p,o,none⟩=some u)(j:Nat):pq W (W.setCell ⟨p,j,none⟩ v):=fun k ob hk hc=>by
 by_cases e:k=p
 . subst e;obtain ⟨cs,t,f,he⟩:=Ri h;rw [hk]at he;cases he;cases hc
 . rw [aa e];exact hk
structure Je(w0 W:World)(po b2 b3 b off n cap:Nat)(f:Nat->Int)(k j:Nat):Prop where
 below:Below w0.heap.size w0 W
 parts:Fl W b2 b3 b off n cap k
 out:∃v,W.cell? ⟨po,0,none⟩=some v/\W.ownsRow w0.heap.size 259 8 v j (Fc f (8*j))/\v.ownBlock≠some po/\v.ownBlock≠some b2/\v.ownBlock≠some b3
 fpo:W.frozen? ⟨po,0,none⟩=false
 h1:w0.heap.size<=po/\po<W.heap.size
 h2:w0.heap.size<=b2/\b2<W.heap.size
 h3:w0.heap.size<=b3/\b3<W.heap.size
theorem Fl.keep{W W':World}{b2 b3 b off n cap k:Nat}(h:Fl W b2 b3 b off n cap k)(e2:W'.heap[b2]?=W.heap[b2]?)(e3:W'.heap[b3]?=W.heap[b3]?):Fl W' b2 b3 b off n cap k:=by
 obtain ⟨A,a,c2,c3,f2⟩:=h;exact ⟨A,a,(cell_of_heap e2 0).trans c2,(cell_of_heap e3 0).trans c3,(frozen_of_heap e2 0).trans f2⟩
theorem Je.same{w0 W W':World}{po b2 b3 b off n cap:Nat}{f:Nat->Int}{k j:Nat}(h:Je w0 W po b2 b3 b off n cap f k j)(hs:W.heap.size<=W'.heap.size)
  (he:∀(g:Nat) (cs:Array Value) (t:TypeId) (q:Nat×Nat),W.heap[g]?=some (.cells cs t q)->W'.heap[g]?=some (.cells cs t q))(hb:Below w0.heap.size w0 W'):Je w0 W' po b2 b3 b off n cap f k j:=by
 have e:∀g:Nat,(∃cs t q,W.heap[g]?=some (.cells cs t q))->W'.heap[g]?=W.heap[g]?:=fun g ⟨cs,t,q,hg⟩=>(he g cs t q hg).trans hg.symm
 obtain ⟨A,a,c2,c3,f2⟩:=h.parts;obtain ⟨v,hv,ho,n1,n2,n3⟩:=h.out;refine ⟨hb,h.parts.keep (e _ (Ri c2)) (e _ (Ri c3)),⟨v,(cell_of_heap (e _ (Ri hv)) 0).trans hv,Pf ho fun q hq=>e _ (ax ho hq),n1,n2,n3⟩,(frozen_of_heap (e _ (Ri hv)) 0).trans h.fpo,
  ⟨h.h1.1,by have:=h.h1.2;omega⟩,⟨h.h2.1,by have:=h.h2.2;omega⟩,⟨h.h3.1,by have:=h.h3.2;omega⟩⟩
theorem Je.grow{w0 W W':World}{po b2 b3 b off n cap:Nat}{f:Nat->Int}{k j:Nat}(h:Je w0 W po b2 b3 b off n cap f k j)(hb:Below W.heap.size W W'):Je w0 W' po b2 b3 b off n cap f k j:=
 h.same hb.size (fun g cs t f he=>(hb.block g (Array.getElem?_eq_some_iff.1 he).1).trans he) (h.below.trans (hb.mono h.below.size))
theorem grownBy_putObj'(W:World)(l:Nat)(o':Obj):W.grownBy (W.putObj l o') (some l):=
 ⟨rfl,rfl,rfl,by simp [World.putObj],fun i hi Jc=>World.putObj_heap_other (fun e=>Jc (by rw [e]))⟩
theorem Je.put{w0 W:World}{po b2 b3 b off n cap:Nat}{f:Nat->Int}{k j:Nat}(h:Je w0 W po b2 b3 b off n cap f k j){l:Nat}{o:Obj}(hl:W.heap[l]?=some o)(ho:o.isCells=false)(hw:w0.heap.size<=l)(o':Obj):Je w0 (W.putObj l o') po b2 b3 b off n cap f k j:=by
 have hg:=grownBy_putObj' W l o';refine h.same hg.size (fun g cs t f he=> ?_) (h.below.grown hg h.below.size (fun k e=>by cases e;exact hw));rw [World.putObj_heap_other (by rintro rfl;rw [hl]at he;cases he;cases ho)];exact he
theorem Je.next{w0 W:World}{po b2 b3 b off n cap:Nat}{f:Nat->Int}{k j:Nat}(h:Je w0 W po b2 b3 b off n cap f k j)(n1:po≠b2)(n2:b2≠b3){A:Option Addr}(hA:8*(k+1+1)<=n->A=some ⟨b,off+8*(k+1),none⟩):
  Je w0 (W.setCell ⟨b2,0,none⟩ (.slice A (n -8*(k+1)) (cap -8*(k+1)))) po b2 b3 b off n cap f (k+1) j:=by
 obtain ⟨A0,a,c2,c3,f2⟩:=h.parts;obtain ⟨v,hv,ho,m1,m2,m3⟩:=h.out;refine ⟨h.below.setCell h.h2.1 _,⟨A,hA,Hk _ c2,(cell_of_heap (aa (Ne.symm n2)) 0).trans c3,by rw [World.frozen?_setCell];exact f2⟩,⟨v,(cell_of_heap (aa n1) 0).trans hv,Pf ho fun q hq=>aa (fun e=>m2 (e▸hq)),m1,m2,m3⟩,by rw [World.frozen?_setCell];exact h.fpo,
  by simpa using h.h1,by simpa using h.h2,by simpa using h.h3⟩
theorem Je.add{w0 W W1 w':World}{po b2 b3 b off n cap:Nat}{f:Nat->Int}{k:Nat}(h:Je w0 W po b2 b3 b off n cap f k k)(n1:po≠b2)(n2:b2≠b3)(n3:po≠b3){v v':Value}(hv:W.cell? ⟨po,0,none⟩=some v)(hb:Below W.heap.size W W1)
  (OH:w'.ownsRow w0.heap.size 259 8 v' (k+1) (Fc f (8*(k+1))))(hg:W1.grownBy w' v.ownBlock)(xD:v'.ownBlock=v.ownBlock\/v'.ownBlock=some W1.heap.size):
  Je w0 (w'.setCell ⟨po,0,none⟩ v') po b2 b3 b off n cap f k (k+1)/\pq W (w'.setCell ⟨po,0,none⟩ v'):=by
 obtain ⟨v0,nT,ho0,m1,m2,m3⟩:=h.out;obtain rfl:v0=v:=by rw [hv]at nT;cases nT;rfl
 obtain ⟨A0,a,c2,c3,f2⟩:=h.parts;have z1:=hb.size;have z2:=hg.size;have kA:∀g,g<W.heap.size->v0.ownBlock≠some g->w'.heap[g]?=W.heap[g]?:=fun g Qp e=>(hg.block g (by omega) (Ne.symm e)).trans (hb.block g Qp)
 have kB:∀g,g<W.heap.size->v0.ownBlock≠some g->g≠po->(w'.setCell ⟨po,0,none⟩ v').heap[g]?=W.heap[g]?:=fun g Qp e e2=>(aa e2).trans (kA g Qp e)
 have nn:∀g,g<W.heap.size->v0.ownBlock≠some g->v'.ownBlock≠some g:=fun g Qp e e2=>by
  rcases xD with q|q
  . exact e (by rw [<-q];exact e2)
  . rw [q]at e2;cases e2;omega
 have l1:=h.h1;have l2:=h.h2;have l3:=h.h3;refine ⟨⟨?_,h.parts.keep (kB b2 l2.2 m2 (Ne.symm n1)) (kB b3 l3.2 m3 (Ne.symm n3)),⟨v',Hk _ ((cell_of_heap (kA po l1.2 m1) 0).trans hv),Pf OH fun q hq=>aa (fun e=>nn po l1.2 m1 (e▸hq)),nn po l1.2 m1,nn b2 l2.2 m2,nn b3 l3.2 m3⟩, ?_, ?_, ?_, ?_⟩, ?_⟩
 . exact ((h.below.trans (hb.mono h.below.size)).grown hg (by have:=h.below.size;omega) (fun q e=>(xf ho0 e).1)).setCell l1.1 _
 . rw [World.frozen?_setCell,frozen_of_heap (kA po l1.2 m1)];exact h.fpo
 . simp only [World.size_setCell];omega
 . simp only [World.size_setCell];omega
 . simp only [World.size_setCell];omega
 . intro q o hq hc;have Ab:=(Array.getElem?_eq_some_iff.1 hq).1
   have Jc:∀{g},(∃cs t f,W.heap[g]?=some (.cells cs t f))->q≠g:=by
    rintro g ⟨cs,t,f,he⟩ rfl;rw [hq]at he;cases he;cases hc
   rw [kB q Ab (fun e=>Jc (ax ho0 e) rfl) (Jc (Ri hv))];exact hq
theorem FE:(Tryz.prog.info? 154).map (fun i=>(i.zero,i.size,i.bytes))=some (some (.agg #[.int .i64 0, .int .i64 0, .int .i64 0]),3,24):=by kernel_rfl
abbrev Nm:=Int×Int×Int
def EA(l:List Nm):List Value:=l.flatMap fun p=>[.int .i64 p.1, .int .i64 p.2.1, .int .i64 p.2.2]
theorem fM(l:List Nm)(a b d:Int):EA (l++[(a,b,d)])=EA l++#[Value.int .i64 a, .int .i64 b, .int .i64 d].toList:=by simp [EA]
theorem jR(l:List Nm):(EA l).length=l.length*3:=by
 induction l with
 |nil=>rfl
 |cons a t ih=>simp only [EA,List.flatMap_cons,List.length_append,List.length_cons,List.length_nil]at*;rw [ih];omega
def Cz(n:Nat)(l:List Nm)(W:World)(e:Ending)(W':World):Prop:=∃v,e= .returned v/\Below W.heap.size W W'/\W'.ownsRow W.heap.size 154 3 v n (EA l)
structure Hb(W:World)(c:Array Value)(n:Nat)(l:List Nm)(v:Value)(wr:World):Prop where
 below:Below W.heap.size W wr
 box:wr.heap[W.heap.size]?=some (.cells c 23 (0,0))
 own:wr.ownsRow (W.heap.size+1) 154 3 v n (EA l)
theorem Hb.push{W wr w':World}{c:Array Value}{n:Nat}{l:List Nm}{v v':Value}(h:Hb W c n l v wr)(hv:∀k,v.ownBlock=some k->W.heap.size+1<=k){a b d:Int}
  (ho:w'.ownsRow (W.heap.size+1) 154 3 v' (n+1) (EA l++#[Value.int .i64 a, .int .i64 b, .int .i64 d].toList))(hg:wr.grownBy w' v.ownBlock)(hb:∀B W0,Below B W0 wr->B<=W.heap.size+1->Below B W0 w'):Hb W c (n+1) (l++[(a,b,d)]) v' w':=
 ⟨hb _ _ h.below (by omega),(hg.block _ (Mb h.box) (fun e=>by have:=hv _ e.symm;omega)).trans h.box,by rw [fM];exact ho⟩
theorem rC{w:World}{b b':Nat}{e:TypeId}{size:Nat}{v:Value}{n:Nat}{xs:List Value}(h:w.ownsRow b e size v n xs)(hb:b'<=b):w.ownsRow b' e size v n xs:=by
 refine ⟨h.1, ?_⟩;rcases h.2 with hn|⟨g,cap,cur,hv,h2,rest⟩
 . exact .inl hn
 . exact .inr ⟨g,cap,cur,hv,Nat.le_trans hb h2,rest⟩
def xd(kind:Int)(k:Nat):List Nm:=(List.range k).map fun(i:Nat)=>(kind,(i:Int),0)
theorem Xm(kind:Int)(k:Nat):xd kind (k+1)=xd kind k++[(kind,(k:Int),0)]:=by simp [xd,List.range_succ]
def Ff(th sl:Nat):List Nm:=[((14:Int),(0:Int),(0:Int)),(15,0,0)]++xd 16 th++xd 17 sl
set_option maxRecDepth 100000 in
theorem bx(th sl:Nat)(Ta bu:Int)(h1:th<=64)(h2:sl<=65536)(W:World):
  Calls Tryz.prog 42 #[.agg #[.int .i64 (th:Int), .int .i64 (sl:Int), .int .i64 Ta, .int .i64 bu]] W (Cz (2+th+sl) (Ff th sl) W):=by
 obtain ⟨i64,hi,ft,Kh,qg⟩:=info_parts FE;obtain ⟨p0,hp0⟩:∃p0:List Nm,p0=[((14:Int),(0:Int),(0:Int)),(15,0,0)]:=⟨_,rfl⟩;unfold Ff;rw [<-hp0];have HP0:=Lib.hid hp0;clear hp0
 go_enter Tryz.func42,Tryz.ntmps42
 go_wp2_with fail
 obtain ⟨c,hc⟩:∃c,c=#[Value.int .i64 (th:Int),Value.int .i64 (sl:Int),Value.int .i64 Ta,Value.int .i64 bu]:=⟨_,rfl⟩;have H0:Hid (Hb W c (2+0) (p0++xd 16 0) (.slice (some ⟨W.heap.size+1,0,none⟩) 2 2) ((W.alloc (.cells #[.int .i64 (th:Int), .int .i64 (sl:Int), .int .i64 Ta, .int .i64 bu] 23)).alloc (.cells #[.int .i64 14, .int .i64 0, .int .i64 0, .int .i64 15, .int .i64 0, .int .i64 0] 154))):=Lib.hid
  ⟨((Below.refl _ _).alloc (Nat.le_refl _) _).alloc (by simp) _,by rw [hc,Below.heap_alloc _ _ _ (by simp)];exact heap_alloc_new _ _,
    by
     have e:EA (p0++xd 16 0)=[.int .i64 14, .int .i64 0, .int .i64 0, .int .i64 15, .int .i64 0, .int .i64 0]:=by rw [HP0.out];rfl
     rw [e];exact ⟨rfl, .inr ⟨W.heap.size+1,2,#[.int .i64 14, .int .i64 0, .int .i64 0, .int .i64 15, .int .i64 0, .int .i64 0],rfl,Nat.le_refl _,by
      have:=heap_alloc_new (W.alloc (.cells #[.int .i64 (th:Int), .int .i64 (sl:Int), .int .i64 Ta, .int .i64 bu] 23)) (.cells #[.int .i64 14, .int .i64 0, .int .i64 0, .int .i64 15, .int .i64 0, .int .i64 0] 154);rw [World.size_alloc]at this;exact this,Nat.le_refl _,by unfold maxLen;omega,rfl,rfl⟩⟩⟩
 have QT:=Lib.hid hc;clear hc
 go_loopw [3,4] (fun v i wr=>∃k:Nat,k<=th/\i= .int .i64 k/\Hid (Hb W c (2+k) (p0++xd 16 k) v wr)) (fun _ i _=>th -(intOf i).toNat)
 case atStart=>exact ⟨0,Nat.zero_le _,rfl,H0⟩
 case round=>
  obtain ⟨k,hk,rfl,HK⟩:=hrel;have cb:wr.cell? ⟨W.heap.size,0,none⟩=some (.int .i64 (th:Int)):=by rw [Ma HK.out.box,QT.out];rfl
  by_cases Ab:k<th
  . have d1:decide ((k:Int)<(th:Int))=true:=ca (by omega);obtain ⟨va,vc,rfl⟩:=Ra HK.out.own;have HO:=Lib.hid HK.out.own;have Jh:Hid (W.heap.size+1<=wr.heap.size):=Lib.hid (Mb HK.out.box);have Ah:=Lib.hid Ab;clear Ab;obtain ⟨n0,sB⟩:∃n0,n0=2+k:=⟨_,rfl⟩;obtain ⟨l0,Vl⟩:∃l0,l0=p0++xd 16 k:=⟨_,rfl⟩;rw [<-sB,<-Vl]at HO HK;rw [<-sB];have sC:=Lib.hid sB;have JP:=Lib.hid Vl;clear sB Vl
    go_wp2_with (at_builtin;refine Sd rfl _ _ 100 rfl (W.heap.size+1) 154 i64 _ 3 24 Tryz.underlying100 hi ft Kh qg rfl (by decide) wr Jh.out (.slice va n0 vc) n0 (EA l0) rfl HO.out #[.int .i64 16, .int .i64 (k:Int), .int .i64 0] 1 1 rfl rfl (by simp [Value.oneCell']) (by have:=sC.out;unfold maxLen;omega) (by have:=sC.out;omega) ?_;intro v' w' yd Kk Yf Jc;have HP:=Lib.hid (HK.out.push (fun q hq=>(HO.out.lt q hq).1) yd Kk Yf);clear yd Kk Yf Jc)
    go_roundw
    case rel=>exact ⟨k+1,by have:=Ah.out;omega,by go_num,by have h:=HP.out;rw [sC.out,JP.out,List.append_assoc,<-Xm]at h;exact Lib.hid h⟩
    case measure=>have:=Ah.out;simp [intOf];omega
  . obtain rfl:k=th:=by omega
    have d1:decide ((k:Int)<(k:Int))=false:=by simp
    go_wp2
    obtain ⟨m,hm⟩:∃m,m=2+k:=⟨_,rfl⟩;obtain ⟨p1,KP⟩:∃p1,p1=p0++xd 16 k:=⟨_,rfl⟩;have hM:=HK.out;rw [<-hm,<-KP,show p1=p1++xd 17 0 by simp [xd]]at hM;have HM:=Lib.hid hM;clear hM;have RT:=Lib.hid hm;have HP1:=Lib.hid KP;rw [<-hm];clear HK cb hm H0 KP
    go_loopw [3,5] (fun v i wr=>∃q:Nat,q<=sl/\i= .int .i64 q/\Hid (Hb W c (m+q) (p1++xd 17 q) v wr)) (fun _ i _=>sl -(intOf i).toNat)
    case atStart=>exact ⟨0,Nat.zero_le _,rfl,HM⟩
    case round=>
     obtain ⟨q,hq,rfl,HQ⟩:=hrel;have cb:wr.cell? ⟨W.heap.size,1,none⟩=some (.int .i64 (sl:Int)):=by rw [Ma HQ.out.box,QT.out];rfl
     by_cases Ab:q<sl
     . have d1:decide ((q:Int)<(sl:Int))=true:=ca (by omega);obtain ⟨va,vc,rfl⟩:=Ra HQ.out.own;have HO:=Lib.hid HQ.out.own;have Jh:Hid (W.heap.size+1<=wr.heap.size):=Lib.hid (Mb HQ.out.box);have Ah:=Lib.hid Ab;clear Ab;obtain ⟨n0,sB⟩:∃n0,n0=m+q:=⟨_,rfl⟩;obtain ⟨l0,Vl⟩:∃l0,l0=p1++xd 17 q:=⟨_,rfl⟩;rw [<-sB,<-Vl]at HO HQ;rw [<-sB];have sC:=Lib.hid sB;have JP:=Lib.hid Vl;clear sB Vl
       go_wp2_with (at_builtin;refine Sd rfl _ _ 100 rfl (W.heap.size+1) 154 i64 _ 3 24 Tryz.underlying100 hi ft Kh qg rfl (by decide) wr Jh.out (.slice va n0 vc) n0 (EA l0) rfl HO.out #[.int .i64 17, .int .i64 (q:Int), .int .i64 0] 1 1 rfl rfl (by simp [Value.oneCell']) (by have:=sC.out;have:=RT.out;have:=Ah.out;unfold maxLen;omega) (by have:=sC.out;have:=RT.out;have:=Ah.out;omega) ?_;intro v' w' yd Kk Yf Jc;have HP:=Lib.hid (HQ.out.push (fun q hq=>(HO.out.lt q hq).1) yd Kk Yf);clear yd Kk Yf Jc)
       go_roundw
       case rel=>exact ⟨q+1,by have:=Ah.out;omega,by go_num,by have h:=HP.out;rw [sC.out,JP.out,List.append_assoc,<-Xm]at h;exact Lib.hid h⟩
       case measure=>have:=Ah.out;simp [intOf];omega
     . obtain rfl:q=sl:=by omega
       have d1:decide ((q:Int)<(q:Int))=false:=by simp
       go_wp2
       go_ret
       exact ⟨_,rfl,HQ.out.below,by rw [<-RT.out,<-HP1.out];exact rC HQ.out.own (Nat.le_succ _)⟩
def Hd(n:Nat):Nat:=(n+7)/8*8
def Jd(k:Nat):List Nm:=List.replicate k (0,0,0)
theorem tC(k:Nat):Jd (k+1)=Jd k++[(0,0,0)]:=List.replicate_succ'
def Cc(n:Nat)(l:List Nm):List Nm:=l++Jd (Hd n -n)
def gM(W:World)(c:Array Value)(n:Nat)(l:List Nm)(e:Ending)(w':World):Prop:=∃v',e= .returned v'/\Hb W c (Hd n) (Cc n l) v' w'
set_option maxRecDepth 100000 in
theorem Ao(W:World)(c:Array Value)(n:Nat)(hn:n<=1000000)(l:List Nm)(v:Value)(w:World)(h:Hb W c n l v w):Calls Tryz.prog 101 #[v] w (gM W c n l):=by
 obtain ⟨i64,hi,ft,Kh,qg⟩:=info_parts FE;have H0:Hid (Hb W c n (l++Jd (n -n)) v w):=Lib.hid (by rw [Nat.sub_self,show Jd 0=[]from rfl,List.append_nil];exact h);have HU:Hid (n<=Hd n/\Hd n<=1000008/\Hd n %8=0/\Hd n<n+8):=Lib.hid (by unfold Hd;omega);clear h;unfold gM Cc;generalize Hd n=u at*
 go_enter Tryz.func101,Tryz.ntmps101
 go_wp2_with fail
 go_loopg [0] (u -n) (fun g v wr=>∃k:Nat,k+g=u/\n<=k/\Hid (Hb W c k (l++Jd (k -n)) v wr))
 case atStart=>exact ⟨n,by have:=HU.out;omega,Nat.le_refl _,H0⟩
 case round=>
  obtain ⟨k,hk,hnk,HK⟩:=hrel;obtain ⟨va,vc,rfl⟩:=Ra HK.out.own;have HO:=Lib.hid HK.out.own;have Jh:Hid (W.heap.size+1<=wr.heap.size):=Lib.hid (Mb HK.out.box);have G2:Hid (k+gk=u/\n<=k):=Lib.hid ⟨hk,hnk⟩;clear hk hnk;obtain ⟨l0,Vl⟩:∃l0,l0=l++Jd (k -n):=⟨_,rfl⟩;rw [<-Vl]at HO HK;have JP:=Lib.hid Vl;clear Vl;by_cases Ab:k %8=0
  . have d1:((k:Int) %8==0)=true:=by rw [beq_iff_eq];omega
    have d2:((k:Int) %8 != 0)=false:=by simp [bne,d1]
    have Ah:=Lib.hid Ab;clear Ab
    go_wp2_with fail
    obtain rfl:k=u:=by have:=G2.out;have:=HU.out;have:=Ah.out;omega
    go_ret
    exact ⟨_,rfl,by rw [<-JP.out];exact HK.out⟩
  . have d1:((k:Int) %8==0)=false:=by rw [beq_eq_false_iff_ne];omega
    have d2:((k:Int) %8 != 0)=true:=by simp [bne,d1]
    have Ah:Hid (k<u):=Lib.hid (by have:=G2.out;have:=HU.out;omega);clear Ab
    go_wp2_with (at_builtin;refine Sd rfl _ _ 100 rfl (W.heap.size+1) 154 i64 _ 3 24 Tryz.underlying100 hi ft Kh qg rfl (by decide) wr Jh.out (.slice va k vc) k (EA l0) rfl HO.out #[.int .i64 0, .int .i64 0, .int .i64 0] 1 1 rfl rfl (by simp [Value.oneCell']) (by have:=Ah.out;have:=HU.out;unfold maxLen;omega) (by have:=Ah.out;have:=HU.out;omega) ?_;intro v' w' yd Kk Yf Jc;have HP:=Lib.hid (HK.out.push (fun q hq=>(HO.out.lt q hq).1) yd Kk Yf);clear yd Kk Yf Jc)
    go_roundg (gk -1)
    case rel=>exact ⟨k+1,by have:=G2.out;have:=Ah.out;omega,by have:=G2.out;omega,by have h:=HP.out;rw [JP.out,List.append_assoc,<-tC,show k -n+1=k+1 -n by have:=G2.out;omega]at h;exact Lib.hid h⟩
    case measure=>have:=G2.out;have:=Ah.out;omega
end Go.Proofs.YtfnkmolffhfpoaaGreat
