/- -/
import Derived.Test.YtfnkmolffhfpoaaGreatHb20
import Derived.IntWalk
set_option linter.unusedVariables false
set_option linter.unusedSimpArgs false
namespace Go.Proofs.YtfnkmolffhfpoaaGreat
open Go.RowKit Go.BigFrame
theorem Eb.Pv{W:World}{b n:Nat}{f:Nat->Value}(h:Eb W b n f)(o:Nat)(l:Nat->Int):Eb (Pv W b o l) b n (fun k=>if o<=k/\k<o+8 then .int .u64 (l (k -o))else f k):=by
 refine ((((((((h.set o (.int .u64 (l 0))).set (o+1) (.int .u64 (l 1))).set (o+2) (.int .u64 (l 2))).set (o+3) (.int .u64 (l 3))).set (o+4) (.int .u64 (l 4))).set (o+5) (.int .u64 (l 5))).set (o+6) (.int .u64 (l 6))).set (o+7) (.int .u64 (l 7))).congr fun k _=> ?_
 by_cases hk:o<=k/\k<o+8
 . rw [if_pos hk];obtain ⟨j,rfl⟩:∃j,k=o+j:=⟨k -o,by omega⟩;have hj:j<8:=by omega
   rw [show o+j -o=j by omega];have c:j=0\/j=1\/j=2\/j=3\/j=4\/j=5\/j=6\/j=7:=by omega
   rcases c with rfl|rfl|rfl|rfl|rfl|rfl|rfl|rfl<;>simp [Ed]
 . rw [if_neg hk];have:∀j,j<8->k≠o+j:=fun j hj=>by omega
   unfold Ed;rw [if_neg (this 7 (by omega)),if_neg (this 6 (by omega)),if_neg (this 5 (by omega)),if_neg (this 4 (by omega)),if_neg (this 3 (by omega)),if_neg (this 2 (by omega)),if_neg (this 1 (by omega)),if_neg (show k≠o by omega)]
theorem PI{F:Nat->Prop}{a w:World}(h:Ea F a w){b:Nat}(hb:b<a.heap.size->F b)(o:Nat)(l:Nat->Int):Ea F a (Pv w b o l):=by
 unfold Pv;exact (((((((h.set hb _ _).set hb _ _).set hb _ _).set hb _ _).set hb _ _).set hb _ _).set hb _ _).set hb _ _
def Mv.BG(M:Mv)(i:Nat):Mv:={M with kept:=fun k=>if k/8=i then M.seen k else M.kept k,wr:=Ed M.wr i (M.wr i+1)}
theorem YQ(M:Mv)(i:Nat)(hi:i<M.n)(W:World)(h:Ba W M)(hw:M.wr i<M.wm)(hm:M.wm<=1000000):
  Calls Tryz.prog 174 #[.pointer (some ⟨M.d,0,none⟩), .int .i64 i] W (Cq M (M.BG i) W):=by
 have n:=h.ne;have hw0:=h.yG i hi;refine (IX M.d M.kb M.sb M.wb M.n M.c0 M.c1 M.c2 h.n1 i hi (fun r=>M.kept (i*8+r)) (fun r=>M.seen (i*8+r)) (M.wr i) hw0.1 (by omega) W (by rw [Ma h.dev];rfl) (by rw [Ma h.dev];rfl) (by rw [Ma h.dev];rfl)
  (fun r hr=>h.kept.cell (by omega)) (fun r hr=>h.seen.cell (by omega)) (h.wr.cell hi) h.kept.free h.wr.free (Ne.symm n.dk) (Ne.symm n.kw) (Ne.symm n.dw) (Ne.symm n.ks)).mono ?_
 rintro e W' ⟨hx,w1,⟨hh,hb⟩,rfl⟩;have hT:Ea M.own W w1:=(PI (Ea.refl _ W) (fun _=>Or.inl (by simp [Mv.blocks])) _ _).trans (Ea.Tb hb) (fun _ _ h=>h)
 have o1:∀k,k≠M.kb->w1.heap[k]?=W.heap[k]?:=fun k hk=>by rw [hh];exact Bl hk
 have o:∀k,k≠M.kb->k≠M.wb->(w1.setCell ⟨M.wb,i,none⟩ (.int .i64 (M.wr i+1))).heap[k]?=W.heap[k]?:=fun k hk e=>(aa e).trans (o1 k hk)
 refine ⟨hx, ?_,hT.set (fun _=>Or.inl (by simp [Mv.blocks])) _ _⟩;exact {h with
  row:=(o _ n.mkb n.mw).trans h.row
  dev:=(o _ n.dk n.dw).trans h.dev
  kept:=by
   refine Eb.keep (W:=w1) ?_ (aa n.kw)
   refine Eb.congr (Eb.keep (h.kept.Pv (i*8) (fun r=>M.seen (i*8+r))) (by rw [hh])) fun k hk=> ?_
   show _=Value.int .u64 (if k/8=i then M.seen k else M.kept k)
   by_cases c:i*8<=k/\k<i*8+8
   . rw [if_pos c,if_pos (by omega),show i*8+(k -i*8)=k by omega]
   . rw [if_neg c,if_neg (by omega)]
  seen:=h.seen.keep (o _ (Ne.symm n.ks) n.sw)
  wr:=by
   have:=(h.wr.keep (o1 _ (Ne.symm n.kw))).set i (.int .i64 (M.wr i+1))
   simp only [Mv.BG,ai];exact this
  fb:=h.fb.keep (o _ (Ne.symm n.kf) (Ne.symm n.wf))
  pass:=h.pass.keep (o _ (Ne.symm n.kp) (Ne.symm n.wp))
  fl:=fun t ht=>(h.fl t ht).keep fun g hg=>o g (fun e=>h.alone t ht g hg (by rw [e];simp [Mv.blocks])) (fun e=>h.alone t ht g hg (by rw [e];simp [Mv.blocks]))
  yG:=fun k hk=>by
   show 0<=Ed M.wr i (M.wr i+1) k/\Ed M.wr i (M.wr i+1) k<=M.wm
   by_cases e:k=i
   . rw [e,Ec];omega
   . rw [mc _ _ e];exact h.yG k hk}
def Mv.Qi(M:Mv)(l:List Int):Mv:={M with kept:=fun i=>if l.contains ((i/8:Nat):Int)then M.seen i else M.kept i,wr:=fun n=>if l.contains (n:Int)then M.wr n+1 else M.wr n,wm:=M.wm+1}
theorem QI{W:World}{M:Mv}(h:Ba W M):Ba W (M.Qi []):=by
 exact {h with
  kept:=h.kept
  wr:=h.wr
  yG:=fun k hk=>by
   have:=h.yG k hk
   show 0<=(if([]:List Int).contains (k:Int)then M.wr k+1 else M.wr k)/\(if([]:List Int).contains (k:Int)then M.wr k+1 else M.wr k)<=M.wm+1
   simp;omega}
theorem uE(M:Mv)(l:List Int)(i:Nat)(hi:(i:Int)∉l):(M.Qi l).BG i=M.Qi (l++[(i:Int)]):=by
 unfold Mv.Qi Mv.BG;have e1:(fun k=>if k/8=i then M.seen k else if l.contains ((k/8:Nat):Int)then M.seen k else M.kept k)=fun k=>if(l++[(i:Int)]).contains ((k/8:Nat):Int)then M.seen k else M.kept k:=by
  funext k
  by_cases c:k/8=i
  . simp [c]
  . have:¬((k/8:Nat):Int)=(i:Int):=by omega
    simp [c]
    congr 1
    simp;omega
 have e2:Ed (fun n:Nat=>if l.contains (n:Int)then M.wr n+1 else M.wr n) i ((if l.contains (i:Int)then M.wr i+1 else M.wr i)+1)=fun n:Nat=>if(l++[(i:Int)]).contains (n:Int)then M.wr n+1 else M.wr n:=by
  funext k
  by_cases c:k=i
  . subst c;rw [Ec];simp [hi]
  . rw [mc _ _ c];have:¬((k:Int)=(i:Int)):=by omega
    simp [this]
 simp only [e1,e2]
structure Rv where
 m:Nat
 d:Nat
 kb:Nat
 sb:Nat
 wb:Nat
 fb:Nat
 pb:Nat
 n:Nat
 nt:Nat
 np:Nat
 c0:Nat
 c1:Nat
 c2:Nat
 c3:Nat
 c4:Nat
 fg:Nat->Nat
 fc:Nat->Nat
 kept:Nat->Int
 seen:Nat->Int
 pass:Nat->Int
 wr:Nat->Int
 fl:Nat->Nat->Bool
 ck:Int
 bd:Int
 la:Acc
 wm:Int
def Rv.blocks(M:Rv):List Nat:=[M.m,M.d,M.kb,M.sb,M.wb,M.fb,M.pb]
def Rv.own(M:Rv)(k:Nat):Prop:=k∈M.blocks\/∃t,t<M.nt/\M.fg t=k
structure ma(W:World)(M:Rv):Prop where
 row:W.heap[M.m]?=some (.cells #[.pointer (some ⟨M.d,0,none⟩), .slice (some ⟨M.pb,0,none⟩) M.np M.c4, .int .i64 M.ck, .int .i64 M.bd, .int .i64 M.la.ki, .int .i64 M.la.th, .int .i64 M.la.pl, .int .u64 M.la.ol, .int .u64 M.la.ne, .bool M.la.dn] 141 (0,0))
 dev:W.heap[M.d]?=some (.cells #[.slice (some ⟨M.kb,0,none⟩) (8*M.n) M.c0, .slice (some ⟨M.sb,0,none⟩) (8*M.n) M.c1, .slice (some ⟨M.wb,0,none⟩) M.n M.c2, .slice (some ⟨M.fb,0,none⟩) M.nt M.c3] 148 (0,0))
 kept:Eb W M.kb (8*M.n) fun k=> .int .u64 (M.kept k)
 seen:Eb W M.sb (8*M.n) fun k=> .int .u64 (M.seen k)
 wr:Eb W M.wb M.n fun k=> .int .i64 (M.wr k)
 fb:Eb W M.fb M.nt fun t=> .slice (some ⟨M.fg t,0,none⟩) M.n (M.fc t)
 pass:Eb W M.pb M.np fun k=> .int .u64 (M.pass k)
 fl:∀t,t<M.nt->Eb W (M.fg t) M.n fun k=> .bool (M.fl t k)
 apart:M.blocks.Nodup
 alone:∀t,t<M.nt->M.fg t∉M.blocks
 lone:∀t,t<M.nt->∀t',t'<M.nt->t≠t'->M.fg t≠M.fg t'
 n0:0<M.n
 n1:M.n<=262144
 t1:M.nt<=64
 p1:M.np<=262144
 ak:0<=M.ck
 Qv:0<=M.bd
 zq:M.bd<=M.ck
 yG:∀k,k<M.n->0<=M.wr k/\M.wr k<=M.wm
structure Rv.Ne(M:Rv):Prop where
 md:M.m≠M.d
 mkb:M.m≠M.kb
 ms:M.m≠M.sb
 mw:M.m≠M.wb
 mf:M.m≠M.fb
 mp:M.m≠M.pb
 dk:M.d≠M.kb
 ds:M.d≠M.sb
 dw:M.d≠M.wb
 df:M.d≠M.fb
 dp:M.d≠M.pb
 ks:M.kb≠M.sb
 kw:M.kb≠M.wb
 kf:M.kb≠M.fb
 kp:M.kb≠M.pb
 sw:M.sb≠M.wb
 sf:M.sb≠M.fb
 sp:M.sb≠M.pb
 wf:M.wb≠M.fb
 wp:M.wb≠M.pb
 fp:M.fb≠M.pb
theorem ma.ne{W:World}{M:Rv}(h:ma W M):M.Ne:=by
 have:=h.apart;simp only [Rv.blocks,List.nodup_cons,List.mem_cons,List.not_mem_nil,or_false,not_or,List.nodup_nil,and_true,not_false_eq_true]at this;obtain ⟨⟨a1,a2,a3,a4,a5,a6⟩,⟨b1,b2,b3,b4,b5⟩,⟨c1,c2,c3,c4⟩,⟨d1,d2,d3⟩,⟨e1,e2⟩,f1⟩:=this;exact ⟨a1,a2,a3,a4,a5,a6,b1,b2,b3,b4,b5,c1,c2,c3,c4,d1,d2,d3,e1,e2,f1⟩
theorem ma.lt{W:World}{M:Rv}(h:ma W M){k:Nat}(hk:M.own k):k<W.heap.size:=by
 rcases hk with hk|⟨t,ht,e⟩
 . simp only [Rv.blocks,List.mem_cons,List.not_mem_nil,or_false]at hk;rcases hk with rfl|rfl|rfl|rfl|rfl|rfl|rfl
   . exact (Array.getElem?_eq_some_iff.1 h.row).1
   . exact (Array.getElem?_eq_some_iff.1 h.dev).1
   . exact h.kept.lt
   . exact h.seen.lt
   . exact h.wr.lt
   . exact h.fb.lt
   . exact h.pass.lt
 . rw [<-e];exact (h.fl t ht).lt
theorem ma.keep{W W':World}{M:Rv}(h:ma W M)(e:∀k,M.own k->W'.heap[k]?=W.heap[k]?):ma W' M:=by
 have o:∀k,k∈M.blocks->W'.heap[k]?=W.heap[k]?:=fun k hk=>e k (Or.inl hk)
 exact {h with
  row:=(o _ (by simp [Rv.blocks])).trans h.row
  dev:=(o _ (by simp [Rv.blocks])).trans h.dev
  kept:=h.kept.keep (o _ (by simp [Rv.blocks]))
  seen:=h.seen.keep (o _ (by simp [Rv.blocks]))
  wr:=h.wr.keep (o _ (by simp [Rv.blocks]))
  fb:=h.fb.keep (o _ (by simp [Rv.blocks]))
  pass:=h.pass.keep (o _ (by simp [Rv.blocks]))
  fl:=fun t ht=>(h.fl t ht).keep (e _ (Or.inr ⟨t,ht,rfl⟩))}
theorem ma.JX{W W':World}{M:Rv}{F:Nat->Prop}(h:ma W M)(t:Ea F W W')(hd:∀k,M.own k->¬F k):ma W' M:=
 h.keep fun k hk=>t.block k (h.lt hk) (hd k hk)
theorem ma.below{W W':World}{M:Rv}(h:ma W M)(t:Below W.heap.size W W'):ma W' M:=
 h.keep fun k hk=>t.block k (h.lt hk)
theorem ma.eb{W:World}{M:Rv}(h:ma W M){k:Nat}(hk:W.heap.size<=k):¬M.own k:=fun e=>by have:=h.lt e;omega
def Rv.Ga(M:Rv)(at_:Int):Int×Bool:=fe M.n M.np M.seen M.pass at_
set_option maxRecDepth 100000 in
theorem RI(M:Rv)(at_:Int)(q0:-9223372036854775808<=at_)(q1:at_<=9223372036854775807)(W:World)(h:ma W M):
  Calls Tryz.prog 108 #[.pointer (some ⟨M.m,0,none⟩), .int .i64 at_] W (zh (.tuple #[.int .u64 (M.Ga at_).1, .bool (M.Ga at_).2]) W):=by
 obtain ⟨x0,x1,-⟩:=ae h.row;have y1:W.cell? ⟨M.d,1,none⟩=some (.slice (some ⟨M.sb,0,none⟩) (8*M.n) M.c1):=by rw [Ma h.dev];rfl
 have hn:=h.n1;have hp:=h.p1;have HH:=Lib.hid h;clear h;unfold Rv.Ga;by_cases h0:0<=at_
 . have d0:decide (0<=at_)=true:=ca h0;have d2:decide (at_<0)=false:=ea (by omega);by_cases h1:at_/8<(M.n:Int)
   . rw [show fe M.n M.np M.seen M.pass at_=(M.seen at_.toNat,true)by rw [fe,if_pos h0,if_pos h1]];obtain ⟨k,rfl⟩:=Int.eq_ofNat_of_zero_le h0;have hc:=HH.out.seen.cell (k:=k) (by omega);rw [Int.toNat_natCast];generalize M.seen k=v at*;have d1:decide ((k:Int)<((8*M.n:Nat):Int))=true:=ca (by omega);have f2:(k:Int)<((8*M.n:Nat):Int):=by omega
     obtain ⟨N,hN⟩:∃N,N=8*M.n:=⟨_,rfl⟩;rw [<-hN]at y1 d1 f2;have EP:N<=2097152:=by omega
     clear hN h1
     go_enter Tryz.func108,Tryz.ntmps108
     go_wp2_with fail
     go_ret2
     exact ⟨rfl,Below.refl _ _,rfl⟩
   . rw [show fe M.n M.np M.seen M.pass at_=(0,false)by rw [fe,if_pos h0,if_neg h1]];have d1:decide (at_<((8*M.n:Nat):Int))=false:=ea (by omega);obtain ⟨N,hN⟩:∃N,N=8*M.n:=⟨_,rfl⟩;rw [<-hN]at y1 d1;have EP:N<=2097152:=by omega
     clear hN h1
     go_enter Tryz.func108,Tryz.ntmps108
     go_wp2_with fail
     go_ret2
     exact ⟨rfl,Below.refl _ _,rfl⟩
 . have d0:decide (0<=at_)=false:=ea h0;have d2:decide (at_<0)=true:=ca (by omega);by_cases h1:-1 -at_<(M.np:Int)
   . rw [show fe M.n M.np M.seen M.pass at_=(M.pass (-1 -at_).toNat,true)by rw [fe,if_neg h0,if_pos h1]];have hc:=HH.out.pass.cell (k:=(-1 -at_).toNat) (by omega);generalize M.pass (-1 -at_).toNat=v at*
     obtain ⟨k,hk⟩:=Int.eq_ofNat_of_zero_le (show 0<=-1 -at_ by omega);rw [hk]at hc;have kK:W.cell? ⟨M.pb,k,none⟩=some (.int .u64 v):=hc;obtain rfl:at_=-1 -(k:Int):=by omega
     have f2:(k:Int)<(M.np:Int):=by omega
     have d3:decide (-(M.np:Int)<=-1 -(k:Int))=true:=ca (by omega);have e3:(-1 -(-1 -(k:Int)):Int)=(k:Int):=by omega
     clear hc hk h1
     go_enter Tryz.func108,Tryz.ntmps108
     go_wp2_with fail
     go_ret2
     exact ⟨rfl,Below.refl _ _,rfl⟩
   . rw [show fe M.n M.np M.seen M.pass at_=(0,false)by rw [fe,if_neg h0,if_neg h1]];have d3:decide (-(M.np:Int)<=at_)=false:=ea (by omega);clear h1
     go_enter Tryz.func108,Tryz.ntmps108
     go_wp2_with fail
     go_ret2
     exact ⟨rfl,Below.refl _ _,rfl⟩
def Rv.Jb(M:Rv)(t l:Int):Int:=if Bb M.nt t=0 then yi M.n l else 1
def Rv.Kc(M:Rv)(t l:Int):Rv:={M with fl:=Ed M.fl t.toNat (Ed (M.fl t.toNat) l.toNat true)}
def Zs(M M':Rv)(v:Value)(W:World)(e:Ending)(W':World):Prop:=e= .returned v/\ma W' M'/\Ea M.own W W'
theorem ma.Ys{W:World}{M:Rv}(h:ma W M){t:Nat}(ht:t<M.nt)(j:Nat)(v:Bool):
  ma (W.setCell ⟨M.fg t,j,none⟩ (.bool v)) {M with fl:=Ed M.fl t (Ed (M.fl t) j v)}:=by
 have o:∀k,k∈M.blocks->(W.setCell ⟨M.fg t,j,none⟩ (.bool v)).heap[k]?=W.heap[k]?:=fun k hk=>aa fun e=>h.alone t ht (e▸hk)
 exact {h with
  row:=(o _ (by simp [Rv.blocks])).trans h.row
  dev:=(o _ (by simp [Rv.blocks])).trans h.dev
  kept:=h.kept.keep (o _ (by simp [Rv.blocks]))
  seen:=h.seen.keep (o _ (by simp [Rv.blocks]))
  wr:=h.wr.keep (o _ (by simp [Rv.blocks]))
  fb:=h.fb.keep (o _ (by simp [Rv.blocks]))
  pass:=h.pass.keep (o _ (by simp [Rv.blocks]))
  fl:=fun t' dj=>by
   show Eb _ (M.fg t') M.n fun k=> .bool (Ed M.fl t (Ed (M.fl t) j v) t' k)
   by_cases e:t'=t
   . subst e;rw [Ec];have:=(h.fl _ ht).set j (.bool v)
     simp only [ai];exact this
   . rw [mc _ _ e];exact (h.fl t' dj).keep (aa (h.lone t' dj t ht e))}
theorem Qd{W:World}{b:Nat}{k0 k1 k2 k3:Value}{t:TypeId}(h:W.heap[b]?=some (.cells #[k0,k1,k2,k3] t (0,0))):
  W.cell? ⟨b,0,none⟩=some k0/\W.cell? ⟨b,1,none⟩=some k1/\W.cell? ⟨b,2,none⟩=some k2/\W.cell? ⟨b,3,none⟩=some k3:=by
 refine ⟨?_, ?_, ?_, ?_⟩<;>(rw [cell_of_row _ _ _ _ _ _ h];rfl)
set_option maxRecDepth 100000 in
theorem jm(M:Rv)(t l:Int)(W:World)(h:ma W M):
  Calls Tryz.prog 70 #[.pointer (some ⟨M.d,0,none⟩), .int .i64 0, .int .i64 t, .int .i64 l] W (Zs M (if M.Jb t l=0 then M.Kc t l else M) (.int .i64 (M.Jb t l)) W):=by
 obtain ⟨y0,y1,y2,y3⟩:=Qd h.dev;have hn:=h.n1;have Y1:=h.t1;have HH:=Lib.hid h;clear h;unfold Rv.Jb Bb yi;by_cases h0:t<0
 . have d0:decide (t<0)=true:=ca h0;rw [if_pos (show t<0\/(M.nt:Int)<=t from Or.inl h0),if_neg (by omega:¬((1:Int)=0)),if_neg (by omega:¬((1:Int)=0))];clear h0
   go_enter Tryz.func70,Tryz.ntmps70
   go_wp2_with fail
   go_ret
   exact ⟨rfl,HH.out,Ea.refl _ _⟩
 . have d0:decide (t<0)=false:=ea h0;by_cases h1:(M.nt:Int)<=t
   . have d1:decide ((M.nt:Int)<=t)=true:=ca h1;rw [if_pos (show t<0\/(M.nt:Int)<=t from Or.inr h1),if_neg (by omega:¬((1:Int)=0)),if_neg (by omega:¬((1:Int)=0))];clear h0 h1
     go_enter Tryz.func70,Tryz.ntmps70
     go_wp2_with fail
     go_ret
     exact ⟨rfl,HH.out,Ea.refl _ _⟩
   . have d1:decide ((M.nt:Int)<=t)=false:=ea h1;rw [if_neg (show¬(t<0\/(M.nt:Int)<=t)by omega)];simp only [if_true];by_cases h2:l<0
     . have d2:decide (l<0)=true:=ca h2;rw [if_pos (show l<0\/(M.n:Int)<=l from Or.inl h2),if_neg (by omega:¬((5:Int)=0))];clear h0 h1 h2
       go_enter Tryz.func70,Tryz.ntmps70
       go_wp2_with fail
       go_ret
       exact ⟨rfl,HH.out,Ea.refl _ _⟩
     . have d2:decide (l<0)=false:=ea h2;by_cases h3:(M.n:Int)<=l
       . have d3:decide ((M.n:Int)<=l)=true:=ca h3;rw [if_pos (show l<0\/(M.n:Int)<=l from Or.inr h3),if_neg (by omega:¬((5:Int)=0))];clear h0 h1 h2 h3
         go_enter Tryz.func70,Tryz.ntmps70
         go_wp2_with fail
         go_ret
         exact ⟨rfl,HH.out,Ea.refl _ _⟩
       . have d3:decide ((M.n:Int)<=l)=false:=ea h3;rw [if_neg (show¬(l<0\/(M.n:Int)<=l)by omega)];simp only [if_true];obtain ⟨a,rfl⟩:=Int.eq_ofNat_of_zero_le (show 0<=t by omega);obtain ⟨b,rfl⟩:=Int.eq_ofNat_of_zero_le (show 0<=l by omega);have ha:a<M.nt:=by omega
         have hb:b<M.n:=by omega
         have HS:=Lib.hid (HH.out.Ys ha b true);have HO:Hid (M.own (M.fg a)):=Lib.hid (Or.inr ⟨a,ha,rfl⟩);have g1:=HH.out.fb.cell ha;have g2:=(HH.out.fl a ha).cell hb
         have g3:=(HH.out.fl a ha).free b
         have i0:(0:Int)<=(a:Int):=by omega
         have i1:(a:Int)<(M.nt:Int):=by omega
         have i2:(0:Int)<=(b:Int):=by omega
         have i3:(b:Int)<(M.n:Int):=by omega
         have HE:Hid (M.Kc (a:Int) (b:Int)={M with fl:=Ed M.fl a (Ed (M.fl a) b true)}):=Lib.hid rfl;generalize M.fl a b=u at*;generalize M.fg a=g at*;generalize M.fc a=c at*;obtain ⟨N,hN⟩:∃N,N=M.Kc (a:Int) (b:Int):=⟨_,rfl⟩;rw [<-hN]at HE⊢;have UQ:Hid (ma (W.setCell ⟨g,b,none⟩ (.bool true)) N):=Lib.hid (by rw [HE.out];exact HS.out);clear ha hb h0 h1 h2 h3
         go_enter Tryz.func70,Tryz.ntmps70
         go_wp2_with fail
         go_ret
         exact ⟨rfl,UQ.out,(Ea.refl _ _).set (fun _=>HO.out) _ _⟩
set_option maxRecDepth 100000 in
theorem zp(M:Rv)(t l:Int)(W:World)(h:ma W M)(hn:Bb M.nt t≠0):
  Calls Tryz.prog 70 #[.pointer (some ⟨M.d,0,none⟩), .int .i64 1, .int .i64 t, .int .i64 l] W (Zs M M (.int .i64 1) W):=by
 obtain ⟨y0,y1,y2,y3⟩:=Qd h.dev;have Y1:=h.t1;have HH:=Lib.hid h;clear h;unfold Bb at hn;by_cases h0:t<0
 . have d0:decide (t<0)=true:=ca h0;clear h0 hn
   go_enter Tryz.func70,Tryz.ntmps70
   go_wp2_with fail
   go_ret
   exact ⟨rfl,HH.out,Ea.refl _ _⟩
 . have d0:decide (t<0)=false:=ea h0;have h1:(M.nt:Int)<=t:=by
    rcases Int.lt_or_le t (M.nt:Int)with h|h
    . rw [if_neg (by omega)]at hn;exact absurd rfl hn
    . exact h
   have d1:decide ((M.nt:Int)<=t)=true:=ca h1;clear h0 h1 hn
   go_enter Tryz.func70,Tryz.ntmps70
   go_wp2_with fail
   go_ret
   exact ⟨rfl,HH.out,Ea.refl _ _⟩
theorem ma.YL{W:World}{M:Rv}(h:ma W M)(k:Nat)(v:Int):ma (W.setCell ⟨M.kb,k,none⟩ (.int .u64 v)) {M with kept:=Ed M.kept k v}:=by
 have n:=h.ne;exact {h with
  row:=(aa n.mkb).trans h.row
  dev:=(aa n.dk).trans h.dev
  kept:=by
   have:=h.kept.set k (.int .u64 v);simp only [ai];exact this
  seen:=h.seen.keep (aa (Ne.symm n.ks))
  wr:=h.wr.keep (aa (Ne.symm n.kw))
  fb:=h.fb.keep (aa (Ne.symm n.kf))
  pass:=h.pass.keep (aa (Ne.symm n.kp))
  fl:=fun t ht=>(h.fl t ht).keep (aa fun e=>h.alone t ht (by rw [e];simp [Rv.blocks]))}
theorem ma.PX{W:World}{M:Rv}(h:ma W M)(k:Nat)(v:Int)(h0:0<=v)(h1:v<=M.wm):ma (W.setCell ⟨M.wb,k,none⟩ (.int .i64 v)) {M with wr:=Ed M.wr k v}:=by
 have n:=h.ne;exact {h with
  row:=(aa n.mw).trans h.row
  dev:=(aa n.dw).trans h.dev
  kept:=h.kept.keep (aa n.kw)
  seen:=h.seen.keep (aa n.sw)
  wr:=by
   have:=h.wr.set k (.int .i64 v);simp only [ai];exact this
  fb:=h.fb.keep (aa (Ne.symm n.wf))
  pass:=h.pass.keep (aa (Ne.symm n.wp))
  fl:=fun t ht=>(h.fl t ht).keep (aa fun e=>h.alone t ht (by rw [e];simp [Rv.blocks]))
  yG:=fun j hj=>by
   show 0<=Ed M.wr k v j/\Ed M.wr k v j<=M.wm
   by_cases e:j=k
   . rw [e,Ec];exact ⟨h0,h1⟩
   . rw [mc _ _ e];exact h.yG j hj}
def Rv.upto(M:Rv)(t k:Nat):Rv:={M with kept:=fun i=>if i/8<k/\M.fl t (i/8)=true then M.seen i else M.kept i,wr:=fun j=>if j<k/\M.fl t j=true then M.wr j+1 else M.wr j,wm:=M.wm+1}
def Rv.Kg(M:Rv)(t k j:Nat):Rv:={M.upto t k with kept:=fun i=>if i/8=k/\i %8<j then M.seen i else(M.upto t k).kept i}
theorem QX{W:World}{M:Rv}(h:ma W M)(t:Nat):ma W (M.upto t 0):=by
 exact {h with
  kept:=h.kept.congr fun k _=>by simp [Rv.upto]
  wr:=h.wr.congr fun k _=>by simp [Rv.upto]
  yG:=fun k hk=>by have:=h.yG k hk;simp [Rv.upto];omega}
theorem ZQ(M:Rv)(t k:Nat):M.Kg t k 0=M.upto t k:=by
 unfold Rv.Kg;have:(fun i=>if i/8=k/\i %8<0 then M.seen i else(M.upto t k).kept i)=(M.upto t k).kept:=by funext i;rw [if_neg (by omega)]
 rw [this]
theorem vE(M:Rv)(t k j:Nat)(hj:j<8):{M.Kg t k j with kept:=Ed (M.Kg t k j).kept (8*k+j) (M.seen (8*k+j))}=M.Kg t k (j+1):=by
 have:Ed (M.Kg t k j).kept (8*k+j) (M.seen (8*k+j))=(M.Kg t k (j+1)).kept:=by
  funext i
  show Ed (fun i=>if i/8=k/\i %8<j then M.seen i else(M.upto t k).kept i) (8*k+j) (M.seen (8*k+j)) i=if i/8=k/\i %8<j+1 then M.seen i else(M.upto t k).kept i
  by_cases e:i=8*k+j
  . rw [e,Ec,if_pos (by omega)]
  . rw [mc _ _ e];by_cases c:i/8=k/\i %8<j
    . rw [if_pos c,if_pos (by omega)]
    . rw [if_neg c,if_neg (by omega)]
 rw [this];rfl
theorem ZL(M:Rv)(t k:Nat)(h:M.fl t k=true):{M.Kg t k 8 with wr:=Ed (M.Kg t k 8).wr k (M.wr k+1)}=M.upto t (k+1):=by
 have e1:Ed (M.Kg t k 8).wr k (M.wr k+1)=(M.upto t (k+1)).wr:=by
  funext i
  show Ed (fun j=>if j<k/\M.fl t j=true then M.wr j+1 else M.wr j) k (M.wr k+1) i=if i<k+1/\M.fl t i=true then M.wr i+1 else M.wr i
  by_cases e:i=k
  . rw [e,Ec,if_pos ⟨by omega,h⟩]
  . rw [mc _ _ e];by_cases c:i<k/\M.fl t i=true
    . rw [if_pos c,if_pos ⟨by omega,c.2⟩]
    . rw [if_neg c,if_neg (fun c'=>c ⟨by omega,c'.2⟩)]
 have e2:(M.Kg t k 8).kept=(M.upto t (k+1)).kept:=by
  funext i
  show(if i/8=k/\i %8<8 then M.seen i else if i/8<k/\M.fl t (i/8)=true then M.seen i else M.kept i)=if i/8<k+1/\M.fl t (i/8)=true then M.seen i else M.kept i
  by_cases e:i/8=k
  . rw [if_pos ⟨e,by omega⟩,if_pos ⟨by omega,by rw [e];exact h⟩]
  . rw [if_neg (fun c=>e c.1)];by_cases c:i/8<k/\M.fl t (i/8)=true
    . rw [if_pos c,if_pos ⟨by omega,c.2⟩]
    . rw [if_neg c,if_neg (fun c'=>c ⟨by omega,c'.2⟩)]
 rw [e1]
 show({M.upto t k with kept:=(M.Kg t k 8).kept,wr:=(M.upto t (k+1)).wr}:Rv)=_
 rw [e2];rfl
theorem aR(M:Rv)(t k:Nat)(h:M.fl t k=false):M.upto t (k+1)=M.upto t k:=by
 have e1:(M.upto t (k+1)).wr=(M.upto t k).wr:=by
  funext i
  show(if i<k+1/\M.fl t i=true then M.wr i+1 else M.wr i)=if i<k/\M.fl t i=true then M.wr i+1 else M.wr i
  by_cases e:i=k
  . rw [e,h];simp
  . by_cases c:i<k/\M.fl t i=true
    . rw [if_pos c,if_pos ⟨by omega,c.2⟩]
    . rw [if_neg c,if_neg (fun c'=>c ⟨by omega,c'.2⟩)]
 have e2:(M.upto t (k+1)).kept=(M.upto t k).kept:=by
  funext i
  show(if i/8<k+1/\M.fl t (i/8)=true then M.seen i else M.kept i)=if i/8<k/\M.fl t (i/8)=true then M.seen i else M.kept i
  by_cases e:i/8=k
  . rw [e,h];simp
  . by_cases c:i/8<k/\M.fl t (i/8)=true
    . rw [if_pos c,if_pos ⟨by omega,c.2⟩]
    . rw [if_neg c,if_neg (fun c'=>c ⟨by omega,c'.2⟩)]
 show({M with kept:=(M.upto t (k+1)).kept,wr:=(M.upto t (k+1)).wr,wm:=M.wm+1}:Rv)=_
 rw [e1,e2];rfl
def Rv.ud(M:Rv)(t a b:Nat):Rv:={M with fl:=fun x y=>if x=t/\y<M.n/\(x<a\/x=a/\y<b)then false else M.fl x y}
theorem aM(M:Rv)(t:Nat):M.ud t 0 0=M:=by
 unfold Rv.ud;have:(fun x y=>if x=t/\y<M.n/\(x<0\/x=0/\y<0)then false else M.fl x y)=M.fl:=by funext x y;rw [if_neg (by omega)]
 rw [this]
theorem lC(M:Rv)(t a:Nat):M.ud t a M.n=M.ud t (a+1) 0:=by
 unfold Rv.ud;have:(fun x y=>if x=t/\y<M.n/\(x<a\/x=a/\y<M.n)then false else M.fl x y)=fun x y=>if x=t/\y<M.n/\(x<a+1\/x=a+1/\y<0)then false else M.fl x y:=by
  funext x y
  by_cases c:x=t/\y<M.n/\(x<a\/x=a/\y<M.n)
  . rw [if_pos c,if_pos (by omega)]
  . rw [if_neg c,if_neg (by omega)]
 rw [this]
theorem uz(M:Rv)(t a b:Nat)(h:a≠t):M.ud t a (b+1)=M.ud t a b:=by
 unfold Rv.ud;have:(fun x y=>if x=t/\y<M.n/\(x<a\/x=a/\y<b+1)then false else M.fl x y)=fun x y=>if x=t/\y<M.n/\(x<a\/x=a/\y<b)then false else M.fl x y:=by
  funext x y
  by_cases c:x=t/\y<M.n/\(x<a\/x=a/\y<b+1)
  . rw [if_pos c,if_pos (by omega)]
  . rw [if_neg c,if_neg (by omega)]
 rw [this]
theorem wE(M:Rv)(t b:Nat)(h:b<M.n):{M.ud t t b with fl:=Ed (M.ud t t b).fl t (Ed ((M.ud t t b).fl t) b false)}=M.ud t t (b+1):=by
 have:Ed (M.ud t t b).fl t (Ed ((M.ud t t b).fl t) b false)=(M.ud t t (b+1)).fl:=by
  funext x y
  show Ed (M.ud t t b).fl t (Ed ((M.ud t t b).fl t) b false) x y=if x=t/\y<M.n/\(x<t\/x=t/\y<b+1)then false else M.fl x y
  by_cases e:x=t
  . rw [e,Ec];by_cases e':y=b
    . rw [e',Ec,if_pos (by omega)]
    . rw [mc _ _ e']
      show(if t=t/\y<M.n/\(t<t\/t=t/\y<b)then false else M.fl t y)=_
      by_cases c:y<M.n/\y<b
      . rw [if_pos (by omega),if_pos (by omega)]
      . rw [if_neg (by omega),if_neg (by omega)]
  . rw [mc _ _ e]
    show(if x=t/\y<M.n/\(x<t\/x=t/\y<b)then false else M.fl x y)=_
    rw [if_neg (by omega),if_neg (by omega)]
 rw [this];rfl
def Rv.fenced(M:Rv)(t:Nat):Rv:=(M.upto t M.n).ud t M.nt 0
theorem Ea.drawn{F:Nat->Prop}{a w:World}(h:Ea F a w)(n:Nat):Ea F a {w with drawn:=n}:=⟨h.os,h.tape,h.output,h.size,h.block⟩
theorem ma.drew{w:World}{M:Rv}(h:ma w M):ma w.drew M:=h.keep fun _ _=>rfl
set_option maxRecDepth 100000 in
set_option maxHeartbeats 4000000 in
theorem Tv(M:Rv)(t:Nat)(ht:t<M.nt)(W:World)(h:ma W M)(hw:M.wm<=999999):
  Calls Tryz.prog 70 #[.pointer (some ⟨M.d,0,none⟩), .int .i64 1, .int .i64 t, .int .i64 0] W (Zs M (M.fenced t) (.int .i64 0) W):=by
 obtain ⟨y0,y1,y2,y3⟩:=Qd h.dev;have RX:=h.n1;have Y1:=h.t1;have HH:=Lib.hid h;have HT:=Lib.hid ht;have i0:(0:Int)<=(t:Int):=by omega
 have i1:(t:Int)<(M.nt:Int):=by omega
 have d0:decide ((t:Int)<0)=false:=ea (by omega);have d1:decide (M.nt<=t)=false:=ea (by omega);have HWM:=Lib.hid hw;clear h ht hw
 go_enter Tryz.func70,Tryz.ntmps70
 go_wp2_with fail
 go_loopw [9] (fun i wr=>∃k:Nat,k<=M.n/\i= .int .i64 k/\Hid (ma wr (M.upto t k)/\Ea M.own W wr)) (fun i _=>M.n -(intOf i).toNat)
 case atStart=>exact ⟨0,Nat.zero_le _,rfl,Lib.hid ⟨QX HH.out t,Ea.refl _ _⟩⟩
 case round=>
  obtain ⟨k,hk,rfl,HB⟩:=hrel;obtain ⟨wo,rfl⟩:∃wo:World,wo=wr:=⟨_,rfl⟩;clear y0 y1 y2 y3;obtain ⟨w0,w1,w2,w3⟩:=Qd HB.out.1.dev
  have y0:wo.cell? ⟨M.d,0,none⟩=some (.slice (some ⟨M.kb,0,none⟩) (8*M.n) M.c0):=w0;have y1:wo.cell? ⟨M.d,1,none⟩=some (.slice (some ⟨M.sb,0,none⟩) (8*M.n) M.c1):=w1;have y2:wo.cell? ⟨M.d,2,none⟩=some (.slice (some ⟨M.wb,0,none⟩) M.n M.c2):=w2;have y3:wo.cell? ⟨M.d,3,none⟩=some (.slice (some ⟨M.fb,0,none⟩) M.nt M.c3):=w3;clear w0 w1 w2 w3;have j0:(0:Int)<=(k:Int):=by omega
  by_cases Ab:k<M.n
  . have j1:(k:Int)<(M.n:Int):=by omega
    have j2:decide ((k:Int)<(M.n:Int))=true:=ca j1;have g1:wo.cell? ⟨M.fb,t,none⟩=some (.slice (some ⟨M.fg t,0,none⟩) M.n (M.fc t)):=HB.out.1.fb.cell HT.out
    have g2:wo.cell? ⟨M.fg t,k,none⟩=some (.bool (M.fl t k)):=(HB.out.1.fl t HT.out).cell Ab
    cases hf:M.fl t k with
    |false=>
     rw [hf]at g2;have HE:=Lib.hid (aR M t k hf);clear hf
     go_wp2_with fail
     go_roundw
     case rel=>exact ⟨k+1,by omega,by go_num,Lib.hid (by rw [HE.out];exact HB.out)⟩
     case measure=>simp [intOf];omega
    |true=>
     rw [hf]at g2;have HE:=Lib.hid (ZL M t k hf);clear hf
     go_wp2_with fail
     go_loopw [10] (fun i wr=>∃j:Nat,j<=8/\i= .int .i64 j/\Hid (ma wr (M.Kg t k j)/\Ea M.own W wr)) (fun i _=>8 -(intOf i).toNat)
     case atStart=>exact ⟨0,Nat.zero_le _,rfl,Lib.hid ⟨by rw [ZQ];exact HB.out.1,HB.out.2⟩⟩
     case round=>
      obtain ⟨j,hj,rfl,HC⟩:=hrel;clear y0 y1 y2 y3 g1 g2;obtain ⟨w0,w1,w2,w3⟩:=Qd HC.out.1.dev
      have y0:wr.cell? ⟨M.d,0,none⟩=some (.slice (some ⟨M.kb,0,none⟩) (8*M.n) M.c0):=w0;have y1:wr.cell? ⟨M.d,1,none⟩=some (.slice (some ⟨M.sb,0,none⟩) (8*M.n) M.c1):=w1;have y2:wr.cell? ⟨M.d,2,none⟩=some (.slice (some ⟨M.wb,0,none⟩) M.n M.c2):=w2;clear w0 w1 w2 w3;by_cases hj8:j<8
      . have e2:decide ((j:Int)<8)=true:=ca (by omega);have z1:wr.cell? ⟨M.sb,8*k+j,none⟩=some (.int .u64 (M.seen (8*k+j))):=HC.out.1.seen.cell (by show _<8*M.n;omega)
        have z2:=HC.out.1.kept.cell (k:=8*k+j) (by show _<8*M.n;omega)
        have z2:wr.cell? ⟨M.kb,8*k+j,none⟩=some (.int .u64 ((M.Kg t k j).kept (8*k+j))):=z2;have z3:wr.frozen? ⟨M.kb,8*k+j,none⟩=false:=HC.out.1.kept.free _
        have HS:=Lib.hid (HC.out.1.YL (8*k+j) (M.seen (8*k+j)));rw [vE M t k j hj8]at HS;generalize (M.Kg t k j).kept (8*k+j)=u at*
        generalize M.seen (8*k+j)=v at*;obtain ⟨q,hq⟩:∃q,q=8*k+j:=⟨_,rfl⟩;obtain ⟨N,hN⟩:∃N,N=8*M.n:=⟨_,rfl⟩;rw [<-hq]at z1 z2 z3 HS;rw [<-hN]at y0 y1;have m1:IntKind.i64.wrap (8*(k:Int))=8*(k:Int):=IntWalk.i64_in _ (by omega);have m2:IntKind.i64.wrap (8*(k:Int)+(j:Int))=(q:Int):=by rw [IntWalk.i64_in _ (by omega)];omega
        have m3:(0:Int)<=(q:Int):=by omega
        have m4:(q:Int)<(N:Int):=by omega
        have m5:q<N:=by omega
        clear hq hN
        go_wp2_with fail
        go_region
        go_wp2_with fail
        go_roundw
        case rel=>exact ⟨j+1,by omega,by go_num,Lib.hid ⟨HS.out.drew,((HC.out.2.set (fun _=>Or.inl (by simp [Rv.blocks])) _ _).drawn _)⟩⟩
        case measure=>simp [intOf];omega
      . obtain rfl:j=8:=by omega
        have e2:decide (((8:Nat):Int)<8)=false:=by simp
        have z1:wr.cell? ⟨M.wb,k,none⟩=some (.int .i64 ((M.Kg t k 8).wr k)):=HC.out.1.wr.cell Ab
        have z3:wr.frozen? ⟨M.wb,k,none⟩=false:=HC.out.1.wr.free _
        have z4:(M.Kg t k 8).wr k=M.wr k:=by show(if k<k/\M.fl t k=true then M.wr k+1 else M.wr k)=M.wr k;rw [if_neg (by omega)]
        rw [z4]at z1;have z5:=HH.out.yG k Ab;have z6:=HWM.out;have HS:=Lib.hid (HC.out.1.PX k (M.wr k+1) (by omega) (by show M.wr k+1<=M.wm+1;omega));rw [HE.out]at HS;generalize M.wr k=v at*;have m1:IntKind.i64.wrap (v+1)=v+1:=IntWalk.i64_in _ (by omega)
        go_wp2_with fail
        go_region
        go_wp2_with fail
        go_roundw
        case rel=>exact ⟨k+1,by omega,by go_num,Lib.hid ⟨HS.out.drew,((HC.out.2.set (fun _=>Or.inl (by simp [Rv.blocks])) _ _).drawn _)⟩⟩
        case measure=>simp [intOf];omega
  . obtain rfl:k=M.n:=by omega
    have j2:decide ((M.n:Int)<(M.n:Int))=false:=by simp
    have jh:Hid (ma wo (M.upto t M.n)/\Ea M.own W wo):=HB;clear HB;obtain ⟨R,hR⟩:∃R,R=M.upto t M.n:=⟨_,rfl⟩;have HRn:Hid (R.n=M.n/\R.nt=M.nt/\R.d=M.d/\R.fb=M.fb/\R.fg=M.fg/\R.fc=M.fc/\R.own=M.own/\R.c2=M.c2/\R.wb=M.wb/\R.c3=M.c3):=Lib.hid (by rw [hR];exact ⟨rfl,rfl,rfl,rfl,rfl,rfl,rfl,rfl,rfl,rfl⟩);have HF:Hid (M.fenced t=R.ud t R.nt 0):=Lib.hid (by rw [hR];rfl);rw [<-hR]at jh;clear hR
    go_wp2_with fail
    go_loopw [11] (fun i wr=>∃k:Nat,k<=M.nt/\i= .int .i64 k/\Hid (ma wr (R.ud t k 0)/\Ea M.own W wr)) (fun i _=>M.nt -(intOf i).toNat)
    case atStart=>exact ⟨0,Nat.zero_le _,rfl,Lib.hid ⟨by rw [aM];exact jh.out.1,jh.out.2⟩⟩
    case round=>
     obtain ⟨a,ha,rfl,HC⟩:=hrel;obtain ⟨wb,rfl⟩:∃wb:World,wb=wr:=⟨_,rfl⟩;clear y0 y1 y2 y3;obtain ⟨w0,w1,w2,w3⟩:=Qd HC.out.1.dev
     obtain ⟨r1,r2,r3,r4,r5,r6,r7,r8,r9,SX⟩:=HRn.out;have y1:wb.cell? ⟨M.d,1,none⟩=some (.slice (some ⟨R.sb,0,none⟩) (8*M.n) R.c1):=by rw [<-r3,<-r1];exact w1
     have y2:wb.cell? ⟨M.d,2,none⟩=some (.slice (some ⟨M.wb,0,none⟩) M.n M.c2):=by rw [<-r3,<-r1,<-r8,<-r9];exact w2
     have y3:wb.cell? ⟨M.d,3,none⟩=some (.slice (some ⟨M.fb,0,none⟩) M.nt M.c3):=by rw [<-r3,<-r2,<-r4,<-SX];exact w3
     clear w0 w1 w2 w3 r1 r2 r3 r4 r5 r6 r7 r8 r9 SX;by_cases bM:a<M.nt
     . have e2:decide ((a:Int)<(M.nt:Int))=true:=ca (by omega)
       go_wp2_with fail
       go_loopw [12] (fun i wr=>∃b:Nat,b<=M.n/\i= .int .i64 b/\Hid (ma wr (R.ud t a b)/\Ea M.own W wr)) (fun i _=>M.n -(intOf i).toNat)
       case atStart=>exact ⟨0,Nat.zero_le _,rfl,HC⟩
       case round=>
        obtain ⟨b,hb,rfl,HD⟩:=hrel;clear y1 y2 y3;obtain ⟨w0,w1,w2,w3⟩:=Qd HD.out.1.dev
        obtain ⟨r1,r2,r3,r4,r5,r6,r7,r8,r9,SX⟩:=HRn.out;have y2:wr.cell? ⟨M.d,2,none⟩=some (.slice (some ⟨M.wb,0,none⟩) M.n M.c2):=by rw [<-r3,<-r1,<-r8,<-r9];exact w2
        have y3:wr.cell? ⟨M.d,3,none⟩=some (.slice (some ⟨M.fb,0,none⟩) M.nt M.c3):=by rw [<-r3,<-r2,<-r4,<-SX];exact w3
        by_cases P1:b<M.n
        . have e3:decide ((b:Int)<(M.n:Int))=true:=ca (by omega);by_cases GB:a=t
          . subst GB;have g1:wr.cell? ⟨M.fb,a,none⟩=some (.slice (some ⟨M.fg a,0,none⟩) M.n (M.fc a)):=by
             have:=HD.out.1.fb.cell (k:=a) (by show a<R.nt;rw [r2];exact bM)
             rw [<-r4,<-r5,<-r1,<-r6];exact this
            have g2:wr.cell? ⟨M.fg a,b,none⟩=some (.bool ((R.ud a a b).fl a b)):=by
             have:=(HD.out.1.fl a (by show a<R.nt;rw [r2];exact bM)).cell (k:=b) (by show b<R.n;rw [r1];exact P1)
             rw [<-r5];exact this
            have g3:wr.frozen? ⟨M.fg a,b,none⟩=false:=by
             have:=(HD.out.1.fl a (by show a<R.nt;rw [r2];exact bM)).free b
             rw [<-r5];exact this
            have HS:=Lib.hid (HD.out.1.Ys (t:=a) (by show a<R.nt;rw [r2];exact bM) b false);have HO:Hid (M.own (M.fg a)):=Lib.hid (Or.inr ⟨a,bM,rfl⟩);rw [wE R a b (by rw [r1];exact P1)]at HS;have UQ:Hid (ma (wr.setCell ⟨M.fg a,b,none⟩ (.bool false)) (R.ud a a (b+1))):=Lib.hid (by rw [<-r5];exact HS.out);generalize (R.ud a a b).fl a b=u at*
            generalize M.fg a=g at*;have f1:((a:Int)==(a:Int))=true:=by simp
            clear w0 w1 w2 w3 r1 r2 r3 r4 r5 r6 r7 r8 r9 SX HS
            go_wp2_with fail
            go_roundw
            case rel=>exact ⟨b+1,by omega,by go_num,Lib.hid ⟨UQ.out,HD.out.2.set (fun _=>HO.out) _ _⟩⟩
            case measure=>simp [intOf];omega
          . have f1:((a:Int)==(t:Int))=false:=by simp;omega
            have HE:=Lib.hid (uz R t a b GB);clear w0 w1 w2 w3 r1 r2 r3 r4 r5 r6 r7 r8 r9 SX
            go_wp2_with fail
            go_roundw
            case rel=>exact ⟨b+1,by omega,by go_num,Lib.hid (by rw [HE.out];exact HD.out)⟩
            case measure=>simp [intOf];omega
        . obtain rfl:b=M.n:=by omega
          have e3:decide ((M.n:Int)<(M.n:Int))=false:=by simp
          have HE:=Lib.hid (lC R t a);rw [r1]at HE;clear w0 w1 w2 w3 r1 r2 r3 r4 r5 r6 r7 r8 r9 SX
          go_wp2_with fail
          go_roundw
          case rel=>exact ⟨a+1,by omega,by go_num,Lib.hid (by rw [<-HE.out];exact HD.out)⟩
          case measure=>simp [intOf];omega
     . obtain rfl:a=M.nt:=by omega
       have e2:decide ((M.nt:Int)<(M.nt:Int))=false:=by simp
       have HZ:Hid (ma wb (M.fenced t)):=Lib.hid (by rw [HF.out,HRn.out.2.1];exact HC.out.1)
       go_wp2_with fail
       go_loop [13] (fun i=>∃q:Nat,q<=8*M.n/\i= .int .i64 q) (fun i=>8*M.n -(intOf i).toNat)
       case atStart=>exact ⟨0,Nat.zero_le _,rfl⟩
       case round=>
        obtain ⟨q,hq,rfl⟩:=hrel;obtain ⟨N,hN⟩:∃N,N=8*M.n:=⟨_,rfl⟩;rw [<-hN]at y1 hq⊢;have EP:N<=2097152:=by omega
        clear hN;by_cases hqn:q<N
        . have e3:decide ((q:Int)<(N:Int))=true:=ca (by omega)
          go_wp2_with fail
          go_round
          case rel=>exact ⟨q+1,by omega,by go_num⟩
          case measure=>simp [intOf];omega
        . obtain rfl:q=N:=by omega
          have e3:decide ((q:Int)<(q:Int))=false:=by simp
          go_wp2_with fail
          go_ret
          exact ⟨rfl,HZ.out,HC.out.2⟩
end Go.Proofs.YtfnkmolffhfpoaaGreat
