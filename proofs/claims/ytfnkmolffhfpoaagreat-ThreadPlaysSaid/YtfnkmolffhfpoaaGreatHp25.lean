/- -/
import Derived.Test.YtfnkmolffhfpoaaGreatHp24
import Derived.Deep.RegionHeld3
import Derived.IntWalk
import Derived.Deep.RegionLaw
import Derived.Test.YtfnkmolffhfpoaaGreatHp16
set_option linter.unusedVariables false
set_option linter.unusedSimpArgs false
namespace Go.Proofs.YtfnkmolffhfpoaaGreat
open Go.RowKit Go.BigFrame
set_option maxRecDepth 100000 in
set_option maxHeartbeats 4000000 in
theorem iah(M:Mv)(R:Rv)(W:World)(hM:Ga W M)(hR:za W R)(hA:Alike M R):
  Calls Tryz.prog 14 #[.pointer (some ⟨M.m,0,none⟩), .pointer (some ⟨R.m,0,none⟩)] W (Fc (.bool true) W):=by
 obtain ⟨V,hV⟩:∃V,V=W.heap.size:=⟨_,rfl⟩;have le:∀{w:World},Below V W w->V<=w.heap.size:=fun h=>by rw [hV];exact h.size
 have M20:Hid (∀w,Below V W w->Calls Tryz.prog 72 #[.pointer (some ⟨M.m,0,none⟩)] w (fun e w'=>e= .returned (.int .i64 M.ck)/\Below V W w')):=Lib.hid fun w hw=>(qU M w (hM.below (hV▸hw))).mono fun e w' ⟨h1,h2⟩=>⟨h1,by rw [h2];exact hw⟩
 have M27:Hid (∀w,Below V W w->Calls Tryz.prog 73 #[.pointer (some ⟨M.m,0,none⟩)] w (fun e w'=>e= .returned (.int .i64 M.bd)/\Below V W w')):=Lib.hid fun w hw=>(wap M.m M.bd w (qd (hM.below (hV▸hw)).row).2.2.2.1).mono fun e w' ⟨h1,h2⟩=>⟨h1,by rw [h2];exact hw⟩
 have M22:Hid (∀w,Below V W w->Calls Tryz.prog 74 #[.pointer (some ⟨M.m,0,none⟩)] w (fun e w'=>e= .returned (.agg M.la.cells)/\Below V W w')):=Lib.hid fun w hw=>(G0 M w (hM.below (hV▸hw))).mono fun e w' ⟨h1,h2⟩=>⟨h1,hw.trans (h2.mono (le hw))⟩
 have M23:Hid (∀w,Below V W w->Calls Tryz.prog 48 #[.pointer (some ⟨M.m,0,none⟩)] w (fun e w'=>e= .returned (.pointer (some ⟨M.d,0,none⟩))/\Below V W w')):=Lib.hid fun w hw=>(CS M.m M.d w (qd (hM.below (hV▸hw)).row).1).mono fun e w' ⟨h1,h2⟩=>⟨h1,by rw [h2];exact hw⟩
 have M24:Hid (∀w,Below V W w->Calls Tryz.prog 49 #[.pointer (some ⟨M.d,0,none⟩)] w (fun e w'=>∃g c,e= .returned (.slice (some ⟨g,0,none⟩) (8*M.n) c)/\Below V W w'/\tb w' g (8*M.n) (fun k=> .int .u64 (M.seen k)))):=Lib.hid fun w hw=>(aM M w (hM.below (hV▸hw))).mono fun e w' ⟨g,c,h1,h2,h3,_⟩=>⟨g,c,h1,hw.trans (h2.mono (le hw)),h3⟩
 have M28:Hid (∀w,Below V W w->Calls Tryz.prog 76 #[.pointer (some ⟨M.d,0,none⟩)] w (fun e w'=>∃g c,e= .returned (.slice (some ⟨g,0,none⟩) (8*M.n) c)/\Below V W w'/\tb w' g (8*M.n) (fun k=> .int .u64 (M.kept k)))):=Lib.hid fun w hw=>(F0 M w (hM.below (hV▸hw))).mono fun e w' ⟨g,c,h1,h2,h3,_⟩=>⟨g,c,h1,hw.trans (h2.mono (le hw)),h3⟩
 have war:Hid (∀g c w,Below V W w->tb w g (8*M.n) (fun k=> .int .u64 (M.seen k))->Calls Tryz.prog 75 #[.slice (some ⟨g,0,none⟩) (8*M.n) c, .slice (some ⟨R.sb,0,none⟩) (8*M.n) R.c1] w (fun e w'=>e= .returned (.bool true)/\Below V W w')):=Lib.hid fun g c w hw h=>by
  have hs:=(hR.below (hV▸hw)).seen
  rw [<-hA.n]at hs;exact (bM g R.sb _ c R.c1 (by have:=hM.n1;omega) M.seen R.seen w h hs hA.seen).mono fun e w' ⟨h1,h2⟩=>⟨h1,hw.trans (h2.mono (le hw))⟩
 have xar:Hid (∀g c w,Below V W w->tb w g (8*M.n) (fun k=> .int .u64 (M.kept k))->Calls Tryz.prog 75 #[.slice (some ⟨g,0,none⟩) (8*M.n) c, .slice (some ⟨R.kb,0,none⟩) (8*M.n) R.c0] w (fun e w'=>e= .returned (.bool true)/\Below V W w')):=Lib.hid fun g c w hw h=>by
  have hs:=(hR.below (hV▸hw)).kept
  rw [<-hA.n]at hs;exact (bM g R.kb _ c R.c0 (by have:=hM.n1;omega) M.kept R.kept w h hs hA.kept).mono fun e w' ⟨h1,h2⟩=>⟨h1,hw.trans (h2.mono (le hw))⟩
 have M29:Hid (∀(i:Nat) w,i<M.np->Below V W w->Calls Tryz.prog 77 #[.pointer (some ⟨M.m,0,none⟩), .int .i64 (-1 -(i:Int))] w (fun e w'=>e= .returned (.tuple #[.int .u64 (R.pass i), .bool true])/\Below V W w')):=Lib.hid fun i w hi hw=>by
  have hp:=hM.p1;have:=mL M (-1 -(i:Int)) (by omega) (by omega) w (hM.below (hV▸hw));have e:M.Ua (-1 -(i:Int))=(R.pass i,true):=by
   unfold Mv.Ua Je;rw [if_neg (by omega),if_pos (by omega),show(-1 -(-1 -(i:Int))).toNat=i by omega,hA.pass i hi]
  rw [e]at this;exact this.mono fun e w' ⟨h1,h2,_⟩=>⟨h1,hw.trans (h2.mono (le hw))⟩
 obtain ⟨x0,x1,x2,x3,x4,x5,x6,x7,x8,x9,-⟩:=qd hR.row;obtain ⟨y0,y1,-,-⟩:=Mb hR.dev;rw [<-hA.ck]at x2;rw [<-hA.bd]at x3;rw [<-hA.la]at x4 x5 x6 x7 x8 x9;rw [<-hA.n]at y0 y1;rw [<-hA.np]at x1;have q44:=fun w=>uar M.la M.la w
 have eA:dJ M.la M.la=true:=(Ux _ _).2 rfl
 rw [eA]at q44;have HP:Hid (∀i,i<M.np->W.cell? ⟨R.pb,i,none⟩=some (.int .u64 (R.pass i))/\R.pb<V):=Lib.hid fun i hi=>⟨hR.pass.cell (by rw [<-hA.np];exact hi),by rw [hV];exact hR.pass.lt⟩
 have IG:Hid (R.m<V/\R.d<V):=Lib.hid (by rw [hV];exact ⟨hR.lt (Or.inl (by simp [Rv.blocks])),hR.lt (Or.inl (by simp [Rv.blocks]))⟩);have WH:=hM.p1;have vL:=hM.n1;have HV:Hid (Below V W W/\(∀w,Below V W w->Below W.heap.size W w)):=Lib.hid ⟨Below.refl _ _,fun w h=>hV▸h⟩;clear hM hR hA hV eA le;generalize M.la=la at*;generalize M.ck=ck at*;generalize M.bd=bd at*;generalize M.seen=seen at*;generalize M.kept=kept at*;generalize R.pass=pass at*;obtain ⟨N,hN⟩:∃N,N=8*M.n:=⟨_,rfl⟩;rw [<-hN]at y0 y1 M24 M28 war xar;clear hN vL;obtain ⟨ki,th,pl,ol,ne,dn⟩:=la;simp only [Acc.cells]at q44 M22;generalize M.np=np at*;generalize R.pb=pb at*;generalize R.sb=sb at*;generalize R.kb=kb at*;generalize R.m=rm at*;generalize R.d=rd at*;generalize M.d=d at*;generalize M.m=m at*
 go_enter Tryz.func14,Tryz.ntmps14
 go_wp2_with fail
 go_region_held3 (fun w'=>w'.cell? ⟨rm,0,none⟩=some (.pointer (some ⟨rd,0,none⟩))/\w'.cell? ⟨rm,2,none⟩=some (.int .i64 ck)/\w'.cell? ⟨rm,3,none⟩=some (.int .i64 bd)/\w'.cell? ⟨rm,4,none⟩=some (.int .i64 ki)/\w'.cell? ⟨rm,5,none⟩=some (.int .i64 th)/\w'.cell? ⟨rm,6,none⟩=some (.int .i64 pl)/\w'.cell? ⟨rm,7,none⟩=some (.int .u64 ol)/\w'.cell? ⟨rm,8,none⟩=some (.int .u64 ne)/\w'.cell? ⟨rm,9,none⟩=some (.bool dn)/\w'.cell? ⟨rd,0,none⟩=some (.slice (some ⟨kb,0,none⟩) N R.c0)/\w'.cell? ⟨rd,1,none⟩=some (.slice (some ⟨sb,0,none⟩) N R.c1)) (go_keep) (first|(go_at_call 72;refine (M20.out _ (HV.out.1.drew)).mono ?_;rintro e w1 ⟨rfl,hb⟩;have q1:∀o,w1.cell? ⟨rm,o,none⟩=W.cell? ⟨rm,o,none⟩:=fun o=>hb.cell (p:=⟨rm,o,none⟩) IG.out.1;have q2:∀o,w1.cell? ⟨rd,o,none⟩=W.cell? ⟨rd,o,none⟩:=fun o=>hb.cell (p:=⟨rd,o,none⟩) IG.out.2;have xg:=Lib.hid hb;clear hb)|(go_at_call 73;refine (M27.out _ xg.out).mono ?_;rintro e w2 ⟨rfl,hb⟩;have q1:∀o,w2.cell? ⟨rm,o,none⟩=W.cell? ⟨rm,o,none⟩:=fun o=>hb.cell (p:=⟨rm,o,none⟩) IG.out.1;have q2:∀o,w2.cell? ⟨rd,o,none⟩=W.cell? ⟨rd,o,none⟩:=fun o=>hb.cell (p:=⟨rd,o,none⟩) IG.out.2;have xg:=Lib.hid hb;clear hb)|(go_at_call 74;refine (M22.out _ xg.out).mono ?_;rintro e w3 ⟨rfl,hb⟩;have q1:∀o,w3.cell? ⟨rm,o,none⟩=W.cell? ⟨rm,o,none⟩:=fun o=>hb.cell (p:=⟨rm,o,none⟩) IG.out.1;have q2:∀o,w3.cell? ⟨rd,o,none⟩=W.cell? ⟨rd,o,none⟩:=fun o=>hb.cell (p:=⟨rd,o,none⟩) IG.out.2;have xg:=Lib.hid hb;clear hb)|(go_at_call 48;refine (M23.out _ xg.out).mono ?_;rintro e w4 ⟨rfl,hb⟩;have q1:∀o,w4.cell? ⟨rm,o,none⟩=W.cell? ⟨rm,o,none⟩:=fun o=>hb.cell (p:=⟨rm,o,none⟩) IG.out.1;have q2:∀o,w4.cell? ⟨rd,o,none⟩=W.cell? ⟨rd,o,none⟩:=fun o=>hb.cell (p:=⟨rd,o,none⟩) IG.out.2;have xg:=Lib.hid hb;clear hb)|(go_at_call 49;refine (M24.out _ xg.out).mono ?_;rintro e w5 ⟨g,c,rfl,hb,hr⟩;have HRS:=Lib.hid hr;clear hr;have q1:∀o,w5.cell? ⟨rm,o,none⟩=W.cell? ⟨rm,o,none⟩:=fun o=>hb.cell (p:=⟨rm,o,none⟩) IG.out.1;have q2:∀o,w5.cell? ⟨rd,o,none⟩=W.cell? ⟨rd,o,none⟩:=fun o=>hb.cell (p:=⟨rd,o,none⟩) IG.out.2;have xg:=Lib.hid hb;clear hb)|(go_at_call 76;refine (M28.out _ xg.out).mono ?_;rintro e w6 ⟨g2,c2,rfl,hb,hr⟩;have HRK:=Lib.hid hr;clear hr;have q1:∀o,w6.cell? ⟨rm,o,none⟩=W.cell? ⟨rm,o,none⟩:=fun o=>hb.cell (p:=⟨rm,o,none⟩) IG.out.1;have q2:∀o,w6.cell? ⟨rd,o,none⟩=W.cell? ⟨rd,o,none⟩:=fun o=>hb.cell (p:=⟨rd,o,none⟩) IG.out.2;have xg:=Lib.hid hb;clear hb)|(go_at_call 75;(first|(with_reducible refine (war.out _ _ _ xg.out HRS.out).mono ?_)|(with_reducible refine (xar.out _ _ _ xg.out HRK.out).mono ?_));rintro e w7 ⟨rfl,hb⟩;have q1:∀o,w7.cell? ⟨rm,o,none⟩=W.cell? ⟨rm,o,none⟩:=fun o=>hb.cell (p:=⟨rm,o,none⟩) IG.out.1;have q2:∀o,w7.cell? ⟨rd,o,none⟩=W.cell? ⟨rd,o,none⟩:=fun o=>hb.cell (p:=⟨rd,o,none⟩) IG.out.2;have xg:=Lib.hid hb;clear hb))
 go_wp2_with fail
 go_loopw [5] (fun i wr=>∃k:Nat,k<=np/\i= .int .i64 k/\Hid (Below V W wr)) (fun i _=>np -(intOf i).toNat)
 case atStart=>exact ⟨0,Nat.zero_le _,rfl,xg⟩
 case round=>
  obtain ⟨k,hk,rfl,HB⟩:=hrel;have k0:wr.cell? ⟨rm,0,none⟩=some (.pointer (some ⟨rd,0,none⟩)):=(HB.out.cell (p:=⟨rm,0,none⟩) IG.out.1).trans x0
  have k1:wr.cell? ⟨rm,1,none⟩=some (.slice (some ⟨pb,0,none⟩) np R.c4):=(HB.out.cell (p:=⟨rm,1,none⟩) IG.out.1).trans x1
  by_cases Db:k<np
  . have e1:decide ((k:Int)<(np:Int))=true:=ga (by omega);have i0:(0:Int)<=(k:Int):=by omega
    have i1:(k:Int)<(np:Int):=by omega
    have i2:wrap64 (-1 -(k:Int))=-1 -(k:Int):=by unfold wrap64;omega
    have HC:=Lib.hid (M29.out k wr Db HB.out);have HPK:=Lib.hid (HP.out k Db);generalize pass k=v at*
    go_wp2_with fail
    with_reducible refine HC.out.mono ?_
    rintro e wq ⟨rfl,hb⟩;have g1:wq.cell? ⟨rm,1,none⟩=some (.slice (some ⟨pb,0,none⟩) np R.c4):=(hb.cell (p:=⟨rm,1,none⟩) IG.out.1).trans x1
    have g2:wq.cell? ⟨pb,k,none⟩=some (.int .u64 v):=(hb.cell (p:=⟨pb,k,none⟩) HPK.out.2).trans HPK.out.1
    have Iz:=Lib.hid hb;clear hb
    go_wp2_with fail
    go_roundw
    case rel=>exact ⟨k+1,by omega,by go_num,Iz⟩
    case measure=>simp [intOf];omega
  . obtain rfl:k=np:=by omega
    have e1:decide ((k:Int)<(k:Int))=false:=by simp
    go_wp2_with fail
    go_ret
    exact ⟨rfl,HV.out.2 _ HB.out⟩
structure Hn(W0 wr:World)(D:Nat)(kv sv wv fv:Value)(k j:Nat)(f:Nat->Int):Prop where
 row:wr.heap[D]?=some (.cells #[kv,sv,wv,fv] 148 (0,0))
 kept:wr.ownsRow W0.heap.size 43 1 kv k (od f k)
 seen:wr.ownsRow W0.heap.size 43 1 sv j (od f j)
 base:W0.heap.size<=D
 n1:kv.ownBlock≠some D
 n2:sv.ownBlock≠some D
 n3:∀g,kv.ownBlock=some g->sv.ownBlock≠some g
 below:Below W0.heap.size W0 wr
theorem ru(f:Nat->Int)(k:Nat):od f (k+1)=od f k++[.int .u64 (f k)]:=by
 unfold od;rw [List.range_succ,List.map_append];rfl
theorem Hn.yar{W0 wr w1:World}{D:Nat}{kv sv wv fv v':Value}{k j:Nat}{f:Nat->Int}(h:Hn W0 wr D kv sv wv fv k j f){w:World}(hb:Below wr.heap.size wr w)(ho:w1.ownsRow W0.heap.size 43 1 v' (k+1) (od f k++[.int .u64 (f k)]))(hg:w.grownBy w1 kv.ownBlock)
  (hv:v'.ownBlock=kv.ownBlock\/v'.ownBlock=some w.heap.size):Hn W0 (w1.setCell ⟨D,0,none⟩ v') D v' sv wv fv (k+1) j f:=by
 have hD:=(Array.getElem?_eq_some_iff.1 h.row).1
 have s1:=hb.size;have s2:=hg.size;have kA:∀g,g<wr.heap.size->kv.ownBlock≠some g->w1.heap[g]?=wr.heap[g]?:=fun g hl e=>(hg.block g (by omega) (Ne.symm e)).trans (hb.block g hl)
 have ns:∀g,sv.ownBlock=some g->kv.ownBlock≠some g:=fun g a b=>h.n3 g b a
 refine ⟨?_,Og (by rw [ru];exact ho) fun g e=>aa fun e2=> ?_,Og h.seen fun g e=>(aa fun(e2:g=D)=>h.n2 (e2▸e)).trans (kA g (wg h.seen e).2 (ns g e)),h.base, ?_,h.n2,fun g e=> ?_, ?_⟩
 . have:=heap_set (j:=0) v' ((kA D hD h.n1).trans h.row)
   simpa using this
 . subst e2;rcases hv with q|q
   . exact h.n1 (by rw [<-q];exact e)
   . rw [q]at e;cases e;omega
 . intro e;rcases hv with q|q
   . exact h.n1 (by rw [<-q];exact e)
   . rw [q]at e;cases e;omega
 . rcases hv with q|q
   . exact h.n3 g (by rw [<-q];exact e)
   . rw [q]at e;cases e;intro e2;have:=(wg h.seen e2).2;omega
 . exact ((h.below.trans (hb.mono h.below.size)).grown hg (by have:=h.below.size;omega) (fun q e=>(wg h.kept e).1)).setCell h.base _
theorem Hn.zar{W0 wr w1:World}{D:Nat}{kv sv wv fv v':Value}{k j:Nat}{f:Nat->Int}(h:Hn W0 wr D kv sv wv fv k j f){w:World}(hb:Below wr.heap.size wr w)(ho:w1.ownsRow W0.heap.size 43 1 v' (j+1) (od f j++[.int .u64 (f j)]))(hg:w.grownBy w1 sv.ownBlock)
  (hv:v'.ownBlock=sv.ownBlock\/v'.ownBlock=some w.heap.size):Hn W0 (w1.setCell ⟨D,1,none⟩ v') D kv v' wv fv k (j+1) f:=by
 have hD:=(Array.getElem?_eq_some_iff.1 h.row).1
 have s1:=hb.size;have s2:=hg.size;have kA:∀g,g<wr.heap.size->sv.ownBlock≠some g->w1.heap[g]?=wr.heap[g]?:=fun g hl e=>(hg.block g (by omega) (Ne.symm e)).trans (hb.block g hl)
 refine ⟨?_,Og h.kept fun g e=>(aa fun(e2:g=D)=>h.n1 (e2▸e)).trans (kA g (wg h.kept e).2 (h.n3 g e)),Og (by rw [ru];exact ho) fun g e=>aa fun e2=> ?_,h.base,h.n1, ?_,fun g e=> ?_, ?_⟩
 . have:=heap_set (j:=1) v' ((kA D hD h.n2).trans h.row)
   simpa using this
 . subst e2;rcases hv with q|q
   . exact h.n2 (by rw [<-q];exact e)
   . rw [q]at e;cases e;omega
 . intro e;rcases hv with q|q
   . exact h.n2 (by rw [<-q];exact e)
   . rw [q]at e;cases e;omega
 . rcases hv with q|q
   . rw [q];exact h.n3 g e
   . rw [q];intro e2;cases e2;have:=(wg h.kept e).2;omega
 . exact ((h.below.trans (hb.mono h.below.size)).grown hg (by have:=h.below.size;omega) (fun q e=>(wg h.seen e).1)).setCell h.base _
def xp(fg:Nat->Nat)(m k:Nat):List Value:=(List.range k).map fun i=> .slice (some ⟨fg i,0,none⟩) m m
theorem OJ(fg:Nat->Nat)(m k:Nat):xp fg m (k+1)=xp fg m k++[.slice (some ⟨fg k,0,none⟩) m m]:=by
 unfold xp;rw [List.range_succ,List.map_append];rfl
theorem RP(fg:Nat->Nat)(m k q:Nat):xp (nd fg k q) m k=xp fg m k:=by
 unfold xp;apply List.map_congr_left;intro i hi;rw [Kb _ _ (by have:=List.mem_range.1 hi;omega)]
theorem SP(fg:Nat->Nat)(m k i:Nat)(h:i<k):(xp fg m k)[i]?=some (.slice (some ⟨fg i,0,none⟩) m m):=by
 unfold xp;rw [List.getElem?_map,List.getElem?_range h];rfl
structure GD(W0 wr:World)(D kb sb wb c0 c1:Nat)(fv:Value)(k m:Nat)(fg:Nat->Nat)(f:Nat->Int):Prop where
 row:wr.heap[D]?=some (.cells #[.slice (some ⟨kb,0,none⟩) (8*m) c0, .slice (some ⟨sb,0,none⟩) (8*m) c1, .slice (some ⟨wb,0,none⟩) m m,fv] 148 (0,0))
 rk:tb wr kb (8*m) fun k=> .int .u64 (f k)
 rs:tb wr sb (8*m) fun k=> .int .u64 (f k)
 rw:tb wr wb m fun _=> .int .i64 0
 fl:wr.ownsRow W0.heap.size 225 1 fv k (xp fg m k)
 rf:∀i,i<k->tb wr (fg i) m fun _=> .bool false
 ap:[D,kb,sb,wb].Nodup
 a1:∀i,i<k->fg i∉[D,kb,sb,wb]
 a2:∀i,i<k->∀j,j<k->i≠j->fg i≠fg j
 a3:∀g,fv.ownBlock=some g->g∉[D,kb,sb,wb]/\∀i,i<k->fg i≠g
 base:∀g,g∈[D,kb,sb,wb]->W0.heap.size<=g
 bf:∀i,i<k->W0.heap.size<=fg i
 below:Below W0.heap.size W0 wr
theorem GD.add{W0 wr w1:World}{D kb sb wb c0 c1:Nat}{fv v':Value}{k m:Nat}{fg:Nat->Nat}{f:Nat->Int}(h:GD W0 wr D kb sb wb c0 c1 fv k m fg f){w:World}{q:Nat}(hb:Below wr.heap.size wr w)(hq:wr.heap.size<=q)(hr:tb w q m fun _=> .bool false)
  (ho:w1.ownsRow W0.heap.size 225 1 v' (k+1) (xp fg m k++[.slice (some ⟨q,0,none⟩) m m]))(hg:w.grownBy w1 fv.ownBlock)(hv:v'.ownBlock=fv.ownBlock\/v'.ownBlock=some w.heap.size):
  GD W0 (w1.setCell ⟨D,3,none⟩ v') D kb sb wb c0 c1 v' (k+1) m (nd fg k q) f:=by
 have s1:=hb.size;have s2:=hg.size;have lq:=hr.lt;have s0:=h.below.size;have hD:=(Array.getElem?_eq_some_iff.1 h.row).1
 have nf:∀g,g∈[D,kb,sb,wb]->fv.ownBlock≠some g:=fun g hg e=>(h.a3 g e).1 hg
 have nfg:∀i,i<k->fv.ownBlock≠some (fg i):=fun i hi e=>(h.a3 _ e).2 i hi rfl
 have kA:∀g,g<wr.heap.size->fv.ownBlock≠some g->w1.heap[g]?=wr.heap[g]?:=fun g hl e=>(hg.block g (by omega) (Ne.symm e)).trans (hb.block g hl)
 have kB:∀g,g<wr.heap.size->fv.ownBlock≠some g->g≠D->(w1.setCell ⟨D,3,none⟩ v').heap[g]?=wr.heap[g]?:=fun g hl e e2=>(aa e2).trans (kA g hl e)
 have nq:fv.ownBlock≠some q:=fun e=>by have:=(wg h.fl e).2;omega
 have hqD:q≠D:=by omega
 have ap:=h.ap;simp only [List.nodup_cons,List.mem_cons,List.not_mem_nil,or_false,not_or,List.nodup_nil,and_true,not_false_eq_true]at ap;have lt:∀g,g∈[D,kb,sb,wb]->g<wr.heap.size:=fun g hg=>by
  simp only [List.mem_cons,List.not_mem_nil,or_false]at hg;rcases hg with rfl|rfl|rfl|rfl
  . exact hD
  . exact h.rk.lt
  . exact h.rs.lt
  . exact h.rw.lt
 have nv:∀g,g<wr.heap.size->fv.ownBlock≠some g->v'.ownBlock≠some g:=fun g hl e e2=>by
  rcases hv with r|r
  . exact e (by rw [<-r];exact e2)
  . rw [r]at e2;cases e2;omega
 have nvq:v'.ownBlock≠some q:=fun e=>by
  rcases hv with r|r
  . exact nq (by rw [<-r];exact e)
  . rw [r]at e;cases e;omega
 refine ⟨?_,h.rk.keep (kB _ h.rk.lt (nf _ (by simp)) (by omega)),h.rs.keep (kB _ h.rs.lt (nf _ (by simp)) (by omega)),h.rw.keep (kB _ h.rw.lt (nf _ (by simp)) (by omega)), ?_, ?_,h.ap, ?_, ?_, ?_,h.base, ?_, ?_⟩
 . have:=heap_set (j:=3) v' ((kA D hD (nf _ (by simp))).trans h.row)
   simpa using this
 . rw [OJ,RP,Wb];exact Og ho fun g e=>aa fun e2=>nv D hD (nf _ (by simp)) (e2▸e)
 . intro i hi;by_cases e:i=k
   . rw [e,Wb];exact hr.keep ((aa hqD).trans (hg.block q lq (Ne.symm nq)))
   . rw [Kb _ _ e];have hi:i<k:=by omega
     exact (h.rf i hi).keep (kB _ (h.rf i hi).lt (nfg i hi) (fun e=>h.a1 i hi (by rw [e];simp)))
 . intro i hi;by_cases e:i=k
   . rw [e,Wb];intro hm;have:=lt q hm;omega
   . rw [Kb _ _ e];exact h.a1 i (by omega)
 . intro i hi j hj Vm;by_cases e:i=k
   . rw [e,Wb,Kb _ _ (by omega)];have:=(h.rf j (by omega)).lt;omega
   . rw [Kb _ _ e];by_cases e':j=k
     . rw [e',Wb];have:=(h.rf i (by omega)).lt;omega
     . rw [Kb _ _ e'];exact h.a2 i (by omega) j (by omega) Vm
 . intro g e;refine ⟨fun hm=>nv g (lt g hm) (nf g hm) e,fun i hi=> ?_⟩;by_cases e':i=k
   . rw [e',Wb];intro e2;exact nvq (e2▸e)
   . rw [Kb _ _ e'];have hi:i<k:=by omega
     intro e2;exact nv (fg i) (h.rf i hi).lt (nfg i hi) (e2▸e)
 . intro i hi;by_cases e:i=k
   . rw [e,Wb];omega
   . rw [Kb _ _ e];exact h.bf i (by omega)
 . exact ((h.below.trans (hb.mono s0)).grown hg (by omega) (fun q e=>(wg h.fl e).1)).setCell (h.base D (by simp)) _
def Rv.start(m d kb sb wb fb pb n nt np c0 c1 c3:Nat)(fg:Nat->Nat)(f:Nat->Int):Rv:=
 {m,d,kb,sb,wb,fb,pb,n,nt,np,c0,c1,c2:=n,c3,c4:=np,fg,fc:=fun _=>n,kept:=f,seen:=f,pass:=fun _=>0,wr:=fun _=>0,fl:=fun _ _=>false,ck:=0,bd:=0,la:=⟨0,0,0,0,0,false⟩,wm:=0}
theorem rU(m d kb sb wb fb pb n nt np c0 c1 c3:Nat)(fg:Nat->Nat)(f:Nat->Int):Init (Rv.start m d kb sb wb fb pb n nt np c0 c1 c3 fg f) f n nt np:=
 ⟨rfl,rfl,rfl,fun _ _=>rfl,fun _ _=>rfl,fun _ _=>rfl,fun _ _ _ _=>rfl,rfl,rfl,rfl⟩
theorem TP{W0 W W':World}{m d kb sb wb fb pb n nt np c0 c1 c3:Nat}{fg:Nat->Nat}{f:Nat->Int}(h:GD W0 W d kb sb wb c0 c1 (.slice (some ⟨fb,0,none⟩) nt c3) nt n fg f)(he:∀g,g∈[d,kb,sb,wb,fb]\/(∃t,t<nt/\fg t=g)->W'.heap[g]?=W.heap[g]?)
  (hm:m∉[d,kb,sb,wb,fb]/\∀t,t<nt->fg t≠m)(hp:pb∉[d,kb,sb,wb,fb]/\∀t,t<nt->fg t≠pb)(hmp:m≠pb)
  (hr:W'.heap[m]?=some (.cells #[.pointer (some ⟨d,0,none⟩), .slice (some ⟨pb,0,none⟩) np np, .int .i64 0, .int .i64 0, .int .i64 0, .int .i64 0, .int .i64 0, .int .u64 0, .int .u64 0, .bool false] 141 (0,0)))(hpr:tb W' pb np fun _=> .int .u64 0)(n0:0<n)(n1:n<=262144)(t0:0<nt)(t1:nt<=64)(p1:np<=262144):
  za W' (Rv.start m d kb sb wb fb pb n nt np c0 c1 c3 fg f):=by
 have cY:=h.a3 fb rfl;have ap:=h.ap;obtain ⟨g',XO,c,e1,hb,hg,JR,Cs,hcc⟩:=lh h.fl t0;cases e1;simp only [List.nodup_cons,List.mem_cons,List.not_mem_nil,or_false,not_or,List.nodup_nil,and_true,not_false_eq_true]at ap;have uE:=hm.1
 have WH:=hp.1
 have hf1:=cY.1
 simp only [List.mem_cons,List.not_mem_nil,or_false,not_or]at uE WH hf1;refine ⟨hr,(he d (Or.inl (by simp))).trans h.row,h.rk.keep (he kb (Or.inl (by simp))),h.rs.keep (he sb (Or.inl (by simp))),h.rw.keep (he wb (Or.inl (by simp))), ?_,hpr,fun t ht=>(h.rf t ht).keep (he _ (Or.inr ⟨t,ht,rfl⟩)), ?_,fun t ht=> ?_,h.a2,n0,n1,t1,p1,Int.le_refl _,Int.le_refl _,Int.le_refl _,fun k _=>⟨Int.le_refl _,Int.le_refl _⟩⟩
 . exact ⟨c,_,(he fb (Or.inl (by simp))).trans hg,fun k hk=>by rw [hcc k (by show k<nt*1;have:k<nt:=hk;omega)];exact SP fg n nt k hk⟩
 . show[m,d,kb,sb,wb,fb,pb].Nodup
   obtain ⟨p1,p2,p3,p4,p5⟩:=uE;obtain ⟨r1,r2,r3,r4,r5⟩:=WH;obtain ⟨s1,s2,s3,s4⟩:=hf1;obtain ⟨⟨u1,u2,u3⟩,⟨u4,u5⟩,u6⟩:=ap;simp only [List.nodup_cons,List.mem_cons,List.not_mem_nil,or_false,not_or,List.nodup_nil,and_true,not_false_eq_true];exact ⟨⟨p1,p2,p3,p4,p5,hmp⟩,⟨u1,u2,u3,Ne.symm s1,Ne.symm r1⟩,⟨u4,u5,Ne.symm s2,Ne.symm r2⟩,⟨u6,Ne.symm s3,Ne.symm r3⟩,⟨Ne.symm s4,Ne.symm r4⟩,Ne.symm r5⟩
 . have a:=h.a1 t ht;have b:=hm.2 t ht
   have c:=hp.2 t ht
   have e:=cY.2 t ht
   show fg t∉[m,d,kb,sb,wb,fb,pb]
   simp only [List.mem_cons,List.not_mem_nil,or_false,not_or]at a⊢;exact ⟨b,a.1,a.2.1,a.2.2.1,a.2.2.2,e,c⟩
def N5(W0:World)(m nt:Nat)(f:Nat->Int)(e:Ending)(W':World):Prop:=
 ∃d kb sb wb fb c0 c1 c3 fg,e= .returned (.pointer (some ⟨d,0,none⟩))/\GD W0 W' d kb sb wb c0 c1 (.slice (some ⟨fb,0,none⟩) nt c3) nt m fg f
theorem I0{W:World}{b:Nat}{k0 k1 k2 k3:Value}{t:TypeId}(h:W.heap[b]?=some (.cells #[k0,k1,k2,k3] t (0,0))):
  W.cell? ⟨b,0,none⟩=some k0/\W.cell? ⟨b,1,none⟩=some k1/\W.cell? ⟨b,2,none⟩=some k2/\W.cell? ⟨b,3,none⟩=some k3/\∀j,W.frozen? ⟨b,j,none⟩=false:=by
 refine ⟨?_, ?_, ?_, ?_,fun j=> ?_⟩
 all_goals first|(rw [cell_of_row _ _ _ _ _ _ h];rfl)|(unfold World.frozen?;rw [h];simp)
theorem Aar:(Tryz.prog.info? 4).map (fun i=>(i.zero,i.size,i.bytes))=some (some (.bool false),1,1):=by kernel_rfl
theorem jah:(Tryz.prog.info? 225).map (fun i=>(i.zero,i.size,i.bytes))=some (some (.slice none 0 0),1,24):=by kernel_rfl
theorem PJ{W0 wr:World}{D m:Nat}{kv sv:Value}{f:Nat->Int}(hm:0<m)(h:Hn W0 wr D kv sv (.slice none 0 0) (.slice none 0 0) (8*m) (8*m) f)(fg:Nat->Nat):
  ∃kb sb c0 c1,GD W0 ((wr.alloc (.cells (madeCells #[.int .i64 0] m) 3)).setCell ⟨D,2,none⟩ (.slice (some ⟨wr.heap.size,0,none⟩) m m)) D kb sb wr.heap.size c0 c1 (.slice none 0 0) 0 m fg f:=by
 obtain ⟨kb,c0,c,rfl,b1,g1,_,_,x1⟩:=lh h.kept (by omega);obtain ⟨sb,c1,c',rfl,b2,g2,_,_,x2⟩:=lh h.seen (by omega);have hD:=(Array.getElem?_eq_some_iff.1 h.row).1
 have l1:=(Array.getElem?_eq_some_iff.1 g1).1
 have l2:=(Array.getElem?_eq_some_iff.1 g2).1
 have s0:=h.below.size;have n1:kb≠D:=fun e=>h.n1 (by rw [e];rfl)
 have n2:sb≠D:=fun e=>h.n2 (by rw [e];rfl)
 have n3:kb≠sb:=fun e=>h.n3 kb rfl (by rw [e];rfl)
 have k:∀g,g<wr.heap.size->g≠D->((wr.alloc (.cells (madeCells #[.int .i64 0] m) 3)).setCell ⟨D,2,none⟩ (.slice (some ⟨wr.heap.size,0,none⟩) m m)).heap[g]?=wr.heap[g]?:=fun g hg e=>(aa e).trans (Below.heap_alloc _ _ _ hg)
 refine ⟨kb,sb,c0,c1, ?_,tb.keep ⟨c,_,g1,fun j hj=>by rw [x1 j (by omega)];exact Vl f _ j hj⟩ (k kb l1 n1),tb.keep ⟨c',_,g2,fun j hj=>by rw [x2 j (by omega)];exact Vl f _ j hj⟩ (k sb l2 n2),⟨_,_,(aa (by omega)).trans (heap_alloc_new wr _),fun j hj=>qh _ _ _ hj⟩,World.ownsRow_nil _ _ _ _,fun i hi=>absurd hi (by omega), ?_,fun i hi=>absurd hi (by omega),fun i hi=>absurd hi (by omega),(fun g e=>by cases e), ?_,fun i hi=>absurd hi (by omega), ?_⟩
 . have:=heap_set (j:=2) (.slice (some ⟨wr.heap.size,0,none⟩) m m) ((Below.heap_alloc wr (.cells (madeCells #[.int .i64 0] m) 3) D hD).trans h.row)
   simpa using this
 . simp only [List.nodup_cons,List.mem_cons,List.not_mem_nil,or_false,not_or,List.nodup_nil,and_true,not_false_eq_true];exact ⟨⟨Ne.symm n1,Ne.symm n2,by omega⟩,⟨n3,by omega⟩,by omega⟩
 . intro g hg;simp only [List.mem_cons,List.not_mem_nil,or_false]at hg;have:=h.base;rcases hg with rfl|rfl|rfl|rfl<;>omega
 . exact (h.below.alloc s0 _).setCell h.base _
set_option maxRecDepth 100000 in
set_option maxHeartbeats 4000000 in
theorem UP(a:Option Addr)(b off m cap nt:Nat)(ha:a=some ⟨b,off,none⟩)(sI:0<m)(uE:m<=262144)(PQ:0<nt)(uL:nt<=64)(f:Nat->Int)(W0:World)(hb:b<W0.heap.size)(hw:∀j,j<8*m->W0.cell? ⟨b,off+j,none⟩=some (.int .u64 (f j))):
  Calls Tryz.prog 105 #[.slice a (8*m) cap, .int .i64 nt] W0 (N5 W0 m nt f):=by
 subst ha;obtain ⟨i42,hi,Bx,Mi,uh⟩:=info_parts lJ;have HB:=Lib.hid hb;have HW:=Lib.hid hw;have HM:=Lib.hid (And.intro sI uE);clear hb hw;obtain ⟨n,hn⟩:∃n,n=8*m:=⟨_,rfl⟩;have vL:n<=2097152:=by omega
 have gY:((n:Int)).tdiv 8=(m:Int):=by rw [Int.tdiv_eq_ediv_of_nonneg (by omega)];omega
 have hn9:(n:Int)/8=(m:Int):=by omega
 rw [<-hn]at HW⊢;have HN:=Lib.hid hn;clear hn
 go_enter Tryz.func105,Tryz.ntmps105
 go_wp2_with fail
 obtain ⟨D,hD⟩:∃D,D=W0.heap.size:=⟨_,rfl⟩;rw [<-hD];have HD:=Lib.hid hD;clear hD
 go_loopw [6] (fun i wr=>∃(k:Nat) (kv sv:Value),k<=n/\i= .int .i64 k/\Hid (Hn W0 wr D kv sv (.slice none 0 0) (.slice none 0 0) k k f)) (fun i _=>n -(intOf i).toNat)
 case atStart=>exact ⟨0,_,_,Nat.zero_le _,rfl,Lib.hid ⟨by rw [HD.out];exact heap_alloc_new _ _,World.ownsRow_nil _ _ _ _,World.ownsRow_nil _ _ _ _,by rw [HD.out];exact Nat.le_refl _,(by intro e;cases e),(by intro e;cases e),(by intro g e;cases e),(Below.refl _ _).alloc (Nat.le_refl _) _⟩⟩
 case round=>
  obtain ⟨k,kv,sv,hk,rfl,HH⟩:=hrel;by_cases Db:k<n
  . have e1:decide ((k:Int)<(n:Int))=true:=ga (by omega);have i0:(0:Int)<=(k:Int):=by omega
    have i1:(k:Int)<(n:Int):=by omega
    obtain ⟨ka,km,kc,rfl⟩:=Ce HH.out.kept;obtain ⟨sa,sm,sc,rfl⟩:=Ce HH.out.seen;obtain ⟨y0,y1,y2,y3,yf⟩:=I0 HH.out.row;have z0:wr.cell? ⟨b,off+k,none⟩=some (.int .u64 (f k)):=(HH.out.below.cell (p:=⟨b,off+k,none⟩) HB.out).trans (HW.out k Db)
    have YL:Hid (W0.heap.size<=wr.heap.size):=Lib.hid HH.out.below.size;have Vx:Hid (D<wr.heap.size):=Lib.hid (Array.getElem?_eq_some_iff.1 HH.out.row).1
    have HVK:Hid (f k=f k):=Lib.hid rfl;have JG:Hid (b<wr.heap.size):=Lib.hid (Nat.lt_of_lt_of_le HB.out HH.out.below.size);obtain ⟨v,hv⟩:∃v,v=f k:=⟨_,rfl⟩;rw [<-hv]at z0;have HV:=Lib.hid hv;clear hv HVK;have p1:wr.heap.size≠D:=by have:=Vx.out;omega
    have p2:D≠wr.heap.size:=Ne.symm p1;have p3:wr.heap.size≠b:=by have:=JG.out;omega
    have p4:b≠wr.heap.size:=Ne.symm p3;have p5:∀o,(wr.alloc o).cell? ⟨D,0,none⟩=some (.slice ka km kc):=fun o=>(cell_of_heap (Below.heap_alloc wr o D Vx.out) 0).trans y0
    go_wp2_with fail
    go_region_law ((refine se rfl (.tmp 20) (.tmp 25) 99 rfl W0.heap.size 43 i42 _ 1 8 Tryz.underlying99 hi Bx Mi uh rfl (by decide) (.slice ka km kc) k _ rfl (by first|exact (HH.out.kept.alloc _).drew|exact HH.out.kept.drew.alloc _) ⟨wr.heap.size,0,none⟩ 1 1 [.int .u64 v] rfl rfl (fun j u hj=>by first|exact Df wr _ _ j u hj) (by simp [Value.oneCell']) (by unfold maxLen;omega) (by omega) (by have:=YL.out;simp;omega) ?_;intro v' w1 ho hg eY;obtain ⟨va,vm,vc,rfl⟩:=Ce ho;have sU:w1.heap[D]?=wr.heap[D]?:=(hg.block D (by have:=Vx.out;simp;omega) (Ne.symm HH.out.n1)).trans (Below.heap_alloc _ _ _ (Vx.out));have g0:w1.cell? ⟨D,0,none⟩=some ((.slice ka km kc)):=(cell_of_heap sU 0).trans y0;have g1:w1.frozen? ⟨D,0,none⟩=false:=(frozen_of_heap sU 0).trans (yf 0);have gz:w1.cell? ⟨b,off+k,none⟩=some (.int .u64 v):=(cell_of_heap ((hg.block b (by have:=JG.out;simp;omega) (fun e=>by have:=(wg HH.out.kept e.symm).1;have:=HB.out;omega)).trans (Below.heap_alloc _ _ _ (by have:=JG.out;simp;omega))) _).trans z0;have HO:=Lib.hid ho;have HG:=Lib.hid hg;have HBL:=Lib.hid eY;clear ho hg eY sU))
    all_goals
     go_wp2_with fail
     have Wx:=Lib.hid (HH.out.yar (w:=(wr.alloc (.cells #[.int .u64 v] 43)).drew) (((Below.refl _ _).alloc (Nat.le_refl _) _).drew) (by rw [<-HV.out];exact HO.out) HG.out HBL.out);clear y0 y1 y2 y3 yf z0 g0 g1 gz p1 p2 p3 p4 p5 HO HG HBL HH YL Vx JG;obtain ⟨W2,hW2⟩:∃W2,W2=w1.setCell ⟨D,0,none⟩ (.slice va vm vc):=⟨_,rfl⟩;rw [<-hW2]at Wx⊢;clear hW2;obtain ⟨y0,y1,y2,y3,yf⟩:=I0 Wx.out.row;have z0:W2.cell? ⟨b,off+k,none⟩=some (.int .u64 v):=(Wx.out.below.cell (p:=⟨b,off+k,none⟩) HB.out).trans (by rw [HV.out];exact HW.out k Db)
     have YL:Hid (W0.heap.size<=W2.heap.size):=Lib.hid Wx.out.below.size;have Vx:Hid (D<W2.heap.size):=Lib.hid (Array.getElem?_eq_some_iff.1 Wx.out.row).1
     have JG:Hid (b<W2.heap.size):=Lib.hid (Nat.lt_of_lt_of_le HB.out Wx.out.below.size);have p1:W2.heap.size≠D:=by have:=Vx.out;omega
     have p2:D≠W2.heap.size:=Ne.symm p1;have p3:W2.heap.size≠b:=by have:=JG.out;omega
     have p4:b≠W2.heap.size:=Ne.symm p3;have p5:∀o,(W2.alloc o).cell? ⟨D,1,none⟩=some (.slice sa sm sc):=fun o=>(cell_of_heap (Below.heap_alloc W2 o D Vx.out) 1).trans y1
     go_region_law ((refine se rfl (.tmp 33) (.tmp 38) 99 rfl W0.heap.size 43 i42 _ 1 8 Tryz.underlying99 hi Bx Mi uh rfl (by decide) (.slice sa sm sc) k _ rfl (by first|exact (Wx.out.seen.alloc _).drew|exact Wx.out.seen.drew.alloc _) ⟨W2.heap.size,0,none⟩ 1 1 [.int .u64 v] rfl rfl (fun j u hj=>by first|exact Df W2 _ _ j u hj) (by simp [Value.oneCell']) (by unfold maxLen;omega) (by omega) (by have:=YL.out;simp;omega) ?_;intro v' w1 ho hg eY;obtain ⟨va,vm,vc,rfl⟩:=Ce ho;have sU:w1.heap[D]?=W2.heap[D]?:=(hg.block D (by have:=Vx.out;simp;omega) (Ne.symm Wx.out.n2)).trans (Below.heap_alloc _ _ _ (Vx.out));have g0:w1.cell? ⟨D,1,none⟩=some ((.slice sa sm sc)):=(cell_of_heap sU 1).trans y1;have g1:w1.frozen? ⟨D,1,none⟩=false:=(frozen_of_heap sU 1).trans (yf 1);have gz:w1.cell? ⟨b,off+k,none⟩=some (.int .u64 v):=(cell_of_heap ((hg.block b (by have:=JG.out;simp;omega) (fun e=>by have:=(wg Wx.out.seen e.symm).1;have:=HB.out;omega)).trans (Below.heap_alloc _ _ _ (by have:=JG.out;simp;omega))) _).trans z0;have HO:=Lib.hid ho;have HG:=Lib.hid hg;have HBL:=Lib.hid eY;clear ho hg eY sU))
    all_goals
     go_wp2_with fail
     have KG:=Lib.hid (Wx.out.zar (w:=(W2.alloc (.cells #[.int .u64 v] 43)).drew) (((Below.refl _ _).alloc (Nat.le_refl _) _).drew) (by rw [<-HV.out];exact HO.out) HG.out HBL.out);clear y0 y1 y2 y3 yf z0 g0 g1 gz p1 p2 p3 p4 p5
     go_roundw
     case rel=>exact ⟨k+1,_,_,by omega,by go_num,KG⟩
     case measure=>simp [intOf];omega
  . obtain rfl:k=n:=by omega
    have e1:decide ((k:Int)<(k:Int))=false:=by simp
    have UX:=Yp 145 3 _ _ 8 Tryz.underlying145 L5 rfl m (by omega) (by omega);have RH:=Yp 225 4 _ _ 1 Tryz.underlying225 Aar rfl m (by omega) (by omega);obtain ⟨y0,y1,y2,y3,yf⟩:=I0 HH.out.row;have Vx:Hid (D<wr.heap.size):=Lib.hid (Array.getElem?_eq_some_iff.1 HH.out.row).1
    have p1:wr.heap.size≠D:=by have:=Vx.out;omega
    have p2:D≠wr.heap.size:=Ne.symm p1;have m0:(0:Int)<=(m:Int):=by omega
    have p7:∀o,(wr.alloc o).cell? ⟨D,2,none⟩=some (.slice none 0 0):=fun o=>(cell_of_heap (Below.heap_alloc wr o D Vx.out) 2).trans y2
    have p8:∀o,(wr.alloc o).frozen? ⟨D,2,none⟩=false:=fun o=>(frozen_of_heap (Below.heap_alloc wr o D Vx.out) 2).trans (yf 2)
    have HST:=Lib.hid (PJ (f:=f) HM.out.1 (by rw [<-HN.out];exact HH.out) (fun _=>0))
    go_wp2_with fail
    obtain ⟨kb,sb,c0,c1,KA⟩:=HST.out;obtain ⟨wb,tU⟩:∃wb,wb=wr.heap.size:=⟨_,rfl⟩;rw [<-tU]at KA⊢;obtain ⟨W3,hW3⟩:∃W3,W3=(wr.alloc (.cells (madeCells #[.int .i64 0] m) 3)).setCell ⟨D,2,none⟩ (.slice (some ⟨wb,0,none⟩) m m):=⟨_,rfl⟩
    rw [<-hW3]at KA⊢;have HS3:=Lib.hid KA;clear KA hW3 tU y0 y1 y2 y3 yf p1 p2 p7 p8 HST HH Vx UX;obtain ⟨i88,hi',DaJ,EaJ,FaJ⟩:=info_parts jah
    go_loopw [7] (fun i wr=>∃(q:Nat) (fv:Value) (fg:Nat->Nat),q<=nt/\i= .int .i64 q/\Hid (GD W0 wr D kb sb wb c0 c1 fv q m fg f)) (fun i _=>nt -(intOf i).toNat)
    case atStart=>exact ⟨0,_,_,Nat.zero_le _,rfl,HS3⟩
    case round=>
     obtain ⟨q,fv,fg,hq,rfl,HQ⟩:=hrel;obtain ⟨fa,fm,fc,rfl⟩:=Ce HQ.out.fl;by_cases Db:q<nt
     . have e2:decide ((q:Int)<(nt:Int))=true:=ga (by omega);obtain ⟨y0,y1,y2,y3,yf⟩:=I0 HQ.out.row;have Vx:Hid (D<wr.heap.size):=Lib.hid (Array.getElem?_eq_some_iff.1 HQ.out.row).1
       have YL:Hid (W0.heap.size<=wr.heap.size):=Lib.hid HQ.out.below.size;have p1:wr.heap.size≠D:=by have:=Vx.out;omega
       have p2:D≠wr.heap.size:=Ne.symm p1;have p5:∀o,(wr.alloc o).cell? ⟨D,3,none⟩=some (.slice fa fm fc):=fun o=>(cell_of_heap (Below.heap_alloc wr o D Vx.out) 3).trans y3
       have p6:∀o o',((wr.alloc o).alloc o').cell? ⟨D,3,none⟩=some (.slice fa fm fc):=fun o o'=>(cell_of_heap ((Below.heap_alloc _ o' D (by have:=Vx.out;simp;omega)).trans (Below.heap_alloc wr o D Vx.out)) 3).trans y3
       have HNF:Hid ((Value.slice fa fm fc).ownBlock≠some D):=Lib.hid fun e=>(HQ.out.a3 D e).1 (by simp)
       have mw:IntKind.i64.wrap (m:Int)=(m:Int):=IntWalk.i64_in _ (by omega)
       go_wp2_with fail
       go_region_law ((refine se rfl (.tmp 58) (.tmp 63) 146 rfl W0.heap.size 225 i88 _ 1 24 Tryz.underlying146 hi' DaJ EaJ FaJ rfl (by decide) (.slice fa fm fc) q _ rfl (by first|exact ((HQ.out.fl.alloc _).alloc _).drew) ⟨wr.heap.size+1,0,none⟩ 1 1 [.slice (some ⟨wr.heap.size,0,none⟩) m m] rfl rfl (fun j u hj=>by have:=Df (wr.alloc (.cells (madeCells #[.bool false] m) 4)) #[.slice (some ⟨wr.heap.size,0,none⟩) m m] 225 j u hj;simpa using this) (by simp [Value.oneCell']) (by unfold maxLen;omega) (by omega) (by have:=YL.out;simp;omega) ?_;intro v' w1 ho hg eY;obtain ⟨va,vm,vc,rfl⟩:=Ce ho;have sU:w1.heap[D]?=wr.heap[D]?:=(hg.block D (by have:=Vx.out;simp;omega) (Ne.symm HNF.out)).trans ((Below.heap_alloc _ _ _ (by have:=Vx.out;simp;omega)).trans (Below.heap_alloc _ _ _ Vx.out));have g0:w1.cell? ⟨D,3,none⟩=some (.slice fa fm fc):=(cell_of_heap sU 3).trans y3;have g1:w1.frozen? ⟨D,3,none⟩=false:=(frozen_of_heap sU 3).trans (yf 3);have HO:=Lib.hid ho;have HG:=Lib.hid hg;have HBL:=Lib.hid eY;clear ho hg eY sU))
       all_goals
        go_wp2_with fail
        have KG:=Lib.hid (HQ.out.add (w:=((wr.alloc (.cells (madeCells #[.bool false] m) 4)).alloc (.cells #[.slice (some ⟨wr.heap.size,0,none⟩) m m] 225)).drew) (q:=wr.heap.size) ((((Below.refl _ _).alloc (Nat.le_refl _) _).alloc (by simp) _).drew) (Nat.le_refl _) ⟨_,4,(Yd wr _ _).1,fun j hj=>qh _ _ _ hj⟩ HO.out HG.out HBL.out);clear y0 y1 y2 y3 yf g0 g1 p1 p2 p5 p6
        go_roundw
        case rel=>exact ⟨q+1,_,_,by omega,by go_num,KG⟩
        case measure=>simp [intOf];omega
     . obtain rfl:q=nt:=by omega
       have e2:decide ((q:Int)<(q:Int))=false:=by simp
       obtain ⟨fb,c3,c,SH,-⟩:=lh HQ.out.fl PQ;rw [SH]at HQ;clear SH
       go_wp2_with fail
       go_ret
       exact ⟨D,kb,sb,wb,fb,c0,c1,c3,fg,rfl,HQ.out⟩
theorem Ke(M:Rv)(at_:Int)(q0:-9223372036854775808<=at_)(q1:at_<=9223372036854775807)(o:Int)(is:Bool)(ho:M.Ua at_=(o,is)):∀w,za w M->Calls Tryz.prog 108 #[.pointer (some ⟨M.m,0,none⟩), .int .i64 at_] w (Wi (.tuple #[.int .u64 o, .bool is]) w):=fun w hw=>by
 have:=UO M at_ q0 q1 w hw;rw [ho]at this;exact this
set_option maxRecDepth 100000 in
set_option maxHeartbeats 1000000 in
theorem ID(M:Rv)(t at_ old w:Int)(q0:-9223372036854775808<=at_)(q1:at_<=9223372036854775807)(W:World)(h:za W M)(hc:M.ck<=1000000)(o:Int)(hp:M.Ua at_=(o,true)):
  Calls Tryz.prog 47 #[.pointer (some ⟨M.m,0,none⟩), .int .i64 1, .int .i64 t, .int .i64 at_, .int .u64 old, .int .u64 w] W (Yi M (M.note ⟨1,t,at_,o,0,true⟩ true) W):=by
 have HP:=Lib.hid (Ke M at_ q0 q1 o true hp);have HM:=Lib.hid h;have Db:=h.lt (k:=M.m) (Or.inl (by simp [Rv.blocks]));have n1:W.heap.size≠M.m:=by omega
 have n2:W.heap.size+1≠M.m:=by omega
 have n3:M.m≠W.heap.size:=by omega
 have n4:M.m≠W.heap.size+1:=by omega
 have b0:=h.Cm;have b1:=h.fA;have b2:=h.Mu;clear h hp Db
 go_enter Tryz.func47,Tryz.ntmps47
 go_wp2_with fail
 with_reducible refine (HP.out _ (HM.out.below (((Below.refl _ _).alloc (Nat.le_refl _) _).alloc (by simp) _))).mono ?_
 rintro e w2 ⟨rfl,hb,hh⟩;obtain ⟨rz,ra⟩:=Kd hh;have HB:Hid (Below W.heap.size W w2):=Lib.hid ((((Below.refl _ _).alloc (Nat.le_refl _) _).alloc (by simp) _).trans (hb.mono (by simp;omega)));have HS:Hid (W.heap.size+1<w2.heap.size):=Lib.hid (by rw [hh];simp);have Kg:=Lib.hid (HM.out.below HB.out);obtain ⟨a0,a1,a2,a3,a4,a5,af⟩:=Td ra;obtain ⟨z0,z1,z2,z3,z4,z5,zf⟩:=Td rz;obtain ⟨m0,m1,m2,m3,m4,m5,m6,m7,m8,m9,mf⟩:=qd Kg.out.row;have HZ:=Lib.hid rz;clear hb hh ra rz m0 m1
 go_wp2_with fail
 have hA:∀k,M.own k->k≠W.heap.size+1:=fun k hk e=>HM.out.Ab (by omega) (e▸hk)
 have hR:za ((w2.setCell ⟨W.heap.size+1,3,none⟩ (.int .u64 o)).setCell ⟨W.heap.size+1,5,none⟩ (.bool true)) M:=Kg.out.keep fun k hk=>by rw [aa (hA k hk),aa (hA k hk)]
 have hT:Ja M.own W ((w2.setCell ⟨W.heap.size+1,3,none⟩ (.int .u64 o)).setCell ⟨W.heap.size+1,5,none⟩ (.bool true)):=((Ja.jc HB.out).set (fun e=>absurd e (by omega)) _ _).set (fun e=>absurd e (by omega)) _ _
 have hZ:=(aa (j:=5) (v:= .bool true) (show W.heap.size≠W.heap.size+1 by omega)).trans ((aa (j:=3) (v:= .int .u64 o) (show W.heap.size≠W.heap.size+1 by omega)).trans HZ.out)
 obtain ⟨f1,f2⟩:=cd hR hT rfl rfl (Nat.le_refl W.heap.size) HM.out ⟨1,t,at_,o,0,true⟩ true;refine bodyPost_ret (v:= .agg (Acc.cells ⟨1,t,at_,o,0,true⟩)) ?_ rfl ?_
 . exact Lb rfl rfl (Od n1 hZ M.ck M.bd ⟨1,t,at_,o,0,true⟩ true)
 . exact ⟨rfl,f1,f2⟩
set_option maxRecDepth 100000 in
set_option maxHeartbeats 1000000 in
theorem pA(M:Rv)(t at_ old w:Int)(q0:-9223372036854775808<=at_)(q1:at_<=9223372036854775807)(W:World)(h:za W M)(hc:M.ck<=1000000)(o:Int)(hp:M.Ua at_=(o,false)):
  Calls Tryz.prog 47 #[.pointer (some ⟨M.m,0,none⟩), .int .i64 1, .int .i64 t, .int .i64 at_, .int .u64 old, .int .u64 w] W (Yi M (M.note ⟨1,t,at_,o,0,false⟩ false) W):=by
 have HP:=Lib.hid (Ke M at_ q0 q1 o false hp);have HM:=Lib.hid h;have Db:=h.lt (k:=M.m) (Or.inl (by simp [Rv.blocks]));have n1:W.heap.size≠M.m:=by omega
 have n2:W.heap.size+1≠M.m:=by omega
 have n3:M.m≠W.heap.size:=by omega
 have n4:M.m≠W.heap.size+1:=by omega
 have b0:=h.Cm;have b1:=h.fA;have b2:=h.Mu;clear h hp Db
 go_enter Tryz.func47,Tryz.ntmps47
 go_wp2_with fail
 with_reducible refine (HP.out _ (HM.out.below (((Below.refl _ _).alloc (Nat.le_refl _) _).alloc (by simp) _))).mono ?_
 rintro e w2 ⟨rfl,hb,hh⟩;obtain ⟨rz,ra⟩:=Kd hh;have HB:Hid (Below W.heap.size W w2):=Lib.hid ((((Below.refl _ _).alloc (Nat.le_refl _) _).alloc (by simp) _).trans (hb.mono (by simp;omega)));have HS:Hid (W.heap.size+1<w2.heap.size):=Lib.hid (by rw [hh];simp);have Kg:=Lib.hid (HM.out.below HB.out);obtain ⟨a0,a1,a2,a3,a4,a5,af⟩:=Td ra;obtain ⟨z0,z1,z2,z3,z4,z5,zf⟩:=Td rz;obtain ⟨m0,m1,m2,m3,m4,m5,m6,m7,m8,m9,mf⟩:=qd Kg.out.row;have HZ:=Lib.hid rz;clear hb hh ra rz m0 m1
 go_wp2_with fail
 have hA:∀k,M.own k->k≠W.heap.size+1:=fun k hk e=>HM.out.Ab (by omega) (e▸hk)
 have hR:za ((w2.setCell ⟨W.heap.size+1,3,none⟩ (.int .u64 o)).setCell ⟨W.heap.size+1,5,none⟩ (.bool false)) M:=Kg.out.keep fun k hk=>by rw [aa (hA k hk),aa (hA k hk)]
 have hT:Ja M.own W ((w2.setCell ⟨W.heap.size+1,3,none⟩ (.int .u64 o)).setCell ⟨W.heap.size+1,5,none⟩ (.bool false)):=((Ja.jc HB.out).set (fun e=>absurd e (by omega)) _ _).set (fun e=>absurd e (by omega)) _ _
 have hZ:=(aa (j:=5) (v:= .bool false) (show W.heap.size≠W.heap.size+1 by omega)).trans ((aa (j:=3) (v:= .int .u64 o) (show W.heap.size≠W.heap.size+1 by omega)).trans HZ.out)
 obtain ⟨f1,f2⟩:=cd hR hT rfl rfl (Nat.le_refl W.heap.size) HM.out ⟨1,t,at_,o,0,false⟩ false;refine bodyPost_ret (v:= .agg (Acc.cells ⟨1,t,at_,o,0,false⟩)) ?_ rfl ?_
 . exact Lb rfl rfl (Od n1 hZ M.ck M.bd ⟨1,t,at_,o,0,false⟩ false)
 . exact ⟨rfl,f1,f2⟩
set_option maxRecDepth 100000 in
set_option maxHeartbeats 1000000 in
theorem JD(M:Rv)(t at_ old w:Int)(q0:-9223372036854775808<=at_)(q1:at_<=9223372036854775807)(W:World)(h:za W M)(hc:M.ck<=1000000)(o:Int)(hp:M.Ua at_=(o,false)):
  Calls Tryz.prog 47 #[.pointer (some ⟨M.m,0,none⟩), .int .i64 2, .int .i64 t, .int .i64 at_, .int .u64 old, .int .u64 w] W (Yi M (M.note ⟨2,t,at_,o,w,false⟩ false) W):=by
 have HP:=Lib.hid (Ke M at_ q0 q1 o false hp);have HM:=Lib.hid h;have Db:=h.lt (k:=M.m) (Or.inl (by simp [Rv.blocks]));have n1:W.heap.size≠M.m:=by omega
 have n2:W.heap.size+1≠M.m:=by omega
 have n3:M.m≠W.heap.size:=by omega
 have n4:M.m≠W.heap.size+1:=by omega
 have b0:=h.Cm;have b1:=h.fA;have b2:=h.Mu;have HO:Hid (∀k,M.own k->M.own k):=Lib.hid fun _ h=>h
 clear h hp Db
 go_enter Tryz.func47,Tryz.ntmps47
 go_wp2_with fail
 with_reducible refine (HP.out _ (HM.out.below (((Below.refl _ _).alloc (Nat.le_refl _) _).alloc (by simp) _))).mono ?_
 rintro e w2 ⟨rfl,hb,hh⟩;obtain ⟨rz,ra⟩:=Kd hh;have HB:Hid (Below W.heap.size W w2):=Lib.hid ((((Below.refl _ _).alloc (Nat.le_refl _) _).alloc (by simp) _).trans (hb.mono (by simp;omega)));have HS:Hid (W.heap.size+1<w2.heap.size):=Lib.hid (by rw [hh];simp);have Kg:=Lib.hid (HM.out.below HB.out);obtain ⟨a0,a1,a2,a3,a4,a5,af⟩:=Td ra;obtain ⟨z0,z1,z2,z3,z4,z5,zf⟩:=Td rz;obtain ⟨m0,m1,m2,m3,m4,m5,m6,m7,m8,m9,mf⟩:=qd Kg.out.row;have HZ:=Lib.hid rz;clear hb hh ra rz m0 m1
 go_wp2_with fail
 have hA:∀k,Rv.own M k->k≠W.heap.size+1:=fun k hk e=>HM.out.Ab (by omega) (e▸(HO.out k hk))
 have cp:za (((w2.setCell ⟨W.heap.size+1,3,none⟩ (.int .u64 o)).setCell ⟨W.heap.size+1,5,none⟩ (.bool false)).setCell ⟨W.heap.size+1,4,none⟩ (.int .u64 w)) M:=Kg.out.keep fun k hk=>by rw [aa (hA k hk),aa (hA k hk),aa (hA k hk)]
 have Xx:Ja M.own W (((w2.setCell ⟨W.heap.size+1,3,none⟩ (.int .u64 o)).setCell ⟨W.heap.size+1,5,none⟩ (.bool false)).setCell ⟨W.heap.size+1,4,none⟩ (.int .u64 w)):=((((Ja.jc HB.out).set (fun e=>absurd e (by omega)) _ _).set (fun e=>absurd e (by omega)) _ _).set (fun e=>absurd e (by omega)) _ _);have Yx:=((aa (j:=4) (v:= .int .u64 w) (show W.heap.size≠W.heap.size+1 by omega)).trans ((aa (j:=5) (v:= .bool false) (show W.heap.size≠W.heap.size+1 by omega)).trans ((aa (j:=3) (v:= .int .u64 o) (show W.heap.size≠W.heap.size+1 by omega)).trans HZ.out)));obtain ⟨f1,f2⟩:=cd cp Xx rfl rfl (Nat.le_refl W.heap.size) HM.out ⟨2,t,at_,o,w,false⟩ false;refine bodyPost_ret (v:= .agg (Acc.cells ⟨2,t,at_,o,w,false⟩)) ?_ rfl ?_
 . exact Lb rfl rfl (Od n1 Yx M.ck M.bd ⟨2,t,at_,o,w,false⟩ false)
 . exact ⟨rfl,f1,f2⟩
set_option maxRecDepth 100000 in
set_option maxHeartbeats 1000000 in
theorem LG(M:Rv)(t at_ old w:Int)(q0:-9223372036854775808<=at_)(q1:at_<=9223372036854775807)(W:World)(h:za W M)(hc:M.ck<=1000000)(o:Int)(hp:M.Ua at_=(o,false)):
  Calls Tryz.prog 47 #[.pointer (some ⟨M.m,0,none⟩), .int .i64 3, .int .i64 t, .int .i64 at_, .int .u64 old, .int .u64 w] W (Yi M (M.note ⟨3,t,at_,o,w,false⟩ false) W):=by
 have HP:=Lib.hid (Ke M at_ q0 q1 o false hp);have HM:=Lib.hid h;have Db:=h.lt (k:=M.m) (Or.inl (by simp [Rv.blocks]));have n1:W.heap.size≠M.m:=by omega
 have n2:W.heap.size+1≠M.m:=by omega
 have n3:M.m≠W.heap.size:=by omega
 have n4:M.m≠W.heap.size+1:=by omega
 have b0:=h.Cm;have b1:=h.fA;have b2:=h.Mu;have HO:Hid (∀k,M.own k->M.own k):=Lib.hid fun _ h=>h
 clear h hp Db
 go_enter Tryz.func47,Tryz.ntmps47
 go_wp2_with fail
 with_reducible refine (HP.out _ (HM.out.below (((Below.refl _ _).alloc (Nat.le_refl _) _).alloc (by simp) _))).mono ?_
 rintro e w2 ⟨rfl,hb,hh⟩;obtain ⟨rz,ra⟩:=Kd hh;have HB:Hid (Below W.heap.size W w2):=Lib.hid ((((Below.refl _ _).alloc (Nat.le_refl _) _).alloc (by simp) _).trans (hb.mono (by simp;omega)));have HS:Hid (W.heap.size+1<w2.heap.size):=Lib.hid (by rw [hh];simp);have Kg:=Lib.hid (HM.out.below HB.out);obtain ⟨a0,a1,a2,a3,a4,a5,af⟩:=Td ra;obtain ⟨z0,z1,z2,z3,z4,z5,zf⟩:=Td rz;obtain ⟨m0,m1,m2,m3,m4,m5,m6,m7,m8,m9,mf⟩:=qd Kg.out.row;have HZ:=Lib.hid rz;clear hb hh ra rz m0 m1
 go_wp2_with fail
 have hA:∀k,Rv.own M k->k≠W.heap.size+1:=fun k hk e=>HM.out.Ab (by omega) (e▸(HO.out k hk))
 have cp:za (((w2.setCell ⟨W.heap.size+1,3,none⟩ (.int .u64 o)).setCell ⟨W.heap.size+1,5,none⟩ (.bool false)).setCell ⟨W.heap.size+1,4,none⟩ (.int .u64 w)) M:=Kg.out.keep fun k hk=>by rw [aa (hA k hk),aa (hA k hk),aa (hA k hk)]
 have Xx:Ja M.own W (((w2.setCell ⟨W.heap.size+1,3,none⟩ (.int .u64 o)).setCell ⟨W.heap.size+1,5,none⟩ (.bool false)).setCell ⟨W.heap.size+1,4,none⟩ (.int .u64 w)):=((((Ja.jc HB.out).set (fun e=>absurd e (by omega)) _ _).set (fun e=>absurd e (by omega)) _ _).set (fun e=>absurd e (by omega)) _ _);have Yx:=((aa (j:=4) (v:= .int .u64 w) (show W.heap.size≠W.heap.size+1 by omega)).trans ((aa (j:=5) (v:= .bool false) (show W.heap.size≠W.heap.size+1 by omega)).trans ((aa (j:=3) (v:= .int .u64 o) (show W.heap.size≠W.heap.size+1 by omega)).trans HZ.out)));obtain ⟨f1,f2⟩:=cd cp Xx rfl rfl (Nat.le_refl W.heap.size) HM.out ⟨3,t,at_,o,w,false⟩ false;refine bodyPost_ret (v:= .agg (Acc.cells ⟨3,t,at_,o,w,false⟩)) ?_ rfl ?_
 . exact Lb rfl rfl (Od n1 Yx M.ck M.bd ⟨3,t,at_,o,w,false⟩ false)
 . exact ⟨rfl,f1,f2⟩
set_option maxRecDepth 100000 in
set_option maxHeartbeats 1000000 in
theorem QJ(M:Rv)(t at_ old w:Int)(q0:-9223372036854775808<=at_)(q1:at_<=9223372036854775807)(W:World)(h:za W M)(hc:M.ck<=1000000)(o:Int)(hp:M.Ua at_=(o,true))(Jc:(o==old)=false):
  Calls Tryz.prog 47 #[.pointer (some ⟨M.m,0,none⟩), .int .i64 3, .int .i64 t, .int .i64 at_, .int .u64 old, .int .u64 w] W (Yi M (M.note ⟨3,t,at_,o,w,false⟩ true) W):=by
 have HP:=Lib.hid (Ke M at_ q0 q1 o true hp);have HM:=Lib.hid h;have Db:=h.lt (k:=M.m) (Or.inl (by simp [Rv.blocks]));have n1:W.heap.size≠M.m:=by omega
 have n2:W.heap.size+1≠M.m:=by omega
 have n3:M.m≠W.heap.size:=by omega
 have n4:M.m≠W.heap.size+1:=by omega
 have b0:=h.Cm;have b1:=h.fA;have b2:=h.Mu;have HO:Hid (∀k,M.own k->M.own k):=Lib.hid fun _ h=>h
 clear h hp Db
 go_enter Tryz.func47,Tryz.ntmps47
 go_wp2_with fail
 with_reducible refine (HP.out _ (HM.out.below (((Below.refl _ _).alloc (Nat.le_refl _) _).alloc (by simp) _))).mono ?_
 rintro e w2 ⟨rfl,hb,hh⟩;obtain ⟨rz,ra⟩:=Kd hh;have HB:Hid (Below W.heap.size W w2):=Lib.hid ((((Below.refl _ _).alloc (Nat.le_refl _) _).alloc (by simp) _).trans (hb.mono (by simp;omega)));have HS:Hid (W.heap.size+1<w2.heap.size):=Lib.hid (by rw [hh];simp);have Kg:=Lib.hid (HM.out.below HB.out);obtain ⟨a0,a1,a2,a3,a4,a5,af⟩:=Td ra;obtain ⟨z0,z1,z2,z3,z4,z5,zf⟩:=Td rz;obtain ⟨m0,m1,m2,m3,m4,m5,m6,m7,m8,m9,mf⟩:=qd Kg.out.row;have HZ:=Lib.hid rz;clear hb hh ra rz m0 m1
 go_wp2_with fail
 have hA:∀k,Rv.own M k->k≠W.heap.size+1:=fun k hk e=>HM.out.Ab (by omega) (e▸(HO.out k hk))
 have cp:za (((w2.setCell ⟨W.heap.size+1,3,none⟩ (.int .u64 o)).setCell ⟨W.heap.size+1,5,none⟩ (.bool false)).setCell ⟨W.heap.size+1,4,none⟩ (.int .u64 w)) M:=Kg.out.keep fun k hk=>by rw [aa (hA k hk),aa (hA k hk),aa (hA k hk)]
 have Xx:Ja M.own W (((w2.setCell ⟨W.heap.size+1,3,none⟩ (.int .u64 o)).setCell ⟨W.heap.size+1,5,none⟩ (.bool false)).setCell ⟨W.heap.size+1,4,none⟩ (.int .u64 w)):=((((Ja.jc HB.out).set (fun e=>absurd e (by omega)) _ _).set (fun e=>absurd e (by omega)) _ _).set (fun e=>absurd e (by omega)) _ _);have Yx:=((aa (j:=4) (v:= .int .u64 w) (show W.heap.size≠W.heap.size+1 by omega)).trans ((aa (j:=5) (v:= .bool false) (show W.heap.size≠W.heap.size+1 by omega)).trans ((aa (j:=3) (v:= .int .u64 o) (show W.heap.size≠W.heap.size+1 by omega)).trans HZ.out)));obtain ⟨f1,f2⟩:=cd cp Xx rfl rfl (Nat.le_refl W.heap.size) HM.out ⟨3,t,at_,o,w,false⟩ true;refine bodyPost_ret (v:= .agg (Acc.cells ⟨3,t,at_,o,w,false⟩)) ?_ rfl ?_
 . exact Lb rfl rfl (Od n1 Yx M.ck M.bd ⟨3,t,at_,o,w,false⟩ true)
 . exact ⟨rfl,f1,f2⟩
end Go.Proofs.YtfnkmolffhfpoaaGreat
