/- -/
import Derived.Test.YtfnkmolffhfpoaaGreatHq30
import Derived.Test.YtfnkmolffhfpoaaGreatHq20
import Derived.Deep.RegionHeld3
import Derived.IntWalk
set_option linter.unusedVariables false
set_option linter.unusedSimpArgs false
namespace Go.Proofs.YtfnkmolffhfpoaaGreat
open Go.RowKit Go.BigFrame
def Mv.start(m d kb sb wb fb pb n nt np c0 c1:Nat)(f:Nat->Int):Mv:=
 {m,d,kb,sb,wb,fb,pb,n,nt,np,c0,c1,c2:=n,c3:=nt,c4:=np,kept:=f,seen:=f,pass:=fun _=>0,wr:=fun _=>0,fl:=fun _=>[],fv:=fun _=> .slice none 0 0,ck:=0,bd:=0,la:=⟨0,0,0,0,0,false⟩,wm:=0}
theorem wN{W W':World}{B m d kb sb wb fb pb n nt np c0 c1:Nat}{f:Nat->Int}(h:vF W B d kb sb wb fb n nt c0 c1 f)(hb:Below W.heap.size W W')(hm:W.heap.size<=m)(hp:W.heap.size<=pb)(hmp:m≠pb)
  (hr:pk W' m (.pointer (some ⟨d,0,none⟩)) (.slice (some ⟨pb,0,none⟩) np np) 0 0 ⟨0,0,0,0,0,false⟩)(hpr:Za W' pb np fun _=> .int .u64 0)(n0:0<n)(n1:n<=262144)(t1:nt<=64)(p1:np<=262144):
  za W' (Mv.start m d kb sb wb fb pb n nt np c0 c1 f)/\∀k,(Mv.start m d kb sb wb fb pb n nt np c0 c1 f).own k->B<=k\/W.heap.size<=k:=by
 have hd:=(Array.getElem?_eq_some_iff.1 h.dev).1
 have l1:=h.rk.lt;have l2:=h.rs.lt;have l3:=h.rw.lt;have l4:=h.rf.lt;have ap:=h.apart;refine ⟨⟨hr,(hb.block d hd).trans h.dev,h.rk.keep (hb.block _ l1),h.rs.keep (hb.block _ l2),h.rw.keep (hb.block _ l3),h.rf.keep (hb.block _ l4),hpr,fun t _=>Or.inl ⟨rfl,rfl⟩, ?_,(fun t _ g hg=>by cases hg),(fun t _ t' _ _ g hg=>by cases hg),n0,n1,t1,p1,fun t _=>List.Pairwise.nil,(fun t _ x hx=>by cases hx),Int.le_refl _,Int.le_refl _,Int.le_refl _,fun k _=>⟨Int.le_refl _,Int.le_refl _⟩⟩, ?_⟩
 . simp only [List.nodup_cons,List.mem_cons,List.not_mem_nil,or_false,not_or,List.nodup_nil,and_true,not_false_eq_true]at ap;simp only [Mv.blocks,Mv.start,List.nodup_cons,List.mem_cons,List.not_mem_nil,or_false,not_or,List.nodup_nil,and_true,not_false_eq_true];omega
 . rintro k (hk|⟨t,_,e⟩)
   . have b:=h.base;simp only [Mv.blocks,Mv.start,List.mem_cons,List.not_mem_nil,or_false]at hk;omega
   . cases e
structure Init(R:Rv)(f:Nat->Int)(n nt np:Nat):Prop where
 hn:R.n=n
 hnt:R.nt=nt
 aq:R.np=np
 gak:∀k,k<8*n->R.kept k=f k
 hak:∀k,k<8*n->R.seen k=f k
 iak:∀k,k<np->R.pass k=0
 AM:∀t,t<nt->∀j,j<n->R.fl t j=false
 Mf:R.ck=0
 hbd:R.bd=0
 hla:R.la=⟨0,0,0,0,0,false⟩
def jak(f:Nat->Int)(n nt np:Nat)(l:Nat->Acc)(k:Nat)(M:Mv)(r:Nat):Prop:=∀R,Init R f n nt np->Alike M (LM R l k).1/\r=(LM R l k).2
theorem xN(m d kb sb wb fb pb n nt np c0 c1:Nat)(f:Nat->Int)(l:Nat->Acc):jak f n nt np l 0 (Mv.start m d kb sb wb fb pb n nt np c0 c1 f) 0:=fun R h=>
 ⟨⟨h.hn.symm,h.hnt.symm,h.aq.symm,fun k hk=>(h.hak k hk).symm,fun k hk=>(h.gak k hk).symm,fun k hk=>(h.iak k hk).symm,fun t ht j hj=>by
   show R.fl t j=true<->(j:Int)∈([]:List Int)
   rw [h.AM t ht j hj];simp,h.Mf.symm,h.hbd.symm,h.hla.symm⟩,rfl⟩
theorem jx(x y:Acc):CH x y=true<->x=y:=by
 obtain ⟨a,b,c,d,e,f⟩:=x;obtain ⟨a',b',c',d',e',f'⟩:=y;simp [CH];constructor
 . rintro ⟨⟨⟨⟨⟨h1,h2⟩,h3⟩,h4⟩,h5⟩,h6⟩;exact ⟨h1,h2,h3,h4,h5,h6⟩
 . rintro ⟨h1,h2,h3,h4,h5,h6⟩;exact ⟨⟨⟨⟨⟨h1,h2⟩,h3⟩,h4⟩,h5⟩,h6⟩
theorem kak(x y:Acc)(w:World):(binOp .neq 112 (.agg x.cells) (.agg y.cells)).run Tryz.prog w= .ok (.bool (!CH x y)) w:=by
 simp only [Acc.cells]
 go_simp
 by_cases h:CH x y=true
 . have:=(jx x y).1 h
   subst this;rw [h];simp
 . rw [show CH x y=false by simpa using h]
   repeat' split
   all_goals first|rfl|(exfalso;apply h;rw [jx];obtain ⟨a,b,c,d,e,f⟩:=x;obtain ⟨a',b',c',d',e',f'⟩:=y;simp_all)
theorem vC{w:World}{X n g cap:Nat}{f:Nat->Int}(h:w.ownsRow X 43 1 (.slice (some ⟨g,0,none⟩) n cap) n (Oc f n))(hn:0<n):Za w g n fun k=> .int .u64 (f k):=by
 obtain ⟨g',IM,c,e1,hb,hg,aP,Ev,hcc⟩:=Eg h hn;cases e1;exact ⟨c,_,hg,fun k hk=>by rw [hcc k (by omega)];exact Rl f _ k hk⟩
def Pu(f:Nat->Int)(n:Nat)(W:World)(e:Ending)(W':World):Prop:=∃g c,e= .returned (.slice (some ⟨g,0,none⟩) n c)/\Below W.heap.size W W'/\Za W' g n (fun k=> .int .u64 (f k))/\W.heap.size<=g
theorem Yq.to{f:Nat->Int}{n:Nat}{W W':World}{e:Ending}(h:Yq f n W e W')(hn:0<n):Pu f n W e W':=by
 obtain ⟨v,rfl,hb,ho⟩:=h;obtain ⟨g,cap,c,rfl,hg,-⟩:=Eg ho hn;exact ⟨g,cap,rfl,hb,vC ho hn,hg⟩
theorem pK(M:Mv)(W:World)(h:za W M):Calls Tryz.prog 49 #[.pointer (some ⟨M.d,0,none⟩)] W (Pu M.seen (8*M.n) W):=by
 have hd:=(Jb h.dev).2.1
 have HW:=Lib.hid ((SJ M.sb M.n M.c1 h.n1 M.seen W h.seen).mono fun e w hw=>hw.to (by have:=h.n0;omega));clear h;generalize 8*M.n=N at*
 go_enter Tryz.func49,Tryz.ntmps49
 go_wp2_with fail
 with_reducible refine HW.out.mono ?_
 rintro e w ⟨g,c,rfl,hb,hr,hg⟩;have H:=Lib.hid (And.intro hb (And.intro hr hg));clear hb hr hg
 go_wp2_with fail
 go_ret
 exact ⟨g,c,rfl,H.out.1,H.out.2⟩
theorem nW(M:Mv)(W:World)(h:za W M):Calls Tryz.prog 76 #[.pointer (some ⟨M.d,0,none⟩)] W (Pu M.kept (8*M.n) W):=by
 have hd:=(Jb h.dev).1
 have HW:=Lib.hid ((SJ M.kb M.n M.c0 h.n1 M.kept W h.kept).mono fun e w hw=>hw.to (by have:=h.n0;omega));clear h;generalize 8*M.n=N at*
 go_enter Tryz.func76,Tryz.ntmps76
 go_wp2_with fail
 with_reducible refine HW.out.mono ?_
 rintro e w ⟨g,c,rfl,hb,hr,hg⟩;have H:=Lib.hid (And.intro hb (And.intro hr hg));clear hb hr hg
 go_wp2_with fail
 go_ret
 exact ⟨g,c,rfl,H.out.1,H.out.2⟩
theorem qK(g h n ca cb:Nat)(hn:n<=2097152)(f f':Nat->Int)(W:World)(h1:Za W g n fun k=> .int .u64 (f k))(h2:Za W h n fun k=> .int .u64 (f' k))(e:∀k,k<n->f k=f' k):
  Calls Tryz.prog 75 #[.slice (some ⟨g,0,none⟩) n ca, .slice (some ⟨h,0,none⟩) n cb] W (Cd (.bool true) W):=by
 exact c8 _ _ n ca cb hn f W fun _=>⟨g,h,rfl,rfl,h1.lt,h2.lt,fun j hj=>⟨h1.cell hj,by rw [e j hj];exact h2.cell hj⟩⟩
theorem oW(M:Mv)(W:World)(h:za W M):Calls Tryz.prog 74 #[.pointer (some ⟨M.m,0,none⟩)] W (Cd (.agg M.la.cells) W):=by
 obtain ⟨_,_,_,_,y4,y5,y6,y7,y8,y9,_⟩:=Uc h.row;exact Y7 M.m _ _ _ _ _ _ W (h.lt (Or.inl (by simp [Mv.blocks]))) y4 y5 y6 y7 y8 y9
theorem nR(M:Mv)(W:World)(h:za W M):Calls Tryz.prog 72 #[.pointer (some ⟨M.m,0,none⟩)] W (Cc (.int .i64 M.ck) W):=
 DJ M.m M.ck W (Uc h.row).2.2.1
set_option maxRecDepth 100000 in
set_option maxHeartbeats 4000000 in
theorem raa(M:Mv)(R:Rv)(W:World)(hM:za W M)(hR:ua W R)(hA:Alike M R):
  Calls Tryz.prog 14 #[.pointer (some ⟨M.m,0,none⟩), .pointer (some ⟨R.m,0,none⟩)] W (Cd (.bool true) W):=by
 obtain ⟨V,hV⟩:∃V,V=W.heap.size:=⟨_,rfl⟩;have le:∀{w:World},Below V W w->V<=w.heap.size:=fun h=>by rw [hV];exact h.size
 have M20:Hid (∀w,Below V W w->Calls Tryz.prog 72 #[.pointer (some ⟨M.m,0,none⟩)] w (fun e w'=>e= .returned (.int .i64 M.ck)/\Below V W w')):=Lib.hid fun w hw=>(nR M w (hM.below (hV▸hw))).mono fun e w' ⟨h1,h2⟩=>⟨h1,by rw [h2];exact hw⟩
 have M27:Hid (∀w,Below V W w->Calls Tryz.prog 73 #[.pointer (some ⟨M.m,0,none⟩)] w (fun e w'=>e= .returned (.int .i64 M.bd)/\Below V W w')):=Lib.hid fun w hw=>(qai M.m M.bd w (Uc (hM.below (hV▸hw)).row).2.2.2.1).mono fun e w' ⟨h1,h2⟩=>⟨h1,by rw [h2];exact hw⟩
 have M22:Hid (∀w,Below V W w->Calls Tryz.prog 74 #[.pointer (some ⟨M.m,0,none⟩)] w (fun e w'=>e= .returned (.agg M.la.cells)/\Below V W w')):=Lib.hid fun w hw=>(oW M w (hM.below (hV▸hw))).mono fun e w' ⟨h1,h2⟩=>⟨h1,hw.trans (h2.mono (le hw))⟩
 have M23:Hid (∀w,Below V W w->Calls Tryz.prog 48 #[.pointer (some ⟨M.m,0,none⟩)] w (fun e w'=>e= .returned (.pointer (some ⟨M.d,0,none⟩))/\Below V W w')):=Lib.hid fun w hw=>(MP M.m M.d w (Uc (hM.below (hV▸hw)).row).1).mono fun e w' ⟨h1,h2⟩=>⟨h1,by rw [h2];exact hw⟩
 have M24:Hid (∀w,Below V W w->Calls Tryz.prog 49 #[.pointer (some ⟨M.d,0,none⟩)] w (fun e w'=>∃g c,e= .returned (.slice (some ⟨g,0,none⟩) (8*M.n) c)/\Below V W w'/\Za w' g (8*M.n) (fun k=> .int .u64 (M.seen k)))):=Lib.hid fun w hw=>(pK M w (hM.below (hV▸hw))).mono fun e w' ⟨g,c,h1,h2,h3,_⟩=>⟨g,c,h1,hw.trans (h2.mono (le hw)),h3⟩
 have M28:Hid (∀w,Below V W w->Calls Tryz.prog 76 #[.pointer (some ⟨M.d,0,none⟩)] w (fun e w'=>∃g c,e= .returned (.slice (some ⟨g,0,none⟩) (8*M.n) c)/\Below V W w'/\Za w' g (8*M.n) (fun k=> .int .u64 (M.kept k)))):=Lib.hid fun w hw=>(nW M w (hM.below (hV▸hw))).mono fun e w' ⟨g,c,h1,h2,h3,_⟩=>⟨g,c,h1,hw.trans (h2.mono (le hw)),h3⟩
 have lak:Hid (∀g c w,Below V W w->Za w g (8*M.n) (fun k=> .int .u64 (M.seen k))->Calls Tryz.prog 75 #[.slice (some ⟨g,0,none⟩) (8*M.n) c, .slice (some ⟨R.sb,0,none⟩) (8*M.n) R.c1] w (fun e w'=>e= .returned (.bool true)/\Below V W w')):=Lib.hid fun g c w hw h=>by
  have hs:=(hR.below (hV▸hw)).seen
  rw [<-hA.n]at hs;exact (qK g R.sb _ c R.c1 (by have:=hM.n1;omega) M.seen R.seen w h hs hA.seen).mono fun e w' ⟨h1,h2⟩=>⟨h1,hw.trans (h2.mono (le hw))⟩
 have mak:Hid (∀g c w,Below V W w->Za w g (8*M.n) (fun k=> .int .u64 (M.kept k))->Calls Tryz.prog 75 #[.slice (some ⟨g,0,none⟩) (8*M.n) c, .slice (some ⟨R.kb,0,none⟩) (8*M.n) R.c0] w (fun e w'=>e= .returned (.bool true)/\Below V W w')):=Lib.hid fun g c w hw h=>by
  have hs:=(hR.below (hV▸hw)).kept
  rw [<-hA.n]at hs;exact (qK g R.kb _ c R.c0 (by have:=hM.n1;omega) M.kept R.kept w h hs hA.kept).mono fun e w' ⟨h1,h2⟩=>⟨h1,hw.trans (h2.mono (le hw))⟩
 have M29:Hid (∀(i:Nat) w,i<M.np->Below V W w->Calls Tryz.prog 77 #[.pointer (some ⟨M.m,0,none⟩), .int .i64 (-1 -(i:Int))] w (fun e w'=>e= .returned (.tuple #[.int .u64 (R.pass i), .bool true])/\Below V W w')):=Lib.hid fun i w hi hw=>by
  have hp:=hM.p1;have:=IJ M (-1 -(i:Int)) (by omega) (by omega) w (hM.below (hV▸hw));have e:M.La (-1 -(i:Int))=(R.pass i,true):=by
   unfold Mv.La te;rw [if_neg (by omega),if_pos (by omega),show(-1 -(-1 -(i:Int))).toNat=i by omega,hA.pass i hi]
  rw [e]at this;exact this.mono fun e w' ⟨h1,h2,_⟩=>⟨h1,hw.trans (h2.mono (le hw))⟩
 obtain ⟨x0,x1,x2,x3,x4,x5,x6,x7,x8,x9,-⟩:=Uc hR.row;obtain ⟨y0,y1,-,-⟩:=Jb hR.dev;rw [<-hA.ck]at x2;rw [<-hA.bd]at x3;rw [<-hA.la]at x4 x5 x6 x7 x8 x9;rw [<-hA.n]at y0 y1;rw [<-hA.np]at x1;have q44:=fun w=>kak M.la M.la w
 have eA:CH M.la M.la=true:=(jx _ _).2 rfl
 rw [eA]at q44;have HP:Hid (∀i,i<M.np->W.cell? ⟨R.pb,i,none⟩=some (.int .u64 (R.pass i))/\R.pb<V):=Lib.hid fun i hi=>⟨hR.pass.cell (by rw [<-hA.np];exact hi),by rw [hV];exact hR.pass.lt⟩
 have wF:Hid (R.m<V/\R.d<V):=Lib.hid (by rw [hV];exact ⟨hR.lt (Or.inl (by simp [Rv.blocks])),hR.lt (Or.inl (by simp [Rv.blocks]))⟩);have rO:=hM.p1;have ZP:=hM.n1;have HV:Hid (Below V W W/\(∀w,Below V W w->Below W.heap.size W w)):=Lib.hid ⟨Below.refl _ _,fun w h=>hV▸h⟩;clear hM hR hA hV eA le;generalize M.la=la at*;generalize M.ck=ck at*;generalize M.bd=bd at*;generalize M.seen=seen at*;generalize M.kept=kept at*;generalize R.pass=pass at*;obtain ⟨N,hN⟩:∃N,N=8*M.n:=⟨_,rfl⟩;rw [<-hN]at y0 y1 M24 M28 lak mak;clear hN ZP;obtain ⟨ki,th,pl,ol,ne,dn⟩:=la;simp only [Acc.cells]at q44 M22;generalize M.np=np at*;generalize R.pb=pb at*;generalize R.sb=sb at*;generalize R.kb=kb at*;generalize R.m=rm at*;generalize R.d=rd at*;generalize M.d=d at*;generalize M.m=m at*
 go_enter Tryz.func14,Tryz.ntmps14
 go_wp2_with fail
 go_region_held3 (fun w'=>w'.cell? ⟨rm,0,none⟩=some (.pointer (some ⟨rd,0,none⟩))/\w'.cell? ⟨rm,2,none⟩=some (.int .i64 ck)/\w'.cell? ⟨rm,3,none⟩=some (.int .i64 bd)/\w'.cell? ⟨rm,4,none⟩=some (.int .i64 ki)/\w'.cell? ⟨rm,5,none⟩=some (.int .i64 th)/\w'.cell? ⟨rm,6,none⟩=some (.int .i64 pl)/\w'.cell? ⟨rm,7,none⟩=some (.int .u64 ol)/\w'.cell? ⟨rm,8,none⟩=some (.int .u64 ne)/\w'.cell? ⟨rm,9,none⟩=some (.bool dn)/\w'.cell? ⟨rd,0,none⟩=some (.slice (some ⟨kb,0,none⟩) N R.c0)/\w'.cell? ⟨rd,1,none⟩=some (.slice (some ⟨sb,0,none⟩) N R.c1)) (go_keep) (first|(go_at_call 72;refine (M20.out _ (HV.out.1.drew)).mono ?_;rintro e w1 ⟨rfl,hb⟩;have q1:∀o,w1.cell? ⟨rm,o,none⟩=W.cell? ⟨rm,o,none⟩:=fun o=>hb.cell (p:=⟨rm,o,none⟩) wF.out.1;have q2:∀o,w1.cell? ⟨rd,o,none⟩=W.cell? ⟨rd,o,none⟩:=fun o=>hb.cell (p:=⟨rd,o,none⟩) wF.out.2;have Cb:=Lib.hid hb;clear hb)|(go_at_call 73;refine (M27.out _ Cb.out).mono ?_;rintro e w2 ⟨rfl,hb⟩;have q1:∀o,w2.cell? ⟨rm,o,none⟩=W.cell? ⟨rm,o,none⟩:=fun o=>hb.cell (p:=⟨rm,o,none⟩) wF.out.1;have q2:∀o,w2.cell? ⟨rd,o,none⟩=W.cell? ⟨rd,o,none⟩:=fun o=>hb.cell (p:=⟨rd,o,none⟩) wF.out.2;have Cb:=Lib.hid hb;clear hb)|(go_at_call 74;refine (M22.out _ Cb.out).mono ?_;rintro e w3 ⟨rfl,hb⟩;have q1:∀o,w3.cell? ⟨rm,o,none⟩=W.cell? ⟨rm,o,none⟩:=fun o=>hb.cell (p:=⟨rm,o,none⟩) wF.out.1;have q2:∀o,w3.cell? ⟨rd,o,none⟩=W.cell? ⟨rd,o,none⟩:=fun o=>hb.cell (p:=⟨rd,o,none⟩) wF.out.2;have Cb:=Lib.hid hb;clear hb)|(go_at_call 48;refine (M23.out _ Cb.out).mono ?_;rintro e w4 ⟨rfl,hb⟩;have q1:∀o,w4.cell? ⟨rm,o,none⟩=W.cell? ⟨rm,o,none⟩:=fun o=>hb.cell (p:=⟨rm,o,none⟩) wF.out.1;have q2:∀o,w4.cell? ⟨rd,o,none⟩=W.cell? ⟨rd,o,none⟩:=fun o=>hb.cell (p:=⟨rd,o,none⟩) wF.out.2;have Cb:=Lib.hid hb;clear hb)|(go_at_call 49;refine (M24.out _ Cb.out).mono ?_;rintro e w5 ⟨g,c,rfl,hb,hr⟩;have HRS:=Lib.hid hr;clear hr;have q1:∀o,w5.cell? ⟨rm,o,none⟩=W.cell? ⟨rm,o,none⟩:=fun o=>hb.cell (p:=⟨rm,o,none⟩) wF.out.1;have q2:∀o,w5.cell? ⟨rd,o,none⟩=W.cell? ⟨rd,o,none⟩:=fun o=>hb.cell (p:=⟨rd,o,none⟩) wF.out.2;have Cb:=Lib.hid hb;clear hb)|(go_at_call 76;refine (M28.out _ Cb.out).mono ?_;rintro e w6 ⟨g2,c2,rfl,hb,hr⟩;have HRK:=Lib.hid hr;clear hr;have q1:∀o,w6.cell? ⟨rm,o,none⟩=W.cell? ⟨rm,o,none⟩:=fun o=>hb.cell (p:=⟨rm,o,none⟩) wF.out.1;have q2:∀o,w6.cell? ⟨rd,o,none⟩=W.cell? ⟨rd,o,none⟩:=fun o=>hb.cell (p:=⟨rd,o,none⟩) wF.out.2;have Cb:=Lib.hid hb;clear hb)|(go_at_call 75;(first|(with_reducible refine (lak.out _ _ _ Cb.out HRS.out).mono ?_)|(with_reducible refine (mak.out _ _ _ Cb.out HRK.out).mono ?_));rintro e w7 ⟨rfl,hb⟩;have q1:∀o,w7.cell? ⟨rm,o,none⟩=W.cell? ⟨rm,o,none⟩:=fun o=>hb.cell (p:=⟨rm,o,none⟩) wF.out.1;have q2:∀o,w7.cell? ⟨rd,o,none⟩=W.cell? ⟨rd,o,none⟩:=fun o=>hb.cell (p:=⟨rd,o,none⟩) wF.out.2;have Cb:=Lib.hid hb;clear hb))
 go_wp2_with fail
 go_loopw [5] (fun i wr=>∃k:Nat,k<=np/\i= .int .i64 k/\Hid (Below V W wr)) (fun i _=>np -(intOf i).toNat)
 case atStart=>exact ⟨0,Nat.zero_le _,rfl,Cb⟩
 case round=>
  obtain ⟨k,hk,rfl,HB⟩:=hrel;have k0:wr.cell? ⟨rm,0,none⟩=some (.pointer (some ⟨rd,0,none⟩)):=(HB.out.cell (p:=⟨rm,0,none⟩) wF.out.1).trans x0
  have k1:wr.cell? ⟨rm,1,none⟩=some (.slice (some ⟨pb,0,none⟩) np R.c4):=(HB.out.cell (p:=⟨rm,1,none⟩) wF.out.1).trans x1
  by_cases zb:k<np
  . have e1:decide ((k:Int)<(np:Int))=true:=ea (by omega);have i0:(0:Int)<=(k:Int):=by omega
    have i1:(k:Int)<(np:Int):=by omega
    have i2:wrap64 (-1 -(k:Int))=-1 -(k:Int):=by unfold wrap64;omega
    have HC:=Lib.hid (M29.out k wr zb HB.out);have HPK:=Lib.hid (HP.out k zb);generalize pass k=v at*
    go_wp2_with fail
    with_reducible refine HC.out.mono ?_
    rintro e wq ⟨rfl,hb⟩;have g1:wq.cell? ⟨rm,1,none⟩=some (.slice (some ⟨pb,0,none⟩) np R.c4):=(hb.cell (p:=⟨rm,1,none⟩) wF.out.1).trans x1
    have g2:wq.cell? ⟨pb,k,none⟩=some (.int .u64 v):=(hb.cell (p:=⟨pb,k,none⟩) HPK.out.2).trans HPK.out.1
    have oO:=Lib.hid hb;clear hb
    go_wp2_with fail
    go_roundw
    case rel=>exact ⟨k+1,by omega,by go_num,oO⟩
    case measure=>simp [intOf];omega
  . obtain rfl:k=np:=by omega
    have e1:decide ((k:Int)<(k:Int))=false:=by simp
    go_wp2_with fail
    go_ret
    exact ⟨rfl,HV.out.2 _ HB.out⟩
structure An(W0 wr:World)(D:Nat)(kv sv wv fv:Value)(k j:Nat)(f:Nat->Int):Prop where
 row:wr.heap[D]?=some (.cells #[kv,sv,wv,fv] 148 (0,0))
 kept:wr.ownsRow W0.heap.size 43 1 kv k (Oc f k)
 seen:wr.ownsRow W0.heap.size 43 1 sv j (Oc f j)
 base:W0.heap.size<=D
 n1:kv.ownBlock≠some D
 n2:sv.ownBlock≠some D
 n3:∀g,kv.ownBlock=some g->sv.ownBlock≠some g
 below:Below W0.heap.size W0 wr
theorem Rt(f:Nat->Int)(k:Nat):Oc f (k+1)=Oc f k++[.int .u64 (f k)]:=by
 unfold Oc;rw [List.range_succ,List.map_append];rfl
theorem An.nak{W0 wr w1:World}{D:Nat}{kv sv wv fv v':Value}{k j:Nat}{f:Nat->Int}(h:An W0 wr D kv sv wv fv k j f){w:World}(hb:Below wr.heap.size wr w)(ho:w1.ownsRow W0.heap.size 43 1 v' (k+1) (Oc f k++[.int .u64 (f k)]))(hg:w.grownBy w1 kv.ownBlock)
  (hv:v'.ownBlock=kv.ownBlock\/v'.ownBlock=some w.heap.size):An W0 (w1.setCell ⟨D,0,none⟩ v') D v' sv wv fv (k+1) j f:=by
 have hD:=(Array.getElem?_eq_some_iff.1 h.row).1
 have s1:=hb.size;have s2:=hg.size;have kA:∀g,g<wr.heap.size->kv.ownBlock≠some g->w1.heap[g]?=wr.heap[g]?:=fun g hl e=>(hg.block g (by omega) (Ne.symm e)).trans (hb.block g hl)
 have ns:∀g,sv.ownBlock=some g->kv.ownBlock≠some g:=fun g a b=>h.n3 g b a
 refine ⟨?_,ig (by rw [Rt];exact ho) fun g e=>aa fun e2=> ?_,ig h.seen fun g e=>(aa fun(e2:g=D)=>h.n2 (e2▸e)).trans (kA g (Qf h.seen e).2 (ns g e)),h.base, ?_,h.n2,fun g e=> ?_, ?_⟩
 . have:=heap_set (j:=0) v' ((kA D hD h.n1).trans h.row)
   simpa using this
 . subst e2;rcases hv with q|q
   . exact h.n1 (by rw [<-q];exact e)
   . rw [q]at e;cases e;omega
 . intro e;rcases hv with q|q
   . exact h.n1 (by rw [<-q];exact e)
   . rw [q]at e;cases e;omega
 . rcases hv with q|q
   . exact h.n3 g (by rw [<-q];exact e)
   . rw [q]at e;cases e;intro e2;have:=(Qf h.seen e2).2;omega
 . exact ((h.below.trans (hb.mono h.below.size)).grown hg (by have:=h.below.size;omega) (fun q e=>(Qf h.kept e).1)).setCell h.base _
theorem An.oak{W0 wr w1:World}{D:Nat}{kv sv wv fv v':Value}{k j:Nat}{f:Nat->Int}(h:An W0 wr D kv sv wv fv k j f){w:World}(hb:Below wr.heap.size wr w)(ho:w1.ownsRow W0.heap.size 43 1 v' (j+1) (Oc f j++[.int .u64 (f j)]))(hg:w.grownBy w1 sv.ownBlock)
  (hv:v'.ownBlock=sv.ownBlock\/v'.ownBlock=some w.heap.size):An W0 (w1.setCell ⟨D,1,none⟩ v') D kv v' wv fv k (j+1) f:=by
 have hD:=(Array.getElem?_eq_some_iff.1 h.row).1
 have s1:=hb.size;have s2:=hg.size;have kA:∀g,g<wr.heap.size->sv.ownBlock≠some g->w1.heap[g]?=wr.heap[g]?:=fun g hl e=>(hg.block g (by omega) (Ne.symm e)).trans (hb.block g hl)
 refine ⟨?_,ig h.kept fun g e=>(aa fun(e2:g=D)=>h.n1 (e2▸e)).trans (kA g (Qf h.kept e).2 (h.n3 g e)),ig (by rw [Rt];exact ho) fun g e=>aa fun e2=> ?_,h.base,h.n1, ?_,fun g e=> ?_, ?_⟩
 . have:=heap_set (j:=1) v' ((kA D hD h.n2).trans h.row)
   simpa using this
 . subst e2;rcases hv with q|q
   . exact h.n2 (by rw [<-q];exact e)
   . rw [q]at e;cases e;omega
 . intro e;rcases hv with q|q
   . exact h.n2 (by rw [<-q];exact e)
   . rw [q]at e;cases e;omega
 . rcases hv with q|q
   . rw [q];exact h.n3 g e
   . rw [q];intro e2;cases e2;have:=(Qf h.kept e).2;omega
 . exact ((h.below.trans (hb.mono h.below.size)).grown hg (by have:=h.below.size;omega) (fun q e=>(Qf h.seen e).1)).setCell h.base _
def cp(fg:Nat->Nat)(m k:Nat):List Value:=(List.range k).map fun i=> .slice (some ⟨fg i,0,none⟩) m m
theorem nI(fg:Nat->Nat)(m k:Nat):cp fg m (k+1)=cp fg m k++[.slice (some ⟨fg k,0,none⟩) m m]:=by
 unfold cp;rw [List.range_succ,List.map_append];rfl
theorem yN(fg:Nat->Nat)(m k q:Nat):cp (Mc fg k q) m k=cp fg m k:=by
 unfold cp;apply List.map_congr_left;intro i hi;rw [Gb _ _ (by have:=List.mem_range.1 hi;omega)]
theorem zN(fg:Nat->Nat)(m k i:Nat)(h:i<k):(cp fg m k)[i]?=some (.slice (some ⟨fg i,0,none⟩) m m):=by
 unfold cp;rw [List.getElem?_map,List.getElem?_range h];rfl
structure wC(W0 wr:World)(D kb sb wb c0 c1:Nat)(fv:Value)(k m:Nat)(fg:Nat->Nat)(f:Nat->Int):Prop where
 row:wr.heap[D]?=some (.cells #[.slice (some ⟨kb,0,none⟩) (8*m) c0, .slice (some ⟨sb,0,none⟩) (8*m) c1, .slice (some ⟨wb,0,none⟩) m m,fv] 148 (0,0))
 rk:Za wr kb (8*m) fun k=> .int .u64 (f k)
 rs:Za wr sb (8*m) fun k=> .int .u64 (f k)
 rw:Za wr wb m fun _=> .int .i64 0
 fl:wr.ownsRow W0.heap.size 225 1 fv k (cp fg m k)
 rf:∀i,i<k->Za wr (fg i) m fun _=> .bool false
 ap:[D,kb,sb,wb].Nodup
 a1:∀i,i<k->fg i∉[D,kb,sb,wb]
 a2:∀i,i<k->∀j,j<k->i≠j->fg i≠fg j
 a3:∀g,fv.ownBlock=some g->g∉[D,kb,sb,wb]/\∀i,i<k->fg i≠g
 base:∀g,g∈[D,kb,sb,wb]->W0.heap.size<=g
 bf:∀i,i<k->W0.heap.size<=fg i
 below:Below W0.heap.size W0 wr
theorem wC.add{W0 wr w1:World}{D kb sb wb c0 c1:Nat}{fv v':Value}{k m:Nat}{fg:Nat->Nat}{f:Nat->Int}(h:wC W0 wr D kb sb wb c0 c1 fv k m fg f){w:World}{q:Nat}(hb:Below wr.heap.size wr w)(hq:wr.heap.size<=q)(hr:Za w q m fun _=> .bool false)
  (ho:w1.ownsRow W0.heap.size 225 1 v' (k+1) (cp fg m k++[.slice (some ⟨q,0,none⟩) m m]))(hg:w.grownBy w1 fv.ownBlock)(hv:v'.ownBlock=fv.ownBlock\/v'.ownBlock=some w.heap.size):
  wC W0 (w1.setCell ⟨D,3,none⟩ v') D kb sb wb c0 c1 v' (k+1) m (Mc fg k q) f:=by
 have s1:=hb.size;have s2:=hg.size;have lq:=hr.lt;have s0:=h.below.size;have hD:=(Array.getElem?_eq_some_iff.1 h.row).1
 have nf:∀g,g∈[D,kb,sb,wb]->fv.ownBlock≠some g:=fun g hg e=>(h.a3 g e).1 hg
 have nfg:∀i,i<k->fv.ownBlock≠some (fg i):=fun i hi e=>(h.a3 _ e).2 i hi rfl
 have kA:∀g,g<wr.heap.size->fv.ownBlock≠some g->w1.heap[g]?=wr.heap[g]?:=fun g hl e=>(hg.block g (by omega) (Ne.symm e)).trans (hb.block g hl)
 have kB:∀g,g<wr.heap.size->fv.ownBlock≠some g->g≠D->(w1.setCell ⟨D,3,none⟩ v').heap[g]?=wr.heap[g]?:=fun g hl e e2=>(aa e2).trans (kA g hl e)
 have nq:fv.ownBlock≠some q:=fun e=>by have:=(Qf h.fl e).2;omega
 have hqD:q≠D:=by omega
 have ap:=h.ap;simp only [List.nodup_cons,List.mem_cons,List.not_mem_nil,or_false,not_or,List.nodup_nil,and_true,not_false_eq_true]at ap;have lt:∀g,g∈[D,kb,sb,wb]->g<wr.heap.size:=fun g hg=>by
  simp only [List.mem_cons,List.not_mem_nil,or_false]at hg;rcases hg with rfl|rfl|rfl|rfl
  . exact hD
  . exact h.rk.lt
  . exact h.rs.lt
  . exact h.rw.lt
 have nv:∀g,g<wr.heap.size->fv.ownBlock≠some g->v'.ownBlock≠some g:=fun g hl e e2=>by
  rcases hv with r|r
  . exact e (by rw [<-r];exact e2)
  . rw [r]at e2;cases e2;omega
 have nvq:v'.ownBlock≠some q:=fun e=>by
  rcases hv with r|r
  . exact nq (by rw [<-r];exact e)
  . rw [r]at e;cases e;omega
 refine ⟨?_,h.rk.keep (kB _ h.rk.lt (nf _ (by simp)) (by omega)),h.rs.keep (kB _ h.rs.lt (nf _ (by simp)) (by omega)),h.rw.keep (kB _ h.rw.lt (nf _ (by simp)) (by omega)), ?_, ?_,h.ap, ?_, ?_, ?_,h.base, ?_, ?_⟩
 . have:=heap_set (j:=3) v' ((kA D hD (nf _ (by simp))).trans h.row)
   simpa using this
 . rw [nI,yN,Pb];exact ig ho fun g e=>aa fun e2=>nv D hD (nf _ (by simp)) (e2▸e)
 . intro i hi;by_cases e:i=k
   . rw [e,Pb];exact hr.keep ((aa hqD).trans (hg.block q lq (Ne.symm nq)))
   . rw [Gb _ _ e];have hi:i<k:=by omega
     exact (h.rf i hi).keep (kB _ (h.rf i hi).lt (nfg i hi) (fun e=>h.a1 i hi (by rw [e];simp)))
 . intro i hi;by_cases e:i=k
   . rw [e,Pb];intro hm;have:=lt q hm;omega
   . rw [Gb _ _ e];exact h.a1 i (by omega)
 . intro i hi j hj Rm;by_cases e:i=k
   . rw [e,Pb,Gb _ _ (by omega)];have:=(h.rf j (by omega)).lt;omega
   . rw [Gb _ _ e];by_cases e':j=k
     . rw [e',Pb];have:=(h.rf i (by omega)).lt;omega
     . rw [Gb _ _ e'];exact h.a2 i (by omega) j (by omega) Rm
 . intro g e;refine ⟨fun hm=>nv g (lt g hm) (nf g hm) e,fun i hi=> ?_⟩;by_cases e':i=k
   . rw [e',Pb];intro e2;exact nvq (e2▸e)
   . rw [Gb _ _ e'];have hi:i<k:=by omega
     intro e2;exact nv (fg i) (h.rf i hi).lt (nfg i hi) (e2▸e)
 . intro i hi;by_cases e:i=k
   . rw [e,Pb];omega
   . rw [Gb _ _ e];exact h.bf i (by omega)
 . exact ((h.below.trans (hb.mono s0)).grown hg (by omega) (fun q e=>(Qf h.fl e).1)).setCell (h.base D (by simp)) _
def Rv.start(m d kb sb wb fb pb n nt np c0 c1 c3:Nat)(fg:Nat->Nat)(f:Nat->Int):Rv:=
 {m,d,kb,sb,wb,fb,pb,n,nt,np,c0,c1,c2:=n,c3,c4:=np,fg,fc:=fun _=>n,kept:=f,seen:=f,pass:=fun _=>0,wr:=fun _=>0,fl:=fun _ _=>false,ck:=0,bd:=0,la:=⟨0,0,0,0,0,false⟩,wm:=0}
theorem oR(m d kb sb wb fb pb n nt np c0 c1 c3:Nat)(fg:Nat->Nat)(f:Nat->Int):Init (Rv.start m d kb sb wb fb pb n nt np c0 c1 c3 fg f) f n nt np:=
 ⟨rfl,rfl,rfl,fun _ _=>rfl,fun _ _=>rfl,fun _ _=>rfl,fun _ _ _ _=>rfl,rfl,rfl,rfl⟩
theorem AN{W0 W W':World}{m d kb sb wb fb pb n nt np c0 c1 c3:Nat}{fg:Nat->Nat}{f:Nat->Int}(h:wC W0 W d kb sb wb c0 c1 (.slice (some ⟨fb,0,none⟩) nt c3) nt n fg f)(he:∀g,g∈[d,kb,sb,wb,fb]\/(∃t,t<nt/\fg t=g)->W'.heap[g]?=W.heap[g]?)
  (hm:m∉[d,kb,sb,wb,fb]/\∀t,t<nt->fg t≠m)(hp:pb∉[d,kb,sb,wb,fb]/\∀t,t<nt->fg t≠pb)(hmp:m≠pb)
  (hr:W'.heap[m]?=some (.cells #[.pointer (some ⟨d,0,none⟩), .slice (some ⟨pb,0,none⟩) np np, .int .i64 0, .int .i64 0, .int .i64 0, .int .i64 0, .int .i64 0, .int .u64 0, .int .u64 0, .bool false] 141 (0,0)))(hpr:Za W' pb np fun _=> .int .u64 0)(n0:0<n)(n1:n<=262144)(t0:0<nt)(t1:nt<=64)(p1:np<=262144):
  ua W' (Rv.start m d kb sb wb fb pb n nt np c0 c1 c3 fg f):=by
 have rU:=h.a3 fb rfl;have ap:=h.ap;obtain ⟨g',IM,c,e1,hb,hg,aP,Ev,hcc⟩:=Eg h.fl t0;cases e1;simp only [List.nodup_cons,List.mem_cons,List.not_mem_nil,or_false,not_or,List.nodup_nil,and_true,not_false_eq_true]at ap;have gD:=hm.1
 have rO:=hp.1
 have hf1:=rU.1
 simp only [List.mem_cons,List.not_mem_nil,or_false,not_or]at gD rO hf1;refine ⟨hr,(he d (Or.inl (by simp))).trans h.row,h.rk.keep (he kb (Or.inl (by simp))),h.rs.keep (he sb (Or.inl (by simp))),h.rw.keep (he wb (Or.inl (by simp))), ?_,hpr,fun t ht=>(h.rf t ht).keep (he _ (Or.inr ⟨t,ht,rfl⟩)), ?_,fun t ht=> ?_,h.a2,n0,n1,t1,p1,Int.le_refl _,Int.le_refl _,Int.le_refl _,fun k _=>⟨Int.le_refl _,Int.le_refl _⟩⟩
 . exact ⟨c,_,(he fb (Or.inl (by simp))).trans hg,fun k hk=>by rw [hcc k (by show k<nt*1;have:k<nt:=hk;omega)];exact zN fg n nt k hk⟩
 . show[m,d,kb,sb,wb,fb,pb].Nodup
   obtain ⟨p1,p2,p3,p4,p5⟩:=gD;obtain ⟨r1,r2,r3,r4,r5⟩:=rO;obtain ⟨s1,s2,s3,s4⟩:=hf1;obtain ⟨⟨u1,u2,u3⟩,⟨u4,u5⟩,u6⟩:=ap;simp only [List.nodup_cons,List.mem_cons,List.not_mem_nil,or_false,not_or,List.nodup_nil,and_true,not_false_eq_true];exact ⟨⟨p1,p2,p3,p4,p5,hmp⟩,⟨u1,u2,u3,Ne.symm s1,Ne.symm r1⟩,⟨u4,u5,Ne.symm s2,Ne.symm r2⟩,⟨u6,Ne.symm s3,Ne.symm r3⟩,⟨Ne.symm s4,Ne.symm r4⟩,Ne.symm r5⟩
 . have a:=h.a1 t ht;have b:=hm.2 t ht
   have c:=hp.2 t ht
   have e:=rU.2 t ht
   show fg t∉[m,d,kb,sb,wb,fb,pb]
   simp only [List.mem_cons,List.not_mem_nil,or_false,not_or]at a⊢;exact ⟨b,a.1,a.2.1,a.2.2.1,a.2.2.2,e,c⟩
end Go.Proofs.YtfnkmolffhfpoaaGreat
