/- -/
import Derived.Test.YtfnkmolffhfpoaaGreatHb32
import Derived.Deep.RegionLaw
import Derived.Test.YtfnkmolffhfpoaaGreatHb22
set_option linter.unusedVariables false
set_option linter.unusedSimpArgs false
namespace Go.Proofs.YtfnkmolffhfpoaaGreat
open Go.RowKit Go.BigFrame
def tm(fg:Nat->Nat)(m k:Nat):List Value:=(List.range k).map fun i=> .slice (some ⟨fg i,0,none⟩) m m
theorem nF(fg:Nat->Nat)(m k:Nat):tm fg m (k+1)=tm fg m k++[.slice (some ⟨fg k,0,none⟩) m m]:=by
 unfold tm;rw [List.range_succ,List.map_append];rfl
theorem GJ(fg:Nat->Nat)(m k q:Nat):tm (Ed fg k q) m k=tm fg m k:=by
 unfold tm;apply List.map_congr_left;intro i hi;rw [mc _ _ (by have:=List.mem_range.1 hi;omega)]
theorem IJ(fg:Nat->Nat)(m k i:Nat)(h:i<k):(tm fg m k)[i]?=some (.slice (some ⟨fg i,0,none⟩) m m):=by
 unfold tm;rw [List.getElem?_map,List.getElem?_range h];rfl
structure Vz(W0 wr:World)(D kb sb wb c0 c1:Nat)(fv:Value)(k m:Nat)(fg:Nat->Nat)(f:Nat->Int):Prop where
 row:wr.heap[D]?=some (.cells #[.slice (some ⟨kb,0,none⟩) (8*m) c0, .slice (some ⟨sb,0,none⟩) (8*m) c1, .slice (some ⟨wb,0,none⟩) m m,fv] 148 (0,0))
 rk:Eb wr kb (8*m) fun k=> .int .u64 (f k)
 rs:Eb wr sb (8*m) fun k=> .int .u64 (f k)
 rw:Eb wr wb m fun _=> .int .i64 0
 fl:wr.ownsRow W0.heap.size 225 1 fv k (tm fg m k)
 rf:∀i,i<k->Eb wr (fg i) m fun _=> .bool false
 ap:[D,kb,sb,wb].Nodup
 a1:∀i,i<k->fg i∉[D,kb,sb,wb]
 a2:∀i,i<k->∀j,j<k->i≠j->fg i≠fg j
 a3:∀g,fv.ownBlock=some g->g∉[D,kb,sb,wb]/\∀i,i<k->fg i≠g
 base:∀g,g∈[D,kb,sb,wb]->W0.heap.size<=g
 bf:∀i,i<k->W0.heap.size<=fg i
 below:Below W0.heap.size W0 wr
theorem Vz.add{W0 wr w1:World}{D kb sb wb c0 c1:Nat}{fv v':Value}{k m:Nat}{fg:Nat->Nat}{f:Nat->Int}(h:Vz W0 wr D kb sb wb c0 c1 fv k m fg f){w:World}{q:Nat}(hb:Below wr.heap.size wr w)(hq:wr.heap.size<=q)(hr:Eb w q m fun _=> .bool false)
  (ho:w1.ownsRow W0.heap.size 225 1 v' (k+1) (tm fg m k++[.slice (some ⟨q,0,none⟩) m m]))(hg:w.grownBy w1 fv.ownBlock)(hv:v'.ownBlock=fv.ownBlock\/v'.ownBlock=some w.heap.size):
  Vz W0 (w1.setCell ⟨D,3,none⟩ v') D kb sb wb c0 c1 v' (k+1) m (Ed fg k q) f:=by
 have s1:=hb.size;have s2:=hg.size;have lq:=hr.lt;have s0:=h.below.size;have hD:=(Array.getElem?_eq_some_iff.1 h.row).1
 have nf:∀g,g∈[D,kb,sb,wb]->fv.ownBlock≠some g:=fun g hg e=>(h.a3 g e).1 hg
 have nfg:∀i,i<k->fv.ownBlock≠some (fg i):=fun i hi e=>(h.a3 _ e).2 i hi rfl
 have kA:∀g,g<wr.heap.size->fv.ownBlock≠some g->w1.heap[g]?=wr.heap[g]?:=fun g hl e=>(hg.block g (by omega) (Ne.symm e)).trans (hb.block g hl)
 have kB:∀g,g<wr.heap.size->fv.ownBlock≠some g->g≠D->(w1.setCell ⟨D,3,none⟩ v').heap[g]?=wr.heap[g]?:=fun g hl e e2=>(aa e2).trans (kA g hl e)
 have nq:fv.ownBlock≠some q:=fun e=>by have:=(xf h.fl e).2;omega
 have hqD:q≠D:=by omega
 have ap:=h.ap;simp only [List.nodup_cons,List.mem_cons,List.not_mem_nil,or_false,not_or,List.nodup_nil,and_true,not_false_eq_true]at ap;have lt:∀g,g∈[D,kb,sb,wb]->g<wr.heap.size:=fun g hg=>by
  simp only [List.mem_cons,List.not_mem_nil,or_false]at hg;rcases hg with rfl|rfl|rfl|rfl
  . exact hD
  . exact h.rk.lt
  . exact h.rs.lt
  . exact h.rw.lt
 have nv:∀g,g<wr.heap.size->fv.ownBlock≠some g->v'.ownBlock≠some g:=fun g hl e e2=>by
  rcases hv with r|r
  . exact e (by rw [<-r];exact e2)
  . rw [r]at e2;cases e2;omega
 have nvq:v'.ownBlock≠some q:=fun e=>by
  rcases hv with r|r
  . exact nq (by rw [<-r];exact e)
  . rw [r]at e;cases e;omega
 refine ⟨?_,h.rk.keep (kB _ h.rk.lt (nf _ (by simp)) (by omega)),h.rs.keep (kB _ h.rs.lt (nf _ (by simp)) (by omega)),h.rw.keep (kB _ h.rw.lt (nf _ (by simp)) (by omega)), ?_, ?_,h.ap, ?_, ?_, ?_,h.base, ?_, ?_⟩
 . have:=heap_set (j:=3) v' ((kA D hD (nf _ (by simp))).trans h.row)
   simpa using this
 . rw [nF,GJ,Ec];exact Pf ho fun g e=>aa fun e2=>nv D hD (nf _ (by simp)) (e2▸e)
 . intro i hi;by_cases e:i=k
   . rw [e,Ec];exact hr.keep ((aa hqD).trans (hg.block q lq (Ne.symm nq)))
   . rw [mc _ _ e];have hi:i<k:=by omega
     exact (h.rf i hi).keep (kB _ (h.rf i hi).lt (nfg i hi) (fun e=>h.a1 i hi (by rw [e];simp)))
 . intro i hi;by_cases e:i=k
   . rw [e,Ec];intro hm;have:=lt q hm;omega
   . rw [mc _ _ e];exact h.a1 i (by omega)
 . intro i hi j hj xk;by_cases e:i=k
   . rw [e,Ec,mc _ _ (by omega)];have:=(h.rf j (by omega)).lt;omega
   . rw [mc _ _ e];by_cases e':j=k
     . rw [e',Ec];have:=(h.rf i (by omega)).lt;omega
     . rw [mc _ _ e'];exact h.a2 i (by omega) j (by omega) xk
 . intro g e;refine ⟨fun hm=>nv g (lt g hm) (nf g hm) e,fun i hi=> ?_⟩;by_cases e':i=k
   . rw [e',Ec];intro e2;exact nvq (e2▸e)
   . rw [mc _ _ e'];have hi:i<k:=by omega
     intro e2;exact nv (fg i) (h.rf i hi).lt (nfg i hi) (e2▸e)
 . intro i hi;by_cases e:i=k
   . rw [e,Ec];omega
   . rw [mc _ _ e];exact h.bf i (by omega)
 . exact ((h.below.trans (hb.mono s0)).grown hg (by omega) (fun q e=>(xf h.fl e).1)).setCell (h.base D (by simp)) _
def Rv.start(m d kb sb wb fb pb n nt np c0 c1 c3:Nat)(fg:Nat->Nat)(f:Nat->Int):Rv:=
 {m,d,kb,sb,wb,fb,pb,n,nt,np,c0,c1,c2:=n,c3,c4:=np,fg,fc:=fun _=>n,kept:=f,seen:=f,pass:=fun _=>0,wr:=fun _=>0,fl:=fun _ _=>false,ck:=0,bd:=0,la:=⟨0,0,0,0,0,false⟩,wm:=0}
theorem gN(m d kb sb wb fb pb n nt np c0 c1 c3:Nat)(fg:Nat->Nat)(f:Nat->Int):Init (Rv.start m d kb sb wb fb pb n nt np c0 c1 c3 fg f) f n nt np:=
 ⟨rfl,rfl,rfl,fun _ _=>rfl,fun _ _=>rfl,fun _ _=>rfl,fun _ _ _ _=>rfl,rfl,rfl,rfl⟩
theorem JJ{W0 W W':World}{m d kb sb wb fb pb n nt np c0 c1 c3:Nat}{fg:Nat->Nat}{f:Nat->Int}(h:Vz W0 W d kb sb wb c0 c1 (.slice (some ⟨fb,0,none⟩) nt c3) nt n fg f)(he:∀g,g∈[d,kb,sb,wb,fb]\/(∃t,t<nt/\fg t=g)->W'.heap[g]?=W.heap[g]?)
  (hm:m∉[d,kb,sb,wb,fb]/\∀t,t<nt->fg t≠m)(hp:pb∉[d,kb,sb,wb,fb]/\∀t,t<nt->fg t≠pb)(hmp:m≠pb)
  (hr:W'.heap[m]?=some (.cells #[.pointer (some ⟨d,0,none⟩), .slice (some ⟨pb,0,none⟩) np np, .int .i64 0, .int .i64 0, .int .i64 0, .int .i64 0, .int .i64 0, .int .u64 0, .int .u64 0, .bool false] 141 (0,0)))(hpr:Eb W' pb np fun _=> .int .u64 0)(n0:0<n)(n1:n<=262144)(t0:0<nt)(t1:nt<=64)(p1:np<=262144):
  ma W' (Rv.start m d kb sb wb fb pb n nt np c0 c1 c3 fg f):=by
 have FT:=h.a3 fb rfl;have ap:=h.ap;obtain ⟨g',dR,c,e1,hb,hg,jL,mK,RY⟩:=Zf h.fl t0;cases e1;simp only [List.nodup_cons,List.mem_cons,List.not_mem_nil,or_false,not_or,List.nodup_nil,and_true,not_false_eq_true]at ap;have FA:=hm.1
 have KP:=hp.1
 have hf1:=FT.1
 simp only [List.mem_cons,List.not_mem_nil,or_false,not_or]at FA KP hf1;refine ⟨hr,(he d (Or.inl (by simp))).trans h.row,h.rk.keep (he kb (Or.inl (by simp))),h.rs.keep (he sb (Or.inl (by simp))),h.rw.keep (he wb (Or.inl (by simp))), ?_,hpr,fun t ht=>(h.rf t ht).keep (he _ (Or.inr ⟨t,ht,rfl⟩)), ?_,fun t ht=> ?_,h.a2,n0,n1,t1,p1,Int.le_refl _,Int.le_refl _,Int.le_refl _,fun k _=>⟨Int.le_refl _,Int.le_refl _⟩⟩
 . exact ⟨c,_,(he fb (Or.inl (by simp))).trans hg,fun k hk=>by rw [RY k (by show k<nt*1;have:k<nt:=hk;omega)];exact IJ fg n nt k hk⟩
 . show[m,d,kb,sb,wb,fb,pb].Nodup
   obtain ⟨p1,p2,p3,p4,p5⟩:=FA;obtain ⟨r1,r2,r3,r4,r5⟩:=KP;obtain ⟨s1,s2,s3,s4⟩:=hf1;obtain ⟨⟨u1,u2,u3⟩,⟨u4,u5⟩,u6⟩:=ap;simp only [List.nodup_cons,List.mem_cons,List.not_mem_nil,or_false,not_or,List.nodup_nil,and_true,not_false_eq_true];exact ⟨⟨p1,p2,p3,p4,p5,hmp⟩,⟨u1,u2,u3,Ne.symm s1,Ne.symm r1⟩,⟨u4,u5,Ne.symm s2,Ne.symm r2⟩,⟨u6,Ne.symm s3,Ne.symm r3⟩,⟨Ne.symm s4,Ne.symm r4⟩,Ne.symm r5⟩
 . have a:=h.a1 t ht;have b:=hm.2 t ht
   have c:=hp.2 t ht
   have e:=FT.2 t ht
   show fg t∉[m,d,kb,sb,wb,fb,pb]
   simp only [List.mem_cons,List.not_mem_nil,or_false,not_or]at a⊢;exact ⟨b,a.1,a.2.1,a.2.2.1,a.2.2.2,e,c⟩
def dU(W0:World)(m nt:Nat)(f:Nat->Int)(e:Ending)(W':World):Prop:=
 ∃d kb sb wb fb c0 c1 c3 fg,e= .returned (.pointer (some ⟨d,0,none⟩))/\Vz W0 W' d kb sb wb c0 c1 (.slice (some ⟨fb,0,none⟩) nt c3) nt m fg f
theorem XR{W:World}{b:Nat}{k0 k1 k2 k3:Value}{t:TypeId}(h:W.heap[b]?=some (.cells #[k0,k1,k2,k3] t (0,0))):
  W.cell? ⟨b,0,none⟩=some k0/\W.cell? ⟨b,1,none⟩=some k1/\W.cell? ⟨b,2,none⟩=some k2/\W.cell? ⟨b,3,none⟩=some k3/\∀j,W.frozen? ⟨b,j,none⟩=false:=by
 refine ⟨?_, ?_, ?_, ?_,fun j=> ?_⟩
 all_goals first|(rw [cell_of_row _ _ _ _ _ _ h];rfl)|(unfold World.frozen?;rw [h];simp)
theorem Jad:(Tryz.prog.info? 4).map (fun i=>(i.zero,i.size,i.bytes))=some (some (.bool false),1,1):=by kernel_rfl
theorem UY:(Tryz.prog.info? 225).map (fun i=>(i.zero,i.size,i.bytes))=some (some (.slice none 0 0),1,24):=by kernel_rfl
theorem oF{W0 wr:World}{D m:Nat}{kv sv:Value}{f:Nat->Int}(hm:0<m)(h:Nk W0 wr D kv sv (.slice none 0 0) (.slice none 0 0) (8*m) (8*m) f)(fg:Nat->Nat):
  ∃kb sb c0 c1,Vz W0 ((wr.alloc (.cells (madeCells #[.int .i64 0] m) 3)).setCell ⟨D,2,none⟩ (.slice (some ⟨wr.heap.size,0,none⟩) m m)) D kb sb wr.heap.size c0 c1 (.slice none 0 0) 0 m fg f:=by
 obtain ⟨kb,c0,c,rfl,b1,g1,_,_,x1⟩:=Zf h.kept (by omega);obtain ⟨sb,c1,c',rfl,b2,g2,_,_,x2⟩:=Zf h.seen (by omega);have hD:=(Array.getElem?_eq_some_iff.1 h.row).1
 have l1:=(Array.getElem?_eq_some_iff.1 g1).1
 have l2:=(Array.getElem?_eq_some_iff.1 g2).1
 have s0:=h.below.size;have n1:kb≠D:=fun e=>h.n1 (by rw [e];rfl)
 have n2:sb≠D:=fun e=>h.n2 (by rw [e];rfl)
 have n3:kb≠sb:=fun e=>h.n3 kb rfl (by rw [e];rfl)
 have k:∀g,g<wr.heap.size->g≠D->((wr.alloc (.cells (madeCells #[.int .i64 0] m) 3)).setCell ⟨D,2,none⟩ (.slice (some ⟨wr.heap.size,0,none⟩) m m)).heap[g]?=wr.heap[g]?:=fun g hg e=>(aa e).trans (Below.heap_alloc _ _ _ hg)
 refine ⟨kb,sb,c0,c1, ?_,Eb.keep ⟨c,_,g1,fun j hj=>by rw [x1 j (by omega)];exact Kj f _ j hj⟩ (k kb l1 n1),Eb.keep ⟨c',_,g2,fun j hj=>by rw [x2 j (by omega)];exact Kj f _ j hj⟩ (k sb l2 n2),⟨_,_,(aa (by omega)).trans (heap_alloc_new wr _),fun j hj=>jg _ _ _ hj⟩,World.ownsRow_nil _ _ _ _,fun i hi=>absurd hi (by omega), ?_,fun i hi=>absurd hi (by omega),fun i hi=>absurd hi (by omega),(fun g e=>by cases e), ?_,fun i hi=>absurd hi (by omega), ?_⟩
 . have:=heap_set (j:=2) (.slice (some ⟨wr.heap.size,0,none⟩) m m) ((Below.heap_alloc wr (.cells (madeCells #[.int .i64 0] m) 3) D hD).trans h.row)
   simpa using this
 . simp only [List.nodup_cons,List.mem_cons,List.not_mem_nil,or_false,not_or,List.nodup_nil,and_true,not_false_eq_true];exact ⟨⟨Ne.symm n1,Ne.symm n2,by omega⟩,⟨n3,by omega⟩,by omega⟩
 . intro g hg;simp only [List.mem_cons,List.not_mem_nil,or_false]at hg;have:=h.base;rcases hg with rfl|rfl|rfl|rfl<;>omega
 . exact (h.below.alloc s0 _).setCell h.base _
set_option maxRecDepth 100000 in
set_option maxHeartbeats 4000000 in
theorem KJ(a:Option Addr)(b off m cap nt:Nat)(ha:a=some ⟨b,off,none⟩)(TD:0<m)(FA:m<=262144)(nK:0<nt)(Y1:nt<=64)(f:Nat->Int)(W0:World)(hb:b<W0.heap.size)(hw:∀j,j<8*m->W0.cell? ⟨b,off+j,none⟩=some (.int .u64 (f j))):
  Calls Tryz.prog 105 #[.slice a (8*m) cap, .int .i64 nt] W0 (dU W0 m nt f):=by
 subst ha;obtain ⟨i42,hi,ft,Kh,qg⟩:=info_parts DE;have HB:=Lib.hid hb;have HW:=Lib.hid hw;have HM:=Lib.hid (And.intro TD FA);clear hb hw;obtain ⟨n,hn⟩:∃n,n=8*m:=⟨_,rfl⟩;have RX:n<=2097152:=by omega
 have LP:((n:Int)).tdiv 8=(m:Int):=by rw [Int.tdiv_eq_ediv_of_nonneg (by omega)];omega
 have hn9:(n:Int)/8=(m:Int):=by omega
 rw [<-hn]at HW⊢;have HN:=Lib.hid hn;clear hn
 go_enter Tryz.func105,Tryz.ntmps105
 go_wp2_with fail
 obtain ⟨D,hD⟩:∃D,D=W0.heap.size:=⟨_,rfl⟩;rw [<-hD];have HD:=Lib.hid hD;clear hD
 go_loopw [6] (fun i wr=>∃(k:Nat) (kv sv:Value),k<=n/\i= .int .i64 k/\Hid (Nk W0 wr D kv sv (.slice none 0 0) (.slice none 0 0) k k f)) (fun i _=>n -(intOf i).toNat)
 case atStart=>exact ⟨0,_,_,Nat.zero_le _,rfl,Lib.hid ⟨by rw [HD.out];exact heap_alloc_new _ _,World.ownsRow_nil _ _ _ _,World.ownsRow_nil _ _ _ _,by rw [HD.out];exact Nat.le_refl _,(by intro e;cases e),(by intro e;cases e),(by intro g e;cases e),(Below.refl _ _).alloc (Nat.le_refl _) _⟩⟩
 case round=>
  obtain ⟨k,kv,sv,hk,rfl,HH⟩:=hrel;by_cases Ab:k<n
  . have e1:decide ((k:Int)<(n:Int))=true:=ca (by omega);have i0:(0:Int)<=(k:Int):=by omega
    have i1:(k:Int)<(n:Int):=by omega
    obtain ⟨ka,km,kc,rfl⟩:=Rd HH.out.kept;obtain ⟨sa,sm,sc,rfl⟩:=Rd HH.out.seen;obtain ⟨y0,y1,y2,y3,yf⟩:=XR HH.out.row;have z0:wr.cell? ⟨b,off+k,none⟩=some (.int .u64 (f k)):=(HH.out.below.cell (p:=⟨b,off+k,none⟩) HB.out).trans (HW.out k Ab)
    have WG:Hid (W0.heap.size<=wr.heap.size):=Lib.hid HH.out.below.size;have Kt:Hid (D<wr.heap.size):=Lib.hid (Array.getElem?_eq_some_iff.1 HH.out.row).1
    have HVK:Hid (f k=f k):=Lib.hid rfl;have RC:Hid (b<wr.heap.size):=Lib.hid (Nat.lt_of_lt_of_le HB.out HH.out.below.size);obtain ⟨v,hv⟩:∃v,v=f k:=⟨_,rfl⟩;rw [<-hv]at z0;have HV:=Lib.hid hv;clear hv HVK;have p1:wr.heap.size≠D:=by have:=Kt.out;omega
    have p2:D≠wr.heap.size:=Ne.symm p1;have p3:wr.heap.size≠b:=by have:=RC.out;omega
    have p4:b≠wr.heap.size:=Ne.symm p3;have p5:∀o,(wr.alloc o).cell? ⟨D,0,none⟩=some (.slice ka km kc):=fun o=>(cell_of_heap (Below.heap_alloc wr o D Kt.out) 0).trans y0
    go_wp2_with fail
    go_region_law ((refine Gd rfl (.tmp 20) (.tmp 25) 99 rfl W0.heap.size 43 i42 _ 1 8 Tryz.underlying99 hi ft Kh qg rfl (by decide) (.slice ka km kc) k _ rfl (by first|exact (HH.out.kept.alloc _).drew|exact HH.out.kept.drew.alloc _) ⟨wr.heap.size,0,none⟩ 1 1 [.int .u64 v] rfl rfl (fun j u hj=>by first|exact ue wr _ _ j u hj) (by simp [Value.oneCell']) (by unfold maxLen;omega) (by omega) (by have:=WG.out;simp;omega) ?_;intro v' w1 ho hg xD;obtain ⟨va,vm,vc,rfl⟩:=Rd ho;have iN:w1.heap[D]?=wr.heap[D]?:=(hg.block D (by have:=Kt.out;simp;omega) (Ne.symm HH.out.n1)).trans (Below.heap_alloc _ _ _ (Kt.out));have g0:w1.cell? ⟨D,0,none⟩=some ((.slice ka km kc)):=(cell_of_heap iN 0).trans y0;have g1:w1.frozen? ⟨D,0,none⟩=false:=(frozen_of_heap iN 0).trans (yf 0);have gz:w1.cell? ⟨b,off+k,none⟩=some (.int .u64 v):=(cell_of_heap ((hg.block b (by have:=RC.out;simp;omega) (fun e=>by have:=(xf HH.out.kept e.symm).1;have:=HB.out;omega)).trans (Below.heap_alloc _ _ _ (by have:=RC.out;simp;omega))) _).trans z0;have HO:=Lib.hid ho;have HG:=Lib.hid hg;have T2:=Lib.hid xD;clear ho hg xD iN))
    all_goals
     go_wp2_with fail
     have Lt:=Lib.hid (HH.out.Had (w:=(wr.alloc (.cells #[.int .u64 v] 43)).drew) (((Below.refl _ _).alloc (Nat.le_refl _) _).drew) (by rw [<-HV.out];exact HO.out) HG.out T2.out);clear y0 y1 y2 y3 yf z0 g0 g1 gz p1 p2 p3 p4 p5 HO HG T2 HH WG Kt RC;obtain ⟨W2,G4⟩:∃W2,W2=w1.setCell ⟨D,0,none⟩ (.slice va vm vc):=⟨_,rfl⟩;rw [<-G4]at Lt⊢;clear G4;obtain ⟨y0,y1,y2,y3,yf⟩:=XR Lt.out.row;have z0:W2.cell? ⟨b,off+k,none⟩=some (.int .u64 v):=(Lt.out.below.cell (p:=⟨b,off+k,none⟩) HB.out).trans (by rw [HV.out];exact HW.out k Ab)
     have WG:Hid (W0.heap.size<=W2.heap.size):=Lib.hid Lt.out.below.size;have Kt:Hid (D<W2.heap.size):=Lib.hid (Array.getElem?_eq_some_iff.1 Lt.out.row).1
     have RC:Hid (b<W2.heap.size):=Lib.hid (Nat.lt_of_lt_of_le HB.out Lt.out.below.size);have p1:W2.heap.size≠D:=by have:=Kt.out;omega
     have p2:D≠W2.heap.size:=Ne.symm p1;have p3:W2.heap.size≠b:=by have:=RC.out;omega
     have p4:b≠W2.heap.size:=Ne.symm p3;have p5:∀o,(W2.alloc o).cell? ⟨D,1,none⟩=some (.slice sa sm sc):=fun o=>(cell_of_heap (Below.heap_alloc W2 o D Kt.out) 1).trans y1
     go_region_law ((refine Gd rfl (.tmp 33) (.tmp 38) 99 rfl W0.heap.size 43 i42 _ 1 8 Tryz.underlying99 hi ft Kh qg rfl (by decide) (.slice sa sm sc) k _ rfl (by first|exact (Lt.out.seen.alloc _).drew|exact Lt.out.seen.drew.alloc _) ⟨W2.heap.size,0,none⟩ 1 1 [.int .u64 v] rfl rfl (fun j u hj=>by first|exact ue W2 _ _ j u hj) (by simp [Value.oneCell']) (by unfold maxLen;omega) (by omega) (by have:=WG.out;simp;omega) ?_;intro v' w1 ho hg xD;obtain ⟨va,vm,vc,rfl⟩:=Rd ho;have iN:w1.heap[D]?=W2.heap[D]?:=(hg.block D (by have:=Kt.out;simp;omega) (Ne.symm Lt.out.n2)).trans (Below.heap_alloc _ _ _ (Kt.out));have g0:w1.cell? ⟨D,1,none⟩=some ((.slice sa sm sc)):=(cell_of_heap iN 1).trans y1;have g1:w1.frozen? ⟨D,1,none⟩=false:=(frozen_of_heap iN 1).trans (yf 1);have gz:w1.cell? ⟨b,off+k,none⟩=some (.int .u64 v):=(cell_of_heap ((hg.block b (by have:=RC.out;simp;omega) (fun e=>by have:=(xf Lt.out.seen e.symm).1;have:=HB.out;omega)).trans (Below.heap_alloc _ _ _ (by have:=RC.out;simp;omega))) _).trans z0;have HO:=Lib.hid ho;have HG:=Lib.hid hg;have T2:=Lib.hid xD;clear ho hg xD iN))
    all_goals
     go_wp2_with fail
     have jN:=Lib.hid (Lt.out.Iad (w:=(W2.alloc (.cells #[.int .u64 v] 43)).drew) (((Below.refl _ _).alloc (Nat.le_refl _) _).drew) (by rw [<-HV.out];exact HO.out) HG.out T2.out);clear y0 y1 y2 y3 yf z0 g0 g1 gz p1 p2 p3 p4 p5
     go_roundw
     case rel=>exact ⟨k+1,_,_,by omega,by go_num,jN⟩
     case measure=>simp [intOf];omega
  . obtain rfl:k=n:=by omega
    have e1:decide ((k:Int)<(k:Int))=false:=by simp
    have yP:=en 145 3 _ _ 8 Tryz.underlying145 bU rfl m (by omega) (by omega);have sD:=en 225 4 _ _ 1 Tryz.underlying225 Jad rfl m (by omega) (by omega);obtain ⟨y0,y1,y2,y3,yf⟩:=XR HH.out.row;have Kt:Hid (D<wr.heap.size):=Lib.hid (Array.getElem?_eq_some_iff.1 HH.out.row).1
    have p1:wr.heap.size≠D:=by have:=Kt.out;omega
    have p2:D≠wr.heap.size:=Ne.symm p1;have m0:(0:Int)<=(m:Int):=by omega
    have p7:∀o,(wr.alloc o).cell? ⟨D,2,none⟩=some (.slice none 0 0):=fun o=>(cell_of_heap (Below.heap_alloc wr o D Kt.out) 2).trans y2
    have p8:∀o,(wr.alloc o).frozen? ⟨D,2,none⟩=false:=fun o=>(frozen_of_heap (Below.heap_alloc wr o D Kt.out) 2).trans (yf 2)
    have OY:=Lib.hid (oF (f:=f) HM.out.1 (by rw [<-HN.out];exact HH.out) (fun _=>0))
    go_wp2_with fail
    obtain ⟨kb,sb,c0,c1,CD⟩:=OY.out;obtain ⟨wb,hwb⟩:∃wb,wb=wr.heap.size:=⟨_,rfl⟩;rw [<-hwb]at CD⊢;obtain ⟨W3,hW3⟩:∃W3,W3=(wr.alloc (.cells (madeCells #[.int .i64 0] m) 3)).setCell ⟨D,2,none⟩ (.slice (some ⟨wb,0,none⟩) m m):=⟨_,rfl⟩
    rw [<-hW3]at CD⊢;have KX:=Lib.hid CD;clear CD hW3 hwb y0 y1 y2 y3 yf p1 p2 p7 p8 OY HH Kt yP;obtain ⟨i88,hi',Maq,Naq,Oaq⟩:=info_parts UY
    go_loopw [7] (fun i wr=>∃(q:Nat) (fv:Value) (fg:Nat->Nat),q<=nt/\i= .int .i64 q/\Hid (Vz W0 wr D kb sb wb c0 c1 fv q m fg f)) (fun i _=>nt -(intOf i).toNat)
    case atStart=>exact ⟨0,_,_,Nat.zero_le _,rfl,KX⟩
    case round=>
     obtain ⟨q,fv,fg,hq,rfl,HQ⟩:=hrel;obtain ⟨fa,fm,fc,rfl⟩:=Rd HQ.out.fl;by_cases Ab:q<nt
     . have e2:decide ((q:Int)<(nt:Int))=true:=ca (by omega);obtain ⟨y0,y1,y2,y3,yf⟩:=XR HQ.out.row;have Kt:Hid (D<wr.heap.size):=Lib.hid (Array.getElem?_eq_some_iff.1 HQ.out.row).1
       have WG:Hid (W0.heap.size<=wr.heap.size):=Lib.hid HQ.out.below.size;have p1:wr.heap.size≠D:=by have:=Kt.out;omega
       have p2:D≠wr.heap.size:=Ne.symm p1;have p5:∀o,(wr.alloc o).cell? ⟨D,3,none⟩=some (.slice fa fm fc):=fun o=>(cell_of_heap (Below.heap_alloc wr o D Kt.out) 3).trans y3
       have p6:∀o o',((wr.alloc o).alloc o').cell? ⟨D,3,none⟩=some (.slice fa fm fc):=fun o o'=>(cell_of_heap ((Below.heap_alloc _ o' D (by have:=Kt.out;simp;omega)).trans (Below.heap_alloc wr o D Kt.out)) 3).trans y3
       have HNF:Hid ((Value.slice fa fm fc).ownBlock≠some D):=Lib.hid fun e=>(HQ.out.a3 D e).1 (by simp)
       have mw:IntKind.i64.wrap (m:Int)=(m:Int):=IntWalk.i64_in _ (by omega)
       go_wp2_with fail
       go_region_law ((refine Gd rfl (.tmp 58) (.tmp 63) 146 rfl W0.heap.size 225 i88 _ 1 24 Tryz.underlying146 hi' Maq Naq Oaq rfl (by decide) (.slice fa fm fc) q _ rfl (by first|exact ((HQ.out.fl.alloc _).alloc _).drew) ⟨wr.heap.size+1,0,none⟩ 1 1 [.slice (some ⟨wr.heap.size,0,none⟩) m m] rfl rfl (fun j u hj=>by have:=ue (wr.alloc (.cells (madeCells #[.bool false] m) 4)) #[.slice (some ⟨wr.heap.size,0,none⟩) m m] 225 j u hj;simpa using this) (by simp [Value.oneCell']) (by unfold maxLen;omega) (by omega) (by have:=WG.out;simp;omega) ?_;intro v' w1 ho hg xD;obtain ⟨va,vm,vc,rfl⟩:=Rd ho;have iN:w1.heap[D]?=wr.heap[D]?:=(hg.block D (by have:=Kt.out;simp;omega) (Ne.symm HNF.out)).trans ((Below.heap_alloc _ _ _ (by have:=Kt.out;simp;omega)).trans (Below.heap_alloc _ _ _ Kt.out));have g0:w1.cell? ⟨D,3,none⟩=some (.slice fa fm fc):=(cell_of_heap iN 3).trans y3;have g1:w1.frozen? ⟨D,3,none⟩=false:=(frozen_of_heap iN 3).trans (yf 3);have HO:=Lib.hid ho;have HG:=Lib.hid hg;have T2:=Lib.hid xD;clear ho hg xD iN))
       all_goals
        go_wp2_with fail
        have jN:=Lib.hid (HQ.out.add (w:=((wr.alloc (.cells (madeCells #[.bool false] m) 4)).alloc (.cells #[.slice (some ⟨wr.heap.size,0,none⟩) m m] 225)).drew) (q:=wr.heap.size) ((((Below.refl _ _).alloc (Nat.le_refl _) _).alloc (by simp) _).drew) (Nat.le_refl _) ⟨_,4,(td wr _ _).1,fun j hj=>jg _ _ _ hj⟩ HO.out HG.out T2.out);clear y0 y1 y2 y3 yf g0 g1 p1 p2 p5 p6
        go_roundw
        case rel=>exact ⟨q+1,_,_,by omega,by go_num,jN⟩
        case measure=>simp [intOf];omega
     . obtain rfl:q=nt:=by omega
       have e2:decide ((q:Int)<(q:Int))=false:=by simp
       obtain ⟨fb,c3,c,uD,-⟩:=Zf HQ.out.fl nK;rw [uD]at HQ;clear uD
       go_wp2_with fail
       go_ret
       exact ⟨D,kb,sb,wb,fb,c0,c1,c3,fg,rfl,HQ.out⟩
theorem Yd(M:Rv)(at_:Int)(q0:-9223372036854775808<=at_)(q1:at_<=9223372036854775807)(o:Int)(is:Bool)(ho:M.Ga at_=(o,is)):∀w,ma w M->Calls Tryz.prog 108 #[.pointer (some ⟨M.m,0,none⟩), .int .i64 at_] w (zh (.tuple #[.int .u64 o, .bool is]) w):=fun w hw=>by
 have:=RI M at_ q0 q1 w hw;rw [ho]at this;exact this
set_option maxRecDepth 100000 in
set_option maxHeartbeats 1000000 in
theorem Wz(M:Rv)(t at_ old w:Int)(q0:-9223372036854775808<=at_)(q1:at_<=9223372036854775807)(W:World)(h:ma W M)(hc:M.ck<=1000000)(o:Int)(hp:M.Ga at_=(o,true)):
  Calls Tryz.prog 47 #[.pointer (some ⟨M.m,0,none⟩), .int .i64 1, .int .i64 t, .int .i64 at_, .int .u64 old, .int .u64 w] W (Ch M (M.note ⟨1,t,at_,o,0,true⟩ true) W):=by
 have HP:=Lib.hid (Yd M at_ q0 q1 o true hp);have HM:=Lib.hid h;have Ab:=h.lt (k:=M.m) (Or.inl (by simp [Rv.blocks]));have n1:W.heap.size≠M.m:=by omega
 have n2:W.heap.size+1≠M.m:=by omega
 have n3:M.m≠W.heap.size:=by omega
 have n4:M.m≠W.heap.size+1:=by omega
 have b0:=h.ak;have b1:=h.Qv;have b2:=h.zq;clear h hp Ab
 go_enter Tryz.func47,Tryz.ntmps47
 go_wp2_with fail
 with_reducible refine (HP.out _ (HM.out.below (((Below.refl _ _).alloc (Nat.le_refl _) _).alloc (by simp) _))).mono ?_
 rintro e w2 ⟨rfl,hb,hh⟩;obtain ⟨rz,ra⟩:=Xc hh;have HB:Hid (Below W.heap.size W w2):=Lib.hid ((((Below.refl _ _).alloc (Nat.le_refl _) _).alloc (by simp) _).trans (hb.mono (by simp;omega)));have HS:Hid (W.heap.size+1<w2.heap.size):=Lib.hid (by rw [hh];simp);have Kf:=Lib.hid (HM.out.below HB.out);obtain ⟨a0,a1,a2,a3,a4,a5,af⟩:=nd ra;obtain ⟨z0,z1,z2,z3,z4,z5,zf⟩:=nd rz;obtain ⟨m0,m1,m2,m3,m4,m5,m6,m7,m8,m9,mf⟩:=ae Kf.out.row;have HZ:=Lib.hid rz;clear hb hh ra rz m0 m1
 go_wp2_with fail
 have hA:∀k,M.own k->k≠W.heap.size+1:=fun k hk e=>HM.out.eb (by omega) (e▸hk)
 have hR:ma ((w2.setCell ⟨W.heap.size+1,3,none⟩ (.int .u64 o)).setCell ⟨W.heap.size+1,5,none⟩ (.bool true)) M:=Kf.out.keep fun k hk=>by rw [aa (hA k hk),aa (hA k hk)]
 have hT:Ea M.own W ((w2.setCell ⟨W.heap.size+1,3,none⟩ (.int .u64 o)).setCell ⟨W.heap.size+1,5,none⟩ (.bool true)):=((Ea.Tb HB.out).set (fun e=>absurd e (by omega)) _ _).set (fun e=>absurd e (by omega)) _ _
 have hZ:=(aa (j:=5) (v:= .bool true) (show W.heap.size≠W.heap.size+1 by omega)).trans ((aa (j:=3) (v:= .int .u64 o) (show W.heap.size≠W.heap.size+1 by omega)).trans HZ.out)
 obtain ⟨f1,f2⟩:=zc hR hT rfl rfl (Nat.le_refl W.heap.size) HM.out ⟨1,t,at_,o,0,true⟩ true;refine bodyPost_ret (v:= .agg (Acc.cells ⟨1,t,at_,o,0,true⟩)) ?_ rfl ?_
 . exact Gb rfl rfl (ld n1 hZ M.ck M.bd ⟨1,t,at_,o,0,true⟩ true)
 . exact ⟨rfl,f1,f2⟩
set_option maxRecDepth 100000 in
set_option maxHeartbeats 1000000 in
theorem aw(M:Rv)(t at_ old w:Int)(q0:-9223372036854775808<=at_)(q1:at_<=9223372036854775807)(W:World)(h:ma W M)(hc:M.ck<=1000000)(o:Int)(hp:M.Ga at_=(o,false)):
  Calls Tryz.prog 47 #[.pointer (some ⟨M.m,0,none⟩), .int .i64 1, .int .i64 t, .int .i64 at_, .int .u64 old, .int .u64 w] W (Ch M (M.note ⟨1,t,at_,o,0,false⟩ false) W):=by
 have HP:=Lib.hid (Yd M at_ q0 q1 o false hp);have HM:=Lib.hid h;have Ab:=h.lt (k:=M.m) (Or.inl (by simp [Rv.blocks]));have n1:W.heap.size≠M.m:=by omega
 have n2:W.heap.size+1≠M.m:=by omega
 have n3:M.m≠W.heap.size:=by omega
 have n4:M.m≠W.heap.size+1:=by omega
 have b0:=h.ak;have b1:=h.Qv;have b2:=h.zq;clear h hp Ab
 go_enter Tryz.func47,Tryz.ntmps47
 go_wp2_with fail
 with_reducible refine (HP.out _ (HM.out.below (((Below.refl _ _).alloc (Nat.le_refl _) _).alloc (by simp) _))).mono ?_
 rintro e w2 ⟨rfl,hb,hh⟩;obtain ⟨rz,ra⟩:=Xc hh;have HB:Hid (Below W.heap.size W w2):=Lib.hid ((((Below.refl _ _).alloc (Nat.le_refl _) _).alloc (by simp) _).trans (hb.mono (by simp;omega)));have HS:Hid (W.heap.size+1<w2.heap.size):=Lib.hid (by rw [hh];simp);have Kf:=Lib.hid (HM.out.below HB.out);obtain ⟨a0,a1,a2,a3,a4,a5,af⟩:=nd ra;obtain ⟨z0,z1,z2,z3,z4,z5,zf⟩:=nd rz;obtain ⟨m0,m1,m2,m3,m4,m5,m6,m7,m8,m9,mf⟩:=ae Kf.out.row;have HZ:=Lib.hid rz;clear hb hh ra rz m0 m1
 go_wp2_with fail
 have hA:∀k,M.own k->k≠W.heap.size+1:=fun k hk e=>HM.out.eb (by omega) (e▸hk)
 have hR:ma ((w2.setCell ⟨W.heap.size+1,3,none⟩ (.int .u64 o)).setCell ⟨W.heap.size+1,5,none⟩ (.bool false)) M:=Kf.out.keep fun k hk=>by rw [aa (hA k hk),aa (hA k hk)]
 have hT:Ea M.own W ((w2.setCell ⟨W.heap.size+1,3,none⟩ (.int .u64 o)).setCell ⟨W.heap.size+1,5,none⟩ (.bool false)):=((Ea.Tb HB.out).set (fun e=>absurd e (by omega)) _ _).set (fun e=>absurd e (by omega)) _ _
 have hZ:=(aa (j:=5) (v:= .bool false) (show W.heap.size≠W.heap.size+1 by omega)).trans ((aa (j:=3) (v:= .int .u64 o) (show W.heap.size≠W.heap.size+1 by omega)).trans HZ.out)
 obtain ⟨f1,f2⟩:=zc hR hT rfl rfl (Nat.le_refl W.heap.size) HM.out ⟨1,t,at_,o,0,false⟩ false;refine bodyPost_ret (v:= .agg (Acc.cells ⟨1,t,at_,o,0,false⟩)) ?_ rfl ?_
 . exact Gb rfl rfl (ld n1 hZ M.ck M.bd ⟨1,t,at_,o,0,false⟩ false)
 . exact ⟨rfl,f1,f2⟩
set_option maxRecDepth 100000 in
set_option maxHeartbeats 1000000 in
theorem Xz(M:Rv)(t at_ old w:Int)(q0:-9223372036854775808<=at_)(q1:at_<=9223372036854775807)(W:World)(h:ma W M)(hc:M.ck<=1000000)(o:Int)(hp:M.Ga at_=(o,false)):
  Calls Tryz.prog 47 #[.pointer (some ⟨M.m,0,none⟩), .int .i64 2, .int .i64 t, .int .i64 at_, .int .u64 old, .int .u64 w] W (Ch M (M.note ⟨2,t,at_,o,w,false⟩ false) W):=by
 have HP:=Lib.hid (Yd M at_ q0 q1 o false hp);have HM:=Lib.hid h;have Ab:=h.lt (k:=M.m) (Or.inl (by simp [Rv.blocks]));have n1:W.heap.size≠M.m:=by omega
 have n2:W.heap.size+1≠M.m:=by omega
 have n3:M.m≠W.heap.size:=by omega
 have n4:M.m≠W.heap.size+1:=by omega
 have b0:=h.ak;have b1:=h.Qv;have b2:=h.zq;have HO:Hid (∀k,M.own k->M.own k):=Lib.hid fun _ h=>h
 clear h hp Ab
 go_enter Tryz.func47,Tryz.ntmps47
 go_wp2_with fail
 with_reducible refine (HP.out _ (HM.out.below (((Below.refl _ _).alloc (Nat.le_refl _) _).alloc (by simp) _))).mono ?_
 rintro e w2 ⟨rfl,hb,hh⟩;obtain ⟨rz,ra⟩:=Xc hh;have HB:Hid (Below W.heap.size W w2):=Lib.hid ((((Below.refl _ _).alloc (Nat.le_refl _) _).alloc (by simp) _).trans (hb.mono (by simp;omega)));have HS:Hid (W.heap.size+1<w2.heap.size):=Lib.hid (by rw [hh];simp);have Kf:=Lib.hid (HM.out.below HB.out);obtain ⟨a0,a1,a2,a3,a4,a5,af⟩:=nd ra;obtain ⟨z0,z1,z2,z3,z4,z5,zf⟩:=nd rz;obtain ⟨m0,m1,m2,m3,m4,m5,m6,m7,m8,m9,mf⟩:=ae Kf.out.row;have HZ:=Lib.hid rz;clear hb hh ra rz m0 m1
 go_wp2_with fail
 have hA:∀k,Rv.own M k->k≠W.heap.size+1:=fun k hk e=>HM.out.eb (by omega) (e▸(HO.out k hk))
 have Zl:ma (((w2.setCell ⟨W.heap.size+1,3,none⟩ (.int .u64 o)).setCell ⟨W.heap.size+1,5,none⟩ (.bool false)).setCell ⟨W.heap.size+1,4,none⟩ (.int .u64 w)) M:=Kf.out.keep fun k hk=>by rw [aa (hA k hk),aa (hA k hk),aa (hA k hk)]
 have Mt:Ea M.own W (((w2.setCell ⟨W.heap.size+1,3,none⟩ (.int .u64 o)).setCell ⟨W.heap.size+1,5,none⟩ (.bool false)).setCell ⟨W.heap.size+1,4,none⟩ (.int .u64 w)):=((((Ea.Tb HB.out).set (fun e=>absurd e (by omega)) _ _).set (fun e=>absurd e (by omega)) _ _).set (fun e=>absurd e (by omega)) _ _);have Nt:=((aa (j:=4) (v:= .int .u64 w) (show W.heap.size≠W.heap.size+1 by omega)).trans ((aa (j:=5) (v:= .bool false) (show W.heap.size≠W.heap.size+1 by omega)).trans ((aa (j:=3) (v:= .int .u64 o) (show W.heap.size≠W.heap.size+1 by omega)).trans HZ.out)));obtain ⟨f1,f2⟩:=zc Zl Mt rfl rfl (Nat.le_refl W.heap.size) HM.out ⟨2,t,at_,o,w,false⟩ false;refine bodyPost_ret (v:= .agg (Acc.cells ⟨2,t,at_,o,w,false⟩)) ?_ rfl ?_
 . exact Gb rfl rfl (ld n1 Nt M.ck M.bd ⟨2,t,at_,o,w,false⟩ false)
 . exact ⟨rfl,f1,f2⟩
set_option maxRecDepth 100000 in
set_option maxHeartbeats 1000000 in
theorem SC(M:Rv)(t at_ old w:Int)(q0:-9223372036854775808<=at_)(q1:at_<=9223372036854775807)(W:World)(h:ma W M)(hc:M.ck<=1000000)(o:Int)(hp:M.Ga at_=(o,false)):
  Calls Tryz.prog 47 #[.pointer (some ⟨M.m,0,none⟩), .int .i64 3, .int .i64 t, .int .i64 at_, .int .u64 old, .int .u64 w] W (Ch M (M.note ⟨3,t,at_,o,w,false⟩ false) W):=by
 have HP:=Lib.hid (Yd M at_ q0 q1 o false hp);have HM:=Lib.hid h;have Ab:=h.lt (k:=M.m) (Or.inl (by simp [Rv.blocks]));have n1:W.heap.size≠M.m:=by omega
 have n2:W.heap.size+1≠M.m:=by omega
 have n3:M.m≠W.heap.size:=by omega
 have n4:M.m≠W.heap.size+1:=by omega
 have b0:=h.ak;have b1:=h.Qv;have b2:=h.zq;have HO:Hid (∀k,M.own k->M.own k):=Lib.hid fun _ h=>h
 clear h hp Ab
 go_enter Tryz.func47,Tryz.ntmps47
 go_wp2_with fail
 with_reducible refine (HP.out _ (HM.out.below (((Below.refl _ _).alloc (Nat.le_refl _) _).alloc (by simp) _))).mono ?_
 rintro e w2 ⟨rfl,hb,hh⟩;obtain ⟨rz,ra⟩:=Xc hh;have HB:Hid (Below W.heap.size W w2):=Lib.hid ((((Below.refl _ _).alloc (Nat.le_refl _) _).alloc (by simp) _).trans (hb.mono (by simp;omega)));have HS:Hid (W.heap.size+1<w2.heap.size):=Lib.hid (by rw [hh];simp);have Kf:=Lib.hid (HM.out.below HB.out);obtain ⟨a0,a1,a2,a3,a4,a5,af⟩:=nd ra;obtain ⟨z0,z1,z2,z3,z4,z5,zf⟩:=nd rz;obtain ⟨m0,m1,m2,m3,m4,m5,m6,m7,m8,m9,mf⟩:=ae Kf.out.row;have HZ:=Lib.hid rz;clear hb hh ra rz m0 m1
 go_wp2_with fail
 have hA:∀k,Rv.own M k->k≠W.heap.size+1:=fun k hk e=>HM.out.eb (by omega) (e▸(HO.out k hk))
 have Zl:ma (((w2.setCell ⟨W.heap.size+1,3,none⟩ (.int .u64 o)).setCell ⟨W.heap.size+1,5,none⟩ (.bool false)).setCell ⟨W.heap.size+1,4,none⟩ (.int .u64 w)) M:=Kf.out.keep fun k hk=>by rw [aa (hA k hk),aa (hA k hk),aa (hA k hk)]
 have Mt:Ea M.own W (((w2.setCell ⟨W.heap.size+1,3,none⟩ (.int .u64 o)).setCell ⟨W.heap.size+1,5,none⟩ (.bool false)).setCell ⟨W.heap.size+1,4,none⟩ (.int .u64 w)):=((((Ea.Tb HB.out).set (fun e=>absurd e (by omega)) _ _).set (fun e=>absurd e (by omega)) _ _).set (fun e=>absurd e (by omega)) _ _);have Nt:=((aa (j:=4) (v:= .int .u64 w) (show W.heap.size≠W.heap.size+1 by omega)).trans ((aa (j:=5) (v:= .bool false) (show W.heap.size≠W.heap.size+1 by omega)).trans ((aa (j:=3) (v:= .int .u64 o) (show W.heap.size≠W.heap.size+1 by omega)).trans HZ.out)));obtain ⟨f1,f2⟩:=zc Zl Mt rfl rfl (Nat.le_refl W.heap.size) HM.out ⟨3,t,at_,o,w,false⟩ false;refine bodyPost_ret (v:= .agg (Acc.cells ⟨3,t,at_,o,w,false⟩)) ?_ rfl ?_
 . exact Gb rfl rfl (ld n1 Nt M.ck M.bd ⟨3,t,at_,o,w,false⟩ false)
 . exact ⟨rfl,f1,f2⟩
set_option maxRecDepth 100000 in
set_option maxHeartbeats 1000000 in
theorem pF(M:Rv)(t at_ old w:Int)(q0:-9223372036854775808<=at_)(q1:at_<=9223372036854775807)(W:World)(h:ma W M)(hc:M.ck<=1000000)(o:Int)(hp:M.Ga at_=(o,true))(Jc:(o==old)=false):
  Calls Tryz.prog 47 #[.pointer (some ⟨M.m,0,none⟩), .int .i64 3, .int .i64 t, .int .i64 at_, .int .u64 old, .int .u64 w] W (Ch M (M.note ⟨3,t,at_,o,w,false⟩ true) W):=by
 have HP:=Lib.hid (Yd M at_ q0 q1 o true hp);have HM:=Lib.hid h;have Ab:=h.lt (k:=M.m) (Or.inl (by simp [Rv.blocks]));have n1:W.heap.size≠M.m:=by omega
 have n2:W.heap.size+1≠M.m:=by omega
 have n3:M.m≠W.heap.size:=by omega
 have n4:M.m≠W.heap.size+1:=by omega
 have b0:=h.ak;have b1:=h.Qv;have b2:=h.zq;have HO:Hid (∀k,M.own k->M.own k):=Lib.hid fun _ h=>h
 clear h hp Ab
 go_enter Tryz.func47,Tryz.ntmps47
 go_wp2_with fail
 with_reducible refine (HP.out _ (HM.out.below (((Below.refl _ _).alloc (Nat.le_refl _) _).alloc (by simp) _))).mono ?_
 rintro e w2 ⟨rfl,hb,hh⟩;obtain ⟨rz,ra⟩:=Xc hh;have HB:Hid (Below W.heap.size W w2):=Lib.hid ((((Below.refl _ _).alloc (Nat.le_refl _) _).alloc (by simp) _).trans (hb.mono (by simp;omega)));have HS:Hid (W.heap.size+1<w2.heap.size):=Lib.hid (by rw [hh];simp);have Kf:=Lib.hid (HM.out.below HB.out);obtain ⟨a0,a1,a2,a3,a4,a5,af⟩:=nd ra;obtain ⟨z0,z1,z2,z3,z4,z5,zf⟩:=nd rz;obtain ⟨m0,m1,m2,m3,m4,m5,m6,m7,m8,m9,mf⟩:=ae Kf.out.row;have HZ:=Lib.hid rz;clear hb hh ra rz m0 m1
 go_wp2_with fail
 have hA:∀k,Rv.own M k->k≠W.heap.size+1:=fun k hk e=>HM.out.eb (by omega) (e▸(HO.out k hk))
 have Zl:ma (((w2.setCell ⟨W.heap.size+1,3,none⟩ (.int .u64 o)).setCell ⟨W.heap.size+1,5,none⟩ (.bool false)).setCell ⟨W.heap.size+1,4,none⟩ (.int .u64 w)) M:=Kf.out.keep fun k hk=>by rw [aa (hA k hk),aa (hA k hk),aa (hA k hk)]
 have Mt:Ea M.own W (((w2.setCell ⟨W.heap.size+1,3,none⟩ (.int .u64 o)).setCell ⟨W.heap.size+1,5,none⟩ (.bool false)).setCell ⟨W.heap.size+1,4,none⟩ (.int .u64 w)):=((((Ea.Tb HB.out).set (fun e=>absurd e (by omega)) _ _).set (fun e=>absurd e (by omega)) _ _).set (fun e=>absurd e (by omega)) _ _);have Nt:=((aa (j:=4) (v:= .int .u64 w) (show W.heap.size≠W.heap.size+1 by omega)).trans ((aa (j:=5) (v:= .bool false) (show W.heap.size≠W.heap.size+1 by omega)).trans ((aa (j:=3) (v:= .int .u64 o) (show W.heap.size≠W.heap.size+1 by omega)).trans HZ.out)));obtain ⟨f1,f2⟩:=zc Zl Mt rfl rfl (Nat.le_refl W.heap.size) HM.out ⟨3,t,at_,o,w,false⟩ true;refine bodyPost_ret (v:= .agg (Acc.cells ⟨3,t,at_,o,w,false⟩)) ?_ rfl ?_
 . exact Gb rfl rfl (ld n1 Nt M.ck M.bd ⟨3,t,at_,o,w,false⟩ true)
 . exact ⟨rfl,f1,f2⟩
end Go.Proofs.YtfnkmolffhfpoaaGreat
