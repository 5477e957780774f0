/- -/
import Derived.Test.YtfnkmolffhfpoaaGreatHq31
import Derived.Deep.RegionLaw
import Derived.Test.YtfnkmolffhfpoaaGreatHq20
set_option linter.unusedVariables false
set_option linter.unusedSimpArgs false
namespace Go.Proofs.YtfnkmolffhfpoaaGreat
open Go.RowKit Go.BigFrame
def WX(W0:World)(m nt:Nat)(f:Nat->Int)(e:Ending)(W':World):Prop:=
 ∃d kb sb wb fb c0 c1 c3 fg,e= .returned (.pointer (some ⟨d,0,none⟩))/\wC W0 W' d kb sb wb c0 c1 (.slice (some ⟨fb,0,none⟩) nt c3) nt m fg f
theorem pW{W:World}{b:Nat}{k0 k1 k2 k3:Value}{t:TypeId}(h:W.heap[b]?=some (.cells #[k0,k1,k2,k3] t (0,0))):
  W.cell? ⟨b,0,none⟩=some k0/\W.cell? ⟨b,1,none⟩=some k1/\W.cell? ⟨b,2,none⟩=some k2/\W.cell? ⟨b,3,none⟩=some k3/\∀j,W.frozen? ⟨b,j,none⟩=false:=by
 refine ⟨?_, ?_, ?_, ?_,fun j=> ?_⟩
 all_goals first|(rw [cell_of_row _ _ _ _ _ _ h];rfl)|(unfold World.frozen?;rw [h];simp)
theorem pak:(Tryz.prog.info? 4).map (fun i=>(i.zero,i.size,i.bytes))=some (some (.bool false),1,1):=by kernel_rfl
theorem saa:(Tryz.prog.info? 225).map (fun i=>(i.zero,i.size,i.bytes))=some (some (.slice none 0 0),1,24):=by kernel_rfl
theorem oI{W0 wr:World}{D m:Nat}{kv sv:Value}{f:Nat->Int}(hm:0<m)(h:An W0 wr D kv sv (.slice none 0 0) (.slice none 0 0) (8*m) (8*m) f)(fg:Nat->Nat):
  ∃kb sb c0 c1,wC W0 ((wr.alloc (.cells (madeCells #[.int .i64 0] m) 3)).setCell ⟨D,2,none⟩ (.slice (some ⟨wr.heap.size,0,none⟩) m m)) D kb sb wr.heap.size c0 c1 (.slice none 0 0) 0 m fg f:=by
 obtain ⟨kb,c0,c,rfl,b1,g1,_,_,x1⟩:=Eg h.kept (by omega);obtain ⟨sb,c1,c',rfl,b2,g2,_,_,x2⟩:=Eg h.seen (by omega);have hD:=(Array.getElem?_eq_some_iff.1 h.row).1
 have l1:=(Array.getElem?_eq_some_iff.1 g1).1
 have l2:=(Array.getElem?_eq_some_iff.1 g2).1
 have s0:=h.below.size;have n1:kb≠D:=fun e=>h.n1 (by rw [e];rfl)
 have n2:sb≠D:=fun e=>h.n2 (by rw [e];rfl)
 have n3:kb≠sb:=fun e=>h.n3 kb rfl (by rw [e];rfl)
 have k:∀g,g<wr.heap.size->g≠D->((wr.alloc (.cells (madeCells #[.int .i64 0] m) 3)).setCell ⟨D,2,none⟩ (.slice (some ⟨wr.heap.size,0,none⟩) m m)).heap[g]?=wr.heap[g]?:=fun g hg e=>(aa e).trans (Below.heap_alloc _ _ _ hg)
 refine ⟨kb,sb,c0,c1, ?_,Za.keep ⟨c,_,g1,fun j hj=>by rw [x1 j (by omega)];exact Rl f _ j hj⟩ (k kb l1 n1),Za.keep ⟨c',_,g2,fun j hj=>by rw [x2 j (by omega)];exact Rl f _ j hj⟩ (k sb l2 n2),⟨_,_,(aa (by omega)).trans (heap_alloc_new wr _),fun j hj=>Jg _ _ _ hj⟩,World.ownsRow_nil _ _ _ _,fun i hi=>absurd hi (by omega), ?_,fun i hi=>absurd hi (by omega),fun i hi=>absurd hi (by omega),(fun g e=>by cases e), ?_,fun i hi=>absurd hi (by omega), ?_⟩
 . have:=heap_set (j:=2) (.slice (some ⟨wr.heap.size,0,none⟩) m m) ((Below.heap_alloc wr (.cells (madeCells #[.int .i64 0] m) 3) D hD).trans h.row)
   simpa using this
 . simp only [List.nodup_cons,List.mem_cons,List.not_mem_nil,or_false,not_or,List.nodup_nil,and_true,not_false_eq_true];exact ⟨⟨Ne.symm n1,Ne.symm n2,by omega⟩,⟨n3,by omega⟩,by omega⟩
 . intro g hg;simp only [List.mem_cons,List.not_mem_nil,or_false]at hg;have:=h.base;rcases hg with rfl|rfl|rfl|rfl<;>omega
 . exact (h.below.alloc s0 _).setCell h.base _
set_option maxRecDepth 100000 in
set_option maxHeartbeats 4000000 in
theorem BN(a:Option Addr)(b off m cap nt:Nat)(ha:a=some ⟨b,off,none⟩)(UG:0<m)(gD:m<=262144)(lO:0<nt)(BX:nt<=64)(f:Nat->Int)(W0:World)(hb:b<W0.heap.size)(hw:∀j,j<8*m->W0.cell? ⟨b,off+j,none⟩=some (.int .u64 (f j))):
  Calls Tryz.prog 105 #[.slice a (8*m) cap, .int .i64 nt] W0 (WX W0 m nt f):=by
 subst ha;obtain ⟨i42,hi,Nw,Kh,tg⟩:=info_parts JH;have HB:=Lib.hid hb;have HW:=Lib.hid hw;have HM:=Lib.hid (And.intro UG gD);clear hb hw;obtain ⟨n,hn⟩:∃n,n=8*m:=⟨_,rfl⟩;have ZP:n<=2097152:=by omega
 have yU:((n:Int)).tdiv 8=(m:Int):=by rw [Int.tdiv_eq_ediv_of_nonneg (by omega)];omega
 have hn9:(n:Int)/8=(m:Int):=by omega
 rw [<-hn]at HW⊢;have HN:=Lib.hid hn;clear hn
 go_enter Tryz.func105,Tryz.ntmps105
 go_wp2_with fail
 obtain ⟨D,hD⟩:∃D,D=W0.heap.size:=⟨_,rfl⟩;rw [<-hD];have HD:=Lib.hid hD;clear hD
 go_loopw [6] (fun i wr=>∃(k:Nat) (kv sv:Value),k<=n/\i= .int .i64 k/\Hid (An W0 wr D kv sv (.slice none 0 0) (.slice none 0 0) k k f)) (fun i _=>n -(intOf i).toNat)
 case atStart=>exact ⟨0,_,_,Nat.zero_le _,rfl,Lib.hid ⟨by rw [HD.out];exact heap_alloc_new _ _,World.ownsRow_nil _ _ _ _,World.ownsRow_nil _ _ _ _,by rw [HD.out];exact Nat.le_refl _,(by intro e;cases e),(by intro e;cases e),(by intro g e;cases e),(Below.refl _ _).alloc (Nat.le_refl _) _⟩⟩
 case round=>
  obtain ⟨k,kv,sv,hk,rfl,HH⟩:=hrel;by_cases zb:k<n
  . have e1:decide ((k:Int)<(n:Int))=true:=ea (by omega);have i0:(0:Int)<=(k:Int):=by omega
    have i1:(k:Int)<(n:Int):=by omega
    obtain ⟨ka,km,kc,rfl⟩:=fe HH.out.kept;obtain ⟨sa,sm,sc,rfl⟩:=fe HH.out.seen;obtain ⟨y0,y1,y2,y3,yf⟩:=pW HH.out.row;have z0:wr.cell? ⟨b,off+k,none⟩=some (.int .u64 (f k)):=(HH.out.below.cell (p:=⟨b,off+k,none⟩) HB.out).trans (HW.out k zb)
    have nK:Hid (W0.heap.size<=wr.heap.size):=Lib.hid HH.out.below.size;have ox:Hid (D<wr.heap.size):=Lib.hid (Array.getElem?_eq_some_iff.1 HH.out.row).1
    have HVK:Hid (f k=f k):=Lib.hid rfl;have xF:Hid (b<wr.heap.size):=Lib.hid (Nat.lt_of_lt_of_le HB.out HH.out.below.size);obtain ⟨v,hv⟩:∃v,v=f k:=⟨_,rfl⟩;rw [<-hv]at z0;have HV:=Lib.hid hv;clear hv HVK;have p1:wr.heap.size≠D:=by have:=ox.out;omega
    have p2:D≠wr.heap.size:=Ne.symm p1;have p3:wr.heap.size≠b:=by have:=xF.out;omega
    have p4:b≠wr.heap.size:=Ne.symm p3;have p5:∀o,(wr.alloc o).cell? ⟨D,0,none⟩=some (.slice ka km kc):=fun o=>(cell_of_heap (Below.heap_alloc wr o D ox.out) 0).trans y0
    go_wp2_with fail
    go_region_law ((refine Rd rfl (.tmp 20) (.tmp 25) 99 rfl W0.heap.size 43 i42 _ 1 8 Tryz.underlying99 hi Nw Kh tg rfl (by decide) (.slice ka km kc) k _ rfl (by first|exact (HH.out.kept.alloc _).drew|exact HH.out.kept.drew.alloc _) ⟨wr.heap.size,0,none⟩ 1 1 [.int .u64 v] rfl rfl (fun j u hj=>by first|exact Se wr _ _ j u hj) (by simp [Value.oneCell']) (by unfold maxLen;omega) (by omega) (by have:=nK.out;simp;omega) ?_;intro v' w1 ho hg wU;obtain ⟨va,vm,vc,rfl⟩:=fe ho;have pR:w1.heap[D]?=wr.heap[D]?:=(hg.block D (by have:=ox.out;simp;omega) (Ne.symm HH.out.n1)).trans (Below.heap_alloc _ _ _ (ox.out));have g0:w1.cell? ⟨D,0,none⟩=some ((.slice ka km kc)):=(cell_of_heap pR 0).trans y0;have g1:w1.frozen? ⟨D,0,none⟩=false:=(frozen_of_heap pR 0).trans (yf 0);have gz:w1.cell? ⟨b,off+k,none⟩=some (.int .u64 v):=(cell_of_heap ((hg.block b (by have:=xF.out;simp;omega) (fun e=>by have:=(Qf HH.out.kept e.symm).1;have:=HB.out;omega)).trans (Below.heap_alloc _ _ _ (by have:=xF.out;simp;omega))) _).trans z0;have HO:=Lib.hid ho;have HG:=Lib.hid hg;have HBL:=Lib.hid wU;clear ho hg wU pR))
    all_goals
     go_wp2_with fail
     have px:=Lib.hid (HH.out.nak (w:=(wr.alloc (.cells #[.int .u64 v] 43)).drew) (((Below.refl _ _).alloc (Nat.le_refl _) _).drew) (by rw [<-HV.out];exact HO.out) HG.out HBL.out);clear y0 y1 y2 y3 yf z0 g0 g1 gz p1 p2 p3 p4 p5 HO HG HBL HH nK ox xF;obtain ⟨W2,hW2⟩:∃W2,W2=w1.setCell ⟨D,0,none⟩ (.slice va vm vc):=⟨_,rfl⟩;rw [<-hW2]at px⊢;clear hW2;obtain ⟨y0,y1,y2,y3,yf⟩:=pW px.out.row;have z0:W2.cell? ⟨b,off+k,none⟩=some (.int .u64 v):=(px.out.below.cell (p:=⟨b,off+k,none⟩) HB.out).trans (by rw [HV.out];exact HW.out k zb)
     have nK:Hid (W0.heap.size<=W2.heap.size):=Lib.hid px.out.below.size;have ox:Hid (D<W2.heap.size):=Lib.hid (Array.getElem?_eq_some_iff.1 px.out.row).1
     have xF:Hid (b<W2.heap.size):=Lib.hid (Nat.lt_of_lt_of_le HB.out px.out.below.size);have p1:W2.heap.size≠D:=by have:=ox.out;omega
     have p2:D≠W2.heap.size:=Ne.symm p1;have p3:W2.heap.size≠b:=by have:=xF.out;omega
     have p4:b≠W2.heap.size:=Ne.symm p3;have p5:∀o,(W2.alloc o).cell? ⟨D,1,none⟩=some (.slice sa sm sc):=fun o=>(cell_of_heap (Below.heap_alloc W2 o D ox.out) 1).trans y1
     go_region_law ((refine Rd rfl (.tmp 33) (.tmp 38) 99 rfl W0.heap.size 43 i42 _ 1 8 Tryz.underlying99 hi Nw Kh tg rfl (by decide) (.slice sa sm sc) k _ rfl (by first|exact (px.out.seen.alloc _).drew|exact px.out.seen.drew.alloc _) ⟨W2.heap.size,0,none⟩ 1 1 [.int .u64 v] rfl rfl (fun j u hj=>by first|exact Se W2 _ _ j u hj) (by simp [Value.oneCell']) (by unfold maxLen;omega) (by omega) (by have:=nK.out;simp;omega) ?_;intro v' w1 ho hg wU;obtain ⟨va,vm,vc,rfl⟩:=fe ho;have pR:w1.heap[D]?=W2.heap[D]?:=(hg.block D (by have:=ox.out;simp;omega) (Ne.symm px.out.n2)).trans (Below.heap_alloc _ _ _ (ox.out));have g0:w1.cell? ⟨D,1,none⟩=some ((.slice sa sm sc)):=(cell_of_heap pR 1).trans y1;have g1:w1.frozen? ⟨D,1,none⟩=false:=(frozen_of_heap pR 1).trans (yf 1);have gz:w1.cell? ⟨b,off+k,none⟩=some (.int .u64 v):=(cell_of_heap ((hg.block b (by have:=xF.out;simp;omega) (fun e=>by have:=(Qf px.out.seen e.symm).1;have:=HB.out;omega)).trans (Below.heap_alloc _ _ _ (by have:=xF.out;simp;omega))) _).trans z0;have HO:=Lib.hid ho;have HG:=Lib.hid hg;have HBL:=Lib.hid wU;clear ho hg wU pR))
    all_goals
     go_wp2_with fail
     have yF:=Lib.hid (px.out.oak (w:=(W2.alloc (.cells #[.int .u64 v] 43)).drew) (((Below.refl _ _).alloc (Nat.le_refl _) _).drew) (by rw [<-HV.out];exact HO.out) HG.out HBL.out);clear y0 y1 y2 y3 yf z0 g0 g1 gz p1 p2 p3 p4 p5
     go_roundw
     case rel=>exact ⟨k+1,_,_,by omega,by go_num,yF⟩
     case measure=>simp [intOf];omega
  . obtain rfl:k=n:=by omega
    have e1:decide ((k:Int)<(k:Int))=false:=by simp
    have jU:=Tp 145 3 _ _ 8 Tryz.underlying145 UX rfl m (by omega) (by omega);have yG:=Tp 225 4 _ _ 1 Tryz.underlying225 pak rfl m (by omega) (by omega);obtain ⟨y0,y1,y2,y3,yf⟩:=pW HH.out.row;have ox:Hid (D<wr.heap.size):=Lib.hid (Array.getElem?_eq_some_iff.1 HH.out.row).1
    have p1:wr.heap.size≠D:=by have:=ox.out;omega
    have p2:D≠wr.heap.size:=Ne.symm p1;have m0:(0:Int)<=(m:Int):=by omega
    have p7:∀o,(wr.alloc o).cell? ⟨D,2,none⟩=some (.slice none 0 0):=fun o=>(cell_of_heap (Below.heap_alloc wr o D ox.out) 2).trans y2
    have p8:∀o,(wr.alloc o).frozen? ⟨D,2,none⟩=false:=fun o=>(frozen_of_heap (Below.heap_alloc wr o D ox.out) 2).trans (yf 2)
    have HST:=Lib.hid (oI (f:=f) HM.out.1 (by rw [<-HN.out];exact HH.out) (fun _=>0))
    go_wp2_with fail
    obtain ⟨kb,sb,c0,c1,bo⟩:=HST.out;obtain ⟨wb,qR⟩:∃wb,wb=wr.heap.size:=⟨_,rfl⟩;rw [<-qR]at bo⊢;obtain ⟨W3,hW3⟩:∃W3,W3=(wr.alloc (.cells (madeCells #[.int .i64 0] m) 3)).setCell ⟨D,2,none⟩ (.slice (some ⟨wb,0,none⟩) m m):=⟨_,rfl⟩
    rw [<-hW3]at bo⊢;have D8:=Lib.hid bo;clear bo hW3 qR y0 y1 y2 y3 yf p1 p2 p7 p8 HST HH ox jU;obtain ⟨i88,hi',Xax,Yax,Zax⟩:=info_parts saa
    go_loopw [7] (fun i wr=>∃(q:Nat) (fv:Value) (fg:Nat->Nat),q<=nt/\i= .int .i64 q/\Hid (wC W0 wr D kb sb wb c0 c1 fv q m fg f)) (fun i _=>nt -(intOf i).toNat)
    case atStart=>exact ⟨0,_,_,Nat.zero_le _,rfl,D8⟩
    case round=>
     obtain ⟨q,fv,fg,hq,rfl,HQ⟩:=hrel;obtain ⟨fa,fm,fc,rfl⟩:=fe HQ.out.fl;by_cases zb:q<nt
     . have e2:decide ((q:Int)<(nt:Int))=true:=ea (by omega);obtain ⟨y0,y1,y2,y3,yf⟩:=pW HQ.out.row;have ox:Hid (D<wr.heap.size):=Lib.hid (Array.getElem?_eq_some_iff.1 HQ.out.row).1
       have nK:Hid (W0.heap.size<=wr.heap.size):=Lib.hid HQ.out.below.size;have p1:wr.heap.size≠D:=by have:=ox.out;omega
       have p2:D≠wr.heap.size:=Ne.symm p1;have p5:∀o,(wr.alloc o).cell? ⟨D,3,none⟩=some (.slice fa fm fc):=fun o=>(cell_of_heap (Below.heap_alloc wr o D ox.out) 3).trans y3
       have p6:∀o o',((wr.alloc o).alloc o').cell? ⟨D,3,none⟩=some (.slice fa fm fc):=fun o o'=>(cell_of_heap ((Below.heap_alloc _ o' D (by have:=ox.out;simp;omega)).trans (Below.heap_alloc wr o D ox.out)) 3).trans y3
       have HNF:Hid ((Value.slice fa fm fc).ownBlock≠some D):=Lib.hid fun e=>(HQ.out.a3 D e).1 (by simp)
       have mw:IntKind.i64.wrap (m:Int)=(m:Int):=IntWalk.i64_in _ (by omega)
       go_wp2_with fail
       go_region_law ((refine Rd rfl (.tmp 58) (.tmp 63) 146 rfl W0.heap.size 225 i88 _ 1 24 Tryz.underlying146 hi' Xax Yax Zax rfl (by decide) (.slice fa fm fc) q _ rfl (by first|exact ((HQ.out.fl.alloc _).alloc _).drew) ⟨wr.heap.size+1,0,none⟩ 1 1 [.slice (some ⟨wr.heap.size,0,none⟩) m m] rfl rfl (fun j u hj=>by have:=Se (wr.alloc (.cells (madeCells #[.bool false] m) 4)) #[.slice (some ⟨wr.heap.size,0,none⟩) m m] 225 j u hj;simpa using this) (by simp [Value.oneCell']) (by unfold maxLen;omega) (by omega) (by have:=nK.out;simp;omega) ?_;intro v' w1 ho hg wU;obtain ⟨va,vm,vc,rfl⟩:=fe ho;have pR:w1.heap[D]?=wr.heap[D]?:=(hg.block D (by have:=ox.out;simp;omega) (Ne.symm HNF.out)).trans ((Below.heap_alloc _ _ _ (by have:=ox.out;simp;omega)).trans (Below.heap_alloc _ _ _ ox.out));have g0:w1.cell? ⟨D,3,none⟩=some (.slice fa fm fc):=(cell_of_heap pR 3).trans y3;have g1:w1.frozen? ⟨D,3,none⟩=false:=(frozen_of_heap pR 3).trans (yf 3);have HO:=Lib.hid ho;have HG:=Lib.hid hg;have HBL:=Lib.hid wU;clear ho hg wU pR))
       all_goals
        go_wp2_with fail
        have yF:=Lib.hid (HQ.out.add (w:=((wr.alloc (.cells (madeCells #[.bool false] m) 4)).alloc (.cells #[.slice (some ⟨wr.heap.size,0,none⟩) m m] 225)).drew) (q:=wr.heap.size) ((((Below.refl _ _).alloc (Nat.le_refl _) _).alloc (by simp) _).drew) (Nat.le_refl _) ⟨_,4,(Hd wr _ _).1,fun j hj=>Jg _ _ _ hj⟩ HO.out HG.out HBL.out);clear y0 y1 y2 y3 yf g0 g1 p1 p2 p5 p6
        go_roundw
        case rel=>exact ⟨q+1,_,_,by omega,by go_num,yF⟩
        case measure=>simp [intOf];omega
     . obtain rfl:q=nt:=by omega
       have e2:decide ((q:Int)<(q:Int))=false:=by simp
       obtain ⟨fb,c3,c,AG,-⟩:=Eg HQ.out.fl lO;rw [AG]at HQ;clear AG
       go_wp2_with fail
       go_ret
       exact ⟨D,kb,sb,wb,fb,c0,c1,c3,fg,rfl,HQ.out⟩
theorem ue(M:Rv)(at_:Int)(q0:-9223372036854775808<=at_)(q1:at_<=9223372036854775807)(o:Int)(is:Bool)(ho:M.La at_=(o,is)):∀w,ua w M->Calls Tryz.prog 108 #[.pointer (some ⟨M.m,0,none⟩), .int .i64 at_] w (Tg (.tuple #[.int .u64 o, .bool is]) w):=fun w hw=>by
 have:=EM M at_ q0 q1 w hw;rw [ho]at this;exact this
set_option maxRecDepth 100000 in
set_option maxHeartbeats 1000000 in
theorem xC(M:Rv)(t at_ old w:Int)(q0:-9223372036854775808<=at_)(q1:at_<=9223372036854775807)(W:World)(h:ua W M)(hc:M.ck<=1000000)(o:Int)(hp:M.La at_=(o,true)):
  Calls Tryz.prog 47 #[.pointer (some ⟨M.m,0,none⟩), .int .i64 1, .int .i64 t, .int .i64 at_, .int .u64 old, .int .u64 w] W (xi M (M.note ⟨1,t,at_,o,0,true⟩ true) W):=by
 have HP:=Lib.hid (ue M at_ q0 q1 o true hp);have HM:=Lib.hid h;have zb:=h.lt (k:=M.m) (Or.inl (by simp [Rv.blocks]));have n1:W.heap.size≠M.m:=by omega
 have n2:W.heap.size+1≠M.m:=by omega
 have n3:M.m≠W.heap.size:=by omega
 have n4:M.m≠W.heap.size+1:=by omega
 have b0:=h.Cm;have b1:=h.Oy;have b2:=h.ju;clear h hp zb
 go_enter Tryz.func47,Tryz.ntmps47
 go_wp2_with fail
 with_reducible refine (HP.out _ (HM.out.below (((Below.refl _ _).alloc (Nat.le_refl _) _).alloc (by simp) _))).mono ?_
 rintro e w2 ⟨rfl,hb,hh⟩;obtain ⟨rz,ra⟩:=qd hh;have HB:Hid (Below W.heap.size W w2):=Lib.hid ((((Below.refl _ _).alloc (Nat.le_refl _) _).alloc (by simp) _).trans (hb.mono (by simp;omega)));have HS:Hid (W.heap.size+1<w2.heap.size):=Lib.hid (by rw [hh];simp);have bg:=Lib.hid (HM.out.below HB.out);obtain ⟨a0,a1,a2,a3,a4,a5,af⟩:=Dd ra;obtain ⟨z0,z1,z2,z3,z4,z5,zf⟩:=Dd rz;obtain ⟨m0,m1,m2,m3,m4,m5,m6,m7,m8,m9,mf⟩:=Uc bg.out.row;have HZ:=Lib.hid rz;clear hb hh ra rz m0 m1
 go_wp2_with fail
 have hA:∀k,M.own k->k≠W.heap.size+1:=fun k hk e=>HM.out.rb (by omega) (e▸hk)
 have hR:ua ((w2.setCell ⟨W.heap.size+1,3,none⟩ (.int .u64 o)).setCell ⟨W.heap.size+1,5,none⟩ (.bool true)) M:=bg.out.keep fun k hk=>by rw [aa (hA k hk),aa (hA k hk)]
 have hT:Ba M.own W ((w2.setCell ⟨W.heap.size+1,3,none⟩ (.int .u64 o)).setCell ⟨W.heap.size+1,5,none⟩ (.bool true)):=((Ba.Sb HB.out).set (fun e=>absurd e (by omega)) _ _).set (fun e=>absurd e (by omega)) _ _
 have hZ:=(aa (j:=5) (v:= .bool true) (show W.heap.size≠W.heap.size+1 by omega)).trans ((aa (j:=3) (v:= .int .u64 o) (show W.heap.size≠W.heap.size+1 by omega)).trans HZ.out)
 obtain ⟨f1,f2⟩:=Hc hR hT rfl rfl (Nat.le_refl W.heap.size) HM.out ⟨1,t,at_,o,0,true⟩ true;refine bodyPost_ret (v:= .agg (Acc.cells ⟨1,t,at_,o,0,true⟩)) ?_ rfl ?_
 . exact Hb rfl rfl (zd n1 hZ M.ck M.bd ⟨1,t,at_,o,0,true⟩ true)
 . exact ⟨rfl,f1,f2⟩
set_option maxRecDepth 100000 in
set_option maxHeartbeats 1000000 in
theorem Vy(M:Rv)(t at_ old w:Int)(q0:-9223372036854775808<=at_)(q1:at_<=9223372036854775807)(W:World)(h:ua W M)(hc:M.ck<=1000000)(o:Int)(hp:M.La at_=(o,false)):
  Calls Tryz.prog 47 #[.pointer (some ⟨M.m,0,none⟩), .int .i64 1, .int .i64 t, .int .i64 at_, .int .u64 old, .int .u64 w] W (xi M (M.note ⟨1,t,at_,o,0,false⟩ false) W):=by
 have HP:=Lib.hid (ue M at_ q0 q1 o false hp);have HM:=Lib.hid h;have zb:=h.lt (k:=M.m) (Or.inl (by simp [Rv.blocks]));have n1:W.heap.size≠M.m:=by omega
 have n2:W.heap.size+1≠M.m:=by omega
 have n3:M.m≠W.heap.size:=by omega
 have n4:M.m≠W.heap.size+1:=by omega
 have b0:=h.Cm;have b1:=h.Oy;have b2:=h.ju;clear h hp zb
 go_enter Tryz.func47,Tryz.ntmps47
 go_wp2_with fail
 with_reducible refine (HP.out _ (HM.out.below (((Below.refl _ _).alloc (Nat.le_refl _) _).alloc (by simp) _))).mono ?_
 rintro e w2 ⟨rfl,hb,hh⟩;obtain ⟨rz,ra⟩:=qd hh;have HB:Hid (Below W.heap.size W w2):=Lib.hid ((((Below.refl _ _).alloc (Nat.le_refl _) _).alloc (by simp) _).trans (hb.mono (by simp;omega)));have HS:Hid (W.heap.size+1<w2.heap.size):=Lib.hid (by rw [hh];simp);have bg:=Lib.hid (HM.out.below HB.out);obtain ⟨a0,a1,a2,a3,a4,a5,af⟩:=Dd ra;obtain ⟨z0,z1,z2,z3,z4,z5,zf⟩:=Dd rz;obtain ⟨m0,m1,m2,m3,m4,m5,m6,m7,m8,m9,mf⟩:=Uc bg.out.row;have HZ:=Lib.hid rz;clear hb hh ra rz m0 m1
 go_wp2_with fail
 have hA:∀k,M.own k->k≠W.heap.size+1:=fun k hk e=>HM.out.rb (by omega) (e▸hk)
 have hR:ua ((w2.setCell ⟨W.heap.size+1,3,none⟩ (.int .u64 o)).setCell ⟨W.heap.size+1,5,none⟩ (.bool false)) M:=bg.out.keep fun k hk=>by rw [aa (hA k hk),aa (hA k hk)]
 have hT:Ba M.own W ((w2.setCell ⟨W.heap.size+1,3,none⟩ (.int .u64 o)).setCell ⟨W.heap.size+1,5,none⟩ (.bool false)):=((Ba.Sb HB.out).set (fun e=>absurd e (by omega)) _ _).set (fun e=>absurd e (by omega)) _ _
 have hZ:=(aa (j:=5) (v:= .bool false) (show W.heap.size≠W.heap.size+1 by omega)).trans ((aa (j:=3) (v:= .int .u64 o) (show W.heap.size≠W.heap.size+1 by omega)).trans HZ.out)
 obtain ⟨f1,f2⟩:=Hc hR hT rfl rfl (Nat.le_refl W.heap.size) HM.out ⟨1,t,at_,o,0,false⟩ false;refine bodyPost_ret (v:= .agg (Acc.cells ⟨1,t,at_,o,0,false⟩)) ?_ rfl ?_
 . exact Hb rfl rfl (zd n1 hZ M.ck M.bd ⟨1,t,at_,o,0,false⟩ false)
 . exact ⟨rfl,f1,f2⟩
set_option maxRecDepth 100000 in
set_option maxHeartbeats 1000000 in
theorem yC(M:Rv)(t at_ old w:Int)(q0:-9223372036854775808<=at_)(q1:at_<=9223372036854775807)(W:World)(h:ua W M)(hc:M.ck<=1000000)(o:Int)(hp:M.La at_=(o,false)):
  Calls Tryz.prog 47 #[.pointer (some ⟨M.m,0,none⟩), .int .i64 2, .int .i64 t, .int .i64 at_, .int .u64 old, .int .u64 w] W (xi M (M.note ⟨2,t,at_,o,w,false⟩ false) W):=by
 have HP:=Lib.hid (ue M at_ q0 q1 o false hp);have HM:=Lib.hid h;have zb:=h.lt (k:=M.m) (Or.inl (by simp [Rv.blocks]));have n1:W.heap.size≠M.m:=by omega
 have n2:W.heap.size+1≠M.m:=by omega
 have n3:M.m≠W.heap.size:=by omega
 have n4:M.m≠W.heap.size+1:=by omega
 have b0:=h.Cm;have b1:=h.Oy;have b2:=h.ju;have HO:Hid (∀k,M.own k->M.own k):=Lib.hid fun _ h=>h
 clear h hp zb
 go_enter Tryz.func47,Tryz.ntmps47
 go_wp2_with fail
 with_reducible refine (HP.out _ (HM.out.below (((Below.refl _ _).alloc (Nat.le_refl _) _).alloc (by simp) _))).mono ?_
 rintro e w2 ⟨rfl,hb,hh⟩;obtain ⟨rz,ra⟩:=qd hh;have HB:Hid (Below W.heap.size W w2):=Lib.hid ((((Below.refl _ _).alloc (Nat.le_refl _) _).alloc (by simp) _).trans (hb.mono (by simp;omega)));have HS:Hid (W.heap.size+1<w2.heap.size):=Lib.hid (by rw [hh];simp);have bg:=Lib.hid (HM.out.below HB.out);obtain ⟨a0,a1,a2,a3,a4,a5,af⟩:=Dd ra;obtain ⟨z0,z1,z2,z3,z4,z5,zf⟩:=Dd rz;obtain ⟨m0,m1,m2,m3,m4,m5,m6,m7,m8,m9,mf⟩:=Uc bg.out.row;have HZ:=Lib.hid rz;clear hb hh ra rz m0 m1
 go_wp2_with fail
 have hA:∀k,Rv.own M k->k≠W.heap.size+1:=fun k hk e=>HM.out.rb (by omega) (e▸(HO.out k hk))
 have Uo:ua (((w2.setCell ⟨W.heap.size+1,3,none⟩ (.int .u64 o)).setCell ⟨W.heap.size+1,5,none⟩ (.bool false)).setCell ⟨W.heap.size+1,4,none⟩ (.int .u64 w)) M:=bg.out.keep fun k hk=>by rw [aa (hA k hk),aa (hA k hk),aa (hA k hk)]
 have qx:Ba M.own W (((w2.setCell ⟨W.heap.size+1,3,none⟩ (.int .u64 o)).setCell ⟨W.heap.size+1,5,none⟩ (.bool false)).setCell ⟨W.heap.size+1,4,none⟩ (.int .u64 w)):=((((Ba.Sb HB.out).set (fun e=>absurd e (by omega)) _ _).set (fun e=>absurd e (by omega)) _ _).set (fun e=>absurd e (by omega)) _ _);have tx:=((aa (j:=4) (v:= .int .u64 w) (show W.heap.size≠W.heap.size+1 by omega)).trans ((aa (j:=5) (v:= .bool false) (show W.heap.size≠W.heap.size+1 by omega)).trans ((aa (j:=3) (v:= .int .u64 o) (show W.heap.size≠W.heap.size+1 by omega)).trans HZ.out)));obtain ⟨f1,f2⟩:=Hc Uo qx rfl rfl (Nat.le_refl W.heap.size) HM.out ⟨2,t,at_,o,w,false⟩ false;refine bodyPost_ret (v:= .agg (Acc.cells ⟨2,t,at_,o,w,false⟩)) ?_ rfl ?_
 . exact Hb rfl rfl (zd n1 tx M.ck M.bd ⟨2,t,at_,o,w,false⟩ false)
 . exact ⟨rfl,f1,f2⟩
set_option maxRecDepth 100000 in
set_option maxHeartbeats 1000000 in
theorem zF(M:Rv)(t at_ old w:Int)(q0:-9223372036854775808<=at_)(q1:at_<=9223372036854775807)(W:World)(h:ua W M)(hc:M.ck<=1000000)(o:Int)(hp:M.La at_=(o,false)):
  Calls Tryz.prog 47 #[.pointer (some ⟨M.m,0,none⟩), .int .i64 3, .int .i64 t, .int .i64 at_, .int .u64 old, .int .u64 w] W (xi M (M.note ⟨3,t,at_,o,w,false⟩ false) W):=by
 have HP:=Lib.hid (ue M at_ q0 q1 o false hp);have HM:=Lib.hid h;have zb:=h.lt (k:=M.m) (Or.inl (by simp [Rv.blocks]));have n1:W.heap.size≠M.m:=by omega
 have n2:W.heap.size+1≠M.m:=by omega
 have n3:M.m≠W.heap.size:=by omega
 have n4:M.m≠W.heap.size+1:=by omega
 have b0:=h.Cm;have b1:=h.Oy;have b2:=h.ju;have HO:Hid (∀k,M.own k->M.own k):=Lib.hid fun _ h=>h
 clear h hp zb
 go_enter Tryz.func47,Tryz.ntmps47
 go_wp2_with fail
 with_reducible refine (HP.out _ (HM.out.below (((Below.refl _ _).alloc (Nat.le_refl _) _).alloc (by simp) _))).mono ?_
 rintro e w2 ⟨rfl,hb,hh⟩;obtain ⟨rz,ra⟩:=qd hh;have HB:Hid (Below W.heap.size W w2):=Lib.hid ((((Below.refl _ _).alloc (Nat.le_refl _) _).alloc (by simp) _).trans (hb.mono (by simp;omega)));have HS:Hid (W.heap.size+1<w2.heap.size):=Lib.hid (by rw [hh];simp);have bg:=Lib.hid (HM.out.below HB.out);obtain ⟨a0,a1,a2,a3,a4,a5,af⟩:=Dd ra;obtain ⟨z0,z1,z2,z3,z4,z5,zf⟩:=Dd rz;obtain ⟨m0,m1,m2,m3,m4,m5,m6,m7,m8,m9,mf⟩:=Uc bg.out.row;have HZ:=Lib.hid rz;clear hb hh ra rz m0 m1
 go_wp2_with fail
 have hA:∀k,Rv.own M k->k≠W.heap.size+1:=fun k hk e=>HM.out.rb (by omega) (e▸(HO.out k hk))
 have Uo:ua (((w2.setCell ⟨W.heap.size+1,3,none⟩ (.int .u64 o)).setCell ⟨W.heap.size+1,5,none⟩ (.bool false)).setCell ⟨W.heap.size+1,4,none⟩ (.int .u64 w)) M:=bg.out.keep fun k hk=>by rw [aa (hA k hk),aa (hA k hk),aa (hA k hk)]
 have qx:Ba M.own W (((w2.setCell ⟨W.heap.size+1,3,none⟩ (.int .u64 o)).setCell ⟨W.heap.size+1,5,none⟩ (.bool false)).setCell ⟨W.heap.size+1,4,none⟩ (.int .u64 w)):=((((Ba.Sb HB.out).set (fun e=>absurd e (by omega)) _ _).set (fun e=>absurd e (by omega)) _ _).set (fun e=>absurd e (by omega)) _ _);have tx:=((aa (j:=4) (v:= .int .u64 w) (show W.heap.size≠W.heap.size+1 by omega)).trans ((aa (j:=5) (v:= .bool false) (show W.heap.size≠W.heap.size+1 by omega)).trans ((aa (j:=3) (v:= .int .u64 o) (show W.heap.size≠W.heap.size+1 by omega)).trans HZ.out)));obtain ⟨f1,f2⟩:=Hc Uo qx rfl rfl (Nat.le_refl W.heap.size) HM.out ⟨3,t,at_,o,w,false⟩ false;refine bodyPost_ret (v:= .agg (Acc.cells ⟨3,t,at_,o,w,false⟩)) ?_ rfl ?_
 . exact Hb rfl rfl (zd n1 tx M.ck M.bd ⟨3,t,at_,o,w,false⟩ false)
 . exact ⟨rfl,f1,f2⟩
set_option maxRecDepth 100000 in
set_option maxHeartbeats 1000000 in
theorem pI(M:Rv)(t at_ old w:Int)(q0:-9223372036854775808<=at_)(q1:at_<=9223372036854775807)(W:World)(h:ua W M)(hc:M.ck<=1000000)(o:Int)(hp:M.La at_=(o,true))(bc:(o==old)=false):
  Calls Tryz.prog 47 #[.pointer (some ⟨M.m,0,none⟩), .int .i64 3, .int .i64 t, .int .i64 at_, .int .u64 old, .int .u64 w] W (xi M (M.note ⟨3,t,at_,o,w,false⟩ true) W):=by
 have HP:=Lib.hid (ue M at_ q0 q1 o true hp);have HM:=Lib.hid h;have zb:=h.lt (k:=M.m) (Or.inl (by simp [Rv.blocks]));have n1:W.heap.size≠M.m:=by omega
 have n2:W.heap.size+1≠M.m:=by omega
 have n3:M.m≠W.heap.size:=by omega
 have n4:M.m≠W.heap.size+1:=by omega
 have b0:=h.Cm;have b1:=h.Oy;have b2:=h.ju;have HO:Hid (∀k,M.own k->M.own k):=Lib.hid fun _ h=>h
 clear h hp zb
 go_enter Tryz.func47,Tryz.ntmps47
 go_wp2_with fail
 with_reducible refine (HP.out _ (HM.out.below (((Below.refl _ _).alloc (Nat.le_refl _) _).alloc (by simp) _))).mono ?_
 rintro e w2 ⟨rfl,hb,hh⟩;obtain ⟨rz,ra⟩:=qd hh;have HB:Hid (Below W.heap.size W w2):=Lib.hid ((((Below.refl _ _).alloc (Nat.le_refl _) _).alloc (by simp) _).trans (hb.mono (by simp;omega)));have HS:Hid (W.heap.size+1<w2.heap.size):=Lib.hid (by rw [hh];simp);have bg:=Lib.hid (HM.out.below HB.out);obtain ⟨a0,a1,a2,a3,a4,a5,af⟩:=Dd ra;obtain ⟨z0,z1,z2,z3,z4,z5,zf⟩:=Dd rz;obtain ⟨m0,m1,m2,m3,m4,m5,m6,m7,m8,m9,mf⟩:=Uc bg.out.row;have HZ:=Lib.hid rz;clear hb hh ra rz m0 m1
 go_wp2_with fail
 have hA:∀k,Rv.own M k->k≠W.heap.size+1:=fun k hk e=>HM.out.rb (by omega) (e▸(HO.out k hk))
 have Uo:ua (((w2.setCell ⟨W.heap.size+1,3,none⟩ (.int .u64 o)).setCell ⟨W.heap.size+1,5,none⟩ (.bool false)).setCell ⟨W.heap.size+1,4,none⟩ (.int .u64 w)) M:=bg.out.keep fun k hk=>by rw [aa (hA k hk),aa (hA k hk),aa (hA k hk)]
 have qx:Ba M.own W (((w2.setCell ⟨W.heap.size+1,3,none⟩ (.int .u64 o)).setCell ⟨W.heap.size+1,5,none⟩ (.bool false)).setCell ⟨W.heap.size+1,4,none⟩ (.int .u64 w)):=((((Ba.Sb HB.out).set (fun e=>absurd e (by omega)) _ _).set (fun e=>absurd e (by omega)) _ _).set (fun e=>absurd e (by omega)) _ _);have tx:=((aa (j:=4) (v:= .int .u64 w) (show W.heap.size≠W.heap.size+1 by omega)).trans ((aa (j:=5) (v:= .bool false) (show W.heap.size≠W.heap.size+1 by omega)).trans ((aa (j:=3) (v:= .int .u64 o) (show W.heap.size≠W.heap.size+1 by omega)).trans HZ.out)));obtain ⟨f1,f2⟩:=Hc Uo qx rfl rfl (Nat.le_refl W.heap.size) HM.out ⟨3,t,at_,o,w,false⟩ true;refine bodyPost_ret (v:= .agg (Acc.cells ⟨3,t,at_,o,w,false⟩)) ?_ rfl ?_
 . exact Hb rfl rfl (zd n1 tx M.ck M.bd ⟨3,t,at_,o,w,false⟩ true)
 . exact ⟨rfl,f1,f2⟩
end Go.Proofs.YtfnkmolffhfpoaaGreat
