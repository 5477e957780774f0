/- -/
import Derived.Test.YtfnkmolffhfpoaaGreatHp29
import Derived.Test.YtfnkmolffhfpoaaGreatHp18
import Derived.Test.YtfnkmolffhfpoaaGreatHp16
set_option linter.unusedVariables false
set_option linter.unusedSimpArgs false
set_option linter.unusedSectionVars false
namespace Go.Proofs.YtfnkmolffhfpoaaGreat
open Go.RowKit Go.BigFrame
def Sj(c:Xc)(a:Option Addr)(len cap:Nat):Array Value:=#[.int .i64 c.th, .int .i64 c.sl, .int .i64 c.lo, .int .i64 c.bu, .slice a len cap]
theorem gm{fn:Func}{t u v x:Tmp}(h:fn.results=#[.tmp t, .tmp u, .tmp v, .tmp x])(tmps:Array Value)(P:Program)(w:World):
  (results fn tmps).run P w= .ok (.tuple #[tmps.getD t undef,tmps.getD u undef,tmps.getD v undef,tmps.getD x undef]) w:=by
 simp [results,h]
set_option maxRecDepth 100000 in
theorem C1(c:Xc)(a:Option Addr)(len cap:Nat)(hl:len<=9223372036854775807)(at_ wv:Nat->Int)(W:World)(tg:¬(c.Cn/\len<=100)):Calls Tryz.prog 6 #[.agg (Sj c a len cap)] W (lM c at_ wv len W):=by
 have LU:=Lib.hid fun w=>K4 c w
 have GL:=Lib.hid tg;have KG:Hid (∀w',Below W.heap.size W w'->lM c at_ wv len W (.returned (.tuple #[.pointer none, .pointer none, .pointer none, .bool false])) w'):=Lib.hid fun w' hb=> .inl ⟨GL.out,rfl,hb⟩
 have ui:Hid (c.Cn->100<len):=Lib.hid fun h=>by
  have:=GL.out;exact Nat.lt_of_not_le fun h2=>this ⟨h,h2⟩
 obtain ⟨th,sl,ib,bu⟩:=c;unfold Sj;simp only;obtain ⟨W1,mg⟩:∃W1,W1=(W.alloc (.cells #[.int .i64 th, .int .i64 sl, .int .i64 ib, .int .i64 bu, .slice a len cap] 26)).alloc (.cells #[.int .i64 th, .int .i64 sl, .int .i64 ib, .int .i64 bu] 23):=⟨_,rfl⟩
 have XH:=Lib.hid mg;have Vh:Hid (Below W.heap.size W W1):=Lib.hid (by rw [mg];exact ((Below.refl _ _).alloc (Nat.le_refl _) _).alloc (by simp) _);have lY:Hid (W1.heap[W.heap.size]?=some (.cells #[.int .i64 th, .int .i64 sl, .int .i64 ib, .int .i64 bu, .slice a len cap] 26 (0,0))):=Lib.hid (by rw [mg,Below.heap_alloc _ _ _ (by simp)];exact heap_alloc_new _ _);have HC1:Hid (W1.heap[W.heap.size+1]?=some (.cells #[.int .i64 th, .int .i64 sl, .int .i64 ib, .int .i64 bu] 23 (0,0))):=Lib.hid (by
  have:=heap_alloc_new (W.alloc (.cells #[.int .i64 th, .int .i64 sl, .int .i64 ib, .int .i64 bu, .slice a len cap] 26)) (.cells #[.int .i64 th, .int .i64 sl, .int .i64 ib, .int .i64 bu] 23);rw [World.size_alloc]at this;rw [mg];exact this)
 clear mg;by_cases hf:(⟨th,sl,ib,bu⟩:Xc).Cn
 . have Kas:=ui.out hf;rw [ga hf]at LU;have d1:decide (100<(len:Int))=true:=ga (by omega);have d2:decide (100<len)=true:=ga Kas;unfold Xc.cells at LU;clear tg GL ui hf Kas
   go_enter Tryz.func6,Tryz.ntmps6
   go_wp2_with (go_at_call 22;refine (LU.out _).mono ?_;rintro e w2 ⟨rfl,hb⟩;rw [<-XH.out]at hb;have H2:=Lib.hid (Vh.out.trans (hb.mono Vh.out.size));have q4:w2.cell? ⟨W.heap.size,4,none⟩=some (.slice a len cap):=ma ((hb.block _ (zb lY.out)).trans lY.out) 4 _ rfl;clear hb)
   (try simp only [Exit.inBlock,Exit.then])
   refine bodyPost_ret (gm rfl _ _ _) rfl ?_
   exact KG.out _ H2.out
 . rw [ua hf]at LU;unfold Xc.cells at LU;clear tg GL ui hf
   go_enter Tryz.func6,Tryz.ntmps6
   go_wp2_with (go_at_call 22;refine (LU.out _).mono ?_;rintro e w2 ⟨rfl,hb⟩;rw [<-XH.out]at hb;have H2:=Lib.hid (Vh.out.trans (hb.mono Vh.out.size));have q4:w2.cell? ⟨W.heap.size,4,none⟩=some (.slice a len cap):=ma ((hb.block _ (zb lY.out)).trans lY.out) 4 _ rfl;clear hb)
   (try simp only [Exit.inBlock,Exit.then])
   refine bodyPost_ret (gm rfl _ _ _) rfl ?_
   exact KG.out _ H2.out
set_option maxRecDepth 100000 in
set_option maxHeartbeats 4000000 in
theorem eH(th sl ib bu:Nat)(hf:(⟨th,sl,ib,bu⟩:Xc).Cn)(a:Option Addr)(len cap:Nat)(hl:len<=100)(at_ wv:Nat->Int)(W:World)(hP:Rj W a len at_ wv):Calls Tryz.prog 6 #[.agg (Sj ⟨th,sl,ib,bu⟩ a len cap)] W (lM ⟨th,sl,ib,bu⟩ at_ wv len W):=by
 have LU:=Lib.hid fun w=>K4 ⟨th,sl,ib,bu⟩ w
 rw [ga hf]at LU;have HF:=Lib.hid hf;obtain ⟨⟨f1,f2,f3,f4,f5,f6,f7,f8⟩,f9,f10,f11,f12⟩:=hf;simp only at f1 f2 f3 f4 f5 f6 f7 f8 f9 f10 f11 f12;have HOF:=Lib.hid fun w=>FaI ⟨th,sl,ib,bu⟩ HF.out.1 w
 have HLA:=Lib.hid fun w=>Us th sl ib bu (by omega) (by omega) (by omega) (by omega) w
 have HPA:=Lib.hid fun w=>gB th sl ib bu (by omega) (by omega) w
 have HNL:Hid (((nwN th sl ib bu:Nat):Int)=(⟨th,sl,ib,bu⟩:Xc).lv.ln*8):=Lib.hid (Ias th sl ib bu);have hnl:=py th sl ib bu;have RQ:=Jas th sl ib bu (by omega) (by omega) (by omega) (by omega);obtain ⟨m,hm⟩:∃m,m=5+(bu+7)/8+th+th*((ib+7)/8)+sl:=⟨_,rfl⟩;rw [<-hm]at hnl;have m0:5<=m:=by omega
 change Hid (∀w,Calls Tryz.prog 41 _ w (mD (nwN th sl ib bu) _ w))at HLA;obtain ⟨nw,hnw⟩:∃nw,nw=nwN th sl ib bu:=⟨_,rfl⟩;rw [<-hnw]at HLA HNL hnl RQ;obtain ⟨np,Zj⟩:∃np,np=2+th+sl:=⟨_,rfl⟩;rw [<-Zj]at HPA;have HNP:Hid (0<np):=Lib.hid (by omega);have HM:Hid (nw=8*m/\nw<=400/\5<=m/\np<=100/\1<=th/\th<=64):=Lib.hid ⟨hnl,RQ,m0,by omega,by omega,by omega⟩;have Iah:Zh nw (th:Int)=0:=by
  unfold Zh;have hw:ph nw=0:=by unfold ph;rw [if_neg (by omega),if_neg (by omega)]
  rw [if_neg (by omega),if_neg (by rw [hw];decide),if_neg (by omega)]
 have HOP:Hid (∀(w:World) (b:Nat),w.heap[b]?=some (.cells (madeCells #[.int .u64 0] nw) 43 (0,0))->Calls Tryz.prog 43 #[.slice (some ⟨b,0,none⟩) nw nw, .int .i64 (th:Int)] w fun e w'=>Below w.heap.size w w'/\∃d kb sb wb fb c0 c1,e= .returned (.tuple #[.pointer (some ⟨d,0,none⟩), .int .i64 0])/\GG w' w.heap.size d kb sb wb fb m th c0 c1 (fun _=>0)):=Lib.hid fun w b hw=>by
  have h:=NJ (some ⟨b,0,none⟩) b 0 nw nw (fun _=>rfl) (Nat.le_refl _) (by omega) (th:Int) (fun _=>0) w Iah (zb hw) (fun j hj=>by rw [Nat.zero_add,Wa hw];exact qh _ _ _ hj);refine h.mono fun e w' hh=> ?_
  obtain ⟨hb,⟨h1,-⟩|⟨-,d,kb,sb,wb,fb,c0,c1,he,hd⟩⟩:=hh
  . exact absurd Iah h1
  . rw [show nw/8=m by omega,Int.toNat_natCast]at hd;exact ⟨hb,d,kb,sb,wb,fb,c0,c1,he,hd⟩
 have HNW:=Lib.hid fun d w=>NP d np (by have:=HM.out;omega) w
 have HMS:Hid (∀d kb sb wb fb c0 c1 mm pb (w6 w7 w8:World),GG w7 w6.heap.size d kb sb wb fb m th c0 c1 (fun _=>0)->Below w7.heap.size w7 w8->w7.heap.size<=mm->w7.heap.size<=pb->mm≠pb->Mj w8 mm (.pointer (some ⟨d,0,none⟩)) (.slice (some ⟨pb,0,none⟩) np np) 0 0 ⟨0,0,0,0,0,false⟩->tb w8 pb np (fun _=> .int .u64 0)->
   Ga w8 (Mv.start mm d kb sb wb fb pb m th np c0 c1 fun _=>0)/\∀k,(Mv.start mm d kb sb wb fb pb m th np c0 c1 fun _=>0).own k->w6.heap.size<=k\/w7.heap.size<=k):=Lib.hid fun d kb sb wb fb c0 c1 mm pb w6 w7 w8 hd hb h1 h2 h3 h4 h5=>
  OP hd hb h1 h2 h3 h4 h5 (by have:=HM.out;omega) (by have:=HM.out;omega) HM.out.2.2.2.2.2 (by have:=HM.out;omega)
 have HRN:Hid (∀(w:World) (b:Nat),w.heap[b]?=some (.cells (madeCells #[.int .u64 0] nw) 43 (0,0))->Calls Tryz.prog 45 #[.slice (some ⟨b,0,none⟩) nw nw, .int .i64 (th:Int), .int .i64 (np:Int)] w (Fah (fun _=>0) m th np w)):=Lib.hid fun w b hw=>by
  have h:=Y0 b 0 m nw th np (by omega) (by omega) (by omega) (by omega) (by omega) (fun _=>0) w (zb hw) (fun j hj=>by rw [Nat.zero_add,Wa hw];exact qh _ _ _ (by omega));rw [<-hnl]at h;exact h
 have UX:=Yp 99 43 _ _ 8 Tryz.underlying99 ZL rfl nw (by omega) (by omega);have HPU:=Lib.hid hP;have MU:=Lib.hid hl;unfold Sj;simp only;obtain ⟨W1,mg⟩:∃W1,W1=(W.alloc (.cells #[.int .i64 (th:Int), .int .i64 (sl:Int), .int .i64 (ib:Int), .int .i64 (bu:Int), .slice a len cap] 26)).alloc (.cells #[.int .i64 (th:Int), .int .i64 (sl:Int), .int .i64 (ib:Int), .int .i64 (bu:Int)] 23):=⟨_,rfl⟩
 have XH:=Lib.hid mg;have Vh:Hid (Below W.heap.size W W1):=Lib.hid (by rw [mg];exact ((Below.refl _ _).alloc (Nat.le_refl _) _).alloc (by simp) _);have lY:Hid (W1.heap[W.heap.size]?=some (.cells #[.int .i64 (th:Int), .int .i64 (sl:Int), .int .i64 (ib:Int), .int .i64 (bu:Int), .slice a len cap] 26 (0,0))):=Lib.hid (by rw [mg,Below.heap_alloc _ _ _ (by simp)];exact heap_alloc_new _ _);have HC1:Hid (W1.heap[W.heap.size+1]?=some (.cells #[.int .i64 (th:Int), .int .i64 (sl:Int), .int .i64 (ib:Int), .int .i64 (bu:Int)] 23 (0,0))):=Lib.hid (by
  have:=heap_alloc_new (W.alloc (.cells #[.int .i64 (th:Int), .int .i64 (sl:Int), .int .i64 (ib:Int), .int .i64 (bu:Int), .slice a len cap] 26)) (.cells #[.int .i64 (th:Int), .int .i64 (sl:Int), .int .i64 (ib:Int), .int .i64 (bu:Int)] 23);rw [World.size_alloc]at this;rw [mg];exact this)
 clear mg;have HQ:Hid (∀w,Below W1.heap.size W1 w->w.cell? ⟨W.heap.size+1,0,none⟩=some (.int .i64 (th:Int))/\w.cell? ⟨W.heap.size+1,1,none⟩=some (.int .i64 (sl:Int))/\w.cell? ⟨W.heap.size+1,2,none⟩=some (.int .i64 (ib:Int))/\w.cell? ⟨W.heap.size+1,3,none⟩=some (.int .i64 (bu:Int))):=Lib.hid fun w hb=>by
  have h:=(hb.block _ (zb HC1.out)).trans HC1.out
  exact ⟨ma h 0 _ rfl,ma h 1 _ rfl,ma h 2 _ rfl,ma h 3 _ rfl⟩
 have d1:decide (100<(len:Int))=false:=ua (by omega);have d2:decide (100<len)=false:=ua (by omega);unfold Xc.cells at LU HOF;clear hP hl f1 f2 f3 f4 f5 f6 f7 f8 f9 f10 f11 f12 hnl RQ hm m0 hnw Zj Iah
 go_enter Tryz.func6,Tryz.ntmps6
 go_wp2_with (first|(go_at_call 22;refine (LU.out _).mono ?_;rintro e w2 ⟨rfl,hb⟩;rw [<-XH.out]at hb;have B2:=Lib.hid hb;have q4:w2.cell? ⟨W.heap.size,4,none⟩=some (.slice a len cap):=ma ((hb.block _ (zb lY.out)).trans lY.out) 4 _ rfl;obtain ⟨q0,q1,q2,q3⟩:=HQ.out _ B2.out;clear hb)|(go_at_call 40;refine (HOF.out _).mono ?_;rintro e w3 ⟨l,rfl,hb,hl,Las⟩;have B3:=Lib.hid (B2.out.trans (hb.mono B2.out.size));have L3:=Lib.hid (And.intro (Nat.le_trans B2.out.size hl) Las);clear q4;clear q0 q1 q2 q3;obtain ⟨q0,q1,q2,q3⟩:=HQ.out _ B3.out;clear hb hl Las)|(go_at_call 41;refine (HLA.out _).mono ?_;rintro e w4 ⟨v4,rfl,hb,ho⟩;obtain ⟨va,vc,rfl⟩:=Xa ho;have B4:=Lib.hid (B3.out.trans (hb.mono B3.out.size));have L4:=Lib.hid (L3.out.2.keep (hb.block _ L3.out.2.lt));have B5:=Lib.hid (B4.out.alloc B4.out.size (.cells (madeCells #[.int .u64 0] nw) 43));clear q0 q1 q2 q3;have HQ4:=Lib.hid (HQ.out _ B4.out);obtain ⟨q0,q1,q2,q3⟩:=HQ.out _ B5.out;clear hb ho)|(go_at_call 42;refine (HPA.out _).mono ?_;rintro e w6 ⟨v6,rfl,hb,ho⟩;obtain ⟨vd,ve,rfl⟩:=Xa ho;have Z6:=Lib.hid hb.size;have B6:=Lib.hid (B5.out.trans (hb.mono B5.out.size));have R6:=Lib.hid ((hb.block w4.heap.size (by simp)).trans (heap_alloc_new _ _));have L6:=Lib.hid ((L4.out.keep (Below.heap_alloc _ _ _ L4.out.lt)).keep (hb.block _ (by have:=L4.out.lt;simp;omega)));clear q0 q1 q2 q3;obtain ⟨q0,q1,q2,q3⟩:=HQ.out _ B6.out;clear hb ho)|(go_at_call 43;refine (HOP.out w6 w4.heap.size R6.out).mono ?_;rintro e w7 ⟨hb,d,kb,sb,wb,fb,e0,e1,rfl,hd⟩;have Z7:=Lib.hid hb.size;have B7:=Lib.hid (B6.out.trans (hb.mono B6.out.size));have D7:=Lib.hid hd;have R7:=Lib.hid ((hb.block w4.heap.size (zb R6.out)).trans R6.out);have L7:=Lib.hid (L6.out.keep (hb.block _ L6.out.lt));clear q0 q1 q2 q3;obtain ⟨q0,q1,q2,q3⟩:=HQ.out _ B7.out;clear hb hd)|(go_at_call 44;refine (HNW.out d _).mono ?_;rintro e w8 ⟨mm,pb,rfl,hb,m1,m2,m3,m4,m5⟩;have Z8:=Lib.hid hb.size;have B8:=Lib.hid (B7.out.trans (hb.mono B7.out.size));have M8:=Lib.hid (HMS.out d kb sb wb fb e0 e1 mm pb w6 w7 w8 D7.out hb m1 m2 m3 m4 m5);have R8:=Lib.hid ((hb.block w4.heap.size (zb R7.out)).trans R7.out);have L8:=Lib.hid (L7.out.keep (hb.block _ L7.out.lt));clear q0 q1 q2 q3;obtain ⟨q0,q1,q2,q3⟩:=HQ.out _ B8.out;clear hb m1 m2 m3 m4 m5)|(go_at_call 45;refine (HRN.out w8 w4.heap.size R8.out).mono ?_;rintro e w9 ⟨R,rfl,r1,r2,r3,hb,r4⟩;have B9:=Lib.hid (B8.out.trans (hb.mono B8.out.size));have M9:=Lib.hid (M8.out.1.below hb);have L9:=Lib.hid (L8.out.keep (hb.block _ L8.out.lt));have R9:=Lib.hid (And.intro r1 (And.intro r2 (And.intro r3 r4)));clear hb r1 r2 r3 r4))
 have HLY:Hid (∃M0:Mv,sA W #[.int .i64 (th:Int), .int .i64 (sl:Int), .int .i64 (ib:Int), .int .i64 (bu:Int), .slice a len cap] ⟨th,sl,ib,bu⟩ (we M0 at_ wv 0) (Me R at_ wv 0) l w9/\M0.m=mm/\M0.n=m/\M0.ck=0/\M0.seen=(fun _=>0)/\R.ck=0/\R.wm=0/\M0.wr=(fun _=>0)/\M0.wm=0/\0<M0.np/\R.seen=(fun _=>0)/\R.kept=(fun _=>0)/\R.pass=(fun _=>0)/\R.wr=(fun _=>0)):=Lib.hid (by
  have hs1:W1.heap.size=W.heap.size+1+1:=by rw [XH.out];simp
  have GY:=L3.out.1
  have RK:=L4.out.lt;have z4:=B4.out.size;have hs5:(w4.alloc (.cells (madeCells #[.int .u64 0] nw) 43)).heap.size=w4.heap.size+1:=by simp
  have z6:w4.heap.size<=w6.heap.size:=by have:=Z6.out;rw [hs5]at this;omega
  have z7:=Z7.out;have z8:=Z8.out;refine ⟨Mv.start mm d kb sb wb fb pb m th np e0 e1 fun _=>0,⟨?_,(B9.out.block _ (zb lY.out)).trans lY.out,L9.out,M9.out,R9.out.1, ?_, ?_⟩,rfl,rfl,rfl,rfl,R9.out.2.1.jg,R9.out.2.2.2.1,rfl,rfl,HNP.out,R9.out.2.2.2.2.1,R9.out.2.2.2.2.2.1,R9.out.2.2.2.2.2.2.1,R9.out.2.2.2.2.2.2.2⟩
  . exact Vh.out.trans (B9.out.mono Vh.out.size)
  . exact (QP mm d kb sb wb fb pb m th np e0 e1 (fun _=>0) (fun _=>⟨0,0,0,0,0,false⟩) R R9.out.2.1).1
  . refine ⟨by omega,fun k hk=> ?_,fun k hk=> ?_⟩
    . have h1:=M8.out.1.lt hk
      have h2:=M8.out.2 k hk
      refine ⟨by omega,by omega,fun hr=> ?_⟩;have:=R9.out.2.2.1 k hr
      omega
    . have:=R9.out.2.2.1 k hk
      omega)
 obtain ⟨M0,hly,uE,hm2,hm3,hm4,MY,EC,Mi,uh,VX,hz4,hz5,hz6,hz7⟩:=HLY.out;have HZ:=Lib.hid (And.intro Mi (And.intro uh (And.intro VX (And.intro hz4 (And.intro hz5 (And.intro hz6 hz7))))));clear Mi uh VX hz4 hz5 hz6 hz7;have Nas:=Lib.hid hly;have HM0:=Lib.hid (And.intro uE (And.intro hm2 (And.intro hm3 (And.intro hm4 (And.intro MY EC)))));have jg:=fun k=>(Ih M0 at_ wv k).2.2.2.2
 have HCK:Hid (∀k:Nat,k<=100->(we M0 at_ wv k).ck<=1000000/\(Me R at_ wv k).ck<=1000000):=Lib.hid fun k hk=>⟨by rw [jg k,hm3];omega,by have:=(Pk R at_ wv k).2.2.2;omega⟩
 have A5:Hid (∀k,(we M0 at_ wv k).m=mm/\(Me R at_ wv k).m=R.m):=Lib.hid fun k=>⟨(Ih M0 at_ wv k).2.2.1.trans uE,(Pk R at_ wv k).2.1⟩
 have HST:Hid (∀(k:Nat) (w:World),k<len->Ga w (we M0 at_ wv k)->Calls Tryz.prog 46 #[.pointer (some ⟨mm,0,none⟩), .int .i64 0, .int .i64 (at_ k), .int .u64 (wv k)] w (Xq (we M0 at_ wv k) (we M0 at_ wv (k+1)) w)):=Lib.hid fun k w hk hm=>by
  obtain ⟨b,off,-,-,-,-,hb,-⟩:=HPU.out k hk;have h:=oL (we M0 at_ wv k) 0 (at_ k) (wv k) hb.1 hb.2 w hm (HCK.out k (by have:=MU.out;omega)).1
  rw [(A5.out k).1]at h;exact h
 have HRS:Hid (∀(k:Nat) (w:World),k<len->za w (Me R at_ wv k)->Calls Tryz.prog 47 #[.pointer (some ⟨R.m,0,none⟩), .int .i64 2, .int .i64 0, .int .i64 (at_ k), .int .u64 0, .int .u64 (wv k)] w (Yi (Me R at_ wv k) (Me R at_ wv (k+1)) w)):=Lib.hid fun k w hk hm=>by
  obtain ⟨b,off,-,-,-,-,hb,-⟩:=HPU.out k hk;have h:=Qj (Me R at_ wv k) 0 (at_ k) 0 (wv k) hb.1 hb.2 w hm (HCK.out k (by have:=MU.out;omega)).2
  rw [(A5.out k).2]at h;exact h
 have HML:Hid (∀k,(we M0 at_ wv (k+1)).own=(we M0 at_ wv k).own/\(Me R at_ wv (k+1)).own=(Me R at_ wv k).own):=Lib.hid fun k=>⟨(Ih M0 at_ wv (k+1)).1.trans (Ih M0 at_ wv k).1.symm,(Pk R at_ wv (k+1)).1.trans (Pk R at_ wv k).1.symm⟩
 have HLK:Hid (∀k,Alike (we M0 at_ wv k) (Me R at_ wv k)):=Lib.hid fun k=>DB hly.Md at_ wv k
 clear hly uE hm2 hm3 hm4 MY EC jg HLY LU HOF HLA HPA HOP HNW HMS HRN UX d1 d2 Vh lY HC1 HQ B2 B3 L3 B4 L4 B5 HQ4 B6 R6 L6 B7 D7 R7 L7 B8 M8 R8 L8 B9 M9 L9 R9 XH Z6 Z7 Z8 q0 q1 q2 q3
 go_loopw [16] (fun i wr=>∃k:Nat,k<=len/\i= .int .i64 k/\Hid (sA W #[.int .i64 (th:Int), .int .i64 (sl:Int), .int .i64 (ib:Int), .int .i64 (bu:Int), .slice a len cap] ⟨th,sl,ib,bu⟩ (we M0 at_ wv k) (Me R at_ wv k) l wr)) (fun i _=>len -(intOf i).toNat)
 case atStart=>exact ⟨0,Nat.zero_le _,rfl,Nas⟩
 case round=>
  obtain ⟨k,hk,rfl,HK⟩:=hrel;have q4:wr.cell? ⟨W.heap.size,4,none⟩=some (.slice a len cap):=ma HK.out.box 4 _ rfl;by_cases Db:k<len
  . have d1:decide ((k:Int)<(len:Int))=true:=ga (by omega);have d2:decide (k<len)=true:=ga Db;obtain ⟨b,off,ha,hb,c1,c2,hbd⟩:=HPU.out k Db;have x1:=(HK.out.below.cell (p:=⟨b,off+k*2,none⟩) hb).trans c1
    have x2:=(HK.out.below.cell (p:=⟨b,off+k*2+1,none⟩) hb).trans c2
    rw [ha]at q4;have HA:=Lib.hid ha;have D1:=Lib.hid (And.intro hb (And.intro c1 c2));have ui:=Lib.hid Db;have i0:(0:Int)<=(k:Int):=by omega
    have i1:(k:Int)<(len:Int):=by omega
    clear ha hb c1 c2 hbd Db
    go_wp2_with fail
    refine Be 0 13 (by kernel_rfl) (by kernel_rfl) (fun _ _ d _ _ h=>by cases d<;>exact h) ?_
    simp only [List.take_succ_cons,List.take_zero,List.drop_succ_cons,List.drop_zero,Nat.reduceAdd];refine wpQuiet_nil ?_
    repeat (first|go_big_quiet_skip|(go_big_quiet_want;go_big_quiet_op;go_big_quiet_on))
    refine wpQuiet_nil ?_
    rintro _ ⟨q,rfl⟩;have HK1:=Lib.hid (HK.out.grow (xb (Below.refl _ wr) q));clear q4 x1 x2;generalize wr.drewN q=wr1 at*
    go_wp2_with fail
    refine (HST.out k _ ui.out HK1.out.mem).mono ?_
    rintro e wa ⟨⟨xv,rfl⟩,hm,ht⟩;have HMA:=Lib.hid (And.intro hm ht);have hA:=HK1.out.bK hm ht (HML.out k).1
    have q4:wa.cell? ⟨W.heap.size,4,none⟩=some (.slice (some ⟨b,off,none⟩) len cap):=by rw [<-HA.out];exact ma hA.2.1 4 _ rfl
    have x1:=(hA.1.cell (p:=⟨b,off+k*2,none⟩) D1.out.1).trans D1.out.2.1
    have x2:=(hA.1.cell (p:=⟨b,off+k*2+1,none⟩) D1.out.1).trans D1.out.2.2
    clear hm ht hA
    go_wp2_with fail
    refine Be 0 13 (by kernel_rfl) (by kernel_rfl) (fun _ _ d _ _ h=>by cases d<;>exact h) ?_
    simp only [List.take_succ_cons,List.take_zero,List.drop_succ_cons,List.drop_zero,Nat.reduceAdd];refine wpQuiet_nil ?_
    repeat (first|go_big_quiet_skip|(go_big_quiet_want;go_big_quiet_op;go_big_quiet_on))
    refine wpQuiet_nil ?_
    rintro _ ⟨q2,rfl⟩;have HBA:=Lib.hid (xb (Below.refl wa.heap.size wa) q2);have HRA:=Lib.hid ((HK1.out.bK HMA.out.1 HMA.out.2 (HML.out k).1).2.2.2.below HBA.out);clear q4 x1 x2;generalize wa.drewN q2=wa1 at*
    go_wp2_with fail
    refine (HRS.out k _ ui.out HRA.out).mono ?_
    rintro e wb ⟨he,hr,aY⟩;obtain ⟨xr,hxr⟩:∃xr,xr=Value.agg (Me R at_ wv (k+1)).la.cells:=⟨_,rfl⟩
    rw [<-hxr]at he;subst he;clear hxr;have HKB:=Lib.hid (HK1.out.both HMA.out.1 HMA.out.2 (HML.out k).1 HBA.out hr aY (HML.out k).2 (HLK.out (k+1)));clear hr aY
    go_wp2_with fail
    go_roundw
    case rel=>
     have hw:wrap64 ((k:Int)+1)=(k:Int)+1:=by have:=ui.out;have:=MU.out;unfold wrap64;omega
     exact ⟨k+1,by have:=ui.out;omega,by rw [hw];go_num,HKB⟩
    case measure=>
     have hw:wrap64 ((k:Int)+1)=(k:Int)+1:=by have:=ui.out;have:=MU.out;unfold wrap64;omega
     rw [hw];have h:=ui.out;have e1:(intOf (.int .i64 ((k:Int)+1))).toNat=k+1:=by show((k:Int)+1).toNat=k+1;omega
     have e2:(intOf (.int .i64 (k:Int))).toNat=k:=by show((k:Int)).toNat=k;omega
     rw [e1,e2];exact Nat.sub_lt_sub_left h (Nat.lt_succ_self k)
  . obtain rfl:k=len:=by omega
    have d1:decide ((k:Int)<(k:Int))=false:=by simp
    have d2:decide (k<k)=false:=by simp
    have HDV:=Lib.hid (dH (we M0 at_ wv k) wr HK.out.mem);have HSE:=Lib.hid (aM (we M0 at_ wv k) wr HK.out.mem);have HPM:=Lib.hid (Ih M0 at_ wv k);rw [HPM.out.2.2.1,HM0.out.1]at HDV;rw [HPM.out.2.1,HM0.out.2.1,<-HM.out.1]at HSE;have KG:Hid (∀w',Below wr.heap.size wr w'->lM ⟨th,sl,ib,bu⟩ at_ wv k W (.returned (.tuple #[.pointer (some ⟨l,0,none⟩), .pointer (some ⟨mm,0,none⟩), .pointer (some ⟨R.m,0,none⟩), .bool true])) w'):=Lib.hid fun w' hb=>by
     have hg:=HK.out.grow hb;refine .inr ⟨⟨HF.out,MU.out⟩,l,we M0 at_ wv k,Me R at_ wv k,by rw [(A5.out k).1,(A5.out k).2], ?_⟩
     exact ⟨hg.below,hg.lay,hg.mem,hg.ref,hg.Md,hg.lo,by rw [HPM.out.2.1,HM0.out.2.1,<-HM.out.1];exact HNL.out,by rw [HPM.out.2.2.2.2,HM0.out.2.2.1];omega,by rw [oy M0 at_ wv HM0.out.2.2.2.1 k,HPM.out.2.1],M0,R,rfl,rfl,HZ.out.1,HZ.out.2.1,HZ.out.2.2.1,HZ.out.2.2.2.1,HZ.out.2.2.2.2.1,HZ.out.2.2.2.2.2.1,HZ.out.2.2.2.2.2.2,HM0.out.2.2.2.2.2,HM0.out.2.2.2.2.1⟩
    generalize (we M0 at_ wv k).d=dv at*
    unfold Dv at HSE;clear HK HST HRS HML HLK HPU HPM HCK Nas Db hk
    go_wp2_with (first|(go_at_call 48;refine HDV.out.mono ?_;rintro e w' ⟨rfl,rfl⟩)|(go_at_call 49;refine HSE.out.mono ?_;rintro e wz ⟨sg,sc,rfl,hb,-,-⟩;have HZ:=Lib.hid (KG.out _ hb);clear hb))
    (try simp only [Exit.inBlock,Exit.then])
    refine bodyPost_ret (gm rfl _ _ _) rfl ?_
    exact HZ.out
end Go.Proofs.YtfnkmolffhfpoaaGreat
namespace Go.Proofs.YtfnkmolffhfpoaaGreat
namespace Sk
open Go.RowKit
theorem Lah(M:Mv)(x:Acc)(nw:Int)(pu:Bool):(M.Ye x nw pu).np=M.np:=by
 unfold Mv.Ye Mv.note Mv.put
 split
 . split<;>(first|rfl|(split<;>rfl))
 . rfl
theorem fH(M:Mv)(at_ wv:Nat->Int):∀k,(we M at_ wv k).wr=M.wr/\(we M at_ wv k).wm=M.wm/\(we M at_ wv k).np=M.np
 |0=>⟨rfl,rfl,rfl⟩
 |k+1=>by
  obtain ⟨h1,h2,h3⟩:=fH M at_ wv k;exact ⟨(WL _ _ _ _).1.trans h1,(An _ _ _ _).1.trans h2,(Lah _ _ _ _).trans h3⟩
theorem qy(R:Rv)(at_ wv:Nat->Int):∀k:Nat,(Me R at_ wv k).wr=R.wr/\(Me R at_ wv k).wm=R.wm/\(Me R at_ wv k).ck=R.ck+k
 |0=>⟨rfl,rfl,by show R.ck=R.ck+0;omega⟩
 |k+1=>by
  obtain ⟨h1,h2,h3⟩:=qy R at_ wv k;obtain ⟨s1,s2,s3⟩:=Sx (Me R at_ wv k) ⟨2,0,at_ k,0,wv k,false⟩ (wv k) true;exact ⟨s3.trans h1,s2.trans h2,s1.trans (by rw [h3];omega)⟩
theorem gH(R:Rv)(h:Wd R)(hc:R.ck<=1000)(at_ wv:Nat->Int)(n:Nat)(hu:∀i,i<n->ud (wv i))(hn:n<=1000):∀k:Nat,k<=n->Wd (Me R at_ wv k)
 |0,_=>h
 |k+1,hk=>(gH R h hc at_ wv n hu hn k (by omega)).Ye _ _ (by rw [(qy R at_ wv k).2.2];omega) (hu k (by omega))
theorem Mah{th sl lo bu:Nat}(h:(⟨th,sl,lo,bu⟩:Xc).Cn):Xh ⟨th,sl,lo,bu⟩:=by
 obtain ⟨⟨f1,f2,f3,f4,f5,f6,f7,f8⟩,f9,f10,f11,f12⟩:=h;simp only at f1 f2 f3 f4 f5 f6 f7 f8 f9 f10 f11 f12;constructor<;>simp only<;>omega
def gam(A:Rv)(c:Xc):Nat->Gh:=fun i=>match i with|0=> .mem A|1=> .lay c|_=> .mem jT
def opL:Value:= .agg ⟨[vr 3 1,vr 6 2,vr 6 3]⟩
theorem Nah{R:Mp}{ρ:Nat->Int}{γ:Nat->Gh}(i:Nat)(n:Int)(hn:ρ i=n)(h0:-9223372036854775808<=n)(h1:n<=9223372036854775807): @VR (Th.at ρ γ) R (vr 3 i) (.int .i64 n):=by
 letI:Interp:=Th.at ρ γ
 refine Yc R (c:=3) rfl ?_
 show Tc.v (Value.int .i64 (IntKind.i64.wrap (ρ i)))=_
 rw [hn];have:IntKind.i64.wrap n=n:=by simp [IntKind.wrap,IntKind.bits,IntKind.signed];omega
 rw [this]
theorem NU{R:Mp}{ρ:Nat->Int}{γ:Nat->Gh}(i:Nat)(n:Int)(hn:ρ i=n)(h0:0<=n)(h1:n<=4294967295): @VR (Th.at ρ γ) R (vr 6 i) (.int .u32 n):=by
 letI:Interp:=Th.at ρ γ
 refine Yc R (c:=6) rfl ?_
 show Tc.v (Value.int .u32 (IntKind.u32.wrap (ρ i)))=_
 rw [hn];have:IntKind.u32.wrap n=n:=by simp [IntKind.wrap,IntKind.bits,IntKind.signed];omega
 rw [this]
theorem mM{R:Mp}{ρ:Nat->Int}{γ:Nat->Gh}{A:Rv}{c:Xc}(h:NG γ A c)(i:Nat)(n:Int)(hn:dj c (.ofNat i)=n)(h0:0<=n)(h1:n<=1000): @VR (Th.at ρ γ) R (sy dh [vr 11 1,Cb (.ofNat i)]) (.int .i64 n):=by
 letI:Interp:=Th.at ρ γ
 refine Yc R (c:=3) rfl ?_
 have e:den (sy dh [vr 11 1,Cb (.ofNat i)])=Bh dh [den (vr 11 1), .v (.int .i64 (.ofNat i))]:=rfl;rw [e,jy h]
 show Tc.v (Value.int .i64 (IntKind.i64.wrap (dj c (.ofNat i))))=_
 rw [hn,Ln n (by omega) (by omega)]
theorem Oah[Interp]{R:Mp}{l l':List Value}(h:LR R l l'):VR R (.agg ⟨l⟩) (.agg ⟨l'⟩):= .agg l l' h.1 h.2
def yc(P:Program)(I:World->Prop):List (FuncId×Array Value)->(List Value->World->Prop)->World->Prop
 |[],Q,w=>Q [] w
 |c::cs,Q,w=>Calls P c.1 c.2 w fun e w'=>∃v,e= .returned v/\I w'/\yc P I cs (fun vs w''=>Q (v::vs) w'') w'
theorem yc.mono{P:Program}{I:World->Prop}:∀{cs:List (FuncId×Array Value)} {Q Q':List Value->World->Prop} {w:World},yc P I cs Q w->(∀vs w',Q vs w'->Q' vs w')->yc P I cs Q' w
 |[],Q,Q',w,h,k=>k _ _ h
 |c::cs,Q,Q',w,h,k=>Calls.mono h fun e w' q=>by
  obtain ⟨v,rfl,hi,h2⟩:=q;exact ⟨v,rfl,hi,h2.mono fun vs w''=>k _ _⟩
theorem Pn[Interp]{E:Env}(hE:Yb E)(hO:yk E){n:Nat}{B:Nat->Prop}{w0:World}:∀{cs:List (FuncId×List Value)} {ds:List (FuncId×Array Value)} {σ σ':AH} {vs:List Value} {R:Mp} {w:World},runs E n cs σ=some (vs,σ')->Qc B w0 R σ w->Ui R cs ds->
  yc E.P (fun w'=>Ci B w0 w') ds (fun ws w'=>∃R',R.le R'/\LR R' vs ws/\Qc B w0 R' σ' w') w
 |[],[],σ,σ',vs,R,w,h,hS,hA=>by
  simp only [runs]at h;cases h;exact ⟨R,R.le_refl,LR.nil R,hS⟩
 |[],_::_,σ,σ',vs,R,w,h,hS,hA=>hA.elim
 |_::_,[],σ,σ',vs,R,w,h,hS,hA=>hA.elim
 |c::cs,d::ds,σ,σ',vs,R,w,h,hS,hA=>by
  obtain ⟨h1,h2,h3⟩:=hA;simp only [runs]at h
  split at h
  . rename_i v σ1 hr
    split at h
    . rename_i vs1 σ2 qS;cases h;unfold yc;rw [<-h1];refine (Mh hE hO hr hS h2).mono ?_
      rintro e w1 ⟨R1,v',rfl,e1,e2,e3⟩;refine ⟨v',rfl,e3.below,(Pn hE hO qS e3 (h3.mono e1.le)).mono ?_⟩;rintro ws w2 ⟨R2,q1,q2,q3⟩;exact ⟨R2,Mp.le_trans e1.le q1,LR.cons (e2.mono q1) q2,q3⟩
    . cases h
  . cases h
end Sk
end Go.Proofs.YtfnkmolffhfpoaaGreat
namespace Go.Proofs.YtfnkmolffhfpoaaGreat
open Go.RowKit Go.BigFrame
def Rv.Tj(M:Rv)(p:Nat->Bool)(k:Nat):Rv:={M with kept:=fun i=>if i/8<k/\p (i/8)=true then M.seen i else M.kept i,wr:=fun j=>if j<k/\p j=true then M.wr j+1 else M.wr j,wm:=M.wm+1}
def Rv.Qn(M:Rv)(p:Nat->Bool)(k j:Nat):Rv:={M.Tj p k with kept:=fun i=>if i/8=k/\i %8<j then M.seen i else(M.Tj p k).kept i}
theorem Pas{W:World}{M:Rv}(h:za W M)(p:Nat->Bool):za W (M.Tj p 0):=by
 exact {h with
  kept:=h.kept.congr fun k _=>by simp [Rv.Tj]
  wr:=h.wr.congr fun k _=>by simp [Rv.Tj]
  ZA:=fun k hk=>by have:=h.ZA k hk;simp [Rv.Tj];omega}
theorem Pah(M:Rv)(p:Nat->Bool)(k:Nat):M.Qn p k 0=M.Tj p k:=by
 unfold Rv.Qn;have:(fun i=>if i/8=k/\i %8<0 then M.seen i else(M.Tj p k).kept i)=(M.Tj p k).kept:=by funext i;rw [if_neg (by omega)]
 rw [this]
theorem fQ(M:Rv)(p:Nat->Bool)(k j:Nat)(hj:j<8):{M.Qn p k j with kept:=nd (M.Qn p k j).kept (8*k+j) (M.seen (8*k+j))}=M.Qn p k (j+1):=by
 have:nd (M.Qn p k j).kept (8*k+j) (M.seen (8*k+j))=(M.Qn p k (j+1)).kept:=by
  funext i
  show nd (fun i=>if i/8=k/\i %8<j then M.seen i else(M.Tj p k).kept i) (8*k+j) (M.seen (8*k+j)) i=if i/8=k/\i %8<j+1 then M.seen i else(M.Tj p k).kept i
  by_cases e:i=8*k+j
  . rw [e,Wb,if_pos (by omega)]
  . rw [Kb _ _ e];by_cases c:i/8=k/\i %8<j
    . rw [if_pos c,if_pos (by omega)]
    . rw [if_neg c,if_neg (by omega)]
 rw [this];rfl
theorem E1(M:Rv)(p:Nat->Bool)(k:Nat)(h:p k=true):{M.Qn p k 8 with wr:=nd (M.Qn p k 8).wr k (M.wr k+1)}=M.Tj p (k+1):=by
 have e1:nd (M.Qn p k 8).wr k (M.wr k+1)=(M.Tj p (k+1)).wr:=by
  funext i
  show nd (fun j=>if j<k/\p j=true then M.wr j+1 else M.wr j) k (M.wr k+1) i=if i<k+1/\p i=true then M.wr i+1 else M.wr i
  by_cases e:i=k
  . rw [e,Wb,if_pos ⟨by omega,h⟩]
  . rw [Kb _ _ e];by_cases c:i<k/\p i=true
    . rw [if_pos c,if_pos ⟨by omega,c.2⟩]
    . rw [if_neg c,if_neg (fun c'=>c ⟨by omega,c'.2⟩)]
 have e2:(M.Qn p k 8).kept=(M.Tj p (k+1)).kept:=by
  funext i
  show(if i/8=k/\i %8<8 then M.seen i else if i/8<k/\p (i/8)=true then M.seen i else M.kept i)=if i/8<k+1/\p (i/8)=true then M.seen i else M.kept i
  by_cases e:i/8=k
  . rw [if_pos ⟨e,by omega⟩,if_pos ⟨by omega,by rw [e];exact h⟩]
  . rw [if_neg (fun c=>e c.1)];by_cases c:i/8<k/\p (i/8)=true
    . rw [if_pos c,if_pos ⟨by omega,c.2⟩]
    . rw [if_neg c,if_neg (fun c'=>c ⟨by omega,c'.2⟩)]
 rw [e1]
 show({M.Tj p k with kept:=(M.Qn p k 8).kept,wr:=(M.Tj p (k+1)).wr}:Rv)=_
 rw [e2];rfl
theorem Qah(M:Rv)(p:Nat->Bool)(k:Nat)(h:p k=false):M.Tj p (k+1)=M.Tj p k:=by
 have e1:(M.Tj p (k+1)).wr=(M.Tj p k).wr:=by
  funext i
  show(if i<k+1/\p i=true then M.wr i+1 else M.wr i)=if i<k/\p i=true then M.wr i+1 else M.wr i
  by_cases e:i=k
  . rw [e,h];simp
  . by_cases c:i<k/\p i=true
    . rw [if_pos c,if_pos ⟨by omega,c.2⟩]
    . rw [if_neg c,if_neg (fun c'=>c ⟨by omega,c'.2⟩)]
 have e2:(M.Tj p (k+1)).kept=(M.Tj p k).kept:=by
  funext i
  show(if i/8<k+1/\p (i/8)=true then M.seen i else M.kept i)=if i/8<k/\p (i/8)=true then M.seen i else M.kept i
  by_cases e:i/8=k
  . rw [e,h];simp
  . by_cases c:i/8<k/\p (i/8)=true
    . rw [if_pos c,if_pos ⟨by omega,c.2⟩]
    . rw [if_neg c,if_neg (fun c'=>c ⟨by omega,c'.2⟩)]
 show({M with kept:=(M.Tj p (k+1)).kept,wr:=(M.Tj p (k+1)).wr,wm:=M.wm+1}:Rv)=_
 rw [e1,e2];rfl
set_option maxRecDepth 100000 in
set_option maxHeartbeats 4000000 in
theorem tA(M:Rv)(l:Nat)(hl:l<M.n)(W:World)(h:za W M)(hw:M.wm<=999999):
  Calls Tryz.prog 70 #[.pointer (some ⟨M.d,0,none⟩), .int .i64 2, .int .i64 0, .int .i64 l] W (yn M (M.Tj (fun j=>decide (j=l)) M.n) (.int .i64 0) W):=by
 obtain ⟨y0,y1,y2,y3⟩:=Mb h.dev;have vL:=h.n1;have uL:=h.t1;have HH:=Lib.hid h;have i0:(0:Int)<=(l:Int):=by omega
 have i1:(l:Int)<(M.n:Int):=by omega
 have d0:decide ((l:Int)<0)=false:=ua (by omega);have d1:decide (M.n<=l)=false:=ua (by omega);have d2:decide ((M.n:Int)<=(l:Int))=false:=ua (by omega);obtain ⟨p,hp⟩:∃p:Nat->Bool,p=fun j=>decide (j=l):=⟨_,rfl⟩
 rw [<-hp];have HP:Hid (∀k,p k=decide (k=l)):=Lib.hid fun k=>by rw [hp]
 clear hp;have HWM:=Lib.hid hw;clear h hl hw
 go_enter Tryz.func70,Tryz.ntmps70
 go_wp2_with fail
 go_loopw [9] (fun i wr=>∃k:Nat,k<=M.n/\i= .int .i64 k/\Hid (za wr (M.Tj p k)/\Ja M.own W wr)) (fun i _=>M.n -(intOf i).toNat)
 case atStart=>exact ⟨0,Nat.zero_le _,rfl,Lib.hid ⟨Pas HH.out p,Ja.refl _ _⟩⟩
 case round=>
  obtain ⟨k,hk,rfl,HB⟩:=hrel;obtain ⟨wo,rfl⟩:∃wo:World,wo=wr:=⟨_,rfl⟩;clear y0 y1 y2 y3;obtain ⟨w0,w1,w2,w3⟩:=Mb HB.out.1.dev
  have y0:wo.cell? ⟨M.d,0,none⟩=some (.slice (some ⟨M.kb,0,none⟩) (8*M.n) M.c0):=w0;have y1:wo.cell? ⟨M.d,1,none⟩=some (.slice (some ⟨M.sb,0,none⟩) (8*M.n) M.c1):=w1;have y2:wo.cell? ⟨M.d,2,none⟩=some (.slice (some ⟨M.wb,0,none⟩) M.n M.c2):=w2;have y3:wo.cell? ⟨M.d,3,none⟩=some (.slice (some ⟨M.fb,0,none⟩) M.nt M.c3):=w3;clear w0 w1 w2 w3;have j0:(0:Int)<=(k:Int):=by omega
  by_cases Db:k<M.n
  . have j1:(k:Int)<(M.n:Int):=by omega
    have j2:decide ((k:Int)<(M.n:Int))=true:=ga j1;cases hf:p k with
    |false=>
     have f1:((k:Int)==(l:Int))=false:=by have:=HP.out k;rw [hf]at this;have:=of_decide_eq_false this.symm;simp;omega
     have HE:=Lib.hid (Qah M p k hf);clear hf
     go_wp2_with fail
     go_roundw
     case rel=>exact ⟨k+1,by omega,by go_num,Lib.hid (by rw [HE.out];exact HB.out)⟩
     case measure=>simp [intOf];omega
    |true=>
     have f1:((k:Int)==(l:Int))=true:=by have:=HP.out k;rw [hf]at this;have:=of_decide_eq_true this.symm;simp;omega
     have HE:=Lib.hid (E1 M p k hf);clear hf
     go_wp2_with fail
     go_loopw [10] (fun i wr=>∃j:Nat,j<=8/\i= .int .i64 j/\Hid (za wr (M.Qn p k j)/\Ja M.own W wr)) (fun i _=>8 -(intOf i).toNat)
     case atStart=>exact ⟨0,Nat.zero_le _,rfl,Lib.hid ⟨by rw [Pah];exact HB.out.1,HB.out.2⟩⟩
     case round=>
      obtain ⟨j,hj,rfl,HC⟩:=hrel;clear y0 y1 y2 y3;obtain ⟨w0,w1,w2,w3⟩:=Mb HC.out.1.dev
      have y0:wr.cell? ⟨M.d,0,none⟩=some (.slice (some ⟨M.kb,0,none⟩) (8*M.n) M.c0):=w0;have y1:wr.cell? ⟨M.d,1,none⟩=some (.slice (some ⟨M.sb,0,none⟩) (8*M.n) M.c1):=w1;have y2:wr.cell? ⟨M.d,2,none⟩=some (.slice (some ⟨M.wb,0,none⟩) M.n M.c2):=w2;clear w0 w1 w2 w3;by_cases hj8:j<8
      . have e2:decide ((j:Int)<8)=true:=ga (by omega);have z1:wr.cell? ⟨M.sb,8*k+j,none⟩=some (.int .u64 (M.seen (8*k+j))):=HC.out.1.seen.cell (by show _<8*M.n;omega)
        have z2:=HC.out.1.kept.cell (k:=8*k+j) (by show _<8*M.n;omega)
        have z2:wr.cell? ⟨M.kb,8*k+j,none⟩=some (.int .u64 ((M.Qn p k j).kept (8*k+j))):=z2;have z3:wr.frozen? ⟨M.kb,8*k+j,none⟩=false:=HC.out.1.kept.free _
        have HS:=Lib.hid (HC.out.1.UF (8*k+j) (M.seen (8*k+j)));rw [fQ M p k j hj8]at HS;generalize (M.Qn p k j).kept (8*k+j)=u at*
        generalize M.seen (8*k+j)=v at*;obtain ⟨q,hq⟩:∃q,q=8*k+j:=⟨_,rfl⟩;obtain ⟨N,hN⟩:∃N,N=8*M.n:=⟨_,rfl⟩;rw [<-hq]at z1 z2 z3 HS;rw [<-hN]at y0 y1;have m1:IntKind.i64.wrap (8*(k:Int))=8*(k:Int):=IntWalk.i64_in _ (by omega);have m2:IntKind.i64.wrap (8*(k:Int)+(j:Int))=(q:Int):=by rw [IntWalk.i64_in _ (by omega)];omega
        have m3:(0:Int)<=(q:Int):=by omega
        have m4:(q:Int)<(N:Int):=by omega
        have m5:q<N:=by omega
        clear hq hN
        go_wp2_with fail
        go_region
        go_wp2_with fail
        go_roundw
        case rel=>exact ⟨j+1,by omega,by go_num,Lib.hid ⟨HS.out.drew,((HC.out.2.set (fun _=>Or.inl (by simp [Rv.blocks])) _ _).drawn _)⟩⟩
        case measure=>simp [intOf];omega
      . obtain rfl:j=8:=by omega
        have e2:decide (((8:Nat):Int)<8)=false:=by simp
        have z1:wr.cell? ⟨M.wb,k,none⟩=some (.int .i64 ((M.Qn p k 8).wr k)):=HC.out.1.wr.cell Db
        have z3:wr.frozen? ⟨M.wb,k,none⟩=false:=HC.out.1.wr.free _
        have z4:(M.Qn p k 8).wr k=M.wr k:=by show(if k<k/\p k=true then M.wr k+1 else M.wr k)=M.wr k;rw [if_neg (by omega)]
        rw [z4]at z1;have z5:=HH.out.ZA k Db;have z6:=HWM.out;have HS:=Lib.hid (HC.out.1.MS k (M.wr k+1) (by omega) (by show M.wr k+1<=M.wm+1;omega));rw [HE.out]at HS;generalize M.wr k=v at*;have m1:IntKind.i64.wrap (v+1)=v+1:=IntWalk.i64_in _ (by omega)
        go_wp2_with fail
        go_region
        go_wp2_with fail
        go_roundw
        case rel=>exact ⟨k+1,by omega,by go_num,Lib.hid ⟨HS.out.drew,((HC.out.2.set (fun _=>Or.inl (by simp [Rv.blocks])) _ _).drawn _)⟩⟩
        case measure=>simp [intOf];omega
  . obtain rfl:k=M.n:=by omega
    have j2:decide ((M.n:Int)<(M.n:Int))=false:=by simp
    go_wp2_with fail
    go_loop [11] (fun i=>∃a:Nat,a<=M.nt/\i= .int .i64 a) (fun i=>M.nt -(intOf i).toNat)
    case atStart=>exact ⟨0,Nat.zero_le _,rfl⟩
    case round=>
     obtain ⟨a,ha,rfl⟩:=hrel;by_cases Pu:a<M.nt
     . have e2:decide ((a:Int)<(M.nt:Int))=true:=ga (by omega)
       go_wp2_with fail
       go_loop [12] (fun i=>∃b:Nat,b<=M.n/\i= .int .i64 b) (fun i=>M.n -(intOf i).toNat)
       case atStart=>exact ⟨0,Nat.zero_le _,rfl⟩
       case round=>
        obtain ⟨b,hb,rfl⟩:=hrel;by_cases YX:b<M.n
        . have e3:decide ((b:Int)<(M.n:Int))=true:=ga (by omega)
          go_wp2_with fail
          go_round
          case rel=>exact ⟨b+1,by omega,by go_num⟩
          case measure=>simp [intOf];omega
        . obtain rfl:b=M.n:=by omega
          have e3:decide ((M.n:Int)<(M.n:Int))=false:=by simp
          go_wp2_with fail
          go_round
          case rel=>exact ⟨a+1,by omega,by go_num⟩
          case measure=>simp [intOf];omega
     . obtain rfl:a=M.nt:=by omega
       have e2:decide ((M.nt:Int)<(M.nt:Int))=false:=by simp
       go_wp2_with fail
       go_loop [13] (fun i=>∃q:Nat,q<=8*M.n/\i= .int .i64 q) (fun i=>8*M.n -(intOf i).toNat)
       case atStart=>exact ⟨0,Nat.zero_le _,rfl⟩
       case round=>
        obtain ⟨q,hq,rfl⟩:=hrel;obtain ⟨N,hN⟩:∃N,N=8*M.n:=⟨_,rfl⟩;rw [<-hN]at y1 hq⊢;have VO:N<=2097152:=by omega
        clear hN;by_cases hqn:q<N
        . have e3:decide ((q:Int)<(N:Int))=true:=ga (by omega)
          go_wp2_with fail
          go_round
          case rel=>exact ⟨q+1,by omega,by go_num⟩
          case measure=>simp [intOf];omega
        . obtain rfl:q=N:=by omega
          have e3:decide ((q:Int)<(q:Int))=false:=by simp
          go_wp2_with fail
          go_ret
          exact ⟨rfl,HB.out.1,HB.out.2⟩
def Rv.gone(M:Rv)(a b:Nat):Rv:={M with fl:=fun x y=>if y<M.n/\(x<a\/x=a/\y<b)then false else M.fl x y}
theorem Rah(M:Rv):M.gone 0 0=M:=by
 unfold Rv.gone;have:(fun x y=>if y<M.n/\(x<0\/x=0/\y<0)then false else M.fl x y)=M.fl:=by funext x y;rw [if_neg (by omega)]
 rw [this]
theorem gQ(M:Rv)(a:Nat):M.gone a M.n=M.gone (a+1) 0:=by
 unfold Rv.gone;have:(fun x y=>if y<M.n/\(x<a\/x=a/\y<M.n)then false else M.fl x y)=fun x y=>if y<M.n/\(x<a+1\/x=a+1/\y<0)then false else M.fl x y:=by
  funext x y
  by_cases c:y<M.n/\(x<a\/x=a/\y<M.n)
  . rw [if_pos c,if_pos (by omega)]
  . rw [if_neg c,if_neg (by omega)]
 rw [this]
theorem OU(M:Rv)(a b:Nat)(h:b<M.n):{M.gone a b with fl:=nd (M.gone a b).fl a (nd ((M.gone a b).fl a) b false)}=M.gone a (b+1):=by
 have:nd (M.gone a b).fl a (nd ((M.gone a b).fl a) b false)=(M.gone a (b+1)).fl:=by
  funext x y
  show nd (M.gone a b).fl a (nd ((M.gone a b).fl a) b false) x y=if y<M.n/\(x<a\/x=a/\y<b+1)then false else M.fl x y
  by_cases e:x=a
  . rw [e,Wb];by_cases e':y=b
    . rw [e',Wb,if_pos (by omega)]
    . rw [Kb _ _ e']
      show(if y<M.n/\(a<a\/a=a/\y<b)then false else M.fl a y)=_
      by_cases c:y<M.n/\y<b
      . rw [if_pos (by omega),if_pos (by omega)]
      . rw [if_neg (by omega),if_neg (by omega)]
  . rw [Kb _ _ e]
    show(if y<M.n/\(x<a\/x=a/\y<b)then false else M.fl x y)=_
    by_cases c:y<M.n/\x<a
    . rw [if_pos (by omega),if_pos (by omega)]
    . rw [if_neg (by omega),if_neg (by omega)]
 rw [this];rfl
def Rv.back(M:Rv)(q:Nat):Rv:={M with seen:=fun i=>if i<q then M.kept i else M.seen i}
theorem Sah(M:Rv):M.back 0=M:=by
 unfold Rv.back;have:(fun i=>if i<0 then M.kept i else M.seen i)=M.seen:=by funext i;rw [if_neg (by omega)]
 rw [this]
theorem iQ(M:Rv)(q:Nat):{M.back q with seen:=nd (M.back q).seen q (M.kept q)}=M.back (q+1):=by
 have:nd (M.back q).seen q (M.kept q)=(M.back (q+1)).seen:=by
  funext i
  show nd (fun i=>if i<q then M.kept i else M.seen i) q (M.kept q) i=if i<q+1 then M.kept i else M.seen i
  by_cases e:i=q
  . rw [e,Wb,if_pos (by omega)]
  . rw [Kb _ _ e];by_cases c:i<q
    . rw [if_pos c,if_pos (by omega)]
    . rw [if_neg c,if_neg (by omega)]
 rw [this];rfl
def Rv.Rn(M:Rv):Rv:=(M.gone M.nt 0).back (8*M.n)
set_option maxRecDepth 100000 in
set_option maxHeartbeats 4000000 in
theorem uA(M:Rv)(W:World)(h:za W M):
  Calls Tryz.prog 70 #[.pointer (some ⟨M.d,0,none⟩), .int .i64 3, .int .i64 0, .int .i64 0] W (yn M M.Rn (.int .i64 0) W):=by
 obtain ⟨y0,y1,y2,y3⟩:=Mb h.dev;have vL:=h.n1;have uL:=h.t1;have HH:=Lib.hid h;have HF:Hid (M.Rn=(M.gone M.nt 0).back (8*M.n)):=Lib.hid rfl;clear h
 go_enter Tryz.func70,Tryz.ntmps70
 go_wp2_with fail
 go_loop [9] (fun i=>∃k:Nat,k<=M.n/\i= .int .i64 k) (fun i=>M.n -(intOf i).toNat)
 case atStart=>exact ⟨0,Nat.zero_le _,rfl⟩
 case round=>
  obtain ⟨k,hk,rfl⟩:=hrel;by_cases Db:k<M.n
  . have j2:decide ((k:Int)<(M.n:Int))=true:=ga (by omega)
    go_wp2_with fail
    go_round
    case rel=>exact ⟨k+1,by omega,by go_num⟩
    case measure=>simp [intOf];omega
  . obtain rfl:k=M.n:=by omega
    have j2:decide ((M.n:Int)<(M.n:Int))=false:=by simp
    go_wp2_with fail
    go_loopw [11] (fun i wr=>∃k:Nat,k<=M.nt/\i= .int .i64 k/\Hid (za wr (M.gone k 0)/\Ja M.own W wr)) (fun i _=>M.nt -(intOf i).toNat)
    case atStart=>exact ⟨0,Nat.zero_le _,rfl,Lib.hid ⟨by rw [Rah];exact HH.out,Ja.refl _ _⟩⟩
    case round=>
     obtain ⟨a,ha,rfl,HC⟩:=hrel;obtain ⟨wb,rfl⟩:∃wb:World,wb=wr:=⟨_,rfl⟩;clear y0 y1 y2 y3;obtain ⟨w0,w1,w2,w3⟩:=Mb HC.out.1.dev
     have y0:wb.cell? ⟨M.d,0,none⟩=some (.slice (some ⟨M.kb,0,none⟩) (8*M.n) M.c0):=w0;have y1:wb.cell? ⟨M.d,1,none⟩=some (.slice (some ⟨M.sb,0,none⟩) (8*M.n) M.c1):=w1;have y2:wb.cell? ⟨M.d,2,none⟩=some (.slice (some ⟨M.wb,0,none⟩) M.n M.c2):=w2;have y3:wb.cell? ⟨M.d,3,none⟩=some (.slice (some ⟨M.fb,0,none⟩) M.nt M.c3):=w3;clear w0 w1 w2 w3;by_cases Pu:a<M.nt
     . have e2:decide ((a:Int)<(M.nt:Int))=true:=ga (by omega)
       go_wp2_with fail
       go_loopw [12] (fun i wr=>∃b:Nat,b<=M.n/\i= .int .i64 b/\Hid (za wr (M.gone a b)/\Ja M.own W wr)) (fun i _=>M.n -(intOf i).toNat)
       case atStart=>exact ⟨0,Nat.zero_le _,rfl,HC⟩
       case round=>
        obtain ⟨b,hb,rfl,HD⟩:=hrel;clear y0 y1 y2 y3;obtain ⟨w0,w1,w2,w3⟩:=Mb HD.out.1.dev
        have y2:wr.cell? ⟨M.d,2,none⟩=some (.slice (some ⟨M.wb,0,none⟩) M.n M.c2):=w2;have y3:wr.cell? ⟨M.d,3,none⟩=some (.slice (some ⟨M.fb,0,none⟩) M.nt M.c3):=w3;clear w0 w1 w2 w3;by_cases YX:b<M.n
        . have e3:decide ((b:Int)<(M.n:Int))=true:=ga (by omega);have g1:wr.cell? ⟨M.fb,a,none⟩=some (.slice (some ⟨M.fg a,0,none⟩) M.n (M.fc a)):=HD.out.1.fb.cell (k:=a) Pu
          have g2:wr.cell? ⟨M.fg a,b,none⟩=some (.bool ((M.gone a b).fl a b)):=(HD.out.1.fl a Pu).cell (k:=b) YX
          have g3:wr.frozen? ⟨M.fg a,b,none⟩=false:=(HD.out.1.fl a Pu).free b
          have HS:=Lib.hid (HD.out.1.Ps (t:=a) Pu b false);have HO:Hid (M.own (M.fg a)):=Lib.hid (Or.inr ⟨a,Pu,rfl⟩);rw [OU M a b YX]at HS;have VI:Hid (za (wr.setCell ⟨M.fg a,b,none⟩ (.bool false)) (M.gone a (b+1))):=Lib.hid HS.out;generalize (M.gone a b).fl a b=u at*
          generalize M.fg a=g at*;clear HS
          go_wp2_with fail
          go_roundw
          case rel=>exact ⟨b+1,by omega,by go_num,Lib.hid ⟨VI.out,HD.out.2.set (fun _=>HO.out) _ _⟩⟩
          case measure=>simp [intOf];omega
        . obtain rfl:b=M.n:=by omega
          have e3:decide ((M.n:Int)<(M.n:Int))=false:=by simp
          have HE:=Lib.hid (gQ M a)
          go_wp2_with fail
          go_roundw
          case rel=>exact ⟨a+1,by omega,by go_num,Lib.hid (by rw [<-HE.out];exact HD.out)⟩
          case measure=>simp [intOf];omega
     . obtain rfl:a=M.nt:=by omega
       have e2:decide ((M.nt:Int)<(M.nt:Int))=false:=by simp
       obtain ⟨R,hR⟩:∃R,R=M.gone M.nt 0:=⟨_,rfl⟩;have HRn:Hid (R.n=M.n/\R.d=M.d/\R.sb=M.sb/\R.kb=M.kb/\R.c0=M.c0/\R.c1=M.c1):=Lib.hid (by rw [hR];exact ⟨rfl,rfl,rfl,rfl,rfl,rfl⟩);rw [<-hR]at HC HF;clear hR
       go_wp2_with fail
       go_loopw [13] (fun i wr=>∃q:Nat,q<=8*M.n/\i= .int .i64 q/\Hid (za wr (R.back q)/\Ja M.own W wr)) (fun i _=>8*M.n -(intOf i).toNat)
       case atStart=>exact ⟨0,Nat.zero_le _,rfl,Lib.hid ⟨by rw [Sah];exact HC.out.1,HC.out.2⟩⟩
       case round=>
        obtain ⟨q,hq,rfl,HD⟩:=hrel;clear y0 y1 y2 y3;obtain ⟨w0,w1,w2,w3⟩:=Mb HD.out.1.dev
        obtain ⟨r1,r2,r3,r4,r5,r6⟩:=HRn.out;have y0:wr.cell? ⟨M.d,0,none⟩=some (.slice (some ⟨M.kb,0,none⟩) (8*M.n) M.c0):=by rw [<-r1,<-r2,<-r4,<-r5];exact w0
        have y1:wr.cell? ⟨M.d,1,none⟩=some (.slice (some ⟨M.sb,0,none⟩) (8*M.n) M.c1):=by rw [<-r1,<-r2,<-r3,<-r6];exact w1
        clear w0 w1 w2 w3;have HO:Hid (M.own M.sb):=Lib.hid (Or.inl (by simp [Rv.blocks]));obtain ⟨N,hN⟩:∃N,N=8*M.n:=⟨_,rfl⟩;by_cases hqn:q<N
        . have z1:wr.cell? ⟨M.kb,q,none⟩=some (.int .u64 (R.kept q)):=by
           have:=HD.out.1.kept.cell (k:=q) (by show q<8*R.n;rw [r1];omega)
           rw [<-r4];exact this
          have z2:wr.cell? ⟨M.sb,q,none⟩=some (.int .u64 ((R.back q).seen q)):=by
           have:=HD.out.1.seen.cell (k:=q) (by show q<8*R.n;rw [r1];omega)
           rw [<-r3];exact this
          have z3:wr.frozen? ⟨M.sb,q,none⟩=false:=by
           have:=HD.out.1.seen.free q
           rw [<-r3];exact this
          have HS:=Lib.hid (HD.out.1.pn q (R.kept q));rw [iQ R q]at HS;have VI:Hid (za (wr.setCell ⟨M.sb,q,none⟩ (.int .u64 (R.kept q))) (R.back (q+1))):=Lib.hid (by rw [<-r3];exact HS.out);generalize (R.back q).seen q=u at*
          generalize R.kept q=v at*;rw [<-hN]at y0 y1 hq⊢;have VO:N<=2097152:=by omega
          have e3:decide ((q:Int)<(N:Int))=true:=ga (by omega);have m4:(q:Int)<(N:Int):=by omega
          clear hN HS r1 r2 r3 r4 r5 r6
          go_wp2_with fail
          go_region
          go_wp2_with fail
          go_roundw
          case rel=>exact ⟨q+1,by omega,by go_num,Lib.hid ⟨VI.out.drew,(HD.out.2.set (fun _=>HO.out) _ _).drawn _⟩⟩
          case measure=>simp [intOf];omega
        . obtain rfl:q=N:=by omega
          have HZ:Hid (za wr M.Rn):=Lib.hid (by rw [HF.out,<-hN];exact HD.out.1);rw [<-hN]at y0 y1 hq⊢;have e3:decide ((q:Int)<(q:Int))=false:=by simp
          have VO:q<=2097152:=by omega
          clear hN r1 r2 r3 r4 r5 r6
          go_wp2_with fail
          go_ret
          exact ⟨rfl,HZ.out,HD.out.2⟩
end Go.Proofs.YtfnkmolffhfpoaaGreat
