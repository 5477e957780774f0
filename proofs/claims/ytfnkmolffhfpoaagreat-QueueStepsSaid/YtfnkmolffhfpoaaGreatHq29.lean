/- -/
import Derived.Test.YtfnkmolffhfpoaaGreatHq20
import Derived.Test.YtfnkmolffhfpoaaGreatHq26
import Derived.Test.YtfnkmolffhfpoaaGreatHq28
set_option linter.unusedVariables false
set_option linter.unusedSimpArgs false
set_option linter.unusedSectionVars false
namespace Go.Proofs.YtfnkmolffhfpoaaGreat
open Go.RowKit Go.BigFrame
def SX(M:Mv)(f:Value->Mv)(W:World)(e:Ending)(W':World):Prop:=e= .returned undef/\∃v,Ge M (f v) W W'
set_option maxRecDepth 100000 in
theorem dR(M:Mv)(t at_ v:Int)(q0:-9223372036854775808<=at_)(q1:at_<=9223372036854775807)(W:World)(h:za W M)(hc:M.ck<=1000000):
  Calls Tryz.prog 46 #[.pointer (some ⟨M.m,0,none⟩), .int .i64 t, .int .i64 at_, .int .u64 v] W (Zo M (M.store t at_ v) undef W):=by
 have H:Hid (∀o,Calls Tryz.prog 106 #[.pointer (some ⟨M.m,0,none⟩), .agg (Acc.cells ⟨2,t,at_,0,v,false⟩), .func (.func 107) #[] #[.pointer (some ⟨W.heap.size,0,none⟩)]] (W.alloc (.cells #[.int .u64 v] o)) (Zo M (M.store t at_ v) (.agg (M.res ⟨2,t,at_,0,v,false⟩ true).cells) (W.alloc (.cells #[.int .u64 v] o)))):=Lib.hid fun o=>by
  refine Ju M ⟨2,t,at_,0,v,false⟩ 107 _ v true (ya Tryz.func107 (by kernel_rfl) rfl) _ (h.below ((Below.refl _ _).alloc (Nat.le_refl _) _)) hc q0 q1 (fun w1 hb=> ?_);exact vE _ v W.heap.size w1 ((hb.cell (p:=⟨W.heap.size,0,none⟩) (by simp)).trans (cell_of_row _ _ 0 _ _ _ (heap_alloc_new W _)))
 generalize M.store t at_ v=N at*;generalize M.res ⟨2,t,at_,0,v,false⟩ true=r at*;simp only [Acc.cells]at*;clear h
 go_enter Tryz.func46,Tryz.ntmps46
 go_wp2_with fail
 refine (H.out _).mono ?_
 rintro e w1 ⟨rfl,hm,ht⟩;have HM:=Lib.hid hm;have HT:=Lib.hid ht;clear hm ht
 go_wp2_with fail
 go_end0
 exact ⟨rfl,HM.out,((Ba.refl _ _).alloc _).trans HT.out (fun _ _ h=>h)⟩
set_option maxRecDepth 100000 in
theorem eR(M:Mv)(t at_:Int)(q1:at_<=9223372036854775807)(W:World)(h:za W M)(hc:M.ck<=1000000):
  Calls Tryz.prog 66 #[.pointer (some ⟨M.m,0,none⟩), .int .i64 t, .int .i64 at_] W (SX M (M.Fa t at_) W):=by
 by_cases h0:at_<0
 . have d0:decide (at_<0)=true:=ea h0;have HL:=Lib.hid (Yo M ⟨4,t,at_,0,0,false⟩ 5 W h hc);have HE:Hid (∀v,M.Fa t at_ v=M.note ⟨4,t,at_,0,0,false⟩ false):=Lib.hid fun v=>by unfold Mv.Fa;rw [if_neg (by omega)]
   have HM:=Lib.hid h;simp only [Acc.cells]at HL;clear h h0
   go_enter Tryz.func66,Tryz.ntmps66
   go_wp2_with fail
   refine HL.out.mono ?_
   rintro e w ⟨⟨x,rfl⟩,hm,ht⟩;have HI:Hid (Ge M (M.note ⟨4,t,at_,0,0,false⟩ false) W w):=Lib.hid ⟨hm,ht,fun k hk=>Or.inl hk⟩;clear hm ht
   go_wp2_with fail
   go_end0
   exact ⟨rfl, .slice none 0 0,by rw [HE.out];exact HI.out⟩
 . have d0:decide (at_<0)=false:=ta h0;have e8:at_.tdiv 8=at_/8:=Int.tdiv_eq_ediv_of_nonneg (by omega);have hd:W.cell? ⟨M.m,0,none⟩=some (.pointer (some ⟨M.d,0,none⟩)):=(Uc h.row).1
   obtain ⟨E,hE⟩:∃E,E=M.Kb t (at_/8):=⟨_,rfl⟩;have HF:=Lib.hid (LJ M t (at_/8) W h);unfold Pq at HF;rw [<-hE]at HF;have HX:Hid (∀W1,(E≠0/\Ge M M W W1\/E=0/\∃v,Ge M (M.Bc t (at_/8) v) W W1)->Calls Tryz.prog 170 #[.pointer (some ⟨M.m,0,none⟩), .agg (Acc.cells ⟨4,t,at_,0,0,false⟩), .int .i64 E] W1 (Ends M (M.Fa t at_) W)):=Lib.hid fun W1 hw=>by
    rcases hw with⟨h1,hi⟩|⟨h1,v,hi⟩
    . have e0:(E==0)=false:=by simpa using h1
      have:=Yo M ⟨4,t,at_,0,0,false⟩ E W1 hi.1 hc
      refine this.mono ?_
      rintro e w hd;refine ⟨hd.1, .slice none 0 0, ?_⟩;unfold Mv.Fa;rw [if_neg (by rw [<-hE];omega)];rw [e0]at hd;exact hi.note hd
    . subst h1;have:=Yo (M.Bc t (at_/8) v) ⟨4,t,at_,0,0,false⟩ 0 W1 hi.1 hc
      refine this.mono ?_
      rintro e w hd;refine ⟨hd.1,v, ?_⟩;unfold Mv.Fa;rw [if_pos ⟨by omega,hE.symm⟩];exact hi.note hd
   simp only [Acc.cells]at HX;have q0:0<=at_:=by omega
   clear h h0 hE;generalize Mv.Fa M t at_=N at*
   go_enter Tryz.func66,Tryz.ntmps66
   go_wp2_with fail
   with_reducible refine HF.out.mono ?_
   rintro e w ⟨rfl,hw⟩;have HC:=Lib.hid (HX.out w hw);clear hw HX
   go_wp2_with fail
   with_reducible refine HC.out.mono ?_
   rintro e w' hp;obtain ⟨x,rfl⟩:=hp.1
   have HP:=Lib.hid hp.2
   clear hp
   go_wp2_with fail
   go_end0
   exact ⟨rfl,HP.out⟩
set_option maxRecDepth 100000 in
theorem gR(M:Mv)(t:Int)(W:World)(h:za W M)(hc:M.ck<=1000000)(hw:M.wm<=999999):
  Calls Tryz.prog 67 #[.pointer (some ⟨M.m,0,none⟩), .int .i64 t] W (SX M (fun _=>M.Ha t) W):=by
 have hd:W.cell? ⟨M.m,0,none⟩=some (.pointer (some ⟨M.d,0,none⟩)):=(Uc h.row).1
 obtain ⟨E,hE⟩:∃E,E=Bb M.nt t:=⟨_,rfl⟩;have HF:=Lib.hid (OJ M t W h hw);unfold Rq at HF;rw [<-hE]at HF;have HX:Hid (∀W1,(E≠0/\Ge M M W W1\/E=0/\Ge M (M.fenced t) W W1)->Calls Tryz.prog 170 #[.pointer (some ⟨M.m,0,none⟩), .agg (Acc.cells ⟨5,t,0,0,0,false⟩), .int .i64 E] W1 (Ends M (fun _=>M.Ha t) W)):=Lib.hid fun W1 hw=>by
  rcases hw with⟨h1,hi⟩|⟨h1,hi⟩
  . have e0:(E==0)=false:=by simpa using h1
    refine (Yo M ⟨5,t,0,0,0,false⟩ E W1 hi.1 hc).mono ?_
    rintro e w hd;refine ⟨hd.1, .slice none 0 0, ?_⟩;unfold Mv.Ha;rw [if_neg (by rw [<-hE];exact h1)];rw [e0]at hd;exact hi.note hd
  . subst h1;refine (Yo (M.fenced t) ⟨5,t,0,0,0,false⟩ 0 W1 hi.1 hc).mono ?_
    rintro e w hd;refine ⟨hd.1, .slice none 0 0, ?_⟩;unfold Mv.Ha;rw [if_pos hE.symm];exact hi.note hd
 simp only [Acc.cells]at HX;clear h hE;generalize Mv.Ha M t=N at*
 go_enter Tryz.func67,Tryz.ntmps67
 go_wp2_with fail
 with_reducible refine HF.out.mono ?_
 rintro e w ⟨rfl,hw⟩;have HC:=Lib.hid (HX.out w hw);clear hw HX
 go_wp2_with fail
 with_reducible refine HC.out.mono ?_
 rintro e w' hp;obtain ⟨x,rfl⟩:=hp.1
 have HP:=Lib.hid hp.2
 clear hp
 go_wp2_with fail
 go_end0
 exact ⟨rfl,HP.out⟩
end Go.Proofs.YtfnkmolffhfpoaaGreat
namespace Go.Proofs.YtfnkmolffhfpoaaGreat
namespace Sk
open Go.RowKit
theorem kK{f:Nat->Int}(h:∀k,Tc (f k))(i:Nat){v:Int}(hv:Tc v)(k:Nat):Tc (Mc f i v k):=by
 unfold Mc;split
 . exact hv
 . exact h k
theorem Wd.put{A:Rv}(h:Wd A)(a:Int){v:Int}(hv:Tc v):Wd (A.put a v):=by
 unfold Rv.put
 split
 . exact ⟨kK h.seen _ hv,h.kept,h.pass,h.Cm,h.ck,h.tO,h.wm⟩
 . exact ⟨h.seen,h.kept,kK h.pass _ hv,h.Cm,h.ck,h.tO,h.wm⟩
theorem Wd.note{A:Rv}(h:Wd A)(x:Acc)(is:Bool)(hc:A.ck<=1000000):Wd (A.note x is):=
 ⟨h.seen,h.kept,h.pass,by show 0<=A.ck+1;have:=h.Cm;omega,by show A.ck+1<=2000000;omega,h.tO,h.wm⟩
theorem Fw(A:Rv)(a v:Int):(A.put a v).ck=A.ck/\(A.put a v).wm=A.wm/\(A.put a v).wr=A.wr:=by unfold Rv.put;split<;>exact ⟨rfl,rfl,rfl⟩
theorem fx(A:Rv)(x:Acc)(nw:Int)(pu:Bool):(A.Me x nw pu).ck=A.ck+1/\(A.Me x nw pu).wm=A.wm/\(A.Me x nw pu).wr=A.wr:=by
 unfold Rv.Me Rv.note
 split
 . obtain ⟨h1,h2,h3⟩:=Fw A x.pl nw;exact ⟨by show(A.put x.pl nw).ck+1=_;rw [h1],h2,h3⟩
 . exact ⟨rfl,rfl,rfl⟩
theorem Wd.Me{A:Rv}(h:Wd A)(x:Acc){nw:Int}(pu:Bool)(hc:A.ck<=1000000)(hv:Tc nw):Wd (A.Me x nw pu):=by
 unfold Rv.Me
 split
 . exact (h.put _ hv).note _ _ (by rw [(Fw A x.pl nw).1];exact hc)
 . exact h.note _ _ hc
theorem u0:Tc 0:=by unfold Tc;omega
theorem Rs(A:Rv)(t a:Int):(A.Fa t a).ck=A.ck+1/\(A.Fa t a).wm=A.wm/\(A.Fa t a).wr=A.wr:=by unfold Rv.Fa;split<;>exact ⟨rfl,rfl,rfl⟩
theorem lA(A:Rv)(t:Int):(A.Ha t).ck=A.ck+1/\A.wm<=(A.Ha t).wm/\(A.Ha t).wm<=A.wm+1:=by
 unfold Rv.Ha
 split
 . exact ⟨rfl,by show A.wm<=A.wm+1;omega,by show A.wm+1<=A.wm+1;omega⟩
 . exact ⟨rfl,Int.le_refl _,by show A.wm<=A.wm+1;omega⟩
theorem Wd.Fa{A:Rv}(h:Wd A)(t a:Int)(hc:A.ck<=1000000):Wd (A.Fa t a):=by
 unfold Rv.Fa
 split
 . exact Wd.note (A:=A.Bc t (a/8)) ⟨h.seen,h.kept,h.pass,h.Cm,h.ck,h.tO,h.wm⟩ _ _ hc
 . exact h.note _ _ hc
theorem Wd.Ha{A:Rv}(h:Wd A)(t:Int)(hc:A.ck<=1000000)(hw:A.wm<=999999):Wd (A.Ha t):=by
 unfold Rv.Ha
 split
 . refine Wd.note (A:=A.fenced t.toNat) ⟨h.seen,fun k=> ?_,h.pass,h.Cm,h.ck,by show 0<=A.wm+1;have:=h.tO;omega,by show A.wm+1<=2000000;omega⟩ _ _ hc
   show Tc (if k/8<A.n/\A.fl t.toNat (k/8)=true then A.seen k else A.kept k)
   split
   . exact h.seen k
   . exact h.kept k
 . exact h.note _ _ hc
theorem Mb.La{R A:Rv}(h:Mb R A)(a:Int):R.La a=A.La a:=by unfold Rv.La;rw [h.n,h.np,h.seen,h.pass]
theorem Mb.note{R A:Rv}(h:Mb R A)(x:Acc)(is:Bool):Mb (R.note x is) (A.note x is):=
 {h with
  ck:=by show R.ck+1=A.ck+1;rw [h.ck]
  bd:=by show(if is then R.bd else R.bd+1)=(if is then A.bd else A.bd+1);rw [h.bd]
  la:=rfl}
theorem Mb.put{R A:Rv}(h:Mb R A)(a v:Int):Mb (R.put a v) (A.put a v):=by
 unfold Rv.put
 split
 . exact {h with seen:=by show Mc R.seen _ _=Mc A.seen _ _;rw [h.seen]}
 . exact {h with pass:=by show Mc R.pass _ _=Mc A.pass _ _;rw [h.pass]}
theorem Mb.Me{R A:Rv}(h:Mb R A)(x:Acc)(nw:Int)(pu:Bool):Mb (R.Me x nw pu) (A.Me x nw pu):=by
 unfold Rv.Me Rv.res;rw [h.La];refine Mb.note ?_ _ _
 split
 . exact h.put _ _
 . exact h
theorem Mb.Kb{R A:Rv}(h:Mb R A)(t l:Int):R.Kb t l=A.Kb t l:=by unfold Rv.Kb;rw [h.n,h.nt]
theorem Mb.Fa{R A:Rv}(h:Mb R A)(t a:Int):Mb (R.Fa t a) (A.Fa t a):=by
 unfold Rv.Fa;rw [h.Kb]
 split
 . refine Mb.note ?_ _ _
   exact {h with fl:=by show Mc R.fl _ (Mc (R.fl _) _ _)=Mc A.fl _ (Mc (A.fl _) _ _);rw [h.fl]}
 . exact h.note _ _
theorem Mb.fenced{R A:Rv}(h:Mb R A)(t:Nat):Mb (R.fenced t) (A.fenced t):=by
 obtain ⟨m,d,kb,sb,wb,fb,pb,n,nt,np,c0,c1,c2,c3,c4,fg,fc,kept,seen,pass,wr,fl,ck,bd,la,wm⟩:=R;obtain ⟨m',d',kb',sb',wb',fb',pb',n',nt',np',c0',c1',c2',c3',c4',fg',fc',NaD,OaD,PaD,wr',fl',ck',bd',la',wm'⟩:=A;obtain ⟨h1,h2,h3,h4,h5,h6,h7,h8,h9,h10,h11,h12⟩:=h;simp only at h1 h2 h3 h4 h5 h6 h7 h8 h9 h10 h11 h12;subst h1 h2 h3 h4 h5 h6 h7 h8 h9 h10 h11 h12;exact ⟨rfl,rfl,rfl,rfl,rfl,rfl,rfl,rfl,rfl,rfl,rfl,rfl⟩
theorem Mb.Ha{R A:Rv}(h:Mb R A)(t:Int):Mb (R.Ha t) (A.Ha t):=by
 unfold Rv.Ha;rw [h.nt]
 split
 . exact (h.fenced _).note _ _
 . exact h.note _ _
theorem Mb.swap{R A:Rv}(h:Mb R A)(t a o x:Int):Mb (R.swap t a o x) (A.swap t a o x):=by
 unfold Rv.swap;rw [h.La];exact h.Me _ _ _
theorem lK(M:Mv)(x:Acc)(nw:Int)(pu:Bool):(M.Me x nw pu).wr=M.wr/\(M.Me x nw pu).n=M.n:=by
 unfold Mv.Me Mv.note
 split
 . unfold Mv.put;split<;>exact ⟨rfl,rfl⟩
 . exact ⟨rfl,rfl⟩
theorem Ic.Me{M:Mv}{A:Rv}(h:Ic M A)(x:Acc)(nw:Int)(pu:Bool):Ic (M.Me x nw pu) (A.Me x nw pu):=by
 obtain ⟨h1,h2⟩:=lK M x nw pu;obtain ⟨_,h3,h4⟩:=fx A x nw pu;refine ⟨h.ud.Me x nw pu,fun k hk=> ?_, ?_⟩
 . rw [h1,h4];exact h.wr k (by rw [h2]at hk;exact hk)
 . rw [(pn M x nw pu).1,h3];exact h.wm
theorem Ic.swap{M:Mv}{A:Rv}(h:Ic M A)(t a o x:Int):Ic (M.swap t a o x) (A.swap t a o x):=by
 unfold Mv.swap Rv.swap;rw [h.ud.La];exact h.Me _ _ _
theorem Ic.Fa{M:Mv}{A:Rv}(h:Ic M A)(t a:Int)(v:Value):Ic (M.Fa t a v) (A.Fa t a):=by
 have h1:(M.Fa t a v).wr=M.wr/\(M.Fa t a v).n=M.n/\(M.Fa t a v).wm=M.wm:=by unfold Mv.Fa;split<;>exact ⟨rfl,rfl,rfl⟩
 obtain ⟨_,h3,h4⟩:=Rs A t a;refine ⟨h.ud.Fa t a v,fun k hk=> ?_, ?_⟩
 . rw [h1.1,h4];exact h.wr k (by rw [h1.2.1]at hk;exact hk)
 . rw [h1.2.2,h3];exact h.wm
theorem Ic.Ha{M:Mv}{A:Rv}(h:Ic M A)(t:Int):Ic (M.Ha t) (A.Ha t):=by
 refine ⟨h.ud.Ha t, ?_, ?_⟩
 . unfold Mv.Ha Rv.Ha;rw [h.ud.nt]
   split
   . rename_i c;have ht:0<=t/\t<A.nt:=by
      unfold Bb at c;by_cases q:t<0\/(A.nt:Int)<=t
      . rw [if_pos q]at c;omega
      . omega
     obtain ⟨a,rfl⟩:=Int.eq_ofNat_of_zero_le ht.1
     intro k hk;have hk:k<M.n:=hk
     show(if(M.fl a).contains (k:Int)then M.wr k+1 else M.wr k)=if k<A.n/\A.fl a k=true then A.wr k+1 else A.wr k
     have:=h.ud.fl a (by rw [h.ud.nt];omega) k hk;by_cases q:A.fl a k=true
     . rw [if_pos (by simpa using this.1 q),if_pos ⟨by rw [<-h.ud.n];exact hk,q⟩,h.wr k hk]
     . rw [if_neg (fun z=>q (this.2 (by simpa using z))),if_neg (fun z=>q z.2),h.wr k hk]
   . exact fun k hk=>h.wr k hk
 . unfold Mv.Ha Rv.Ha;rw [h.ud.nt];have:=h.wm
   split
   . show M.wm+1<=A.wm+1;omega
   . exact this
theorem Af[Interp]{R:Mp}{σ:AH}{b:Nat}{x:Nat×Nat}(hb:R b=some x)(y:Option qa):Ext R σ R (σ.put b y):=
 ⟨R.le_refl,Nat.le_refl _,fun c _ hc=>⟨by rw [tb,if_neg (fun e=>by rw [e,hb]at hc;cases hc)],hc⟩⟩
theorem uF{F:Nat->Prop}{w w':World}(h:Ba F w w'):Lh F w w':=⟨h.os,h.tape,h.output,h.size,h.block⟩
section
variable{ρ:Nat->Int}{γ:Nat->Gh}
theorem Wl{σ:AH}{p e:Value}(h:rE 9 σ p=some e){B:Nat->Prop}{w0:World}{R:Mp}{w:World}{p':Value}(hS: @Vc (Th.at ρ γ) B w0 R σ w)(hp: @VR (Th.at ρ γ) R p p'):
  ∃b r s A M,Bm p=b/\p'= .pointer (some ⟨r,0,none⟩)/\R b=some (r,s)/\ @den (Th.at ρ γ) e= .g (Gh.mem A)/\za w M/\M.m=r/\Ic M A/\Wd A/\
   ∀w' e' M' A', @den (Th.at ρ γ) e'= .g (Gh.mem A')->za w' M'->M'.m=r->Ic M' A'->Wd A'->(∀k,M'.own k->M.own k\/w.heap.size<=k)->Ba M.own w w'-> @Vc (Th.at ρ γ) B w0 R (σ.put b (some (.gh e'))) w':=by
 letI:Interp:=Th.at ρ γ
 obtain ⟨b,r,s,_,_,rfl,rfl,h1,h2,h3,_,_⟩:=qC h hS hp;obtain ⟨A,hA⟩:=Mu (ρ:=ρ) (γ:=γ) h3;obtain ⟨g0,O0,k1,k2,k3,_,k4⟩:=hS.gat h1 h2;rw [hA]at k1;injection k1 with k1
 subst k1;obtain ⟨M,m1,m2,rfl,m4,m5⟩:=k2;refine ⟨b,r,s,A,M,rfl,rfl,h1,hA,m1,m2,m4,m5,fun w' e' M' A' q1 q2 q3 q4 q5 q6 q7=> ?_⟩;exact k4 w' e' (Gh.mem A') M'.own q1 ⟨M',q2,q3,rfl,q4,q5⟩ q6 (uF q7)
def pN(A A':Rv):Prop:=(A'.ck<=0/\A'.wm<=0)\/(A.ck<=A'.ck/\A'.ck<=A.ck+1/\A.wm<=A'.wm/\A'.wm<=A.wm+1)
theorem yh(A:Rv):pN A tQ:= .inl ⟨Int.le_refl _,Int.le_refl _⟩
theorem gx(A:Rv)(x:Acc)(nw:Int)(pu:Bool):pN A (A.Me x nw pu):=by
 obtain ⟨h1,h2,_⟩:=fx A x nw pu;refine .inr ⟨?_, ?_, ?_, ?_⟩<;>omega
theorem cI(A:Rv)(t a:Int):pN A (A.Fa t a):=by
 obtain ⟨h1,h2,_⟩:=Rs A t a;refine .inr ⟨?_, ?_, ?_, ?_⟩<;>omega
theorem dI(A:Rv)(t:Int):pN A (A.Ha t):=by
 obtain ⟨h1,h2,h3⟩:=lA A t;refine .inr ⟨?_, ?_, ?_, ?_⟩<;>omega
theorem Uk(k:Nat)(hk:k=1\/k=2\/k=3\/k=4\/k=5)(A:Rv)(l:List (Qc Gh)):∃A',Em k (.g (Gh.mem A)::l)= .mem A'/\pN A A':=by
 rcases hk with rfl|rfl|rfl|rfl|rfl
 . match l with
   |[t,a]=>exact ⟨_,rfl,gx A _ _ _⟩
   |[]=>exact ⟨_,rfl,yh A⟩
   |[t]=>exact ⟨_,rfl,yh A⟩
   |t::a::b::l=>exact ⟨_,rfl,yh A⟩
 . match l with
   |[t,a,x]=>exact ⟨_,rfl,gx A _ _ _⟩
   |[]=>exact ⟨_,rfl,yh A⟩
   |[t]=>exact ⟨_,rfl,yh A⟩
   |[t,a]=>exact ⟨_,rfl,yh A⟩
   |t::a::b::c::l=>exact ⟨_,rfl,yh A⟩
 . match l with
   |[t,a,x,y]=>exact ⟨_,rfl,gx A _ _ _⟩
   |[]=>exact ⟨_,rfl,yh A⟩
   |[t]=>exact ⟨_,rfl,yh A⟩
   |[t,a]=>exact ⟨_,rfl,yh A⟩
   |[t,a,x]=>exact ⟨_,rfl,yh A⟩
   |t::a::b::c::d::l=>exact ⟨_,rfl,yh A⟩
 . match l with
   |[t,a]=>exact ⟨_,rfl,cI A _ _⟩
   |[]=>exact ⟨_,rfl,yh A⟩
   |[t]=>exact ⟨_,rfl,yh A⟩
   |t::a::b::l=>exact ⟨_,rfl,yh A⟩
 . match l with
   |[t]=>exact ⟨_,rfl,dI A _⟩
   |[]=>exact ⟨_,rfl,yh A⟩
   |t::a::l=>exact ⟨_,rfl,yh A⟩
theorem sC:∀(d:Nat) (e:Value) (n:Nat) (r:Value),deep d e=some (n,r)->n<d/\∃A, @den (Th.at ρ γ) e= .g (Gh.mem A)/\((A.ck<=n/\A.wm<=n)\/∃A0, @den (Th.at ρ γ) r= .g (Gh.mem A0)/\A0.ck<=A.ck/\A.ck<=A0.ck+n/\A0.wm<=A.wm/\A.wm<=A0.wm+n)
 |0,e,n,r,h=>by simp [deep]at h
 |d+1,e,n,r,h=>by
  letI:Interp:=Th.at ρ γ
  simp only [deep]at h
  split at h
  . rename_i t s l c
    split at h
    . rename_i ht;rw [Na]at ht;have ht:=of_decide_eq_true ht;subst ht;cases h;obtain ⟨A,hA⟩:=Mu (ρ:=ρ) (γ:=γ) (e:= .func (.methodOf 9 s) ⟨l⟩ c) rfl;exact ⟨by omega,A,hA, .inr ⟨A,hA,Int.le_refl _,by simp,Int.le_refl _,by simp⟩⟩
    . split at h
      . rename_i x l ht
        split at h
        . rename_i m r' hx;cases h;obtain ⟨h1,Ax,h2,h3⟩:=sC d x m r hx;have tag:t=25\/t=41\/t=57\/t=73\/t=89:=by
           simp only [rl,Bool.or_eq_true,Na,decide_eq_true_eq]at ht;exact ht
          have key:∃A', @den (Th.at ρ γ) (.func (.methodOf t s) ⟨x::l⟩ c)= .g (Gh.mem A')/\pN Ax A':=by
           rcases tag with rfl|rfl|rfl|rfl|rfl
           . obtain ⟨A',q1,q2⟩:=Uk 1 (by omega) Ax (Tb l);refine ⟨A', ?_,q2⟩;have e: @den (Th.at ρ γ) (.func (.methodOf 25 s) ⟨x::l⟩ c)=(Qc.g (Gh.mem (Em 1 (@den (Th.at ρ γ) x:: @Tb (Th.at ρ γ) l)).A):Qc Gh):=rfl;rw [h2]at e;exact e.trans (congrArg (fun g:Gh=>(Qc.g (Gh.mem g.A):Qc Gh)) q1)
           . obtain ⟨A',q1,q2⟩:=Uk 2 (by omega) Ax (Tb l);refine ⟨A', ?_,q2⟩;have e: @den (Th.at ρ γ) (.func (.methodOf 41 s) ⟨x::l⟩ c)=(Qc.g (Gh.mem (Em 2 (@den (Th.at ρ γ) x:: @Tb (Th.at ρ γ) l)).A):Qc Gh):=rfl;rw [h2]at e;exact e.trans (congrArg (fun g:Gh=>(Qc.g (Gh.mem g.A):Qc Gh)) q1)
           . obtain ⟨A',q1,q2⟩:=Uk 3 (by omega) Ax (Tb l);refine ⟨A', ?_,q2⟩;have e: @den (Th.at ρ γ) (.func (.methodOf 57 s) ⟨x::l⟩ c)=(Qc.g (Gh.mem (Em 3 (@den (Th.at ρ γ) x:: @Tb (Th.at ρ γ) l)).A):Qc Gh):=rfl;rw [h2]at e;exact e.trans (congrArg (fun g:Gh=>(Qc.g (Gh.mem g.A):Qc Gh)) q1)
           . obtain ⟨A',q1,q2⟩:=Uk 4 (by omega) Ax (Tb l);refine ⟨A', ?_,q2⟩;have e: @den (Th.at ρ γ) (.func (.methodOf 73 s) ⟨x::l⟩ c)=(Qc.g (Gh.mem (Em 4 (@den (Th.at ρ γ) x:: @Tb (Th.at ρ γ) l)).A):Qc Gh):=rfl;rw [h2]at e;exact e.trans (congrArg (fun g:Gh=>(Qc.g (Gh.mem g.A):Qc Gh)) q1)
           . obtain ⟨A',q1,q2⟩:=Uk 5 (by omega) Ax (Tb l);refine ⟨A', ?_,q2⟩;have e: @den (Th.at ρ γ) (.func (.methodOf 89 s) ⟨x::l⟩ c)=(Qc.g (Gh.mem (Em 5 (@den (Th.at ρ γ) x:: @Tb (Th.at ρ γ) l)).A):Qc Gh):=rfl;rw [h2]at e;exact e.trans (congrArg (fun g:Gh=>(Qc.g (Gh.mem g.A):Qc Gh)) q1)
          obtain ⟨A',k1,k2⟩:=key;refine ⟨by show m+1<d+1;omega,A',k1, ?_⟩;have em:((m.succ:Nat):Int)=(m:Int)+1:=rfl;rw [em];rcases k2 with⟨a1,a2⟩|⟨a1,a2,a3,a4⟩
          . exact .inl ⟨by omega,by omega⟩
          . rcases h3 with⟨b1,b2⟩|⟨A0,b0,b1,b2,b3,b4⟩
            . exact .inl ⟨by omega,by omega⟩
            . exact .inr ⟨A0,b0,by omega,by omega,by omega,by omega⟩
        . cases h
      . cases h
  . cases h
theorem Ei{F:List (Value×Value)}(hF:∀p,p∈F-> @den (Th.at ρ γ) p.1= @den (Th.at ρ γ) p.2){e:Value}(h:Ml F e=true){A:Rv}(hA: @den (Th.at ρ γ) e= .g (Gh.mem A))(hw:Wd A):A.ck<=999100/\A.wm<=999100:=by
 letI:Interp:=Th.at ρ γ
 unfold Ml at h
 split at h
 . rename_i n r hd
   split at h
   . rename_i k1 k2;obtain ⟨h1,A',h2,h3⟩:=sC (ρ:=ρ) (γ:=γ) 30 e n r hd;rw [hA]at h2;injection h2 with h2
     injection h2 with h2
     subst h2;rcases h3 with⟨b1,b2⟩|⟨A0,b0,b1,b2,b3,b4⟩
     . omega
     . have d1:=Ye hF k1;have d2:=Ye hF k2;rw [ZJ (dCk b0) (yb 999000)]at d1;rw [ZJ (dWm b0) (yb 999000)]at d2;injection d1 with d1
       injection d1 with d1
       injection d2 with d2
       injection d2 with d2
       have d1:=of_decide_eq_true d1;have d2:=of_decide_eq_true d2;have c0:=hw.Cm;have c1:=hw.ck;have c2:=hw.tO;have c3:=hw.wm;rw [IntKind.wrap_i64]at d1 d2;omega
   . cases h
 . cases h
end
theorem iR{A:Rv}(h:Wd A)(a:Int):Tc (A.La a).1:=by
 unfold Rv.La te
 split
 . split
   . exact h.seen _
   . exact u0
 . split
   . exact h.pass _
   . exact u0
section
variable{ρ:Nat->Int}{γ:Nat->Gh}
theorem TX{e a:Value}{A:Rv}{n:Int}(hw:Wd A)(he: @den (Th.at ρ γ) e= .g (Gh.mem A))(ha: @den (Th.at ρ γ) a= .v (.int .i64 n)): @den (Th.at ρ γ) (sy Ft [e,a])= .v (.int .u64 (A.La n).1):=by
 letI:Interp:=Th.at ρ γ
 haveI:Lc:=Da ρ γ
 have:= @eh (Th.at ρ γ) 90 7 (by decide) (by decide) [e,a];rw [zU]at this;have e2: @Tb (Th.at ρ γ) [e,a]=[.g (Gh.mem A), .v (.int .i64 n)]:=by
  show[@den (Th.at ρ γ) e, @den (Th.at ρ γ) a]=_
  rw [he,ha]
 rw [e2]at this;refine this.trans ?_
 show Qc.v (Value.int .u64 (IntKind.u64.wrap (A.La n).1))=_
 rw [xd (iR hw n)]
theorem jaa{e a o:Value}{A:Rv}{n m:Int}(he: @den (Th.at ρ γ) e= .g (Gh.mem A))(ha: @den (Th.at ρ γ) a= .v (.int .i64 n))(ho: @den (Th.at ρ γ) o= .v (.int .u64 m)): @den (Th.at ρ γ) (sy Gt [e,a,o])= .v (.bool ((A.La n).2&&(A.La n).1==m)):=by
 letI:Interp:=Th.at ρ γ
 have:= @eh (Th.at ρ γ) 91 8 (by decide) (by decide) [e,a,o];rw [jd]at this;have e2: @Tb (Th.at ρ γ) [e,a,o]=[.g (Gh.mem A), .v (.int .i64 n), .v (.int .u64 m)]:=by
  show[@den (Th.at ρ γ) e, @den (Th.at ρ γ) a, @den (Th.at ρ γ) o]=_
  rw [he,ha,ho]
 rw [e2]at this;refine this.trans ?_
 show Qc.v (Value.bool (decide (bN ((A.La n).2&&(A.La n).1==m)≠0)))=_
 cases ((A.La n).2&&(A.La n).1==m)<;>rfl
theorem dIs{e a:Value}{A:Rv}{n:Int}(he: @den (Th.at ρ γ) e= .g (Gh.mem A))(ha: @den (Th.at ρ γ) a= .v (.int .i64 n)): @den (Th.at ρ γ) (sy tIs [e,a])= .v (.bool (A.La n).2):=by
 letI:Interp:=Th.at ρ γ
 have:= @eh (Th.at ρ γ) 95 8 (by decide) (by decide) [e,a];rw [jd]at this;have e2: @Tb (Th.at ρ γ) [e,a]=[.g (Gh.mem A), .v (.int .i64 n)]:=by
  show[@den (Th.at ρ γ) e, @den (Th.at ρ γ) a]=_
  rw [he,ha]
 rw [e2]at this;refine this.trans ?_
 show Qc.v (Value.bool (decide (bN (A.La n).2≠0)))=_
 cases (A.La n).2<;>rfl
theorem Nax{e t a:Value}{A:Rv}{k n:Int}(he: @den (Th.at ρ γ) e= .g (Gh.mem A))(ht: @den (Th.at ρ γ) t= .v (.int .i64 k))(ha: @den (Th.at ρ γ) a= .v (.int .i64 n)): @den (Th.at ρ γ) (sy kV [e,t,a])= .v (.bool (A.Fa k n).la.dn):=by
 letI:Interp:=Th.at ρ γ
 have:= @eh (Th.at ρ γ) 97 8 (by decide) (by decide) [e,t,a];rw [jd]at this;have e2: @Tb (Th.at ρ γ) [e,t,a]=[.g (Gh.mem A), .v (.int .i64 k), .v (.int .i64 n)]:=by
  show[@den (Th.at ρ γ) e, @den (Th.at ρ γ) t, @den (Th.at ρ γ) a]=_
  rw [he,ht,ha]
 rw [e2]at this;refine this.trans ?_
 show Qc.v (Value.bool (decide (bN (A.Fa k n).la.dn≠0)))=_
 cases (A.Fa k n).la.dn<;>rfl
theorem Oax{e t:Value}{A:Rv}{k:Int}(he: @den (Th.at ρ γ) e= .g (Gh.mem A))(ht: @den (Th.at ρ γ) t= .v (.int .i64 k)): @den (Th.at ρ γ) (sy lV [e,t])= .v (.bool (A.Ha k).la.dn):=by
 letI:Interp:=Th.at ρ γ
 have:= @eh (Th.at ρ γ) 98 8 (by decide) (by decide) [e,t];rw [jd]at this;have e2: @Tb (Th.at ρ γ) [e,t]=[.g (Gh.mem A), .v (.int .i64 k)]:=by
  show[@den (Th.at ρ γ) e, @den (Th.at ρ γ) t]=_
  rw [he,ht]
 rw [e2]at this;refine this.trans ?_
 show Qc.v (Value.bool (decide (bN (A.Ha k).la.dn≠0)))=_
 cases (A.Ha k).la.dn<;>rfl
theorem gW{A:Rv}{M:Mv}{w:World}(h:za w M)(hl:Ic M A)(hw:Wd A)(a:Int):0<=Rk A a/\Rk A a<=2000000:=by
 unfold Rk
 split
 . rename_i c;have hn:=hl.ud.n;have:=h.Oz (a/8).toNat (by omega)
   rw [hl.wr _ (by omega)]at this;have:=hl.wm;have:=hw.wm;omega
 . omega
theorem dWr{e a:Value}{A:Rv}{n:Int}(hb:0<=Rk A n/\Rk A n<=2000000)(he: @den (Th.at ρ γ) e= .g (Gh.mem A))(ha: @den (Th.at ρ γ) a= .v (.int .i64 n)): @den (Th.at ρ γ) (sy N7 [e,a])= .v (.int .i64 (Rk A n)):=by
 letI:Interp:=Th.at ρ γ
 have:= @eh (Th.at ρ γ) 93 3 (by decide) (by decide) [e,a];rw [YJ]at this;have e2: @Tb (Th.at ρ γ) [e,a]=[.g (Gh.mem A), .v (.int .i64 n)]:=by
  show[@den (Th.at ρ γ) e, @den (Th.at ρ γ) a]=_
  rw [he,ha]
 rw [e2]at this;refine this.trans ?_
 show Qc.v (Value.int .i64 (IntKind.i64.wrap (Rk A n)))=_
 rw [IntKind.wrap_i64]
 congr 2
 omega
theorem gLd{e t a:Value}{A:Rv}{k n:Int}(he: @den (Th.at ρ γ) e= .g (Gh.mem A))(ht: @den (Th.at ρ γ) t= .v (.int .i64 k))(ha: @den (Th.at ρ γ) a= .v (.int .i64 n)): @den (Th.at ρ γ) (sy oE [e,t,a])= .g (Gh.mem (A.load k n)):=by
 have e1: @den (Th.at ρ γ) (sy oE [e,t,a])=(Qc.g (tu 9 (Em 1 [@den (Th.at ρ γ) e, @den (Th.at ρ γ) t, @den (Th.at ρ γ) a])):Qc Gh):=rfl;rw [he,ht,ha]at e1;exact e1
theorem gSt{e t a x:Value}{A:Rv}{k n m:Int}(he: @den (Th.at ρ γ) e= .g (Gh.mem A))(ht: @den (Th.at ρ γ) t= .v (.int .i64 k))(ha: @den (Th.at ρ γ) a= .v (.int .i64 n))(hx: @den (Th.at ρ γ) x= .v (.int .u64 m)): @den (Th.at ρ γ) (sy qw [e,t,a,x])= .g (Gh.mem (A.store k n m)):=by
 have e1: @den (Th.at ρ γ) (sy qw [e,t,a,x])=(Qc.g (tu 9 (Em 2 [@den (Th.at ρ γ) e, @den (Th.at ρ γ) t, @den (Th.at ρ γ) a, @den (Th.at ρ γ) x])):Qc Gh):=rfl;rw [he,ht,ha,hx]at e1;exact e1
theorem gSw{e t a o x:Value}{A:Rv}{k n l m:Int}(he: @den (Th.at ρ γ) e= .g (Gh.mem A))(ht: @den (Th.at ρ γ) t= .v (.int .i64 k))(ha: @den (Th.at ρ γ) a= .v (.int .i64 n))(ho: @den (Th.at ρ γ) o= .v (.int .u64 l))(hx: @den (Th.at ρ γ) x= .v (.int .u64 m)): @den (Th.at ρ γ) (sy cm [e,t,a,o,x])= .g (Gh.mem (A.swap k n l m)):=by
 have e1: @den (Th.at ρ γ) (sy cm [e,t,a,o,x])=(Qc.g (tu 9 (Em 3 [@den (Th.at ρ γ) e, @den (Th.at ρ γ) t, @den (Th.at ρ γ) a, @den (Th.at ρ γ) o, @den (Th.at ρ γ) x])):Qc Gh):=rfl;rw [he,ht,ha,ho,hx]at e1;exact e1
theorem gFl{e t a:Value}{A:Rv}{k n:Int}(he: @den (Th.at ρ γ) e= .g (Gh.mem A))(ht: @den (Th.at ρ γ) t= .v (.int .i64 k))(ha: @den (Th.at ρ γ) a= .v (.int .i64 n)): @den (Th.at ρ γ) (sy tw [e,t,a])= .g (Gh.mem (A.Fa k n)):=by
 have e1: @den (Th.at ρ γ) (sy tw [e,t,a])=(Qc.g (tu 9 (Em 4 [@den (Th.at ρ γ) e, @den (Th.at ρ γ) t, @den (Th.at ρ γ) a])):Qc Gh):=rfl;rw [he,ht,ha]at e1;exact e1
theorem gFe{e t:Value}{A:Rv}{k:Int}(he: @den (Th.at ρ γ) e= .g (Gh.mem A))(ht: @den (Th.at ρ γ) t= .v (.int .i64 k)): @den (Th.at ρ γ) (sy uw [e,t])= .g (Gh.mem (A.Ha k)):=by
 have e1: @den (Th.at ρ γ) (sy uw [e,t])=(Qc.g (tu 9 (Em 5 [@den (Th.at ρ γ) e, @den (Th.at ρ γ) t])):Qc Gh):=rfl;rw [he,ht]at e1;exact e1
variable{F:List (Value×Value)}(hF:∀p,p∈F-> @den (Th.at ρ γ) p.1= @den (Th.at ρ γ) p.2)
include hF
theorem jR: @SH (Th.at ρ γ) Tryz.prog F zJ 64:=by
 letI:Interp:=Th.at ρ γ
 haveI:Lc:=Da ρ γ
 intro args σ v σ' hg B w0 R w args' hS hl;unfold zJ at hg
 split at hg
 . rename_i p t a
   split at hg
   . rename_i e he ht ha
     split at hg
     . rename_i hf;rw [ic]at hg;cases hg;obtain ⟨p',l',rfl,hp,hl⟩:=hl.Ea;obtain ⟨t',l',rfl,dm,hl⟩:=hl.Ea;obtain ⟨a',l',rfl,tF,hl⟩:=hl.Ea;cases hl.Fc;obtain ⟨b,r,s,A,M,rfl,rfl,k1,k2,k3,rfl,k5,k6,k7⟩:=Wl he hS hp;obtain ⟨tn,rfl,dt,t0,t1⟩:=Ve dm ht;obtain ⟨an,rfl,da,a0,a1⟩:=Ve tF ha;obtain ⟨c1,c2⟩:=Ei hF hf k2 k6;have Mf:M.ck<=1000000:=by rw [k5.ud.ck];omega
       obtain ⟨⟨q,q1⟩,q2⟩:=tf hF [e,a] (t:=Ft) (by decide);have hc:=SP M tn an a0 a1 w k3 Mf;rw [k5.ud.La]at hc;refine hc.mono ?_
       rintro x w' ⟨rfl,m1,m2⟩;refine ⟨R,_,rfl,Af k1 _,Yc R q1 (q2.trans (TX k6 k2 da)), ?_⟩
       . exact k7 w' _ (M.load tn an) (A.load tn an) (gLd k2 dt da) m1 (pn M _ _ _).2.1 (k5.Me _ _ _) (k6.Me _ _ (by omega) u0) (fun k hk=> .inl (by unfold Mv.load at hk;rw [Mv.bj]at hk;exact hk)) m2
     . cases hg
   . cases hg
 . cases hg
theorem qN: @SH (Th.at ρ γ) Tryz.prog F NB 46:=by
 letI:Interp:=Th.at ρ γ
 haveI:Lc:=Da ρ γ
 intro args σ v σ' hg B w0 R w args' hS hl;unfold NB at hg
 split at hg
 . rename_i p t a x
   split at hg
   . rename_i e he ht ha hx
     split at hg
     . rename_i hf;rw [ic]at hg;cases hg;obtain ⟨p',l',rfl,hp,hl⟩:=hl.Ea;obtain ⟨t',l',rfl,dm,hl⟩:=hl.Ea;obtain ⟨a',l',rfl,tF,hl⟩:=hl.Ea;obtain ⟨x',l',rfl,BM,hl⟩:=hl.Ea;cases hl.Fc;obtain ⟨b,r,s,A,M,rfl,rfl,k1,k2,k3,rfl,k5,k6,k7⟩:=Wl he hS hp;obtain ⟨tn,rfl,dt,t0,t1⟩:=Ve dm ht;obtain ⟨an,rfl,da,a0,a1⟩:=Ve tF ha;obtain ⟨xn,rfl,dx,xu⟩:=Pt BM hx;obtain ⟨c1,c2⟩:=Ei hF hf k2 k6;have Mf:M.ck<=1000000:=by rw [k5.ud.ck];omega
       have Ss:M.wm<=999999:=Int.le_trans k5.wm (by omega);refine (dR M tn an xn a0 a1 w k3 Mf).mono ?_
       rintro x w' ⟨rfl,m1,m2⟩;refine ⟨R,_,rfl,Af k1 _,me R, ?_⟩;exact k7 w' _ (M.store tn an xn) (A.store tn an xn) (gSt k2 dt da dx) m1 (pn M _ _ _).2.1 (k5.Me _ _ _) (k6.Me _ _ (by omega) xu) (fun k hk=> .inl (by unfold Mv.store at hk;rw [Mv.bj]at hk;exact hk)) m2
     . cases hg
   . cases hg
 . cases hg
theorem kR: @SH (Th.at ρ γ) Tryz.prog F AJ 65:=by
 letI:Interp:=Th.at ρ γ
 haveI:Lc:=Da ρ γ
 intro args σ v σ' hg B w0 R w args' hS hl;unfold AJ at hg
 split at hg
 . rename_i p t a o x
   split at hg
   . rename_i e he ht ha ho hx
     split at hg
     . rename_i hf;rw [ic]at hg;cases hg;obtain ⟨p',l',rfl,hp,hl⟩:=hl.Ea;obtain ⟨t',l',rfl,dm,hl⟩:=hl.Ea;obtain ⟨a',l',rfl,tF,hl⟩:=hl.Ea;obtain ⟨o',l',rfl,jM,hl⟩:=hl.Ea;obtain ⟨x',l',rfl,BM,hl⟩:=hl.Ea;cases hl.Fc;obtain ⟨b,r,s,A,M,rfl,rfl,k1,k2,k3,rfl,k5,k6,k7⟩:=Wl he hS hp;obtain ⟨tn,rfl,dt,t0,t1⟩:=Ve dm ht;obtain ⟨an,rfl,da,a0,a1⟩:=Ve tF ha;obtain ⟨on,rfl,do',ou⟩:=Pt jM ho;obtain ⟨xn,rfl,dx,xu⟩:=Pt BM hx;obtain ⟨c1,c2⟩:=Ei hF hf k2 k6;have Mf:M.ck<=1000000:=by rw [k5.ud.ck];omega
       have Ss:M.wm<=999999:=Int.le_trans k5.wm (by omega);obtain ⟨⟨q,q1⟩,q2⟩:=tf hF [e,a,o] (t:=Gt) (by decide);have oX:(M.swap tn an on xn).la.dn=((A.La an).2&&(A.La an).1==on):=by
        show(M.res ⟨3,tn,an,0,xn,false⟩ ((M.La an).1==on)).dn=_
        unfold Mv.res;rw [k5.ud.La];cases (A.La an).2<;>simp
       have hc:=TP M tn an on xn a0 a1 w k3 Mf;rw [oX]at hc;refine hc.mono ?_
       rintro x w' ⟨rfl,m1,m2⟩;refine ⟨R,_,rfl,Af k1 _,Yc R q1 (q2.trans (jaa k2 da do')), ?_⟩;exact k7 w' _ (M.swap tn an on xn) (A.swap tn an on xn) (gSw k2 dt da do' dx) m1 (pn M _ _ _).2.1 (k5.swap _ _ _ _) (k6.Me _ _ (by omega) xu) (fun k hk=> .inl (by unfold Mv.swap at hk;rw [Mv.bj]at hk;exact hk)) m2
     . cases hg
   . cases hg
 . cases hg
theorem rN: @SH (Th.at ρ γ) Tryz.prog F OB 66:=by
 letI:Interp:=Th.at ρ γ
 haveI:Lc:=Da ρ γ
 intro args σ v σ' hg B w0 R w args' hS hl;unfold OB at hg
 split at hg
 . rename_i p t a
   split at hg
   . rename_i e he ht ha
     split at hg
     . rename_i hf;rw [ic]at hg;cases hg;obtain ⟨p',l',rfl,hp,hl⟩:=hl.Ea;obtain ⟨t',l',rfl,dm,hl⟩:=hl.Ea;obtain ⟨a',l',rfl,tF,hl⟩:=hl.Ea;cases hl.Fc;obtain ⟨b,r,s,A,M,rfl,rfl,k1,k2,k3,rfl,k5,k6,k7⟩:=Wl he hS hp;obtain ⟨tn,rfl,dt,t0,t1⟩:=Ve dm ht;obtain ⟨an,rfl,da,a0,a1⟩:=Ve tF ha;obtain ⟨c1,c2⟩:=Ei hF hf k2 k6;have Mf:M.ck<=1000000:=by rw [k5.ud.ck];omega
       have Ss:M.wm<=999999:=Int.le_trans k5.wm (by omega);refine (eR M tn an a1 w k3 Mf).mono ?_
       rintro x w' ⟨rfl,v',m1,m2,m3⟩;refine ⟨R,_,rfl,Af k1 _,me R, ?_⟩;refine k7 w' _ (M.Fa tn an v') (A.Fa tn an) (gFl k2 dt da) m1 ?_ (k5.Fa _ _ _) (k6.Fa _ _ (by omega)) m3 m2
       unfold Mv.Fa;split<;>rfl
     . cases hg
   . cases hg
 . cases hg
theorem sN: @SH (Th.at ρ γ) Tryz.prog F PB 67:=by
 letI:Interp:=Th.at ρ γ
 haveI:Lc:=Da ρ γ
 intro args σ v σ' hg B w0 R w args' hS hl;unfold PB at hg
 split at hg
 . rename_i p t
   split at hg
   . rename_i e he ht
     split at hg
     . rename_i hf;rw [ic]at hg;cases hg;obtain ⟨p',l',rfl,hp,hl⟩:=hl.Ea;obtain ⟨t',l',rfl,dm,hl⟩:=hl.Ea;cases hl.Fc;obtain ⟨b,r,s,A,M,rfl,rfl,k1,k2,k3,rfl,k5,k6,k7⟩:=Wl he hS hp;obtain ⟨tn,rfl,dt,t0,t1⟩:=Ve dm ht;obtain ⟨c1,c2⟩:=Ei hF hf k2 k6;have Mf:M.ck<=1000000:=by rw [k5.ud.ck];omega
       have Ss:M.wm<=999999:=Int.le_trans k5.wm (by omega);refine (gR M tn w k3 Mf Ss).mono ?_
       rintro x w' ⟨rfl,v',m1,m2,m3⟩;refine ⟨R,_,rfl,Af k1 _,me R, ?_⟩;refine k7 w' _ (M.Ha tn) (A.Ha tn) (gFe k2 dt) m1 ?_ (k5.Ha _) (k6.Ha _ (by omega) (by omega)) m3 m2
       unfold Mv.Ha;split<;>rfl
     . cases hg
   . cases hg
 . cases hg
theorem tN: @SH (Th.at ρ γ) Tryz.prog F QB 72:=by
 letI:Interp:=Th.at ρ γ
 haveI:Lc:=Da ρ γ
 intro args σ v σ' hg B w0 R w args' hS hl;unfold QB at hg
 split at hg
 . rename_i p
   split at hg
   . rename_i e he;cases hg;obtain ⟨p',l',rfl,hp,hl⟩:=hl.Ea;cases hl.Fc;obtain ⟨b,r,s,A,M,rfl,rfl,k1,k2,k3,rfl,k5,k6,k7⟩:=Wl he hS hp;obtain ⟨⟨q,q1⟩,q2⟩:=tf hF [e] (t:=rM) (by decide);refine vh hS (Yc R q1 (q2.trans (dCk k2))) (Va ?_);have c0:=k6.Cm;have c1:=k6.ck;have:IntKind.i64.wrap A.ck=M.ck:=by rw [k5.ud.ck,IntKind.wrap_i64];omega
     rw [this];exact DJ M.m M.ck w (Uc k3.row).2.2.1
   . cases hg
 . cases hg
end
end Sk
end Go.Proofs.YtfnkmolffhfpoaaGreat
namespace Go.Proofs.YtfnkmolffhfpoaaGreat
open Go.RowKit Go.BigFrame
theorem tC(M:Mv)(l:Int)(hl:l<0\/(M.n:Int)<=l)(W:World)(h:za W M):Calls Tryz.prog 291 #[.pointer (some ⟨M.d,0,none⟩), .int .i64 l] W (Cc (.int .i64 0) W):=by
 have HL:=Lib.hid (Fs M.d (some ⟨M.sb,0,none⟩) M.n M.c1 l W (by rw [Oa h.dev];rfl));rw [rh,if_pos hl]at HL;clear h hl
 go_enter Tryz.func291,Tryz.ntmps291
 go_wp2_with fail
 refine HL.out.mono ?_
 rintro e w ⟨rfl,rfl⟩
 go_wp2_with fail
 go_ret
 exact ⟨rfl,rfl⟩
set_option maxRecDepth 100000 in
theorem Sy(M:Mv)(k:Nat)(hk:k<M.n)(W:World)(h:za W M):Calls Tryz.prog 291 #[.pointer (some ⟨M.d,0,none⟩), .int .i64 (k:Int)] W (Cc (.int .i64 (M.wr k)) W):=by
 have HL:=Lib.hid (Fs M.d (some ⟨M.sb,0,none⟩) M.n M.c1 (k:Int) W (by rw [Oa h.dev];rfl));rw [rh,if_neg (by omega)]at HL;have y2:W.cell? ⟨M.d,2,none⟩=some (.slice (some ⟨M.wb,0,none⟩) M.n M.c2):=by rw [Oa h.dev];rfl
 have hc:=h.wr.cell hk;have n1:=h.n1;clear h;generalize M.wr k=v at*;generalize M.n=n at*;have f1:(k:Int)<(n:Int):=by omega
 have f2:decide ((k:Int)<(n:Int))=true:=ea f1
 go_enter Tryz.func291,Tryz.ntmps291
 go_wp2_with fail
 refine HL.out.mono ?_
 rintro e w ⟨rfl,rfl⟩
 go_wp2_with fail
 go_ret
 exact ⟨rfl,rfl⟩
set_option maxRecDepth 100000 in
theorem Ty(m:Nat)(a:Int)(ha:a<0)(W:World):Calls Tryz.prog 237 #[.pointer (some ⟨m,0,none⟩), .int .i64 a] W (Cc (.int .i64 0) W):=by
 have d0:decide (a<0)=true:=ea ha
 go_enter Tryz.func237,Tryz.ntmps237
 go_wp2_with fail
 go_ret
 exact ⟨rfl,rfl⟩
set_option maxRecDepth 100000 in
theorem kr(M:Mv)(a v:Int)(ha:0<=a)(q1:a<=9223372036854775807)(W:World)(h:za W M)(hc:Calls Tryz.prog 291 #[.pointer (some ⟨M.d,0,none⟩), .int .i64 (a/8)] W (Cc (.int .i64 v) W)):Calls Tryz.prog 237 #[.pointer (some ⟨M.m,0,none⟩), .int .i64 a] W (Cc (.int .i64 v) W):=by
 have d0:decide (a<0)=false:=ta (by omega);have e8:a.tdiv 8=a/8:=Int.tdiv_eq_ediv_of_nonneg ha;have hd:W.cell? ⟨M.m,0,none⟩=some (.pointer (some ⟨M.d,0,none⟩)):=(Uc h.row).1
 have HC:=Lib.hid hc;clear h hc
 go_enter Tryz.func237,Tryz.ntmps237
 go_wp2_with fail
 refine HC.out.mono ?_
 rintro e w ⟨rfl,rfl⟩
 go_wp2_with fail
 go_ret
 exact ⟨rfl,rfl⟩
theorem eI(M:Mv)(a:Int)(q1:a<=9223372036854775807)(W:World)(h:za W M):Calls Tryz.prog 237 #[.pointer (some ⟨M.m,0,none⟩), .int .i64 a] W (Cc (.int .i64 (if 0<=a/\a/8<(M.n:Int)then M.wr (a/8).toNat else 0)) W):=by
 by_cases h0:0<=a
 . by_cases h1:a/8<(M.n:Int)
   . rw [if_pos ⟨h0,h1⟩];have:=Sy M (a/8).toNat (by omega) W h
     rw [show(((a/8).toNat:Nat):Int)=a/8 by omega]at this;exact kr M a _ h0 q1 W h this
   . rw [if_neg (fun q=>h1 q.2)];exact kr M a _ h0 q1 W h (tC M (a/8) (by omega) W h)
 . rw [if_neg (fun q=>h0 q.1)];exact Ty M.m a (by omega) W
end Go.Proofs.YtfnkmolffhfpoaaGreat
namespace Go.Proofs.YtfnkmolffhfpoaaGreat
namespace Sk
section
variable{ρ:Nat->Int}{γ:Nat->Gh}{F:List (Value×Value)}(hF:∀p,p∈F-> @den (Th.at ρ γ) p.1= @den (Th.at ρ γ) p.2)
include hF
theorem fI: @SH (Th.at ρ γ) Tryz.prog F Eu 237:=by
 letI:Interp:=Th.at ρ γ
 haveI:Lc:=Da ρ γ
 intro args σ v σ' hg B w0 R w args' hS hl;unfold Eu at hg
 split at hg
 . rename_i p a
   split at hg
   . rename_i e he ha;cases hg;obtain ⟨p',l',rfl,hp,hl⟩:=hl.Ea;obtain ⟨a',l',rfl,tF,hl⟩:=hl.Ea;cases hl.Fc;obtain ⟨b,r,s,A,M,rfl,rfl,k1,k2,k3,rfl,k5,k6,k7⟩:=Wl he hS hp;obtain ⟨an,rfl,da,a0,a1⟩:=Ve tF ha;obtain ⟨⟨q,q1⟩,q2⟩:=tf hF [e,a] (t:=N7) (by decide);refine vh hS (Yc R q1 (q2.trans (dWr (gW k3 k5 k6 an) k2 da))) (Va ?_);have:Rk A an=if 0<=an/\an/8<(M.n:Int)then M.wr (an/8).toNat else 0:=by
      unfold Rk;rw [k5.ud.n];by_cases q:0<=an/\an/8<(A.n:Int)
      . rw [if_pos q,if_pos q,k5.wr _ (by rw [k5.ud.n];omega)]
      . rw [if_neg q,if_neg q]
     rw [this];exact eI M an a1 w k3
   . cases hg
 . cases hg
end
end Sk
end Go.Proofs.YtfnkmolffhfpoaaGreat
