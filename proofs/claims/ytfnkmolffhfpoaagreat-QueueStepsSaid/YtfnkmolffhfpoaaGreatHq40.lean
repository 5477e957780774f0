/- -/
import Derived.Test.YtfnkmolffhfpoaaGreatHq39
import Derived.Test.YtfnkmolffhfpoaaGreatHq38
import Derived.Test.YtfnkmolffhfpoaaGreatHq31
set_option linter.unusedVariables false
set_option linter.unusedSimpArgs false
set_option linter.unusedSectionVars false
namespace Go.Proofs.YtfnkmolffhfpoaaGreat
namespace Sk
open Go.RowKit Go.BigFrame
def Nx(R:Rv)(A:Rv)(W:World)(W':World):Prop:=∃R':Rv,ua W' R'/\R'.m=R.m/\Mb R' A/\(∀j,R'.own j->R.own j)/\Ba R.own W W'
theorem Nx.from{R:Rv}{A:Rv}{W W1 W':World}(ht:Ba R.own W W1)(h:Nx R A W1 W'):Nx R A W W':=by
 obtain ⟨R',h1,h2,h3,h4,h5⟩:=h;exact ⟨R',h1,h2,h3,h4,ht.trans h5 fun k _ hk=>hk⟩
theorem DI{W:World}{M:Rv}(h:ua W M):W.cell? ⟨M.m,0,none⟩=some (.pointer (some ⟨M.d,0,none⟩)):=ja h.row 0 _ rfl
theorem YF(R:Rv):R.crashed.own=R.own/\R.crashed.m=R.m:=by
 unfold Rv.crashed Rv.Ke Rv.Nn Rv.back Rv.gone;exact ⟨rfl,rfl⟩
set_option maxHeartbeats 1000000 in
set_option maxRecDepth 100000 in
theorem Waa(R:Rv)(A:Rv)(k t a o x:Int)(q0:-9223372036854775808<=a)(q1:a<=9223372036854775807)(W:World)(h:ua W R)(hl:Mb R A)(hc:A.ck<=999900)(hm:A.wm<=999900):
  Calls Tryz.prog 13 #[.pointer (some ⟨R.m,0,none⟩), .agg #[.int .i64 k, .int .i64 t, .int .i64 a, .int .u64 o, .int .u64 x]] W fun e W'=>(∃v,e= .returned v)/\Nx R (Oe A k t a o x) W W':=by
 have Mf:R.ck<=1000000:=by rw [hl.ck];omega
 have Ss:R.wm<=999999:=by rw [hl.wm];omega
 have hn:=hl.n;obtain ⟨W1,Ni⟩:∃W1,W1=(W.alloc (.cells #[.int .i64 k, .int .i64 t, .int .i64 a, .int .u64 o, .int .u64 x] 45)):=⟨_,rfl⟩;have Fv:W1.heap[W.heap.size]?=some (.cells #[.int .i64 k, .int .i64 t, .int .i64 a, .int .u64 o, .int .u64 x] 45 (0,0)):=by rw [Ni];exact heap_alloc_new _ _
 have z0:=ja Fv 0 _ rfl;have z1:=ja Fv 1 _ rfl;have z2:=ja Fv 2 _ rfl;have z3:=ja Fv 3 _ rfl;have z4:=ja Fv 4 _ rfl;have h1:ua W1 R:=by rw [Ni];exact h.below ((Below.refl _ _).alloc (Nat.le_refl _) _)
 have y0:=DI h1;have HT:Hid (Ba R.own W W1):=Lib.hid (by rw [Ni];exact (Ba.refl _ _).alloc _);have HH:=Lib.hid h1;have HW:=Lib.hid Ni;have HD:Hid (∀(R':Rv) (W':World) (A':Rv),ua W' R'->Ba R.own W1 W'->R'.own=R.own/\R'.m=R.m->Mb R' A'->Nx R A' W1 W'):=Lib.hid fun R' W' A' i1 i2 i3 i5=>⟨R',i1,i3.2,i5,fun j hj=>by rw [i3.1]at hj;exact hj,i2⟩
 clear Fv Ni h;by_cases c1:k=1
 . subst c1;have HC:=Lib.hid (nr R t a o x q0 q1 W1 h1 Mf);have HA:Hid (Oe A 1 t a o x=A.load t a):=Lib.hid (by simp [Oe]);have HL:Hid (((R.load t a).own=R.own/\(R.load t a).m=R.m)/\Mb (R.load t a) (A.load t a)):=Lib.hid ⟨He _ _ _ _,hl.Me _ _ _⟩;clear h1 hl hc hm Mf Ss hn y0
   go_enter Tryz.func13,Tryz.ntmps13
   go_upto_region 1 with fail
   rw [<-HW.out]
   go_wp2_with fail
   refine HC.out.mono ?_
   rintro e w1 ⟨rfl,m1,m2⟩;have HM:=Lib.hid (HD.out _ _ _ m1 m2 HL.out.1 HL.out.2);clear m1 m2
   go_wp2_with fail
   refine bodyPost_ret (results_none Tryz.results13 _ _ _) rfl ?_
   exact ⟨⟨_,rfl⟩,by rw [HA.out];exact HM.out.from HT.out⟩
 by_cases c2:k=2
 . subst c2;have HC:=Lib.hid (uk R t a o x q0 q1 W1 h1 Mf);have HA:Hid (Oe A 2 t a o x=A.store t a x):=Lib.hid (by simp [Oe]);have HL:Hid (((R.store t a x).own=R.own/\(R.store t a x).m=R.m)/\Mb (R.store t a x) (A.store t a x)):=Lib.hid ⟨He _ _ _ _,hl.Me _ _ _⟩;clear h1 hl hc hm Mf Ss hn y0
   go_enter Tryz.func13,Tryz.ntmps13
   go_upto_region 1 with fail
   rw [<-HW.out]
   go_wp2_with fail
   refine HC.out.mono ?_
   rintro e w1 ⟨rfl,m1,m2⟩;have HM:=Lib.hid (HD.out _ _ _ m1 m2 HL.out.1 HL.out.2);clear m1 m2
   go_wp2_with fail
   refine bodyPost_ret (results_none Tryz.results13 _ _ _) rfl ?_
   exact ⟨⟨_,rfl⟩,by rw [HA.out];exact HM.out.from HT.out⟩
 by_cases c3:k=3
 . subst c3;have HC:=Lib.hid (Kg R t a o x q0 q1 W1 h1 Mf);have HA:Hid (Oe A 3 t a o x=A.swap t a o x):=Lib.hid (by simp [Oe]);have HL:Hid (((R.swap t a o x).own=R.own/\(R.swap t a o x).m=R.m)/\Mb (R.swap t a o x) (A.swap t a o x)):=Lib.hid ⟨He _ _ _ _,hl.swap _ _ _ _⟩;clear h1 hl hc hm Mf Ss hn y0
   go_enter Tryz.func13,Tryz.ntmps13
   go_upto_region 1 with fail
   rw [<-HW.out]
   go_wp2_with fail
   refine HC.out.mono ?_
   rintro e w1 ⟨rfl,m1,m2⟩;have HM:=Lib.hid (HD.out _ _ _ m1 m2 HL.out.1 HL.out.2);clear m1 m2
   go_wp2_with fail
   refine bodyPost_ret (results_none Tryz.results13 _ _ _) rfl ?_
   exact ⟨⟨_,rfl⟩,by rw [HA.out];exact HM.out.from HT.out⟩
 by_cases c4:k=4
 . subst c4;have HC:=Lib.hid (gp R t a o x q0 q1 W1 h1 Mf);have HA:Hid (Oe A 4 t a o x=A.Fa t a):=Lib.hid (by simp [Oe]);have HL:Hid (((R.Fa t a).own=R.own/\(R.Fa t a).m=R.m)/\Mb (R.Fa t a) (A.Fa t a)):=Lib.hid ⟨Up _ _ _,hl.Fa _ _⟩;clear h1 hl hc hm Mf Ss hn y0
   go_enter Tryz.func13,Tryz.ntmps13
   go_upto_region 1 with fail
   rw [<-HW.out]
   go_wp2_with fail
   refine HC.out.mono ?_
   rintro e w1 ⟨rfl,m1,m2⟩;have HM:=Lib.hid (HD.out _ _ _ m1 m2 HL.out.1 HL.out.2);clear m1 m2
   go_wp2_with fail
   refine bodyPost_ret (results_none Tryz.results13 _ _ _) rfl ?_
   exact ⟨⟨_,rfl⟩,by rw [HA.out];exact HM.out.from HT.out⟩
 by_cases c5:k=5
 . subst c5;have HC:=Lib.hid (lp R t a o x q0 q1 W1 h1 Mf Ss);have HA:Hid (Oe A 5 t a o x=A.Ha t):=Lib.hid (by simp [Oe]);have HL:Hid (((R.Ha t).own=R.own/\(R.Ha t).m=R.m)/\Mb (R.Ha t) (A.Ha t)):=Lib.hid ⟨Vp _ _,hl.Ha _⟩;clear h1 hl hc hm Mf Ss hn y0
   go_enter Tryz.func13,Tryz.ntmps13
   go_upto_region 1 with fail
   rw [<-HW.out]
   go_wp2_with fail
   refine HC.out.mono ?_
   rintro e w1 ⟨rfl,m1,m2⟩;have HM:=Lib.hid (HD.out _ _ _ m1 m2 HL.out.1 HL.out.2);clear m1 m2
   go_wp2_with fail
   refine bodyPost_ret (results_none Tryz.results13 _ _ _) rfl ?_
   exact ⟨⟨_,rfl⟩,by rw [HA.out];exact HM.out.from HT.out⟩
 by_cases c6:k=6
 . subst c6;have hB:Hid (∀j,Below W1.heap.size W1 (W1.drewN j)):=Lib.hid fun j=>ab (Below.refl _ _) j
   by_cases hi:0<=a/\a<(A.n:Int)
   . obtain ⟨i,rfl⟩:=Int.eq_ofNat_of_zero_le hi.1
     have oU:i<R.n:=by omega
     have HC:Hid (∀j,Calls Tryz.prog 70 #[.pointer (some ⟨R.d,0,none⟩), .int .i64 2, .int .i64 0, .int .i64 (i:Int)] (W1.drewN j) (jn R (R.xk (fun j=>decide (j=i)) R.n) (.int .i64 0) (W1.drewN j))):=Lib.hid fun j=>Zy R i oU _ (h1.below (hB.out j)) Ss
     have HA:Hid (Oe A 6 t (i:Int) o x=A.xk (fun j=>decide (j=i)) A.n):=Lib.hid (by
      show(if(0:Int)<=(i:Int)/\(i:Int)<(A.n:Int)then A.xk (fun j=>decide (j=(i:Int).toNat)) A.n else A)=_
      rw [if_pos hi,Int.toNat_natCast])
     have HL:Hid (Mb (R.xk (fun j=>decide (j=i)) R.n) (A.xk (fun j=>decide (j=i)) A.n)):=Lib.hid (hl.XF i);clear h1 hl hc hm Mf Ss hn hi oU
     go_enter Tryz.func13,Tryz.ntmps13
     go_upto_region 1 with fail
     rw [<-HW.out]
     go_wp2_with fail
     refine ae 0 6 (by kernel_rfl) (by kernel_rfl) (fun _ _ d _ _ h=>by cases d<;>exact h) ?_
     simp only [List.take_succ_cons,List.take_zero,List.drop_succ_cons,List.drop_zero,Nat.reduceAdd];refine wpQuiet_nil ?_
     repeat (first|go_big_quiet_skip|(go_big_quiet_want;go_big_quiet_op;go_big_quiet_on))
     refine wpQuiet_nil ?_
     rintro _ ⟨j,rfl⟩
     go_wp2_with fail
     refine (HC.out _).mono ?_
     rintro e w1 ⟨rfl,m1,m2⟩;have HM:=Lib.hid (HD.out _ _ _ m1 ((⟨rfl,rfl,rfl,Nat.le_refl _,fun _ _ _=>rfl⟩:Ba R.own W1 (W1.drewN j)).trans m2 fun k _ hk=>hk) ⟨rfl,rfl⟩ HL.out);clear m1 m2
     go_wp2_with fail
     refine bodyPost_ret (results_none Tryz.results13 _ _ _) rfl ?_
     exact ⟨⟨_,rfl⟩,by rw [HA.out];exact HM.out.from HT.out⟩
   . have HC:Hid (∀j,Calls Tryz.prog 70 #[.pointer (some ⟨R.d,0,none⟩), .int .i64 2, .int .i64 0, .int .i64 a] (W1.drewN j) fun e W'=>(∃v,e= .returned v)/\W'=W1.drewN j):=Lib.hid fun j=>Xs R a (by rw [hn];exact hi) _ (h1.below (hB.out j))
     have HA:Hid (Oe A 6 t a o x=A):=Lib.hid (by
      show(if 0<=a/\a<(A.n:Int)then _ else A)=A
      rw [if_neg hi])
     have HL:=Lib.hid hl;clear h1 hl hc hm Mf Ss hn hi
     go_enter Tryz.func13,Tryz.ntmps13
     go_upto_region 1 with fail
     rw [<-HW.out]
     go_wp2_with fail
     refine ae 0 6 (by kernel_rfl) (by kernel_rfl) (fun _ _ d _ _ h=>by cases d<;>exact h) ?_
     simp only [List.take_succ_cons,List.take_zero,List.drop_succ_cons,List.drop_zero,Nat.reduceAdd];refine wpQuiet_nil ?_
     repeat (first|go_big_quiet_skip|(go_big_quiet_want;go_big_quiet_op;go_big_quiet_on))
     refine wpQuiet_nil ?_
     rintro _ ⟨j,rfl⟩
     go_wp2_with fail
     refine (HC.out _).mono ?_
     rintro e w1 ⟨⟨u,rfl⟩,UN⟩;cases UN;have HM:=Lib.hid (HD.out R _ _ (HH.out.below (hB.out j)) (⟨rfl,rfl,rfl,Nat.le_refl _,fun _ _ _=>rfl⟩:Ba R.own W1 (W1.drewN j)) ⟨rfl,rfl⟩ HL.out)
     go_wp2_with fail
     refine bodyPost_ret (results_none Tryz.results13 _ _ _) rfl ?_
     exact ⟨⟨_,rfl⟩,by rw [HA.out];exact HM.out.from HT.out⟩
 . have HC:=Lib.hid (UF R W1 h1);have HA:Hid (Oe A k t a o x=A.crashed):=Lib.hid (by unfold Oe;rw [if_neg c1,if_neg c2,if_neg c3,if_neg c4,if_neg c5,if_neg c6]);have HO:=Lib.hid (YF R);have HL:Hid (Mb R.crashed A.crashed):=Lib.hid hl.crashed;have b6:(k==6)=false:=by simp [c6]
   clear h1 hl hc hm Mf Ss hn y0;by_cases d1:1<=k
   . have b1:decide (1<=k)=true:=ea d1;have b2:decide (k<=5)=false:=ta (by omega);clear d1 c1 c2 c3 c4 c5 c6
     go_enter Tryz.func13,Tryz.ntmps13
     go_upto_region 1 with fail
     rw [<-HW.out]
     go_wp2_with fail
     refine HC.out.mono ?_
     rintro e w1 ⟨rfl,m1,m2⟩;have HM:=Lib.hid (HD.out R.crashed _ _ m1 m2 HO.out HL.out);clear m1 m2
     go_wp2_with fail
     go_end0
     exact ⟨⟨_,rfl⟩,by rw [HA.out];exact HM.out.from HT.out⟩
   . have b1:decide (1<=k)=false:=ta d1;clear d1 c1 c2 c3 c4 c5 c6
     go_enter Tryz.func13,Tryz.ntmps13
     go_upto_region 1 with fail
     rw [<-HW.out]
     go_wp2_with fail
     refine HC.out.mono ?_
     rintro e w1 ⟨rfl,m1,m2⟩;have HM:=Lib.hid (HD.out R.crashed _ _ m1 m2 HO.out HL.out);clear m1 m2
     go_wp2_with fail
     go_end0
     exact ⟨⟨_,rfl⟩,by rw [HA.out];exact HM.out.from HT.out⟩
end Sk
end Go.Proofs.YtfnkmolffhfpoaaGreat
namespace Go.Proofs.YtfnkmolffhfpoaaGreat
namespace Sk
open Go.RowKit
theorem VN(A:Rv)(k t a o x:Int):((Oe A k t a o x).ck<=A.ck+1/\(Oe A k t a o x).wm<=A.wm+1)/\(Oe A k t a o x).np=A.np:=by
 have hd:∀(y:Acc) (nw:Int) (pu:Bool),((A.Me y nw pu).ck<=A.ck+1/\(A.Me y nw pu).wm<=A.wm+1)/\(A.Me y nw pu).np=A.np:=fun y nw pu=>by
  obtain ⟨h1,h2,h3⟩:=fx A y nw pu;exact ⟨⟨by omega,by omega⟩,Su _ _ _ _⟩
 unfold Oe
 split
 . exact hd _ _ _
 . split
   . exact hd _ _ _
   . split
     . exact hd _ _ _
     . split
       . obtain ⟨h1,h2,h3⟩:=Rs A t a;exact ⟨⟨by omega,by omega⟩,rA _ _ _⟩
       . split
         . obtain ⟨h1,h2,h3⟩:=lA A t;exact ⟨⟨by omega,by omega⟩,sA _ _⟩
         . split
           . split
             . unfold Rv.xk;exact ⟨⟨by show A.ck<=A.ck+1;omega,by show A.wm+1<=A.wm+1;omega⟩,rfl⟩
             . exact ⟨⟨by omega,by omega⟩,rfl⟩
           . unfold Rv.crashed Rv.Ke Rv.Nn Rv.back Rv.gone;exact ⟨⟨by show A.ck<=A.ck+1;omega,by show A.wm<=A.wm+1;omega⟩,rfl⟩
theorem Xaa{A:Rv}(h:Wd A)(hc:A.ck<=999900)(hw:A.wm<=999900)(k t a o x:Int)(hx:Tc x):Wd (Oe A k t a o x):=by
 unfold Oe
 split
 . exact h.Me _ _ (by omega) u0
 . split
   . exact h.Me _ _ (by omega) hx
   . split
     . exact h.Me _ _ (by omega) hx
     . split
       . exact h.Fa _ _ (by omega)
       . split
         . exact h.Ha _ (by omega) (by omega)
         . split
           . split
             . exact h.XF _ (by omega)
             . exact h
           . exact h.crashed
section
variable{tab:List Wa}{W:World}{p q m r l:Nat}{A:Rv}{c:Nc}{S:Shape}{ρ:Nat->Int}{γ:Nat->Gh}{B:Nat->Prop}{w0:World}{R:Mp}{w:World}
theorem Vf.grow(Zh:fj tab=true)(h:Vf tab W p q m r l A c S ρ γ B w0 R w){w':World}(hb:Below w.heap.size w w'):Vf tab W p q m r l A c S ρ γ B w0 R w':=by
 obtain ⟨h1,h2,h3⟩:=Gn Zh h.tab;obtain ⟨s2,e2⟩:=h.r2;obtain ⟨s3,e3⟩:=h.r3;obtain ⟨M,N,i1,i2,i3,i4,i5,i6,i7,i8,i9,i10,i11,back⟩:=h.ins.mem h1 e2 e3 h2 h3;refine {h with ins:=back w' γ M N (fun _ _=>rfl) (i1.below hb) i2 i3 i4 (i5.below hb) i6 i7 (fun k hk=> .inl hk) (fun k hk=>hk) ⟨hb.os,hb.tape,hb.output,hb.size,fun k hk _=>hb.block k hk⟩}
theorem WN(Zh:fj tab=true){w:World}(h:im tab W p q m r l A c S ρ γ B w0 w):
  Calls Tryz.prog 14 #[.pointer (some ⟨m,0,none⟩), .pointer (some ⟨r,0,none⟩)] w fun e w'=>e= .returned (.bool true)/\im tab W p q m r l A c S ρ γ B w0 w':=by
 obtain ⟨R,h⟩:=h;obtain ⟨h1,h2,h3⟩:=Gn Zh h.tab;obtain ⟨s2,e2⟩:=h.r2;obtain ⟨s3,e3⟩:=h.r3;obtain ⟨M,N,i1,i2,i3,i4,i5,i6,i7,-⟩:=h.ins.mem h1 e2 e3 h2 h3;have hal:Alike M N:=by
  have a:=i3.ud;exact ⟨a.n.trans i7.n.symm,a.nt.trans i7.nt.symm,a.np.trans i7.np.symm,fun k hk=>by rw [i7.seen];exact a.seen k hk,fun k hk=>by rw [i7.kept];exact a.kept k hk,fun k hk=>by rw [i7.pass];exact a.pass k hk,fun t ht j hj=>by rw [i7.fl];exact a.fl t ht j hj,a.ck.trans i7.ck.symm,a.bd.trans i7.bd.symm,a.la.trans i7.la.symm⟩
 have:=raa M N w i1 i5 hal;rw [i2,i6]at this;exact this.mono fun e w' hh=>⟨hh.1,R,h.grow Zh hh.2⟩
theorem XN(Zh:fj tab=true)(h:Vf tab W p q m r l A c S ρ γ B w0 R w)(hc:A.ck<=999900)(hw:A.wm<=999900)(aq:0<A.np)(k t a o x:Int)(q0:-9223372036854775808<=a)(q1:a<=9223372036854775807)(hx:Tc x):
  Calls Tryz.prog 12 #[.pointer (some ⟨m,0,none⟩), .agg #[.int .i64 k, .int .i64 t, .int .i64 a, .int .u64 o, .int .u64 x]] w fun e w1=>(∃v,e= .returned v)/\Below W.heap.size W w1/\Calls Tryz.prog 13 #[.pointer (some ⟨r,0,none⟩), .agg #[.int .i64 k, .int .i64 t, .int .i64 a, .int .u64 o, .int .u64 x]] w1 fun e w2=>(∃v,e= .returned v)/\∃γ',Vf tab W p q m r l (Oe A k t a o x) c S ρ γ' B w0 R w2:=by
 obtain ⟨h1,h2,h3⟩:=Gn Zh h.tab;obtain ⟨s2,e2⟩:=h.r2;obtain ⟨s3,e3⟩:=h.r3;have Qu:=h.wd Zh;obtain ⟨M,N,i1,i2,i3,i4,i5,i6,i7,i8,i9,i10,i11,back⟩:=h.ins.mem h1 e2 e3 h2 h3;rw [h.ng.g0]at i3 i7;have i3:Ic M A:=i3;have i7:Mb N A:=i7;have qR:=h.below;have:=Ray M A k t a o x q0 q1 w i1 i3 Qu hc hw (by rw [i3.ud.np];exact aq);rw [i2]at this;refine this.mono ?_
 rintro e w1 ⟨hv,M',m1,m2,m3,m4,m5⟩;have A9:ua w1 N:=i5.keep fun k hk=>m5.block k (i5.lt hk) fun hm=>i8 k hm hk
 refine ⟨hv, ?_, ?_⟩
 . exact ⟨m5.os.trans qR.os,m5.tape.trans qR.tape,m5.output.trans qR.output,Nat.le_trans qR.size m5.size,fun j hj=>(m5.block j (Nat.lt_of_lt_of_le hj qR.size) fun hm=>by have:=h.own j (i9 j hm);omega).trans (qR.block j hj)⟩
 have:=Waa N A k t a o x q0 q1 w1 A9 i7 hc hw;rw [i6]at this;refine this.mono ?_
 rintro e w2 ⟨hv2,N',n1,n2,n3,n4,n5⟩;have hM2:za w2 M':=m1.keep fun j hj=>n5.block j (m1.lt hj) fun hn=>by
  rcases m4 j hj with h|h
  . exact i8 j h hn
  . have:=i5.lt hn;omega
 have hA':(((fun i=>if i=0 then Gh.mem (Oe A k t a o x)else γ i:Nat->Gh)) 0).A=Oe A k t a o x:=rfl
 refine ⟨hv2,fun i=>if i=0 then Gh.mem (Oe A k t a o x)else γ i,{h with ng:=⟨rfl,h.ng.g1,h.ng.Ho⟩,ins:= ?_}⟩;refine back w2 _ M' N' (fun i hi=> ?_) hM2 (m2.trans i2) m3 (Xaa Qu hc hw k t a o x hx) n1 (n2.trans i6) n3 m4 n4 ?_
 . show γ i=if i=0 then _ else γ i
   rw [if_neg (by omega)]
 . exact ⟨n5.os.trans m5.os,n5.tape.trans m5.tape,n5.output.trans m5.output,Nat.le_trans m5.size n5.size,fun j hj hn=>(n5.block j (Nat.lt_of_lt_of_le hj m5.size) fun hk=>hn (.inr hk)).trans (m5.block j hj fun hk=>hn (.inl hk))⟩
end
end Sk
end Go.Proofs.YtfnkmolffhfpoaaGreat
