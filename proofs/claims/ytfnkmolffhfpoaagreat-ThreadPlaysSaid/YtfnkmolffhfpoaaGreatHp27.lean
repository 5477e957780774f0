/- -/
import Derived.Test.YtfnkmolffhfpoaaGreatHp26
import Derived.Test.YtfnkmolffhfpoaaGreatHp18
import Derived.Test.YtfnkmolffhfpoaaGreatHp23
import Derived.Test.YtfnkmolffhfpoaaGreatHp20
import Derived.Test.YtfnkmolffhfpoaaGreatHp22
set_option linter.unusedVariables false
set_option linter.unusedSimpArgs false
set_option linter.unusedSectionVars false
namespace Go.Proofs.YtfnkmolffhfpoaaGreat
open Go.RowKit Go.BigFrame
theorem vU{W:World}{b:Nat}{k0 k1 k2 k3 k4 k5 k6 k7:Value}{t:TypeId}(h:W.heap[b]?=some (.cells #[k0,k1,k2,k3,k4,k5,k6,k7] t (0,0))):
  W.cell? ⟨b,0,none⟩=some k0/\W.cell? ⟨b,1,none⟩=some k1/\W.cell? ⟨b,2,none⟩=some k2/\W.cell? ⟨b,3,none⟩=some k3/\W.cell? ⟨b,4,none⟩=some k4/\W.cell? ⟨b,5,none⟩=some k5/\W.cell? ⟨b,6,none⟩=some k6/\W.cell? ⟨b,7,none⟩=some k7/\∀j,W.frozen? ⟨b,j,none⟩=false:=by
 refine ⟨?_, ?_, ?_, ?_, ?_, ?_, ?_, ?_,fun j=> ?_⟩
 all_goals first|(rw [cell_of_row _ _ _ _ _ _ h];rfl)|(unfold World.frozen?;rw [h];simp)
theorem wU(a b c d e f:Value)(w:World):(Instr.field 112 (.agg #[a,b,c,d,e,f]) 5).run Tryz.prog w= .ok f w:=by kernel_rfl
theorem Ja.QD{F:Nat->Prop}{a w:World}(h:Ja F a w)(n:Nat):Ja F a (w.drewN n):=⟨h.os,h.tape,h.output,h.size,h.block⟩
def cy(M N:Rv)(rs:Nat)(row:Array Value)(ty:TypeId)(W:World)(e:Ending)(W':World):Prop:=e= .returned undef/\za W' N/\W'.heap[rs]?=some (.cells row ty (0,0))/\Ja (fun k=>M.own k\/k=rs) W W'
theorem za.Lf{W:World}{M:Rv}(h:za W M){rs:Nat}(hn:¬M.own rs)(j:Nat)(v:Value):za (W.setCell ⟨rs,j,none⟩ v) M:=h.keep fun k hk=>aa fun e=>hn (e▸hk)
set_option maxRecDepth 100000 in
theorem XP(M:Rv)(rs:Nat)(t a old new:Int)(pu wh wr:Value)(ty:TypeId)(W:World)(h:za W M)(hr:W.heap[rs]?=some (.cells #[.int .i64 t, .int .i64 a, .int .i64 1, .int .u64 old, .int .u64 new,pu,wh,wr] ty (0,0)))(hn:¬M.own rs)(q0:-9223372036854775808<=a)(q1:a<=9223372036854775807)(hu:ud new)(hc:M.ck<=1000000)(hd:(M.swap t a old (yb new)).la.dn=false):
  Calls Tryz.prog 244 #[.pointer (some ⟨rs,0,none⟩), .pointer (some ⟨M.m,0,none⟩)] W (cy M (M.swap t a old (yb new)) rs #[.int .i64 t, .int .i64 a, .int .i64 0, .int .u64 old, .int .u64 new,pu,wh,wr] ty W):=by
 obtain ⟨c0,c1,c2,c3,c4,c5,c6,c7,cf⟩:=vU hr;have HS:=Lib.hid fun w=>sr new hu w
 have HO:Hid ((M.swap t a old (yb new)).own=M.own/\(M.swap t a old (yb new)).m=M.m):=Lib.hid (Sk.Ve M _ _ _);have qS:rs<W.heap.size:=(Array.getElem?_eq_some_iff.1 hr).1
 have HM:Hid (∀w,za w M->Calls Tryz.prog 47 #[.pointer (some ⟨M.m,0,none⟩), .int .i64 3, .int .i64 t, .int .i64 a, .int .u64 old, .int .u64 (yb new)] w (Yi M (M.swap t a old (yb new)) w)):=Lib.hid fun w hw=>rh M t a old _ q0 q1 w hw hc
 have HW:=Lib.hid h;have HR:=Lib.hid hr;have HN:=Lib.hid hn;have FD:=fun a b c d e f w=>wU a b c d e f w
 clear h hr hn;generalize yb new=sn at*;generalize M.swap t a old sn=N at*;obtain ⟨x,hx⟩:∃x,x=N.la:=⟨_,rfl⟩;have HX:=Lib.hid hx;rw [<-hx]at hd;clear hx;obtain ⟨ki,th,pl,ol,ne,dn⟩:=x;simp only at hd;subst hd
 go_enter Tryz.func244,Tryz.ntmps244
 go_wp2_with fail
 refine Be 0 18 (by kernel_rfl) (by kernel_rfl) (fun _ _ d _ _ h=>by cases d<;>exact h) ?_
 simp only [List.take_succ_cons,List.take_zero,List.drop_succ_cons,List.drop_zero,Nat.reduceAdd]
 repeat (first|go_big_quiet_skip|(go_big_quiet_want;go_big_quiet_op;go_big_quiet_on))
 refine wpQuiet_nil ?_
 repeat (first|go_big_quiet_skip|(go_big_quiet_want;go_big_quiet_op;first|go_big_quiet_on|go_big_quiet_call ((go_at_call 292;exact Calls.quiet_of_same (HS.out _)))))
 refine wpQuiet_nil ?_
 rintro _ ⟨k,rfl⟩
 go_wp2_with fail
 refine (HM.out ((W.setCell ⟨rs,2,none⟩ (.int .i64 0)).drewN k) ((HW.out.Lf HN.out 2 (.int .i64 0)).keep fun _ _=>rfl)).mono ?_
 rintro e w1 ⟨rfl,hm,ht⟩;rw [<-HX.out];have vE:=Lib.hid hm;have HT1:=Lib.hid ht;have kY:=Lib.hid ((ht.block rs (by simpa [World.setCell]using qS) HN.out).trans (heap_set (.int .i64 0) HR.out));simp only [List.setIfInBounds_toArray,List.set_cons_succ,List.set_cons_zero]at kY;clear hm ht;simp only [Acc.cells];clear c0 c1 c2 c3 c4 c5 c6 c7 cf
 go_wp2_with fail
 go_end0
 exact ⟨rfl,vE.out,kY.out,(((Ja.refl _ W).set (fun _=> .inr rfl) 2 (.int .i64 0)).QD k).trans HT1.out (fun _ _ h=> .inl h)⟩
set_option maxRecDepth 100000 in
theorem RJ(M:Rv)(rs:Nat)(t a old new:Int)(pu wh wr:Value)(ty:TypeId)(W:World)(h:za W M)(hr:W.heap[rs]?=some (.cells #[.int .i64 t, .int .i64 a, .int .i64 1, .int .u64 old, .int .u64 new,pu,wh,wr] ty (0,0)))(hn:¬M.own rs)(q0:-9223372036854775808<=a)(q1:a<=9223372036854775807)(hu:ud new)(hc:M.ck<=1000000)(hd:(M.swap t a old (yb new)).la.dn=true)(ha:0<=a/\a/8<((M.swap t a old (yb new)).n:Int)):
  Calls Tryz.prog 244 #[.pointer (some ⟨rs,0,none⟩), .pointer (some ⟨M.m,0,none⟩)] W (cy M (M.swap t a old (yb new)) rs #[.int .i64 t, .int .i64 a, .int .i64 2, .int .u64 old, .int .u64 new, .bool true, .int .i64 (M.swap t a old (yb new)).ck, .int .i64 ((M.swap t a old (yb new)).wr (a/8).toNat)] ty W):=by
 obtain ⟨c0,c1,c2,c3,c4,c5,c6,c7,cf⟩:=vU hr;have HS:=Lib.hid fun w=>sr new hu w
 have HO:Hid ((M.swap t a old (yb new)).own=M.own/\(M.swap t a old (yb new)).m=M.m):=Lib.hid (Sk.Ve M _ _ _);have qS:rs<W.heap.size:=(Array.getElem?_eq_some_iff.1 hr).1
 have HM:Hid (∀w,za w M->Calls Tryz.prog 47 #[.pointer (some ⟨M.m,0,none⟩), .int .i64 3, .int .i64 t, .int .i64 a, .int .u64 old, .int .u64 (yb new)] w (Yi M (M.swap t a old (yb new)) w)):=Lib.hid fun w hw=>rh M t a old _ q0 q1 w hw hc
 have HW:=Lib.hid h;have HR:=Lib.hid hr;have HN:=Lib.hid hn;have FD:=fun a b c d e f w=>wU a b c d e f w
 clear h hr hn;generalize yb new=sn at*;generalize M.swap t a old sn=N at*;obtain ⟨x,hx⟩:∃x,x=N.la:=⟨_,rfl⟩;have HX:=Lib.hid hx;rw [<-hx]at hd;clear hx;obtain ⟨ki,th,pl,ol,ne,dn⟩:=x;simp only at hd;subst hd
 go_enter Tryz.func244,Tryz.ntmps244
 go_wp2_with fail
 refine Be 0 18 (by kernel_rfl) (by kernel_rfl) (fun _ _ d _ _ h=>by cases d<;>exact h) ?_
 simp only [List.take_succ_cons,List.take_zero,List.drop_succ_cons,List.drop_zero,Nat.reduceAdd]
 repeat (first|go_big_quiet_skip|(go_big_quiet_want;go_big_quiet_op;go_big_quiet_on))
 refine wpQuiet_nil ?_
 repeat (first|go_big_quiet_skip|(go_big_quiet_want;go_big_quiet_op;first|go_big_quiet_on|go_big_quiet_call ((go_at_call 292;exact Calls.quiet_of_same (HS.out _)))))
 refine wpQuiet_nil ?_
 rintro _ ⟨k,rfl⟩
 go_wp2_with fail
 refine (HM.out ((W.setCell ⟨rs,2,none⟩ (.int .i64 0)).drewN k) ((HW.out.Lf HN.out 2 (.int .i64 0)).keep fun _ _=>rfl)).mono ?_
 rintro e w1 ⟨rfl,hm,ht⟩;rw [<-HX.out];have vE:=Lib.hid hm;have HT1:=Lib.hid ht;have kY:=Lib.hid ((ht.block rs (by simpa [World.setCell]using qS) HN.out).trans (heap_set (.int .i64 0) HR.out));simp only [List.setIfInBounds_toArray,List.set_cons_succ,List.set_cons_zero]at kY;clear hm ht;simp only [Acc.cells];clear c0 c1 c2 c3 c4 c5 c6 c7 cf;obtain ⟨c0,c1,c2,c3,c4,c5,c6,c7,cf⟩:=vU kY.out;obtain ⟨x0,x1,x2,-⟩:=qd vE.out.row;obtain ⟨y0,y1,y2,y3⟩:=Mb vE.out.dev;have dM:¬N.own rs:=by rw [HO.out.1];exact HN.out
 have YQ:=HO.out.2
 rw [YQ]at x0 x1 x2;have n1:rs≠M.m:=fun e=>dM (by rw [e,<-YQ];exact Or.inl (by simp [Rv.blocks]))
 have n2:rs≠N.d:=fun e=>dM (by rw [e];exact Or.inl (by simp [Rv.blocks]))
 have n3:rs≠N.wb:=fun e=>dM (by rw [e];exact Or.inl (by simp [Rv.blocks]))
 have n1':=Ne.symm n1;have n2':=Ne.symm n2;have n3':=Ne.symm n3;have hnn:=vE.out.n1;have d0:decide (0<=a)=true:=ga ha.1
 have e8:a.tdiv 8=a/8:=Int.tdiv_eq_ediv_of_nonneg ha.1
 have hcw:w1.cell? ⟨N.wb,(a/8).toNat,none⟩=some (.int .i64 (N.wr (a/8).toNat)):=vE.out.wr.cell (by omega);obtain ⟨i,hi⟩:=Int.eq_ofNat_of_zero_le (show 0<=a/8 by omega);rw [hi]at hcw e8;rw [Int.toNat_natCast]at hcw;have f1:(i:Int)<(N.n:Int):=by omega
 have d1:decide ((i:Int)<(N.n:Int))=true:=ga f1
 go_wp2_with fail
 refine Be 0 15 (by kernel_rfl) (by kernel_rfl) (fun _ _ d _ _ h=>by cases d<;>exact h) ?_
 simp only [List.take_succ_cons,List.take_zero,List.drop_succ_cons,List.drop_zero,Nat.reduceAdd]
 repeat (first|go_big_quiet_skip|(go_big_quiet_want;go_big_quiet_op;go_big_quiet_on))
 refine wpQuiet_nil ?_
 repeat (first|go_big_quiet_skip|(go_big_quiet_want;go_big_quiet_op;first|go_big_quiet_on))
 refine wpQuiet_nil ?_
 rintro _ ⟨k2,rfl⟩
 go_wp2_with fail
 go_end0
 have ei:(a/8).toNat=i:=by omega
 rw [ei];refine ⟨rfl, ?_, ?_, ?_⟩
 . exact ((((vE.out.Lf dM 5 _).Lf dM 6 _).keep (W':=((w1.setCell ⟨rs,5,none⟩ (.bool true)).setCell ⟨rs,6,none⟩ (.int .i64 N.ck)).drewN k2) fun _ _=>rfl).Lf dM 7 _).Lf dM 2 _
 . exact heap_set (.int .i64 2) (heap_set (.int .i64 (N.wr i)) (w:=((w1.setCell ⟨rs,5,none⟩ (.bool true)).setCell ⟨rs,6,none⟩ (.int .i64 N.ck)).drewN k2) (heap_set (.int .i64 N.ck) (heap_set (.bool true) kY.out)))
 . exact ((((((((Ja.refl _ W).set (fun _=> .inr rfl) 2 (.int .i64 0)).QD k).trans HT1.out (fun _ _ h=> .inl h)).set (fun _=> .inr rfl) 5 _).set (fun _=> .inr rfl) 6 _).QD k2).set (fun _=> .inr rfl) 7 _).set (fun _=> .inr rfl) 2 _
set_option maxRecDepth 100000 in
theorem QG(M:Rv)(rs:Nat)(t a old new:Int)(pu wh wr:Value)(ty:TypeId)(W:World)(h:za W M)(hr:W.heap[rs]?=some (.cells #[.int .i64 t, .int .i64 a, .int .i64 1, .int .u64 old, .int .u64 new,pu,wh,wr] ty (0,0)))(hn:¬M.own rs)(q0:-9223372036854775808<=a)(q1:a<=9223372036854775807)(hu:ud new)(hc:M.ck<=1000000)(hd:(M.swap t a old (yb new)).la.dn=true)(ha:a<0):
  Calls Tryz.prog 244 #[.pointer (some ⟨rs,0,none⟩), .pointer (some ⟨M.m,0,none⟩)] W (cy M (M.swap t a old (yb new)) rs #[.int .i64 t, .int .i64 a, .int .i64 2, .int .u64 old, .int .u64 new, .bool true, .int .i64 (M.swap t a old (yb new)).ck,wr] ty W):=by
 obtain ⟨c0,c1,c2,c3,c4,c5,c6,c7,cf⟩:=vU hr;have HS:=Lib.hid fun w=>sr new hu w
 have HO:Hid ((M.swap t a old (yb new)).own=M.own/\(M.swap t a old (yb new)).m=M.m):=Lib.hid (Sk.Ve M _ _ _);have qS:rs<W.heap.size:=(Array.getElem?_eq_some_iff.1 hr).1
 have HM:Hid (∀w,za w M->Calls Tryz.prog 47 #[.pointer (some ⟨M.m,0,none⟩), .int .i64 3, .int .i64 t, .int .i64 a, .int .u64 old, .int .u64 (yb new)] w (Yi M (M.swap t a old (yb new)) w)):=Lib.hid fun w hw=>rh M t a old _ q0 q1 w hw hc
 have HW:=Lib.hid h;have HR:=Lib.hid hr;have HN:=Lib.hid hn;have FD:=fun a b c d e f w=>wU a b c d e f w
 clear h hr hn;generalize yb new=sn at*;generalize M.swap t a old sn=N at*;obtain ⟨x,hx⟩:∃x,x=N.la:=⟨_,rfl⟩;have HX:=Lib.hid hx;rw [<-hx]at hd;clear hx;obtain ⟨ki,th,pl,ol,ne,dn⟩:=x;simp only at hd;subst hd
 go_enter Tryz.func244,Tryz.ntmps244
 go_wp2_with fail
 refine Be 0 18 (by kernel_rfl) (by kernel_rfl) (fun _ _ d _ _ h=>by cases d<;>exact h) ?_
 simp only [List.take_succ_cons,List.take_zero,List.drop_succ_cons,List.drop_zero,Nat.reduceAdd]
 repeat (first|go_big_quiet_skip|(go_big_quiet_want;go_big_quiet_op;go_big_quiet_on))
 refine wpQuiet_nil ?_
 repeat (first|go_big_quiet_skip|(go_big_quiet_want;go_big_quiet_op;first|go_big_quiet_on|go_big_quiet_call ((go_at_call 292;exact Calls.quiet_of_same (HS.out _)))))
 refine wpQuiet_nil ?_
 rintro _ ⟨k,rfl⟩
 go_wp2_with fail
 refine (HM.out ((W.setCell ⟨rs,2,none⟩ (.int .i64 0)).drewN k) ((HW.out.Lf HN.out 2 (.int .i64 0)).keep fun _ _=>rfl)).mono ?_
 rintro e w1 ⟨rfl,hm,ht⟩;rw [<-HX.out];have vE:=Lib.hid hm;have HT1:=Lib.hid ht;have kY:=Lib.hid ((ht.block rs (by simpa [World.setCell]using qS) HN.out).trans (heap_set (.int .i64 0) HR.out));simp only [List.setIfInBounds_toArray,List.set_cons_succ,List.set_cons_zero]at kY;clear hm ht;simp only [Acc.cells];clear c0 c1 c2 c3 c4 c5 c6 c7 cf;obtain ⟨c0,c1,c2,c3,c4,c5,c6,c7,cf⟩:=vU kY.out;obtain ⟨x0,x1,x2,-⟩:=qd vE.out.row;obtain ⟨y0,y1,y2,y3⟩:=Mb vE.out.dev;have dM:¬N.own rs:=by rw [HO.out.1];exact HN.out
 have YQ:=HO.out.2
 rw [YQ]at x0 x1 x2;have n1:rs≠M.m:=fun e=>dM (by rw [e,<-YQ];exact Or.inl (by simp [Rv.blocks]))
 have n2:rs≠N.d:=fun e=>dM (by rw [e];exact Or.inl (by simp [Rv.blocks]))
 have n3:rs≠N.wb:=fun e=>dM (by rw [e];exact Or.inl (by simp [Rv.blocks]))
 have n1':=Ne.symm n1;have n2':=Ne.symm n2;have n3':=Ne.symm n3;have hnn:=vE.out.n1;have d0:decide (0<=a)=false:=ua (by omega)
 go_wp2_with fail
 go_end0
 refine ⟨rfl, ?_, ?_, ?_⟩
 . exact ((vE.out.Lf dM 5 _).Lf dM 6 _).Lf dM 2 _
 . exact heap_set (.int .i64 2) (heap_set (.int .i64 N.ck) (heap_set (.bool true) kY.out))
 . exact (((((((Ja.refl _ W).set (fun _=> .inr rfl) 2 (.int .i64 0)).QD k).trans HT1.out (fun _ _ h=> .inl h)).set (fun _=> .inr rfl) 5 _).set (fun _=> .inr rfl) 6 _)).set (fun _=> .inr rfl) 2 _
end Go.Proofs.YtfnkmolffhfpoaaGreat
namespace Go.Proofs.YtfnkmolffhfpoaaGreat
namespace Sk
open Go.RowKit
theorem YP[Interp]{B:Nat->Prop}{w0:World}{R:Mp}{σ:AH}{w:World}(hS:Qc B w0 R σ w){b r s:Nat}(hb:R b=some (r,s)){c:Row}{e:TypeId}(hg:σ.get b=some (.cells c e true)){m:Nat}{l:List Value}(hn:c.n=m)(hl:c.from 0 m=some l):
  ∃l':List Value,w.heap[r]?=some (.cells ⟨l'⟩ e (0,0))/\s=m/\LR R l l':=by
 obtain ⟨_,c',h1,h2,h3,h4,h5⟩:=hS.obj b r s _ hb hg;obtain ⟨k1,k2⟩:=KE m c 0 l hl;have hs:s=m:=by rw [<-h4 rfl,hn]
 refine ⟨c'.toList,h1,hs, ?_,fun i x y hx hy=> ?_⟩
 . rw [k1,Array.length_toList,h2,hs]
 . have hi:i<m:=by have:=(List.getElem?_eq_some_iff.1 hx).1;omega
   have:=k2 i hi;rw [Nat.zero_add,hx]at this;obtain ⟨_,v',q1,q2⟩:=h5 i x this;have hy:c'[i]?=some y:=by simpa using hy
   rw [hy]at q1;cases q1;exact q2
theorem xU(w:World)(r:Nat)(o:Obj)(h:r<w.heap.size):({w with heap:=w.heap.setIfInBounds r o}:World).heap[r]?=some o:=by simp [h]
theorem Jn(w:World)(r:Nat)(o:Obj){k:Nat}(h:k≠r):({w with heap:=w.heap.setIfInBounds r o}:World).heap[k]?=w.heap[k]?:=by
 show(w.heap.setIfInBounds r o)[k]?=_
 rw [Array.getElem?_setIfInBounds,if_neg (Ne.symm h)]
section
variable{ρ:Nat->Int}{γ:Nat->Gh}
variable{F:List (Value×Value)}(hF:∀p,p∈F-> @den (Th.at ρ γ) p.1= @den (Th.at ρ γ) p.2)
theorem eM{B:Nat->Prop}{w0:World}{R:Mp}{σ:AH}{w w':World}{b s rs z:Nat}{M N:Rv}{A':Rv}{row J0:List Value}{ty:TypeId}{c0:Array Value}{y:Na}{e':Value}
  (k7:∀w' e' M' A', @den (Th.at ρ γ) e'= .g (Gh.ref A')->za w' M'->M'.m=M.m->Rb M' A'->Wd A'->(∀k,M'.own k->M.own k\/w.heap.size<=k)->Ja M.own w w'-> @Qc (Th.at ρ γ) B w0 R (σ.put b (some (.gh e'))) w')
  (hb:R s=some (rs,z))(FY:s≠b)(hy:σ.get s=some y)(hyg:∀e,y≠ .gh e)(h0:w.heap[rs]?=some (.cells c0 ty (0,0)))(hn:¬M.own rs)(he: @den (Th.at ρ γ) e'= .g (Gh.ref A'))(hA:Rb N A')(hw:Wd A')(hN:N.own=M.own/\N.m=M.m)
  (hr: @LR (Th.at ρ γ) R row J0)(hz:J0.length=z)(hx:cy M N rs ⟨J0⟩ ty w (.returned undef) w'): @Qc (Th.at ρ γ) B w0 R ((σ.put b (some (.gh e'))).put s (some (.cells (Row.nil.app row) ty true))) w':=by
 letI:Interp:=Th.at ρ γ
 obtain ⟨_,x1,x2,x3⟩:=hx;have Db:rs<w'.heap.size:=(Array.getElem?_eq_some_iff.1 x2).1
 have mj:({w' with heap:=w'.heap.setIfInBounds rs (.cells c0 ty (0,0))}:World).heap.size=w'.heap.size:=by simp
 have s1:=k7 {w' with heap:=w'.heap.setIfInBounds rs (.cells c0 ty (0,0))} e' N A' he
  (x1.keep fun k hk=>Jn w' rs _ fun q=>hn (by rw [<-hN.1];exact q▸hk)) hN.2 hA hw (fun k hk=> .inl (hN.1▸hk))
  ⟨x3.os,x3.tape,x3.output,by rw [mj];exact x3.size,fun k hk ho=>by
    by_cases q:k=rs
    . subst q;rw [xU w' k _ Db,h0]
    . rw [Jn w' rs _ q];exact x3.block k hk fun z=>z.elim ho q⟩
 refine s1.yR hb ⟨y,by rw [Bb,if_neg FY];exact hy,hyg⟩ ?_ (fun k hk=>(Jn w' rs _ hk).symm) mj.symm rfl rfl rfl
 rw [x2,<-hz];exact uk hr ty
include hF
theorem K0: @yG (Th.at ρ γ) Tryz.prog F iZ 244:=by
 letI:Interp:=Th.at ρ γ
 haveI:Wc:=Ia ρ γ
 intro args σ v σ' hg B w0 R w args' hS hl;unfold iZ at hg
 split at hg
 . rename_i s o p
   split at hg
   . split at hg
     . rename_i c ty hc
       split at hg
       . rename_i t a old new put Vq wr gY qi
         split at hg
         . rename_i e he
           split at hg
           . rename_i m hm
             split at hg
             . rename_i hk hf;simp only [Da,Bool.and_eq_true]at hk;obtain ⟨ht,ha,ho,hnw,L0⟩:=hk;rw [Va]at gY;have gY:=of_decide_eq_true gY;obtain ⟨s',l',rfl,hp0,hl⟩:=hl.ya;obtain ⟨p',l',rfl,hp,hl⟩:=hl.ya;cases hl.ic;obtain ⟨rs,z,hsr,rfl⟩:=ji hp0;obtain ⟨b,r,z2,A,M,rfl,rfl,k1,kg,k3,k4,rfl,k5,k6,k8,k7⟩:=cM he hm hS hp;have FY:s≠jn p:=fun q=>by rw [q,kg]at hc;cases hc
               have tg:=k8 s rs z _ FY hsr hc;obtain ⟨J0,hh,rfl,zC⟩:=YP hS hsr hc gY qi;obtain ⟨t',l',rfl,h0,zC⟩:=zC.ya;obtain ⟨a',l',rfl,h1,zC⟩:=zC.ya;obtain ⟨i',l',rfl,h2,zC⟩:=zC.ya;obtain ⟨o',l',rfl,h3,zC⟩:=zC.ya;obtain ⟨n',l',rfl,h4,zC⟩:=zC.ya;obtain ⟨pu,l',rfl,h5,zC⟩:=zC.ya;obtain ⟨wh,l',rfl,h6,zC⟩:=zC.ya;obtain ⟨wv,l',rfl,h7,zC⟩:=zC.ya;cases zC.ic;obtain ⟨tn,rfl,dt,t0,t1⟩:=Te h0 ht;obtain ⟨an,rfl,da,a0,a1⟩:=Te h1 ha;have hi:=qc h2;subst hi;obtain ⟨on,rfl,dO,ou⟩:=mu h3 ho;obtain ⟨nn,rfl,dn,nu⟩:=mu h4 hnw;obtain ⟨c1,c2⟩:=ij hF hf k3 k6;have jg:M.ck<=1000000:=by rw [k5.ck];omega
               obtain ⟨⟨q,q1⟩,q2⟩:=Ue hF [new] (t:=Ah) (by decide);have dsn:den (mk F Ah [new])= .v (.int .u64 (yb nn)):=q2.trans (oB dn)
               have hpk:=k5.Ua an;have T3:(M.swap tn an on (yb nn)).la.dn=((A.Ua an).2&&(A.Ua an).1==on):=by
                show(M.res ⟨3,tn,an,0,yb nn,false⟩ ((M.Ua an).1==on)).dn=_
                unfold Rv.res;rw [hpk];cases (A.Ua an).2<;>simp
               have hgs:=gSw k3 dt da dO dsn;have hNo:=Ve M ⟨3,tn,an,0,yb nn,false⟩ (yb nn) ((M.Ua an).1==on);have O5:Rb (M.swap tn an on (yb nn)) (A.swap tn an on (yb nn)):=k5.swap _ _ _ _;have oq:Wd (A.swap tn an on (yb nn)):=k6.Ye _ _ (by omega) (nB nn);dsimp only at hg
               split at hg
               . rename_i b2 hsn mq;have mq:=Kf hF mq;obtain ⟨⟨y,y1⟩,y2⟩:=Ue hF [m,a,old] (t:=au) (by decide);rw [y2,Zag k3 da dO]at mq;injection mq with mq
                 injection mq with mq
                 rw [mq]at T3
                 split at hg
                 . rw [Ec,tj,Ec]at hg;cases hg;have SQ:(A.Ua an).2=true:=by
                    rw [Bool.and_eq_true]at mq;exact mq.1
                   obtain ⟨⟨x,x1⟩,x2⟩:=Ue hF [sy tm [m,t,a,old,mk F Ah [new]]] (t:=EO) (by decide);obtain ⟨⟨u,u1⟩,u2⟩:=Ue hF [sy tm [m,t,a,old,mk F Ah [new]],a] (t:=tWr) (by decide);have vck:VR R (mk F EO [sy tm [m,t,a,old,mk F Ah [new]]]) (.int .i64 (M.swap tn an on (yb nn)).ck):=by
                    refine Yc R x1 (x2.trans ((dCk hgs).trans ?_));have:=oq.Cm;have:=oq.ck;rw [O5.ck,IntKind.wrap_i64];exact congrArg (fun z=>(Tc.v (Value.int .i64 z):Tc Gh)) (by omega)
                   have tU:0<=Jk (A.swap tn an on (yb nn)) an/\Jk (A.swap tn an on (yb nn)) an<=2000000:=by
                    unfold Jk
                    split
                    . rename_i q;have hn:(A.swap tn an on (yb nn)).n=M.n:=by
                       rw [<-O5.n];unfold Rv.swap Rv.Ye Rv.note;split
                       . unfold Rv.put;split<;>rfl
                       . rfl
                      rw [hn]at q;have:=k4.ZA (an/8).toNat (by omega)
                      have hw3:(A.swap tn an on (yb nn)).wr=A.wr:=(Sx A _ _ _).2.2
                      rw [hw3,<-k5.wr];have:=k5.wm;have:=k6.wm;omega
                    . omega
                   have vwr:VR R (mk F tWr [sy tm [m,t,a,old,mk F Ah [new]],a]) (.int .i64 (Jk (A.swap tn an on (yb nn)) an)):=Yc R u1 (u2.trans (dWr tU hgs da));have vtt:VR R tt (.bool true):=Yc R (c:=8) rfl rfl;have v2:VR R (Cb 2) (.int .i64 2):=Yc R (c:=3) rfl rfl;have yU:LR R [t,a,Cb 2,old,new,tt,mk F EO [sy tm [m,t,a,old,mk F Ah [new]]],mk F tWr [sy tm [m,t,a,old,mk F Ah [new]],a]] [.int .i64 tn, .int .i64 an, .int .i64 2, .int .u64 on, .int .u64 nn, .bool true, .int .i64 (M.swap tn an on (yb nn)).ck, .int .i64 (Jk (A.swap tn an on (yb nn)) an)]:=
                    .cons h0 (.cons h1 (.cons v2 (.cons h3 (.cons h4 (.cons vtt (.cons vck (.cons vwr (.nil R))))))))
                   have SK:Calls Tryz.prog 244 #[.pointer (some ⟨rs,0,none⟩), .pointer (some ⟨M.m,0,none⟩)] w (cy M (M.swap tn an on (yb nn)) rs #[.int .i64 tn, .int .i64 an, .int .i64 2, .int .u64 on, .int .u64 nn, .bool true, .int .i64 (M.swap tn an on (yb nn)).ck, .int .i64 (Jk (A.swap tn an on (yb nn)) an)] ty w):=by
                    by_cases hz:0<=an
                    . have Bg:an/8<((M.swap tn an on (yb nn)).n:Int):=by
                       have hn:(M.swap tn an on (yb nn)).n=M.n:=by
                        unfold Rv.swap Rv.Ye Rv.note;split
                        . unfold Rv.put;split<;>rfl
                        . rfl
                       rw [hn];rw [<-hpk]at SQ;rcases Zx SQ with⟨g0,g1⟩|⟨g0,_⟩
                       . omega
                       . exact absurd hz g0
                      have:=RJ M rs tn an on nn pu wh wv ty w k4 hh tg a0 a1 nu jg T3 ⟨hz,Bg⟩;have e:Jk (A.swap tn an on (yb nn)) an=(M.swap tn an on (yb nn)).wr (an/8).toNat:=by
                       unfold Jk;rw [<-O5.n,if_pos ⟨hz,Bg⟩,O5.wr]
                      rw [e];exact this
                    . have:=QG M rs tn an on nn pu wh wv ty w k4 hh tg a0 a1 nu jg T3 (by omega);have e:Jk (A.swap tn an on (yb nn)) an=0:=by
                       unfold Jk;rw [if_neg (fun q=>hz q.1)]
                      have e2:wv= .int .i64 0:=by
                       rw [zl,Bool.or_eq_true]at L0;rcases L0 with L0|L0
                       . obtain ⟨q,hq,rfl⟩:=ej L0;have:q= .i64:=Zb (by rw [Va];exact decide_eq_true hq)
                         subst this;exact qc h7
                       . split at L0
                         . rename_i bb YE;have YE:=Kf hF YE;obtain ⟨_,g2⟩:=Ue hF [a,Cb 0] (t:=280) (by decide);rw [g2,KL da (Eb 0)]at YE;injection YE with YE
                           injection YE with YE
                           rw [Cd,<-YE]at L0;have:¬an<0:=by simpa using L0
                           omega
                         . cases L0
                      rw [e,<-e2];exact this
                   refine SK.mono ?_
                   intro e w' hx;have RO:=hx;obtain ⟨rfl,_⟩:=RO;refine ⟨R,_,rfl,(Of k1 _).trans (Of hsr _),Ge R, ?_⟩;exact eM k7 hsr FY hc (fun e h=>by cases h) hh tg (gRf hgs) O5 oq hNo yU rfl hx
                 . rw [Ec,tj,Ec]at hg;cases hg;have v2:VR R (Cb 0) (.int .i64 0):=Yc R (c:=3) rfl rfl;have yU:LR R [t,a,Cb 0,old,new,put,Vq,wr] [.int .i64 tn, .int .i64 an, .int .i64 0, .int .u64 on, .int .u64 nn,pu,wh,wv]:=
                    .cons h0 (.cons h1 (.cons v2 (.cons h3 (.cons h4 (.cons h5 (.cons h6 (.cons h7 (.nil R))))))))
                   refine (XP M rs tn an on nn pu wh wv ty w k4 hh tg a0 a1 nu jg T3).mono ?_
                   intro e w' hx;have RO:=hx;obtain ⟨rfl,_⟩:=RO;refine ⟨R,_,rfl,(Of k1 _).trans (Of hsr _),Ge R, ?_⟩;exact eM k7 hsr FY hc (fun e h=>by cases h) hh tg (gRf hgs) O5 oq hNo yU rfl hx
               . cases hg
             . cases hg
           . cases hg
         . cases hg
       . cases hg
     . cases hg
   . cases hg
 . cases hg
end
end Sk
end Go.Proofs.YtfnkmolffhfpoaaGreat
namespace Go.Proofs.YtfnkmolffhfpoaaGreat
open Go.RowKit Go.BigFrame
open Sk (Xh jB)
theorem RG(x y k:Nat):(x^^^y) %2^(k+1)=(x^^^y) %2^k+(if x/2^k %2=y/2^k %2 then 0 else 2^k):=by
 rw [Nat.mod_pow_succ]
 congr 1
 have hb:∀z:Nat,z/2^k %2=(z.testBit k).toNat:=fun z=>by rw [Nat.testBit_eq_decide_div_mod_eq];rcases Nat.mod_two_eq_zero_or_one (z/2^k)with h|h<;>simp [h]
 rw [hb,hb,hb,Nat.testBit_xor];cases x.testBit k<;>cases y.testBit k<;>simp
structure Fi(n:Nat)(x:Int)(k:Nat)(p q:Int):Prop where
 hx:x=((Oj n:Nat):Int)
 hp:p=((2^k:Nat):Int)
 hq:q=((eT n %2^k:Nat):Int)
theorem Fi.start(n:Nat)(x:Int)(hx:x=(n:Int)*2654435769 %4294967296):Fi n x 0 1 0:=
 ⟨by rw [hx];unfold Oj;omega,by simp,by simp [Nat.mod_one]⟩
theorem Fi.bits{n:Nat}{x:Int}{k:Nat}{p q:Int}(h:Fi n x k p q):(x/p %2=x/65536/p %2)<->(Oj n/2^k %2=Oj n/65536/2^k %2):=by
 have dv:((Oj n:Nat):Int)/((2^k:Nat):Int) %2=((Oj n/2^k %2:Nat):Int):=by simp
 have dv2:((Oj n:Nat):Int)/65536/((2^k:Nat):Int) %2=((Oj n/65536/2^k %2:Nat):Int):=by simp
 rw [h.hx,h.hp,dv,dv2];omega
theorem Fi.same{n:Nat}{x:Int}{k:Nat}{p q:Int}(h:Fi n x k p q)(hb:x/p %2=x/65536/p %2):Fi n x (k+1) (2*p) q:=by
 have ms:=RG (Oj n) (Oj n/65536) k;rw [if_pos (h.bits.1 hb)]at ms;exact ⟨h.hx,by rw [h.hp,Nat.pow_succ];omega,by rw [h.hq];unfold eT;rw [ms,Nat.add_zero]⟩
theorem Fi.other{n:Nat}{x:Int}{k:Nat}{p q:Int}(h:Fi n x k p q)(hb:¬x/p %2=x/65536/p %2):Fi n x (k+1) (2*p) (q+p):=by
 have ms:=RG (Oj n) (Oj n/65536) k;rw [if_neg (fun e=>hb (h.bits.2 e))]at ms;exact ⟨h.hx,by rw [h.hp,Nat.pow_succ];omega,by rw [h.hq,h.hp];unfold eT;rw [ms];omega⟩
theorem Fi.le{n:Nat}{x:Int}{k:Nat}{p q:Int}(h:Fi n x k p q)(hk:k<32):p<=2147483648:=by
 rw [h.hp];have:2^k<=2^31:=Nat.pow_le_pow_right (by decide) (by omega);omega
theorem Fi.done{n:Nat}{x:Int}{p q:Int}(h:Fi n x 32 p q):q=bg n:=by
 rw [h.hq];unfold bg;rw [Int.toNat_natCast,Nat.mod_eq_of_lt (CL n)]
theorem ZP(a:Int)(h0:0<=a)(h1:a<=4294967295)(w:World):
  Calls Tryz.prog 187 #[.int .u32 a] w (Gc (.int .i64 (bg a)) w):=by
 obtain ⟨n,rfl⟩:=Int.eq_ofNat_of_zero_le h0
 go_enter Tryz.func187,Tryz.ntmps187
 go_wp2
 obtain ⟨x,hx⟩:∃x:Int,x=(n:Int)*2654435769 %4294967296:=⟨_,rfl⟩;rw [<-hx];have hx0:0<=x:=by omega
 have hx1:x<=4294967295:=by omega
 have HS:=Fi.start n x hx;clear hx
 go_loop [4,5,6] (fun o b i=>∃(k:Nat) (p q:Int),k<=32/\i= .int .i64 k/\b= .int .i64 p/\o= .int .i64 q/\1<=p/\p<=4294967296/\0<=q/\q<p/\Fi n x k p q) (fun _ _ i=>32 -(intOf i).toNat)
 case atStart=>exact ⟨0,1,0,by omega,rfl,rfl,rfl,by omega,by omega,by omega,by omega,HS⟩
 case round=>
  obtain ⟨k,p,q,hk,rfl,rfl,rfl,p1,p2,q1,q2,HM⟩:=hrel;have hd0:0<=x/p:=Int.ediv_nonneg hx0 (by omega);have hd1:x/p<=x:=Int.ediv_le_self p hx0;have he0:0<=x/65536/p:=Int.ediv_nonneg (by omega) (by omega);have he1:x/65536/p<=x/65536:=Int.ediv_le_self p (by omega);by_cases Db:k<32
  . have taR:p<=2147483648:=HM.le Db;by_cases hb:x/p %2=x/65536/p %2
    . have SE:(x/p %2 != x/65536/p %2)=false:=by simp [hb]
      have HB:=HM.same hb;clear hb
      go_wp2
      go_round
      case rel=>exact ⟨k+1,2*p,q,by omega,by go_num,rfl,rfl,by omega,by omega,by omega,by omega,HB⟩
      case measure=>simp [intOf];omega
    . have SE:(x/p %2 != x/65536/p %2)=true:=by simp [hb]
      have HB:=HM.other hb;clear hb
      go_wp2
      go_round
      case rel=>exact ⟨k+1,2*p,q+p,by omega,by go_num,rfl,rfl,by omega,by omega,by omega,by omega,HB⟩
      case measure=>simp [intOf];omega
  . obtain rfl:k=32:=by omega
    go_wp2
    go_ret
    exact ⟨Ta HM.done,rfl⟩
theorem SJ(v:Lv)(n:Int):jB v 5 n 0=v.bucket n:=by
 unfold jB Lv.bucket;rw [if_neg (by decide),if_neg (fun h=>h rfl),if_pos rfl]
theorem Dar(c:Xc)(h:Xh c):((Vd (40+c.bu.toNat)+8*c.th.toNat+Vd c.lo.toNat*c.th.toNat+8*c.sl.toNat:Nat):Int)=c.lv.ln*8:=by
 obtain ⟨ith,isl,ilo,ibu⟩:=c;obtain ⟨h1,h2,h3,h4,h5,h6,h7,h8⟩:=h;simp only at*;obtain ⟨th,rfl⟩:=Int.eq_ofNat_of_zero_le (show 0<=ith by omega);obtain ⟨sl,rfl⟩:=Int.eq_ofNat_of_zero_le (show 0<=isl by omega);obtain ⟨lo,rfl⟩:=Int.eq_ofNat_of_zero_le (show 0<=ilo by omega);obtain ⟨bu,rfl⟩:=Int.eq_ofNat_of_zero_le (show 0<=ibu by omega);simp only [Int.toNat_natCast];have e1:=ZT bu;have e2:=H5 lo;have e3:((Vd lo*th:Nat):Int)=8*((th:Int)*qb lo):=by
  rw [Int.natCast_mul,e2,Int.mul_assoc,Int.mul_comm (qb lo)]
 show _=(5+qb bu+th+th*qb lo+sl)*8
 simp only [Int.natCast_add,e1,e3];omega
set_option maxRecDepth 100000 in
set_option maxHeartbeats 400000 in
theorem aQ(c:Xc)(h:Xh c)(k x:Int)(y:Value)(x0:0<=x)(x1:x<=4294967295)(w:World):Calls Tryz.prog 94 #[.agg #[.int .i64 c.th, .int .i64 c.sl, .int .i64 c.lo, .int .i64 c.bu], .agg #[.int .i64 k, .int .u32 x,y]] w (Fc (.int .i64 (c.lv.hd k x)) w):=by
 have HLN:=Dar c h;have b0:=h.UH;have b1:=h.bu;have HM:=Lib.hid fun w=>ZP x x0 x1 w
 have av:=fun(z:Nm) (w:World)=>faq c.th.toNat c.sl.toNat c.lo.toNat c.bu.toNat (by have:=h.th;omega) (by have:=h.sl;omega) (by have:=h.lo;omega) (by have:=h.bu;omega) z w
 have hla:=fun(w:World)=>Us c.th.toNat c.sl.toNat c.lo.toNat c.bu.toNat (by have:=h.th;omega) (by have:=h.sl;omega) (by have:=h.lo;omega) (by have:=h.bu;omega) w
 rw [show((c.th.toNat:Nat):Int)=c.th by have:=h.gJ;omega,show((c.sl.toNat:Nat):Int)=c.sl by have:=h.gP;omega,show((c.lo.toNat:Nat):Int)=c.lo by have:=h.TQ;omega,show((c.bu.toNat:Nat):Int)=c.bu by have:=h.UH;omega]at av hla;have HS:Hid (∀w,Calls Tryz.prog 83 #[.agg #[.int .i64 c.th, .int .i64 c.sl, .int .i64 c.lo, .int .i64 c.bu], .agg #[.int .i64 4, .int .i64 0, .int .i64 0]] w (Fc (.int .i64 32) w)):=Lib.hid fun w=>by
  have:=av (4,0,0) w;rw [show iY c.th.toNat c.sl.toNat c.lo.toNat c.bu.toNat (4,0,0)=32 from zr (n:=4) yD.2.2 _ _ _ _]at this;exact this
 have HB:Hid (∀w,Calls Tryz.prog 83 #[.agg #[.int .i64 c.th, .int .i64 c.sl, .int .i64 c.lo, .int .i64 c.bu], .agg #[.int .i64 5, .int .i64 ((bg x).tmod c.bu), .int .i64 0]] w (Fc (.int .i64 (c.lv.bucket (bg x %c.bu))) w)):=Lib.hid fun w=>by
  rw [Int.tmod_eq_emod_of_nonneg (pD x)];have:=av (5,bg x %c.bu,0) w;rw [aU c h 5 _ 0 (by omega),SJ]at this;exact this
 have HL:=Lib.hid hla;have HE:Hid (c.lv.hd k x=if k=3 then 32 else if k=4 then 32 else if k=5 then 32 else if k=6 then c.lv.bucket (bg x %c.bu)else if k=7 then c.lv.bucket (bg x %c.bu)else if k=8 then c.lv.bucket (bg x %c.bu)else c.lv.ln*8):=Lib.hid rfl;have m0:=pD x;have m1:=DL x;have r0:0<=bg x %c.bu:=Int.emod_nonneg _ (by omega);have r1:bg x %c.bu<c.bu:=Int.emod_lt_of_pos _ (by omega);have hw:IntKind.i64.wrap (bg x %c.bu)=bg x %c.bu:=by simp [IntKind.wrap,IntKind.bits,IntKind.signed];omega
 have hw2:wrap64 (bg x %c.bu)=bg x %c.bu:=by unfold wrap64;omega
 have hw3:IntKind.i64.wrap ((bg x).tmod c.bu)=bg x %c.bu:=by rw [Int.tmod_eq_emod_of_nonneg m0];exact hw
 have ZQ:wrap64 ((bg x).tmod c.bu)=bg x %c.bu:=by rw [Int.tmod_eq_emod_of_nonneg m0];exact hw2
 have aR:(c.bu==0)=false:=by simp;omega
 have hw6:¬c.bu=0:=by omega
 clear av hla;generalize bg x=hx at*;generalize c.lv.bucket (hx %c.bu)=rb at*;generalize c.lv.hd k x=r at*;generalize c.lv.ln*8=rl at*;generalize Vd (40+c.bu.toNat)+8*c.th.toNat+Vd c.lo.toNat*c.th.toNat+8*c.sl.toNat=nl at*;generalize Ud c.th.toNat c.sl.toNat c.lo.toNat c.bu.toNat=LL at*;generalize c.th=th at*;generalize c.sl=sl at*;generalize c.lo=ib at*;generalize c.bu=bu at*;clear h;obtain ⟨W1,mg⟩:∃W1,W1=(w.alloc (.cells #[.int .i64 th, .int .i64 sl, .int .i64 ib, .int .i64 bu] 23)).alloc (.cells #[.int .i64 k, .int .u32 x,y] 29):=⟨_,rfl⟩
 have XH:=Lib.hid mg;have Vh:Hid (Below w.heap.size w W1):=Lib.hid (by rw [mg];exact ((Below.refl _ _).alloc (Nat.le_refl _) _).alloc (by simp) _);by_cases k3:3<=k/\k<=5
 . have d1:decide (3<=k)=true:=ga k3.1
   have d2:decide (k<=5)=true:=ga k3.2
   have e:r=32:=by rw [HE.out];rcases (show k=3\/k=4\/k=5 by omega)with rfl|rfl|rfl<;>simp
   subst e;clear HE HB HL HM hw hw2 hw3 ZQ aR hw6
   go_enter Tryz.func94,Tryz.ntmps94
   go_wp2_with fail
   refine (HS.out _).mono ?_
   rintro e w2 ⟨rfl,hb⟩;have H2:=Lib.hid (Vh.out.trans ((show Below W1.heap.size W1 w2 by rw [mg];exact hb).mono Vh.out.size));clear hb
   go_wp2_with fail
   go_ret
   exact ⟨rfl,H2.out⟩
 by_cases k6:6<=k/\k<=8
 . have d1:decide (6<=k)=true:=ga k6.1
   have d2:decide (k<=8)=true:=ga k6.2
   have d3:decide (3<=k)=true:=ga (by omega);have d4:decide (k<=5)=false:=ua (by omega);have e:r=rb:=by rw [HE.out];rcases (show k=6\/k=7\/k=8 by omega)with rfl|rfl|rfl<;>simp
   subst e;have g:=heap_alloc_new (w.alloc (.cells #[.int .i64 th, .int .i64 sl, .int .i64 ib, .int .i64 bu] 23)) (.cells #[.int .i64 k, .int .u32 x,y] 29);rw [World.size_alloc,<-mg]at g;have g':W1.heap[w.heap.size]?=some (.cells #[.int .i64 th, .int .i64 sl, .int .i64 ib, .int .i64 bu] 23 (0,0)):=by rw [mg,Below.heap_alloc _ _ _ (by simp)];exact heap_alloc_new _ _
   have c0:=ma g 1 _ rfl;have c1:=ma g' 3 _ rfl;have c2:=ma g' 0 _ rfl;have c3:=ma g' 1 _ rfl;have c4:=ma g' 2 _ rfl;have lA:Hid (∀w',Below W1.heap.size W1 w'->(w'.cell? ⟨w.heap.size,0,none⟩=some (.int .i64 th)/\w'.cell? ⟨w.heap.size,1,none⟩=some (.int .i64 sl)/\w'.cell? ⟨w.heap.size,2,none⟩=some (.int .i64 ib)/\w'.cell? ⟨w.heap.size,3,none⟩=some (.int .i64 bu))/\w'.cell? ⟨w.heap.size+1,1,none⟩=some (.int .u32 x)):=Lib.hid fun w' hb=>by
    have h:=(hb.block _ (zb g)).trans g
    have h':=(hb.block _ (zb g')).trans g'
    exact ⟨⟨ma h' 0 _ rfl,ma h' 1 _ rfl,ma h' 2 _ rfl,ma h' 3 _ rfl⟩,ma h 1 _ rfl⟩
   clear HE HS HL g g'
   go_enter Tryz.func94,Tryz.ntmps94
   go_upto_region 4 with fail
   rw [<-XH.out];clear mg
   go_region_held3 (fun w'=>w'.cell? ⟨w.heap.size,0,none⟩=some (.int .i64 th)/\w'.cell? ⟨w.heap.size,1,none⟩=some (.int .i64 sl)/\w'.cell? ⟨w.heap.size,2,none⟩=some (.int .i64 ib)/\w'.cell? ⟨w.heap.size,3,none⟩=some (.int .i64 bu)/\w'.cell? ⟨w.heap.size+1,1,none⟩=some (.int .u32 x)) (go_keep) (first
    |(go_at_call 187;refine (HM.out _).mono ?_;rintro e w3 ⟨rfl,rfl⟩)
    |(go_at_call 83;refine (HB.out _).mono ?_;rintro e w4 ⟨rfl,hb⟩;have VH:=Lib.hid (((Below.refl _ W1).drew).trans hb);have H4:=Lib.hid (Vh.out.trans (VH.out.mono Vh.out.size));clear hb c0 c1 c2 c3 c4;obtain ⟨⟨c2,c3,c4,c1⟩,c0⟩:=lA.out _ VH.out))
   all_goals
    go_wp2_with fail
    go_ret
    exact ⟨rfl,H4.out⟩
 have e:r=nl:=by rw [HE.out,HLN];rw [if_neg (by omega),if_neg (by omega),if_neg (by omega),if_neg (by omega),if_neg (by omega),if_neg (by omega)]
 subst e;clear HLN HE HS HB HM hw hw2 hw3 ZQ aR hw6;by_cases kl:k<3
 . have d3:decide (3<=k)=false:=ua (by omega);have d1:decide (6<=k)=false:=ua (by omega)
   go_enter Tryz.func94,Tryz.ntmps94
   go_wp2_with fail
   refine (HL.out _).mono ?_
   rintro e w2 ⟨v2,rfl,hb,ho⟩;obtain ⟨va,vc,rfl⟩:=Xa ho;have H2:=Lib.hid (Vh.out.trans ((show Below W1.heap.size W1 w2 by rw [mg];exact hb).mono Vh.out.size));clear hb ho
   go_wp2_with fail
   go_ret
   exact ⟨rfl,H2.out⟩
 . have d3:decide (3<=k)=true:=ga (by omega);have d4:decide (k<=5)=false:=ua (by omega);have d1:decide (6<=k)=true:=ga (by omega);have d2:decide (k<=8)=false:=ua (by omega)
   go_enter Tryz.func94,Tryz.ntmps94
   go_wp2_with fail
   refine (HL.out _).mono ?_
   rintro e w2 ⟨v2,rfl,hb,ho⟩;obtain ⟨va,vc,rfl⟩:=Xa ho;have H2:=Lib.hid (Vh.out.trans ((show Below W1.heap.size W1 w2 by rw [mg];exact hb).mono Vh.out.size));clear hb ho
   go_wp2_with fail
   go_ret
   exact ⟨rfl,H2.out⟩
end Go.Proofs.YtfnkmolffhfpoaaGreat
namespace Go.Proofs.YtfnkmolffhfpoaaGreat
namespace Sk
open Go.RowKit
section
variable{ρ:Nat->Int}{γ:Nat->Gh}
theorem P0{F:List (Value×Value)}(hF:∀p,p∈F-> @den (Th.at ρ γ) p.1= @den (Th.at ρ γ) p.2): @yG (Th.at ρ γ) Tryz.prog F gZ 94:=by
 letI:Interp:=Th.at ρ γ
 haveI:Wc:=Ia ρ γ
 intro args σ v σ' hg B w0 R w args' hS hl;unfold gZ at hg
 split at hg
 . rename_i c k x y
   split at hg
   . rename_i c0 cs
     split at hg
     . rename_i e z hx
       split at hg
       . rename_i he JA
         split at hg
         . rename_i hc;simp only [Da,Bool.and_eq_true]at hc;obtain ⟨s1,s2⟩:=hc;cases hg;obtain ⟨C,hC,fj⟩:=sD (ρ:=ρ) (γ:=γ) he;rw [zo _ _ _ JA]at hl;obtain ⟨p',l',rfl,hp,hl⟩:=hl.ya;obtain ⟨p2',l',rfl,SQ,hl⟩:=hl.ya;cases hl.ic;obtain ⟨c',jx,rfl⟩:=mi hp;obtain ⟨m',EG,rfl⟩:=mi SQ;obtain ⟨k',l',rfl,yI,EG⟩:=LR.ya EG;obtain ⟨a',l',rfl,Rx,EG⟩:=EG.ya;obtain ⟨b',l',rfl,SE,EG⟩:=EG.ya;cases EG.ic;obtain ⟨kn,rfl,hdk,k0,k1⟩:=Te yI s1;obtain ⟨an,rfl,hda,a0,a1⟩:=PL Rx s2;have hcv:c'=[.int .i64 C.th, .int .i64 C.sl, .int .i64 C.lo, .int .i64 C.bu]:=by
            unfold GO at jx;obtain ⟨x0,l',rfl,h0,jx⟩:=LR.ya jx;obtain ⟨x1,l',rfl,h1,jx⟩:=jx.ya;obtain ⟨x2,l',rfl,h2,jx⟩:=jx.ya;obtain ⟨x3,l',rfl,h3,jx⟩:=jx.ya;cases jx.ic;rw [Ej fj hC h0,Ej fj hC h1,Ej fj hC h2,Ej fj hC h3];rfl
           subst hcv;obtain ⟨⟨q,e1⟩,e2⟩:=Ue hF [e,k,x] (t:=tHd) (by decide);exact Eg hS (Yc R e1 (e2.trans (dHd fj hC hdk hda))) (aQ C fj kn an b' a0 (by omega) w)
         . cases hg
       . cases hg
     . cases hg
   . cases hg
 . cases hg
end
end Sk
end Go.Proofs.YtfnkmolffhfpoaaGreat
