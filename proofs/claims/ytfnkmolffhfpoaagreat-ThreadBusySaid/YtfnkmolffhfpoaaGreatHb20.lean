/- -/
import Derived.Test.YtfnkmolffhfpoaaGreatHb19
set_option linter.unusedVariables false
set_option linter.unusedSimpArgs false
namespace Go.Proofs.YtfnkmolffhfpoaaGreat
open Go.RowKit Go.BigFrame
def Mv.res(M:Mv)(x:Acc)(pu:Bool):Acc:=if(M.Ga x.pl).2 then⟨x.ki,x.th,x.pl,(M.Ga x.pl).1,x.ne,pu||x.ki==1⟩else x
def Mv.Oe(M:Mv)(x:Acc)(nw:Int)(pu:Bool):Mv:=(if(M.Ga x.pl).2&&pu then M.put x.pl nw else M).note (M.res x pu) (M.Ga x.pl).2
def im(M M':Mv)(v:Value)(W:World)(e:Ending)(W':World):Prop:=e= .returned v/\Ba W' M'/\Ea M.own W W'
theorem nd{W:World}{b:Nat}{k0 k1 k2 k3 k4 k5:Value}{t:TypeId}(h:W.heap[b]?=some (.cells #[k0,k1,k2,k3,k4,k5] t (0,0))):
  W.cell? ⟨b,0,none⟩=some k0/\W.cell? ⟨b,1,none⟩=some k1/\W.cell? ⟨b,2,none⟩=some k2/\W.cell? ⟨b,3,none⟩=some k3/\W.cell? ⟨b,4,none⟩=some k4/\W.cell? ⟨b,5,none⟩=some k5/\∀j,W.frozen? ⟨b,j,none⟩=false:=by
 refine ⟨?_, ?_, ?_, ?_, ?_, ?_,fun j=> ?_⟩
 all_goals first|(rw [cell_of_row _ _ _ _ _ _ h];rfl)|(unfold World.frozen?;rw [h];simp)
theorem td(W:World)(a b:Obj):((W.alloc a).alloc b).heap[W.heap.size]?=some a/\((W.alloc a).alloc b).heap[W.heap.size+1]?=some b:=by
 constructor
 . rw [Below.heap_alloc _ _ _ (by simp)];exact heap_alloc_new W a
 . have:=heap_alloc_new (W.alloc a) b;simpa using this
theorem Xc{W w:World}{a b:Obj}(h:w.heap=((W.alloc a).alloc b).heap):w.heap[W.heap.size]?=some a/\w.heap[W.heap.size+1]?=some b:=by
 rw [h];exact td W a b
theorem Hk{w:World}{b j:Nat}{u:Value}(v:Value)(h:w.cell? ⟨b,j,none⟩=some u):(w.setCell ⟨b,j,none⟩ v).cell? ⟨b,j,none⟩=some v:=by
 unfold World.cell? at h
 split at h
 . rename_i c t f e;simp at h;have hl:j<c.size:=(Array.getElem?_eq_some_iff.1 h).1
   rw [cell_of_row _ _ j _ _ _ (heap_set v e)];simp [hl]
 . cases h
theorem Xs{F:Nat->Prop}{a w:World}(h:Ea F a w){b:Nat}(hb:a.heap.size<=b)(v0 v1 v2 v3 v4 v5:Value):
  Ea F a ((((((w.setCell ⟨b,0,none⟩ v0).setCell ⟨b,1,none⟩ v1).setCell ⟨b,2,none⟩ v2).setCell ⟨b,3,none⟩ v3).setCell ⟨b,4,none⟩ v4).setCell ⟨b,5,none⟩ v5):=by
 have e:b<a.heap.size->F b:=fun x=>by omega
 exact ((((((h.set e _ _).set e _ _).set e _ _).set e _ _).set e _ _).set e _ _)
theorem Ba.six{w:World}{M:Mv}(h:Ba w M){b:Nat}(hb:¬M.own b)(v0 v1 v2 v3 v4 v5:Value):
  Ba ((((((w.setCell ⟨b,0,none⟩ v0).setCell ⟨b,1,none⟩ v1).setCell ⟨b,2,none⟩ v2).setCell ⟨b,3,none⟩ v3).setCell ⟨b,4,none⟩ v4).setCell ⟨b,5,none⟩ v5) M:=by
 refine h.keep fun k hk=> ?_
 have e:k≠b:=fun e=>hb (e▸hk)
 rw [aa e,aa e,aa e,aa e,aa e,aa e]
theorem Qq{w:World}{b:Nat}{k0 k1 k2 k3 k4 k5:Value}{t:TypeId}{f:Nat×Nat}(h:w.heap[b]?=some (.cells #[k0,k1,k2,k3,k4,k5] t f))(v0 v1 v2 v3 v4 v5:Value):
  ((((((w.setCell ⟨b,0,none⟩ v0).setCell ⟨b,1,none⟩ v1).setCell ⟨b,2,none⟩ v2).setCell ⟨b,3,none⟩ v3).setCell ⟨b,4,none⟩ v4).setCell ⟨b,5,none⟩ v5).heap[b]?=some (.cells #[v0,v1,v2,v3,v4,v5] t f):=by
 rw [heap_set v5 (heap_set v4 (heap_set v3 (heap_set v2 (heap_set v1 (heap_set v0 h)))))];rfl
theorem Gb{fn:Func}{s:Nat}(hf:fn.results=#[.cell s 112]){tmps:Array Value}{b:Nat}(ht:tmps.getD s undef= .pointer (some ⟨b,0,none⟩)){w:World}{v0 v1 v2 v3 v4 v5:Value}
  (h:w.heap[b]?=some (.cells #[v0,v1,v2,v3,v4,v5] 112 (0,0))):(results fn tmps).run Tryz.prog w= .ok (.agg #[v0,v1,v2,v3,v4,v5]) w:=by
 obtain ⟨z0,z1,z2,z3,z4,z5,zf⟩:=nd h;have dj:tmps[s]?.getD undef= .pointer (some ⟨b,0,none⟩):=by simpa using ht
 simp only [results,hf];simp [go_sem,dj,z0,z1,z2,z3,z4,z5]
theorem Ba.eb{W:World}{M:Mv}(h:Ba W M){k:Nat}(hk:W.heap.size<=k):¬M.own k:=fun e=>by have:=h.lt e;omega
set_option maxRecDepth 100000 in
theorem KI(M:Mv)(x:Acc)(fv:Value)(W:World)(h:Ba W M)(hc:M.ck<=1000000)(q0:-9223372036854775808<=x.pl)(q1:x.pl<=9223372036854775807)(hp:(M.Ga x.pl).2=false):
  Calls Tryz.prog 106 #[.pointer (some ⟨M.m,0,none⟩), .agg x.cells,fv] W (im M (M.note x false) (.agg x.cells) W):=by
 have HM:=Lib.hid h;have HP:Hid (∀w,Ba w M->Calls Tryz.prog 77 #[.pointer (some ⟨M.m,0,none⟩), .int .i64 x.pl] w (zh (.tuple #[.int .u64 (M.Ga x.pl).1, .bool false]) w)):=Lib.hid fun w hw=>by have:=WL M x.pl q0 q1 w hw;rw [hp]at this;exact this
 have HC:Hid (∀w,Ba w M->Calls Tryz.prog 205 #[.pointer (some ⟨M.m,0,none⟩), .agg x.cells, .bool false] w (Cq M (M.note x false) w)):=Lib.hid fun w hw=>sE M x false w hw hc
 clear h hp;generalize (M.Ga x.pl).1=o at*
 obtain ⟨N,hN⟩:∃N,N=M.note x false:=⟨_,rfl⟩;have HN:Hid (∀k,N.own k->M.own k):=Lib.hid fun k hk=>by rw [hN]at hk;exact hk
 rw [<-hN]at HC⊢;clear hN;obtain ⟨ki,th,pl,ol,ne,dn⟩:=x;simp only [Acc.cells]at*
 go_enter Tryz.func106,Tryz.ntmps106
 go_wp2_with fail
 refine (HP.out _ (HM.out.below (((Below.refl _ _).alloc (Nat.le_refl _) _).alloc (by simp) _))).mono ?_
 rintro e w1 ⟨rfl,hb,hh⟩;have HH:=Lib.hid hh;obtain ⟨ra,rr⟩:=Xc hh;obtain ⟨a0,a1,a2,a3,a4,a5,af⟩:=nd ra;obtain ⟨r0,r1,r2,r3,r4,r5,rf⟩:=nd rr;have HB:Hid (Below W.heap.size W w1):=Lib.hid ((((Below.refl _ _).alloc (Nat.le_refl _) _).alloc (by simp) _).trans (hb.mono (by simp;omega)));have HS:Hid (W.heap.size+1<w1.heap.size):=Lib.hid (by rw [hh];simp);have HA:=Lib.hid ra;have HR:=Lib.hid rr;clear hb hh ra rr
 go_wp2_with fail
 refine (HC.out _ (HM.out.below HB.out)).mono ?_
 rintro e w2 ⟨⟨x,rfl⟩,hm,ht⟩;have HT:=Lib.hid ((Ea.Tb (F:=M.own) HB.out).trans ht (fun _ _ h=>h));have ra:=(ht.block W.heap.size (by have:=HS.out;omega) (HM.out.eb (by omega))).trans HA.out
 have rr:=(ht.block (W.heap.size+1) (by have:=HS.out;omega) (HM.out.eb (by omega))).trans HR.out
 have Kf:=Lib.hid hm;clear hm ht a0 a1 a2 a3 a4 a5 af r0 r1 r2 r3 r4 r5 rf;obtain ⟨a0,a1,a2,a3,a4,a5,af⟩:=nd ra;obtain ⟨r0,r1,r2,r3,r4,r5,rf⟩:=nd rr;have eC:=Lib.hid ra;have HR2:=Lib.hid rr;clear ra rr
 go_wp2_with fail
 refine bodyPost_ret (v:= .agg #[.int .i64 ki, .int .i64 th, .int .i64 pl, .int .u64 ol, .int .u64 ne, .bool dn]) ?_ rfl ?_
 . exact Gb rfl rfl (Qq HR2.out _ _ _ _ _ _)
 . exact ⟨rfl,Kf.out.six (fun e=>HM.out.eb (by omega) (HN.out _ e)) _ _ _ _ _ _,Xs HT.out (by omega) _ _ _ _ _ _⟩
set_option maxRecDepth 100000 in
theorem fC(M:Mv)(x:Acc)(f:Nat)(lb:Array Value)(nw:Int)(ef:∀args w,(callFunc f args).run Tryz.prog w= .ok (.enter f args) w)(W:World)(h:Ba W M)(hc:M.ck<=1000000)(q0:-9223372036854775808<=x.pl)(q1:x.pl<=9223372036854775807)(hp:(M.Ga x.pl).2=true)
  (hf:∀w1,Below W.heap.size W w1->Calls Tryz.prog f (#[.int .u64 (M.Ga x.pl).1]++lb) w1 (zh (.tuple #[.int .u64 nw, .bool true]) w1)):
  Calls Tryz.prog 106 #[.pointer (some ⟨M.m,0,none⟩), .agg x.cells, .func (.func f) #[] lb] W (im M ((M.put x.pl nw).note ⟨x.ki,x.th,x.pl,(M.Ga x.pl).1,x.ne,true||x.ki==1⟩ true) (.agg (Acc.cells ⟨x.ki,x.th,x.pl,(M.Ga x.pl).1,x.ne,true||x.ki==1⟩)) W):=by
 have HM:=Lib.hid h;have HP:Hid (∀w,Ba w M->Calls Tryz.prog 77 #[.pointer (some ⟨M.m,0,none⟩), .int .i64 x.pl] w (zh (.tuple #[.int .u64 (M.Ga x.pl).1, .bool true]) w)):=Lib.hid fun w hw=>by have:=WL M x.pl q0 q1 w hw;rw [hp]at this;exact this
 have HQ:Hid (∀w,Ba w M->Calls Tryz.prog 204 #[.pointer (some ⟨M.m,0,none⟩), .int .i64 x.pl, .int .u64 nw] w (Cq M (M.put x.pl nw) w)):=Lib.hid fun w hw=>wap M x.pl nw w hw hp
 have HO:Hid (∀k,(M.put x.pl nw).own k->M.own k):=Lib.hid fun k hk=>by rw [Mv.AG]at hk;exact hk
 have ej:(M.put x.pl nw).ck<=1000000:=by rw [Mv.Ws];exact hc
 have X1:(M.put x.pl nw).m=M.m:=Mv.ET _ _ _
 have HF:=Lib.hid hf;clear h hp hf;generalize (M.Ga x.pl).1=o at*
 obtain ⟨y,hy⟩:∃y,y=(true||x.ki==1):=⟨_,rfl⟩;rw [<-hy];obtain ⟨N0,TQ⟩:∃N0,N0=M.put x.pl nw:=⟨_,rfl⟩;rw [<-TQ]at HQ HO ej X1⊢;clear TQ;have HC:Hid (∀w,Ba w N0->Calls Tryz.prog 205 #[.pointer (some ⟨M.m,0,none⟩), .agg (Acc.cells ⟨x.ki,x.th,x.pl,o,x.ne,y⟩), .bool true] w (Cq N0 (N0.note ⟨x.ki,x.th,x.pl,o,x.ne,y⟩ true) w)):=Lib.hid fun w hw=>by have:=sE N0 ⟨x.ki,x.th,x.pl,o,x.ne,y⟩ true w hw ej;rw [X1]at this;exact this
 obtain ⟨N,hN⟩:∃N,N=N0.note ⟨x.ki,x.th,x.pl,o,x.ne,y⟩ true:=⟨_,rfl⟩;have HN:Hid (∀k,N.own k->M.own k):=Lib.hid fun k hk=>HO.out k (by rw [hN]at hk;exact hk)
 rw [<-hN]at HC⊢;clear hN ej X1;obtain ⟨ki,th,pl,ol,ne,dn⟩:=x;simp only [Acc.cells]at*;have HY:=Lib.hid hy;clear hy
 go_enter Tryz.func106,Tryz.ntmps106
 go_wp2_with fail
 refine (HP.out _ (HM.out.below (((Below.refl _ _).alloc (Nat.le_refl _) _).alloc (by simp) _))).mono ?_
 rintro e w1 ⟨rfl,hb,hh⟩;obtain ⟨ra,rr⟩:=Xc hh;obtain ⟨a0,a1,a2,a3,a4,a5,af⟩:=nd ra;have HB:Hid (Below W.heap.size W w1):=Lib.hid ((((Below.refl _ _).alloc (Nat.le_refl _) _).alloc (by simp) _).trans (hb.mono (by simp;omega)));have HS:Hid (W.heap.size+1<w1.heap.size):=Lib.hid (by rw [hh];simp);have HA:=Lib.hid ra;have HR:=Lib.hid rr;clear hb hh ra rr
 go_wp2_with fail
 with_reducible refine (HF.out _ (HB.out.setCell (Nat.le_refl _) _)).mono ?_
 rintro e w2 ⟨rfl,hb,hh⟩;have ra:=heap_set (j:=3) (.int .u64 o) HA.out;have rr:=(aa (j:=3) (v:= .int .u64 o) (show W.heap.size+1≠W.heap.size by omega)).trans HR.out
 rw [<-hh]at ra rr;have vD:Hid (Below W.heap.size W w2):=Lib.hid ((HB.out.setCell (Nat.le_refl _) _).trans (hb.mono (by have:=HS.out;simp [World.setCell];omega)));have UQ:Hid (W.heap.size+1<w2.heap.size):=Lib.hid (by rw [hh];have:=HS.out;simpa [World.setCell]using this);simp only [List.setIfInBounds_toArray,List.set_cons_succ,List.set_cons_zero]at ra;have eC:=Lib.hid ra;have HR2:=Lib.hid rr;clear a0 a1 a2 a3 a4 a5 af hb hh;obtain ⟨a0,a1,a2,a3,a4,a5,af⟩:=nd ra;clear ra rr
 go_wp2_with fail
 refine (HQ.out _ (HM.out.below vD.out)).mono ?_
 rintro e w3 ⟨⟨u,rfl⟩,hm,ht⟩;have HT3:=Lib.hid ((Ea.Tb (F:=M.own) vD.out).trans ht (fun _ _ h=>h));have ra:=(ht.block W.heap.size (by have:=UQ.out;omega) (HM.out.eb (by omega))).trans eC.out
 have rr:=(ht.block (W.heap.size+1) (by have:=UQ.out;omega) (HM.out.eb (by omega))).trans HR2.out
 have KX:Hid (W.heap.size+1<w3.heap.size):=Lib.hid (Nat.lt_of_lt_of_le UQ.out ht.size);have HM3:=Lib.hid hm;have HA3:=Lib.hid ra;have HR3:=Lib.hid rr;clear hm ht a0 a1 a2 a3 a4 a5 af;obtain ⟨a0,a1,a2,a3,a4,a5,af⟩:=nd ra;clear ra rr
 go_wp2_with fail
 obtain rfl:y=true:=by rw [HY.out];simp
 have hmA:Ba (w3.setCell ⟨W.heap.size,5,none⟩ (.bool true)) N0:=HM3.out.keep fun k hk=>aa fun e=>HM.out.eb (Nat.le_refl _) (e▸HO.out k hk)
 refine (HC.out _ hmA).mono ?_
 rintro e w4 ⟨⟨u',rfl⟩,hm,ht⟩;have HT4:Hid (Ea M.own W w4):=Lib.hid ((HT3.out.set (fun e=>absurd e (by omega)) _ _).trans ht (fun k _ hk=>HO.out k hk));have ra:=(ht.block W.heap.size (by have:=KX.out;simp [World.setCell];omega) (fun e=>HM.out.eb (Nat.le_refl _) (HO.out _ e))).trans (heap_set (j:=5) (.bool true) HA3.out)
 have rr:=(ht.block (W.heap.size+1) (by have:=KX.out;simp [World.setCell];omega) (fun e=>HM.out.eb (by omega) (HO.out _ e))).trans ((aa (j:=5) (v:= .bool true) (show W.heap.size+1≠W.heap.size by omega)).trans HR3.out)
 simp only [List.setIfInBounds_toArray,List.set_cons_succ,List.set_cons_zero]at ra;have HM4:=Lib.hid hm;have HR4:=Lib.hid rr;clear hm ht a0 a1 a2 a3 a4 a5 af hmA;obtain ⟨a0,a1,a2,a3,a4,a5,af⟩:=nd ra;obtain ⟨r0,r1,r2,r3,r4,r5,rf⟩:=nd rr;clear ra rr
 go_wp2_with fail
 refine bodyPost_ret (v:= .agg #[.int .i64 ki, .int .i64 th, .int .i64 pl, .int .u64 o, .int .u64 ne, .bool true]) ?_ rfl ?_
 . exact Gb rfl rfl (Qq HR4.out _ _ _ _ _ _)
 . exact ⟨rfl,HM4.out.six (fun e=>HM.out.eb (by omega) (HN.out _ e)) _ _ _ _ _ _,Xs HT4.out (by omega) _ _ _ _ _ _⟩
set_option maxRecDepth 100000 in
theorem tz(M:Mv)(x:Acc)(f:Nat)(lb:Array Value)(nw:Int)(ef:∀args w,(callFunc f args).run Tryz.prog w= .ok (.enter f args) w)(W:World)(h:Ba W M)(hc:M.ck<=1000000)(q0:-9223372036854775808<=x.pl)(q1:x.pl<=9223372036854775807)(hp:(M.Ga x.pl).2=true)
  (hf:∀w1,Below W.heap.size W w1->Calls Tryz.prog f (#[.int .u64 (M.Ga x.pl).1]++lb) w1 (zh (.tuple #[.int .u64 nw, .bool false]) w1)):
  Calls Tryz.prog 106 #[.pointer (some ⟨M.m,0,none⟩), .agg x.cells, .func (.func f) #[] lb] W (im M (M.note ⟨x.ki,x.th,x.pl,(M.Ga x.pl).1,x.ne,false||x.ki==1⟩ true) (.agg (Acc.cells ⟨x.ki,x.th,x.pl,(M.Ga x.pl).1,x.ne,false||x.ki==1⟩)) W):=by
 have HM:=Lib.hid h;have HP:Hid (∀w,Ba w M->Calls Tryz.prog 77 #[.pointer (some ⟨M.m,0,none⟩), .int .i64 x.pl] w (zh (.tuple #[.int .u64 (M.Ga x.pl).1, .bool true]) w)):=Lib.hid fun w hw=>by have:=WL M x.pl q0 q1 w hw;rw [hp]at this;exact this
 have HF:=Lib.hid hf;clear h hp hf;generalize (M.Ga x.pl).1=o at*
 obtain ⟨y,hy⟩:∃y,y=(false||x.ki==1):=⟨_,rfl⟩;rw [<-hy];obtain ⟨N0,TQ⟩:∃N0,N0=M:=⟨_,rfl⟩;have ej:N0.ck<=1000000:=by rw [TQ];exact hc
 have X1:N0.m=M.m:=by rw [TQ]
 have HO:Hid (∀k,N0.own k->M.own k):=Lib.hid fun k hk=>by rw [TQ]at hk;exact hk
 have HE:=Lib.hid TQ;rw [show M.note ⟨x.ki,x.th,x.pl,o,x.ne,y⟩ true=N0.note ⟨x.ki,x.th,x.pl,o,x.ne,y⟩ true by rw [TQ]];clear TQ;have HC:Hid (∀w,Ba w N0->Calls Tryz.prog 205 #[.pointer (some ⟨M.m,0,none⟩), .agg (Acc.cells ⟨x.ki,x.th,x.pl,o,x.ne,y⟩), .bool true] w (Cq N0 (N0.note ⟨x.ki,x.th,x.pl,o,x.ne,y⟩ true) w)):=Lib.hid fun w hw=>by have:=sE N0 ⟨x.ki,x.th,x.pl,o,x.ne,y⟩ true w hw ej;rw [X1]at this;exact this
 obtain ⟨N,hN⟩:∃N,N=N0.note ⟨x.ki,x.th,x.pl,o,x.ne,y⟩ true:=⟨_,rfl⟩;have HN:Hid (∀k,N.own k->M.own k):=Lib.hid fun k hk=>HO.out k (by rw [hN]at hk;exact hk)
 rw [<-hN]at HC⊢;clear hN ej X1;obtain ⟨ki,th,pl,ol,ne,dn⟩:=x;simp only [Acc.cells]at*;have HY:=Lib.hid hy;clear hy
 go_enter Tryz.func106,Tryz.ntmps106
 go_wp2_with fail
 refine (HP.out _ (HM.out.below (((Below.refl _ _).alloc (Nat.le_refl _) _).alloc (by simp) _))).mono ?_
 rintro e w1 ⟨rfl,hb,hh⟩;obtain ⟨ra,rr⟩:=Xc hh;obtain ⟨a0,a1,a2,a3,a4,a5,af⟩:=nd ra;have HB:Hid (Below W.heap.size W w1):=Lib.hid ((((Below.refl _ _).alloc (Nat.le_refl _) _).alloc (by simp) _).trans (hb.mono (by simp;omega)));have HS:Hid (W.heap.size+1<w1.heap.size):=Lib.hid (by rw [hh];simp);have HA:=Lib.hid ra;have HR:=Lib.hid rr;clear hb hh ra rr
 go_wp2_with fail
 with_reducible refine (HF.out _ (HB.out.setCell (Nat.le_refl _) _)).mono ?_
 rintro e w2 ⟨rfl,hb,hh⟩;have ra:=heap_set (j:=3) (.int .u64 o) HA.out;have rr:=(aa (j:=3) (v:= .int .u64 o) (show W.heap.size+1≠W.heap.size by omega)).trans HR.out
 rw [<-hh]at ra rr;have vD:Hid (Below W.heap.size W w2):=Lib.hid ((HB.out.setCell (Nat.le_refl _) _).trans (hb.mono (by have:=HS.out;simp [World.setCell];omega)));have UQ:Hid (W.heap.size+1<w2.heap.size):=Lib.hid (by rw [hh];have:=HS.out;simpa [World.setCell]using this);simp only [List.setIfInBounds_toArray,List.set_cons_succ,List.set_cons_zero]at ra;have eC:=Lib.hid ra;have HR2:=Lib.hid rr;clear a0 a1 a2 a3 a4 a5 af hb hh;obtain ⟨a0,a1,a2,a3,a4,a5,af⟩:=nd ra;clear ra rr;have HT3:Hid (Ea M.own W w2):=Lib.hid (Ea.Tb vD.out);have HM3:Hid (Ba w2 N0):=Lib.hid (by rw [HE.out];exact HM.out.below vD.out);have HA3:=eC;have HR3:=HR2;have KX:=UQ
 go_wp2_with fail
 have ky:(ki==1)=y:=by rw [HY.out];simp
 rw [ky];have hmA:Ba (w2.setCell ⟨W.heap.size,5,none⟩ (.bool y)) N0:=HM3.out.keep fun k hk=>aa fun e=>HM.out.eb (Nat.le_refl _) (e▸HO.out k hk)
 refine (HC.out _ hmA).mono ?_
 rintro e w4 ⟨⟨u',rfl⟩,hm,ht⟩;have HT4:Hid (Ea M.own W w4):=Lib.hid ((HT3.out.set (fun e=>absurd e (by omega)) _ _).trans ht (fun k _ hk=>HO.out k hk));have ra:=(ht.block W.heap.size (by have:=KX.out;simp [World.setCell];omega) (fun e=>HM.out.eb (Nat.le_refl _) (HO.out _ e))).trans (heap_set (j:=5) (.bool y) HA3.out)
 have rr:=(ht.block (W.heap.size+1) (by have:=KX.out;simp [World.setCell];omega) (fun e=>HM.out.eb (by omega) (HO.out _ e))).trans ((aa (j:=5) (v:= .bool y) (show W.heap.size+1≠W.heap.size by omega)).trans HR3.out)
 simp only [List.setIfInBounds_toArray,List.set_cons_succ,List.set_cons_zero]at ra;have HM4:=Lib.hid hm;have HR4:=Lib.hid rr;clear hm ht a0 a1 a2 a3 a4 a5 af hmA;obtain ⟨a0,a1,a2,a3,a4,a5,af⟩:=nd ra;obtain ⟨r0,r1,r2,r3,r4,r5,rf⟩:=nd rr;clear ra rr
 go_wp2_with fail
 refine bodyPost_ret (v:= .agg #[.int .i64 ki, .int .i64 th, .int .i64 pl, .int .u64 o, .int .u64 ne, .bool y]) ?_ rfl ?_
 . exact Gb rfl rfl (Qq HR4.out _ _ _ _ _ _)
 . exact ⟨rfl,HM4.out.six (fun e=>HM.out.eb (by omega) (HN.out _ e)) _ _ _ _ _ _,Xs HT4.out (by omega) _ _ _ _ _ _⟩
theorem Rq(M:Mv)(x:Acc)(f:Nat)(lb:Array Value)(nw:Int)(pu:Bool)(ef:∀args w,(callFunc f args).run Tryz.prog w= .ok (.enter f args) w)(W:World)(h:Ba W M)(hc:M.ck<=1000000)(q0:-9223372036854775808<=x.pl)(q1:x.pl<=9223372036854775807)
  (hf:∀w1,Below W.heap.size W w1->Calls Tryz.prog f (#[.int .u64 (M.Ga x.pl).1]++lb) w1 (zh (.tuple #[.int .u64 nw, .bool pu]) w1)):
  Calls Tryz.prog 106 #[.pointer (some ⟨M.m,0,none⟩), .agg x.cells, .func (.func f) #[] lb] W (im M (M.Oe x nw pu) (.agg (M.res x pu).cells) W):=by
 unfold Mv.Oe Mv.res;by_cases hp:(M.Ga x.pl).2=true
 . rw [if_pos hp,hp];cases pu
   . exact tz M x f lb nw ef W h hc q0 q1 hp hf
   . exact fC M x f lb nw ef W h hc q0 q1 hp hf
 . have lG:(M.Ga x.pl).2=false:=by simpa using hp
   rw [if_neg hp,lG];exact KI M x _ W h hc q0 q1 lG
def Mv.load(M:Mv)(t at_:Int):Mv:=M.Oe ⟨1,t,at_,0,0,false⟩ 0 false
def Mv.store(M:Mv)(t at_ w:Int):Mv:=M.Oe ⟨2,t,at_,0,w,false⟩ w true
def Mv.swap(M:Mv)(t at_ old w:Int):Mv:=M.Oe ⟨3,t,at_,0,w,false⟩ w ((M.Ga at_).1==old)
theorem Mv.uo(M:Mv)(x:Acc)(nw:Int)(pu:Bool):(M.Oe x nw pu).own=M.own:=by
 unfold Mv.Oe;split
 . exact Mv.AG M _ _
 . rfl
theorem VQ{M:Mv}{at_:Int}(h:(M.Ga at_).2=false):(M.Ga at_).1=0:=by
 unfold Mv.Ga fe at*;by_cases h0:0<=at_<;>by_cases h1:at_/8<(M.n:Int)<;>by_cases h2:-1 -at_<(M.np:Int)<;>simp [h0,h1,h2]at h⊢
theorem LX(M:Mv)(x:Acc)(h:x.ol=0)(pu:Bool):(M.res x pu).ol=(M.Ga x.pl).1:=by
 unfold Mv.res;by_cases hp:(M.Ga x.pl).2=true
 . rw [if_pos hp]
 . rw [if_neg hp,h,VQ (by simpa using hp)]
set_option maxRecDepth 100000 in
theorem MX(M:Mv)(t at_:Int)(q0:-9223372036854775808<=at_)(q1:at_<=9223372036854775807)(W:World)(h:Ba W M)(hc:M.ck<=1000000):
  Calls Tryz.prog 64 #[.pointer (some ⟨M.m,0,none⟩), .int .i64 t, .int .i64 at_] W (im M (M.load t at_) (.int .u64 (M.Ga at_).1) W):=by
 have H:=Lib.hid (Rq M ⟨1,t,at_,0,0,false⟩ 168 #[] 0 false (ja Tryz.func168 (by kernel_rfl) rfl) W h hc q0 q1 (fun w1 _=>QQ _ w1));have HO:=Lib.hid (LX M ⟨1,t,at_,0,0,false⟩ rfl false);have hO:∀k,(M.load t at_).own k->M.own k:=fun k hk=>by unfold Mv.load at hk;rw [Mv.uo]at hk;exact hk
 unfold Mv.load at*;generalize M.Oe ⟨1,t,at_,0,0,false⟩ 0 false=N at*;generalize M.res ⟨1,t,at_,0,0,false⟩ false=r at*;obtain ⟨o,ho⟩:∃o,o=(M.Ga at_).1:=⟨_,rfl⟩
 have HO2:Hid (r.ol=o):=Lib.hid (by rw [ho];exact HO.out);rw [<-ho];obtain ⟨ki,th,pl,ol,ne,dn⟩:=r;simp only [Acc.cells]at*;have HO3:Hid (ol=o):=HO2;have HH:=Lib.hid h;have HL:=Lib.hid hO;clear HO HO2 ho h hO
 go_enter Tryz.func64,Tryz.ntmps64
 go_wp2_with fail
 refine H.out.mono ?_
 rintro e w1 ⟨rfl,hm,ht⟩;have HM:=Lib.hid hm;have HT:=Lib.hid ht;clear hm ht
 go_wp2_with fail
 go_ret
 exact ⟨lh (by rw [HO3.out];rfl),HM.out.below ((Below.refl _ _).alloc (Nat.le_refl _) _),HT.out.alloc _⟩
set_option maxRecDepth 100000 in
theorem WQ(M:Mv)(t at_ v:Int)(q0:-9223372036854775808<=at_)(q1:at_<=9223372036854775807)(W:World)(h:Ba W M)(hc:M.ck<=1000000):
  Calls Tryz.prog 46 #[.pointer (some ⟨M.m,0,none⟩), .int .i64 t, .int .i64 at_, .int .u64 v] W (Cq M (M.store t at_ v) W):=by
 have H:Hid (∀o,Calls Tryz.prog 106 #[.pointer (some ⟨M.m,0,none⟩), .agg (Acc.cells ⟨2,t,at_,0,v,false⟩), .func (.func 107) #[] #[.pointer (some ⟨W.heap.size,0,none⟩)]] (W.alloc (.cells #[.int .u64 v] o)) (im M (M.store t at_ v) (.agg (M.res ⟨2,t,at_,0,v,false⟩ true).cells) (W.alloc (.cells #[.int .u64 v] o)))):=Lib.hid fun o=>by
  refine Rq M ⟨2,t,at_,0,v,false⟩ 107 _ v true (ja Tryz.func107 (by kernel_rfl) rfl) _ (h.below ((Below.refl _ _).alloc (Nat.le_refl _) _)) hc q0 q1 (fun w1 hb=> ?_);exact aC _ v W.heap.size w1 ((hb.cell (p:=⟨W.heap.size,0,none⟩) (by simp)).trans (cell_of_row _ _ 0 _ _ _ (heap_alloc_new W _)))
 generalize M.store t at_ v=N at*;generalize M.res ⟨2,t,at_,0,v,false⟩ true=r at*;simp only [Acc.cells]at*;clear h
 go_enter Tryz.func46,Tryz.ntmps46
 go_wp2_with fail
 refine (H.out _).mono ?_
 rintro e w1 ⟨rfl,hm,ht⟩;have HM:=Lib.hid hm;have HT:=Lib.hid ht;clear hm ht
 go_wp2_with fail
 go_end0
 exact ⟨⟨_,rfl⟩,HM.out,((Ea.refl _ _).alloc _).trans HT.out (fun _ _ h=>h)⟩
set_option maxRecDepth 100000 in
theorem NX(M:Mv)(t at_ old v:Int)(q0:-9223372036854775808<=at_)(q1:at_<=9223372036854775807)(W:World)(h:Ba W M)(hc:M.ck<=1000000):
  Calls Tryz.prog 65 #[.pointer (some ⟨M.m,0,none⟩), .int .i64 t, .int .i64 at_, .int .u64 old, .int .u64 v] W (im M (M.swap t at_ old v) (.bool (M.swap t at_ old v).la.dn) W):=by
 have H:Hid (∀o o',Calls Tryz.prog 106 #[.pointer (some ⟨M.m,0,none⟩), .agg (Acc.cells ⟨3,t,at_,0,v,false⟩), .func (.func 169) #[] #[.pointer (some ⟨W.heap.size+1,0,none⟩), .pointer (some ⟨W.heap.size,0,none⟩)]] ((W.alloc (.cells #[.int .u64 old] o)).alloc (.cells #[.int .u64 v] o')) (im M (M.swap t at_ old v) (.agg (M.res ⟨3,t,at_,0,v,false⟩ ((M.Ga at_).1==old)).cells) ((W.alloc (.cells #[.int .u64 old] o)).alloc (.cells #[.int .u64 v] o')))):=Lib.hid fun o o'=>by
  refine Rq M ⟨3,t,at_,0,v,false⟩ 169 _ v _ (ja Tryz.func169 (by kernel_rfl) rfl) _ (h.below (((Below.refl _ _).alloc (Nat.le_refl _) _).alloc (by simp) _)) hc q0 q1 (fun w1 hb=> ?_);have e:=td W (.cells #[.int .u64 old] o) (.cells #[.int .u64 v] o');exact RQ _ v old (W.heap.size+1) W.heap.size w1 ((hb.cell (p:=⟨W.heap.size+1,0,none⟩) (by simp)).trans (cell_of_row _ _ 0 _ _ _ e.2)) ((hb.cell (p:=⟨W.heap.size,0,none⟩) (by simp;omega)).trans (cell_of_row _ _ 0 _ _ _ e.1))
 have HO:Hid ((M.swap t at_ old v).la=M.res ⟨3,t,at_,0,v,false⟩ ((M.Ga at_).1==old)):=Lib.hid rfl;generalize M.swap t at_ old v=N at*;generalize M.res ⟨3,t,at_,0,v,false⟩ ((M.Ga at_).1==old)=r at*;obtain ⟨y,hy⟩:∃y,y=N.la.dn:=⟨_,rfl⟩;have HY:Hid (r.dn=y):=Lib.hid (by rw [hy,HO.out]);rw [<-hy];obtain ⟨ki,th,pl,ol,ne,dn⟩:=r;simp only [Acc.cells]at*;have HY2:Hid (dn=y):=HY;clear h HO HY hy
 go_enter Tryz.func65,Tryz.ntmps65
 go_wp2_with fail
 refine (H.out _ _).mono ?_
 rintro e w1 ⟨rfl,hm,ht⟩;have HM:=Lib.hid hm;have HT:=Lib.hid ht;clear hm ht
 go_wp2_with fail
 go_ret
 exact ⟨lh (by rw [HY2.out];rfl),HM.out.below ((Below.refl _ _).alloc (Nat.le_refl _) _),((((Ea.refl _ _).alloc _).alloc _).trans HT.out (fun _ _ h=>h)).alloc _⟩
theorem LI{l:List Int}{i:Nat}{x y:Int}(h:y∈Vg l i x):y=x\/y∈l:=by
 unfold Vg at h;rw [List.mem_append,List.mem_cons]at h;rcases h with h|h|h
 . exact Or.inr (List.mem_of_mem_take h)
 . exact Or.inl h
 . exact Or.inr (List.mem_of_mem_drop h)
theorem MI{l:List Int}{i:Nat}{x y:Int}:y∈Vg l i x<->y=x\/y∈l:=by
 constructor
 . exact LI
 . intro h;unfold Vg;rw [List.mem_append,List.mem_cons];rcases h with rfl|h
   . exact Or.inr (Or.inl rfl)
   . rw [<-List.take_append_drop i l,List.mem_append]at h;rcases h with h|h
     . exact Or.inl h
     . exact Or.inr (Or.inr h)
theorem gC(l:List Int)(x:Int)(hs:l.Pairwise (·<·)):(∀y∈l.take (l.countP (·<x)),y<x)/\(∀y∈l.drop (l.countP (·<x)),x<=y):=by
 induction l with
 |nil=>simp
 |cons a l ih=>
  obtain ⟨h1,h2⟩:=List.pairwise_cons.1 hs
  obtain ⟨i1,i2⟩:=ih h2;by_cases ha:a<x
  . rw [List.countP_cons_of_pos (by simpa using ha),List.take_succ_cons,List.drop_succ_cons];refine ⟨fun y hy=> ?_,i2⟩;rcases List.mem_cons.1 hy with rfl|hy
    . exact ha
    . exact i1 y hy
  . have:l.countP (·<x)=0:=by
     rw [List.countP_eq_zero];intro y hy;have:=h1 y hy;simp;omega
    rw [List.countP_cons_of_neg (by simpa using ha),this];refine ⟨by simp,fun y hy=> ?_⟩;simp at hy;rcases hy with rfl|hy
    . omega
    . have:=h1 y hy;omega
theorem iC{l:List Int}{x y:Int}:y∈Vs l x<->y=x\/y∈l:=by
 unfold Vs
 split
 . rename_i h;have:x∈l:=by simpa using h
   constructor
   . exact Or.inr
   . rintro (rfl|h)
     . exact this
     . exact h
 . exact MI
theorem NI{l:List Int}{x:Int}(hs:l.Pairwise (·<·)):(Vs l x).Pairwise (·<·):=by
 unfold Vs
 split
 . exact hs
 . rename_i h;have hx:x∉l:=by simpa using h
   obtain ⟨h1,h2⟩:=gC l x hs;unfold Vg;rw [List.pairwise_append];refine ⟨hs.sublist (List.take_sublist _ _), ?_, ?_⟩
   . rw [List.pairwise_cons];refine ⟨fun y hy=> ?_,hs.sublist (List.drop_sublist _ _)⟩;have:=h2 y hy;have:y≠x:=fun e=>hx (e▸List.mem_of_mem_drop hy)
     omega
   . intro y hy z hz;have a:=h1 y hy;rcases List.mem_cons.1 hz with rfl|hz
     . exact a
     . have:=h2 z hz;omega
theorem jC:∀(l:List Int) (n:Nat) (a:Int),l.Pairwise (·<·)->(∀x∈l,a<=x/\x<n)->a<=n->(l.length:Int)<=n -a
 |[],n,a,_,_,h=>by simp;omega
 |x::l,n,a,hs,h,hn=>by
  obtain ⟨h1,h2⟩:=List.pairwise_cons.1 hs
  have hx:=h x (by simp);have:=jC l n (x+1) h2 (fun y hy=>by have:=h1 y hy;have:=h y (by simp [hy]);omega) (by omega);simp;omega
theorem Ba.XL{W:World}{M:Mv}(h:Ba W M){t:Nat}(ht:t<M.nt):(M.fl t).length<=M.n:=by
 have:=jC (M.fl t) M.n 0 (h.qE t ht) (h.inn t ht) (by omega);omega
theorem Ba.Ys{W W1:World}{M:Mv}(h:Ba W M){t:Nat}(ht:t<M.nt){v':Value}{l':List Int}(hT:Ea (fun k=>(M.fv t).ownBlock=some k) W W1)(hl:Ze W1 v' l')(hv:∀g,v'.ownBlock=some g->(M.fv t).ownBlock=some g\/W.heap.size<=g)
  (hs:l'.Pairwise (·<·))(hi:∀x∈l',0<=x/\x<M.n):
  Ba (W1.setCell ⟨M.fb,t,none⟩ v') {M with fl:=Ed M.fl t l',fv:=Ed M.fv t v'}/\Ea M.own W (W1.setCell ⟨M.fb,t,none⟩ v')/\∀k,({M with fl:=Ed M.fl t l',fv:=Ed M.fv t v'}:Mv).own k->M.own k\/W.heap.size<=k:=by
 have n:=h.ne;have o1:∀k,k∈M.blocks->W1.heap[k]?=W.heap[k]?:=fun k hk=>hT.block k (h.lt (Or.inl hk)) fun e=>h.alone t ht k e hk
 have o:∀k,k∈M.blocks->k≠M.fb->(W1.setCell ⟨M.fb,t,none⟩ v').heap[k]?=W.heap[k]?:=fun k hk e=>(aa e).trans (o1 k hk)
 have FT:M.fb∈M.blocks:=by simp [Mv.blocks]
 have UF:M.fb<W.heap.size:=h.lt (Or.inl FT);refine ⟨?_, ?_, ?_⟩
 . exact {h with
    row:=(o _ (by simp [Mv.blocks]) n.mf).trans h.row
    dev:=(o _ (by simp [Mv.blocks]) n.df).trans h.dev
    kept:=h.kept.keep (o _ (by simp [Mv.blocks]) n.kf)
    seen:=h.seen.keep (o _ (by simp [Mv.blocks]) n.sf)
    wr:=h.wr.keep (o _ (by simp [Mv.blocks]) n.wf)
    fb:=(h.fb.keep (o1 _ FT)).set t v'
    pass:=h.pass.keep (o _ (by simp [Mv.blocks]) (Ne.symm n.fp))
    fl:=fun t' dj=>by
     show Ze _ (Ed M.fv t v' t') (Ed M.fl t l' t')
     by_cases e:t'=t
     . subst e;rw [Ec,Ec];refine hl.keep fun g hg=>aa fun e=> ?_
       rcases hv g hg with h1|h1
       . exact h.alone _ ht g h1 (e▸FT)
       . omega
     . rw [mc _ _ e,mc _ _ e];refine (h.fl t' dj).keep fun g hg=> ?_
       rw [aa (fun(e':g=M.fb)=>h.alone t' dj g hg (e'▸FT))];exact hT.block g ((h.fl t' dj).lt hg) fun e'=>h.lone t ht t' dj (Ne.symm e) g e' hg
    alone:=fun t' dj g hg hb=>by
     have hg:(Ed M.fv t v' t').ownBlock=some g:=hg
     have hb:g∈M.blocks:=hb;by_cases e:t'=t
     . subst e;rw [Ec]at hg;rcases hv g hg with h1|h1
       . exact h.alone _ ht g h1 hb
       . have:=h.lt (Or.inl hb);omega
     . rw [mc _ _ e]at hg;exact h.alone t' dj g hg hb
    lone:=fun a ha b hb OX g hg0 A4=>by
     have hg:(Ed M.fv t v' a).ownBlock=some g:=hg0
     have Qp:(Ed M.fv t v' b).ownBlock=some g:=A4
     have ha:a<M.nt:=ha;have hb:b<M.nt:=hb;clear hg0 A4;by_cases e:a=t
     . rw [e,Ec]at hg;rw [mc _ _ (fun e'=>OX (e.trans e'.symm))]at Qp;rcases hv g hg with h1|h1
       . exact h.lone _ ht b hb (fun e'=>OX (e.trans e')) g h1 Qp
       . have:=(h.fl b hb).lt Qp;omega
     . rw [mc _ _ e]at hg;by_cases e':b=t
       . rw [e',Ec]at Qp;rcases hv g Qp with h1|h1
         . exact h.lone a ha _ ht e g hg h1
         . have:=(h.fl a ha).lt hg;omega
       . rw [mc _ _ e']at Qp;exact h.lone a ha b hb OX g hg Qp
    qE:=fun t' dj=>by
     show(Ed M.fl t l' t').Pairwise (·<·)
     by_cases e:t'=t
     . subst e;rw [Ec];exact hs
     . rw [mc _ _ e];exact h.qE t' dj
    inn:=fun t' dj=>by
     show∀x∈Ed M.fl t l' t',0<=x/\x<M.n
     by_cases e:t'=t
     . subst e;rw [Ec];exact hi
     . rw [mc _ _ e];exact h.inn t' dj}
 . exact (hT.mono fun k _ e=>Or.inr ⟨t,ht,e⟩).set (fun _=>Or.inl FT) _ _
 . rintro k (hk|⟨t',dj,hk⟩)
   . exact Or.inl (Or.inl hk)
   . have hk:(Ed M.fv t v' t').ownBlock=some k:=hk
     by_cases e:t'=t
     . subst e;rw [Ec]at hk;rcases hv k hk with h1|h1
       . exact Or.inl (Or.inr ⟨_,ht,h1⟩)
       . exact Or.inr h1
     . rw [mc _ _ e]at hk;exact Or.inl (Or.inr ⟨t',dj,hk⟩)
def Xf(M M':Mv)(W W':World):Prop:=Ba W' M'/\Ea M.own W W'/\∀k,M'.own k->M.own k\/W.heap.size<=k
theorem Xf.trans{M M' M'':Mv}{W W' W'':World}(h:Xf M M' W W')(k:Xf M' M'' W' W''):Xf M M'' W W'':=by
 have hs:=h.2.1.size
 refine ⟨k.1,h.2.1.trans k.2.1 fun i hi e=> ?_,fun i e=> ?_⟩
 . rcases h.2.2 i e with h1|h1
   . exact h1
   . omega
 . rcases k.2.2 i e with h1|h1
   . exact h.2.2 i h1
   . exact Or.inr (by omega)
theorem Xf.below{M M':Mv}{W W' W'':World}(h:Xf M M' W W')(k:Below W'.heap.size W' W''):Xf M M' W W'':=
 ⟨h.1.below k,h.2.1.trans (Ea.Tb k) (fun _ _ h=>h),h.2.2⟩
theorem Xf.refl{M:Mv}{W:World}(h:Ba W M):Xf M M W W:=⟨h,Ea.refl _ _,fun _ h=>Or.inl h⟩
def Mv.Jb(M:Mv)(t l:Int):Int:=if Bb M.nt t=0 then yi M.n l else 1
def Mv.Kc(M:Mv)(t l:Int)(v:Value):Mv:={M with fl:=Ed M.fl t.toNat (Vs (M.fl t.toNat) l),fv:=Ed M.fv t.toNat v}
def Sq(M:Mv)(t l:Int)(W:World)(e:Ending)(W':World):Prop:=
 e= .returned (.int .i64 (M.Jb t l))/\(M.Jb t l≠0/\Xf M M W W'\/M.Jb t l=0/\∃v,Xf M (M.Kc t l v) W W')
theorem tE(M:Mv)(t l:Int)(W:World)(h:Ba W M)(hn:M.Jb t l≠0):
  Calls Tryz.prog 171 #[.pointer (some ⟨M.d,0,none⟩), .int .i64 t, .int .i64 l] W (Sq M t l W):=by
 have HT:=Lib.hid (zn M.d (some ⟨M.fb,0,none⟩) M.nt M.c3 t W (by rw [Ma h.dev];rfl));have HL:=Lib.hid (Tx M.d (some ⟨M.sb,0,none⟩) M.n M.c1 l W (by rw [Ma h.dev];rfl));have HM:=Lib.hid h;have HN:=Lib.hid hn;unfold Mv.Jb at hn;by_cases h0:Bb M.nt t=0
 . rw [if_pos h0]at hn;have e5:yi M.n l=5:=by unfold yi at*;split at hn<;>simp_all
   have eF:M.Jb t l=5:=by unfold Mv.Jb;rw [if_pos h0];exact e5
   have HE:Hid (M.Jb t l=5):=Lib.hid eF;rw [h0]at HT;rw [e5]at HL;clear h hn h0 e5 eF
   go_enter Tryz.func171,Tryz.ntmps171
   go_wp2_with fail
   refine HT.out.mono ?_
   rintro e w ⟨rfl,hw⟩;cases hw
   go_wp2_with fail
   refine HL.out.mono ?_
   rintro e w ⟨rfl,hw⟩;cases hw
   go_wp2_with fail
   go_ret
   exact ⟨by rw [HE.out];rfl,Or.inl ⟨HN.out,Xf.refl HM.out⟩⟩
 . have e1:Bb M.nt t=1:=by unfold Bb at*;split at h0<;>simp_all
   have eF:M.Jb t l=1:=by unfold Mv.Jb;rw [if_neg h0]
   have HE:Hid (M.Jb t l=1):=Lib.hid eF;rw [e1]at HT;clear h hn h0 e1 eF
   go_enter Tryz.func171,Tryz.ntmps171
   go_wp2_with fail
   refine HT.out.mono ?_
   rintro e w ⟨rfl,hw⟩;cases hw
   go_wp2_with fail
   go_ret
   exact ⟨by rw [HE.out];rfl,Or.inl ⟨HN.out,Xf.refl HM.out⟩⟩
theorem fac(M:Mv)(t:Nat)(ht:t<M.nt)(l:Int)(h0:0<=l)(h1:l<M.n)(W:World)(h:Ba W M):
  Calls Tryz.prog 256 #[.pointer (some ⟨M.fb,t,none⟩), .int .i64 l] W (fun e W'=>(∃u,e= .returned u)/\∃v,Xf M (M.Kc t l v) W W'):=by
 have hl:=h.XL ht;have hn:=h.n1;have Cf:∀x∈Vs (M.fl t) l,0<=x/\x<M.n:=fun x hx=>by
  rcases iC.1 hx with rfl|hx
  . exact ⟨h0,h1⟩
  . exact h.inn t ht x hx
 have hr:=NI (x:=l) (h.qE t ht);unfold Mv.Kc;rw [Int.toNat_natCast];by_cases hx:(M.fl t).contains l=true
 . have e:Vs (M.fl t) l=M.fl t:=by unfold Vs;rw [if_pos hx]
   refine (UL M.fb t (M.fv t) (M.fl t) l W (by omega) (h.fb.cell ht) (h.fl t ht) (h.qE t ht) hx).mono ?_
   rintro e' W' ⟨hu,hb,hh⟩;refine ⟨hu,M.fv t, ?_⟩;rw [e];have e1:Ed M.fl t (M.fl t)=M.fl:=by funext k;unfold Ed;split<;>simp_all
   have e2:Ed M.fv t (M.fv t)=M.fv:=by funext k;unfold Ed;split<;>simp_all
   rw [e1,e2];exact (Xf.refl h).below hb
 . have OI:(M.fl t).contains l=false:=by simpa using hx
   have e:Vs (M.fl t) l=Vg (M.fl t) ((M.fl t).countP (·<l)) l:=by unfold Vs;rw [if_neg hx]
   refine (II M.fb t (M.fv t) (M.fl t) l W (by omega) (h.fb.cell ht) (h.fb.free t) h.fb.lt (fun e=>h.alone t ht _ e (by simp [Mv.blocks])) (h.fl t ht) (h.qE t ht) OI).mono ?_
   rintro e' W' ⟨hu,v',W1,hT,hL,hv,rfl⟩;rw [<-e]at hL;obtain ⟨a,b,c⟩:=h.Ys ht hT hL hv hr Cf;exact ⟨hu,v',a,b,c⟩
set_option maxRecDepth 100000 in
theorem kC(M:Mv)(t l:Int)(W:World)(h:Ba W M)(hn:M.Jb t l=0):
  Calls Tryz.prog 171 #[.pointer (some ⟨M.d,0,none⟩), .int .i64 t, .int .i64 l] W (Sq M t l W):=by
 have HT:=Lib.hid (zn M.d (some ⟨M.fb,0,none⟩) M.nt M.c3 t W (by rw [Ma h.dev];rfl));have HL:=Lib.hid (Tx M.d (some ⟨M.sb,0,none⟩) M.n M.c1 l W (by rw [Ma h.dev];rfl));have HN:=Lib.hid hn;unfold Mv.Jb at hn;have h0:Bb M.nt t=0:=by by_cases h0:Bb M.nt t=0;exact h0;rw [if_neg h0]at hn;cases hn
 rw [if_pos h0]at hn;rw [h0]at HT;rw [hn]at HL;unfold Bb at h0;unfold yi at hn;have a0:0<=t/\t<M.nt:=by split at h0;cases h0;omega
 have a1:0<=l/\l<M.n:=by split at hn;cases hn;omega
 obtain ⟨k,rfl⟩:=Int.eq_ofNat_of_zero_le a0.1
 have b0:(0:Int)<=(k:Int):=by omega
 have b1:(k:Int)<(M.nt:Int):=a0.2
 have HP:=Lib.hid (fac M k (by omega) l a1.1 a1.2 W h);have hd:W.cell? ⟨M.d,3,none⟩=some (.slice (some ⟨M.fb,0,none⟩) M.nt M.c3):=by rw [Ma h.dev];rfl
 clear h hn h0 a0 a1
 go_enter Tryz.func171,Tryz.ntmps171
 go_wp2_with fail
 refine HT.out.mono ?_
 rintro e w ⟨rfl,hw⟩;cases hw
 go_wp2_with fail
 refine HL.out.mono ?_
 rintro e w ⟨rfl,hw⟩;cases hw
 go_wp2_with fail
 refine HP.out.mono ?_
 rintro e w ⟨⟨u,rfl⟩,hv⟩;have HV:=Lib.hid hv;clear hv
 go_wp2_with fail
 go_ret
 exact ⟨by rw [HN.out];rfl,Or.inr ⟨HN.out,HV.out⟩⟩
theorem XQ(M:Mv)(t l:Int)(W:World)(h:Ba W M):
  Calls Tryz.prog 171 #[.pointer (some ⟨M.d,0,none⟩), .int .i64 t, .int .i64 l] W (Sq M t l W):=by
 by_cases hn:M.Jb t l=0
 . exact kC M t l W h hn
 . exact tE M t l W h hn
end Go.Proofs.YtfnkmolffhfpoaaGreat
