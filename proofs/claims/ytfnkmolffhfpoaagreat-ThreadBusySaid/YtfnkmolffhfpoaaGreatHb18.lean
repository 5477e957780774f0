/- -/
import Derived.Test.YtfnkmolffhfpoaaGreatHb17
import Derived.Test.YtfnkmolffhfpoaaGreatHb1
set_option maxRecDepth 100000
set_option maxHeartbeats 4000000
set_option linter.unusedVariables false
set_option linter.unusedSimpArgs false
namespace Go.Proofs.YtfnkmolffhfpoaaGreat
namespace Sk
open Go.RowKit
theorem uG:(List.range 390).map fnT.get=(List.range 390).map (BL Tryz.prog fnT.get):=by kernel_rfl
theorem Uw:(List.range 390).map (bz fnT.get)=(List.range 390).map fun _=>false:=by kernel_rfl
theorem vG:(List.range 343).map tyT.get=(List.range 343).map (CL Tryz.prog tyT.get):=by kernel_rfl
theorem oz(v:Value)(w:World):(method (Tryz.prog.types.size+Made.depth) 39 v "Step").run Tryz.prog w= .ok (10,v) w:=by kernel_rfl
theorem pz(v:Value)(w:World):(method (Tryz.prog.types.size+Made.depth) 39 v "Done").run Tryz.prog w= .ok (15,v) w:=by kernel_rfl
theorem Ps(v:Value)(w:World):(method (Tryz.prog.types.size+Made.depth) 39 v "Result").run Tryz.prog w= .ok (16,v) w:=by kernel_rfl
theorem Iv(v:Value)(w:World):(method (Tryz.prog.types.size+Made.depth) 39 v "Holds").run Tryz.prog w= .ok (17,v) w:=by kernel_rfl
theorem qz(v:Value)(w:World):(method (Tryz.prog.types.size+Made.depth) 39 v "When").run Tryz.prog w= .ok (19,v) w:=by kernel_rfl
theorem Jv(v:Value)(w:World):(method (Tryz.prog.types.size+Made.depth) 39 v "Where").run Tryz.prog w= .ok (20,v) w:=by kernel_rfl
theorem Qs(v:Value)(w:World):(method (Tryz.prog.types.size+Made.depth) 39 v "Writes").run Tryz.prog w= .ok (21,v) w:=by kernel_rfl
theorem Kv(v:Value)(w:World):(method (Tryz.prog.types.size+Made.depth) 243 v "Step").run Tryz.prog w= .ok (385,v) w:=by kernel_rfl
theorem Nv(v:Value)(w:World):(method (Tryz.prog.types.size+Made.depth) 243 v "Done").run Tryz.prog w= .ok (382,v) w:=by kernel_rfl
theorem Aq(v:Value)(w:World):(method (Tryz.prog.types.size+Made.depth) 243 v "Result").run Tryz.prog w= .ok (384,v) w:=by kernel_rfl
theorem Rs(v:Value)(w:World):(method (Tryz.prog.types.size+Made.depth) 243 v "Holds").run Tryz.prog w= .ok (383,v) w:=by kernel_rfl
theorem Ov(v:Value)(w:World):(method (Tryz.prog.types.size+Made.depth) 243 v "When").run Tryz.prog w= .ok (386,v) w:=by kernel_rfl
theorem Ss(v:Value)(w:World):(method (Tryz.prog.types.size+Made.depth) 243 v "Where").run Tryz.prog w= .ok (387,v) w:=by kernel_rfl
theorem Bq(v:Value)(w:World):(method (Tryz.prog.types.size+Made.depth) 243 v "Writes").run Tryz.prog w= .ok (388,v) w:=by kernel_rfl
theorem Vw(t:TypeId)(n:String)(f:FuncId)(h:RL t n=some f)(v:Value)(w:World):(method (Tryz.prog.types.size+Made.depth) t v n).run Tryz.prog w= .ok (f,v) w:=by
 unfold RL at h
 split at h
 . rename_i hc;cases h;simp only [za,Bool.and_eq_true,Ja,decide_eq_true_eq,beq_iff_eq]at hc;obtain ⟨rfl,rfl⟩:=hc;exact Bq v w
 split at h
 . rename_i hc;cases h;simp only [za,Bool.and_eq_true,Ja,decide_eq_true_eq,beq_iff_eq]at hc;obtain ⟨rfl,rfl⟩:=hc;exact Ss v w
 split at h
 . rename_i hc;cases h;simp only [za,Bool.and_eq_true,Ja,decide_eq_true_eq,beq_iff_eq]at hc;obtain ⟨rfl,rfl⟩:=hc;exact Ov v w
 split at h
 . rename_i hc;cases h;simp only [za,Bool.and_eq_true,Ja,decide_eq_true_eq,beq_iff_eq]at hc;obtain ⟨rfl,rfl⟩:=hc;exact Rs v w
 split at h
 . rename_i hc;cases h;simp only [za,Bool.and_eq_true,Ja,decide_eq_true_eq,beq_iff_eq]at hc;obtain ⟨rfl,rfl⟩:=hc;exact Aq v w
 split at h
 . rename_i hc;cases h;simp only [za,Bool.and_eq_true,Ja,decide_eq_true_eq,beq_iff_eq]at hc;obtain ⟨rfl,rfl⟩:=hc;exact Nv v w
 split at h
 . rename_i hc;cases h;simp only [za,Bool.and_eq_true,Ja,decide_eq_true_eq,beq_iff_eq]at hc;obtain ⟨rfl,rfl⟩:=hc;exact Kv v w
 split at h
 . rename_i hc;cases h;simp only [za,Bool.and_eq_true,Ja,decide_eq_true_eq,beq_iff_eq]at hc;obtain ⟨rfl,rfl⟩:=hc;exact Qs v w
 split at h
 . rename_i hc;cases h;simp only [za,Bool.and_eq_true,Ja,decide_eq_true_eq,beq_iff_eq]at hc;obtain ⟨rfl,rfl⟩:=hc;exact Jv v w
 split at h
 . rename_i hc;cases h;simp only [za,Bool.and_eq_true,Ja,decide_eq_true_eq,beq_iff_eq]at hc;obtain ⟨rfl,rfl⟩:=hc;exact qz v w
 split at h
 . rename_i hc;cases h;simp only [za,Bool.and_eq_true,Ja,decide_eq_true_eq,beq_iff_eq]at hc;obtain ⟨rfl,rfl⟩:=hc;exact Iv v w
 split at h
 . rename_i hc;cases h;simp only [za,Bool.and_eq_true,Ja,decide_eq_true_eq,beq_iff_eq]at hc;obtain ⟨rfl,rfl⟩:=hc;exact Ps v w
 split at h
 . rename_i hc;cases h;simp only [za,Bool.and_eq_true,Ja,decide_eq_true_eq,beq_iff_eq]at hc;obtain ⟨rfl,rfl⟩:=hc;exact pz v w
 split at h
 . rename_i hc;cases h;simp only [za,Bool.and_eq_true,Ja,decide_eq_true_eq,beq_iff_eq]at hc;obtain ⟨rfl,rfl⟩:=hc;exact oz v w
 cases h
end Sk
end Go.Proofs.YtfnkmolffhfpoaaGreat
namespace Go.Proofs.YtfnkmolffhfpoaaGreat
open Go.RowKit Go.BigFrame
theorem aa{W:World}{b j g:Nat}{v:Value}(h:g≠b):(W.setCell ⟨b,j,none⟩ v).heap[g]?=W.heap[g]?:=Below.heap_setCell W _ v g h
theorem heap_set{w:World}{g j:Nat}{c:Array Value}{t:TypeId}{f:Nat×Nat}(v:Value)(h:w.heap[g]?=some (.cells c t f)):(w.setCell ⟨g,j,none⟩ v).heap[g]?=some (.cells (c.setIfInBounds j v) t f):=by
 simp [World.setCell,Array.getElem?_modify,h]
theorem cell_of_heap{w w':World}{b:Nat}(h:w'.heap[b]?=w.heap[b]?)(o:Nat):w'.cell? ⟨b,o,none⟩=w.cell? ⟨b,o,none⟩:=World.cell?_of_block (w:=w) (a:=⟨b,o,none⟩) h
theorem frozen_of_heap{w w':World}{b:Nat}(h:w'.heap[b]?=w.heap[b]?)(o:Nat):w'.frozen? ⟨b,o,none⟩=w.frozen? ⟨b,o,none⟩:=World.frozen?_of_block (w:=w) (a:=⟨b,o,none⟩) h
structure Nq(p:Nat)(w w':World):Prop where
 os:w'.os=w.os
 tape:w'.tape=w.tape
 output:w'.output=w.output
 size:w.heap.size<=w'.heap.size
 block:∀k,k<w.heap.size->k≠p->w'.heap[k]?=w.heap[k]?
theorem Nq.refl(p:Nat)(w:World):Nq p w w:=⟨rfl,rfl,rfl,Nat.le_refl _,fun _ _ _=>rfl⟩
theorem Nq.trans{p:Nat}{x y z:World}(h:Nq p x y)(k:Nq p y z):Nq p x z:=
 ⟨k.os.trans h.os,k.tape.trans h.tape,k.output.trans h.output,Nat.le_trans h.size k.size,fun i hi h1=>(k.block i (Nat.lt_of_lt_of_le hi h.size) h1).trans (h.block i hi h1)⟩
theorem Nq.alloc{p:Nat}{a w:World}(h:Nq p a w)(o:Obj):Nq p a (w.alloc o):=
 ⟨h.os,h.tape,h.output,Nat.le_trans h.size (by simp),fun k hk hb=>by rw [Below.heap_alloc _ _ _ (Nat.lt_of_lt_of_le hk h.size)];exact h.block k hk hb⟩
theorem Nq.set{p:Nat}{a w:World}(h:Nq p a w)(j:Nat)(v:Value):Nq p a (w.setCell ⟨p,j,none⟩ v):=
 ⟨h.os,h.tape,h.output,by simpa [World.setCell]using h.size,fun k hk hb=>by rw [aa hb];exact h.block k hk hb⟩
structure Acc where
 ki:Int
 th:Int
 pl:Int
 ol:Int
 ne:Int
 dn:Bool
def Acc.cells(x:Acc):Array Value:=#[.int .i64 x.ki, .int .i64 x.th, .int .i64 x.pl, .int .u64 x.ol, .int .u64 x.ne, .bool x.dn]
def ti(W:World)(m:Nat)(dv pv:Value)(ck bd:Int)(x:Acc):Prop:=
 W.heap[m]?=some (.cells #[dv,pv, .int .i64 ck, .int .i64 bd, .int .i64 x.ki, .int .i64 x.th, .int .i64 x.pl, .int .u64 x.ol, .int .u64 x.ne, .bool x.dn] 181 (0,0))
theorem ae{W:World}{b:Nat}{k0 k1 k2 k3 k4 k5 k6 k7 k8 k9:Value}{t:TypeId}(h:W.heap[b]?=some (.cells #[k0,k1,k2,k3,k4,k5,k6,k7,k8,k9] t (0,0))):
  W.cell? ⟨b,0,none⟩=some k0/\W.cell? ⟨b,1,none⟩=some k1/\W.cell? ⟨b,2,none⟩=some k2/\W.cell? ⟨b,3,none⟩=some k3/\W.cell? ⟨b,4,none⟩=some k4/\W.cell? ⟨b,5,none⟩=some k5/\W.cell? ⟨b,6,none⟩=some k6/\W.cell? ⟨b,7,none⟩=some k7/\W.cell? ⟨b,8,none⟩=some k8/\W.cell? ⟨b,9,none⟩=some k9/\∀j,W.frozen? ⟨b,j,none⟩=false:=by
 refine ⟨?_, ?_, ?_, ?_, ?_, ?_, ?_, ?_, ?_, ?_,fun j=> ?_⟩
 all_goals first|(rw [cell_of_row _ _ _ _ _ _ h];rfl)|(unfold World.frozen?;rw [h];simp)
theorem YB{W:World}{m:Nat}{k0 k1 k2 k3 k4 k5 k6 k7 k8 k9 a2 a4 a5 a6 a7 a8 a9:Value}{t:TypeId}{f:Nat×Nat}(h:W.heap[m]?=some (.cells #[k0,k1,k2,k3,k4,k5,k6,k7,k8,k9] t f)):
  (((((((W.setCell ⟨m,2,none⟩ a2).setCell ⟨m,4,none⟩ a4).setCell ⟨m,5,none⟩ a5).setCell ⟨m,6,none⟩ a6).setCell ⟨m,7,none⟩ a7).setCell ⟨m,8,none⟩ a8).setCell ⟨m,9,none⟩ a9).heap[m]?=some (.cells #[k0,k1,a2,k3,a4,a5,a6,a7,a8,a9] t f):=by
 have h2:=heap_set (j:=2) a2 h;have h4:=heap_set (j:=4) a4 h2;have h5:=heap_set (j:=5) a5 h4;have h6:=heap_set (j:=6) a6 h5;have h7:=heap_set (j:=7) a7 h6;have h8:=heap_set (j:=8) a8 h7;have h9:=heap_set (j:=9) a9 h8;rw [h9];rfl
def Ww(W:World)(m:Nat)(dv pv:Value)(ck bd:Int)(x:Acc)(e:Ending)(W':World):Prop:=
 (∃v,e= .returned v)/\ti W' m dv pv (ck+1) bd x/\Nq m W W'
set_option maxRecDepth 100000 in
theorem wG(m:Nat)(dv pv:Value)(ck bd:Int)(c0:0<=ck)(c1:ck<=1000000)(b0:0<=bd)(b1:bd<=1000000)(x0 x:Acc)(is:Bool)(W:World)(h:ti W m dv pv ck bd x0):
  Calls Tryz.prog 205 #[.pointer (some ⟨m,0,none⟩), .agg x.cells, .bool is] W (Ww W m dv pv ck (if is then bd else bd+1) x):=by
 obtain ⟨y0,y1,y2,y3,y4,y5,y6,y7,y8,y9,yf⟩:=ae h;have Ab:m<W.heap.size:=(Array.getElem?_eq_some_iff.1 h).1
 have Jc:m≠W.heap.size:=by omega
 have Qy:W.heap.size≠m:=by omega
 have HH:=Lib.hid h;clear h;simp only [Acc.cells];cases is with
 |true=>
  go_enter Tryz.func205,Tryz.ntmps205
  go_wp2_with fail
  go_end0
  refine ⟨⟨_,rfl⟩, ?_, ?_⟩
  . unfold ti;rw [Below.heap_alloc _ _ _ (by simpa using Ab)];exact YB HH.out
  . exact ((((((((Nq.refl m W).set 2 _).set 4 _).set 5 _).set 6 _).set 7 _).set 8 _).set 9 _).alloc _
 |false=>
  go_enter Tryz.func205,Tryz.ntmps205
  go_wp2_with fail
  go_end0
  refine ⟨⟨_,rfl⟩, ?_, ?_⟩
  . unfold ti;rw [Below.heap_alloc _ _ _ (by simpa using Ab)];have h3:=heap_set (j:=3) (.int .i64 (bd+1)) (YB (a2:= .int .i64 (ck+1)) (a4:= .int .i64 x.ki) (a5:= .int .i64 x.th) (a6:= .int .i64 x.pl) (a7:= .int .u64 x.ol) (a8:= .int .u64 x.ne) (a9:= .bool x.dn) HH.out);rw [h3];rfl
  . exact (((((((((Nq.refl m W).set 2 _).set 4 _).set 5 _).set 6 _).set 7 _).set 8 _).set 9 _).set 3 _).alloc _
theorem Ww.from{W W1 W':World}{m:Nat}{dv pv:Value}{ck bd:Int}{x:Acc}{e:Ending}(h:Ww W1 m dv pv ck bd x e W')(hb:Nq m W W1):Ww W m dv pv ck bd x e W':=
 ⟨h.1,h.2.1,hb.trans h.2.2⟩
set_option maxRecDepth 100000 in
theorem EX(m:Nat)(dv pv:Value)(ck bd:Int)(c0:0<=ck)(c1:ck<=1000000)(b0:0<=bd)(b1:bd<=1000000)(x0 x:Acc)(er:Int)(W:World)(h:ti W m dv pv ck bd x0):
  Calls Tryz.prog 170 #[.pointer (some ⟨m,0,none⟩), .agg x.cells, .int .i64 er] W (Ww W m dv pv ck (if er==0 then bd else bd+1) ⟨x.ki,x.th,x.pl,x.ol,x.ne,er==0⟩):=by
 have Ab:m<W.heap.size:=(Array.getElem?_eq_some_iff.1 h).1
 have HH:=Lib.hid h;clear h;have H73:Hid (∀o,Calls Tryz.prog 205 #[.pointer (some ⟨m,0,none⟩), .agg #[.int .i64 x.ki, .int .i64 x.th, .int .i64 x.pl, .int .u64 x.ol, .int .u64 x.ne, .bool (er==0)], .bool (er==0)] (W.alloc o) (Ww W m dv pv ck (if er==0 then bd else bd+1) ⟨x.ki,x.th,x.pl,x.ol,x.ne,er==0⟩)):=Lib.hid fun o=>
  (wG m dv pv ck bd c0 c1 b0 b1 x0 ⟨x.ki,x.th,x.pl,x.ol,x.ne,er==0⟩ (er==0) (W.alloc o) ((Below.heap_alloc _ _ _ Ab).trans HH.out)).mono fun e w hn=>hn.from ((Nq.refl m W).alloc o)
 generalize (if er==0 then bd else bd+1)=bd' at*;obtain ⟨y,hy⟩:∃y,y=(⟨x.ki,x.th,x.pl,x.ol,x.ne,er==0⟩:Acc):=⟨_,rfl⟩;rw [<-hy]at H73⊢;clear hy;simp only [Acc.cells]
 go_enter Tryz.func170,Tryz.ntmps170
 go_wp2_with fail
 refine (H73.out _).mono ?_
 rintro e w' hn;obtain ⟨⟨v,rfl⟩,hr,hb⟩:=hn;have HR:=Lib.hid hr;have HB:=Lib.hid hb;clear hr hb
 go_wp2_with fail
 go_end0
 exact ⟨⟨_,rfl⟩,HR.out,HB.out⟩
theorem xG(n:Nat)(hn:n<=9223372036854775807)(w:World):Calls Tryz.prog 201 #[.int .i64 n, .int .i64 8] w (Rb (.int .i64 (if(n:Int) %8≠0 then 3 else if 262144<(n:Int)/8 then 2 else 0)) w):=by
 have e1:(n:Int).tdiv 8=(n:Int)/8:=Int.tdiv_eq_ediv_of_nonneg (by omega)
 have e2:(n:Int).tmod 8=(n:Int) %8:=Int.tmod_eq_emod_of_nonneg (by omega)
 by_cases h3:(n:Int) %8=0
 . have d3:((n:Int) %8 != 0)=false:=by simp [h3]
   rw [if_neg (fun h=>h h3)];by_cases h4:262144<(n:Int)/8
   . have d4:decide (262144<(n:Int)/8)=true:=ca h4;rw [if_pos h4]
     go_enter Tryz.func201,Tryz.ntmps201
     go_wp2_with fail
     go_ret
     exact ⟨rfl,rfl⟩
   . have d4:decide (262144<(n:Int)/8)=false:=ea h4;rw [if_neg h4]
     go_enter Tryz.func201,Tryz.ntmps201
     go_wp2_with fail
     go_ret
     exact ⟨rfl,rfl⟩
 . have d3:((n:Int) %8 != 0)=true:=by simp [h3]
   rw [if_pos h3]
   go_enter Tryz.func201,Tryz.ntmps201
   go_wp2_with fail
   go_ret
   exact ⟨rfl,rfl⟩
def zh(v:Value)(w:World)(e:Ending)(w':World):Prop:=e= .returned v/\Below w.heap.size w w'/\w'.heap=w.heap
theorem SL(m:Nat)(a:Option Addr)(np cap:Nat)(PQ:np<=262144)(at_:Int)(q0:-9223372036854775808<=at_)(q1:at_<=9223372036854775807)(w:World)(h:w.cell? ⟨m,1,none⟩=some (.slice a np cap)):
  Calls Tryz.prog 177 #[.pointer (some ⟨m,0,none⟩), .int .i64 at_] w (zh (.tuple #[.int .i64 (-1 -at_), .bool (decide (at_<0/\-1 -at_<(np:Int)))]) w):=by
 have w1:wrap64 (-1 -at_)=-1 -at_:=by unfold wrap64;omega
 by_cases h0:at_<0
 . have d0:decide (at_<0)=true:=ca h0;rw [show decide (at_<0/\-1 -at_<(np:Int))=decide (-1 -at_<(np:Int))by simp [h0]]
   go_enter Tryz.func177,Tryz.ntmps177
   go_wp2_with fail
   go_quiet (fail)
   go_wp2_with fail
   go_ret2
   exact ⟨rfl,⟨rfl,rfl,rfl,Nat.le_refl _,fun _ _=>rfl⟩,rfl⟩
 . have d0:decide (at_<0)=false:=ea h0;rw [show decide (at_<0/\-1 -at_<(np:Int))=false by simp [h0]]
   go_enter Tryz.func177,Tryz.ntmps177
   go_wp2_with fail
   go_quiet (fail)
   go_wp2_with fail
   go_ret2
   exact ⟨rfl,⟨rfl,rfl,rfl,Nat.le_refl _,fun _ _=>rfl⟩,rfl⟩
theorem GI(d:Nat)(a:Option Addr)(n cap:Nat)(hn:n<=262144)(at_:Int)(q1:at_<=9223372036854775807)(w:World)(h:w.cell? ⟨d,1,none⟩=some (.slice a n cap))(he:Sl n at_=5):
  Calls Tryz.prog 176 #[.pointer (some ⟨d,0,none⟩), .int .i64 at_] w (Rb (.tuple #[.int .u64 0, .int .i64 5]) w):=by
 have HW:=Lib.hid (zD d a n cap hn at_ q1 w h);rw [he]at HW;clear he
 go_enter Tryz.func176,Tryz.ntmps176
 go_wp2_with fail
 refine HW.out.mono ?_
 rintro e w' ⟨rfl,hw⟩;cases hw
 go_wp2_with fail
 go_ret2
 exact ⟨rfl,rfl⟩
theorem nE(d s:Nat)(n cap:Nat)(hn:n<=262144)(k:Nat)(hk:k/8<n)(v:Int)(w:World)(h:w.cell? ⟨d,1,none⟩=some (.slice (some ⟨s,0,none⟩) n cap))(hv:w.cell? ⟨s,k,none⟩=some (.int .u64 v)):
  Calls Tryz.prog 176 #[.pointer (some ⟨d,0,none⟩), .int .i64 k] w (Rb (.tuple #[.int .u64 v, .int .i64 0]) w):=by
 have HW:=Lib.hid (zD d (some ⟨s,0,none⟩) n cap hn k (by omega) w h);rw [show Sl n (k:Int)=0 by rw [Sl,if_neg (by omega)]]at HW;have e1:(k:Int).tdiv 8=((k/8:Nat):Int):=by rw [Int.tdiv_eq_ediv_of_nonneg (by omega)];omega
 have e2:(k:Int).tmod 8=((k %8:Nat):Int):=by rw [Int.tmod_eq_emod_of_nonneg (by omega)];omega
 have e3:(k:Int)/8=((k/8:Nat):Int):=by omega
 have e4:(k:Int) %8=((k %8:Nat):Int):=by omega
 obtain ⟨i,hi⟩:∃i,i=k/8:=⟨_,rfl⟩;obtain ⟨r,hr⟩:∃r,r=k %8:=⟨_,rfl⟩;have EK:w.cell? ⟨s,i*8+r,none⟩=some (.int .u64 v):=by rw [show i*8+r=k by omega];exact hv
 rw [<-hi]at e1 e3 hk;rw [<-hr]at e2 e4;have f1:(0:Int)<=(i:Int):=by omega
 have f2:(i:Int)<(n:Int):=by omega
 have f3:(0:Int)<=(r:Int):=by omega
 have f4:(r:Int)<8:=by omega
 have f5:r<8:=by omega
 clear hi hr hv
 go_enter Tryz.func176,Tryz.ntmps176
 go_wp2_with fail
 refine HW.out.mono ?_
 rintro e w' ⟨rfl,hw⟩;cases hw
 go_wp2_with fail
 go_ret2
 exact ⟨rfl,rfl⟩
theorem ZB(d s:Nat)(n cap:Nat)(hn:n<=262144)(k:Nat)(hk:k/8<n)(v u:Int)(w:World)(h:w.cell? ⟨d,1,none⟩=some (.slice (some ⟨s,0,none⟩) n cap))(hv:w.cell? ⟨s,k,none⟩=some (.int .u64 u))(hf:∀j,w.frozen? ⟨s,j,none⟩=false):
  Calls Tryz.prog 275 #[.pointer (some ⟨d,0,none⟩), .int .i64 k, .int .u64 v] w fun e w'=>e= .returned (.int .i64 0)/\w'=w.setCell ⟨s,k,none⟩ (.int .u64 v):=by
 have HW:=Lib.hid (zD d (some ⟨s,0,none⟩) n cap hn k (by omega) w h);rw [show Sl n (k:Int)=0 by rw [Sl,if_neg (by omega)]]at HW;have e1:(k:Int).tdiv 8=((k/8:Nat):Int):=by rw [Int.tdiv_eq_ediv_of_nonneg (by omega)];omega
 have e2:(k:Int).tmod 8=((k %8:Nat):Int):=by rw [Int.tmod_eq_emod_of_nonneg (by omega)];omega
 have e3:(k:Int)/8=((k/8:Nat):Int):=by omega
 have e4:(k:Int) %8=((k %8:Nat):Int):=by omega
 obtain ⟨i,hi⟩:∃i,i=k/8:=⟨_,rfl⟩;obtain ⟨r,hr⟩:∃r,r=k %8:=⟨_,rfl⟩;have hir:i*8+r=k:=by omega
 have EK:w.cell? ⟨s,i*8+r,none⟩=some (.int .u64 u):=by rw [hir];exact hv
 have HIR:=Lib.hid hir;rw [<-hi]at e1 e3 hk;rw [<-hr]at e2 e4;have f1:(0:Int)<=(i:Int):=by omega
 have f2:(i:Int)<(n:Int):=by omega
 have f3:(0:Int)<=(r:Int):=by omega
 have f4:(r:Int)<8:=by omega
 have f5:r<8:=by omega
 clear hi hr hv hir;rw [<-HIR.out];rw [HIR.out]
 go_enter Tryz.func275,Tryz.ntmps275
 go_wp2_with fail
 refine HW.out.mono ?_
 rintro e w' ⟨rfl,hw⟩;cases hw
 go_wp2_with fail
 go_ret
 exact ⟨rfl,by rw [HIR.out]⟩
structure Oq(W:World)(m d s n cap:Nat)(pa:Option Addr)(np pc:Nat)(seen pass:Nat->Int):Prop where
 dv:W.cell? ⟨m,0,none⟩=some (.pointer (some ⟨d,0,none⟩))
 ps:W.cell? ⟨m,1,none⟩=some (.slice pa np pc)
 sn:W.cell? ⟨d,1,none⟩=some (.slice (some ⟨s,0,none⟩) n cap)
 sw:∀k,k/8<n->W.cell? ⟨s,k,none⟩=some (.int .u64 (seen k))
 pw:0<np->∃g,pa=some ⟨g,0,none⟩/\∀k,k<np->W.cell? ⟨g,k,none⟩=some (.int .u64 (pass k))
def fe(n np:Nat)(seen pass:Nat->Int)(at_:Int):Int×Bool:=
 if 0<=at_ then(if at_/8<(n:Int)then(seen at_.toNat,true)else(0,false))
 else if-1 -at_<(np:Int)then(pass (-1 -at_).toNat,true)else(0,false)
theorem Oi{w w':World}(h:w'.heap=w.heap)(a:Addr):w'.cell? a=w.cell? a:=by unfold World.cell?;rw [h]
set_option maxRecDepth 100000 in
theorem FX(m d s n cap:Nat)(hn:n<=262144)(pa:Option Addr)(np pc:Nat)(PQ:np<=262144)(seen pass:Nat->Int)(at_:Int)(q0:-9223372036854775808<=at_)(q1:at_<=9223372036854775807)(w:World)(h:Oq w m d s n cap pa np pc seen pass):
  Calls Tryz.prog 77 #[.pointer (some ⟨m,0,none⟩), .int .i64 at_] w (zh (.tuple #[.int .u64 (fe n np seen pass at_).1, .bool (fe n np seen pass at_).2]) w):=by
 have x0:=h.dv;have x1:=h.ps;have HH:=Lib.hid h;clear h;by_cases h0:0<=at_
 . have d0:decide (0<=at_)=true:=ca h0;by_cases h1:at_/8<(n:Int)
   . have HL:=Lib.hid (nE d s n cap hn at_.toNat (by omega) (seen at_.toNat) w HH.out.sn (HH.out.sw _ (by omega)));rw [show((at_.toNat:Nat):Int)=at_ by omega]at HL;rw [show fe n np seen pass at_=(seen at_.toNat,true)by rw [fe,if_pos h0,if_pos h1]];generalize seen at_.toNat=v at*
     go_enter Tryz.func77,Tryz.ntmps77
     go_wp2_with fail
     refine HL.out.mono ?_
     rintro e w' ⟨rfl,hw⟩;cases hw
     go_wp2_with fail
     go_ret2
     exact ⟨rfl,Below.refl _ _,rfl⟩
   . have HL:=Lib.hid (GI d (some ⟨s,0,none⟩) n cap hn at_ q1 w HH.out.sn (by rw [Sl,if_pos (by omega)]));rw [show fe n np seen pass at_=(0,false)by rw [fe,if_pos h0,if_neg h1]]
     go_enter Tryz.func77,Tryz.ntmps77
     go_wp2_with fail
     refine HL.out.mono ?_
     rintro e w' ⟨rfl,hw⟩;cases hw
     go_wp2_with fail
     go_ret2
     exact ⟨rfl,Below.refl _ _,rfl⟩
 . have d0:decide (0<=at_)=false:=ea h0;have HP:=Lib.hid (SL m pa np pc PQ at_ q0 q1 w x1);by_cases h1:-1 -at_<(np:Int)
   . rw [show decide (at_<0/\-1 -at_<(np:Int))=true from ca ⟨by omega,h1⟩]at HP;obtain ⟨g,hg,hc⟩:=HH.out.pw (by omega);have jL:=hc (-1 -at_).toNat (by omega)
     rw [show fe n np seen pass at_=(pass (-1 -at_).toNat,true)by rw [fe,if_neg h0,if_pos h1]];generalize pass (-1 -at_).toNat=v at*
     subst hg;obtain ⟨k,hk⟩:=Int.eq_ofNat_of_zero_le (show 0<=-1 -at_ by omega);rw [hk]at HP jL;have kK:w.cell? ⟨g,k,none⟩=some (.int .u64 v):=jL;have f1:(0:Int)<=(k:Int):=by omega
     have f2:(k:Int)<(np:Int):=by omega
     clear hc jL hk
     go_enter Tryz.func77,Tryz.ntmps77
     go_wp2_with fail
     refine HP.out.mono ?_
     rintro e w1 ⟨rfl,hb,hh⟩;have c1:w1.cell? ⟨m,1,none⟩=some (.slice (some ⟨g,0,none⟩) np pc):=(Oi hh _).trans x1
     have c2:w1.cell? ⟨g,k,none⟩=some (.int .u64 v):=(Oi hh _).trans kK
     have HB:=Lib.hid hb;have HHH:=Lib.hid hh;clear hb hh
     go_wp2_with fail
     go_ret2
     exact ⟨rfl,HB.out,HHH.out⟩
   . rw [show decide (at_<0/\-1 -at_<(np:Int))=false from ea (by omega)]at HP;rw [show fe n np seen pass at_=(0,false)by rw [fe,if_neg h0,if_neg h1]]
     go_enter Tryz.func77,Tryz.ntmps77
     go_wp2_with fail
     refine HP.out.mono ?_
     rintro e w1 ⟨rfl,hb,hh⟩;have HB:=Lib.hid hb;have HHH:=Lib.hid hh;clear hb hh
     go_wp2_with fail
     go_ret2
     exact ⟨rfl,HB.out,HHH.out⟩
def Rab(b j:Nat)(v:Int)(w:World)(e:Ending)(w':World):Prop:=(∃x,e= .returned x)/\∃w1,w1.heap=w.heap/\Below w.heap.size w w1/\w'=w1.setCell ⟨b,j,none⟩ (.int .u64 v)
set_option maxRecDepth 100000 in
theorem oE(m d s n cap:Nat)(hn:n<=262144)(pa:Option Addr)(np pc:Nat)(seen pass:Nat->Int)(k:Nat)(hk:k/8<n)(v:Int)(w:World)(h:Oq w m d s n cap pa np pc seen pass)(hf:∀j,w.frozen? ⟨s,j,none⟩=false):
  Calls Tryz.prog 204 #[.pointer (some ⟨m,0,none⟩), .int .i64 k, .int .u64 v] w (Rab s k v w):=by
 have x0:=h.dv;have HL:=Lib.hid (ZB d s n cap hn k hk v (seen k) w h.sn (h.sw k hk) hf);have d0:decide ((0:Int)<=(k:Int))=true:=ca (by omega);clear h hf hk
 go_enter Tryz.func204,Tryz.ntmps204
 go_wp2_with fail
 refine HL.out.mono ?_
 rintro e w' ⟨rfl,hw⟩;have HW:=Lib.hid hw;clear hw
 go_wp2_with fail
 go_end0
 exact ⟨⟨_,rfl⟩,w,rfl,Below.refl _ _,HW.out⟩
set_option maxRecDepth 100000 in
theorem pE(m d s n cap:Nat)(g np pc:Nat)(PQ:np<=262144)(seen pass:Nat->Int)(k:Nat)(hk:k<np)(v:Int)(w:World)(h:Oq w m d s n cap (some ⟨g,0,none⟩) np pc seen pass)(hf:∀j,w.frozen? ⟨g,j,none⟩=false):
  Calls Tryz.prog 204 #[.pointer (some ⟨m,0,none⟩), .int .i64 (-1 -(k:Int)), .int .u64 v] w (Rab g k v w):=by
 have x1:=h.ps;have HP:=Lib.hid (SL m (some ⟨g,0,none⟩) np pc PQ (-1 -(k:Int)) (by omega) (by omega) w x1);rw [show decide (-1 -(k:Int)<0/\-1 -(-1 -(k:Int))<(np:Int))=true from ca (by omega),show(-1 -(-1 -(k:Int)):Int)=k by omega]at HP;obtain ⟨g',hg,hc⟩:=h.pw (by omega);cases hg;have kK:=hc k hk;generalize pass k=u at*;have f1:(0:Int)<=(k:Int):=by omega
 have f2:(k:Int)<(np:Int):=by omega
 have d0:decide ((0:Int)<=-1 -(k:Int))=false:=ea (by omega);have HF:=Lib.hid hf;clear h hc hf;generalize (-1 -(k:Int))=at_ at*
 go_enter Tryz.func204,Tryz.ntmps204
 go_wp2_with fail
 refine HP.out.mono ?_
 rintro e w1 ⟨rfl,hb,hh⟩;have c1:w1.cell? ⟨m,1,none⟩=some (.slice (some ⟨g,0,none⟩) np pc):=(Oi hh _).trans x1
 have c2:w1.cell? ⟨g,k,none⟩=some (.int .u64 u):=(Oi hh _).trans kK
 have c3:w1.frozen? ⟨g,k,none⟩=false:=by have:=HF.out k;unfold World.frozen? at this⊢;rw [hh];exact this
 have HB:=Lib.hid hb;have HHH:=Lib.hid hh;clear hb hh
 go_wp2_with fail
 go_end0
 exact ⟨⟨_,rfl⟩,w1,HHH.out,HB.out,rfl⟩
theorem QQ(x:Int)(w:World):Calls Tryz.prog 168 #[.int .u64 x] w (zh (.tuple #[.int .u64 0, .bool false]) w):=by
 go_enter Tryz.func168,Tryz.ntmps168
 go_wp2_with fail
 go_ret2
 exact ⟨rfl,Below.refl _ _,rfl⟩
theorem aC(x v:Int)(b:Nat)(w:World)(h:w.cell? ⟨b,0,none⟩=some (.int .u64 v)):Calls Tryz.prog 107 #[.int .u64 x, .pointer (some ⟨b,0,none⟩)] w (zh (.tuple #[.int .u64 v, .bool true]) w):=by
 go_enter Tryz.func107,Tryz.ntmps107
 go_wp2_with fail
 go_ret2
 exact ⟨rfl,Below.refl _ _,rfl⟩
theorem RQ(x v o:Int)(b c:Nat)(w:World)(h:w.cell? ⟨b,0,none⟩=some (.int .u64 v))(k:w.cell? ⟨c,0,none⟩=some (.int .u64 o)):
  Calls Tryz.prog 169 #[.int .u64 x, .pointer (some ⟨b,0,none⟩), .pointer (some ⟨c,0,none⟩)] w (zh (.tuple #[.int .u64 v, .bool (x==o)]) w):=by
 go_enter Tryz.func169,Tryz.ntmps169
 go_wp2_with fail
 go_quiet (fail)
 go_wp2_with fail
 go_ret2
 exact ⟨rfl,⟨rfl,rfl,rfl,Nat.le_refl _,fun _ _=>rfl⟩,rfl⟩
theorem GX(f t:Nat)(a:Option Addr)(n cap:Nat)(w:World)(h:w.cell? ⟨f,t,none⟩=some (.slice a n cap))(hf:w.frozen? ⟨f,t,none⟩=false):
  Calls Tryz.prog 257 #[.pointer (some ⟨f,t,none⟩)] w fun e w'=>e= .returned (.slice a n cap)/\w'=w.setCell ⟨f,t,none⟩ (.slice none 0 0):=by
 go_enter Tryz.func257,Tryz.ntmps257
 go_wp2_with fail
 go_ret
 exact ⟨rfl,rfl⟩
def Xw(W:World)(b o:Nat)(l:Nat->Int):Prop:=∀r,r<8->W.cell? ⟨b,o+r,none⟩=some (.int .u64 (l r))
theorem Xw.cells{W:World}{b o:Nat}{l:Nat->Int}(h:Xw W b o l):W.cell? ⟨b,o,none⟩=some (.int .u64 (l 0))/\W.cell? ⟨b,o+1,none⟩=some (.int .u64 (l 1))/\W.cell? ⟨b,o+2,none⟩=some (.int .u64 (l 2))/\W.cell? ⟨b,o+3,none⟩=some (.int .u64 (l 3))/\
  W.cell? ⟨b,o+4,none⟩=some (.int .u64 (l 4))/\W.cell? ⟨b,o+5,none⟩=some (.int .u64 (l 5))/\W.cell? ⟨b,o+6,none⟩=some (.int .u64 (l 6))/\W.cell? ⟨b,o+7,none⟩=some (.int .u64 (l 7)):=
 ⟨h 0 (by omega),h 1 (by omega),h 2 (by omega),h 3 (by omega),h 4 (by omega),h 5 (by omega),h 6 (by omega),h 7 (by omega)⟩
def Pv(w:World)(b o:Nat)(l:Nat->Int):World:=
 (((((((w.setCell ⟨b,o,none⟩ (.int .u64 (l 0))).setCell ⟨b,o+1,none⟩ (.int .u64 (l 1))).setCell ⟨b,o+2,none⟩ (.int .u64 (l 2))).setCell ⟨b,o+3,none⟩ (.int .u64 (l 3))).setCell ⟨b,o+4,none⟩ (.int .u64 (l 4))).setCell ⟨b,o+5,none⟩ (.int .u64 (l 5))).setCell ⟨b,o+6,none⟩ (.int .u64 (l 6))).setCell ⟨b,o+7,none⟩ (.int .u64 (l 7))
theorem Bl{w:World}{b o g:Nat}{l:Nat->Int}(h:g≠b):(Pv w b o l).heap[g]?=w.heap[g]?:=by
 unfold Pv;rw [aa h,aa h,aa h,aa h,aa h,aa h,aa h,aa h]
def Sab(w w1:World):Prop:=w1.heap=w.heap/\Below w.heap.size w w1
set_option maxRecDepth 100000 in
set_option maxHeartbeats 1000000 in
theorem IX(d kb sb wb:Nat)(n ck cs cw:Nat)(hn:n<=262144)(i:Nat)(hi:i<n)(lk ls:Nat->Int)(c:Int)(c0:0<=c)(c1:c<=1000000)(w:World)
  (h0:w.cell? ⟨d,0,none⟩=some (.slice (some ⟨kb,0,none⟩) n ck))(h1:w.cell? ⟨d,1,none⟩=some (.slice (some ⟨sb,0,none⟩) n cs))(h2:w.cell? ⟨d,2,none⟩=some (.slice (some ⟨wb,0,none⟩) n cw))
  (hk:Xw w kb (i*8) lk)(hs:Xw w sb (i*8) ls)(hw:w.cell? ⟨wb,i,none⟩=some (.int .i64 c))(fk:∀j,w.frozen? ⟨kb,j,none⟩=false)(fw:∀j,w.frozen? ⟨wb,j,none⟩=false)(e1:kb≠d)(e2:wb≠kb)(e3:wb≠d)(e4:sb≠kb):
  Calls Tryz.prog 174 #[.pointer (some ⟨d,0,none⟩), .int .i64 i] w fun e w'=>(∃x,e= .returned x)/\∃w1,Sab (Pv w kb (i*8) ls) w1/\w'=w1.setCell ⟨wb,i,none⟩ (.int .i64 (c+1)):=by
 obtain ⟨k0,k1,k2,k3,k4,k5,k6,k7⟩:=hk.cells;obtain ⟨s0,s1,s2,s3,s4,s5,s6,s7⟩:=hs.cells;have f1:(0:Int)<=(i:Int):=by omega
 have f2:(i:Int)<(n:Int):=by omega
 clear hk hs
 go_enter Tryz.func174,Tryz.ntmps174
 go_wp2_with fail
 go_region
 obtain ⟨W,hW⟩:∃W,W=Pv w kb (i*8) ls:=⟨_,rfl⟩;have g2:W.cell? ⟨d,2,none⟩=some (.slice (some ⟨wb,0,none⟩) n cw):=by rw [hW];exact (cell_of_heap (Bl (Ne.symm e1)) 2).trans h2
 have gw:W.cell? ⟨wb,i,none⟩=some (.int .i64 c):=by rw [hW];exact (cell_of_heap (Bl e2) i).trans hw
 have gf:W.frozen? ⟨wb,i,none⟩=false:=by rw [hW];exact (frozen_of_heap (Bl e2) i).trans (fw i)
 have HW:=Lib.hid hW;simp only [Pv]at hW;rw [<-hW];clear hW k0 k1 k2 k3 k4 k5 k6 k7 s0 s1 s2 s3 s4 s5 s6 s7 h0 h1 h2 hw fk fw
 go_wp2_with fail
 go_end0
 exact ⟨⟨_,rfl⟩,W.drew,⟨show W.heap=_ from congrArg World.heap HW.out,by rw [<-HW.out];exact ⟨rfl,rfl,rfl,Nat.le_refl _,fun _ _=>rfl⟩⟩,rfl⟩
theorem ja{P:Program}{f:FuncId}{fn:Func}{c:Code}(hf:P.funcs[f]?=some fn)(Tab:(fn.name== "runtime.NumGoroutine")=false)(hb:fn.body=some c)(args:Array Value)(w:World):
  (callFunc f args).run P w= .ok (.enter f args) w:=by
 have h1:fn.name≠ "runtime.NumGoroutine" :=by simpa using Tab
 simp [callFunc,hf,h1,hb]
def Ed{α:Type}(f:Nat->α)(j:Nat)(v:α):Nat->α:=fun k=>if k=j then v else f k
theorem Ec{α:Type}(f:Nat->α)(j:Nat)(v:α):Ed f j v j=v:=by simp [Ed]
theorem mc{α:Type}(f:Nat->α){j k:Nat}(v:α)(h:k≠j):Ed f j v k=f k:=by simp [Ed,h]
theorem ai{α β:Type}(g:α->β)(f:Nat->α)(j:Nat)(v:α):(fun k=>g (Ed f j v k))=Ed (fun k=>g (f k)) j (g v):=by
 funext k;unfold Ed;split<;>rfl
def Eb(W:World)(b n:Nat)(f:Nat->Value):Prop:=∃c t,W.heap[b]?=some (.cells c t (0,0))/\∀k,k<n->c[k]?=some (f k)
theorem Eb.lt{W:World}{b n:Nat}{f:Nat->Value}(h:Eb W b n f):b<W.heap.size:=by
 obtain ⟨c,t,h1,_⟩:=h;exact (Array.getElem?_eq_some_iff.1 h1).1
theorem Eb.cell{W:World}{b n:Nat}{f:Nat->Value}(h:Eb W b n f){k:Nat}(hk:k<n):W.cell? ⟨b,k,none⟩=some (f k):=by
 obtain ⟨c,t,h1,h2⟩:=h;rw [cell_of_row _ _ k _ _ _ h1];exact h2 k hk
theorem Eb.free{W:World}{b n:Nat}{f:Nat->Value}(h:Eb W b n f)(j:Nat):W.frozen? ⟨b,j,none⟩=false:=by
 obtain ⟨c,t,h1,h2⟩:=h;unfold World.frozen?;rw [h1];simp
theorem Eb.keep{W W':World}{b n:Nat}{f:Nat->Value}(h:Eb W b n f)(e:W'.heap[b]?=W.heap[b]?):Eb W' b n f:=by
 obtain ⟨c,t,h1,h2⟩:=h;exact ⟨c,t,e.trans h1,h2⟩
theorem Eb.set{W:World}{b n:Nat}{f:Nat->Value}(h:Eb W b n f)(j:Nat)(v:Value):Eb (W.setCell ⟨b,j,none⟩ v) b n (Ed f j v):=by
 obtain ⟨c,t,h1,h2⟩:=h;refine ⟨_,t,heap_set v h1,fun k hk=> ?_⟩;rw [Array.getElem?_setIfInBounds];have rI:k<c.size:=(Array.getElem?_eq_some_iff.1 (h2 k hk)).1
 by_cases e:k=j
 . subst e;simp [Ed,rI]
 . rw [if_neg (Ne.symm e),mc _ _ e];exact h2 k hk
theorem Eb.congr{W:World}{b n:Nat}{f g:Nat->Value}(h:Eb W b n f)(e:∀k,k<n->f k=g k):Eb W b n g:=by
 obtain ⟨c,t,h1,h2⟩:=h;exact ⟨c,t,h1,fun k hk=>by rw [<-e k hk];exact h2 k hk⟩
structure Ea(F:Nat->Prop)(w w':World):Prop where
 os:w'.os=w.os
 tape:w'.tape=w.tape
 output:w'.output=w.output
 size:w.heap.size<=w'.heap.size
 block:∀k,k<w.heap.size->¬F k->w'.heap[k]?=w.heap[k]?
theorem Ea.refl(F:Nat->Prop)(w:World):Ea F w w:=⟨rfl,rfl,rfl,Nat.le_refl _,fun _ _ _=>rfl⟩
theorem Ea.trans{F G:Nat->Prop}{x y z:World}(h:Ea F x y)(k:Ea G y z)(hs:∀i,i<x.heap.size->G i->F i):Ea F x z:=
 ⟨k.os.trans h.os,k.tape.trans h.tape,k.output.trans h.output,Nat.le_trans h.size k.size,fun i hi h1=>(k.block i (Nat.lt_of_lt_of_le hi h.size) (fun g=>h1 (hs i hi g))).trans (h.block i hi h1)⟩
theorem Ea.mono{F G:Nat->Prop}{x y:World}(h:Ea F x y)(hs:∀i,i<x.heap.size->F i->G i):Ea G x y:=
 ⟨h.os,h.tape,h.output,h.size,fun i hi h1=>h.block i hi fun f=>h1 (hs i hi f)⟩
theorem Ea.Tb{F:Nat->Prop}{w w':World}(h:Below w.heap.size w w'):Ea F w w':=⟨h.os,h.tape,h.output,h.size,fun k hk _=>h.block k hk⟩
theorem Ea.TL{F:Nat->Prop}{p:Nat}{w w':World}(h:Nq p w w')(hp:p<w.heap.size->F p):Ea F w w':=
 ⟨h.os,h.tape,h.output,h.size,fun k hk hf=>h.block k hk fun e=>hf (by rw [e];rw [e]at hk;exact hp hk)⟩
theorem Ea.alloc{F:Nat->Prop}{a w:World}(h:Ea F a w)(o:Obj):Ea F a (w.alloc o):=
 ⟨h.os,h.tape,h.output,Nat.le_trans h.size (by simp),fun k hk hb=>by rw [Below.heap_alloc _ _ _ (Nat.lt_of_lt_of_le hk h.size)];exact h.block k hk hb⟩
theorem Ea.set{F:Nat->Prop}{a w:World}(h:Ea F a w){b:Nat}(hb:b<a.heap.size->F b)(j:Nat)(v:Value):Ea F a (w.setCell ⟨b,j,none⟩ v):=
 ⟨h.os,h.tape,h.output,by simpa [World.setCell]using h.size,fun k hk hf=>by rw [aa (fun e=>hf (by rw [e];rw [e]at hk;exact hb hk))];exact h.block k hk hf⟩
theorem Ea.below{F:Nat->Prop}{B:Nat}{w w':World}(h:Ea F w w')(hB:B<=w.heap.size)(hf:∀k,k<B->¬F k):Below B w w':=
 ⟨h.os,h.tape,h.output,h.size,fun k hk=>h.block k (by omega) (hf k hk)⟩
def Ze(W:World)(v:Value)(l:List Int):Prop:=
 v= .slice none 0 0/\l=[]\/
 ∃g cap c,v= .slice (some ⟨g,0,none⟩) l.length cap/\W.heap[g]?=some (.cells c 3 (0,0))/\l.length<=cap/\cap<=9223372036854775807/\cap<=c.size/\0<c.size/\∀k,k<l.length->c[k]?=some (.int .i64 (l.getD k 0))
theorem Ze.keep{W W':World}{v:Value}{l:List Int}(h:Ze W v l)(e:∀g,v.ownBlock=some g->W'.heap[g]?=W.heap[g]?):Ze W' v l:=by
 rcases h with h|⟨g,cap,c,rfl,h1,h2⟩
 . exact Or.inl h
 . exact Or.inr ⟨g,cap,c,rfl,(e g rfl).trans h1,h2⟩
theorem Ze.lt{W:World}{v:Value}{l:List Int}(h:Ze W v l){g:Nat}(e:v.ownBlock=some g):g<W.heap.size:=by
 rcases h with⟨rfl,_⟩|⟨g',cap,c,rfl,h1,h2⟩
 . cases e
 . cases e;exact (Array.getElem?_eq_some_iff.1 h1).1
structure Mv where
 m:Nat
 d:Nat
 kb:Nat
 sb:Nat
 wb:Nat
 fb:Nat
 pb:Nat
 n:Nat
 nt:Nat
 np:Nat
 c0:Nat
 c1:Nat
 c2:Nat
 c3:Nat
 c4:Nat
 kept:Nat->Int
 seen:Nat->Int
 pass:Nat->Int
 wr:Nat->Int
 fl:Nat->List Int
 fv:Nat->Value
 ck:Int
 bd:Int
 la:Acc
 wm:Int
def Mv.blocks(M:Mv):List Nat:=[M.m,M.d,M.kb,M.sb,M.wb,M.fb,M.pb]
def Mv.own(M:Mv)(k:Nat):Prop:=k∈M.blocks\/∃t,t<M.nt/\(M.fv t).ownBlock=some k
structure Ba(W:World)(M:Mv):Prop where
 row:ti W M.m (.pointer (some ⟨M.d,0,none⟩)) (.slice (some ⟨M.pb,0,none⟩) M.np M.c4) M.ck M.bd M.la
 dev:W.heap[M.d]?=some (.cells #[.slice (some ⟨M.kb,0,none⟩) M.n M.c0, .slice (some ⟨M.sb,0,none⟩) M.n M.c1, .slice (some ⟨M.wb,0,none⟩) M.n M.c2, .slice (some ⟨M.fb,0,none⟩) M.nt M.c3] 188 (0,0))
 kept:Eb W M.kb (8*M.n) fun k=> .int .u64 (M.kept k)
 seen:Eb W M.sb (8*M.n) fun k=> .int .u64 (M.seen k)
 wr:Eb W M.wb M.n fun k=> .int .i64 (M.wr k)
 fb:Eb W M.fb M.nt M.fv
 pass:Eb W M.pb M.np fun k=> .int .u64 (M.pass k)
 fl:∀t,t<M.nt->Ze W (M.fv t) (M.fl t)
 apart:M.blocks.Nodup
 alone:∀t,t<M.nt->∀g,(M.fv t).ownBlock=some g->g∉M.blocks
 lone:∀t,t<M.nt->∀t',t'<M.nt->t≠t'->∀g,(M.fv t).ownBlock=some g->(M.fv t').ownBlock≠some g
 n0:0<M.n
 n1:M.n<=262144
 t1:M.nt<=64
 p1:M.np<=262144
 qE:∀t,t<M.nt->(M.fl t).Pairwise (·<·)
 inn:∀t,t<M.nt->∀x∈M.fl t,0<=x/\x<M.n
 ak:0<=M.ck
 Qv:0<=M.bd
 zq:M.bd<=M.ck
 yG:∀k,k<M.n->0<=M.wr k/\M.wr k<=M.wm
theorem Ba.lt{W:World}{M:Mv}(h:Ba W M){k:Nat}(hk:M.own k):k<W.heap.size:=by
 rcases hk with hk|⟨t,ht,e⟩
 . simp only [Mv.blocks,List.mem_cons,List.not_mem_nil,or_false]at hk;rcases hk with rfl|rfl|rfl|rfl|rfl|rfl|rfl
   . exact (Array.getElem?_eq_some_iff.1 h.row).1
   . exact (Array.getElem?_eq_some_iff.1 h.dev).1
   . exact h.kept.lt
   . exact h.seen.lt
   . exact h.wr.lt
   . exact h.fb.lt
   . exact h.pass.lt
 . exact (h.fl t ht).lt e
theorem Ba.keep{W W':World}{M:Mv}(h:Ba W M)(e:∀k,M.own k->W'.heap[k]?=W.heap[k]?):Ba W' M:=by
 have o:∀k,k∈M.blocks->W'.heap[k]?=W.heap[k]?:=fun k hk=>e k (Or.inl hk)
 exact {h with
  row:=(o _ (by simp [Mv.blocks])).trans h.row
  dev:=(o _ (by simp [Mv.blocks])).trans h.dev
  kept:=h.kept.keep (o _ (by simp [Mv.blocks]))
  seen:=h.seen.keep (o _ (by simp [Mv.blocks]))
  wr:=h.wr.keep (o _ (by simp [Mv.blocks]))
  fb:=h.fb.keep (o _ (by simp [Mv.blocks]))
  pass:=h.pass.keep (o _ (by simp [Mv.blocks]))
  fl:=fun t ht=>(h.fl t ht).keep fun g hg=>e g (Or.inr ⟨t,ht,hg⟩)}
theorem Ba.JX{W W':World}{M:Mv}{F:Nat->Prop}(h:Ba W M)(t:Ea F W W')(hd:∀k,M.own k->¬F k):Ba W' M:=
 h.keep fun k hk=>t.block k (h.lt hk) (hd k hk)
theorem Ba.below{W W':World}{M:Mv}(h:Ba W M)(t:Below W.heap.size W W'):Ba W' M:=
 h.keep fun k hk=>t.block k (h.lt hk)
end Go.Proofs.YtfnkmolffhfpoaaGreat
