/- -/
import Derived.Test.YtfnkmolffhfpoaaGreatHq21
import Derived.Test.YtfnkmolffhfpoaaGreatHq26
import Derived.Test.YtfnkmolffhfpoaaGreatHq24
set_option linter.unusedVariables false
set_option linter.unusedSimpArgs false
set_option linter.unusedSectionVars false
namespace Go.Proofs.YtfnkmolffhfpoaaGreat
open Go.RowKit Go.BigFrame
theorem Sl(x d:Int)(h:0<=x):Int.tdiv x d=x/d:=Int.tdiv_eq_ediv_of_nonneg h
theorem Ff(x d:Int)(h:0<=x):Int.tmod x d=x %d:=Int.tmod_eq_emod_of_nonneg h
theorem Sw(n d:Int):(0<=n/\n.tmod d=n %d)\/(n<0/\n.tmod d=-((-n) %d)):=by
 by_cases h:0<=n
 . exact .inl ⟨h,Int.tmod_eq_emod_of_nonneg h⟩
 . refine .inr ⟨by omega, ?_⟩
   rw [<-Int.tmod_eq_emod_of_nonneg (show 0<=-n by omega),Int.neg_tmod];omega
theorem p2:((2:Int)^0=1/\(2:Int)^1=2/\(2:Int)^7=128/\(2:Int)^31=2147483648)/\(2:Int)^32=4294967296/\(2:Int)^33=8589934592:=by decide
theorem W9(x:Int)(h:Tc x)(w:World):Calls Tryz.prog 243 #[.int .u64 x] w (Cc (.int .i64 (KE x)) w):=by
 have HC:Hid (wrap64 (wrap64 (x.tmod 4294967296)+-1)=KE x):=Lib.hid (by
  have h0:=h.1
  have h1:=h.2
  obtain ⟨⟨p0,p1,p7,cK⟩,lC,dK⟩:=p2;simp only [Ff x _ h0,Sl x _ h0,IntKind.wrap_u64];unfold KE ld wrap64;rw [p0,lC];omega)
 clear h
 go_enter Tryz.func243,Tryz.ntmps243
 go_wp2_with fail
 go_ret
 exact ⟨Ta HC.out,rfl⟩
theorem X9(x:Int)(h:Tc x)(w:World):Calls Tryz.prog 150 #[.int .u64 x] w (Cc (.int .i64 (MM x)) w):=by
 have HC:Hid (wrap64 (wrap64 ((IntKind.u64.wrap (x.tdiv 4294967296)).tmod 128)+-1)=MM x):=Lib.hid (by
  have h0:=h.1
  have h1:=h.2
  obtain ⟨⟨p0,p1,p7,cK⟩,lC,dK⟩:=p2;simp only [Ff x _ h0,Sl x _ h0,IntKind.wrap_u64];rw [Ff _ _ (by omega)];unfold MM ld wrap64;rw [p7,lC];omega)
 clear h
 go_enter Tryz.func150,Tryz.ntmps150
 go_wp2_with fail
 go_ret
 exact ⟨Ta HC.out,rfl⟩
theorem cN(x:Int)(h:Tc x)(w:World):Calls Tryz.prog 252 #[.int .u64 x] w (Cc (.bool (Pf x)) w):=by
 have HC:Hid ((IntKind.u64.wrap (x.tdiv 9223372036854775808)==1)=Pf x):=Lib.hid (by
  have h0:=h.1
  have h1:=h.2
  obtain ⟨⟨p0,p1,p7,cK⟩,lC,dK⟩:=p2;simp only [Ff x _ h0,Sl x _ h0,IntKind.wrap_u64];have e:x/9223372036854775808 %18446744073709551616=x/9223372036854775808:=by omega
  rw [e];rfl)
 clear h
 go_enter Tryz.func252,Tryz.ntmps252
 go_wp2_with fail
 go_ret
 exact ⟨Hw HC.out,rfl⟩
theorem dN(x:Int)(h:Tc x)(w:World):Calls Tryz.prog 251 #[.int .u64 x] w (Cc (.int .u64 (Yd x)) w):=by
 have HC:Hid (x.tmod 9223372036854775808=Yd x):=Lib.hid (by
  have h0:=h.1
  have h1:=h.2
  obtain ⟨⟨p0,p1,p7,cK⟩,lC,dK⟩:=p2;simp only [Ff x _ h0,Sl x _ h0,IntKind.wrap_u64];rfl)
 clear h
 go_enter Tryz.func251,Tryz.ntmps251
 go_wp2_with fail
 go_ret
 exact ⟨Ta HC.out,rfl⟩
theorem cr(x:Int)(h:Tc x)(w:World):Calls Tryz.prog 292 #[.int .u64 x] w (Cc (.int .u64 (gb x)) w):=by
 have HC:Hid (IntKind.u64.wrap (x.tmod 9223372036854775808+9223372036854775808)=gb x):=Lib.hid (by
  have h0:=h.1
  have h1:=h.2
  obtain ⟨⟨p0,p1,p7,cK⟩,lC,dK⟩:=p2;simp only [Ff x _ h0,Sl x _ h0,IntKind.wrap_u64];unfold gb Yd;omega)
 clear h
 go_enter Tryz.func292,Tryz.ntmps292
 go_wp2_with fail
 go_ret
 exact ⟨Ta HC.out,rfl⟩
theorem eN(x:Int)(h:Tc x)(w:World):Calls Tryz.prog 293 #[.int .u64 x] w (Cc (.int .i64 (yi x)) w):=by
 have HC:Hid (wrap64 (wrap64 (IntKind.u64.wrap (x.tdiv 4294967296))+-1)=yi x):=Lib.hid (by
  have h0:=h.1
  have h1:=h.2
  obtain ⟨⟨p0,p1,p7,cK⟩,lC,dK⟩:=p2;simp only [Ff x _ h0,Sl x _ h0,IntKind.wrap_u64];unfold yi ld wrap64;rw [lC];omega)
 clear h
 go_enter Tryz.func293,Tryz.ntmps293
 go_wp2_with fail
 go_ret
 exact ⟨Ta HC.out,rfl⟩
theorem XV(x:Int)(h:Tc x)(w:World):Calls Tryz.prog 156 #[.int .u64 x] w (Cc (.int .i64 (ld 33 31 x)) w):=by
 have HC:Hid (wrap64 (IntKind.u64.wrap (x.tdiv 8589934592))=ld 33 31 x):=Lib.hid (by
  have h0:=h.1
  have h1:=h.2
  obtain ⟨⟨p0,p1,p7,cK⟩,lC,dK⟩:=p2;simp only [Ff x _ h0,Sl x _ h0,IntKind.wrap_u64];unfold ld wrap64;rw [cK,dK];omega)
 clear h
 go_enter Tryz.func156,Tryz.ntmps156
 go_wp2_with fail
 go_ret
 exact ⟨Ta HC.out,rfl⟩
theorem SQ(x:Int)(h:Tc x)(w:World):Calls Tryz.prog 153 #[.int .u64 x] w (Cc (.bool (ld 32 1 x==1)) w):=by
 have HC:Hid (((IntKind.u64.wrap (x.tdiv 4294967296)).tmod 2==1)=(ld 32 1 x==1)):=Lib.hid (by
  have h0:=h.1
  have h1:=h.2
  obtain ⟨⟨p0,p1,p7,cK⟩,lC,dK⟩:=p2;simp only [Ff x _ h0,Sl x _ h0,IntKind.wrap_u64];rw [Ff _ _ (by omega)];unfold ld;rw [p1,lC];have e:x/4294967296 %18446744073709551616=x/4294967296:=by omega
  rw [e])
 clear h
 go_enter Tryz.func153,Tryz.ntmps153
 go_wp2_with fail
 go_ret
 exact ⟨Hw HC.out,rfl⟩
theorem YV(x:Int)(h:Tc x)(w:World):Calls Tryz.prog 302 #[.int .u64 x] w (Cc (.int .u32 (Ry x)) w):=by
 have HC:Hid (IntKind.u64.wrap (x.tdiv 4294967296) %4294967296=Ry x):=Lib.hid (by
  have h0:=h.1
  have h1:=h.2
  obtain ⟨⟨p0,p1,p7,cK⟩,lC,dK⟩:=p2;simp only [Ff x _ h0,Sl x _ h0,IntKind.wrap_u64];unfold Ry;omega)
 clear h
 go_enter Tryz.func302,Tryz.ntmps302
 go_wp2_with fail
 go_ret
 exact ⟨Ta HC.out,rfl⟩
theorem mC(n:Int)(h0:-9223372036854775808<=n)(h1:n<=9223372036854775807)(w:World):Calls Tryz.prog 250 #[.int .i64 n, .int .i64 4294967296] w (Cc (.int .i64 ((n+1) %4294967296)) w):=by
 have HC:Hid (∀t,n.tmod 4294967296=t->(t<0->(wrap64 (wrap64 (t+4294967296)+1)).tmod 4294967296=(n+1) %4294967296)/\(0<=t->(wrap64 (t+1)).tmod 4294967296=(n+1) %4294967296)):=Lib.hid (by
  intro t ht;rcases Sw n 4294967296 with⟨a,b⟩|⟨a,b⟩
  . rw [b]at ht;refine ⟨fun h=>by omega,fun h=> ?_⟩;have e:wrap64 (t+1)=t+1:=by unfold wrap64;omega
    rw [e,Ff _ _ (by omega)];omega
  . rw [b]at ht;refine ⟨fun h=> ?_,fun h=> ?_⟩
    . have e:wrap64 (wrap64 (t+4294967296)+1)=t+4294967296+1:=by unfold wrap64;omega
      rw [e,Ff _ _ (by omega)];omega
    . have e:wrap64 (t+1)=t+1:=by unfold wrap64;omega
      rw [e,Ff _ _ (by omega)];omega)
 obtain ⟨t,ht⟩:∃t,t=n.tmod 4294967296:=⟨_,rfl⟩;have HT:=Lib.hid ht;clear ht h0 h1
 go_enter Tryz.func250,Tryz.ntmps250
 go_wp2_with fail
 . rename_i q
   go_ret
   exact ⟨Ta ((HC.out _ rfl).1 q),rfl⟩
 . rename_i q
   go_ret
   exact ⟨Ta ((HC.out _ rfl).2 q),rfl⟩
theorem laj(n:Int)(h0:-9223372036854775808<=n)(h1:n<=9223372036854775807)(w:World):Calls Tryz.prog 250 #[.int .i64 n, .int .i64 128] w (Cc (.int .i64 ((n+1) %128)) w):=by
 have HC:Hid (∀t,n.tmod 128=t->(t<0->(wrap64 (wrap64 (t+128)+1)).tmod 128=(n+1) %128)/\(0<=t->(wrap64 (t+1)).tmod 128=(n+1) %128)):=Lib.hid (by
  intro t ht;rcases Sw n 128 with⟨a,b⟩|⟨a,b⟩
  . rw [b]at ht;refine ⟨fun h=>by omega,fun h=> ?_⟩;have e:wrap64 (t+1)=t+1:=by unfold wrap64;omega
    rw [e,Ff _ _ (by omega)];omega
  . rw [b]at ht;refine ⟨fun h=> ?_,fun h=> ?_⟩
    . have e:wrap64 (wrap64 (t+128)+1)=t+128+1:=by unfold wrap64;omega
      rw [e,Ff _ _ (by omega)];omega
    . have e:wrap64 (t+1)=t+1:=by unfold wrap64;omega
      rw [e,Ff _ _ (by omega)];omega)
 obtain ⟨t,ht⟩:∃t,t=n.tmod 128:=⟨_,rfl⟩;have HT:=Lib.hid ht;clear ht h0 h1
 go_enter Tryz.func250,Tryz.ntmps250
 go_wp2_with fail
 . rename_i q
   go_ret
   exact ⟨Ta ((HC.out _ rfl).1 q),rfl⟩
 . rename_i q
   go_ret
   exact ⟨Ta ((HC.out _ rfl).2 q),rfl⟩
theorem TQ(t b:Int)(t0:-9223372036854775808<=t)(t1:t<=9223372036854775807)(b0:-9223372036854775808<=b)(b1:b<=9223372036854775807)(w:World):Calls Tryz.prog 161 #[.int .i64 t, .int .i64 b] w (Cc (.int .u64 (zi t b)) w):=by
 have HC:Hid ((t+1) %4294967296+4294967296*((b+1) %128)=zi t b):=Lib.hid (by
  obtain ⟨⟨p0,p1,p7,cK⟩,lC,dK⟩:=p2;unfold zi Ub td;rw [p0,lC,p7];omega)
 have H1:=Lib.hid fun w=>mC t t0 t1 w
 have H2:=Lib.hid fun w=>laj b b0 b1 w
 clear t0 t1 b0 b1
 go_enter Tryz.func161,Tryz.ntmps161
 go_wp2_with fail
 refine (H1.out _).mono ?_
 rintro e w1 ⟨rfl,rfl⟩
 go_wp2_with fail
 refine (H2.out _).mono ?_
 rintro e w1 ⟨rfl,rfl⟩
 go_wp2_with fail
 go_ret
 exact ⟨Ta HC.out,rfl⟩
theorem gN(t b:Int)(t0:-9223372036854775808<=t)(t1:t<=9223372036854775807)(b0:-9223372036854775808<=b)(b1:b<=9223372036854775807)(w:World):Calls Tryz.prog 249 #[.int .i64 t, .int .i64 b] w (Cc (.int .u64 (Ai t b)) w):=by
 have HC:Hid ((t+1) %4294967296+4294967296*((b+1) %4294967296)=Ai t b):=Lib.hid (by
  obtain ⟨⟨p0,p1,p7,cK⟩,lC,dK⟩:=p2;unfold Ai Ub td;rw [p0,lC];omega)
 have H1:=Lib.hid fun w=>mC t t0 t1 w
 have H2:=Lib.hid fun w=>mC b b0 b1 w
 clear t0 t1 b0 b1
 go_enter Tryz.func249,Tryz.ntmps249
 go_wp2_with fail
 refine (H1.out _).mono ?_
 rintro e w1 ⟨rfl,rfl⟩
 go_wp2_with fail
 refine (H2.out _).mono ?_
 rintro e w1 ⟨rfl,rfl⟩
 go_wp2_with fail
 go_ret
 exact ⟨Ta HC.out,rfl⟩
theorem ZV(t v:Int)(t0:-9223372036854775808<=t)(t1:t<=9223372036854775807)(h0:0<=v)(h1:v<4294967296)(w:World):Calls Tryz.prog 301 #[.int .i64 t, .int .u32 v] w (Cc (.int .u64 (su t v)) w):=by
 have HC:Hid ((t+1) %4294967296+4294967296*v=su t v):=Lib.hid (by
  obtain ⟨⟨p0,p1,p7,cK⟩,lC,dK⟩:=p2;unfold su Ub td;rw [p0,lC];omega)
 have H1:=Lib.hid fun w=>mC t t0 t1 w
 clear t0 t1
 go_enter Tryz.func301,Tryz.ntmps301
 go_wp2_with fail
 refine (H1.out _).mono ?_
 rintro e w1 ⟨rfl,rfl⟩
 go_wp2_with fail
 go_ret
 exact ⟨Ta HC.out,rfl⟩
theorem UQ(q v:Int)(d:Bool)(q0:-9223372036854775808<=q)(q1:q<=9223372036854775807)(h0:0<=v)(h1:v<4294967296)(w:World):Calls Tryz.prog 155 #[.int .i64 q, .bool d, .int .u32 v] w (Cc (.int .u64 (cellW q d v)) w):=by
 go_enter Tryz.func155,Tryz.ntmps155
 cases d
 all_goals go_wp2_with fail
 all_goals go_ret
 all_goals refine ⟨Ta (?_:_=_),rfl⟩
 all_goals
  obtain ⟨⟨p0,p1,p7,cK⟩,lC,dK⟩:=p2;simp only [IntKind.wrap_u64];unfold cellW Ub;rw [cK,dK];simp only [Bool.false_eq_true,if_false,if_true]
  try unfold wrap64
  rcases Sw q 2147483648 with⟨a,b⟩|⟨a,b⟩
  all_goals omega
end Go.Proofs.YtfnkmolffhfpoaaGreat
namespace Go.Proofs.YtfnkmolffhfpoaaGreat
namespace Sk
open Go.RowKit
section
variable[Interp]
theorem Vc.same{B:Nat->Prop}{w0:World}{R:Mp}{σ:AH}{w w':World}(hS:Vc B w0 R σ w)(h:Below w.heap.size w w'):Vc B w0 R σ w' where
 DD:=hS.DD
 lt:=fun b r s hb=>Nat.lt_of_lt_of_le (hS.lt b r s hb) h.size
 obj:=fun b r s o hb ho=>⟨(hS.obj b r s o hb ho).1,by rw [h.block r (hS.lt b r s hb)];exact (hS.obj b r s o hb ho).2⟩
 inj:=hS.inj
 below:=⟨h.os.trans hS.below.os,h.tape.trans hS.below.tape,h.output.trans hS.below.output,Nat.le_trans hS.below.size h.size,fun k hk hb=>(h.block k (Nat.lt_of_lt_of_le hk hS.below.size)).trans (hS.below.block k hk hb)⟩
 base:=hS.base
 kO:=by
  obtain ⟨O,hO⟩:=hS.kO;refine ⟨O,fun b r s e hb he=> ?_⟩;obtain ⟨⟨g,h1,h2⟩,h3⟩:=hO b r s e hb he;exact ⟨⟨g,h1,Interp.gh_keep g r (O b) w w' h2 h.size fun k hk=>h.block k (Interp.gh_lt g r (O b) w h2 k hk)⟩,h3⟩
theorem VQ{R:Mp}{k:Nat}{v v':Value}(h:VR R v v')(hs:qc k v=true)(hk:k<=7):∃n q,jc q=k/\v'= .int q n/\den v= .v (.int q n)/\q.wrap n=n:=by
 obtain ⟨n,⟨q,h1,h2,h3⟩,h4⟩:=ej hs hk;have:=Pr h h4;rw [h2]at this;injection this with this
 exact ⟨n,q,h1,this.symm,h2,h3⟩
theorem Ve{R:Mp}{v v':Value}(h:VR R v v')(hs:qc 3 v=true):∃n,v'= .int .i64 n/\den v= .v (.int .i64 n)/\-9223372036854775808<=n/\n<=9223372036854775807:=by
 obtain ⟨n,q,h1,h2,h3,h4⟩:=VQ h hs (by decide);have:q= .i64:=Qb (by rw [Na];exact decide_eq_true h1)
 subst this;rw [IntKind.wrap_i64]at h4;exact ⟨n,h2,h3,by omega,by omega⟩
theorem Pt{R:Mp}{v v':Value}(h:VR R v v')(hs:qc 7 v=true):∃n,v'= .int .u64 n/\den v= .v (.int .u64 n)/\Tc n:=by
 obtain ⟨n,q,h1,h2,h3,h4⟩:=VQ h hs (by decide);have:q= .u64:=Qb (by rw [Na];exact decide_eq_true h1)
 subst this;rw [IntKind.wrap_u64]at h4;exact ⟨n,h2,h3,by unfold Tc;omega⟩
theorem OX{R:Mp}{v v':Value}(h:VR R v v')(hs:qc 6 v=true):∃n,v'= .int .u32 n/\den v= .v (.int .u32 n)/\0<=n/\n<4294967296:=by
 obtain ⟨n,q,h1,h2,h3,h4⟩:=VQ h hs (by decide);have:q= .u32:=Qb (by rw [Na];exact decide_eq_true h1)
 subst this;rw [IntKind.wrap_u32]at h4;exact ⟨n,h2,h3,by omega,by omega⟩
theorem maj{R:Mp}{v v':Value}(h:VR R v v')(hs:qc 8 v=true):∃b,v'= .bool b/\den v= .v (.bool b):=by
 obtain ⟨b,h1,h2⟩:=zQ hs;have:=Pr h h2;rw [h1]at this;injection this with this
 exact ⟨b,this.symm,h1⟩
def SH(P:Program)(F:List (Value×Value))(g:List (Value×Value)->List Value->AH->Option (Value×AH))(f:FuncId):Prop:=
 ∀args σ v σ',g F args σ=some (v,σ')->∀(B:Nat->Prop) (w0:World) (R:Mp) (w:World) (args':List Value),Vc B w0 R σ w->LR R args args'->Calls P f ⟨args'⟩ w (oh B w0 R σ v σ')
theorem vh{P:Program}{f:FuncId}{args':Array Value}{B:Nat->Prop}{w0:World}{R:Mp}{σ:AH}{w:World}{v v':Value}(hS:Vc B w0 R σ w)(hv:VR R v v')(h:Calls P f args' w (Cd v' w)):Calls P f args' w (oh B w0 R σ v σ):=by
 refine h.mono ?_
 rintro e w' ⟨rfl,hb⟩;exact ⟨R,v',rfl,Ext.refl R σ,hv,hS.same hb⟩
variable[Lc]
theorem tf{F:List (Value×Value)}(hF:∀p,p∈F->den p.1=den p.2){t:Nat}(l:List Value)(ht:t %16<=8):(∃c,Gf (mk F t l)=some c)/\den (mk F t l)=den (sy t l):=by
 unfold mk;obtain ⟨⟨c,h1⟩,h2⟩:=mF F hF (sy t l) (t %16) (vD l ht);exact ⟨uv h1,(Xn hF _).trans h2⟩
def uc(P:Program)(f t:Nat)(ks:List Nat):Prop:=∀(args args':List Value) (R:Mp),Ll ks args=true->LR R args args'->∃v',den (sy t args)= .v v'/\∀w,Calls P f ⟨args'⟩ w (Cd v' w)
theorem Eb{P:Program}{F:List (Value×Value)}(hF:∀p,p∈F->den p.1=den p.2){f t:Nat}{ks:List Nat}(ht:t %16<=8)(h:uc P f t ks):SH P F (tc t ks) f:=by
 intro args σ v σ' hg B w0 R w args' hS hl;unfold tc at hg
 split at hg
 . rename_i h1 h2;cases hg;obtain ⟨v',k1,k2⟩:=h args args' R h2 hl;obtain ⟨⟨c,q1⟩,q2⟩:=tf hF args ht;exact vh hS (Yc R q1 (q2.trans k1)) (k2 w)
 . cases hg
end
theorem Va{v:Value}{w:World}{P:Program}{f:FuncId}{a:Array Value}(h:Calls P f a w (Cc v w)):Calls P f a w (Cd v w):=h.mono fun e w' ⟨h1,h2⟩=>⟨h1,h2▸Below.refl _ _⟩
theorem Qt{k:Nat}{ks:List Nat}{args:List Value}(h:Ll (k::ks) args=true):∃x l,args=x::l/\qc k x=true/\Ll ks l=true:=by
 cases args with
 |nil=>cases h
 |cons x l=>
  simp only [Ll]at h
  split at h
  . rename_i h1;exact ⟨x,l,rfl,h1,h⟩
  . cases h
theorem eK{args:List Value}(h:Ll [] args=true):args=[]:=by
 cases args with
 |nil=>rfl
 |cons x l=>cases h
section
variable[Interp][Lc]{P:Program}
theorem Gg{f t:Nat}(h:∀x n,den x= .v (.int .u64 n)->Tc n->∃v',den (sy t [x])= .v v'/\∀w,Calls P f #[.int .u64 n] w (Cd v' w)):uc P f t [7]:=fun args args' R hk hl=>by
 obtain ⟨x,l,rfl,h1,h2⟩:=Qt hk;cases eK h2;obtain ⟨x',l',rfl,hx,hl⟩:=hl.Ea;cases hl.Fc;obtain ⟨n,rfl,hd,hu⟩:=Pt hx h1;exact h x n hd hu
theorem nC{f t:Nat}(h:∀x n y m,den x= .v (.int .i64 n)->(-9223372036854775808<=n/\n<=9223372036854775807)->den y= .v (.int .i64 m)->(-9223372036854775808<=m/\m<=9223372036854775807)->∃v',den (sy t [x,y])= .v v'/\∀w,Calls P f #[.int .i64 n, .int .i64 m] w (Cd v' w)):uc P f t [3,3]:=fun args args' R hk hl=>by
 obtain ⟨x,l,rfl,h1,h2⟩:=Qt hk;obtain ⟨y,l,rfl,h3,h4⟩:=Qt h2;cases eK h4;obtain ⟨x',l',rfl,hx,hl⟩:=hl.Ea;obtain ⟨y',l',rfl,hy,hl⟩:=hl.Ea;cases hl.Fc;obtain ⟨n,rfl,hd,hu⟩:=Ve hx h1;obtain ⟨m,rfl,jP,QU⟩:=Ve hy h3;exact h x n y m hd hu jP QU
theorem WQ{f t:Nat}(h:∀x n y m,den x= .v (.int .i64 n)->(-9223372036854775808<=n/\n<=9223372036854775807)->den y= .v (.int .u32 m)->(0<=m/\m<4294967296)->∃v',den (sy t [x,y])= .v v'/\∀w,Calls P f #[.int .i64 n, .int .u32 m] w (Cd v' w)):uc P f t [3,6]:=fun args args' R hk hl=>by
 obtain ⟨x,l,rfl,h1,h2⟩:=Qt hk;obtain ⟨y,l,rfl,h3,h4⟩:=Qt h2;cases eK h4;obtain ⟨x',l',rfl,hx,hl⟩:=hl.Ea;obtain ⟨y',l',rfl,hy,hl⟩:=hl.Ea;cases hl.Fc;obtain ⟨n,rfl,hd,hu⟩:=Ve hx h1;obtain ⟨m,rfl,jP,QU⟩:=OX hy h3;exact h x n y m hd hu jP QU
theorem fK{f t:Nat}(h:∀x n y b z m,den x= .v (.int .i64 n)->(-9223372036854775808<=n/\n<=9223372036854775807)->den y= .v (.bool b)->den z= .v (.int .u32 m)->(0<=m/\m<4294967296)->∃v',den (sy t [x,y,z])= .v v'/\∀w,Calls P f #[.int .i64 n, .bool b, .int .u32 m] w (Cd v' w)):uc P f t [3,8,6]:=fun args args' R hk hl=>by
 obtain ⟨x,l,rfl,h1,h2⟩:=Qt hk;obtain ⟨y,l,rfl,h3,h4⟩:=Qt h2;obtain ⟨z,l,rfl,h5,h6⟩:=Qt h4;cases eK h6;obtain ⟨x',l',rfl,hx,hl⟩:=hl.Ea;obtain ⟨y',l',rfl,hy,hl⟩:=hl.Ea;obtain ⟨z',l',rfl,hz,hl⟩:=hl.Ea;cases hl.Fc;obtain ⟨n,rfl,hd,hu⟩:=Ve hx h1;obtain ⟨b,rfl,jP⟩:=maj hy h3;obtain ⟨m,rfl,hd3,hu3⟩:=OX hz h5;exact h x n y b z m hd hu jP hd3 hu3
end
section
variable[Interp][Lc]
theorem naj:uc Tryz.prog 120 DP [7]:=Gg fun x n hx h=>⟨_,dTo hx h,fun w=>Kai n h w⟩
theorem oaj:uc Tryz.prog 243 DP [7]:=Gg fun x n hx h=>⟨_,dTo hx h,fun w=>Va (W9 n h w)⟩
theorem Fax:uc Tryz.prog 131 jV [7]:=Gg fun x n hx h=>⟨_,dBy hx h,fun w=>Law n h w⟩
theorem paj:uc Tryz.prog 150 jV [7]:=Gg fun x n hx h=>⟨_,dBy hx h,fun w=>Va (X9 n h w)⟩
theorem qaj:uc Tryz.prog 308 Np [7]:=Gg fun x n hx h=>⟨_,PH hx h,fun w=>dQ n h w⟩
theorem raj:uc Tryz.prog 293 Np [7]:=Gg fun x n hx h=>⟨_,PH hx h,fun w=>Va (eN n h w)⟩
theorem saj:uc Tryz.prog 309 pM [7]:=Gg fun x n hx h=>⟨_,haj hx h,fun w=>Va (N8 n h w)⟩
theorem taj:uc Tryz.prog 302 pM [7]:=Gg fun x n hx h=>⟨_,haj hx h,fun w=>Va (YV n h w)⟩
theorem uaj:uc Tryz.prog 132 qM [7]:=Gg fun x n hx h=>⟨_,O9 hx h,fun w=>Va (K8 n h w)⟩
theorem vaj:uc Tryz.prog 128 hH [7]:=Gg fun x n hx h=>⟨_,P9 hx h,fun w=>J8 n h w⟩
theorem waj:uc Tryz.prog 156 hH [7]:=Gg fun x n hx h=>⟨_,P9 hx h,fun w=>Va (XV n h w)⟩
theorem xaj:uc Tryz.prog 134 Hz [7]:=Gg fun x n hx h=>⟨_,NX hx,fun w=>IV n h w⟩
theorem yaj:uc Tryz.prog 153 Hz [7]:=Gg fun x n hx h=>⟨_,NX hx,fun w=>Va (SQ n h w)⟩
theorem zaj:uc Tryz.prog 281 Fh [7]:=Gg fun x n hx h=>⟨_,Ms hx,fun w=>Va (eQ n w)⟩
theorem Aaj:uc Tryz.prog 252 Fh [7]:=Gg fun x n hx h=>⟨_,Ms hx,fun w=>Va (cN n h w)⟩
theorem Baj:uc Tryz.prog 217 Hh [7]:=Gg fun x n hx h=>⟨_,yn hx,fun w=>Va (fQ n h w)⟩
theorem Caj:uc Tryz.prog 251 Hh [7]:=Gg fun x n hx h=>⟨_,yn hx,fun w=>Va (dN n h w)⟩
theorem Daj:uc Tryz.prog 236 Rg [7]:=Gg fun x n hx h=>⟨_,aA hx,fun w=>Va (JV n h w)⟩
theorem Eaj:uc Tryz.prog 292 Rg [7]:=Gg fun x n hx h=>⟨_,aA hx,fun w=>Va (cr n h w)⟩
theorem Gax:uc Tryz.prog 84 Mq [3,3]:=nC fun x n y m hx h hy k=>⟨_,iF hx hy,fun w=>O8 n m w⟩
theorem Faj:uc Tryz.prog 161 Mq [3,3]:=nC fun x n y m hx h hy k=>⟨_,iF hx hy,fun w=>Va (TQ n m h.1 h.2 k.1 k.2 w)⟩
theorem Gaj:uc Tryz.prog 224 Bs [3,3]:=nC fun x n y m hx h hy k=>⟨_,CQ hx hy,fun w=>gQ n m w⟩
theorem Haj:uc Tryz.prog 249 Bs [3,3]:=nC fun x n y m hx h hy k=>⟨_,CQ hx hy,fun w=>Va (gN n m h.1 h.2 k.1 k.2 w)⟩
theorem Iaj:uc Tryz.prog 289 nE [3,6]:=WQ fun x n y m hx h hy k=>⟨_,(Q9 hx hy).trans (by rw [xd (jF k.1 k.2)]),fun w=>P8 n m k.1 k.2 w⟩
theorem Jaj:uc Tryz.prog 301 nE [3,6]:=WQ fun x n y m hx h hy k=>⟨_,(Q9 hx hy).trans (by rw [xd (jF k.1 k.2)]),fun w=>Va (ZV n m h.1 h.2 k.1 k.2 w)⟩
theorem Hax:uc Tryz.prog 127 Vo [3,8,6]:=fK fun x n y b z m hx h hy hz k=>⟨_,(kF hx hy hz).trans (by rw [xd (Ns k.1 k.2)]),fun w=>Q8 n m b k.1 k.2 w⟩
theorem Kaj:uc Tryz.prog 155 Vo [3,8,6]:=fK fun x n y b z m hx h hy hz k=>⟨_,(kF hx hy hz).trans (by rw [xd (Ns k.1 k.2)]),fun w=>Va (UQ n m b h.1 h.2 k.1 k.2 w)⟩
end
end Sk
end Go.Proofs.YtfnkmolffhfpoaaGreat
namespace Go.Proofs.YtfnkmolffhfpoaaGreat
open Go.RowKit Go.BigFrame
def Lv.thr(v:Lv)(t at_:Int):Int:=v.word t v.th v.pt 1 at_
theorem fA(l:Nat)(v:Lv)(s at_:Int)(a0:0<=at_)(a1:at_<=100)(w:World)(h:Kc w l v):
  Calls Tryz.prog 218 #[.pointer (some ⟨l,0,none⟩), .int .i64 s, .int .i64 at_] w (Nl (.int .i64 (v.thr s at_)) w):=by
 have HW:Hid (∀w,Kc w l v->Calls Tryz.prog 282 #[.pointer (some ⟨l,0,none⟩), .int .i64 s, .int .i64 v.th, .int .i64 v.pt, .int .i64 1, .int .i64 at_] w (Cc (.int .i64 (v.thr s at_)) w)):=Lib.hid fun w h=>
  fC l v s v.th v.pt 1 at_ (by have:=h.ok.tU;omega) h.ok.FX (by have:=h.ok.pt1;omega) (by omega) (by omega) a0 a1 w h
 have HL:=Lib.hid h;obtain ⟨l0,l1,l2,l3,l4,l5,l6,l7,l8,lf⟩:=Tz h.row;clear h;generalize v.thr s at_=r at*;generalize v.th=sl at*;generalize v.pt=ps at*
 go_enter Tryz.func218,Tryz.ntmps218
 go_wp2_with fail
 go_quiet ((go_at_call 282;exact Calls.quiet_of_same (HW.out _ (HL.out.keep rfl))))
 go_wp2_with fail
 go_ret
 exact ⟨rfl,_,rfl⟩
theorem aW(l:Nat)(v:Lv)(s:Int)(w:World)(h:Kc w l v):Calls Tryz.prog 126 #[.pointer (some ⟨l,0,none⟩), .int .i64 s] w (Nl (.int .i64 (v.thr s 0)) w):=by
 have HS:=Lib.hid (fA l v s 0 (by omega) (by omega) w h);clear h
 go_enter Tryz.func126,Tryz.ntmps126
 go_wp2_with fail
 refine HS.out.mono ?_
 rintro e w1 ⟨rfl,n,rfl⟩
 go_wp2_with fail
 go_ret
 exact ⟨rfl,n,rfl⟩
theorem iN(l:Nat)(v:Lv)(s:Int)(w:World)(h:Kc w l v):Calls Tryz.prog 124 #[.pointer (some ⟨l,0,none⟩), .int .i64 s] w (Nl (.int .i64 (v.thr s 1)) w):=by
 have HS:=Lib.hid (fA l v s 1 (by omega) (by omega) w h);clear h
 go_enter Tryz.func124,Tryz.ntmps124
 go_wp2_with fail
 refine HS.out.mono ?_
 rintro e w1 ⟨rfl,n,rfl⟩
 go_wp2_with fail
 go_ret
 exact ⟨rfl,n,rfl⟩
def Lv.log(v:Lv)(t n:Int):Int:=if hasB n v.lo then v.word t v.th v.pl v.ls n else v.ln*8
theorem Y9(l:Nat)(v:Lv)(t n:Int)(w:World)(h:Kc w l v):Calls Tryz.prog 223 #[.pointer (some ⟨l,0,none⟩), .int .i64 t, .int .i64 n] w (Cd (.int .i64 (v.log t n)) w):=by
 have HA:=Lib.hid fun w=>Ks n v.lo w
 have HN:=Lib.hid fun w h=>Wq l v w h
 have HE:Hid (v.log t n=if hasB n v.lo then v.word t v.th v.pl v.ls n else v.ln*8):=Lib.hid rfl;have HW:Hid (hasB n v.lo=true->∀w,Kc w l v->Calls Tryz.prog 282 #[.pointer (some ⟨l,0,none⟩), .int .i64 t, .int .i64 v.th, .int .i64 v.pl, .int .i64 v.ls, .int .i64 n] w (Cc (.int .i64 (v.word t v.th v.pl v.ls n)) w)):=Lib.hid fun hb w h=>
  fC l v t v.th v.pl v.ls n (by have:=h.ok.tU;omega) h.ok.X8 (by have:=h.ok.pl1;omega) h.ok.Y8 h.ok.b9 (vn hb).1 (by have:=(vn hb).2;have:=h.ok.lo1;omega) w h
 have HL:=Lib.hid h;have n0:=h.ok.mQ;have n1:=h.ok.nQ;obtain ⟨l0,l1,l2,l3,l4,l5,l6,l7,l8,lf⟩:=Tz h.row;clear h;generalize v.log t n=r at*;generalize v.word t v.th v.pl v.ls n=x at*;generalize hasB n v.lo=y at*;generalize v.th=th at*;generalize v.pl=pl at*;generalize v.ls=ls at*;generalize v.lo=lo at*;generalize v.ln=ln at*;cases y with
 |true=>
  have HW2:=Lib.hid (HW.out rfl)
  go_enter Tryz.func223,Tryz.ntmps223
  go_wp2_with fail
  refine (HA.out _).mono ?_
  rintro e w2 ⟨rfl,rfl⟩
  go_wp2_with fail
  go_quiet ((go_at_call 282;exact Calls.quiet_of_same (HW2.out _ (HL.out.keep rfl))))
  go_wp2_with fail
  go_ret
  exact ⟨Ta HE.out.symm,ab (Below.refl _ _) _⟩
 |false=>
  go_enter Tryz.func223,Tryz.ntmps223
  go_wp2_with fail
  refine (HA.out _).mono ?_
  rintro e w2 ⟨rfl,rfl⟩
  go_wp2_with fail
  refine (HN.out _ HL.out).mono ?_
  rintro e w2 ⟨rfl,rfl⟩
  go_wp2_with fail
  go_ret
  exact ⟨Ta HE.out.symm,Below.refl _ _⟩
theorem Maj(a b c d:Value)(w:World):(Instr.field 23 (.agg #[a,b,c,d]) 0).run Tryz.prog w= .ok a w:=by kernel_rfl
theorem Naj(a b c d:Value)(w:World):(Instr.field 23 (.agg #[a,b,c,d]) 1).run Tryz.prog w= .ok b w:=by kernel_rfl
theorem gK(l:Nat)(n:Int)(n0:0<=n)(n1:n<=1000000)(w:World):Calls Tryz.prog 262 #[.pointer (some ⟨l,0,none⟩), .int .i64 n] w (Cc (.int .i64 (-1 -n)) w):=by
 go_enter Tryz.func262,Tryz.ntmps262
 go_wp2_with fail
 go_ret
 exact ⟨rfl,rfl⟩
def Lv.Tw(v:Lv)(n:Int):Int:=if hasB n v.th then-3 -n else v.ln*8
set_option maxRecDepth 100000 in
theorem oF(l:Nat)(v:Lv)(n:Int)(w:World)(h:Kc w l v):Calls Tryz.prog 182 #[.pointer (some ⟨l,0,none⟩), .int .i64 n] w (Cd (.int .i64 (v.Tw n)) w):=by
 have HC:=Lib.hid fun w h=>Vq l v w h
 have HL:=Lib.hid fun w h=>Wq l v w h
 have FD:=fun a b c d w=>Maj a b c d w
 have HH:=Lib.hid fun w=>Ks n v.th w
 have HW:=Lib.hid h;have HN:=Lib.hid fun n h0 h1 w=>gK l n h0 h1 w
 have Zh:=h.ok;have b0:=Zh.RM;have b1:=Zh.tU;have c0:=Zh.RM;have c1:=Zh.tU;have l0:=Zh.mQ;have l1:=Zh.nQ;have HE:Hid (v.Tw n=if hasB n v.th then-3 -n else v.ln*8):=Lib.hid rfl;have HY:Hid (hasB n v.th=true->0<=n/\n<v.th):=Lib.hid vn;clear h Zh;generalize v.Tw n=r at*;generalize hasB n v.th=y at*;cases y with
 |true=>
  obtain ⟨n0,n1⟩:=HY.out rfl;clear HY
  go_enter Tryz.func182,Tryz.ntmps182
  go_wp2_with fail
  refine (HC.out _ HW.out).mono ?_
  rintro e w1 ⟨rfl,hb⟩;have HB:=Lib.hid hb;clear hb
  go_wp2_with fail
  refine (HH.out _).mono ?_
  rintro e w2 ⟨rfl,rfl⟩
  go_wp2_with fail
  refine (HN.out _ (by omega) (by omega) _).mono ?_
  rintro e w2 ⟨rfl,rfl⟩
  go_wp2_with fail
  go_ret
  exact ⟨Ta (by rw [HE.out,if_pos trivial];omega),HB.out⟩
 |false=>
  clear HY
  go_enter Tryz.func182,Tryz.ntmps182
  go_wp2_with fail
  refine (HC.out _ HW.out).mono ?_
  rintro e w1 ⟨rfl,hb⟩;have HB:=Lib.hid hb;clear hb
  go_wp2_with fail
  refine (HH.out _).mono ?_
  rintro e w2 ⟨rfl,rfl⟩
  go_wp2_with fail
  refine (HL.out _ (HW.out.keep (HB.out.block l HW.out.lt))).mono ?_
  rintro e w2 ⟨rfl,rfl⟩
  go_wp2_with fail
  go_ret
  exact ⟨Ta (by rw [HE.out];simp),HB.out⟩
def Lv.after(v:Lv)(n:Int):Int:=if hasB n v.sl then-3 -v.th -n else v.ln*8
set_option maxRecDepth 100000 in
theorem XQ(l:Nat)(v:Lv)(n:Int)(w:World)(h:Kc w l v):Calls Tryz.prog 288 #[.pointer (some ⟨l,0,none⟩), .int .i64 n] w (Cd (.int .i64 (v.after n)) w):=by
 have HC:=Lib.hid fun w h=>Vq l v w h
 have HL:=Lib.hid fun w h=>Wq l v w h
 have FD:=fun a b c d w=>Naj a b c d w
 have HH:=Lib.hid fun w=>Ks n v.sl w
 have HW:=Lib.hid h;have HN:=Lib.hid fun n h0 h1 w=>gK l n h0 h1 w
 have Zh:=h.ok;have b0:=Zh.kQ;have b1:=Zh.W8;have c0:=Zh.RM;have c1:=Zh.tU;have l0:=Zh.mQ;have l1:=Zh.nQ;have HE:Hid (v.after n=if hasB n v.sl then-3 -v.th -n else v.ln*8):=Lib.hid rfl;have HY:Hid (hasB n v.sl=true->0<=n/\n<v.sl):=Lib.hid vn;clear h Zh;generalize v.after n=r at*;generalize hasB n v.sl=y at*;cases y with
 |true=>
  obtain ⟨n0,n1⟩:=HY.out rfl;clear HY
  go_enter Tryz.func288,Tryz.ntmps288
  go_wp2_with fail
  refine (HC.out _ HW.out).mono ?_
  rintro e w1 ⟨rfl,hb⟩;have HB:=Lib.hid hb;clear hb
  go_wp2_with fail
  refine (HH.out _).mono ?_
  rintro e w2 ⟨rfl,rfl⟩;obtain ⟨q0,q1,q2,q3,q4,q5,q6,q7,q8,qf⟩:=Tz (HW.out.keep (HB.out.block l HW.out.lt)).row
  go_wp2_with fail
  refine (HN.out _ (by omega) (by omega) _).mono ?_
  rintro e w2 ⟨rfl,rfl⟩
  go_wp2_with fail
  go_ret
  exact ⟨Ta (by rw [HE.out,if_pos trivial];omega),HB.out⟩
 |false=>
  clear HY
  go_enter Tryz.func288,Tryz.ntmps288
  go_wp2_with fail
  refine (HC.out _ HW.out).mono ?_
  rintro e w1 ⟨rfl,hb⟩;have HB:=Lib.hid hb;clear hb
  go_wp2_with fail
  refine (HH.out _).mono ?_
  rintro e w2 ⟨rfl,rfl⟩
  go_wp2_with fail
  refine (HL.out _ (HW.out.keep (HB.out.block l HW.out.lt))).mono ?_
  rintro e w2 ⟨rfl,rfl⟩
  go_wp2_with fail
  go_ret
  exact ⟨Ta (by rw [HE.out];simp),HB.out⟩
end Go.Proofs.YtfnkmolffhfpoaaGreat
