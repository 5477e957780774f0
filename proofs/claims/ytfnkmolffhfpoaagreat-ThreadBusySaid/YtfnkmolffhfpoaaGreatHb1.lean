/- -/
import Derived.WalkKit
import Derived.Lib.Hide
import Derived.BigQuiet
import Derived.Test.YtfnkmolffhfpoaaGreatProg
import Derived.ProofKit
import Derived.OpenShut
import Derived.Laws.Pointers
import Derived.RegionTactic
import Derived.BigRegion
import Derived.ChangeAlike
import Derived.Deep.RegionWith
import Derived.Deep.Cut
import Derived.Deep.CutRange
import Derived.Laws.BitsLemmas
import Derived.Laws.Bits64b
set_option linter.unusedVariables false
set_option linter.unusedSimpArgs false
namespace Go.Proofs.YtfnkmolffhfpoaaGreat
open Go.RowKit
theorem ue(w:World)(cs:Array Value)(e:TypeId)(j:Nat)(u:Value)(h:cs.toList[j]?=some u):(w.alloc (.cells cs e)).cell? ((⟨w.heap.size,0,none⟩:Addr).add j)=some u:=by
 have e1:(⟨w.heap.size,0,none⟩:Addr).add j=⟨w.heap.size,j,none⟩:=by rw [Addr.add_lit,Nat.zero_add]
 rw [e1,cell_of_row _ _ j cs e (0,0) (heap_alloc_new w _)]
 simpa using h
theorem Rl{a b c:World}{r:Option Nat}(h:a.grownBy b r)(k:b.grownBy c r):a.grownBy c r:=
 ⟨k.os.trans h.os,k.tape.trans h.tape,k.output.trans h.output,Nat.le_trans h.size k.size,
   fun i hi hr=>(k.block i (Nat.lt_of_lt_of_le hi h.size) hr).trans (h.block i hi hr)⟩
theorem Sd{P:Program}{ops:Array Oper}{rest:List Oper}{o:Oper}{a:Act}{Q:Exit->Act->World->Prop}(AW:o.guard=none)(s x:Operand)(t:TypeId)
  (ho:o.op= .call {callee:= .builtin .append,args:=#[s,x],argTypes:=#[t,t]})
  (base:Nat)(e:TypeId)(i:TypeInfo)(z:Value)(size bytes:Nat)(ht:P.underlying t=some (.slice e))(hi:P.info? e=some i)(hz:i.zero=some z)
  (JA:i.size=size)(RP:i.bytes=bytes)(SP:z.cells.size=size)(Xg:0<size)
  (wr:World)(uK:base<=wr.heap.size)(v:Value)(n:Nat)(xs:List Value)(hs:a.eval s=v)(yd:wr.ownsRow base e size v n xs)
  (cs:Array Value)(m c:Nat)(hx:a.eval x= .slice (some ⟨wr.heap.size,0,none⟩) m c)(hl:cs.size=m*size)(h1:∀u∈cs.toList,u.oneCell'=true)
  (I1:n+m<=maxLen)(Zq:(n+m)*bytes<=140737488355328)
  (h:∀v' w',w'.ownsRow base e size v' (n+m) (xs++cs.toList)->wr.grownBy w' v.ownBlock->(∀B W,Below B W wr->B<=base->Below B W w')->(v'= .slice none 0 0<->v= .slice none 0 0/\m=0)->wpList P ops Q rest (a.put o.dst v') w'):
  wpList P ops Q (o::rest) a (wr.alloc (.cells cs e)):=by
 refine wpList_append_own _ AW s x t ho base e i z size bytes ht hi hz JA RP SP Xg v n xs hs (yd.alloc _) ⟨wr.heap.size,0,none⟩ m c cs.toList hx (by simpa using hl) (fun j u hj=>ue wr cs e j u hj) h1 I1 Zq (by simp;omega) ?_
 intro v' w' OH Qp hn';refine h v' w' OH (Rl (World.grownBy_alloc wr _ _) Qp) (fun B W hb hB=> ?_) hn';refine (hb.alloc (by omega) _).grown Qp (by simp;omega) (fun k hk=> ?_)
 have:=yd.lt k hk;omega
end Go.Proofs.YtfnkmolffhfpoaaGreat
namespace Go.Proofs.YtfnkmolffhfpoaaGreat
open Go.RowKit Go.BigFrame
theorem ea{p:Prop}[Decidable p](h:¬p):decide p=false:=by simp [h]
theorem ca{p:Prop}[Decidable p](h:p):decide p=true:=by simp [h]
def Rb(v:Value)(w:World)(e:Ending)(w':World):Prop:=e= .returned v/\w'=w
theorem lh{a b:Value}(h:a=b):Ending.returned a=Ending.returned b:=by rw [h]
theorem TP(m:Nat)(c:Int)(w:World)(h:w.cell? ⟨m,2,none⟩=some (.int .i64 c)):Calls Tryz.prog 72 #[.pointer (some ⟨m,0,none⟩)] w (Rb (.int .i64 c) w):=by
 go_enter Tryz.func72,Tryz.ntmps72
 go_wp2_with fail
 go_ret
 exact ⟨rfl,rfl⟩
def Rc(v:Value)(w:World)(e:Ending)(w':World):Prop:=e= .returned v/\Below w.heap.size w w'
theorem PH(n:Int)(w:World):Calls Tryz.prog 102 #[.int .i64 n] w (Rb (.bool (decide (1<=n/\n<=64))) w):=by
 by_cases h:1<=n
 . have d1:decide (1<=n)=true:=ca h;have e:decide (1<=n/\n<=64)=decide (n<=64):=by simp [h]
   rw [e]
   go_enter Tryz.func102,Tryz.ntmps102
   go_wp2_with fail
   go_ret
   exact ⟨rfl,rfl⟩
 . have d1:decide (1<=n)=false:=ea h;have e:decide (1<=n/\n<=64)=false:=by simp [h]
   rw [e]
   go_enter Tryz.func102,Tryz.ntmps102
   go_wp2_with fail
   go_ret
   exact ⟨rfl,rfl⟩
def Sl(n:Nat)(at_:Int):Int:=if at_<0\/(n:Int)<=at_/8 then 5 else 0
def yi(n:Nat)(l:Int):Int:=if l<0\/(n:Int)<=l then 5 else 0
def Bb(n:Nat)(t:Int):Int:=if t<0\/(n:Int)<=t then 1 else 0
theorem zD(d:Nat)(a:Option Addr)(n cap:Nat)(hn:n<=262144)(at_:Int)(q1:at_<=9223372036854775807)(w:World)(h:w.cell? ⟨d,1,none⟩=some (.slice a n cap)):
  Calls Tryz.prog 258 #[.pointer (some ⟨d,0,none⟩), .int .i64 at_] w (Rb (.int .i64 (Sl n at_)) w):=by
 by_cases h0:at_<0
 . have d1:decide (at_<0)=true:=ca h0
   go_enter Tryz.func258,Tryz.ntmps258
   go_wp2_with fail
   go_ret
   exact ⟨lh (by simp [Sl,h0]),rfl⟩
 . have d1:decide (at_<0)=false:=ea h0;have q0:0<=at_:=by omega
   have e8:at_.tdiv 8=at_/8:=Int.tdiv_eq_ediv_of_nonneg q0;by_cases h1:(n:Int)<=at_/8
   . have d2:decide ((n:Int)<=at_/8)=true:=ca h1
     go_enter Tryz.func258,Tryz.ntmps258
     go_wp2_with fail
     go_ret
     exact ⟨lh (by simp [Sl,h0,h1]),rfl⟩
   . have d2:decide ((n:Int)<=at_/8)=false:=ea h1
     go_enter Tryz.func258,Tryz.ntmps258
     go_wp2_with fail
     go_ret
     exact ⟨lh (by rw [Sl,if_neg (show¬(at_<0\/(n:Int)<=at_/8)by omega)];rfl),rfl⟩
theorem Tx(d:Nat)(a:Option Addr)(n cap:Nat)(l:Int)(w:World)(h:w.cell? ⟨d,1,none⟩=some (.slice a n cap)):
  Calls Tryz.prog 173 #[.pointer (some ⟨d,0,none⟩), .int .i64 l] w (Rb (.int .i64 (yi n l)) w):=by
 by_cases h0:l<0
 . have d1:decide (l<0)=true:=ca h0
   go_enter Tryz.func173,Tryz.ntmps173
   go_wp2_with fail
   go_ret
   exact ⟨lh (by simp [yi,h0]),rfl⟩
 . have d1:decide (l<0)=false:=ea h0;by_cases h1:(n:Int)<=l
   . have d2:decide ((n:Int)<=l)=true:=ca h1
     go_enter Tryz.func173,Tryz.ntmps173
     go_wp2_with fail
     go_ret
     exact ⟨lh (by simp [yi,h0,h1]),rfl⟩
   . have d2:decide ((n:Int)<=l)=false:=ea h1
     go_enter Tryz.func173,Tryz.ntmps173
     go_wp2_with fail
     go_ret
     exact ⟨lh (by rw [yi,if_neg (show¬(l<0\/(n:Int)<=l)by omega)];rfl),rfl⟩
theorem zn(d:Nat)(a:Option Addr)(n cap:Nat)(t:Int)(w:World)(h:w.cell? ⟨d,3,none⟩=some (.slice a n cap)):
  Calls Tryz.prog 255 #[.pointer (some ⟨d,0,none⟩), .int .i64 t] w (Rb (.int .i64 (Bb n t)) w):=by
 by_cases h0:t<0
 . have d1:decide (t<0)=true:=ca h0
   go_enter Tryz.func255,Tryz.ntmps255
   go_wp2_with fail
   go_ret
   exact ⟨lh (by simp [Bb,h0]),rfl⟩
 . have d1:decide (t<0)=false:=ea h0;by_cases h1:(n:Int)<=t
   . have d2:decide ((n:Int)<=t)=true:=ca h1
     go_enter Tryz.func255,Tryz.ntmps255
     go_wp2_with fail
     go_ret
     exact ⟨lh (by simp [Bb,h0,h1]),rfl⟩
   . have d2:decide ((n:Int)<=t)=false:=ea h1
     go_enter Tryz.func255,Tryz.ntmps255
     go_wp2_with fail
     go_ret
     exact ⟨lh (by rw [Bb,if_neg (show¬(t<0\/(n:Int)<=t)by omega)];rfl),rfl⟩
def cd(x:Int):Prop:=0<=x/\x<18446744073709551616
def Nc(at_ n:Nat)(x:Int):Int:=x/2^at_ %2^n
def Sb(at_ n:Nat)(x:Int):Int:=x %2^n*2^at_
def KA(x:Int):Int:=Nc 0 32 x -1
def QH(x:Int):Int:=Nc 32 7 x -1
def mh(x:Int):Int:=Nc 32 32 x -1
def Od(x:Int):Int:=x %9223372036854775808
def vf(x:Int):Bool:=x/9223372036854775808==1
def Xa(x:Int):Int:=Od x+9223372036854775808
def Tc(n:Int):Int:=(n+1) %18446744073709551616
def nh(t b:Int):Int:=Sb 0 32 (Tc t)+Sb 32 7 (Tc b)
def oh(t b:Int):Int:=Sb 0 32 (Tc t)+Sb 32 32 (Tc b)
def vq(t v:Int):Int:=Sb 0 32 (Tc t)+v*4294967296
def iv(x:Int):Int:=x/4294967296
def vK(x:Int):Int:=x %4294967296
def cellW(q:Int)(d:Bool)(v:Int):Int:=Sb 33 31 q+(if d then 4294967296 else 0)+v
theorem xw(n:Int)(h₀:0<=n)(h₁:n<2^64):IntKind.u64.wrap n=n:=by rw [IntKind.wrap_u64];omega
theorem zi(i:Nat)(hi:i<=64)(x:Int)(h:cd x):bits .and .u64 x (2^i -1)=x %2^i:=
 bits_mask .u64 64 (by decide) xw i hi x h.1 h.2
theorem cd.div{x:Int}(h:cd x)(k:Nat):cd (x/2^k):=by
 have h2:(0:Int)<2^k:=Int.pow_pos (by decide);refine ⟨Int.ediv_nonneg h.1 (Int.le_of_lt h2),Int.lt_of_le_of_lt (Int.ediv_le_self _ h.1) h.2⟩
theorem An(at_ n:Nat)(hn:n<=64)(x:Int)(h:cd x):bits .and .u64 (x/2^at_) (2^n -1)=Nc at_ n x:=zi n hn _ (h.div at_)
theorem ni(at_ n:Nat)(x:Int):0<=Nc at_ n x:=Int.emod_nonneg _ (by have:(0:Int)<2^n:=Int.pow_pos (by decide);omega)
theorem Eg(at_ n:Nat)(x:Int):Nc at_ n x<2^n:=Int.emod_lt_of_pos _ (Int.pow_pos (by decide))
theorem Ai(n:Int):cd (Tc n):=by unfold Tc cd;omega
theorem RH(n:Int):IntKind.u64.wrap (IntKind.u64.wrap n+1)=Tc n:=by rw [IntKind.wrap_u64,IntKind.wrap_u64];unfold Tc;omega
theorem Bi(i:Nat)(x y:Int)(hx:x %2^i=0)(ux:cd x)(Y2:0<=y)(hy:y<2^i)(uy:cd y):bits .or .u64 x y=x+y:=
 bits_join .u64 64 (by decide) xw i x y ux.1 hx ux.2 Y2 hy uy.2
theorem Rp(x y:Int)(ux:cd x)(uy:cd y):bits .or .u64 x y=bits .or .u64 y x:=by
 obtain ⟨a,rfl⟩:=Int.eq_ofNat_of_zero_le ux.1
 obtain ⟨b,rfl⟩:=Int.eq_ofNat_of_zero_le uy.1
 have ha:=ux.2;have hb:=uy.2
 rw [bits_or_u64_nat a b (by omega) (by omega),bits_or_u64_nat b a (by omega) (by omega),Nat.or_comm]
theorem Nf(n:Nat)(hn:n=32)(x:Int):cd (Sb 0 n x)/\Sb 0 n x<4294967296:=by
 subst hn;unfold Sb cd;omega
theorem AD(x y:Int)(ux:cd x)(h:x<4294967296)(uy:cd y)(hy:y %4294967296=0):bits .or .u64 x y=x+y:=by
 rw [Rp _ _ ux uy,Bi 32 y x hy uy ux.1 h ux,Int.add_comm]
theorem UP(t b:Int):bits .or .u64 (Sb 0 32 (Tc t)) (Sb 32 7 (Tc b))=nh t b:=
 AD _ _ (Nf 32 rfl _).1 (Nf 32 rfl _).2 (by unfold Sb cd;omega) (by unfold Sb;omega)
theorem wK(t b:Int):bits .or .u64 (Sb 0 32 (Tc t)) (Sb 32 32 (Tc b))=oh t b:=
 AD _ _ (Nf 32 rfl _).1 (Nf 32 rfl _).2 (by unfold Sb cd;omega) (by unfold Sb;omega)
theorem BW(t v:Int)(h0:0<=v)(h1:v<4294967296):bits .or .u64 (Sb 0 32 (Tc t)) (v*4294967296)=vq t v:=
 AD _ _ (Nf 32 rfl _).1 (Nf 32 rfl _).2 (by unfold cd;omega) (by omega)
theorem VP(x:Int)(h:cd x):bits .or .u64 x 9223372036854775808=Xa x:=by
 have h2:x/9223372036854775808=0\/x/9223372036854775808=1:=by have:=h.1;have:=h.2;omega
 have e:bits .or .u64 (9223372036854775808*(x/9223372036854775808)) (x %9223372036854775808)=9223372036854775808*(x/9223372036854775808)+x %9223372036854775808:=by
  refine Bi 63 _ _ (by omega) ?_ (by omega) (by omega) ?_
  . have:=h.1;have:=h.2;unfold cd;omega
  . unfold cd;omega
 have e2:9223372036854775808*(x/9223372036854775808)+x %9223372036854775808=x:=by omega
 rcases h2 with h2|h2
 . have h3:x %9223372036854775808=x:=by have:=h.1;have:=h.2;omega
   have:=Bi 63 9223372036854775808 x (by decide) ⟨by decide,by decide⟩ h.1 (by omega) h
   rw [Rp _ _ h ⟨by decide,by decide⟩,this];unfold Xa Od;omega
 . have h3:x=9223372036854775808+x %9223372036854775808:=by omega
   obtain ⟨y,hy⟩:∃y,y=x %9223372036854775808:=⟨_,rfl⟩;have y0:0<=y:=by omega
   have y1:y<9223372036854775808:=by omega
   have e4:Xa x=9223372036854775808+y:=by unfold Xa Od;omega
   rw [e4];obtain ⟨n,hn⟩:=Int.eq_ofNat_of_zero_le h.1
   obtain ⟨m,hm⟩:=Int.eq_ofNat_of_zero_le y0;have u:=h.2
   have gK:n=9223372036854775808|||m:=by
    have:=Nat.two_pow_add_eq_or_of_lt (i:=63) (b:=m) (by omega) 1;simp only [Nat.mul_one]at this;rw [<-this];omega
   have hb:=bits_or_u64_nat n 9223372036854775808 (by omega) (by decide);rw [hn];refine hb.trans ?_
   have e5:n|||9223372036854775808=n:=by rw [gK,Nat.or_assoc,Nat.or_comm m,<-Nat.or_assoc,Nat.or_self]
   rw [e5];omega
theorem SH(x:Int)(h:cd x):bits .andNot .u64 x 9223372036854775808=Od x:=by
 obtain ⟨n,rfl⟩:=Int.eq_ofNat_of_zero_le h.1
 have u:=h.2
 have hn:n<18446744073709551616:=by omega
 have e:bits .andNot .u64 (n:Int) 9223372036854775808=bits .and .u64 (n:Int) (2^63 -1):=by
  simp only [bits,BitVec.ofInt_natCast]
  congr 2
 rw [e,zi 63 (by decide) _ h];rfl
theorem Fa{k:IntKind}{a b:Int}(h:a=b):Ending.returned (.int k a)= .returned (.int k b):=by rw [h]
theorem br{a b:Bool}(h:a=b):Ending.returned (.bool a)= .returned (.bool b):=by rw [h]
def fj(v:Value)(w:World)(e:Ending)(w':World):Prop:=e= .returned v/\∃n,w'=w.drewN n
theorem ij(w:World):Calls Tryz.prog 260 #[.int .i64 32] w (Rb (.int .u64 4294967295) w):=by
 go_enter Tryz.func260,Tryz.ntmps260
 go_wp2_with fail
 go_ret
 exact ⟨rfl,rfl⟩
theorem yw(w:World):Calls Tryz.prog 260 #[.int .i64 7] w (Rb (.int .u64 127) w):=by
 go_enter Tryz.func260,Tryz.ntmps260
 go_wp2_with fail
 go_ret
 exact ⟨rfl,rfl⟩
theorem cr(w:World):Calls Tryz.prog 260 #[.int .i64 31] w (Rb (.int .u64 2147483647) w):=by
 go_enter Tryz.func260,Tryz.ntmps260
 go_wp2_with fail
 go_ret
 exact ⟨rfl,rfl⟩
theorem TH(w:World):Calls Tryz.prog 260 #[.int .i64 1] w (Rb (.int .u64 1) w):=by
 go_enter Tryz.func260,Tryz.ntmps260
 go_wp2_with fail
 go_ret
 exact ⟨rfl,rfl⟩
theorem LA(x:Int)(h:cd x)(b c:Nat)(w:World)(hb:w.cell? ⟨b,0,none⟩=some (.int .i64 0))(hc:w.cell? ⟨c,0,none⟩=some (.int .i64 32)):
  Calls Tryz.prog 259 #[.int .u64 x, .pointer (some ⟨b,0,none⟩), .pointer (some ⟨c,0,none⟩)] w (fj (.int .u64 (Nc 0 32 x)) w):=by
 have HM:=Lib.hid fun w=>ij w
 have HC:Hid (bits .and .u64 (x) 4294967295=Nc 0 32 x):=Lib.hid (by have:=An 0 32 (by decide) x h;rw [Int.pow_zero,Int.ediv_one]at this;exact this);clear h
 go_enter Tryz.func259,Tryz.ntmps259
 go_wp2_with fail
 go_quiet ((go_at_call 260;exact Calls.quiet_of_same (HM.out _)))
 go_wp2_with fail
 go_ret
 exact ⟨Fa HC.out,_,rfl⟩
theorem MA(x:Int)(h:cd x)(b c:Nat)(w:World)(hb:w.cell? ⟨b,0,none⟩=some (.int .i64 32))(hc:w.cell? ⟨c,0,none⟩=some (.int .i64 7)):
  Calls Tryz.prog 259 #[.int .u64 x, .pointer (some ⟨b,0,none⟩), .pointer (some ⟨c,0,none⟩)] w (fj (.int .u64 (Nc 32 7 x)) w):=by
 have HM:=Lib.hid fun w=>yw w
 have HC:Hid (bits .and .u64 (x/4294967296) 127=Nc 32 7 x):=Lib.hid (by have:=An 32 7 (by decide) x h;exact this);clear h
 go_enter Tryz.func259,Tryz.ntmps259
 go_wp2_with fail
 go_quiet ((go_at_call 260;exact Calls.quiet_of_same (HM.out _)))
 go_wp2_with fail
 go_ret
 exact ⟨Fa HC.out,_,rfl⟩
theorem Ux(x:Int)(h:cd x)(b c:Nat)(w:World)(hb:w.cell? ⟨b,0,none⟩=some (.int .i64 32))(hc:w.cell? ⟨c,0,none⟩=some (.int .i64 32)):
  Calls Tryz.prog 259 #[.int .u64 x, .pointer (some ⟨b,0,none⟩), .pointer (some ⟨c,0,none⟩)] w (fj (.int .u64 (Nc 32 32 x)) w):=by
 have HM:=Lib.hid fun w=>ij w
 have HC:Hid (bits .and .u64 (x/4294967296) 4294967295=Nc 32 32 x):=Lib.hid (by have:=An 32 32 (by decide) x h;exact this);clear h
 go_enter Tryz.func259,Tryz.ntmps259
 go_wp2_with fail
 go_quiet ((go_at_call 260;exact Calls.quiet_of_same (HM.out _)))
 go_wp2_with fail
 go_ret
 exact ⟨Fa HC.out,_,rfl⟩
theorem Vx(x:Int)(h:cd x)(b c:Nat)(w:World)(hb:w.cell? ⟨b,0,none⟩=some (.int .i64 33))(hc:w.cell? ⟨c,0,none⟩=some (.int .i64 31)):
  Calls Tryz.prog 259 #[.int .u64 x, .pointer (some ⟨b,0,none⟩), .pointer (some ⟨c,0,none⟩)] w (fj (.int .u64 (Nc 33 31 x)) w):=by
 have HM:=Lib.hid fun w=>cr w
 have HC:Hid (bits .and .u64 (x/8589934592) 2147483647=Nc 33 31 x):=Lib.hid (by have:=An 33 31 (by decide) x h;exact this);clear h
 go_enter Tryz.func259,Tryz.ntmps259
 go_wp2_with fail
 go_quiet ((go_at_call 260;exact Calls.quiet_of_same (HM.out _)))
 go_wp2_with fail
 go_ret
 exact ⟨Fa HC.out,_,rfl⟩
theorem NA(x:Int)(h:cd x)(b c:Nat)(w:World)(hb:w.cell? ⟨b,0,none⟩=some (.int .i64 32))(hc:w.cell? ⟨c,0,none⟩=some (.int .i64 1)):
  Calls Tryz.prog 259 #[.int .u64 x, .pointer (some ⟨b,0,none⟩), .pointer (some ⟨c,0,none⟩)] w (fj (.int .u64 (Nc 32 1 x)) w):=by
 have HM:=Lib.hid fun w=>TH w
 have HC:Hid (bits .and .u64 (x/4294967296) 1=Nc 32 1 x):=Lib.hid (by have:=An 32 1 (by decide) x h;exact this);clear h
 go_enter Tryz.func259,Tryz.ntmps259
 go_wp2_with fail
 go_quiet ((go_at_call 260;exact Calls.quiet_of_same (HM.out _)))
 go_wp2_with fail
 go_ret
 exact ⟨Fa HC.out,_,rfl⟩
theorem bk(x:Int)(h:cd x)(b c:Nat)(w:World)(hb:w.cell? ⟨b,0,none⟩=some (.int .i64 0))(hc:w.cell? ⟨c,0,none⟩=some (.int .i64 32)):
  Calls Tryz.prog 261 #[.int .u64 x, .pointer (some ⟨c,0,none⟩), .pointer (some ⟨b,0,none⟩)] w (fj (.int .u64 (Sb 0 32 x)) w):=by
 have HM:=Lib.hid fun w=>ij w
 have HC:Hid (IntKind.u64.wrap (bits .and .u64 x 4294967295)=Sb 0 32 x):=Lib.hid (by
  have:=zi 32 (by decide) x h;rw [show bits .and .u64 x 4294967295=x %2^32 from this];unfold Sb;try rw [IntKind.wrap_u64]
  omega)
 clear h
 go_enter Tryz.func261,Tryz.ntmps261
 go_wp2_with fail
 go_quiet ((go_at_call 260;exact Calls.quiet_of_same (HM.out _)))
 go_wp2_with fail
 go_ret
 exact ⟨Fa HC.out,_,rfl⟩
theorem OA(x:Int)(h:cd x)(b c:Nat)(w:World)(hb:w.cell? ⟨b,0,none⟩=some (.int .i64 32))(hc:w.cell? ⟨c,0,none⟩=some (.int .i64 7)):
  Calls Tryz.prog 261 #[.int .u64 x, .pointer (some ⟨c,0,none⟩), .pointer (some ⟨b,0,none⟩)] w (fj (.int .u64 (Sb 32 7 x)) w):=by
 have HM:=Lib.hid fun w=>yw w
 have HC:Hid (IntKind.u64.wrap (bits .and .u64 x 127*4294967296)=Sb 32 7 x):=Lib.hid (by
  have:=zi 7 (by decide) x h;rw [show bits .and .u64 x 127=x %2^7 from this];unfold Sb;try rw [IntKind.wrap_u64]
  omega)
 clear h
 go_enter Tryz.func261,Tryz.ntmps261
 go_wp2_with fail
 go_quiet ((go_at_call 260;exact Calls.quiet_of_same (HM.out _)))
 go_wp2_with fail
 go_ret
 exact ⟨Fa HC.out,_,rfl⟩
theorem Wx(x:Int)(h:cd x)(b c:Nat)(w:World)(hb:w.cell? ⟨b,0,none⟩=some (.int .i64 32))(hc:w.cell? ⟨c,0,none⟩=some (.int .i64 32)):
  Calls Tryz.prog 261 #[.int .u64 x, .pointer (some ⟨c,0,none⟩), .pointer (some ⟨b,0,none⟩)] w (fj (.int .u64 (Sb 32 32 x)) w):=by
 have HM:=Lib.hid fun w=>ij w
 have HC:Hid (IntKind.u64.wrap (bits .and .u64 x 4294967295*4294967296)=Sb 32 32 x):=Lib.hid (by
  have:=zi 32 (by decide) x h;rw [show bits .and .u64 x 4294967295=x %2^32 from this];unfold Sb;try rw [IntKind.wrap_u64]
  omega)
 clear h
 go_enter Tryz.func261,Tryz.ntmps261
 go_wp2_with fail
 go_quiet ((go_at_call 260;exact Calls.quiet_of_same (HM.out _)))
 go_wp2_with fail
 go_ret
 exact ⟨Fa HC.out,_,rfl⟩
theorem Xx(x:Int)(h:cd x)(b c:Nat)(w:World)(hb:w.cell? ⟨b,0,none⟩=some (.int .i64 33))(hc:w.cell? ⟨c,0,none⟩=some (.int .i64 31)):
  Calls Tryz.prog 261 #[.int .u64 x, .pointer (some ⟨c,0,none⟩), .pointer (some ⟨b,0,none⟩)] w (fj (.int .u64 (Sb 33 31 x)) w):=by
 have HM:=Lib.hid fun w=>cr w
 have HC:Hid (IntKind.u64.wrap (bits .and .u64 x 2147483647*8589934592)=Sb 33 31 x):=Lib.hid (by
  have:=zi 31 (by decide) x h;rw [show bits .and .u64 x 2147483647=x %2^31 from this];unfold Sb;try rw [IntKind.wrap_u64]
  omega)
 clear h
 go_enter Tryz.func261,Tryz.ntmps261
 go_wp2_with fail
 go_quiet ((go_at_call 260;exact Calls.quiet_of_same (HM.out _)))
 go_wp2_with fail
 go_ret
 exact ⟨Fa HC.out,_,rfl⟩
theorem Sf(a n:Int)(w:World):Calls Tryz.prog 178 #[.int .i64 a, .int .i64 n] w fun e w'=>
  e= .returned (.tuple #[.func (.func 259) #[] #[.pointer (some ⟨w.heap.size,0,none⟩), .pointer (some ⟨w.heap.size+1,0,none⟩)], .func (.func 261) #[] #[.pointer (some ⟨w.heap.size+1,0,none⟩), .pointer (some ⟨w.heap.size,0,none⟩)]])/\w'=(w.alloc (.cells #[.int .i64 a] 3)).alloc (.cells #[.int .i64 n] 3):=by
 have hmf:∀(fn:Fn) (first cap:Array Value) (w:World),(Instr.makeFunc fn first cap).run Tryz.prog w= .ok (.func fn first cap) w:=fun _ _ _ _=>rfl
 go_enter Tryz.func178,Tryz.ntmps178
 go_wp2_with fail
 go_ret2
 exact ⟨rfl,rfl⟩
theorem Ve(w:World)(a n:Value):((w.alloc (.cells #[a] 3)).alloc (.cells #[n] 3)).cell? ⟨w.heap.size,0,none⟩=some a/\((w.alloc (.cells #[a] 3)).alloc (.cells #[n] 3)).cell? ⟨w.heap.size+1,0,none⟩=some n:=by
 have h1:((w.alloc (.cells #[a] 3)).alloc (.cells #[n] 3)).heap[w.heap.size]?=some (.cells #[a] 3):=by
  rw [Below.heap_alloc _ _ _ (by simp)];exact heap_alloc_new w _
 have h2:((w.alloc (.cells #[a] 3)).alloc (.cells #[n] 3)).heap[w.heap.size+1]?=some (.cells #[n] 3):=by
  have:=heap_alloc_new (w.alloc (.cells #[a] 3)) (.cells #[n] 3);simpa using this
 exact ⟨cell_of_row _ _ 0 _ _ _ h1,cell_of_row _ _ 0 _ _ _ h2⟩
theorem zb{B:Nat}{W w:World}(h:Below B W w)(n:Nat):Below B W (w.drewN n):=⟨h.os,h.tape,h.output,h.size,h.block⟩
theorem below_2(w:World)(a b:Obj):Below w.heap.size w ((w.alloc a).alloc b):=((Below.refl _ _).alloc (Nat.le_refl _) _).alloc (by simp) _
theorem below_4(w:World)(a b c d:Obj):Below w.heap.size w ((((w.alloc a).alloc b).alloc c).alloc d):=((((Below.refl _ _).alloc (Nat.le_refl _) _).alloc (by simp) _).alloc (by simp;omega) _).alloc (by simp;omega) _
theorem ir(w:World)(a n b m:Value):let W:=((((w.alloc (.cells #[a] 3)).alloc (.cells #[n] 3)).alloc (.cells #[b] 3)).alloc (.cells #[m] 3))
  W.cell? ⟨w.heap.size,0,none⟩=some a/\W.cell? ⟨w.heap.size+1,0,none⟩=some n/\W.cell? ⟨w.heap.size+1+1,0,none⟩=some b/\W.cell? ⟨w.heap.size+1+1+1,0,none⟩=some m:=by
 intro W;have h1:=Ve w a n;have h2:=Ve ((w.alloc (.cells #[a] 3)).alloc (.cells #[n] 3)) b m;have hb:Below (w.heap.size+1+1) ((w.alloc (.cells #[a] 3)).alloc (.cells #[n] 3)) W:=((Below.refl _ _).alloc (by simp) _).alloc (by simp) _
 have s2:((w.alloc (.cells #[a] 3)).alloc (.cells #[n] 3)).heap.size=w.heap.size+1+1:=by simp
 rw [s2]at h2;exact ⟨(hb.cell (p:=⟨w.heap.size,0,none⟩) (by simp;omega)).trans h1.1,(hb.cell (p:=⟨w.heap.size+1,0,none⟩) (by simp)).trans h1.2,h2.1,h2.2⟩
theorem Z2(x:Int)(h:cd x)(w:World):Calls Tryz.prog 120 #[.int .u64 x] w (Rc (.int .i64 (KA x)) w):=by
 have HF:=Lib.hid fun w=>Sf 0 32 w
 have HC:=Lib.hid fun b c w=>LA x h b c w
 have c0:=ni 0 32 x;have c1:Nc 0 32 x<4294967296:=Eg 0 32 x;have HT:Hid (KA x=Nc 0 32 x -1):=Lib.hid (by first|rfl|trivial);clear h;generalize Nc 0 32 x=y at*
 go_enter Tryz.func120,Tryz.ntmps120
 go_wp2_with fail
 refine (HF.out _).mono ?_
 rintro e w1 ⟨rfl,rfl⟩;have HZ:=Lib.hid (Ve w (.int .i64 0) (.int .i64 32))
 go_wp2_with fail
 refine (HC.out _ _ _ HZ.out.1 HZ.out.2).mono ?_
 rintro e w1 ⟨rfl,n,rfl⟩
 go_wp2_with fail
 go_ret
 exact ⟨Fa (by rw [HT.out];omega),zb (below_2 _ _ _) _⟩
theorem yam(x:Int)(h:cd x)(w:World):Calls Tryz.prog 131 #[.int .u64 x] w (Rc (.int .i64 (QH x)) w):=by
 have HF:=Lib.hid fun w=>Sf 32 7 w
 have HC:=Lib.hid fun b c w=>MA x h b c w
 have c0:=ni 32 7 x;have c1:Nc 32 7 x<128:=Eg 32 7 x;have HT:Hid (QH x=Nc 32 7 x -1):=Lib.hid (by first|rfl|trivial);clear h;generalize Nc 32 7 x=y at*
 go_enter Tryz.func131,Tryz.ntmps131
 go_wp2_with fail
 refine (HF.out _).mono ?_
 rintro e w1 ⟨rfl,rfl⟩;have HZ:=Lib.hid (Ve w (.int .i64 32) (.int .i64 7))
 go_wp2_with fail
 refine (HC.out _ _ _ HZ.out.1 HZ.out.2).mono ?_
 rintro e w1 ⟨rfl,n,rfl⟩
 go_wp2_with fail
 go_ret
 exact ⟨Fa (by rw [HT.out];omega),zb (below_2 _ _ _) _⟩
theorem xK(x:Int)(h:cd x)(w:World):Calls Tryz.prog 308 #[.int .u64 x] w (Rc (.int .i64 (mh x)) w):=by
 have HF:=Lib.hid fun w=>Sf 32 32 w
 have HC:=Lib.hid fun b c w=>Ux x h b c w
 have c0:=ni 32 32 x;have c1:Nc 32 32 x<4294967296:=Eg 32 32 x;have HT:Hid (mh x=Nc 32 32 x -1):=Lib.hid (by first|rfl|trivial);clear h;generalize Nc 32 32 x=y at*
 go_enter Tryz.func308,Tryz.ntmps308
 go_wp2_with fail
 refine (HF.out _).mono ?_
 rintro e w1 ⟨rfl,rfl⟩;have HZ:=Lib.hid (Ve w (.int .i64 32) (.int .i64 32))
 go_wp2_with fail
 refine (HC.out _ _ _ HZ.out.1 HZ.out.2).mono ?_
 rintro e w1 ⟨rfl,n,rfl⟩
 go_wp2_with fail
 go_ret
 exact ⟨Fa (by rw [HT.out];omega),zb (below_2 _ _ _) _⟩
theorem CW(x:Int)(h:cd x)(w:World):Calls Tryz.prog 128 #[.int .u64 x] w (Rc (.int .i64 (Nc 33 31 x)) w):=by
 have HF:=Lib.hid fun w=>Sf 33 31 w
 have HC:=Lib.hid fun b c w=>Vx x h b c w
 have c0:=ni 33 31 x;have c1:Nc 33 31 x<2147483648:=Eg 33 31 x;have HT:Hid (True):=Lib.hid (by first|rfl|trivial);clear h;generalize Nc 33 31 x=y at*
 go_enter Tryz.func128,Tryz.ntmps128
 go_wp2_with fail
 refine (HF.out _).mono ?_
 rintro e w1 ⟨rfl,rfl⟩;have HZ:=Lib.hid (Ve w (.int .i64 33) (.int .i64 31))
 go_wp2_with fail
 refine (HC.out _ _ _ HZ.out.1 HZ.out.2).mono ?_
 rintro e w1 ⟨rfl,n,rfl⟩
 go_wp2_with fail
 go_ret
 exact ⟨rfl,zb (below_2 _ _ _) _⟩
theorem XP(x:Int)(h:cd x)(w:World):Calls Tryz.prog 134 #[.int .u64 x] w (Rc (.bool (Nc 32 1 x==1)) w):=by
 have HF:=Lib.hid fun w=>Sf 32 1 w
 have HC:=Lib.hid fun b c w=>NA x h b c w
 have c0:=ni 32 1 x;have c1:Nc 32 1 x<2:=Eg 32 1 x;have HT:Hid (True):=Lib.hid (by first|rfl|trivial);clear h;generalize Nc 32 1 x=y at*
 go_enter Tryz.func134,Tryz.ntmps134
 go_wp2_with fail
 refine (HF.out _).mono ?_
 rintro e w1 ⟨rfl,rfl⟩;have HZ:=Lib.hid (Ve w (.int .i64 32) (.int .i64 1))
 go_wp2_with fail
 refine (HC.out _ _ _ HZ.out.1 HZ.out.2).mono ?_
 rintro e w1 ⟨rfl,n,rfl⟩
 go_wp2_with fail
 go_ret
 exact ⟨rfl,zb (below_2 _ _ _) _⟩
theorem DW(x:Int)(h:cd x)(w:World):Calls Tryz.prog 132 #[.int .u64 x] w (Rb (.int .u32 (vK x)) w):=by
 have HC:Hid (IntKind.u32.wrap x=vK x):=Lib.hid (by rw [IntKind.wrap_u32];rfl);clear h
 go_enter Tryz.func132,Tryz.ntmps132
 go_wp2_with fail
 go_ret
 exact ⟨Fa HC.out,rfl⟩
theorem EW(x:Int)(h:cd x)(w:World):Calls Tryz.prog 309 #[.int .u64 x] w (Rb (.int .u32 (iv x)) w):=by
 have HC:Hid (IntKind.u32.wrap (x/4294967296)=iv x):=Lib.hid (by rw [IntKind.wrap_u32];have:=h.1;have:=h.2;unfold iv;omega);clear h
 go_enter Tryz.func309,Tryz.ntmps309
 go_wp2_with fail
 go_ret
 exact ⟨Fa HC.out,rfl⟩
theorem yK(x:Int)(w:World):Calls Tryz.prog 281 #[.int .u64 x] w (Rb (.bool (vf x)) w):=by
 have HC:Hid ((x/9223372036854775808==1)=vf x):=Lib.hid rfl
 go_enter Tryz.func281,Tryz.ntmps281
 go_wp2_with fail
 go_ret
 exact ⟨br HC.out,rfl⟩
theorem zK(x:Int)(h:cd x)(w:World):Calls Tryz.prog 217 #[.int .u64 x] w (Rb (.int .u64 (Od x)) w):=by
 have HC:=Lib.hid (SH x h);clear h
 go_enter Tryz.func217,Tryz.ntmps217
 go_wp2_with fail
 go_ret
 exact ⟨Fa HC.out,rfl⟩
theorem YP(x:Int)(h:cd x)(w:World):Calls Tryz.prog 236 #[.int .u64 x] w (Rb (.int .u64 (Xa x)) w):=by
 have HC:=Lib.hid (VP x h);clear h
 go_enter Tryz.func236,Tryz.ntmps236
 go_wp2_with fail
 go_ret
 exact ⟨Fa HC.out,rfl⟩
theorem Yx(n:Int)(w:World):Calls Tryz.prog 179 #[.int .i64 n] w (Rb (.int .u64 (Tc n)) w):=by
 have HC:=Lib.hid (RH n)
 go_enter Tryz.func179,Tryz.ntmps179
 go_wp2_with fail
 go_ret
 exact ⟨Fa HC.out,rfl⟩
theorem FW(t b:Int)(w:World):Calls Tryz.prog 84 #[.int .i64 t, .int .i64 b] w (Rc (.int .u64 (nh t b)) w):=by
 have HF:=Lib.hid fun a n w=>Sf a n w
 have HM:=Lib.hid fun n w=>Yx n w
 have HC:=Lib.hid fun b c w=>bk (Tc t) (Ai t) b c w
 have HD:=Lib.hid fun d c w=>OA (Tc b) (Ai b) d c w
 have HO:=Lib.hid (UP t b);generalize Sb 0 32 (Tc t)=y at*;generalize Sb 32 7 (Tc b)=z at*;generalize nh t b=r at*
 go_enter Tryz.func84,Tryz.ntmps84
 go_wp2_with fail
 refine (HF.out _ _ _).mono ?_
 rintro e w1 ⟨rfl,rfl⟩
 go_wp2_with fail
 refine (HF.out _ _ _).mono ?_
 rintro e w1 ⟨rfl,rfl⟩
 go_wp2_with fail
 refine (HM.out _ _).mono ?_
 rintro e w1 ⟨rfl,rfl⟩;have HZ:=Lib.hid (ir w (.int .i64 0) (.int .i64 32) (.int .i64 32) (.int .i64 7))
 go_wp2_with fail
 refine (HC.out _ _ _ HZ.out.1 HZ.out.2.1).mono ?_
 rintro e w1 ⟨rfl,n,rfl⟩
 go_wp2_with fail
 refine (HM.out _ _).mono ?_
 rintro e w1 ⟨rfl,rfl⟩
 go_wp2_with fail
 refine (HD.out _ _ _ (by exact HZ.out.2.2.1) (by exact HZ.out.2.2.2)).mono ?_
 rintro e w1 ⟨rfl,m,rfl⟩
 go_wp2_with fail
 go_ret
 exact ⟨Fa HO.out,zb (below_4 _ _ _ _ _) _⟩
theorem AK(t b:Int)(w:World):Calls Tryz.prog 224 #[.int .i64 t, .int .i64 b] w (Rc (.int .u64 (oh t b)) w):=by
 have HF:=Lib.hid fun a n w=>Sf a n w
 have HM:=Lib.hid fun n w=>Yx n w
 have HC:=Lib.hid fun b c w=>bk (Tc t) (Ai t) b c w
 have HD:=Lib.hid fun d c w=>Wx (Tc b) (Ai b) d c w
 have HO:=Lib.hid (wK t b);generalize Sb 0 32 (Tc t)=y at*;generalize Sb 32 32 (Tc b)=z at*;generalize oh t b=r at*
 go_enter Tryz.func224,Tryz.ntmps224
 go_wp2_with fail
 refine (HF.out _ _ _).mono ?_
 rintro e w1 ⟨rfl,rfl⟩
 go_wp2_with fail
 refine (HF.out _ _ _).mono ?_
 rintro e w1 ⟨rfl,rfl⟩
 go_wp2_with fail
 refine (HM.out _ _).mono ?_
 rintro e w1 ⟨rfl,rfl⟩;have HZ:=Lib.hid (ir w (.int .i64 0) (.int .i64 32) (.int .i64 32) (.int .i64 32))
 go_wp2_with fail
 refine (HC.out _ _ _ HZ.out.1 HZ.out.2.1).mono ?_
 rintro e w1 ⟨rfl,n,rfl⟩
 go_wp2_with fail
 refine (HM.out _ _).mono ?_
 rintro e w1 ⟨rfl,rfl⟩
 go_wp2_with fail
 refine (HD.out _ _ _ (by exact HZ.out.2.2.1) (by exact HZ.out.2.2.2)).mono ?_
 rintro e w1 ⟨rfl,m,rfl⟩
 go_wp2_with fail
 go_ret
 exact ⟨Fa HO.out,zb (below_4 _ _ _ _ _) _⟩
theorem GW(t v:Int)(h0:0<=v)(h1:v<4294967296)(w:World):Calls Tryz.prog 289 #[.int .i64 t, .int .u32 v] w (Rc (.int .u64 (vq t v)) w):=by
 have HF:=Lib.hid fun a n w=>Sf a n w
 have HM:=Lib.hid fun n w=>Yx n w
 have HC:=Lib.hid fun b c w=>bk (Tc t) (Ai t) b c w
 have HO:=Lib.hid (BW t v h0 h1);generalize Sb 0 32 (Tc t)=y at*;generalize vq t v=r at*
 go_enter Tryz.func289,Tryz.ntmps289
 go_wp2_with fail
 refine (HF.out _ _ _).mono ?_
 rintro e w1 ⟨rfl,rfl⟩
 go_wp2_with fail
 refine (HM.out _ _).mono ?_
 rintro e w1 ⟨rfl,rfl⟩;have HZ:=Lib.hid (Ve w (.int .i64 0) (.int .i64 32))
 go_wp2_with fail
 refine (HC.out _ _ _ HZ.out.1 HZ.out.2).mono ?_
 rintro e w1 ⟨rfl,n,rfl⟩
 go_wp2_with fail
 go_ret
 exact ⟨Fa HO.out,zb (below_2 _ _ _) _⟩
theorem BK(q v:Int)(h0:0<=v)(h1:v<4294967296):bits .or .u64 (Sb 33 31 q) v=cellW q false v/\bits .or .u64 (cellW q false v) 4294967296=cellW q true v:=by
 have u1:cd (Sb 33 31 q):=by unfold Sb cd;omega
 have u2:cd v:=by unfold cd;omega
 have e1:bits .or .u64 (Sb 33 31 q) v=Sb 33 31 q+v:=Bi 32 _ _ (by unfold Sb;omega) u1 h0 h1 u2
 have e2:bits .or .u64 (4294967296:Int) v=4294967296+v:=Bi 32 _ _ (by decide) ⟨by decide,by decide⟩ h0 h1 u2
 refine ⟨by rw [e1];simp [cellW], ?_⟩;have e3:cellW q false v=Sb 33 31 q+v:=by simp [cellW]
 rw [e3];have h3:bits .or .u64 (Sb 33 31 q) (4294967296+v)=Sb 33 31 q+(4294967296+v):=Bi 33 _ _ (by unfold Sb;omega) u1 (by omega) (by omega) (by unfold cd;omega)
 obtain ⟨a,ha⟩:=Int.eq_ofNat_of_zero_le u1.1
 obtain ⟨b,rfl⟩:=Int.eq_ofNat_of_zero_le h0;have ub:=u1.2
 have o1:=bits_or_u64_nat a b (by omega) (by omega);have o2:=bits_or_u64_nat 4294967296 b (by decide) (by omega);have o3:=bits_or_u64_nat a (4294967296+b) (by omega) (by omega);have o4:=bits_or_u64_nat (a+b) 4294967296 (by unfold Sb at*;omega) (by decide);rw [ha]at e1 h3⊢;have i1:(a:Int)+b=((a|||b:Nat):Int):=e1.symm.trans o1;have i2:(4294967296:Int)+b=((4294967296|||b:Nat):Int):=e2.symm.trans o2;have c1:((4294967296+b:Nat):Int)=4294967296+(b:Int):=by omega
 have c2:((a+b:Nat):Int)=(a:Int)+(b:Int):=by omega
 rw [c1]at o3;rw [c2]at o4;have i3:(a:Int)+(4294967296+b)=((a|||(4294967296+b):Nat):Int):=h3.symm.trans o3;have n1:a+b=a|||b:=by omega
 have n2:4294967296+b=4294967296|||b:=by omega
 have n3:a+(4294967296+b)=a|||(4294967296+b):=by omega
 refine o4.trans ?_
 have n4:(a+b)|||4294967296=a+(4294967296+b):=by rw [n3,n2,n1,Nat.or_assoc,Nat.or_comm b]
 rw [n4];have:cellW q true b=Sb 33 31 q+4294967296+b:=rfl;rw [this,ha];omega
theorem IW(q v:Int)(d:Bool)(h0:0<=v)(h1:v<4294967296)(w:World):Calls Tryz.prog 127 #[.int .i64 q, .bool d, .int .u32 v] w (Rc (.int .u64 (cellW q d v)) w):=by
 have HF:=Lib.hid fun a n w=>Sf a n w
 have u1:cd (IntKind.u64.wrap q):=by rw [IntKind.wrap_u64];unfold cd;omega
 have e1:Sb 33 31 (IntKind.u64.wrap q)=Sb 33 31 q:=by rw [IntKind.wrap_u64];unfold Sb;omega
 have HC:=Lib.hid fun b c w=>Xx (IntKind.u64.wrap q) u1 b c w
 have HO:=Lib.hid (BK q v h0 h1);have HV:Hid (IntKind.u64.wrap v=v):=Lib.hid (by rw [IntKind.wrap_u64];omega);rw [e1]at HC;clear u1 e1;generalize Sb 33 31 q=y at*;have HE:Hid (cellW q false v=cellW q false v):=Lib.hid rfl;generalize hr:cellW q false v=r at*;generalize Zx:cellW q true v=r2 at*;have HR:Hid (cellW q d v=if d then r2 else r):=Lib.hid (by cases d;exact hr;exact Zx);clear Zx hr;generalize cellW q d v=res at*;cases d
 all_goals
  go_enter Tryz.func127,Tryz.ntmps127
  go_wp2_with fail
  refine (HF.out _ _ _).mono ?_
  rintro e w1 ⟨rfl,rfl⟩;have HZ:=Lib.hid (Ve w (.int .i64 33) (.int .i64 31))
  go_wp2_with fail
  refine (HC.out _ _ _ HZ.out.1 HZ.out.2).mono ?_
  rintro e w1 ⟨rfl,n,rfl⟩
  go_wp2_with fail
  go_ret
  refine ⟨Fa ?_,zb (below_2 _ _ _) _⟩
  first|exact HO.out.1.trans HR.out.symm|(rw [HO.out.1];exact HO.out.2.trans HR.out.symm)
end Go.Proofs.YtfnkmolffhfpoaaGreat
