/- -/
import Derived.Test.YtfnkmolffhfpoaaGreatHq16
import Derived.Laws.BitsLemmas
import Derived.Laws.Bits64b
import Derived.Laws.Pointers
import Derived.BigQuiet
import Derived.RegionTactic
import Derived.BigRegion
import Derived.ChangeAlike
import Derived.Deep.RegionWith
import Derived.Deep.Cut
import Derived.Deep.CutRange
set_option linter.unusedVariables false
set_option linter.unusedSimpArgs false
namespace Go.Proofs.YtfnkmolffhfpoaaGreat
open Go.RowKit Go.BigFrame
def Tc(x:Int):Prop:=0<=x/\x<18446744073709551616
def ld(at_ n:Nat)(x:Int):Int:=x/2^at_ %2^n
def Ub(at_ n:Nat)(x:Int):Int:=x %2^n*2^at_
def KE(x:Int):Int:=ld 0 32 x -1
def MM(x:Int):Int:=ld 32 7 x -1
def yi(x:Int):Int:=ld 32 32 x -1
def Yd(x:Int):Int:=x %9223372036854775808
def Pf(x:Int):Bool:=x/9223372036854775808==1
def gb(x:Int):Int:=Yd x+9223372036854775808
def td(n:Int):Int:=(n+1) %18446744073709551616
def zi(t b:Int):Int:=Ub 0 32 (td t)+Ub 32 7 (td b)
def Ai(t b:Int):Int:=Ub 0 32 (td t)+Ub 32 32 (td b)
def su(t v:Int):Int:=Ub 0 32 (td t)+v*4294967296
def Ry(x:Int):Int:=x/4294967296
def bQ(x:Int):Int:=x %4294967296
def cellW(q:Int)(d:Bool)(v:Int):Int:=Ub 33 31 q+(if d then 4294967296 else 0)+v
theorem Qz(n:Int)(h₀:0<=n)(h₁:n<2^64):IntKind.u64.wrap n=n:=by rw [IntKind.wrap_u64];omega
theorem Lk(i:Nat)(hi:i<=64)(x:Int)(h:Tc x):bits .and .u64 x (2^i -1)=x %2^i:=
 bits_mask .u64 64 (by decide) Qz i hi x h.1 h.2
theorem Tc.div{x:Int}(h:Tc x)(k:Nat):Tc (x/2^k):=by
 have h2:(0:Int)<2^k:=Int.pow_pos (by decide);refine ⟨Int.ediv_nonneg h.1 (Int.le_of_lt h2),Int.lt_of_le_of_lt (Int.ediv_le_self _ h.1) h.2⟩
theorem Sq(at_ n:Nat)(hn:n<=64)(x:Int)(h:Tc x):bits .and .u64 (x/2^at_) (2^n -1)=ld at_ n x:=Lk n hn _ (h.div at_)
theorem qk(at_ n:Nat)(x:Int):0<=ld at_ n x:=Int.emod_nonneg _ (by have:(0:Int)<2^n:=Int.pow_pos (by decide);omega)
theorem ph(at_ n:Nat)(x:Int):ld at_ n x<2^n:=Int.emod_lt_of_pos _ (Int.pow_pos (by decide))
theorem Mk(n:Int):Tc (td n):=by unfold td Tc;omega
theorem NM(n:Int):IntKind.u64.wrap (IntKind.u64.wrap n+1)=td n:=by rw [IntKind.wrap_u64,IntKind.wrap_u64];unfold td;omega
theorem Nk(i:Nat)(x y:Int)(hx:x %2^i=0)(ux:Tc x)(Jai:0<=y)(hy:y<2^i)(uy:Tc y):bits .or .u64 x y=x+y:=
 bits_join .u64 64 (by decide) Qz i x y ux.1 hx ux.2 Jai hy uy.2
theorem Jt(x y:Int)(ux:Tc x)(uy:Tc y):bits .or .u64 x y=bits .or .u64 y x:=by
 obtain ⟨a,rfl⟩:=Int.eq_ofNat_of_zero_le ux.1
 obtain ⟨b,rfl⟩:=Int.eq_ofNat_of_zero_le uy.1
 have ha:=ux.2;have hb:=uy.2
 rw [bits_or_u64_nat a b (by omega) (by omega),bits_or_u64_nat b a (by omega) (by omega),Nat.or_comm]
theorem gg(n:Nat)(hn:n=32)(x:Int):Tc (Ub 0 n x)/\Ub 0 n x<4294967296:=by
 subst hn;unfold Ub Tc;omega
theorem DH(x y:Int)(ux:Tc x)(h:x<4294967296)(uy:Tc y)(hy:y %4294967296=0):bits .or .u64 x y=x+y:=by
 rw [Jt _ _ ux uy,Nk 32 y x hy uy ux.1 h ux,Int.add_comm]
theorem FV(t b:Int):bits .or .u64 (Ub 0 32 (td t)) (Ub 32 7 (td b))=zi t b:=
 DH _ _ (gg 32 rfl _).1 (gg 32 rfl _).2 (by unfold Ub Tc;omega) (by unfold Ub;omega)
theorem cQ(t b:Int):bits .or .u64 (Ub 0 32 (td t)) (Ub 32 32 (td b))=Ai t b:=
 DH _ _ (gg 32 rfl _).1 (gg 32 rfl _).2 (by unfold Ub Tc;omega) (by unfold Ub;omega)
theorem I8(t v:Int)(h0:0<=v)(h1:v<4294967296):bits .or .u64 (Ub 0 32 (td t)) (v*4294967296)=su t v:=
 DH _ _ (gg 32 rfl _).1 (gg 32 rfl _).2 (by unfold Tc;omega) (by omega)
theorem GV(x:Int)(h:Tc x):bits .or .u64 x 9223372036854775808=gb x:=by
 have h2:x/9223372036854775808=0\/x/9223372036854775808=1:=by have:=h.1;have:=h.2;omega
 have e:bits .or .u64 (9223372036854775808*(x/9223372036854775808)) (x %9223372036854775808)=9223372036854775808*(x/9223372036854775808)+x %9223372036854775808:=by
  refine Nk 63 _ _ (by omega) ?_ (by omega) (by omega) ?_
  . have:=h.1;have:=h.2;unfold Tc;omega
  . unfold Tc;omega
 have e2:9223372036854775808*(x/9223372036854775808)+x %9223372036854775808=x:=by omega
 rcases h2 with h2|h2
 . have h3:x %9223372036854775808=x:=by have:=h.1;have:=h.2;omega
   have:=Nk 63 9223372036854775808 x (by decide) ⟨by decide,by decide⟩ h.1 (by omega) h
   rw [Jt _ _ h ⟨by decide,by decide⟩,this];unfold gb Yd;omega
 . have h3:x=9223372036854775808+x %9223372036854775808:=by omega
   obtain ⟨y,hy⟩:∃y,y=x %9223372036854775808:=⟨_,rfl⟩;have y0:0<=y:=by omega
   have y1:y<9223372036854775808:=by omega
   have e4:gb x=9223372036854775808+y:=by unfold gb Yd;omega
   rw [e4];obtain ⟨n,hn⟩:=Int.eq_ofNat_of_zero_le h.1
   obtain ⟨m,hm⟩:=Int.eq_ofNat_of_zero_le y0;have u:=h.2
   have nJ:n=9223372036854775808|||m:=by
    have:=Nat.two_pow_add_eq_or_of_lt (i:=63) (b:=m) (by omega) 1;simp only [Nat.mul_one]at this;rw [<-this];omega
   have hb:=bits_or_u64_nat n 9223372036854775808 (by omega) (by decide);rw [hn];refine hb.trans ?_
   have e5:n|||9223372036854775808=n:=by rw [nJ,Nat.or_assoc,Nat.or_comm m,<-Nat.or_assoc,Nat.or_self]
   rw [e5];omega
theorem OM(x:Int)(h:Tc x):bits .andNot .u64 x 9223372036854775808=Yd x:=by
 obtain ⟨n,rfl⟩:=Int.eq_ofNat_of_zero_le h.1
 have u:=h.2
 have hn:n<18446744073709551616:=by omega
 have e:bits .andNot .u64 (n:Int) 9223372036854775808=bits .and .u64 (n:Int) (2^63 -1):=by
  simp only [bits,BitVec.ofInt_natCast]
  congr 2
 rw [e,Lk 63 (by decide) _ h];rfl
theorem Ta{k:IntKind}{a b:Int}(h:a=b):Ending.returned (.int k a)= .returned (.int k b):=by rw [h]
theorem Hw{a b:Bool}(h:a=b):Ending.returned (.bool a)= .returned (.bool b):=by rw [h]
def Nl(v:Value)(w:World)(e:Ending)(w':World):Prop:=e= .returned v/\∃n,w'=w.drewN n
theorem Ol(w:World):Calls Tryz.prog 260 #[.int .i64 32] w (Cc (.int .u64 4294967295) w):=by
 go_enter Tryz.func260,Tryz.ntmps260
 go_wp2_with fail
 go_ret
 exact ⟨rfl,rfl⟩
theorem Rz(w:World):Calls Tryz.prog 260 #[.int .i64 7] w (Cc (.int .u64 127) w):=by
 go_enter Tryz.func260,Tryz.ntmps260
 go_wp2_with fail
 go_ret
 exact ⟨rfl,rfl⟩
theorem Iw(w:World):Calls Tryz.prog 260 #[.int .i64 31] w (Cc (.int .u64 2147483647) w):=by
 go_enter Tryz.func260,Tryz.ntmps260
 go_wp2_with fail
 go_ret
 exact ⟨rfl,rfl⟩
theorem PM(w:World):Calls Tryz.prog 260 #[.int .i64 1] w (Cc (.int .u64 1) w):=by
 go_enter Tryz.func260,Tryz.ntmps260
 go_wp2_with fail
 go_ret
 exact ⟨rfl,rfl⟩
theorem ME(x:Int)(h:Tc x)(b c:Nat)(w:World)(hb:w.cell? ⟨b,0,none⟩=some (.int .i64 0))(hc:w.cell? ⟨c,0,none⟩=some (.int .i64 32)):
  Calls Tryz.prog 259 #[.int .u64 x, .pointer (some ⟨b,0,none⟩), .pointer (some ⟨c,0,none⟩)] w (Nl (.int .u64 (ld 0 32 x)) w):=by
 have HM:=Lib.hid fun w=>Ol w
 have HC:Hid (bits .and .u64 (x) 4294967295=ld 0 32 x):=Lib.hid (by have:=Sq 0 32 (by decide) x h;rw [Int.pow_zero,Int.ediv_one]at this;exact this);clear h
 go_enter Tryz.func259,Tryz.ntmps259
 go_wp2_with fail
 go_quiet ((go_at_call 260;exact Calls.quiet_of_same (HM.out _)))
 go_wp2_with fail
 go_ret
 exact ⟨Ta HC.out,_,rfl⟩
theorem PE(x:Int)(h:Tc x)(b c:Nat)(w:World)(hb:w.cell? ⟨b,0,none⟩=some (.int .i64 32))(hc:w.cell? ⟨c,0,none⟩=some (.int .i64 7)):
  Calls Tryz.prog 259 #[.int .u64 x, .pointer (some ⟨b,0,none⟩), .pointer (some ⟨c,0,none⟩)] w (Nl (.int .u64 (ld 32 7 x)) w):=by
 have HM:=Lib.hid fun w=>Rz w
 have HC:Hid (bits .and .u64 (x/4294967296) 127=ld 32 7 x):=Lib.hid (by have:=Sq 32 7 (by decide) x h;exact this);clear h
 go_enter Tryz.func259,Tryz.ntmps259
 go_wp2_with fail
 go_quiet ((go_at_call 260;exact Calls.quiet_of_same (HM.out _)))
 go_wp2_with fail
 go_ret
 exact ⟨Ta HC.out,_,rfl⟩
theorem XB(x:Int)(h:Tc x)(b c:Nat)(w:World)(hb:w.cell? ⟨b,0,none⟩=some (.int .i64 32))(hc:w.cell? ⟨c,0,none⟩=some (.int .i64 32)):
  Calls Tryz.prog 259 #[.int .u64 x, .pointer (some ⟨b,0,none⟩), .pointer (some ⟨c,0,none⟩)] w (Nl (.int .u64 (ld 32 32 x)) w):=by
 have HM:=Lib.hid fun w=>Ol w
 have HC:Hid (bits .and .u64 (x/4294967296) 4294967295=ld 32 32 x):=Lib.hid (by have:=Sq 32 32 (by decide) x h;exact this);clear h
 go_enter Tryz.func259,Tryz.ntmps259
 go_wp2_with fail
 go_quiet ((go_at_call 260;exact Calls.quiet_of_same (HM.out _)))
 go_wp2_with fail
 go_ret
 exact ⟨Ta HC.out,_,rfl⟩
theorem YB(x:Int)(h:Tc x)(b c:Nat)(w:World)(hb:w.cell? ⟨b,0,none⟩=some (.int .i64 33))(hc:w.cell? ⟨c,0,none⟩=some (.int .i64 31)):
  Calls Tryz.prog 259 #[.int .u64 x, .pointer (some ⟨b,0,none⟩), .pointer (some ⟨c,0,none⟩)] w (Nl (.int .u64 (ld 33 31 x)) w):=by
 have HM:=Lib.hid fun w=>Iw w
 have HC:Hid (bits .and .u64 (x/8589934592) 2147483647=ld 33 31 x):=Lib.hid (by have:=Sq 33 31 (by decide) x h;exact this);clear h
 go_enter Tryz.func259,Tryz.ntmps259
 go_wp2_with fail
 go_quiet ((go_at_call 260;exact Calls.quiet_of_same (HM.out _)))
 go_wp2_with fail
 go_ret
 exact ⟨Ta HC.out,_,rfl⟩
theorem QE(x:Int)(h:Tc x)(b c:Nat)(w:World)(hb:w.cell? ⟨b,0,none⟩=some (.int .i64 32))(hc:w.cell? ⟨c,0,none⟩=some (.int .i64 1)):
  Calls Tryz.prog 259 #[.int .u64 x, .pointer (some ⟨b,0,none⟩), .pointer (some ⟨c,0,none⟩)] w (Nl (.int .u64 (ld 32 1 x)) w):=by
 have HM:=Lib.hid fun w=>PM w
 have HC:Hid (bits .and .u64 (x/4294967296) 1=ld 32 1 x):=Lib.hid (by have:=Sq 32 1 (by decide) x h;exact this);clear h
 go_enter Tryz.func259,Tryz.ntmps259
 go_wp2_with fail
 go_quiet ((go_at_call 260;exact Calls.quiet_of_same (HM.out _)))
 go_wp2_with fail
 go_ret
 exact ⟨Ta HC.out,_,rfl⟩
theorem qn(x:Int)(h:Tc x)(b c:Nat)(w:World)(hb:w.cell? ⟨b,0,none⟩=some (.int .i64 0))(hc:w.cell? ⟨c,0,none⟩=some (.int .i64 32)):
  Calls Tryz.prog 261 #[.int .u64 x, .pointer (some ⟨c,0,none⟩), .pointer (some ⟨b,0,none⟩)] w (Nl (.int .u64 (Ub 0 32 x)) w):=by
 have HM:=Lib.hid fun w=>Ol w
 have HC:Hid (IntKind.u64.wrap (bits .and .u64 x 4294967295)=Ub 0 32 x):=Lib.hid (by
  have:=Lk 32 (by decide) x h;rw [show bits .and .u64 x 4294967295=x %2^32 from this];unfold Ub;try rw [IntKind.wrap_u64]
  omega)
 clear h
 go_enter Tryz.func261,Tryz.ntmps261
 go_wp2_with fail
 go_quiet ((go_at_call 260;exact Calls.quiet_of_same (HM.out _)))
 go_wp2_with fail
 go_ret
 exact ⟨Ta HC.out,_,rfl⟩
theorem RE(x:Int)(h:Tc x)(b c:Nat)(w:World)(hb:w.cell? ⟨b,0,none⟩=some (.int .i64 32))(hc:w.cell? ⟨c,0,none⟩=some (.int .i64 7)):
  Calls Tryz.prog 261 #[.int .u64 x, .pointer (some ⟨c,0,none⟩), .pointer (some ⟨b,0,none⟩)] w (Nl (.int .u64 (Ub 32 7 x)) w):=by
 have HM:=Lib.hid fun w=>Rz w
 have HC:Hid (IntKind.u64.wrap (bits .and .u64 x 127*4294967296)=Ub 32 7 x):=Lib.hid (by
  have:=Lk 7 (by decide) x h;rw [show bits .and .u64 x 127=x %2^7 from this];unfold Ub;try rw [IntKind.wrap_u64]
  omega)
 clear h
 go_enter Tryz.func261,Tryz.ntmps261
 go_wp2_with fail
 go_quiet ((go_at_call 260;exact Calls.quiet_of_same (HM.out _)))
 go_wp2_with fail
 go_ret
 exact ⟨Ta HC.out,_,rfl⟩
theorem ZB(x:Int)(h:Tc x)(b c:Nat)(w:World)(hb:w.cell? ⟨b,0,none⟩=some (.int .i64 32))(hc:w.cell? ⟨c,0,none⟩=some (.int .i64 32)):
  Calls Tryz.prog 261 #[.int .u64 x, .pointer (some ⟨c,0,none⟩), .pointer (some ⟨b,0,none⟩)] w (Nl (.int .u64 (Ub 32 32 x)) w):=by
 have HM:=Lib.hid fun w=>Ol w
 have HC:Hid (IntKind.u64.wrap (bits .and .u64 x 4294967295*4294967296)=Ub 32 32 x):=Lib.hid (by
  have:=Lk 32 (by decide) x h;rw [show bits .and .u64 x 4294967295=x %2^32 from this];unfold Ub;try rw [IntKind.wrap_u64]
  omega)
 clear h
 go_enter Tryz.func261,Tryz.ntmps261
 go_wp2_with fail
 go_quiet ((go_at_call 260;exact Calls.quiet_of_same (HM.out _)))
 go_wp2_with fail
 go_ret
 exact ⟨Ta HC.out,_,rfl⟩
theorem aC(x:Int)(h:Tc x)(b c:Nat)(w:World)(hb:w.cell? ⟨b,0,none⟩=some (.int .i64 33))(hc:w.cell? ⟨c,0,none⟩=some (.int .i64 31)):
  Calls Tryz.prog 261 #[.int .u64 x, .pointer (some ⟨c,0,none⟩), .pointer (some ⟨b,0,none⟩)] w (Nl (.int .u64 (Ub 33 31 x)) w):=by
 have HM:=Lib.hid fun w=>Iw w
 have HC:Hid (IntKind.u64.wrap (bits .and .u64 x 2147483647*8589934592)=Ub 33 31 x):=Lib.hid (by
  have:=Lk 31 (by decide) x h;rw [show bits .and .u64 x 2147483647=x %2^31 from this];unfold Ub;try rw [IntKind.wrap_u64]
  omega)
 clear h
 go_enter Tryz.func261,Tryz.ntmps261
 go_wp2_with fail
 go_quiet ((go_at_call 260;exact Calls.quiet_of_same (HM.out _)))
 go_wp2_with fail
 go_ret
 exact ⟨Ta HC.out,_,rfl⟩
theorem Bg(a n:Int)(w:World):Calls Tryz.prog 178 #[.int .i64 a, .int .i64 n] w fun e w'=>
  e= .returned (.tuple #[.func (.func 259) #[] #[.pointer (some ⟨w.heap.size,0,none⟩), .pointer (some ⟨w.heap.size+1,0,none⟩)], .func (.func 261) #[] #[.pointer (some ⟨w.heap.size+1,0,none⟩), .pointer (some ⟨w.heap.size,0,none⟩)]])/\w'=(w.alloc (.cells #[.int .i64 a] 3)).alloc (.cells #[.int .i64 n] 3):=by
 have hmf:∀(fn:Fn) (first cap:Array Value) (w:World),(Instr.makeFunc fn first cap).run Tryz.prog w= .ok (.func fn first cap) w:=fun _ _ _ _=>rfl
 go_enter Tryz.func178,Tryz.ntmps178
 go_wp2_with fail
 go_ret2
 exact ⟨rfl,rfl⟩
theorem Jf(w:World)(a n:Value):((w.alloc (.cells #[a] 3)).alloc (.cells #[n] 3)).cell? ⟨w.heap.size,0,none⟩=some a/\((w.alloc (.cells #[a] 3)).alloc (.cells #[n] 3)).cell? ⟨w.heap.size+1,0,none⟩=some n:=by
 have h1:((w.alloc (.cells #[a] 3)).alloc (.cells #[n] 3)).heap[w.heap.size]?=some (.cells #[a] 3):=by
  rw [Below.heap_alloc _ _ _ (by simp)];exact heap_alloc_new w _
 have h2:((w.alloc (.cells #[a] 3)).alloc (.cells #[n] 3)).heap[w.heap.size+1]?=some (.cells #[n] 3):=by
  have:=heap_alloc_new (w.alloc (.cells #[a] 3)) (.cells #[n] 3);simpa using this
 exact ⟨cell_of_row _ _ 0 _ _ _ h1,cell_of_row _ _ 0 _ _ _ h2⟩
theorem ab{B:Nat}{W w:World}(h:Below B W w)(n:Nat):Below B W (w.drewN n):=⟨h.os,h.tape,h.output,h.size,h.block⟩
theorem below_2(w:World)(a b:Obj):Below w.heap.size w ((w.alloc a).alloc b):=((Below.refl _ _).alloc (Nat.le_refl _) _).alloc (by simp) _
theorem below_4(w:World)(a b c d:Obj):Below w.heap.size w ((((w.alloc a).alloc b).alloc c).alloc d):=((((Below.refl _ _).alloc (Nat.le_refl _) _).alloc (by simp) _).alloc (by simp;omega) _).alloc (by simp;omega) _
theorem Jw(w:World)(a n b m:Value):let W:=((((w.alloc (.cells #[a] 3)).alloc (.cells #[n] 3)).alloc (.cells #[b] 3)).alloc (.cells #[m] 3))
  W.cell? ⟨w.heap.size,0,none⟩=some a/\W.cell? ⟨w.heap.size+1,0,none⟩=some n/\W.cell? ⟨w.heap.size+1+1,0,none⟩=some b/\W.cell? ⟨w.heap.size+1+1+1,0,none⟩=some m:=by
 intro W;have h1:=Jf w a n;have h2:=Jf ((w.alloc (.cells #[a] 3)).alloc (.cells #[n] 3)) b m;have hb:Below (w.heap.size+1+1) ((w.alloc (.cells #[a] 3)).alloc (.cells #[n] 3)) W:=((Below.refl _ _).alloc (by simp) _).alloc (by simp) _
 have s2:((w.alloc (.cells #[a] 3)).alloc (.cells #[n] 3)).heap.size=w.heap.size+1+1:=by simp
 rw [s2]at h2;exact ⟨(hb.cell (p:=⟨w.heap.size,0,none⟩) (by simp;omega)).trans h1.1,(hb.cell (p:=⟨w.heap.size+1,0,none⟩) (by simp)).trans h1.2,h2.1,h2.2⟩
theorem Kai(x:Int)(h:Tc x)(w:World):Calls Tryz.prog 120 #[.int .u64 x] w (Cd (.int .i64 (KE x)) w):=by
 have HF:=Lib.hid fun w=>Bg 0 32 w
 have HC:=Lib.hid fun b c w=>ME x h b c w
 have c0:=qk 0 32 x;have c1:ld 0 32 x<4294967296:=ph 0 32 x;have HT:Hid (KE x=ld 0 32 x -1):=Lib.hid (by first|rfl|trivial);clear h;generalize ld 0 32 x=y at*
 go_enter Tryz.func120,Tryz.ntmps120
 go_wp2_with fail
 refine (HF.out _).mono ?_
 rintro e w1 ⟨rfl,rfl⟩;have HZ:=Lib.hid (Jf w (.int .i64 0) (.int .i64 32))
 go_wp2_with fail
 refine (HC.out _ _ _ HZ.out.1 HZ.out.2).mono ?_
 rintro e w1 ⟨rfl,n,rfl⟩
 go_wp2_with fail
 go_ret
 exact ⟨Ta (by rw [HT.out];omega),ab (below_2 _ _ _) _⟩
theorem Law(x:Int)(h:Tc x)(w:World):Calls Tryz.prog 131 #[.int .u64 x] w (Cd (.int .i64 (MM x)) w):=by
 have HF:=Lib.hid fun w=>Bg 32 7 w
 have HC:=Lib.hid fun b c w=>PE x h b c w
 have c0:=qk 32 7 x;have c1:ld 32 7 x<128:=ph 32 7 x;have HT:Hid (MM x=ld 32 7 x -1):=Lib.hid (by first|rfl|trivial);clear h;generalize ld 32 7 x=y at*
 go_enter Tryz.func131,Tryz.ntmps131
 go_wp2_with fail
 refine (HF.out _).mono ?_
 rintro e w1 ⟨rfl,rfl⟩;have HZ:=Lib.hid (Jf w (.int .i64 32) (.int .i64 7))
 go_wp2_with fail
 refine (HC.out _ _ _ HZ.out.1 HZ.out.2).mono ?_
 rintro e w1 ⟨rfl,n,rfl⟩
 go_wp2_with fail
 go_ret
 exact ⟨Ta (by rw [HT.out];omega),ab (below_2 _ _ _) _⟩
theorem dQ(x:Int)(h:Tc x)(w:World):Calls Tryz.prog 308 #[.int .u64 x] w (Cd (.int .i64 (yi x)) w):=by
 have HF:=Lib.hid fun w=>Bg 32 32 w
 have HC:=Lib.hid fun b c w=>XB x h b c w
 have c0:=qk 32 32 x;have c1:ld 32 32 x<4294967296:=ph 32 32 x;have HT:Hid (yi x=ld 32 32 x -1):=Lib.hid (by first|rfl|trivial);clear h;generalize ld 32 32 x=y at*
 go_enter Tryz.func308,Tryz.ntmps308
 go_wp2_with fail
 refine (HF.out _).mono ?_
 rintro e w1 ⟨rfl,rfl⟩;have HZ:=Lib.hid (Jf w (.int .i64 32) (.int .i64 32))
 go_wp2_with fail
 refine (HC.out _ _ _ HZ.out.1 HZ.out.2).mono ?_
 rintro e w1 ⟨rfl,n,rfl⟩
 go_wp2_with fail
 go_ret
 exact ⟨Ta (by rw [HT.out];omega),ab (below_2 _ _ _) _⟩
theorem J8(x:Int)(h:Tc x)(w:World):Calls Tryz.prog 128 #[.int .u64 x] w (Cd (.int .i64 (ld 33 31 x)) w):=by
 have HF:=Lib.hid fun w=>Bg 33 31 w
 have HC:=Lib.hid fun b c w=>YB x h b c w
 have c0:=qk 33 31 x;have c1:ld 33 31 x<2147483648:=ph 33 31 x;have HT:Hid (True):=Lib.hid (by first|rfl|trivial);clear h;generalize ld 33 31 x=y at*
 go_enter Tryz.func128,Tryz.ntmps128
 go_wp2_with fail
 refine (HF.out _).mono ?_
 rintro e w1 ⟨rfl,rfl⟩;have HZ:=Lib.hid (Jf w (.int .i64 33) (.int .i64 31))
 go_wp2_with fail
 refine (HC.out _ _ _ HZ.out.1 HZ.out.2).mono ?_
 rintro e w1 ⟨rfl,n,rfl⟩
 go_wp2_with fail
 go_ret
 exact ⟨rfl,ab (below_2 _ _ _) _⟩
theorem IV(x:Int)(h:Tc x)(w:World):Calls Tryz.prog 134 #[.int .u64 x] w (Cd (.bool (ld 32 1 x==1)) w):=by
 have HF:=Lib.hid fun w=>Bg 32 1 w
 have HC:=Lib.hid fun b c w=>QE x h b c w
 have c0:=qk 32 1 x;have c1:ld 32 1 x<2:=ph 32 1 x;have HT:Hid (True):=Lib.hid (by first|rfl|trivial);clear h;generalize ld 32 1 x=y at*
 go_enter Tryz.func134,Tryz.ntmps134
 go_wp2_with fail
 refine (HF.out _).mono ?_
 rintro e w1 ⟨rfl,rfl⟩;have HZ:=Lib.hid (Jf w (.int .i64 32) (.int .i64 1))
 go_wp2_with fail
 refine (HC.out _ _ _ HZ.out.1 HZ.out.2).mono ?_
 rintro e w1 ⟨rfl,n,rfl⟩
 go_wp2_with fail
 go_ret
 exact ⟨rfl,ab (below_2 _ _ _) _⟩
theorem K8(x:Int)(h:Tc x)(w:World):Calls Tryz.prog 132 #[.int .u64 x] w (Cc (.int .u32 (bQ x)) w):=by
 have HC:Hid (IntKind.u32.wrap x=bQ x):=Lib.hid (by rw [IntKind.wrap_u32];rfl);clear h
 go_enter Tryz.func132,Tryz.ntmps132
 go_wp2_with fail
 go_ret
 exact ⟨Ta HC.out,rfl⟩
theorem N8(x:Int)(h:Tc x)(w:World):Calls Tryz.prog 309 #[.int .u64 x] w (Cc (.int .u32 (Ry x)) w):=by
 have HC:Hid (IntKind.u32.wrap (x/4294967296)=Ry x):=Lib.hid (by rw [IntKind.wrap_u32];have:=h.1;have:=h.2;unfold Ry;omega);clear h
 go_enter Tryz.func309,Tryz.ntmps309
 go_wp2_with fail
 go_ret
 exact ⟨Ta HC.out,rfl⟩
theorem eQ(x:Int)(w:World):Calls Tryz.prog 281 #[.int .u64 x] w (Cc (.bool (Pf x)) w):=by
 have HC:Hid ((x/9223372036854775808==1)=Pf x):=Lib.hid rfl
 go_enter Tryz.func281,Tryz.ntmps281
 go_wp2_with fail
 go_ret
 exact ⟨Hw HC.out,rfl⟩
theorem fQ(x:Int)(h:Tc x)(w:World):Calls Tryz.prog 217 #[.int .u64 x] w (Cc (.int .u64 (Yd x)) w):=by
 have HC:=Lib.hid (OM x h);clear h
 go_enter Tryz.func217,Tryz.ntmps217
 go_wp2_with fail
 go_ret
 exact ⟨Ta HC.out,rfl⟩
theorem JV(x:Int)(h:Tc x)(w:World):Calls Tryz.prog 236 #[.int .u64 x] w (Cc (.int .u64 (gb x)) w):=by
 have HC:=Lib.hid (GV x h);clear h
 go_enter Tryz.func236,Tryz.ntmps236
 go_wp2_with fail
 go_ret
 exact ⟨Ta HC.out,rfl⟩
theorem bC(n:Int)(w:World):Calls Tryz.prog 179 #[.int .i64 n] w (Cc (.int .u64 (td n)) w):=by
 have HC:=Lib.hid (NM n)
 go_enter Tryz.func179,Tryz.ntmps179
 go_wp2_with fail
 go_ret
 exact ⟨Ta HC.out,rfl⟩
theorem O8(t b:Int)(w:World):Calls Tryz.prog 84 #[.int .i64 t, .int .i64 b] w (Cd (.int .u64 (zi t b)) w):=by
 have HF:=Lib.hid fun a n w=>Bg a n w
 have HM:=Lib.hid fun n w=>bC n w
 have HC:=Lib.hid fun b c w=>qn (td t) (Mk t) b c w
 have HD:=Lib.hid fun d c w=>RE (td b) (Mk b) d c w
 have HO:=Lib.hid (FV t b);generalize Ub 0 32 (td t)=y at*;generalize Ub 32 7 (td b)=z at*;generalize zi t b=r at*
 go_enter Tryz.func84,Tryz.ntmps84
 go_wp2_with fail
 refine (HF.out _ _ _).mono ?_
 rintro e w1 ⟨rfl,rfl⟩
 go_wp2_with fail
 refine (HF.out _ _ _).mono ?_
 rintro e w1 ⟨rfl,rfl⟩
 go_wp2_with fail
 refine (HM.out _ _).mono ?_
 rintro e w1 ⟨rfl,rfl⟩;have HZ:=Lib.hid (Jw w (.int .i64 0) (.int .i64 32) (.int .i64 32) (.int .i64 7))
 go_wp2_with fail
 refine (HC.out _ _ _ HZ.out.1 HZ.out.2.1).mono ?_
 rintro e w1 ⟨rfl,n,rfl⟩
 go_wp2_with fail
 refine (HM.out _ _).mono ?_
 rintro e w1 ⟨rfl,rfl⟩
 go_wp2_with fail
 refine (HD.out _ _ _ (by exact HZ.out.2.2.1) (by exact HZ.out.2.2.2)).mono ?_
 rintro e w1 ⟨rfl,m,rfl⟩
 go_wp2_with fail
 go_ret
 exact ⟨Ta HO.out,ab (below_4 _ _ _ _ _) _⟩
theorem gQ(t b:Int)(w:World):Calls Tryz.prog 224 #[.int .i64 t, .int .i64 b] w (Cd (.int .u64 (Ai t b)) w):=by
 have HF:=Lib.hid fun a n w=>Bg a n w
 have HM:=Lib.hid fun n w=>bC n w
 have HC:=Lib.hid fun b c w=>qn (td t) (Mk t) b c w
 have HD:=Lib.hid fun d c w=>ZB (td b) (Mk b) d c w
 have HO:=Lib.hid (cQ t b);generalize Ub 0 32 (td t)=y at*;generalize Ub 32 32 (td b)=z at*;generalize Ai t b=r at*
 go_enter Tryz.func224,Tryz.ntmps224
 go_wp2_with fail
 refine (HF.out _ _ _).mono ?_
 rintro e w1 ⟨rfl,rfl⟩
 go_wp2_with fail
 refine (HF.out _ _ _).mono ?_
 rintro e w1 ⟨rfl,rfl⟩
 go_wp2_with fail
 refine (HM.out _ _).mono ?_
 rintro e w1 ⟨rfl,rfl⟩;have HZ:=Lib.hid (Jw w (.int .i64 0) (.int .i64 32) (.int .i64 32) (.int .i64 32))
 go_wp2_with fail
 refine (HC.out _ _ _ HZ.out.1 HZ.out.2.1).mono ?_
 rintro e w1 ⟨rfl,n,rfl⟩
 go_wp2_with fail
 refine (HM.out _ _).mono ?_
 rintro e w1 ⟨rfl,rfl⟩
 go_wp2_with fail
 refine (HD.out _ _ _ (by exact HZ.out.2.2.1) (by exact HZ.out.2.2.2)).mono ?_
 rintro e w1 ⟨rfl,m,rfl⟩
 go_wp2_with fail
 go_ret
 exact ⟨Ta HO.out,ab (below_4 _ _ _ _ _) _⟩
theorem P8(t v:Int)(h0:0<=v)(h1:v<4294967296)(w:World):Calls Tryz.prog 289 #[.int .i64 t, .int .u32 v] w (Cd (.int .u64 (su t v)) w):=by
 have HF:=Lib.hid fun a n w=>Bg a n w
 have HM:=Lib.hid fun n w=>bC n w
 have HC:=Lib.hid fun b c w=>qn (td t) (Mk t) b c w
 have HO:=Lib.hid (I8 t v h0 h1);generalize Ub 0 32 (td t)=y at*;generalize su t v=r at*
 go_enter Tryz.func289,Tryz.ntmps289
 go_wp2_with fail
 refine (HF.out _ _ _).mono ?_
 rintro e w1 ⟨rfl,rfl⟩
 go_wp2_with fail
 refine (HM.out _ _).mono ?_
 rintro e w1 ⟨rfl,rfl⟩;have HZ:=Lib.hid (Jf w (.int .i64 0) (.int .i64 32))
 go_wp2_with fail
 refine (HC.out _ _ _ HZ.out.1 HZ.out.2).mono ?_
 rintro e w1 ⟨rfl,n,rfl⟩
 go_wp2_with fail
 go_ret
 exact ⟨Ta HO.out,ab (below_2 _ _ _) _⟩
theorem iQ(q v:Int)(h0:0<=v)(h1:v<4294967296):bits .or .u64 (Ub 33 31 q) v=cellW q false v/\bits .or .u64 (cellW q false v) 4294967296=cellW q true v:=by
 have u1:Tc (Ub 33 31 q):=by unfold Ub Tc;omega
 have u2:Tc v:=by unfold Tc;omega
 have e1:bits .or .u64 (Ub 33 31 q) v=Ub 33 31 q+v:=Nk 32 _ _ (by unfold Ub;omega) u1 h0 h1 u2
 have e2:bits .or .u64 (4294967296:Int) v=4294967296+v:=Nk 32 _ _ (by decide) ⟨by decide,by decide⟩ h0 h1 u2
 refine ⟨by rw [e1];simp [cellW], ?_⟩;have e3:cellW q false v=Ub 33 31 q+v:=by simp [cellW]
 rw [e3];have h3:bits .or .u64 (Ub 33 31 q) (4294967296+v)=Ub 33 31 q+(4294967296+v):=Nk 33 _ _ (by unfold Ub;omega) u1 (by omega) (by omega) (by unfold Tc;omega)
 obtain ⟨a,ha⟩:=Int.eq_ofNat_of_zero_le u1.1
 obtain ⟨b,rfl⟩:=Int.eq_ofNat_of_zero_le h0;have ub:=u1.2
 have o1:=bits_or_u64_nat a b (by omega) (by omega);have o2:=bits_or_u64_nat 4294967296 b (by decide) (by omega);have o3:=bits_or_u64_nat a (4294967296+b) (by omega) (by omega);have o4:=bits_or_u64_nat (a+b) 4294967296 (by unfold Ub at*;omega) (by decide);rw [ha]at e1 h3⊢;have i1:(a:Int)+b=((a|||b:Nat):Int):=e1.symm.trans o1;have i2:(4294967296:Int)+b=((4294967296|||b:Nat):Int):=e2.symm.trans o2;have c1:((4294967296+b:Nat):Int)=4294967296+(b:Int):=by omega
 have c2:((a+b:Nat):Int)=(a:Int)+(b:Int):=by omega
 rw [c1]at o3;rw [c2]at o4;have i3:(a:Int)+(4294967296+b)=((a|||(4294967296+b):Nat):Int):=h3.symm.trans o3;have n1:a+b=a|||b:=by omega
 have n2:4294967296+b=4294967296|||b:=by omega
 have n3:a+(4294967296+b)=a|||(4294967296+b):=by omega
 refine o4.trans ?_
 have n4:(a+b)|||4294967296=a+(4294967296+b):=by rw [n3,n2,n1,Nat.or_assoc,Nat.or_comm b]
 rw [n4];have:cellW q true b=Ub 33 31 q+4294967296+b:=rfl;rw [this,ha];omega
theorem Q8(q v:Int)(d:Bool)(h0:0<=v)(h1:v<4294967296)(w:World):Calls Tryz.prog 127 #[.int .i64 q, .bool d, .int .u32 v] w (Cd (.int .u64 (cellW q d v)) w):=by
 have HF:=Lib.hid fun a n w=>Bg a n w
 have u1:Tc (IntKind.u64.wrap q):=by rw [IntKind.wrap_u64];unfold Tc;omega
 have e1:Ub 33 31 (IntKind.u64.wrap q)=Ub 33 31 q:=by rw [IntKind.wrap_u64];unfold Ub;omega
 have HC:=Lib.hid fun b c w=>aC (IntKind.u64.wrap q) u1 b c w
 have HO:=Lib.hid (iQ q v h0 h1);have HV:Hid (IntKind.u64.wrap v=v):=Lib.hid (by rw [IntKind.wrap_u64];omega);rw [e1]at HC;clear u1 e1;generalize Ub 33 31 q=y at*;have HE:Hid (cellW q false v=cellW q false v):=Lib.hid rfl;generalize hr:cellW q false v=r at*;generalize Ay:cellW q true v=r2 at*;have HR:Hid (cellW q d v=if d then r2 else r):=Lib.hid (by cases d;exact hr;exact Ay);clear Ay hr;generalize cellW q d v=res at*;cases d
 all_goals
  go_enter Tryz.func127,Tryz.ntmps127
  go_wp2_with fail
  refine (HF.out _ _ _).mono ?_
  rintro e w1 ⟨rfl,rfl⟩;have HZ:=Lib.hid (Jf w (.int .i64 33) (.int .i64 31))
  go_wp2_with fail
  refine (HC.out _ _ _ HZ.out.1 HZ.out.2).mono ?_
  rintro e w1 ⟨rfl,n,rfl⟩
  go_wp2_with fail
  go_ret
  refine ⟨Ta ?_,ab (below_2 _ _ _) _⟩
  first|exact HO.out.1.trans HR.out.symm|(rw [HO.out.1];exact HO.out.2.trans HR.out.symm)
structure Nc where
 th:Int
 sl:Int
 lo:Int
 bu:Int
def Nc.cells(c:Nc):Array Value:=#[.int .i64 c.th, .int .i64 c.sl, .int .i64 c.lo, .int .i64 c.bu]
def Nc.right(c:Nc):Prop:=1<=c.th/\c.th<=64/\1<=c.sl/\c.sl<=65536/\1<=c.lo/\c.lo<=64/\1<=c.bu/\c.bu<=64
instance(c:Nc):Decidable c.right:=by unfold Nc.right;infer_instance
def Nc.Ho(c:Nc):Prop:=c.right/\c.th<=6/\c.sl<=30/\c.lo<=8/\c.bu<=8
instance(c:Nc):Decidable c.Ho:=by unfold Nc.Ho;infer_instance
def cC(r:Bool)(w:World)(e:Ending)(w':World):Prop:=e= .returned (.bool r)/\Below w.heap.size w w'
theorem dj(n m:Int)(w:World):Calls Tryz.prog 200 #[.int .i64 n, .int .i64 m] w fun e w'=>e= .returned (.bool (decide (1<=n/\n<=m)))/\w'=w:=by
 by_cases h:1<=n
 . have d1:decide (1<=n)=true:=ea h;have e:decide (1<=n/\n<=m)=decide (n<=m):=by simp [h]
   rw [e]
   go_enter Tryz.func200,Tryz.ntmps200
   go_wp2
   all_goals
    go_ret
    exact ⟨by simp_all,rfl⟩
 . have d1:decide (1<=n)=false:=ta h;have e:decide (1<=n/\n<=m)=false:=ta (fun k=>h k.1);rw [e]
   go_enter Tryz.func200,Tryz.ntmps200
   go_wp2
   go_ret
   exact ⟨rfl,rfl⟩
theorem dC(c:Nc)(w:World):Calls Tryz.prog 81 #[.agg c.cells] w (cC (decide c.right) w):=by
 obtain ⟨th,sl,lo,bu⟩:=c;obtain ⟨r,hr⟩:∃r,r=decide (Nc.right ⟨th,sl,lo,bu⟩):=⟨_,rfl⟩;rw [<-hr];have HR:Hid (r=decide (1<=th/\th<=64/\1<=sl/\sl<=65536/\1<=lo/\lo<=64/\1<=bu/\bu<=64)):=Lib.hid hr;clear hr;simp only [Nc.cells];by_cases h0:1<=th
 rotate_left
 . have d0:decide (1<=th)=false:=ta h0;have HV:Hid (r=false):=Lib.hid (by rw [HR.out];exact ta (by omega));clear HR
   go_enter Tryz.func81,Tryz.ntmps81
   go_wp2_with fail
   go_ret
   exact ⟨by rw [HV.out];rfl,(Below.refl _ _).alloc (Nat.le_refl _) _⟩
 have d0:decide (1<=th)=true:=ea h0;by_cases h1:th<=64
 rotate_left
 . have d1:decide (th<=64)=false:=ta h1;have HV:Hid (r=false):=Lib.hid (by rw [HR.out];exact ta (by omega));clear HR
   go_enter Tryz.func81,Tryz.ntmps81
   go_wp2_with fail
   go_ret
   exact ⟨by rw [HV.out];rfl,(Below.refl _ _).alloc (Nat.le_refl _) _⟩
 have d1:decide (th<=64)=true:=ea h1;by_cases h2:1<=sl
 rotate_left
 . have d2:decide (1<=sl)=false:=ta h2;have HV:Hid (r=false):=Lib.hid (by rw [HR.out];exact ta (by omega));clear HR
   go_enter Tryz.func81,Tryz.ntmps81
   go_wp2_with fail
   go_ret
   exact ⟨by rw [HV.out];rfl,(Below.refl _ _).alloc (Nat.le_refl _) _⟩
 have d2:decide (1<=sl)=true:=ea h2;by_cases h3:sl<=65536
 rotate_left
 . have d3:decide (sl<=65536)=false:=ta h3;have HV:Hid (r=false):=Lib.hid (by rw [HR.out];exact ta (by omega));clear HR
   go_enter Tryz.func81,Tryz.ntmps81
   go_wp2_with fail
   go_ret
   exact ⟨by rw [HV.out];rfl,(Below.refl _ _).alloc (Nat.le_refl _) _⟩
 have d3:decide (sl<=65536)=true:=ea h3;by_cases h4:1<=lo
 rotate_left
 . have d4:decide (1<=lo)=false:=ta h4;have HV:Hid (r=false):=Lib.hid (by rw [HR.out];exact ta (by omega));clear HR
   go_enter Tryz.func81,Tryz.ntmps81
   go_wp2_with fail
   go_ret
   exact ⟨by rw [HV.out];rfl,(Below.refl _ _).alloc (Nat.le_refl _) _⟩
 have d4:decide (1<=lo)=true:=ea h4;by_cases h5:lo<=64
 rotate_left
 . have d5:decide (lo<=64)=false:=ta h5;have HV:Hid (r=false):=Lib.hid (by rw [HR.out];exact ta (by omega));clear HR
   go_enter Tryz.func81,Tryz.ntmps81
   go_wp2_with fail
   go_ret
   exact ⟨by rw [HV.out];rfl,(Below.refl _ _).alloc (Nat.le_refl _) _⟩
 have d5:decide (lo<=64)=true:=ea h5;by_cases h6:1<=bu
 rotate_left
 . have d6:decide (1<=bu)=false:=ta h6;have HV:Hid (r=false):=Lib.hid (by rw [HR.out];exact ta (by omega));clear HR
   go_enter Tryz.func81,Tryz.ntmps81
   go_wp2_with fail
   go_ret
   exact ⟨by rw [HV.out];rfl,(Below.refl _ _).alloc (Nat.le_refl _) _⟩
 have d6:decide (1<=bu)=true:=ea h6;by_cases h7:bu<=64
 rotate_left
 . have d7:decide (bu<=64)=false:=ta h7;have HV:Hid (r=false):=Lib.hid (by rw [HR.out];exact ta (by omega));clear HR
   go_enter Tryz.func81,Tryz.ntmps81
   go_wp2_with fail
   go_ret
   exact ⟨by rw [HV.out];rfl,(Below.refl _ _).alloc (Nat.le_refl _) _⟩
 have d7:decide (bu<=64)=true:=ea h7;have HV:Hid (r=true):=Lib.hid (by rw [HR.out];exact ea (by omega));clear HR
 go_enter Tryz.func81,Tryz.ntmps81
 go_wp2_with fail
 go_ret
 exact ⟨by rw [HV.out];rfl,(Below.refl _ _).alloc (Nat.le_refl _) _⟩
theorem QM(c:Nc)(w:World):Calls Tryz.prog 98 #[.agg c.cells] w (cC (decide c.right) w):=by
 obtain ⟨th,sl,lo,bu⟩:=c;obtain ⟨r,hr⟩:∃r,r=decide (Nc.right ⟨th,sl,lo,bu⟩):=⟨_,rfl⟩;rw [<-hr];have HR:Hid (r=decide (1<=th/\th<=64/\1<=sl/\sl<=65536/\1<=lo/\lo<=64/\1<=bu/\bu<=64)):=Lib.hid hr;clear hr;simp only [Nc.cells];by_cases h0:1<=th/\th<=64
 rotate_left
 . have HF0:Hid (∀w,Calls Tryz.prog 200 #[.int .i64 th, .int .i64 64] w fun e w'=>e= .returned (.bool false)/\w'=w):=Lib.hid fun w=>by rw [<-ta h0];exact dj _ _ w
   have HV:Hid (r=false):=Lib.hid (by rw [HR.out];exact ta (by omega));clear HR
   go_enter Tryz.func98,Tryz.ntmps98
   go_wp2_with (go_at_call 200;(with_reducible first|refine (HF0.out _).mono ?_);rintro e w' ⟨rfl,rfl⟩)
   go_ret
   exact ⟨by rw [HV.out];rfl,(Below.refl _ _).alloc (Nat.le_refl _) _⟩
 have HF0:Hid (∀w,Calls Tryz.prog 200 #[.int .i64 th, .int .i64 64] w fun e w'=>e= .returned (.bool true)/\w'=w):=Lib.hid fun w=>by rw [<-ea h0];exact dj _ _ w
 by_cases h1:1<=sl/\sl<=65536
 rotate_left
 . have HF1:Hid (∀w,Calls Tryz.prog 200 #[.int .i64 sl, .int .i64 65536] w fun e w'=>e= .returned (.bool false)/\w'=w):=Lib.hid fun w=>by rw [<-ta h1];exact dj _ _ w
   have HV:Hid (r=false):=Lib.hid (by rw [HR.out];exact ta (by omega));clear HR
   go_enter Tryz.func98,Tryz.ntmps98
   go_wp2_with (go_at_call 200;(with_reducible first|refine (HF0.out _).mono ?_|refine (HF1.out _).mono ?_);rintro e w' ⟨rfl,rfl⟩)
   go_ret
   exact ⟨by rw [HV.out];rfl,(Below.refl _ _).alloc (Nat.le_refl _) _⟩
 have HF1:Hid (∀w,Calls Tryz.prog 200 #[.int .i64 sl, .int .i64 65536] w fun e w'=>e= .returned (.bool true)/\w'=w):=Lib.hid fun w=>by rw [<-ea h1];exact dj _ _ w
 by_cases h2:1<=lo/\lo<=64
 rotate_left
 . have HF2:Hid (∀w,Calls Tryz.prog 200 #[.int .i64 lo, .int .i64 64] w fun e w'=>e= .returned (.bool false)/\w'=w):=Lib.hid fun w=>by rw [<-ta h2];exact dj _ _ w
   have HV:Hid (r=false):=Lib.hid (by rw [HR.out];exact ta (by omega));clear HR
   go_enter Tryz.func98,Tryz.ntmps98
   go_wp2_with (go_at_call 200;(with_reducible first|refine (HF0.out _).mono ?_|refine (HF1.out _).mono ?_|refine (HF2.out _).mono ?_);rintro e w' ⟨rfl,rfl⟩)
   go_ret
   exact ⟨by rw [HV.out];rfl,(Below.refl _ _).alloc (Nat.le_refl _) _⟩
 have HF2:Hid (∀w,Calls Tryz.prog 200 #[.int .i64 lo, .int .i64 64] w fun e w'=>e= .returned (.bool true)/\w'=w):=Lib.hid fun w=>by rw [<-ea h2];exact dj _ _ w
 by_cases h3:1<=bu/\bu<=64
 rotate_left
 . have HF3:Hid (∀w,Calls Tryz.prog 200 #[.int .i64 bu, .int .i64 64] w fun e w'=>e= .returned (.bool false)/\w'=w):=Lib.hid fun w=>by rw [<-ta h3];exact dj _ _ w
   have HV:Hid (r=false):=Lib.hid (by rw [HR.out];exact ta (by omega));clear HR
   go_enter Tryz.func98,Tryz.ntmps98
   go_wp2_with (go_at_call 200;(with_reducible first|refine (HF0.out _).mono ?_|refine (HF1.out _).mono ?_|refine (HF2.out _).mono ?_|refine (HF3.out _).mono ?_);rintro e w' ⟨rfl,rfl⟩)
   go_ret
   exact ⟨by rw [HV.out];rfl,(Below.refl _ _).alloc (Nat.le_refl _) _⟩
 have HF3:Hid (∀w,Calls Tryz.prog 200 #[.int .i64 bu, .int .i64 64] w fun e w'=>e= .returned (.bool true)/\w'=w):=Lib.hid fun w=>by rw [<-ea h3];exact dj _ _ w
 have HV:Hid (r=true):=Lib.hid (by rw [HR.out];exact ea (by omega));clear HR
 go_enter Tryz.func98,Tryz.ntmps98
 go_wp2_with (go_at_call 200;(with_reducible first|refine (HF0.out _).mono ?_|refine (HF1.out _).mono ?_|refine (HF2.out _).mono ?_|refine (HF3.out _).mono ?_);rintro e w' ⟨rfl,rfl⟩)
 go_ret
 exact ⟨by rw [HV.out];rfl,(Below.refl _ _).alloc (Nat.le_refl _) _⟩
theorem CX(c:Nc)(w:World):Calls Tryz.prog 22 #[.agg c.cells] w (cC (decide c.Ho) w):=by
 have S8:=Lib.hid fun w=>dC c w
 have HFF:Hid (c.Ho<->c.right/\c.th<=6/\c.sl<=30/\c.lo<=8/\c.bu<=8):=Lib.hid Iff.rfl;obtain ⟨R,hR⟩:∃R,R=decide c.right:=⟨_,rfl⟩;rw [<-hR]at S8;obtain ⟨r,hr⟩:∃r,r=decide c.Ho:=⟨_,rfl⟩;rw [<-hr];have HR:Hid (r=decide (R=true/\c.th<=6/\c.sl<=30/\c.lo<=8/\c.bu<=8)):=Lib.hid (by rw [hr,hR];apply decide_eq_decide.2;rw [HFF.out];simp);clear hr hR HFF;obtain ⟨th,sl,lo,bu⟩:=c;simp only [Nc.cells]at*;cases R
 . have HV0:=HR;have HV:Hid (r=false):=Lib.hid (by rw [HR.out];exact ta (fun h=>by cases h.1));clear HR
   go_enter Tryz.func22,Tryz.ntmps22
   go_wp2_with (go_at_call 81;(with_reducible refine (S8.out _).mono ?_);rintro e w' ⟨rfl,hb⟩;have l0:=hb.cell (p:=⟨w.heap.size,0,none⟩) (by simp);have l1:=hb.cell (p:=⟨w.heap.size,1,none⟩) (by simp);have l2:=hb.cell (p:=⟨w.heap.size,2,none⟩) (by simp);have l3:=hb.cell (p:=⟨w.heap.size,3,none⟩) (by simp);have HB:Hid (Below w.heap.size w w'):=Lib.hid (((Below.refl _ _).alloc (Nat.le_refl _) _).trans (hb.mono (by simp)));clear hb)
   go_ret
   exact ⟨by rw [HV.out];rfl,HB.out⟩
 by_cases h0:th<=6
 rotate_left
 . have d0:decide (th<=6)=false:=ta h0;have HV:Hid (r=false):=Lib.hid (by rw [HR.out];exact ta (by omega));clear HR
   go_enter Tryz.func22,Tryz.ntmps22
   go_wp2_with (go_at_call 81;(with_reducible refine (S8.out _).mono ?_);rintro e w' ⟨rfl,hb⟩;have l0:=hb.cell (p:=⟨w.heap.size,0,none⟩) (by simp);have l1:=hb.cell (p:=⟨w.heap.size,1,none⟩) (by simp);have l2:=hb.cell (p:=⟨w.heap.size,2,none⟩) (by simp);have l3:=hb.cell (p:=⟨w.heap.size,3,none⟩) (by simp);have HB:Hid (Below w.heap.size w w'):=Lib.hid (((Below.refl _ _).alloc (Nat.le_refl _) _).trans (hb.mono (by simp)));clear hb)
   go_ret
   exact ⟨by rw [HV.out];rfl,HB.out⟩
 have d0:decide (th<=6)=true:=ea h0;by_cases h1:sl<=30
 rotate_left
 . have d1:decide (sl<=30)=false:=ta h1;have HV:Hid (r=false):=Lib.hid (by rw [HR.out];exact ta (by omega));clear HR
   go_enter Tryz.func22,Tryz.ntmps22
   go_wp2_with (go_at_call 81;(with_reducible refine (S8.out _).mono ?_);rintro e w' ⟨rfl,hb⟩;have l0:=hb.cell (p:=⟨w.heap.size,0,none⟩) (by simp);have l1:=hb.cell (p:=⟨w.heap.size,1,none⟩) (by simp);have l2:=hb.cell (p:=⟨w.heap.size,2,none⟩) (by simp);have l3:=hb.cell (p:=⟨w.heap.size,3,none⟩) (by simp);have HB:Hid (Below w.heap.size w w'):=Lib.hid (((Below.refl _ _).alloc (Nat.le_refl _) _).trans (hb.mono (by simp)));clear hb)
   go_ret
   exact ⟨by rw [HV.out];rfl,HB.out⟩
 have d1:decide (sl<=30)=true:=ea h1;by_cases h2:lo<=8
 rotate_left
 . have d2:decide (lo<=8)=false:=ta h2;have HV:Hid (r=false):=Lib.hid (by rw [HR.out];exact ta (by omega));clear HR
   go_enter Tryz.func22,Tryz.ntmps22
   go_wp2_with (go_at_call 81;(with_reducible refine (S8.out _).mono ?_);rintro e w' ⟨rfl,hb⟩;have l0:=hb.cell (p:=⟨w.heap.size,0,none⟩) (by simp);have l1:=hb.cell (p:=⟨w.heap.size,1,none⟩) (by simp);have l2:=hb.cell (p:=⟨w.heap.size,2,none⟩) (by simp);have l3:=hb.cell (p:=⟨w.heap.size,3,none⟩) (by simp);have HB:Hid (Below w.heap.size w w'):=Lib.hid (((Below.refl _ _).alloc (Nat.le_refl _) _).trans (hb.mono (by simp)));clear hb)
   go_ret
   exact ⟨by rw [HV.out];rfl,HB.out⟩
 have d2:decide (lo<=8)=true:=ea h2;by_cases h3:bu<=8
 rotate_left
 . have d3:decide (bu<=8)=false:=ta h3;have HV:Hid (r=false):=Lib.hid (by rw [HR.out];exact ta (by omega));clear HR
   go_enter Tryz.func22,Tryz.ntmps22
   go_wp2_with (go_at_call 81;(with_reducible refine (S8.out _).mono ?_);rintro e w' ⟨rfl,hb⟩;have l0:=hb.cell (p:=⟨w.heap.size,0,none⟩) (by simp);have l1:=hb.cell (p:=⟨w.heap.size,1,none⟩) (by simp);have l2:=hb.cell (p:=⟨w.heap.size,2,none⟩) (by simp);have l3:=hb.cell (p:=⟨w.heap.size,3,none⟩) (by simp);have HB:Hid (Below w.heap.size w w'):=Lib.hid (((Below.refl _ _).alloc (Nat.le_refl _) _).trans (hb.mono (by simp)));clear hb)
   go_ret
   exact ⟨by rw [HV.out];rfl,HB.out⟩
 have d3:decide (bu<=8)=true:=ea h3;have HV:Hid (r=true):=Lib.hid (by rw [HR.out];exact ea ⟨rfl,by omega,by omega,by omega,by omega⟩);clear HR
 go_enter Tryz.func22,Tryz.ntmps22
 go_wp2_with (go_at_call 81;(with_reducible refine (S8.out _).mono ?_);rintro e w' ⟨rfl,hb⟩;have l0:=hb.cell (p:=⟨w.heap.size,0,none⟩) (by simp);have l1:=hb.cell (p:=⟨w.heap.size,1,none⟩) (by simp);have l2:=hb.cell (p:=⟨w.heap.size,2,none⟩) (by simp);have l3:=hb.cell (p:=⟨w.heap.size,3,none⟩) (by simp);have HB:Hid (Below w.heap.size w w'):=Lib.hid (((Below.refl _ _).alloc (Nat.le_refl _) _).trans (hb.mono (by simp)));clear hb)
 go_ret
 exact ⟨by rw [HV.out];rfl,HB.out⟩
end Go.Proofs.YtfnkmolffhfpoaaGreat
