/- -/
import Derived.Test.YtfnkmolffhfpoaaGreatHp13
import Derived.Laws.BitsLemmas
import Derived.Laws.Bits64b
import Derived.Laws.Pointers
import Derived.BigQuiet
import Derived.RegionTactic
import Derived.BigRegion
import Derived.ChangeAlike
import Derived.Deep.RegionWith
import Derived.Deep.Cut
import Derived.Deep.CutRange
set_option linter.unusedVariables false
set_option linter.unusedSimpArgs false
namespace Go.Proofs.YtfnkmolffhfpoaaGreat
open Go.RowKit Go.BigFrame
def ud(x:Int):Prop:=0<=x/\x<18446744073709551616
def Ed(at_ n:Nat)(x:Int):Int:=x/2^at_ %2^n
def uc(at_ n:Nat)(x:Int):Int:=x %2^n*2^at_
def ZF(x:Int):Int:=Ed 0 32 x -1
def aP(x:Int):Int:=Ed 32 7 x -1
def Zi(x:Int):Int:=Ed 32 32 x -1
def ze(x:Int):Int:=x %9223372036854775808
def vg(x:Int):Bool:=x/9223372036854775808==1
def yb(x:Int):Int:=ze x+9223372036854775808
def Ld(n:Int):Int:=(n+1) %18446744073709551616
def aj(t b:Int):Int:=uc 0 32 (Ld t)+uc 32 7 (Ld b)
def bj(t b:Int):Int:=uc 0 32 (Ld t)+uc 32 32 (Ld b)
def Qu(t v:Int):Int:=uc 0 32 (Ld t)+v*4294967296
def jA(x:Int):Int:=x/4294967296
def QS(x:Int):Int:=x %4294967296
def cellW(q:Int)(d:Bool)(v:Int):Int:=uc 33 31 q+(if d then 4294967296 else 0)+v
theorem bB(n:Int)(h₀:0<=n)(h₁:n<2^64):IntKind.u64.wrap n=n:=by rw [IntKind.wrap_u64];omega
theorem Dk(i:Nat)(hi:i<=64)(x:Int)(h:ud x):bits .and .u64 x (2^i -1)=x %2^i:=
 bits_mask .u64 64 (by decide) bB i hi x h.1 h.2
theorem ud.div{x:Int}(h:ud x)(k:Nat):ud (x/2^k):=by
 have h2:(0:Int)<2^k:=Int.pow_pos (by decide);refine ⟨Int.ediv_nonneg h.1 (Int.le_of_lt h2),Int.lt_of_le_of_lt (Int.ediv_le_self _ h.1) h.2⟩
theorem cr(at_ n:Nat)(hn:n<=64)(x:Int)(h:ud x):bits .and .u64 (x/2^at_) (2^n -1)=Ed at_ n x:=Dk n hn _ (h.div at_)
theorem Nj(at_ n:Nat)(x:Int):0<=Ed at_ n x:=Int.emod_nonneg _ (by have:(0:Int)<2^n:=Int.pow_pos (by decide);omega)
theorem Nh(at_ n:Nat)(x:Int):Ed at_ n x<2^n:=Int.emod_lt_of_pos _ (Int.pow_pos (by decide))
theorem Ek(n:Int):ud (Ld n):=by unfold Ld ud;omega
theorem bP(n:Int):IntKind.u64.wrap (IntKind.u64.wrap n+1)=Ld n:=by rw [IntKind.wrap_u64,IntKind.wrap_u64];unfold Ld;omega
theorem Fk(i:Nat)(x y:Int)(hx:x %2^i=0)(ux:ud x)(Qap:0<=y)(hy:y<2^i)(uy:ud y):bits .or .u64 x y=x+y:=
 bits_join .u64 64 (by decide) bB i x y ux.1 hx ux.2 Qap hy uy.2
theorem fu(x y:Int)(ux:ud x)(uy:ud y):bits .or .u64 x y=bits .or .u64 y x:=by
 obtain ⟨a,rfl⟩:=Int.eq_ofNat_of_zero_le ux.1
 obtain ⟨b,rfl⟩:=Int.eq_ofNat_of_zero_le uy.1
 have ha:=ux.2;have hb:=uy.2
 rw [bits_or_u64_nat a b (by omega) (by omega),bits_or_u64_nat b a (by omega) (by omega),Nat.or_comm]
theorem Ng(n:Nat)(hn:n=32)(x:Int):ud (uc 0 n x)/\uc 0 n x<4294967296:=by
 subst hn;unfold uc ud;omega
theorem eJ(x y:Int)(ux:ud x)(h:x<4294967296)(uy:ud y)(hy:y %4294967296=0):bits .or .u64 x y=x+y:=by
 rw [fu _ _ ux uy,Fk 32 y x hy uy ux.1 h ux,Int.add_comm]
theorem vZ(t b:Int):bits .or .u64 (uc 0 32 (Ld t)) (uc 32 7 (Ld b))=aj t b:=
 eJ _ _ (Ng 32 rfl _).1 (Ng 32 rfl _).2 (by unfold uc ud;omega) (by unfold uc;omega)
theorem RS(t b:Int):bits .or .u64 (uc 0 32 (Ld t)) (uc 32 32 (Ld b))=bj t b:=
 eJ _ _ (Ng 32 rfl _).1 (Ng 32 rfl _).2 (by unfold uc ud;omega) (by unfold uc;omega)
theorem Uaf(t v:Int)(h0:0<=v)(h1:v<4294967296):bits .or .u64 (uc 0 32 (Ld t)) (v*4294967296)=Qu t v:=
 eJ _ _ (Ng 32 rfl _).1 (Ng 32 rfl _).2 (by unfold ud;omega) (by omega)
theorem wZ(x:Int)(h:ud x):bits .or .u64 x 9223372036854775808=yb x:=by
 have h2:x/9223372036854775808=0\/x/9223372036854775808=1:=by have:=h.1;have:=h.2;omega
 have e:bits .or .u64 (9223372036854775808*(x/9223372036854775808)) (x %9223372036854775808)=9223372036854775808*(x/9223372036854775808)+x %9223372036854775808:=by
  refine Fk 63 _ _ (by omega) ?_ (by omega) (by omega) ?_
  . have:=h.1;have:=h.2;unfold ud;omega
  . unfold ud;omega
 have e2:9223372036854775808*(x/9223372036854775808)+x %9223372036854775808=x:=by omega
 rcases h2 with h2|h2
 . have h3:x %9223372036854775808=x:=by have:=h.1;have:=h.2;omega
   have:=Fk 63 9223372036854775808 x (by decide) ⟨by decide,by decide⟩ h.1 (by omega) h
   rw [fu _ _ h ⟨by decide,by decide⟩,this];unfold yb ze;omega
 . have h3:x=9223372036854775808+x %9223372036854775808:=by omega
   obtain ⟨y,hy⟩:∃y,y=x %9223372036854775808:=⟨_,rfl⟩;have y0:0<=y:=by omega
   have y1:y<9223372036854775808:=by omega
   have e4:yb x=9223372036854775808+y:=by unfold yb ze;omega
   rw [e4];obtain ⟨n,hn⟩:=Int.eq_ofNat_of_zero_le h.1
   obtain ⟨m,hm⟩:=Int.eq_ofNat_of_zero_le y0;have u:=h.2
   have NK:n=9223372036854775808|||m:=by
    have:=Nat.two_pow_add_eq_or_of_lt (i:=63) (b:=m) (by omega) 1;simp only [Nat.mul_one]at this;rw [<-this];omega
   have hb:=bits_or_u64_nat n 9223372036854775808 (by omega) (by decide);rw [hn];refine hb.trans ?_
   have e5:n|||9223372036854775808=n:=by rw [NK,Nat.or_assoc,Nat.or_comm m,<-Nat.or_assoc,Nat.or_self]
   rw [e5];omega
theorem cP(x:Int)(h:ud x):bits .andNot .u64 x 9223372036854775808=ze x:=by
 obtain ⟨n,rfl⟩:=Int.eq_ofNat_of_zero_le h.1
 have u:=h.2
 have hn:n<18446744073709551616:=by omega
 have e:bits .andNot .u64 (n:Int) 9223372036854775808=bits .and .u64 (n:Int) (2^63 -1):=by
  simp only [bits,BitVec.ofInt_natCast]
  congr 2
 rw [e,Dk 63 (by decide) _ h];rfl
theorem Ta{k:IntKind}{a b:Int}(h:a=b):Ending.returned (.int k a)= .returned (.int k b):=by rw [h]
theorem px{a b:Bool}(h:a=b):Ending.returned (.bool a)= .returned (.bool b):=by rw [h]
def Sl(v:Value)(w:World)(e:Ending)(w':World):Prop:=e= .returned v/\∃n,w'=w.drewN n
theorem Tl(w:World):Calls Tryz.prog 260 #[.int .i64 32] w (Gc (.int .u64 4294967295) w):=by
 go_enter Tryz.func260,Tryz.ntmps260
 go_wp2_with fail
 go_ret
 exact ⟨rfl,rfl⟩
theorem cB(w:World):Calls Tryz.prog 260 #[.int .i64 7] w (Gc (.int .u64 127) w):=by
 go_enter Tryz.func260,Tryz.ntmps260
 go_wp2_with fail
 go_ret
 exact ⟨rfl,rfl⟩
theorem qx(w:World):Calls Tryz.prog 260 #[.int .i64 31] w (Gc (.int .u64 2147483647) w):=by
 go_enter Tryz.func260,Tryz.ntmps260
 go_wp2_with fail
 go_ret
 exact ⟨rfl,rfl⟩
theorem dP(w:World):Calls Tryz.prog 260 #[.int .i64 1] w (Gc (.int .u64 1) w):=by
 go_enter Tryz.func260,Tryz.ntmps260
 go_wp2_with fail
 go_ret
 exact ⟨rfl,rfl⟩
theorem aG(x:Int)(h:ud x)(b c:Nat)(w:World)(hb:w.cell? ⟨b,0,none⟩=some (.int .i64 0))(hc:w.cell? ⟨c,0,none⟩=some (.int .i64 32)):
  Calls Tryz.prog 259 #[.int .u64 x, .pointer (some ⟨b,0,none⟩), .pointer (some ⟨c,0,none⟩)] w (Sl (.int .u64 (Ed 0 32 x)) w):=by
 have HM:=Lib.hid fun w=>Tl w
 have HC:Hid (bits .and .u64 (x) 4294967295=Ed 0 32 x):=Lib.hid (by have:=cr 0 32 (by decide) x h;rw [Int.pow_zero,Int.ediv_one]at this;exact this);clear h
 go_enter Tryz.func259,Tryz.ntmps259
 go_wp2_with fail
 go_quiet ((go_at_call 260;exact Calls.quiet_of_same (HM.out _)))
 go_wp2_with fail
 go_ret
 exact ⟨Ta HC.out,_,rfl⟩
theorem bG(x:Int)(h:ud x)(b c:Nat)(w:World)(hb:w.cell? ⟨b,0,none⟩=some (.int .i64 32))(hc:w.cell? ⟨c,0,none⟩=some (.int .i64 7)):
  Calls Tryz.prog 259 #[.int .u64 x, .pointer (some ⟨b,0,none⟩), .pointer (some ⟨c,0,none⟩)] w (Sl (.int .u64 (Ed 32 7 x)) w):=by
 have HM:=Lib.hid fun w=>cB w
 have HC:Hid (bits .and .u64 (x/4294967296) 127=Ed 32 7 x):=Lib.hid (by have:=cr 32 7 (by decide) x h;exact this);clear h
 go_enter Tryz.func259,Tryz.ntmps259
 go_wp2_with fail
 go_quiet ((go_at_call 260;exact Calls.quiet_of_same (HM.out _)))
 go_wp2_with fail
 go_ret
 exact ⟨Ta HC.out,_,rfl⟩
theorem bD(x:Int)(h:ud x)(b c:Nat)(w:World)(hb:w.cell? ⟨b,0,none⟩=some (.int .i64 32))(hc:w.cell? ⟨c,0,none⟩=some (.int .i64 32)):
  Calls Tryz.prog 259 #[.int .u64 x, .pointer (some ⟨b,0,none⟩), .pointer (some ⟨c,0,none⟩)] w (Sl (.int .u64 (Ed 32 32 x)) w):=by
 have HM:=Lib.hid fun w=>Tl w
 have HC:Hid (bits .and .u64 (x/4294967296) 4294967295=Ed 32 32 x):=Lib.hid (by have:=cr 32 32 (by decide) x h;exact this);clear h
 go_enter Tryz.func259,Tryz.ntmps259
 go_wp2_with fail
 go_quiet ((go_at_call 260;exact Calls.quiet_of_same (HM.out _)))
 go_wp2_with fail
 go_ret
 exact ⟨Ta HC.out,_,rfl⟩
theorem cD(x:Int)(h:ud x)(b c:Nat)(w:World)(hb:w.cell? ⟨b,0,none⟩=some (.int .i64 33))(hc:w.cell? ⟨c,0,none⟩=some (.int .i64 31)):
  Calls Tryz.prog 259 #[.int .u64 x, .pointer (some ⟨b,0,none⟩), .pointer (some ⟨c,0,none⟩)] w (Sl (.int .u64 (Ed 33 31 x)) w):=by
 have HM:=Lib.hid fun w=>qx w
 have HC:Hid (bits .and .u64 (x/8589934592) 2147483647=Ed 33 31 x):=Lib.hid (by have:=cr 33 31 (by decide) x h;exact this);clear h
 go_enter Tryz.func259,Tryz.ntmps259
 go_wp2_with fail
 go_quiet ((go_at_call 260;exact Calls.quiet_of_same (HM.out _)))
 go_wp2_with fail
 go_ret
 exact ⟨Ta HC.out,_,rfl⟩
theorem cG(x:Int)(h:ud x)(b c:Nat)(w:World)(hb:w.cell? ⟨b,0,none⟩=some (.int .i64 32))(hc:w.cell? ⟨c,0,none⟩=some (.int .i64 1)):
  Calls Tryz.prog 259 #[.int .u64 x, .pointer (some ⟨b,0,none⟩), .pointer (some ⟨c,0,none⟩)] w (Sl (.int .u64 (Ed 32 1 x)) w):=by
 have HM:=Lib.hid fun w=>dP w
 have HC:Hid (bits .and .u64 (x/4294967296) 1=Ed 32 1 x):=Lib.hid (by have:=cr 32 1 (by decide) x h;exact this);clear h
 go_enter Tryz.func259,Tryz.ntmps259
 go_wp2_with fail
 go_quiet ((go_at_call 260;exact Calls.quiet_of_same (HM.out _)))
 go_wp2_with fail
 go_ret
 exact ⟨Ta HC.out,_,rfl⟩
theorem Bn(x:Int)(h:ud x)(b c:Nat)(w:World)(hb:w.cell? ⟨b,0,none⟩=some (.int .i64 0))(hc:w.cell? ⟨c,0,none⟩=some (.int .i64 32)):
  Calls Tryz.prog 261 #[.int .u64 x, .pointer (some ⟨c,0,none⟩), .pointer (some ⟨b,0,none⟩)] w (Sl (.int .u64 (uc 0 32 x)) w):=by
 have HM:=Lib.hid fun w=>Tl w
 have HC:Hid (IntKind.u64.wrap (bits .and .u64 x 4294967295)=uc 0 32 x):=Lib.hid (by
  have:=Dk 32 (by decide) x h;rw [show bits .and .u64 x 4294967295=x %2^32 from this];unfold uc;try rw [IntKind.wrap_u64]
  omega)
 clear h
 go_enter Tryz.func261,Tryz.ntmps261
 go_wp2_with fail
 go_quiet ((go_at_call 260;exact Calls.quiet_of_same (HM.out _)))
 go_wp2_with fail
 go_ret
 exact ⟨Ta HC.out,_,rfl⟩
theorem dG(x:Int)(h:ud x)(b c:Nat)(w:World)(hb:w.cell? ⟨b,0,none⟩=some (.int .i64 32))(hc:w.cell? ⟨c,0,none⟩=some (.int .i64 7)):
  Calls Tryz.prog 261 #[.int .u64 x, .pointer (some ⟨c,0,none⟩), .pointer (some ⟨b,0,none⟩)] w (Sl (.int .u64 (uc 32 7 x)) w):=by
 have HM:=Lib.hid fun w=>cB w
 have HC:Hid (IntKind.u64.wrap (bits .and .u64 x 127*4294967296)=uc 32 7 x):=Lib.hid (by
  have:=Dk 7 (by decide) x h;rw [show bits .and .u64 x 127=x %2^7 from this];unfold uc;try rw [IntKind.wrap_u64]
  omega)
 clear h
 go_enter Tryz.func261,Tryz.ntmps261
 go_wp2_with fail
 go_quiet ((go_at_call 260;exact Calls.quiet_of_same (HM.out _)))
 go_wp2_with fail
 go_ret
 exact ⟨Ta HC.out,_,rfl⟩
theorem dD(x:Int)(h:ud x)(b c:Nat)(w:World)(hb:w.cell? ⟨b,0,none⟩=some (.int .i64 32))(hc:w.cell? ⟨c,0,none⟩=some (.int .i64 32)):
  Calls Tryz.prog 261 #[.int .u64 x, .pointer (some ⟨c,0,none⟩), .pointer (some ⟨b,0,none⟩)] w (Sl (.int .u64 (uc 32 32 x)) w):=by
 have HM:=Lib.hid fun w=>Tl w
 have HC:Hid (IntKind.u64.wrap (bits .and .u64 x 4294967295*4294967296)=uc 32 32 x):=Lib.hid (by
  have:=Dk 32 (by decide) x h;rw [show bits .and .u64 x 4294967295=x %2^32 from this];unfold uc;try rw [IntKind.wrap_u64]
  omega)
 clear h
 go_enter Tryz.func261,Tryz.ntmps261
 go_wp2_with fail
 go_quiet ((go_at_call 260;exact Calls.quiet_of_same (HM.out _)))
 go_wp2_with fail
 go_ret
 exact ⟨Ta HC.out,_,rfl⟩
theorem eD(x:Int)(h:ud x)(b c:Nat)(w:World)(hb:w.cell? ⟨b,0,none⟩=some (.int .i64 33))(hc:w.cell? ⟨c,0,none⟩=some (.int .i64 31)):
  Calls Tryz.prog 261 #[.int .u64 x, .pointer (some ⟨c,0,none⟩), .pointer (some ⟨b,0,none⟩)] w (Sl (.int .u64 (uc 33 31 x)) w):=by
 have HM:=Lib.hid fun w=>qx w
 have HC:Hid (IntKind.u64.wrap (bits .and .u64 x 2147483647*8589934592)=uc 33 31 x):=Lib.hid (by
  have:=Dk 31 (by decide) x h;rw [show bits .and .u64 x 2147483647=x %2^31 from this];unfold uc;try rw [IntKind.wrap_u64]
  omega)
 clear h
 go_enter Tryz.func261,Tryz.ntmps261
 go_wp2_with fail
 go_quiet ((go_at_call 260;exact Calls.quiet_of_same (HM.out _)))
 go_wp2_with fail
 go_ret
 exact ⟨Ta HC.out,_,rfl⟩
theorem eh(a n:Int)(w:World):Calls Tryz.prog 178 #[.int .i64 a, .int .i64 n] w fun e w'=>
  e= .returned (.tuple #[.func (.func 259) #[] #[.pointer (some ⟨w.heap.size,0,none⟩), .pointer (some ⟨w.heap.size+1,0,none⟩)], .func (.func 261) #[] #[.pointer (some ⟨w.heap.size+1,0,none⟩), .pointer (some ⟨w.heap.size,0,none⟩)]])/\w'=(w.alloc (.cells #[.int .i64 a] 3)).alloc (.cells #[.int .i64 n] 3):=by
 have hmf:∀(fn:Fn) (first cap:Array Value) (w:World),(Instr.makeFunc fn first cap).run Tryz.prog w= .ok (.func fn first cap) w:=fun _ _ _ _=>rfl
 go_enter Tryz.func178,Tryz.ntmps178
 go_wp2_with fail
 go_ret2
 exact ⟨rfl,rfl⟩
theorem ag(w:World)(a n:Value):((w.alloc (.cells #[a] 3)).alloc (.cells #[n] 3)).cell? ⟨w.heap.size,0,none⟩=some a/\((w.alloc (.cells #[a] 3)).alloc (.cells #[n] 3)).cell? ⟨w.heap.size+1,0,none⟩=some n:=by
 have h1:((w.alloc (.cells #[a] 3)).alloc (.cells #[n] 3)).heap[w.heap.size]?=some (.cells #[a] 3):=by
  rw [Below.heap_alloc _ _ _ (by simp)];exact heap_alloc_new w _
 have h2:((w.alloc (.cells #[a] 3)).alloc (.cells #[n] 3)).heap[w.heap.size+1]?=some (.cells #[n] 3):=by
  have:=heap_alloc_new (w.alloc (.cells #[a] 3)) (.cells #[n] 3);simpa using this
 exact ⟨cell_of_row _ _ 0 _ _ _ h1,cell_of_row _ _ 0 _ _ _ h2⟩
theorem xb{B:Nat}{W w:World}(h:Below B W w)(n:Nat):Below B W (w.drewN n):=⟨h.os,h.tape,h.output,h.size,h.block⟩
theorem below_2(w:World)(a b:Obj):Below w.heap.size w ((w.alloc a).alloc b):=((Below.refl _ _).alloc (Nat.le_refl _) _).alloc (by simp) _
theorem below_4(w:World)(a b c d:Obj):Below w.heap.size w ((((w.alloc a).alloc b).alloc c).alloc d):=((((Below.refl _ _).alloc (Nat.le_refl _) _).alloc (by simp) _).alloc (by simp;omega) _).alloc (by simp;omega) _
theorem tx(w:World)(a n b m:Value):let W:=((((w.alloc (.cells #[a] 3)).alloc (.cells #[n] 3)).alloc (.cells #[b] 3)).alloc (.cells #[m] 3))
  W.cell? ⟨w.heap.size,0,none⟩=some a/\W.cell? ⟨w.heap.size+1,0,none⟩=some n/\W.cell? ⟨w.heap.size+1+1,0,none⟩=some b/\W.cell? ⟨w.heap.size+1+1+1,0,none⟩=some m:=by
 intro W;have h1:=ag w a n;have h2:=ag ((w.alloc (.cells #[a] 3)).alloc (.cells #[n] 3)) b m;have hb:Below (w.heap.size+1+1) ((w.alloc (.cells #[a] 3)).alloc (.cells #[n] 3)) W:=((Below.refl _ _).alloc (by simp) _).alloc (by simp) _
 have s2:((w.alloc (.cells #[a] 3)).alloc (.cells #[n] 3)).heap.size=w.heap.size+1+1:=by simp
 rw [s2]at h2;exact ⟨(hb.cell (p:=⟨w.heap.size,0,none⟩) (by simp;omega)).trans h1.1,(hb.cell (p:=⟨w.heap.size+1,0,none⟩) (by simp)).trans h1.2,h2.1,h2.2⟩
theorem Rap(x:Int)(h:ud x)(w:World):Calls Tryz.prog 120 #[.int .u64 x] w (Fc (.int .i64 (ZF x)) w):=by
 have HF:=Lib.hid fun w=>eh 0 32 w
 have HC:=Lib.hid fun b c w=>aG x h b c w
 have c0:=Nj 0 32 x;have c1:Ed 0 32 x<4294967296:=Nh 0 32 x;have HT:Hid (ZF x=Ed 0 32 x -1):=Lib.hid (by first|rfl|trivial);clear h;generalize Ed 0 32 x=y at*
 go_enter Tryz.func120,Tryz.ntmps120
 go_wp2_with fail
 refine (HF.out _).mono ?_
 rintro e w1 ⟨rfl,rfl⟩;have HZ:=Lib.hid (ag w (.int .i64 0) (.int .i64 32))
 go_wp2_with fail
 refine (HC.out _ _ _ HZ.out.1 HZ.out.2).mono ?_
 rintro e w1 ⟨rfl,n,rfl⟩
 go_wp2_with fail
 go_ret
 exact ⟨Ta (by rw [HT.out];omega),xb (below_2 _ _ _) _⟩
theorem uaI(x:Int)(h:ud x)(w:World):Calls Tryz.prog 131 #[.int .u64 x] w (Fc (.int .i64 (aP x)) w):=by
 have HF:=Lib.hid fun w=>eh 32 7 w
 have HC:=Lib.hid fun b c w=>bG x h b c w
 have c0:=Nj 32 7 x;have c1:Ed 32 7 x<128:=Nh 32 7 x;have HT:Hid (aP x=Ed 32 7 x -1):=Lib.hid (by first|rfl|trivial);clear h;generalize Ed 32 7 x=y at*
 go_enter Tryz.func131,Tryz.ntmps131
 go_wp2_with fail
 refine (HF.out _).mono ?_
 rintro e w1 ⟨rfl,rfl⟩;have HZ:=Lib.hid (ag w (.int .i64 32) (.int .i64 7))
 go_wp2_with fail
 refine (HC.out _ _ _ HZ.out.1 HZ.out.2).mono ?_
 rintro e w1 ⟨rfl,n,rfl⟩
 go_wp2_with fail
 go_ret
 exact ⟨Ta (by rw [HT.out];omega),xb (below_2 _ _ _) _⟩
theorem SS(x:Int)(h:ud x)(w:World):Calls Tryz.prog 308 #[.int .u64 x] w (Fc (.int .i64 (Zi x)) w):=by
 have HF:=Lib.hid fun w=>eh 32 32 w
 have HC:=Lib.hid fun b c w=>bD x h b c w
 have c0:=Nj 32 32 x;have c1:Ed 32 32 x<4294967296:=Nh 32 32 x;have HT:Hid (Zi x=Ed 32 32 x -1):=Lib.hid (by first|rfl|trivial);clear h;generalize Ed 32 32 x=y at*
 go_enter Tryz.func308,Tryz.ntmps308
 go_wp2_with fail
 refine (HF.out _).mono ?_
 rintro e w1 ⟨rfl,rfl⟩;have HZ:=Lib.hid (ag w (.int .i64 32) (.int .i64 32))
 go_wp2_with fail
 refine (HC.out _ _ _ HZ.out.1 HZ.out.2).mono ?_
 rintro e w1 ⟨rfl,n,rfl⟩
 go_wp2_with fail
 go_ret
 exact ⟨Ta (by rw [HT.out];omega),xb (below_2 _ _ _) _⟩
theorem Vaf(x:Int)(h:ud x)(w:World):Calls Tryz.prog 128 #[.int .u64 x] w (Fc (.int .i64 (Ed 33 31 x)) w):=by
 have HF:=Lib.hid fun w=>eh 33 31 w
 have HC:=Lib.hid fun b c w=>cD x h b c w
 have c0:=Nj 33 31 x;have c1:Ed 33 31 x<2147483648:=Nh 33 31 x;have HT:Hid (True):=Lib.hid (by first|rfl|trivial);clear h;generalize Ed 33 31 x=y at*
 go_enter Tryz.func128,Tryz.ntmps128
 go_wp2_with fail
 refine (HF.out _).mono ?_
 rintro e w1 ⟨rfl,rfl⟩;have HZ:=Lib.hid (ag w (.int .i64 33) (.int .i64 31))
 go_wp2_with fail
 refine (HC.out _ _ _ HZ.out.1 HZ.out.2).mono ?_
 rintro e w1 ⟨rfl,n,rfl⟩
 go_wp2_with fail
 go_ret
 exact ⟨rfl,xb (below_2 _ _ _) _⟩
theorem xZ(x:Int)(h:ud x)(w:World):Calls Tryz.prog 134 #[.int .u64 x] w (Fc (.bool (Ed 32 1 x==1)) w):=by
 have HF:=Lib.hid fun w=>eh 32 1 w
 have HC:=Lib.hid fun b c w=>cG x h b c w
 have c0:=Nj 32 1 x;have c1:Ed 32 1 x<2:=Nh 32 1 x;have HT:Hid (True):=Lib.hid (by first|rfl|trivial);clear h;generalize Ed 32 1 x=y at*
 go_enter Tryz.func134,Tryz.ntmps134
 go_wp2_with fail
 refine (HF.out _).mono ?_
 rintro e w1 ⟨rfl,rfl⟩;have HZ:=Lib.hid (ag w (.int .i64 32) (.int .i64 1))
 go_wp2_with fail
 refine (HC.out _ _ _ HZ.out.1 HZ.out.2).mono ?_
 rintro e w1 ⟨rfl,n,rfl⟩
 go_wp2_with fail
 go_ret
 exact ⟨rfl,xb (below_2 _ _ _) _⟩
theorem Waf(x:Int)(h:ud x)(w:World):Calls Tryz.prog 132 #[.int .u64 x] w (Gc (.int .u32 (QS x)) w):=by
 have HC:Hid (IntKind.u32.wrap x=QS x):=Lib.hid (by rw [IntKind.wrap_u32];rfl);clear h
 go_enter Tryz.func132,Tryz.ntmps132
 go_wp2_with fail
 go_ret
 exact ⟨Ta HC.out,rfl⟩
theorem Xaf(x:Int)(h:ud x)(w:World):Calls Tryz.prog 309 #[.int .u64 x] w (Gc (.int .u32 (jA x)) w):=by
 have HC:Hid (IntKind.u32.wrap (x/4294967296)=jA x):=Lib.hid (by rw [IntKind.wrap_u32];have:=h.1;have:=h.2;unfold jA;omega);clear h
 go_enter Tryz.func309,Tryz.ntmps309
 go_wp2_with fail
 go_ret
 exact ⟨Ta HC.out,rfl⟩
theorem TS(x:Int)(w:World):Calls Tryz.prog 281 #[.int .u64 x] w (Gc (.bool (vg x)) w):=by
 have HC:Hid ((x/9223372036854775808==1)=vg x):=Lib.hid rfl
 go_enter Tryz.func281,Tryz.ntmps281
 go_wp2_with fail
 go_ret
 exact ⟨px HC.out,rfl⟩
theorem US(x:Int)(h:ud x)(w:World):Calls Tryz.prog 217 #[.int .u64 x] w (Gc (.int .u64 (ze x)) w):=by
 have HC:=Lib.hid (cP x h);clear h
 go_enter Tryz.func217,Tryz.ntmps217
 go_wp2_with fail
 go_ret
 exact ⟨Ta HC.out,rfl⟩
theorem yZ(x:Int)(h:ud x)(w:World):Calls Tryz.prog 236 #[.int .u64 x] w (Gc (.int .u64 (yb x)) w):=by
 have HC:=Lib.hid (wZ x h);clear h
 go_enter Tryz.func236,Tryz.ntmps236
 go_wp2_with fail
 go_ret
 exact ⟨Ta HC.out,rfl⟩
theorem fD(n:Int)(w:World):Calls Tryz.prog 179 #[.int .i64 n] w (Gc (.int .u64 (Ld n)) w):=by
 have HC:=Lib.hid (bP n)
 go_enter Tryz.func179,Tryz.ntmps179
 go_wp2_with fail
 go_ret
 exact ⟨Ta HC.out,rfl⟩
theorem Yaf(t b:Int)(w:World):Calls Tryz.prog 84 #[.int .i64 t, .int .i64 b] w (Fc (.int .u64 (aj t b)) w):=by
 have HF:=Lib.hid fun a n w=>eh a n w
 have HM:=Lib.hid fun n w=>fD n w
 have HC:=Lib.hid fun b c w=>Bn (Ld t) (Ek t) b c w
 have HD:=Lib.hid fun d c w=>dG (Ld b) (Ek b) d c w
 have HO:=Lib.hid (vZ t b);generalize uc 0 32 (Ld t)=y at*;generalize uc 32 7 (Ld b)=z at*;generalize aj t b=r at*
 go_enter Tryz.func84,Tryz.ntmps84
 go_wp2_with fail
 refine (HF.out _ _ _).mono ?_
 rintro e w1 ⟨rfl,rfl⟩
 go_wp2_with fail
 refine (HF.out _ _ _).mono ?_
 rintro e w1 ⟨rfl,rfl⟩
 go_wp2_with fail
 refine (HM.out _ _).mono ?_
 rintro e w1 ⟨rfl,rfl⟩;have HZ:=Lib.hid (tx w (.int .i64 0) (.int .i64 32) (.int .i64 32) (.int .i64 7))
 go_wp2_with fail
 refine (HC.out _ _ _ HZ.out.1 HZ.out.2.1).mono ?_
 rintro e w1 ⟨rfl,n,rfl⟩
 go_wp2_with fail
 refine (HM.out _ _).mono ?_
 rintro e w1 ⟨rfl,rfl⟩
 go_wp2_with fail
 refine (HD.out _ _ _ (by exact HZ.out.2.2.1) (by exact HZ.out.2.2.2)).mono ?_
 rintro e w1 ⟨rfl,m,rfl⟩
 go_wp2_with fail
 go_ret
 exact ⟨Ta HO.out,xb (below_4 _ _ _ _ _) _⟩
theorem VS(t b:Int)(w:World):Calls Tryz.prog 224 #[.int .i64 t, .int .i64 b] w (Fc (.int .u64 (bj t b)) w):=by
 have HF:=Lib.hid fun a n w=>eh a n w
 have HM:=Lib.hid fun n w=>fD n w
 have HC:=Lib.hid fun b c w=>Bn (Ld t) (Ek t) b c w
 have HD:=Lib.hid fun d c w=>dD (Ld b) (Ek b) d c w
 have HO:=Lib.hid (RS t b);generalize uc 0 32 (Ld t)=y at*;generalize uc 32 32 (Ld b)=z at*;generalize bj t b=r at*
 go_enter Tryz.func224,Tryz.ntmps224
 go_wp2_with fail
 refine (HF.out _ _ _).mono ?_
 rintro e w1 ⟨rfl,rfl⟩
 go_wp2_with fail
 refine (HF.out _ _ _).mono ?_
 rintro e w1 ⟨rfl,rfl⟩
 go_wp2_with fail
 refine (HM.out _ _).mono ?_
 rintro e w1 ⟨rfl,rfl⟩;have HZ:=Lib.hid (tx w (.int .i64 0) (.int .i64 32) (.int .i64 32) (.int .i64 32))
 go_wp2_with fail
 refine (HC.out _ _ _ HZ.out.1 HZ.out.2.1).mono ?_
 rintro e w1 ⟨rfl,n,rfl⟩
 go_wp2_with fail
 refine (HM.out _ _).mono ?_
 rintro e w1 ⟨rfl,rfl⟩
 go_wp2_with fail
 refine (HD.out _ _ _ (by exact HZ.out.2.2.1) (by exact HZ.out.2.2.2)).mono ?_
 rintro e w1 ⟨rfl,m,rfl⟩
 go_wp2_with fail
 go_ret
 exact ⟨Ta HO.out,xb (below_4 _ _ _ _ _) _⟩
theorem Zaf(t v:Int)(h0:0<=v)(h1:v<4294967296)(w:World):Calls Tryz.prog 289 #[.int .i64 t, .int .u32 v] w (Fc (.int .u64 (Qu t v)) w):=by
 have HF:=Lib.hid fun a n w=>eh a n w
 have HM:=Lib.hid fun n w=>fD n w
 have HC:=Lib.hid fun b c w=>Bn (Ld t) (Ek t) b c w
 have HO:=Lib.hid (Uaf t v h0 h1);generalize uc 0 32 (Ld t)=y at*;generalize Qu t v=r at*
 go_enter Tryz.func289,Tryz.ntmps289
 go_wp2_with fail
 refine (HF.out _ _ _).mono ?_
 rintro e w1 ⟨rfl,rfl⟩
 go_wp2_with fail
 refine (HM.out _ _).mono ?_
 rintro e w1 ⟨rfl,rfl⟩;have HZ:=Lib.hid (ag w (.int .i64 0) (.int .i64 32))
 go_wp2_with fail
 refine (HC.out _ _ _ HZ.out.1 HZ.out.2).mono ?_
 rintro e w1 ⟨rfl,n,rfl⟩
 go_wp2_with fail
 go_ret
 exact ⟨Ta HO.out,xb (below_2 _ _ _) _⟩
theorem WS(q v:Int)(h0:0<=v)(h1:v<4294967296):bits .or .u64 (uc 33 31 q) v=cellW q false v/\bits .or .u64 (cellW q false v) 4294967296=cellW q true v:=by
 have u1:ud (uc 33 31 q):=by unfold uc ud;omega
 have u2:ud v:=by unfold ud;omega
 have e1:bits .or .u64 (uc 33 31 q) v=uc 33 31 q+v:=Fk 32 _ _ (by unfold uc;omega) u1 h0 h1 u2
 have e2:bits .or .u64 (4294967296:Int) v=4294967296+v:=Fk 32 _ _ (by decide) ⟨by decide,by decide⟩ h0 h1 u2
 refine ⟨by rw [e1];simp [cellW], ?_⟩;have e3:cellW q false v=uc 33 31 q+v:=by simp [cellW]
 rw [e3];have h3:bits .or .u64 (uc 33 31 q) (4294967296+v)=uc 33 31 q+(4294967296+v):=Fk 33 _ _ (by unfold uc;omega) u1 (by omega) (by omega) (by unfold ud;omega)
 obtain ⟨a,ha⟩:=Int.eq_ofNat_of_zero_le u1.1
 obtain ⟨b,rfl⟩:=Int.eq_ofNat_of_zero_le h0;have ub:=u1.2
 have o1:=bits_or_u64_nat a b (by omega) (by omega);have o2:=bits_or_u64_nat 4294967296 b (by decide) (by omega);have o3:=bits_or_u64_nat a (4294967296+b) (by omega) (by omega);have o4:=bits_or_u64_nat (a+b) 4294967296 (by unfold uc at*;omega) (by decide);rw [ha]at e1 h3⊢;have i1:(a:Int)+b=((a|||b:Nat):Int):=e1.symm.trans o1;have i2:(4294967296:Int)+b=((4294967296|||b:Nat):Int):=e2.symm.trans o2;have c1:((4294967296+b:Nat):Int)=4294967296+(b:Int):=by omega
 have c2:((a+b:Nat):Int)=(a:Int)+(b:Int):=by omega
 rw [c1]at o3;rw [c2]at o4;have i3:(a:Int)+(4294967296+b)=((a|||(4294967296+b):Nat):Int):=h3.symm.trans o3;have n1:a+b=a|||b:=by omega
 have n2:4294967296+b=4294967296|||b:=by omega
 have n3:a+(4294967296+b)=a|||(4294967296+b):=by omega
 refine o4.trans ?_
 have n4:(a+b)|||4294967296=a+(4294967296+b):=by rw [n3,n2,n1,Nat.or_assoc,Nat.or_comm b]
 rw [n4];have:cellW q true b=uc 33 31 q+4294967296+b:=rfl;rw [this,ha];omega
theorem aag(q v:Int)(d:Bool)(h0:0<=v)(h1:v<4294967296)(w:World):Calls Tryz.prog 127 #[.int .i64 q, .bool d, .int .u32 v] w (Fc (.int .u64 (cellW q d v)) w):=by
 have HF:=Lib.hid fun a n w=>eh a n w
 have u1:ud (IntKind.u64.wrap q):=by rw [IntKind.wrap_u64];unfold ud;omega
 have e1:uc 33 31 (IntKind.u64.wrap q)=uc 33 31 q:=by rw [IntKind.wrap_u64];unfold uc;omega
 have HC:=Lib.hid fun b c w=>eD (IntKind.u64.wrap q) u1 b c w
 have HO:=Lib.hid (WS q v h0 h1);have HV:Hid (IntKind.u64.wrap v=v):=Lib.hid (by rw [IntKind.wrap_u64];omega);rw [e1]at HC;clear u1 e1;generalize uc 33 31 q=y at*;have HE:Hid (cellW q false v=cellW q false v):=Lib.hid rfl;generalize hr:cellW q false v=r at*;generalize EC:cellW q true v=r2 at*;have HR:Hid (cellW q d v=if d then r2 else r):=Lib.hid (by cases d;exact hr;exact EC);clear EC hr;generalize cellW q d v=res at*;cases d
 all_goals
  go_enter Tryz.func127,Tryz.ntmps127
  go_wp2_with fail
  refine (HF.out _ _ _).mono ?_
  rintro e w1 ⟨rfl,rfl⟩;have HZ:=Lib.hid (ag w (.int .i64 33) (.int .i64 31))
  go_wp2_with fail
  refine (HC.out _ _ _ HZ.out.1 HZ.out.2).mono ?_
  rintro e w1 ⟨rfl,n,rfl⟩
  go_wp2_with fail
  go_ret
  refine ⟨Ta ?_,xb (below_2 _ _ _) _⟩
  first|exact HO.out.1.trans HR.out.symm|(rw [HO.out.1];exact HO.out.2.trans HR.out.symm)
structure Xc where
 th:Int
 sl:Int
 lo:Int
 bu:Int
def Xc.cells(c:Xc):Array Value:=#[.int .i64 c.th, .int .i64 c.sl, .int .i64 c.lo, .int .i64 c.bu]
def Xc.right(c:Xc):Prop:=1<=c.th/\c.th<=64/\1<=c.sl/\c.sl<=65536/\1<=c.lo/\c.lo<=64/\1<=c.bu/\c.bu<=64
instance(c:Xc):Decidable c.right:=by unfold Xc.right;infer_instance
def Xc.Cn(c:Xc):Prop:=c.right/\c.th<=6/\c.sl<=30/\c.lo<=8/\c.bu<=8
instance(c:Xc):Decidable c.Cn:=by unfold Xc.Cn;infer_instance
def gD(r:Bool)(w:World)(e:Ending)(w':World):Prop:=e= .returned (.bool r)/\Below w.heap.size w w'
theorem Cj(n m:Int)(w:World):Calls Tryz.prog 200 #[.int .i64 n, .int .i64 m] w fun e w'=>e= .returned (.bool (decide (1<=n/\n<=m)))/\w'=w:=by
 by_cases h:1<=n
 . have d1:decide (1<=n)=true:=ga h;have e:decide (1<=n/\n<=m)=decide (n<=m):=by simp [h]
   rw [e]
   go_enter Tryz.func200,Tryz.ntmps200
   go_wp2
   all_goals
    go_ret
    exact ⟨by simp_all,rfl⟩
 . have d1:decide (1<=n)=false:=ua h;have e:decide (1<=n/\n<=m)=false:=ua (fun k=>h k.1);rw [e]
   go_enter Tryz.func200,Tryz.ntmps200
   go_wp2
   go_ret
   exact ⟨rfl,rfl⟩
theorem iD(c:Xc)(w:World):Calls Tryz.prog 81 #[.agg c.cells] w (gD (decide c.right) w):=by
 obtain ⟨th,sl,lo,bu⟩:=c;obtain ⟨r,hr⟩:∃r,r=decide (Xc.right ⟨th,sl,lo,bu⟩):=⟨_,rfl⟩;rw [<-hr];have HR:Hid (r=decide (1<=th/\th<=64/\1<=sl/\sl<=65536/\1<=lo/\lo<=64/\1<=bu/\bu<=64)):=Lib.hid hr;clear hr;simp only [Xc.cells];by_cases h0:1<=th
 rotate_left
 . have d0:decide (1<=th)=false:=ua h0;have HV:Hid (r=false):=Lib.hid (by rw [HR.out];exact ua (by omega));clear HR
   go_enter Tryz.func81,Tryz.ntmps81
   go_wp2_with fail
   go_ret
   exact ⟨by rw [HV.out];rfl,(Below.refl _ _).alloc (Nat.le_refl _) _⟩
 have d0:decide (1<=th)=true:=ga h0;by_cases h1:th<=64
 rotate_left
 . have d1:decide (th<=64)=false:=ua h1;have HV:Hid (r=false):=Lib.hid (by rw [HR.out];exact ua (by omega));clear HR
   go_enter Tryz.func81,Tryz.ntmps81
   go_wp2_with fail
   go_ret
   exact ⟨by rw [HV.out];rfl,(Below.refl _ _).alloc (Nat.le_refl _) _⟩
 have d1:decide (th<=64)=true:=ga h1;by_cases h2:1<=sl
 rotate_left
 . have d2:decide (1<=sl)=false:=ua h2;have HV:Hid (r=false):=Lib.hid (by rw [HR.out];exact ua (by omega));clear HR
   go_enter Tryz.func81,Tryz.ntmps81
   go_wp2_with fail
   go_ret
   exact ⟨by rw [HV.out];rfl,(Below.refl _ _).alloc (Nat.le_refl _) _⟩
 have d2:decide (1<=sl)=true:=ga h2;by_cases h3:sl<=65536
 rotate_left
 . have d3:decide (sl<=65536)=false:=ua h3;have HV:Hid (r=false):=Lib.hid (by rw [HR.out];exact ua (by omega));clear HR
   go_enter Tryz.func81,Tryz.ntmps81
   go_wp2_with fail
   go_ret
   exact ⟨by rw [HV.out];rfl,(Below.refl _ _).alloc (Nat.le_refl _) _⟩
 have d3:decide (sl<=65536)=true:=ga h3;by_cases h4:1<=lo
 rotate_left
 . have d4:decide (1<=lo)=false:=ua h4;have HV:Hid (r=false):=Lib.hid (by rw [HR.out];exact ua (by omega));clear HR
   go_enter Tryz.func81,Tryz.ntmps81
   go_wp2_with fail
   go_ret
   exact ⟨by rw [HV.out];rfl,(Below.refl _ _).alloc (Nat.le_refl _) _⟩
 have d4:decide (1<=lo)=true:=ga h4;by_cases h5:lo<=64
 rotate_left
 . have d5:decide (lo<=64)=false:=ua h5;have HV:Hid (r=false):=Lib.hid (by rw [HR.out];exact ua (by omega));clear HR
   go_enter Tryz.func81,Tryz.ntmps81
   go_wp2_with fail
   go_ret
   exact ⟨by rw [HV.out];rfl,(Below.refl _ _).alloc (Nat.le_refl _) _⟩
 have d5:decide (lo<=64)=true:=ga h5;by_cases h6:1<=bu
 rotate_left
 . have d6:decide (1<=bu)=false:=ua h6;have HV:Hid (r=false):=Lib.hid (by rw [HR.out];exact ua (by omega));clear HR
   go_enter Tryz.func81,Tryz.ntmps81
   go_wp2_with fail
   go_ret
   exact ⟨by rw [HV.out];rfl,(Below.refl _ _).alloc (Nat.le_refl _) _⟩
 have d6:decide (1<=bu)=true:=ga h6;by_cases h7:bu<=64
 rotate_left
 . have d7:decide (bu<=64)=false:=ua h7;have HV:Hid (r=false):=Lib.hid (by rw [HR.out];exact ua (by omega));clear HR
   go_enter Tryz.func81,Tryz.ntmps81
   go_wp2_with fail
   go_ret
   exact ⟨by rw [HV.out];rfl,(Below.refl _ _).alloc (Nat.le_refl _) _⟩
 have d7:decide (bu<=64)=true:=ga h7;have HV:Hid (r=true):=Lib.hid (by rw [HR.out];exact ga (by omega));clear HR
 go_enter Tryz.func81,Tryz.ntmps81
 go_wp2_with fail
 go_ret
 exact ⟨by rw [HV.out];rfl,(Below.refl _ _).alloc (Nat.le_refl _) _⟩
theorem eP(c:Xc)(w:World):Calls Tryz.prog 98 #[.agg c.cells] w (gD (decide c.right) w):=by
 obtain ⟨th,sl,lo,bu⟩:=c;obtain ⟨r,hr⟩:∃r,r=decide (Xc.right ⟨th,sl,lo,bu⟩):=⟨_,rfl⟩;rw [<-hr];have HR:Hid (r=decide (1<=th/\th<=64/\1<=sl/\sl<=65536/\1<=lo/\lo<=64/\1<=bu/\bu<=64)):=Lib.hid hr;clear hr;simp only [Xc.cells];by_cases h0:1<=th/\th<=64
 rotate_left
 . have HF0:Hid (∀w,Calls Tryz.prog 200 #[.int .i64 th, .int .i64 64] w fun e w'=>e= .returned (.bool false)/\w'=w):=Lib.hid fun w=>by rw [<-ua h0];exact Cj _ _ w
   have HV:Hid (r=false):=Lib.hid (by rw [HR.out];exact ua (by omega));clear HR
   go_enter Tryz.func98,Tryz.ntmps98
   go_wp2_with (go_at_call 200;(with_reducible first|refine (HF0.out _).mono ?_);rintro e w' ⟨rfl,rfl⟩)
   go_ret
   exact ⟨by rw [HV.out];rfl,(Below.refl _ _).alloc (Nat.le_refl _) _⟩
 have HF0:Hid (∀w,Calls Tryz.prog 200 #[.int .i64 th, .int .i64 64] w fun e w'=>e= .returned (.bool true)/\w'=w):=Lib.hid fun w=>by rw [<-ga h0];exact Cj _ _ w
 by_cases h1:1<=sl/\sl<=65536
 rotate_left
 . have HF1:Hid (∀w,Calls Tryz.prog 200 #[.int .i64 sl, .int .i64 65536] w fun e w'=>e= .returned (.bool false)/\w'=w):=Lib.hid fun w=>by rw [<-ua h1];exact Cj _ _ w
   have HV:Hid (r=false):=Lib.hid (by rw [HR.out];exact ua (by omega));clear HR
   go_enter Tryz.func98,Tryz.ntmps98
   go_wp2_with (go_at_call 200;(with_reducible first|refine (HF0.out _).mono ?_|refine (HF1.out _).mono ?_);rintro e w' ⟨rfl,rfl⟩)
   go_ret
   exact ⟨by rw [HV.out];rfl,(Below.refl _ _).alloc (Nat.le_refl _) _⟩
 have HF1:Hid (∀w,Calls Tryz.prog 200 #[.int .i64 sl, .int .i64 65536] w fun e w'=>e= .returned (.bool true)/\w'=w):=Lib.hid fun w=>by rw [<-ga h1];exact Cj _ _ w
 by_cases h2:1<=lo/\lo<=64
 rotate_left
 . have HF2:Hid (∀w,Calls Tryz.prog 200 #[.int .i64 lo, .int .i64 64] w fun e w'=>e= .returned (.bool false)/\w'=w):=Lib.hid fun w=>by rw [<-ua h2];exact Cj _ _ w
   have HV:Hid (r=false):=Lib.hid (by rw [HR.out];exact ua (by omega));clear HR
   go_enter Tryz.func98,Tryz.ntmps98
   go_wp2_with (go_at_call 200;(with_reducible first|refine (HF0.out _).mono ?_|refine (HF1.out _).mono ?_|refine (HF2.out _).mono ?_);rintro e w' ⟨rfl,rfl⟩)
   go_ret
   exact ⟨by rw [HV.out];rfl,(Below.refl _ _).alloc (Nat.le_refl _) _⟩
 have HF2:Hid (∀w,Calls Tryz.prog 200 #[.int .i64 lo, .int .i64 64] w fun e w'=>e= .returned (.bool true)/\w'=w):=Lib.hid fun w=>by rw [<-ga h2];exact Cj _ _ w
 by_cases h3:1<=bu/\bu<=64
 rotate_left
 . have HF3:Hid (∀w,Calls Tryz.prog 200 #[.int .i64 bu, .int .i64 64] w fun e w'=>e= .returned (.bool false)/\w'=w):=Lib.hid fun w=>by rw [<-ua h3];exact Cj _ _ w
   have HV:Hid (r=false):=Lib.hid (by rw [HR.out];exact ua (by omega));clear HR
   go_enter Tryz.func98,Tryz.ntmps98
   go_wp2_with (go_at_call 200;(with_reducible first|refine (HF0.out _).mono ?_|refine (HF1.out _).mono ?_|refine (HF2.out _).mono ?_|refine (HF3.out _).mono ?_);rintro e w' ⟨rfl,rfl⟩)
   go_ret
   exact ⟨by rw [HV.out];rfl,(Below.refl _ _).alloc (Nat.le_refl _) _⟩
 have HF3:Hid (∀w,Calls Tryz.prog 200 #[.int .i64 bu, .int .i64 64] w fun e w'=>e= .returned (.bool true)/\w'=w):=Lib.hid fun w=>by rw [<-ga h3];exact Cj _ _ w
 have HV:Hid (r=true):=Lib.hid (by rw [HR.out];exact ga (by omega));clear HR
 go_enter Tryz.func98,Tryz.ntmps98
 go_wp2_with (go_at_call 200;(with_reducible first|refine (HF0.out _).mono ?_|refine (HF1.out _).mono ?_|refine (HF2.out _).mono ?_|refine (HF3.out _).mono ?_);rintro e w' ⟨rfl,rfl⟩)
 go_ret
 exact ⟨by rw [HV.out];rfl,(Below.refl _ _).alloc (Nat.le_refl _) _⟩
theorem K4(c:Xc)(w:World):Calls Tryz.prog 22 #[.agg c.cells] w (gD (decide c.Cn) w):=by
 have HRT:=Lib.hid fun w=>iD c w
 have HFF:Hid (c.Cn<->c.right/\c.th<=6/\c.sl<=30/\c.lo<=8/\c.bu<=8):=Lib.hid Iff.rfl;obtain ⟨R,hR⟩:∃R,R=decide c.right:=⟨_,rfl⟩;rw [<-hR]at HRT;obtain ⟨r,hr⟩:∃r,r=decide c.Cn:=⟨_,rfl⟩;rw [<-hr];have HR:Hid (r=decide (R=true/\c.th<=6/\c.sl<=30/\c.lo<=8/\c.bu<=8)):=Lib.hid (by rw [hr,hR];apply decide_eq_decide.2;rw [HFF.out];simp);clear hr hR HFF;obtain ⟨th,sl,lo,bu⟩:=c;simp only [Xc.cells]at*;cases R
 . have HV0:=HR;have HV:Hid (r=false):=Lib.hid (by rw [HR.out];exact ua (fun h=>by cases h.1));clear HR
   go_enter Tryz.func22,Tryz.ntmps22
   go_wp2_with (go_at_call 81;(with_reducible refine (HRT.out _).mono ?_);rintro e w' ⟨rfl,hb⟩;have l0:=hb.cell (p:=⟨w.heap.size,0,none⟩) (by simp);have l1:=hb.cell (p:=⟨w.heap.size,1,none⟩) (by simp);have l2:=hb.cell (p:=⟨w.heap.size,2,none⟩) (by simp);have l3:=hb.cell (p:=⟨w.heap.size,3,none⟩) (by simp);have HB:Hid (Below w.heap.size w w'):=Lib.hid (((Below.refl _ _).alloc (Nat.le_refl _) _).trans (hb.mono (by simp)));clear hb)
   go_ret
   exact ⟨by rw [HV.out];rfl,HB.out⟩
 by_cases h0:th<=6
 rotate_left
 . have d0:decide (th<=6)=false:=ua h0;have HV:Hid (r=false):=Lib.hid (by rw [HR.out];exact ua (by omega));clear HR
   go_enter Tryz.func22,Tryz.ntmps22
   go_wp2_with (go_at_call 81;(with_reducible refine (HRT.out _).mono ?_);rintro e w' ⟨rfl,hb⟩;have l0:=hb.cell (p:=⟨w.heap.size,0,none⟩) (by simp);have l1:=hb.cell (p:=⟨w.heap.size,1,none⟩) (by simp);have l2:=hb.cell (p:=⟨w.heap.size,2,none⟩) (by simp);have l3:=hb.cell (p:=⟨w.heap.size,3,none⟩) (by simp);have HB:Hid (Below w.heap.size w w'):=Lib.hid (((Below.refl _ _).alloc (Nat.le_refl _) _).trans (hb.mono (by simp)));clear hb)
   go_ret
   exact ⟨by rw [HV.out];rfl,HB.out⟩
 have d0:decide (th<=6)=true:=ga h0;by_cases h1:sl<=30
 rotate_left
 . have d1:decide (sl<=30)=false:=ua h1;have HV:Hid (r=false):=Lib.hid (by rw [HR.out];exact ua (by omega));clear HR
   go_enter Tryz.func22,Tryz.ntmps22
   go_wp2_with (go_at_call 81;(with_reducible refine (HRT.out _).mono ?_);rintro e w' ⟨rfl,hb⟩;have l0:=hb.cell (p:=⟨w.heap.size,0,none⟩) (by simp);have l1:=hb.cell (p:=⟨w.heap.size,1,none⟩) (by simp);have l2:=hb.cell (p:=⟨w.heap.size,2,none⟩) (by simp);have l3:=hb.cell (p:=⟨w.heap.size,3,none⟩) (by simp);have HB:Hid (Below w.heap.size w w'):=Lib.hid (((Below.refl _ _).alloc (Nat.le_refl _) _).trans (hb.mono (by simp)));clear hb)
   go_ret
   exact ⟨by rw [HV.out];rfl,HB.out⟩
 have d1:decide (sl<=30)=true:=ga h1;by_cases h2:lo<=8
 rotate_left
 . have d2:decide (lo<=8)=false:=ua h2;have HV:Hid (r=false):=Lib.hid (by rw [HR.out];exact ua (by omega));clear HR
   go_enter Tryz.func22,Tryz.ntmps22
   go_wp2_with (go_at_call 81;(with_reducible refine (HRT.out _).mono ?_);rintro e w' ⟨rfl,hb⟩;have l0:=hb.cell (p:=⟨w.heap.size,0,none⟩) (by simp);have l1:=hb.cell (p:=⟨w.heap.size,1,none⟩) (by simp);have l2:=hb.cell (p:=⟨w.heap.size,2,none⟩) (by simp);have l3:=hb.cell (p:=⟨w.heap.size,3,none⟩) (by simp);have HB:Hid (Below w.heap.size w w'):=Lib.hid (((Below.refl _ _).alloc (Nat.le_refl _) _).trans (hb.mono (by simp)));clear hb)
   go_ret
   exact ⟨by rw [HV.out];rfl,HB.out⟩
 have d2:decide (lo<=8)=true:=ga h2;by_cases h3:bu<=8
 rotate_left
 . have d3:decide (bu<=8)=false:=ua h3;have HV:Hid (r=false):=Lib.hid (by rw [HR.out];exact ua (by omega));clear HR
   go_enter Tryz.func22,Tryz.ntmps22
   go_wp2_with (go_at_call 81;(with_reducible refine (HRT.out _).mono ?_);rintro e w' ⟨rfl,hb⟩;have l0:=hb.cell (p:=⟨w.heap.size,0,none⟩) (by simp);have l1:=hb.cell (p:=⟨w.heap.size,1,none⟩) (by simp);have l2:=hb.cell (p:=⟨w.heap.size,2,none⟩) (by simp);have l3:=hb.cell (p:=⟨w.heap.size,3,none⟩) (by simp);have HB:Hid (Below w.heap.size w w'):=Lib.hid (((Below.refl _ _).alloc (Nat.le_refl _) _).trans (hb.mono (by simp)));clear hb)
   go_ret
   exact ⟨by rw [HV.out];rfl,HB.out⟩
 have d3:decide (bu<=8)=true:=ga h3;have HV:Hid (r=true):=Lib.hid (by rw [HR.out];exact ga ⟨rfl,by omega,by omega,by omega,by omega⟩);clear HR
 go_enter Tryz.func22,Tryz.ntmps22
 go_wp2_with (go_at_call 81;(with_reducible refine (HRT.out _).mono ?_);rintro e w' ⟨rfl,hb⟩;have l0:=hb.cell (p:=⟨w.heap.size,0,none⟩) (by simp);have l1:=hb.cell (p:=⟨w.heap.size,1,none⟩) (by simp);have l2:=hb.cell (p:=⟨w.heap.size,2,none⟩) (by simp);have l3:=hb.cell (p:=⟨w.heap.size,3,none⟩) (by simp);have HB:Hid (Below w.heap.size w w'):=Lib.hid (((Below.refl _ _).alloc (Nat.le_refl _) _).trans (hb.mono (by simp)));clear hb)
 go_ret
 exact ⟨by rw [HV.out];rfl,HB.out⟩
end Go.Proofs.YtfnkmolffhfpoaaGreat
