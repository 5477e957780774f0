/- Layer 1 (bits): fields of words.
   Layers 5, 9: configs: which ones may be (the ways printed by g2.py). -/
import Derived.Test.YtkdcfijebgeajaaGreatJ1
import Derived.Laws.BitsLemmas
import Derived.Laws.Bits64b
import Derived.Laws.Pointers
import Derived.BigQuiet
import Derived.RegionTactic
import Derived.BigRegion
import Derived.ChangeAlike
import Derived.Deep.RegionWith
import Derived.Deep.Cut
import Derived.Deep.CutRange
namespace Go.Proofs.YtkdcfijebgeajaaGreat
open Go.RowKit Go.BigFrame
set_option linter.unusedVariables false
set_option linter.unusedSimpArgs false
/-- A word's bounds. -/
def U64 (x : Int) : Prop := 0 ≤ x ∧ x < 18446744073709551616
/-- A field of a word, and a number put there. -/
def cutF (at_ n : Nat) (x : Int) : Int := x / 2 ^ at_ % 2 ^ n
def putF (at_ n : Nat) (x : Int) : Int := x % 2 ^ n * 2 ^ at_
def toW (x : Int) : Int := cutF 0 32 x - 1
def byW (x : Int) : Int := cutF 32 7 x - 1
def stampW (x : Int) : Int := cutF 32 32 x - 1
def cleanW (x : Int) : Int := x % 9223372036854775808
def dirtyB (x : Int) : Bool := x / 9223372036854775808 == 1
def soilW (x : Int) : Int := cleanW x + 9223372036854775808
def moreW (n : Int) : Int := (n + 1) % 18446744073709551616
def linkW (t b : Int) : Int := putF 0 32 (moreW t) + putF 32 7 (moreW b)
def entryW (t b : Int) : Int := putF 0 32 (moreW t) + putF 32 32 (moreW b)
def topW (t v : Int) : Int := putF 0 32 (moreW t) + v * 4294967296
def verW (x : Int) : Int := x / 4294967296
def valW (x : Int) : Int := x % 4294967296
def cellW (q : Int) (d : Bool) (v : Int) : Int := putF 33 31 q + (if d then 4294967296 else 0) + v
def rightW (x s t : Int) : Bool := linkW (toW x) (byW x) == cleanW x && decide (toW x < s) && decide (byW x < t)
theorem wraps_u64 (n : Int) (h₀ : 0 ≤ n) (h₁ : n < 2 ^ 64) : IntKind.u64.wrap n = n := by rw [IntKind.wrap_u64]; omega
theorem and_mask (i : Nat) (hi : i ≤ 64) (x : Int) (h : U64 x) : bits .and .u64 x (2 ^ i - 1) = x % 2 ^ i :=
  bits_mask .u64 64 (by decide) wraps_u64 i hi x h.1 h.2
theorem U64.div {x : Int} (h : U64 x) (k : Nat) : U64 (x / 2 ^ k) := by
  have h2 : (0 : Int) < 2 ^ k := Int.pow_pos (by decide)
  refine ⟨Int.ediv_nonneg h.1 (Int.le_of_lt h2), Int.lt_of_le_of_lt (Int.ediv_le_self _ h.1) h.2⟩
theorem cut_and (at_ n : Nat) (hn : n ≤ 64) (x : Int) (h : U64 x) : bits .and .u64 (x / 2 ^ at_) (2 ^ n - 1) = cutF at_ n x := and_mask n hn _ (h.div at_)
theorem cutF_0 (at_ n : Nat) (x : Int) : 0 ≤ cutF at_ n x := Int.emod_nonneg _ (by have : (0 : Int) < 2 ^ n := Int.pow_pos (by decide); omega)
theorem cutF_lt (at_ n : Nat) (x : Int) : cutF at_ n x < 2 ^ n := Int.emod_lt_of_pos _ (Int.pow_pos (by decide))
theorem moreW_u64 (n : Int) : U64 (moreW n) := by unfold moreW U64; omega
theorem more_walk (n : Int) : IntKind.u64.wrap (IntKind.u64.wrap n + 1) = moreW n := by rw [IntKind.wrap_u64, IntKind.wrap_u64]; unfold moreW; omega
theorem join_u64 (i : Nat) (x y : Int) (hx : x % 2 ^ i = 0) (ux : U64 x) (hy₀ : 0 ≤ y) (hy : y < 2 ^ i) (uy : U64 y) : bits .or .u64 x y = x + y :=
  bits_join .u64 64 (by decide) wraps_u64 i x y ux.1 hx ux.2 hy₀ hy uy.2
theorem or_comm_u64 (x y : Int) (ux : U64 x) (uy : U64 y) : bits .or .u64 x y = bits .or .u64 y x := by
  obtain ⟨a, rfl⟩ := Int.eq_ofNat_of_zero_le ux.1
  obtain ⟨b, rfl⟩ := Int.eq_ofNat_of_zero_le uy.1
  have ha := ux.2; have hb := uy.2
  rw [bits_or_u64_nat a b (by omega) (by omega), bits_or_u64_nat b a (by omega) (by omega), Nat.or_comm]
theorem put_low_u64 (n : Nat) (hn : n = 32) (x : Int) : U64 (putF 0 n x) ∧ putF 0 n x < 4294967296 := by
  subst hn; unfold putF U64; omega
theorem or_low (x y : Int) (ux : U64 x) (h : x < 4294967296) (uy : U64 y) (hy : y % 4294967296 = 0) : bits .or .u64 x y = x + y := by
  rw [or_comm_u64 _ _ ux uy, join_u64 32 y x hy uy ux.1 h ux, Int.add_comm]
theorem link_or (t b : Int) : bits .or .u64 (putF 0 32 (moreW t)) (putF 32 7 (moreW b)) = linkW t b :=
  or_low _ _ (put_low_u64 32 rfl _).1 (put_low_u64 32 rfl _).2 (by unfold putF U64; omega) (by unfold putF; omega)
theorem entry_or (t b : Int) : bits .or .u64 (putF 0 32 (moreW t)) (putF 32 32 (moreW b)) = entryW t b :=
  or_low _ _ (put_low_u64 32 rfl _).1 (put_low_u64 32 rfl _).2 (by unfold putF U64; omega) (by unfold putF; omega)
theorem top_or (t v : Int) (h0 : 0 ≤ v) (h1 : v < 4294967296) : bits .or .u64 (putF 0 32 (moreW t)) (v * 4294967296) = topW t v :=
  or_low _ _ (put_low_u64 32 rfl _).1 (put_low_u64 32 rfl _).2 (by unfold U64; omega) (by omega)
theorem soil_or (x : Int) (h : U64 x) : bits .or .u64 x 9223372036854775808 = soilW x := by
  have h2 : x / 9223372036854775808 = 0 ∨ x / 9223372036854775808 = 1 := by have := h.1; have := h.2; omega
  have e : bits .or .u64 (9223372036854775808 * (x / 9223372036854775808)) (x % 9223372036854775808) = 9223372036854775808 * (x / 9223372036854775808) + x % 9223372036854775808 := by
    refine join_u64 63 _ _ (by omega) ?_ (by omega) (by omega) ?_
    · have := h.1; have := h.2; unfold U64; omega
    · unfold U64; omega
  have e2 : 9223372036854775808 * (x / 9223372036854775808) + x % 9223372036854775808 = x := by omega
  rcases h2 with h2 | h2
  · have h3 : x % 9223372036854775808 = x := by have := h.1; have := h.2; omega
    have := join_u64 63 9223372036854775808 x (by decide) ⟨by decide, by decide⟩ h.1 (by omega) h
    rw [or_comm_u64 _ _ h ⟨by decide, by decide⟩, this]
    unfold soilW cleanW; omega
  · have h3 : x = 9223372036854775808 + x % 9223372036854775808 := by omega
    obtain ⟨y, hy⟩ : ∃ y, y = x % 9223372036854775808 := ⟨_, rfl⟩
    have y0 : 0 ≤ y := by omega
    have y1 : y < 9223372036854775808 := by omega
    have e4 : soilW x = 9223372036854775808 + y := by unfold soilW cleanW; omega
    rw [e4]
    obtain ⟨n, hn⟩ := Int.eq_ofNat_of_zero_le h.1
    obtain ⟨m, hm⟩ := Int.eq_ofNat_of_zero_le y0
    have u := h.2
    have hnm : n = 9223372036854775808 ||| m := by
      have := Nat.two_pow_add_eq_or_of_lt (i := 63) (b := m) (by omega) 1
      simp only [Nat.mul_one] at this
      rw [← this]; omega
    have hb := bits_or_u64_nat n 9223372036854775808 (by omega) (by decide)
    rw [hn]
    refine hb.trans ?_
    have e5 : n ||| 9223372036854775808 = n := by rw [hnm, Nat.or_assoc, Nat.or_comm m, ← Nat.or_assoc, Nat.or_self]
    rw [e5]; omega
theorem clean_and (x : Int) (h : U64 x) : bits .andNot .u64 x 9223372036854775808 = cleanW x := by
  obtain ⟨n, rfl⟩ := Int.eq_ofNat_of_zero_le h.1
  have u := h.2
  have hn : n < 18446744073709551616 := by omega
  have e : bits .andNot .u64 (n : Int) 9223372036854775808 = bits .and .u64 (n : Int) (2 ^ 63 - 1) := by
    simp only [bits, BitVec.ofInt_natCast]
    congr 2
  rw [e, and_mask 63 (by decide) _ h]; rfl
theorem ret_int {k : IntKind} {a b : Int} (h : a = b) : Ending.returned (.int k a) = .returned (.int k b) := by rw [h]
theorem ret_bool {a b : Bool} (h : a = b) : Ending.returned (.bool a) = .returned (.bool b) := by rw [h]
/-- An answer, behind some draws. -/
def Drew (v : Value) (w : World) (e : Ending) (w' : World) : Prop := e = .returned v ∧ ∃ n, w' = w.drewN n

theorem mask190_32 (w : World) : Calls Tryz.prog 195 #[.int .i64 32] w (Says (.int .u64 4294967295) w) := by
  go_enter Tryz.func195, Tryz.ntmps195
  go_wp2_with fail
  go_ret
  exact ⟨rfl, rfl⟩
theorem mask190_7 (w : World) : Calls Tryz.prog 195 #[.int .i64 7] w (Says (.int .u64 127) w) := by
  go_enter Tryz.func195, Tryz.ntmps195
  go_wp2_with fail
  go_ret
  exact ⟨rfl, rfl⟩
theorem mask190_31 (w : World) : Calls Tryz.prog 195 #[.int .i64 31] w (Says (.int .u64 2147483647) w) := by
  go_enter Tryz.func195, Tryz.ntmps195
  go_wp2_with fail
  go_ret
  exact ⟨rfl, rfl⟩
theorem mask190_1 (w : World) : Calls Tryz.prog 195 #[.int .i64 1] w (Says (.int .u64 1) w) := by
  go_enter Tryz.func195, Tryz.ntmps195
  go_wp2_with fail
  go_ret
  exact ⟨rfl, rfl⟩
theorem cut189_0_32 (x : Int) (h : U64 x) (b c : Nat) (w : World) (hb : w.cell? ⟨b, 0, none⟩ = some (.int .i64 0)) (hc : w.cell? ⟨c, 0, none⟩ = some (.int .i64 32)) :
    Calls Tryz.prog 194 #[.int .u64 x, .pointer (some ⟨b, 0, none⟩), .pointer (some ⟨c, 0, none⟩)] w (Drew (.int .u64 (cutF 0 32 x)) w) := by
  have HM := Lib.hid fun w => mask190_32 w
  have HC : Hid (bits .and .u64 (x) 4294967295 = cutF 0 32 x) := Lib.hid (by have := cut_and 0 32 (by decide) x h; rw [Int.pow_zero, Int.ediv_one] at this; exact this)
  clear h
  go_enter Tryz.func194, Tryz.ntmps194
  go_wp2_with fail
  go_quiet ((go_at_call 195; exact Calls.quiet_of_same (HM.out _)))
  go_wp2_with fail
  go_ret
  exact ⟨ret_int HC.out, _, rfl⟩
theorem cut189_32_7 (x : Int) (h : U64 x) (b c : Nat) (w : World) (hb : w.cell? ⟨b, 0, none⟩ = some (.int .i64 32)) (hc : w.cell? ⟨c, 0, none⟩ = some (.int .i64 7)) :
    Calls Tryz.prog 194 #[.int .u64 x, .pointer (some ⟨b, 0, none⟩), .pointer (some ⟨c, 0, none⟩)] w (Drew (.int .u64 (cutF 32 7 x)) w) := by
  have HM := Lib.hid fun w => mask190_7 w
  have HC : Hid (bits .and .u64 (x / 4294967296) 127 = cutF 32 7 x) := Lib.hid (by have := cut_and 32 7 (by decide) x h; exact this)
  clear h
  go_enter Tryz.func194, Tryz.ntmps194
  go_wp2_with fail
  go_quiet ((go_at_call 195; exact Calls.quiet_of_same (HM.out _)))
  go_wp2_with fail
  go_ret
  exact ⟨ret_int HC.out, _, rfl⟩
theorem cut189_32_32 (x : Int) (h : U64 x) (b c : Nat) (w : World) (hb : w.cell? ⟨b, 0, none⟩ = some (.int .i64 32)) (hc : w.cell? ⟨c, 0, none⟩ = some (.int .i64 32)) :
    Calls Tryz.prog 194 #[.int .u64 x, .pointer (some ⟨b, 0, none⟩), .pointer (some ⟨c, 0, none⟩)] w (Drew (.int .u64 (cutF 32 32 x)) w) := by
  have HM := Lib.hid fun w => mask190_32 w
  have HC : Hid (bits .and .u64 (x / 4294967296) 4294967295 = cutF 32 32 x) := Lib.hid (by have := cut_and 32 32 (by decide) x h; exact this)
  clear h
  go_enter Tryz.func194, Tryz.ntmps194
  go_wp2_with fail
  go_quiet ((go_at_call 195; exact Calls.quiet_of_same (HM.out _)))
  go_wp2_with fail
  go_ret
  exact ⟨ret_int HC.out, _, rfl⟩
theorem cut189_33_31 (x : Int) (h : U64 x) (b c : Nat) (w : World) (hb : w.cell? ⟨b, 0, none⟩ = some (.int .i64 33)) (hc : w.cell? ⟨c, 0, none⟩ = some (.int .i64 31)) :
    Calls Tryz.prog 194 #[.int .u64 x, .pointer (some ⟨b, 0, none⟩), .pointer (some ⟨c, 0, none⟩)] w (Drew (.int .u64 (cutF 33 31 x)) w) := by
  have HM := Lib.hid fun w => mask190_31 w
  have HC : Hid (bits .and .u64 (x / 8589934592) 2147483647 = cutF 33 31 x) := Lib.hid (by have := cut_and 33 31 (by decide) x h; exact this)
  clear h
  go_enter Tryz.func194, Tryz.ntmps194
  go_wp2_with fail
  go_quiet ((go_at_call 195; exact Calls.quiet_of_same (HM.out _)))
  go_wp2_with fail
  go_ret
  exact ⟨ret_int HC.out, _, rfl⟩
theorem cut189_32_1 (x : Int) (h : U64 x) (b c : Nat) (w : World) (hb : w.cell? ⟨b, 0, none⟩ = some (.int .i64 32)) (hc : w.cell? ⟨c, 0, none⟩ = some (.int .i64 1)) :
    Calls Tryz.prog 194 #[.int .u64 x, .pointer (some ⟨b, 0, none⟩), .pointer (some ⟨c, 0, none⟩)] w (Drew (.int .u64 (cutF 32 1 x)) w) := by
  have HM := Lib.hid fun w => mask190_1 w
  have HC : Hid (bits .and .u64 (x / 4294967296) 1 = cutF 32 1 x) := Lib.hid (by have := cut_and 32 1 (by decide) x h; exact this)
  clear h
  go_enter Tryz.func194, Tryz.ntmps194
  go_wp2_with fail
  go_quiet ((go_at_call 195; exact Calls.quiet_of_same (HM.out _)))
  go_wp2_with fail
  go_ret
  exact ⟨ret_int HC.out, _, rfl⟩
theorem put191_0_32 (x : Int) (h : U64 x) (b c : Nat) (w : World) (hb : w.cell? ⟨b, 0, none⟩ = some (.int .i64 0)) (hc : w.cell? ⟨c, 0, none⟩ = some (.int .i64 32)) :
    Calls Tryz.prog 196 #[.int .u64 x, .pointer (some ⟨c, 0, none⟩), .pointer (some ⟨b, 0, none⟩)] w (Drew (.int .u64 (putF 0 32 x)) w) := by
  have HM := Lib.hid fun w => mask190_32 w
  have HC : Hid (IntKind.u64.wrap (bits .and .u64 x 4294967295) = putF 0 32 x) := Lib.hid (by
    have := and_mask 32 (by decide) x h
    rw [show bits .and .u64 x 4294967295 = x % 2 ^ 32 from this]
    unfold putF; try rw [IntKind.wrap_u64]
    omega)
  clear h
  go_enter Tryz.func196, Tryz.ntmps196
  go_wp2_with fail
  go_quiet ((go_at_call 195; exact Calls.quiet_of_same (HM.out _)))
  go_wp2_with fail
  go_ret
  exact ⟨ret_int HC.out, _, rfl⟩
theorem put191_32_7 (x : Int) (h : U64 x) (b c : Nat) (w : World) (hb : w.cell? ⟨b, 0, none⟩ = some (.int .i64 32)) (hc : w.cell? ⟨c, 0, none⟩ = some (.int .i64 7)) :
    Calls Tryz.prog 196 #[.int .u64 x, .pointer (some ⟨c, 0, none⟩), .pointer (some ⟨b, 0, none⟩)] w (Drew (.int .u64 (putF 32 7 x)) w) := by
  have HM := Lib.hid fun w => mask190_7 w
  have HC : Hid (IntKind.u64.wrap (bits .and .u64 x 127 * 4294967296) = putF 32 7 x) := Lib.hid (by
    have := and_mask 7 (by decide) x h
    rw [show bits .and .u64 x 127 = x % 2 ^ 7 from this]
    unfold putF; try rw [IntKind.wrap_u64]
    omega)
  clear h
  go_enter Tryz.func196, Tryz.ntmps196
  go_wp2_with fail
  go_quiet ((go_at_call 195; exact Calls.quiet_of_same (HM.out _)))
  go_wp2_with fail
  go_ret
  exact ⟨ret_int HC.out, _, rfl⟩
theorem put191_32_32 (x : Int) (h : U64 x) (b c : Nat) (w : World) (hb : w.cell? ⟨b, 0, none⟩ = some (.int .i64 32)) (hc : w.cell? ⟨c, 0, none⟩ = some (.int .i64 32)) :
    Calls Tryz.prog 196 #[.int .u64 x, .pointer (some ⟨c, 0, none⟩), .pointer (some ⟨b, 0, none⟩)] w (Drew (.int .u64 (putF 32 32 x)) w) := by
  have HM := Lib.hid fun w => mask190_32 w
  have HC : Hid (IntKind.u64.wrap (bits .and .u64 x 4294967295 * 4294967296) = putF 32 32 x) := Lib.hid (by
    have := and_mask 32 (by decide) x h
    rw [show bits .and .u64 x 4294967295 = x % 2 ^ 32 from this]
    unfold putF; try rw [IntKind.wrap_u64]
    omega)
  clear h
  go_enter Tryz.func196, Tryz.ntmps196
  go_wp2_with fail
  go_quiet ((go_at_call 195; exact Calls.quiet_of_same (HM.out _)))
  go_wp2_with fail
  go_ret
  exact ⟨ret_int HC.out, _, rfl⟩
theorem put191_33_31 (x : Int) (h : U64 x) (b c : Nat) (w : World) (hb : w.cell? ⟨b, 0, none⟩ = some (.int .i64 33)) (hc : w.cell? ⟨c, 0, none⟩ = some (.int .i64 31)) :
    Calls Tryz.prog 196 #[.int .u64 x, .pointer (some ⟨c, 0, none⟩), .pointer (some ⟨b, 0, none⟩)] w (Drew (.int .u64 (putF 33 31 x)) w) := by
  have HM := Lib.hid fun w => mask190_31 w
  have HC : Hid (IntKind.u64.wrap (bits .and .u64 x 2147483647 * 8589934592) = putF 33 31 x) := Lib.hid (by
    have := and_mask 31 (by decide) x h
    rw [show bits .and .u64 x 2147483647 = x % 2 ^ 31 from this]
    unfold putF; try rw [IntKind.wrap_u64]
    omega)
  clear h
  go_enter Tryz.func196, Tryz.ntmps196
  go_wp2_with fail
  go_quiet ((go_at_call 195; exact Calls.quiet_of_same (HM.out _)))
  go_wp2_with fail
  go_ret
  exact ⟨ret_int HC.out, _, rfl⟩
theorem field105 (a n : Int) (w : World) : Calls Tryz.prog 143 #[.int .i64 a, .int .i64 n] w fun e w' =>
    e = .returned (.tuple #[.func (.func 194) #[] #[.pointer (some ⟨w.heap.size, 0, none⟩), .pointer (some ⟨w.heap.size + 1, 0, none⟩)], .func (.func 196) #[] #[.pointer (some ⟨w.heap.size + 1, 0, none⟩), .pointer (some ⟨w.heap.size, 0, none⟩)]]) ∧ w' = (w.alloc (.cells #[.int .i64 a] 3)).alloc (.cells #[.int .i64 n] 3) := by
  have hmf : ∀ (fn : Fn) (first cap : Array Value) (w : World), (Instr.makeFunc fn first cap).run Tryz.prog w = .ok (.func fn first cap) w := fun _ _ _ _ => rfl
  go_enter Tryz.func143, Tryz.ntmps143
  go_wp2_with fail
  go_ret2
  exact ⟨rfl, rfl⟩
theorem two_cells (w : World) (a n : Value) : ((w.alloc (.cells #[a] 3)).alloc (.cells #[n] 3)).cell? ⟨w.heap.size, 0, none⟩ = some a ∧ ((w.alloc (.cells #[a] 3)).alloc (.cells #[n] 3)).cell? ⟨w.heap.size + 1, 0, none⟩ = some n := by
  have h1 : ((w.alloc (.cells #[a] 3)).alloc (.cells #[n] 3)).heap[w.heap.size]? = some (.cells #[a] 3) := by
    rw [Below.heap_alloc _ _ _ (by simp)]; exact heap_alloc_new w _
  have h2 : ((w.alloc (.cells #[a] 3)).alloc (.cells #[n] 3)).heap[w.heap.size + 1]? = some (.cells #[n] 3) := by
    have := heap_alloc_new (w.alloc (.cells #[a] 3)) (.cells #[n] 3); simpa using this
  exact ⟨cell_of_row _ _ 0 _ _ _ h1, cell_of_row _ _ 0 _ _ _ h2⟩
theorem drewN_below {B : Nat} {W w : World} (h : Below B W w) (n : Nat) : Below B W (w.drewN n) := ⟨h.os, h.tape, h.output, h.size, h.block⟩
theorem below_2 (w : World) (a b : Obj) : Below w.heap.size w ((w.alloc a).alloc b) := ((Below.refl _ _).alloc (Nat.le_refl _) _).alloc (by simp) _
theorem below_4 (w : World) (a b c d : Obj) : Below w.heap.size w ((((w.alloc a).alloc b).alloc c).alloc d) := ((((Below.refl _ _).alloc (Nat.le_refl _) _).alloc (by simp) _).alloc (by simp; omega) _).alloc (by simp; omega) _
theorem four_cells (w : World) (a n b m : Value) : let W := ((((w.alloc (.cells #[a] 3)).alloc (.cells #[n] 3)).alloc (.cells #[b] 3)).alloc (.cells #[m] 3))
    W.cell? ⟨w.heap.size, 0, none⟩ = some a ∧ W.cell? ⟨w.heap.size + 1, 0, none⟩ = some n ∧ W.cell? ⟨w.heap.size + 1 + 1, 0, none⟩ = some b ∧ W.cell? ⟨w.heap.size + 1 + 1 + 1, 0, none⟩ = some m := by
  intro W
  have h1 := two_cells w a n
  have h2 := two_cells ((w.alloc (.cells #[a] 3)).alloc (.cells #[n] 3)) b m
  have hb : Below (w.heap.size + 1 + 1) ((w.alloc (.cells #[a] 3)).alloc (.cells #[n] 3)) W := ((Below.refl _ _).alloc (by simp) _).alloc (by simp) _
  have s2 : ((w.alloc (.cells #[a] 3)).alloc (.cells #[n] 3)).heap.size = w.heap.size + 1 + 1 := by simp
  rw [s2] at h2
  exact ⟨(hb.cell (p := ⟨w.heap.size, 0, none⟩) (by simp; omega)).trans h1.1, (hb.cell (p := ⟨w.heap.size + 1, 0, none⟩) (by simp)).trans h1.2, h2.1, h2.2⟩

theorem to136 (x : Int) (h : U64 x) (w : World) : Calls Tryz.prog 114 #[.int .u64 x] w (Gives (.int .i64 (toW x)) w) := by
  have HF := Lib.hid fun w => field105 0 32 w
  have HC := Lib.hid fun b c w => cut189_0_32 x h b c w
  have c0 := cutF_0 0 32 x
  have c1 : cutF 0 32 x < 4294967296 := cutF_lt 0 32 x
  have HT : Hid (toW x = cutF 0 32 x - 1) := Lib.hid (by first | rfl | trivial)
  clear h
  generalize cutF 0 32 x = y at *
  go_enter Tryz.func114, Tryz.ntmps114
  go_wp2_with fail
  refine (HF.out _).mono ?_
  rintro e w1 ⟨rfl, rfl⟩
  have HZ := Lib.hid (two_cells w (.int .i64 0) (.int .i64 32))
  go_wp2_with fail
  refine (HC.out _ _ _ HZ.out.1 HZ.out.2).mono ?_
  rintro e w1 ⟨rfl, n, rfl⟩
  go_wp2_with fail
  go_ret
  exact ⟨ret_int (by rw [HT.out]; omega), drewN_below (below_2 _ _ _) _⟩
theorem by95 (x : Int) (h : U64 x) (w : World) : Calls Tryz.prog 117 #[.int .u64 x] w (Gives (.int .i64 (byW x)) w) := by
  have HF := Lib.hid fun w => field105 32 7 w
  have HC := Lib.hid fun b c w => cut189_32_7 x h b c w
  have c0 := cutF_0 32 7 x
  have c1 : cutF 32 7 x < 128 := cutF_lt 32 7 x
  have HT : Hid (byW x = cutF 32 7 x - 1) := Lib.hid (by first | rfl | trivial)
  clear h
  generalize cutF 32 7 x = y at *
  go_enter Tryz.func117, Tryz.ntmps117
  go_wp2_with fail
  refine (HF.out _).mono ?_
  rintro e w1 ⟨rfl, rfl⟩
  have HZ := Lib.hid (two_cells w (.int .i64 32) (.int .i64 7))
  go_wp2_with fail
  refine (HC.out _ _ _ HZ.out.1 HZ.out.2).mono ?_
  rintro e w1 ⟨rfl, n, rfl⟩
  go_wp2_with fail
  go_ret
  exact ⟨ret_int (by rw [HT.out]; omega), drewN_below (below_2 _ _ _) _⟩
theorem stamp330 (x : Int) (h : U64 x) (w : World) : Calls Tryz.prog 418 #[.int .u64 x] w (Gives (.int .i64 (stampW x)) w) := by
  have HF := Lib.hid fun w => field105 32 32 w
  have HC := Lib.hid fun b c w => cut189_32_32 x h b c w
  have c0 := cutF_0 32 32 x
  have c1 : cutF 32 32 x < 4294967296 := cutF_lt 32 32 x
  have HT : Hid (stampW x = cutF 32 32 x - 1) := Lib.hid (by first | rfl | trivial)
  clear h
  generalize cutF 32 32 x = y at *
  go_enter Tryz.func418, Tryz.ntmps418
  go_wp2_with fail
  refine (HF.out _).mono ?_
  rintro e w1 ⟨rfl, rfl⟩
  have HZ := Lib.hid (two_cells w (.int .i64 32) (.int .i64 32))
  go_wp2_with fail
  refine (HC.out _ _ _ HZ.out.1 HZ.out.2).mono ?_
  rintro e w1 ⟨rfl, n, rfl⟩
  go_wp2_with fail
  go_ret
  exact ⟨ret_int (by rw [HT.out]; omega), drewN_below (below_2 _ _ _) _⟩
theorem seq171 (x : Int) (h : U64 x) (w : World) : Calls Tryz.prog 319 #[.int .u64 x] w (Gives (.int .i64 (cutF 33 31 x)) w) := by
  have HF := Lib.hid fun w => field105 33 31 w
  have HC := Lib.hid fun b c w => cut189_33_31 x h b c w
  have c0 := cutF_0 33 31 x
  have c1 : cutF 33 31 x < 2147483648 := cutF_lt 33 31 x
  have HT : Hid (True) := Lib.hid (by first | rfl | trivial)
  clear h
  generalize cutF 33 31 x = y at *
  go_enter Tryz.func319, Tryz.ntmps319
  go_wp2_with fail
  refine (HF.out _).mono ?_
  rintro e w1 ⟨rfl, rfl⟩
  have HZ := Lib.hid (two_cells w (.int .i64 33) (.int .i64 31))
  go_wp2_with fail
  refine (HC.out _ _ _ HZ.out.1 HZ.out.2).mono ?_
  rintro e w1 ⟨rfl, n, rfl⟩
  go_wp2_with fail
  go_ret
  exact ⟨rfl, drewN_below (below_2 _ _ _) _⟩
theorem done174 (x : Int) (h : U64 x) (w : World) : Calls Tryz.prog 315 #[.int .u64 x] w (Gives (.bool (cutF 32 1 x == 1)) w) := by
  have HF := Lib.hid fun w => field105 32 1 w
  have HC := Lib.hid fun b c w => cut189_32_1 x h b c w
  have c0 := cutF_0 32 1 x
  have c1 : cutF 32 1 x < 2 := cutF_lt 32 1 x
  have HT : Hid (True) := Lib.hid (by first | rfl | trivial)
  clear h
  generalize cutF 32 1 x = y at *
  go_enter Tryz.func315, Tryz.ntmps315
  go_wp2_with fail
  refine (HF.out _).mono ?_
  rintro e w1 ⟨rfl, rfl⟩
  have HZ := Lib.hid (two_cells w (.int .i64 32) (.int .i64 1))
  go_wp2_with fail
  refine (HC.out _ _ _ HZ.out.1 HZ.out.2).mono ?_
  rintro e w1 ⟨rfl, n, rfl⟩
  go_wp2_with fail
  go_ret
  exact ⟨rfl, drewN_below (below_2 _ _ _) _⟩
theorem val173 (x : Int) (h : U64 x) (w : World) : Calls Tryz.prog 288 #[.int .u64 x] w (Says (.int .u32 (valW x)) w) := by
  have HC : Hid (IntKind.u32.wrap x = valW x) := Lib.hid (by rw [IntKind.wrap_u32]; rfl)
  clear h
  go_enter Tryz.func288, Tryz.ntmps288
  go_wp2_with fail
  go_ret
  exact ⟨ret_int HC.out, rfl⟩
theorem ver331 (x : Int) (h : U64 x) (w : World) : Calls Tryz.prog 355 #[.int .u64 x] w (Says (.int .u32 (verW x)) w) := by
  have HC : Hid (IntKind.u32.wrap (x / 4294967296) = verW x) := Lib.hid (by rw [IntKind.wrap_u32]; have := h.1; have := h.2; unfold verW; omega)
  clear h
  go_enter Tryz.func355, Tryz.ntmps355
  go_wp2_with fail
  go_ret
  exact ⟨ret_int HC.out, rfl⟩
theorem dirty299 (x : Int) (w : World) : Calls Tryz.prog 346 #[.int .u64 x] w (Says (.bool (dirtyB x)) w) := by
  have HC : Hid ((x / 9223372036854775808 == 1) = dirtyB x) := Lib.hid rfl
  go_enter Tryz.func346, Tryz.ntmps346
  go_wp2_with fail
  go_ret
  exact ⟨ret_bool HC.out, rfl⟩
theorem clean225 (x : Int) (h : U64 x) (w : World) : Calls Tryz.prog 221 #[.int .u64 x] w (Says (.int .u64 (cleanW x)) w) := by
  have HC := Lib.hid (clean_and x h)
  clear h
  go_enter Tryz.func221, Tryz.ntmps221
  go_wp2_with fail
  go_ret
  exact ⟨ret_int HC.out, rfl⟩
theorem soil267 (x : Int) (h : U64 x) (w : World) : Calls Tryz.prog 383 #[.int .u64 x] w (Says (.int .u64 (soilW x)) w) := by
  have HC := Lib.hid (soil_or x h)
  clear h
  go_enter Tryz.func383, Tryz.ntmps383
  go_wp2_with fail
  go_ret
  exact ⟨ret_int HC.out, rfl⟩
theorem more154 (n : Int) (w : World) : Calls Tryz.prog 144 #[.int .i64 n] w (Says (.int .u64 (moreW n)) w) := by
  have HC := Lib.hid (more_walk n)
  go_enter Tryz.func144, Tryz.ntmps144
  go_wp2_with fail
  go_ret
  exact ⟨ret_int HC.out, rfl⟩
theorem link90 (t b : Int) (w : World) : Calls Tryz.prog 74 #[.int .i64 t, .int .i64 b] w (Gives (.int .u64 (linkW t b)) w) := by
  have HF := Lib.hid fun a n w => field105 a n w
  have HM := Lib.hid fun n w => more154 n w
  have HC := Lib.hid fun b c w => put191_0_32 (moreW t) (moreW_u64 t) b c w
  have HD := Lib.hid fun d c w => put191_32_7 (moreW b) (moreW_u64 b) d c w
  have HO := Lib.hid (link_or t b)
  generalize putF 0 32 (moreW t) = y at *
  generalize putF 32 7 (moreW b) = z at *
  generalize linkW t b = r at *
  go_enter Tryz.func74, Tryz.ntmps74
  go_wp2_with fail
  refine (HF.out _ _ _).mono ?_
  rintro e w1 ⟨rfl, rfl⟩
  go_wp2_with fail
  refine (HF.out _ _ _).mono ?_
  rintro e w1 ⟨rfl, rfl⟩
  go_wp2_with fail
  refine (HM.out _ _).mono ?_
  rintro e w1 ⟨rfl, rfl⟩
  have HZ := Lib.hid (four_cells w (.int .i64 0) (.int .i64 32) (.int .i64 32) (.int .i64 7))
  go_wp2_with fail
  refine (HC.out _ _ _ HZ.out.1 HZ.out.2.1).mono ?_
  rintro e w1 ⟨rfl, n, rfl⟩
  go_wp2_with fail
  refine (HM.out _ _).mono ?_
  rintro e w1 ⟨rfl, rfl⟩
  go_wp2_with fail
  refine (HD.out _ _ _ (by exact HZ.out.2.2.1) (by exact HZ.out.2.2.2)).mono ?_
  rintro e w1 ⟨rfl, m, rfl⟩
  go_wp2_with fail
  go_ret
  exact ⟨ret_int HO.out, drewN_below (below_4 _ _ _ _ _) _⟩
theorem entry254 (t b : Int) (w : World) : Calls Tryz.prog 388 #[.int .i64 t, .int .i64 b] w (Gives (.int .u64 (entryW t b)) w) := by
  have HF := Lib.hid fun a n w => field105 a n w
  have HM := Lib.hid fun n w => more154 n w
  have HC := Lib.hid fun b c w => put191_0_32 (moreW t) (moreW_u64 t) b c w
  have HD := Lib.hid fun d c w => put191_32_32 (moreW b) (moreW_u64 b) d c w
  have HO := Lib.hid (entry_or t b)
  generalize putF 0 32 (moreW t) = y at *
  generalize putF 32 32 (moreW b) = z at *
  generalize entryW t b = r at *
  go_enter Tryz.func388, Tryz.ntmps388
  go_wp2_with fail
  refine (HF.out _ _ _).mono ?_
  rintro e w1 ⟨rfl, rfl⟩
  go_wp2_with fail
  refine (HF.out _ _ _).mono ?_
  rintro e w1 ⟨rfl, rfl⟩
  go_wp2_with fail
  refine (HM.out _ _).mono ?_
  rintro e w1 ⟨rfl, rfl⟩
  have HZ := Lib.hid (four_cells w (.int .i64 0) (.int .i64 32) (.int .i64 32) (.int .i64 32))
  go_wp2_with fail
  refine (HC.out _ _ _ HZ.out.1 HZ.out.2.1).mono ?_
  rintro e w1 ⟨rfl, n, rfl⟩
  go_wp2_with fail
  refine (HM.out _ _).mono ?_
  rintro e w1 ⟨rfl, rfl⟩
  go_wp2_with fail
  refine (HD.out _ _ _ (by exact HZ.out.2.2.1) (by exact HZ.out.2.2.2)).mono ?_
  rintro e w1 ⟨rfl, m, rfl⟩
  go_wp2_with fail
  go_ret
  exact ⟨ret_int HO.out, drewN_below (below_4 _ _ _ _ _) _⟩
theorem top305 (t v : Int) (h0 : 0 ≤ v) (h1 : v < 4294967296) (w : World) : Calls Tryz.prog 353 #[.int .i64 t, .int .u32 v] w (Gives (.int .u64 (topW t v)) w) := by
  have HF := Lib.hid fun a n w => field105 a n w
  have HM := Lib.hid fun n w => more154 n w
  have HC := Lib.hid fun b c w => put191_0_32 (moreW t) (moreW_u64 t) b c w
  have HO := Lib.hid (top_or t v h0 h1)
  generalize putF 0 32 (moreW t) = y at *
  generalize topW t v = r at *
  go_enter Tryz.func353, Tryz.ntmps353
  go_wp2_with fail
  refine (HF.out _ _ _).mono ?_
  rintro e w1 ⟨rfl, rfl⟩
  go_wp2_with fail
  refine (HM.out _ _).mono ?_
  rintro e w1 ⟨rfl, rfl⟩
  have HZ := Lib.hid (two_cells w (.int .i64 0) (.int .i64 32))
  go_wp2_with fail
  refine (HC.out _ _ _ HZ.out.1 HZ.out.2).mono ?_
  rintro e w1 ⟨rfl, n, rfl⟩
  go_wp2_with fail
  go_ret
  exact ⟨ret_int HO.out, drewN_below (below_2 _ _ _) _⟩
theorem cell_or0 (q v : Int) (h0 : 0 ≤ v) (h1 : v < 4294967296) : bits .or .u64 (putF 33 31 q) v = cellW q false v ∧ bits .or .u64 (cellW q false v) 4294967296 = cellW q true v := by
  have u1 : U64 (putF 33 31 q) := by unfold putF U64; omega
  have u2 : U64 v := by unfold U64; omega
  have e1 : bits .or .u64 (putF 33 31 q) v = putF 33 31 q + v := join_u64 32 _ _ (by unfold putF; omega) u1 h0 h1 u2
  have e2 : bits .or .u64 (4294967296 : Int) v = 4294967296 + v := join_u64 32 _ _ (by decide) ⟨by decide, by decide⟩ h0 h1 u2
  refine ⟨by rw [e1]; simp [cellW], ?_⟩
  have e3 : cellW q false v = putF 33 31 q + v := by simp [cellW]
  rw [e3]
  have h3 : bits .or .u64 (putF 33 31 q) (4294967296 + v) = putF 33 31 q + (4294967296 + v) := join_u64 33 _ _ (by unfold putF; omega) u1 (by omega) (by omega) (by unfold U64; omega)
  obtain ⟨a, ha⟩ := Int.eq_ofNat_of_zero_le u1.1
  obtain ⟨b, rfl⟩ := Int.eq_ofNat_of_zero_le h0
  have ub := u1.2
  have o1 := bits_or_u64_nat a b (by omega) (by omega)
  have o2 := bits_or_u64_nat 4294967296 b (by decide) (by omega)
  have o3 := bits_or_u64_nat a (4294967296 + b) (by omega) (by omega)
  have o4 := bits_or_u64_nat (a + b) 4294967296 (by unfold putF at *; omega) (by decide)
  rw [ha] at e1 h3 ⊢
  have i1 : (a : Int) + b = ((a ||| b : Nat) : Int) := e1.symm.trans o1
  have i2 : (4294967296 : Int) + b = ((4294967296 ||| b : Nat) : Int) := e2.symm.trans o2
  have c1 : ((4294967296 + b : Nat) : Int) = 4294967296 + (b : Int) := by omega
  have c2 : ((a + b : Nat) : Int) = (a : Int) + (b : Int) := by omega
  rw [c1] at o3
  rw [c2] at o4
  have i3 : (a : Int) + (4294967296 + b) = ((a ||| (4294967296 + b) : Nat) : Int) := h3.symm.trans o3
  have n1 : a + b = a ||| b := by omega
  have n2 : 4294967296 + b = 4294967296 ||| b := by omega
  have n3 : a + (4294967296 + b) = a ||| (4294967296 + b) := by omega
  refine o4.trans ?_
  have n4 : (a + b) ||| 4294967296 = a + (4294967296 + b) := by rw [n3, n2, n1, Nat.or_assoc, Nat.or_comm b]
  rw [n4]
  have : cellW q true b = putF 33 31 q + 4294967296 + b := rfl
  rw [this, ha]; omega
theorem cell46 (q v : Int) (d : Bool) (h0 : 0 ≤ v) (h1 : v < 4294967296) (w : World) : Calls Tryz.prog 318 #[.int .i64 q, .bool d, .int .u32 v] w (Gives (.int .u64 (cellW q d v)) w) := by
  have HF := Lib.hid fun a n w => field105 a n w
  have u1 : U64 (IntKind.u64.wrap q) := by rw [IntKind.wrap_u64]; unfold U64; omega
  have e1 : putF 33 31 (IntKind.u64.wrap q) = putF 33 31 q := by rw [IntKind.wrap_u64]; unfold putF; omega
  have HC := Lib.hid fun b c w => put191_33_31 (IntKind.u64.wrap q) u1 b c w
  have HO := Lib.hid (cell_or0 q v h0 h1)
  have HV : Hid (IntKind.u64.wrap v = v) := Lib.hid (by rw [IntKind.wrap_u64]; omega)
  rw [e1] at HC
  clear u1 e1
  generalize putF 33 31 q = y at *
  have HE : Hid (cellW q false v = cellW q false v) := Lib.hid rfl
  generalize hr : cellW q false v = r at *
  generalize hr2 : cellW q true v = r2 at *
  have HR : Hid (cellW q d v = if d then r2 else r) := Lib.hid (by cases d; exact hr; exact hr2)
  clear hr2 hr
  generalize cellW q d v = res at *
  cases d
  all_goals
    go_enter Tryz.func318, Tryz.ntmps318
    go_wp2_with fail
    refine (HF.out _ _ _).mono ?_
    rintro e w1 ⟨rfl, rfl⟩
    have HZ := Lib.hid (two_cells w (.int .i64 33) (.int .i64 31))
    go_wp2_with fail
    refine (HC.out _ _ _ HZ.out.1 HZ.out.2).mono ?_
    rintro e w1 ⟨rfl, n, rfl⟩
    go_wp2_with fail
    go_ret
    refine ⟨ret_int ?_, drewN_below (below_2 _ _ _) _⟩
    first | exact HO.out.1.trans HR.out.symm | (rw [HO.out.1]; exact HO.out.2.trans HR.out.symm)
theorem right224 (x s t : Int) (h : U64 x) (w : World) : Calls Tryz.prog 220 #[.int .u64 x, .int .i64 s, .int .i64 t] w (Gives (.bool (rightW x s t)) w) := by
  have HT := Lib.hid fun w => to136 x h w
  have HB := Lib.hid fun w => by95 x h w
  have HC := Lib.hid fun w => clean225 x h w
  have HL := Lib.hid fun w => link90 (toW x) (byW x) w
  have HR : Hid (rightW x s t = (linkW (toW x) (byW x) == cleanW x && decide (toW x < s) && decide (byW x < t))) := Lib.hid rfl
  clear h
  generalize linkW (toW x) (byW x) = l at *
  generalize rightW x s t = r at *
  generalize toW x = a at *
  generalize byW x = b at *
  generalize cleanW x = c at *
  by_cases h1 : l = c
  · have e1 : (l == c) = true := beq_iff_eq.2 h1
    have HE := Lib.hid e1
    by_cases h2 : a < s
    · have d2 : decide (a < s) = true := bool_yes h2
      have HD := Lib.hid d2
      clear h1
      go_enter Tryz.func220, Tryz.ntmps220
      go_wp2_with fail
      refine (HT.out _).mono ?_
      rintro e w1 ⟨rfl, hb⟩
      have HB1 := Lib.hid hb
      clear hb
      go_wp2_with fail
      refine (HB.out _).mono ?_
      rintro e w2 ⟨rfl, hb⟩
      have HB2 := Lib.hid (HB1.out.trans (hb.mono HB1.out.size))
      clear hb HB1
      go_wp2_with fail
      refine (HL.out _).mono ?_
      rintro e w3 ⟨rfl, hb⟩
      have HB3 := Lib.hid (HB2.out.trans (hb.mono HB2.out.size))
      clear hb HB2
      go_wp2_with fail
      refine (HC.out _).mono ?_
      rintro e w4 ⟨rfl, rfl⟩
      go_wp2_with fail
      refine (HT.out _).mono ?_
      rintro e w5 ⟨rfl, hb⟩
      have HB5 := Lib.hid (HB3.out.trans (hb.mono HB3.out.size))
      clear hb
      go_wp2_with fail
      refine (HB.out _).mono ?_
      rintro e w6 ⟨rfl, hb⟩
      have HB6 := Lib.hid (HB5.out.trans (hb.mono HB5.out.size))
      clear hb
      go_wp2_with fail
      go_ret
      exact ⟨ret_bool (by rw [HR.out, HE.out, HD.out]; rfl), HB6.out⟩
    · have d2 : decide (a < s) = false := bool_no h2
      have HD := Lib.hid d2
      clear h1
      go_enter Tryz.func220, Tryz.ntmps220
      go_wp2_with fail
      refine (HT.out _).mono ?_
      rintro e w1 ⟨rfl, hb⟩
      have HB1 := Lib.hid hb
      clear hb
      go_wp2_with fail
      refine (HB.out _).mono ?_
      rintro e w2 ⟨rfl, hb⟩
      have HB2 := Lib.hid (HB1.out.trans (hb.mono HB1.out.size))
      clear hb HB1
      go_wp2_with fail
      refine (HL.out _).mono ?_
      rintro e w3 ⟨rfl, hb⟩
      have HB3 := Lib.hid (HB2.out.trans (hb.mono HB2.out.size))
      clear hb HB2
      go_wp2_with fail
      refine (HC.out _).mono ?_
      rintro e w4 ⟨rfl, rfl⟩
      go_wp2_with fail
      refine (HT.out _).mono ?_
      rintro e w5 ⟨rfl, hb⟩
      have HB5 := Lib.hid (HB3.out.trans (hb.mono HB3.out.size))
      clear hb
      go_wp2_with fail
      go_ret
      exact ⟨ret_bool (by rw [HR.out, HE.out, HD.out]; simp), HB5.out⟩
  · have e1 : (l == c) = false := beq_eq_false_iff_ne.2 h1
    have HE := Lib.hid e1
    clear h1
    go_enter Tryz.func220, Tryz.ntmps220
    go_wp2_with fail
    refine (HT.out _).mono ?_
    rintro e w1 ⟨rfl, hb⟩
    have HB1 := Lib.hid hb
    clear hb
    go_wp2_with fail
    refine (HB.out _).mono ?_
    rintro e w2 ⟨rfl, hb⟩
    have HB2 := Lib.hid (HB1.out.trans (hb.mono HB1.out.size))
    clear hb HB1
    go_wp2_with fail
    refine (HL.out _).mono ?_
    rintro e w3 ⟨rfl, hb⟩
    have HB3 := Lib.hid (HB2.out.trans (hb.mono HB2.out.size))
    clear hb HB2
    go_wp2_with fail
    refine (HC.out _).mono ?_
    rintro e w4 ⟨rfl, rfl⟩
    go_wp2_with fail
    go_ret
    exact ⟨ret_bool (by rw [HR.out, HE.out]; rfl), HB3.out⟩
end Go.Proofs.YtkdcfijebgeajaaGreat

namespace Go.Proofs.YtkdcfijebgeajaaGreat
open Go.RowKit Go.BigFrame
set_option linter.unusedVariables false
set_option linter.unusedSimpArgs false

/-- A config. -/
structure Cfg where
  th : Int
  sl : Int
  lo : Int
  bu : Int
def Cfg.cells (c : Cfg) : Array Value := #[.int .i64 c.th, .int .i64 c.sl, .int .i64 c.lo, .int .i64 c.bu]
def Cfg.right (c : Cfg) : Prop := 1 ≤ c.th ∧ c.th ≤ 64 ∧ 1 ≤ c.sl ∧ c.sl ≤ 65536 ∧ 1 ≤ c.lo ∧ c.lo ≤ 64 ∧ 1 ≤ c.bu ∧ c.bu ≤ 64
instance (c : Cfg) : Decidable c.right := by unfold Cfg.right; infer_instance
def Cfg.few (c : Cfg) : Prop := c.right ∧ c.th ≤ 6 ∧ c.sl ≤ 30 ∧ c.lo ≤ 8 ∧ c.bu ≤ 8
instance (c : Cfg) : Decidable c.few := by unfold Cfg.few; infer_instance
def BoolOn (r : Bool) (w : World) (e : Ending) (w' : World) : Prop := e = .returned (.bool r) ∧ Below w.heap.size w w'

theorem from153 (n m : Int) (w : World) : Calls Tryz.prog 150 #[.int .i64 n, .int .i64 m] w fun e w' => e = .returned (.bool (decide (1 ≤ n ∧ n ≤ m))) ∧ w' = w := by
  by_cases h : 1 ≤ n
  · have d1 : decide (1 ≤ n) = true := bool_yes h
    have e : decide (1 ≤ n ∧ n ≤ m) = decide (n ≤ m) := by simp [h]
    rw [e]
    go_enter Tryz.func150, Tryz.ntmps150
    go_wp2
    all_goals
      go_ret
      exact ⟨by simp_all, rfl⟩
  · have d1 : decide (1 ≤ n) = false := bool_no h
    have e : decide (1 ≤ n ∧ n ≤ m) = false := bool_no (fun k => h k.1)
    rw [e]
    go_enter Tryz.func150, Tryz.ntmps150
    go_wp2
    go_ret
    exact ⟨rfl, rfl⟩

theorem refRight_any (c : Cfg) (w : World) : Calls Tryz.prog 24 #[.agg c.cells] w (BoolOn (decide c.right) w) := by
  obtain ⟨th, sl, lo, bu⟩ := c
  obtain ⟨r, hr⟩ : ∃ r, r = decide (Cfg.right ⟨th, sl, lo, bu⟩) := ⟨_, rfl⟩
  rw [← hr]
  have HR : Hid (r = decide (1 ≤ th ∧ th ≤ 64 ∧ 1 ≤ sl ∧ sl ≤ 65536 ∧ 1 ≤ lo ∧ lo ≤ 64 ∧ 1 ≤ bu ∧ bu ≤ 64)) := Lib.hid hr
  clear hr
  simp only [Cfg.cells]
  by_cases h0 : 1 ≤ th
  rotate_left
  · have d0 : decide (1 ≤ th) = false := bool_no h0
    have HV : Hid (r = false) := Lib.hid (by rw [HR.out]; exact bool_no (by omega))
    clear HR
    go_enter Tryz.func24, Tryz.ntmps24
    go_wp2_with fail
    go_ret
    exact ⟨by rw [HV.out]; rfl, (Below.refl _ _).alloc (Nat.le_refl _) _⟩
  have d0 : decide (1 ≤ th) = true := bool_yes h0
  by_cases h1 : th ≤ 64
  rotate_left
  · have d1 : decide (th ≤ 64) = false := bool_no h1
    have HV : Hid (r = false) := Lib.hid (by rw [HR.out]; exact bool_no (by omega))
    clear HR
    go_enter Tryz.func24, Tryz.ntmps24
    go_wp2_with fail
    go_ret
    exact ⟨by rw [HV.out]; rfl, (Below.refl _ _).alloc (Nat.le_refl _) _⟩
  have d1 : decide (th ≤ 64) = true := bool_yes h1
  by_cases h2 : 1 ≤ sl
  rotate_left
  · have d2 : decide (1 ≤ sl) = false := bool_no h2
    have HV : Hid (r = false) := Lib.hid (by rw [HR.out]; exact bool_no (by omega))
    clear HR
    go_enter Tryz.func24, Tryz.ntmps24
    go_wp2_with fail
    go_ret
    exact ⟨by rw [HV.out]; rfl, (Below.refl _ _).alloc (Nat.le_refl _) _⟩
  have d2 : decide (1 ≤ sl) = true := bool_yes h2
  by_cases h3 : sl ≤ 65536
  rotate_left
  · have d3 : decide (sl ≤ 65536) = false := bool_no h3
    have HV : Hid (r = false) := Lib.hid (by rw [HR.out]; exact bool_no (by omega))
    clear HR
    go_enter Tryz.func24, Tryz.ntmps24
    go_wp2_with fail
    go_ret
    exact ⟨by rw [HV.out]; rfl, (Below.refl _ _).alloc (Nat.le_refl _) _⟩
  have d3 : decide (sl ≤ 65536) = true := bool_yes h3
  by_cases h4 : 1 ≤ lo
  rotate_left
  · have d4 : decide (1 ≤ lo) = false := bool_no h4
    have HV : Hid (r = false) := Lib.hid (by rw [HR.out]; exact bool_no (by omega))
    clear HR
    go_enter Tryz.func24, Tryz.ntmps24
    go_wp2_with fail
    go_ret
    exact ⟨by rw [HV.out]; rfl, (Below.refl _ _).alloc (Nat.le_refl _) _⟩
  have d4 : decide (1 ≤ lo) = true := bool_yes h4
  by_cases h5 : lo ≤ 64
  rotate_left
  · have d5 : decide (lo ≤ 64) = false := bool_no h5
    have HV : Hid (r = false) := Lib.hid (by rw [HR.out]; exact bool_no (by omega))
    clear HR
    go_enter Tryz.func24, Tryz.ntmps24
    go_wp2_with fail
    go_ret
    exact ⟨by rw [HV.out]; rfl, (Below.refl _ _).alloc (Nat.le_refl _) _⟩
  have d5 : decide (lo ≤ 64) = true := bool_yes h5
  by_cases h6 : 1 ≤ bu
  rotate_left
  · have d6 : decide (1 ≤ bu) = false := bool_no h6
    have HV : Hid (r = false) := Lib.hid (by rw [HR.out]; exact bool_no (by omega))
    clear HR
    go_enter Tryz.func24, Tryz.ntmps24
    go_wp2_with fail
    go_ret
    exact ⟨by rw [HV.out]; rfl, (Below.refl _ _).alloc (Nat.le_refl _) _⟩
  have d6 : decide (1 ≤ bu) = true := bool_yes h6
  by_cases h7 : bu ≤ 64
  rotate_left
  · have d7 : decide (bu ≤ 64) = false := bool_no h7
    have HV : Hid (r = false) := Lib.hid (by rw [HR.out]; exact bool_no (by omega))
    clear HR
    go_enter Tryz.func24, Tryz.ntmps24
    go_wp2_with fail
    go_ret
    exact ⟨by rw [HV.out]; rfl, (Below.refl _ _).alloc (Nat.le_refl _) _⟩
  have d7 : decide (bu ≤ 64) = true := bool_yes h7
  have HV : Hid (r = true) := Lib.hid (by rw [HR.out]; exact bool_yes (by omega))
  clear HR
  go_enter Tryz.func24, Tryz.ntmps24
  go_wp2_with fail
  go_ret
  exact ⟨by rw [HV.out]; rfl, (Below.refl _ _).alloc (Nat.le_refl _) _⟩

theorem right_any (c : Cfg) (w : World) : Calls Tryz.prog 85 #[.agg c.cells] w (BoolOn (decide c.right) w) := by
  obtain ⟨th, sl, lo, bu⟩ := c
  obtain ⟨r, hr⟩ : ∃ r, r = decide (Cfg.right ⟨th, sl, lo, bu⟩) := ⟨_, rfl⟩
  rw [← hr]
  have HR : Hid (r = decide (1 ≤ th ∧ th ≤ 64 ∧ 1 ≤ sl ∧ sl ≤ 65536 ∧ 1 ≤ lo ∧ lo ≤ 64 ∧ 1 ≤ bu ∧ bu ≤ 64)) := Lib.hid hr
  clear hr
  simp only [Cfg.cells]
  by_cases h0 : 1 ≤ th ∧ th ≤ 64
  rotate_left
  · have HF0 : Hid (∀ w, Calls Tryz.prog 150 #[.int .i64 th, .int .i64 64] w fun e w' => e = .returned (.bool false) ∧ w' = w) := Lib.hid fun w => by rw [← bool_no h0]; exact from153 _ _ w
    have HV : Hid (r = false) := Lib.hid (by rw [HR.out]; exact bool_no (by omega))
    clear HR
    go_enter Tryz.func85, Tryz.ntmps85
    go_wp2_with (go_at_call 150; (with_reducible first | refine (HF0.out _).mono ?_); rintro e w' ⟨rfl, rfl⟩)
    go_ret
    exact ⟨by rw [HV.out]; rfl, (Below.refl _ _).alloc (Nat.le_refl _) _⟩
  have HF0 : Hid (∀ w, Calls Tryz.prog 150 #[.int .i64 th, .int .i64 64] w fun e w' => e = .returned (.bool true) ∧ w' = w) := Lib.hid fun w => by rw [← bool_yes h0]; exact from153 _ _ w
  by_cases h1 : 1 ≤ sl ∧ sl ≤ 65536
  rotate_left
  · have HF1 : Hid (∀ w, Calls Tryz.prog 150 #[.int .i64 sl, .int .i64 65536] w fun e w' => e = .returned (.bool false) ∧ w' = w) := Lib.hid fun w => by rw [← bool_no h1]; exact from153 _ _ w
    have HV : Hid (r = false) := Lib.hid (by rw [HR.out]; exact bool_no (by omega))
    clear HR
    go_enter Tryz.func85, Tryz.ntmps85
    go_wp2_with (go_at_call 150; (with_reducible first | refine (HF0.out _).mono ?_ | refine (HF1.out _).mono ?_); rintro e w' ⟨rfl, rfl⟩)
    go_ret
    exact ⟨by rw [HV.out]; rfl, (Below.refl _ _).alloc (Nat.le_refl _) _⟩
  have HF1 : Hid (∀ w, Calls Tryz.prog 150 #[.int .i64 sl, .int .i64 65536] w fun e w' => e = .returned (.bool true) ∧ w' = w) := Lib.hid fun w => by rw [← bool_yes h1]; exact from153 _ _ w
  by_cases h2 : 1 ≤ lo ∧ lo ≤ 64
  rotate_left
  · have HF2 : Hid (∀ w, Calls Tryz.prog 150 #[.int .i64 lo, .int .i64 64] w fun e w' => e = .returned (.bool false) ∧ w' = w) := Lib.hid fun w => by rw [← bool_no h2]; exact from153 _ _ w
    have HV : Hid (r = false) := Lib.hid (by rw [HR.out]; exact bool_no (by omega))
    clear HR
    go_enter Tryz.func85, Tryz.ntmps85
    go_wp2_with (go_at_call 150; (with_reducible first | refine (HF0.out _).mono ?_ | refine (HF1.out _).mono ?_ | refine (HF2.out _).mono ?_); rintro e w' ⟨rfl, rfl⟩)
    go_ret
    exact ⟨by rw [HV.out]; rfl, (Below.refl _ _).alloc (Nat.le_refl _) _⟩
  have HF2 : Hid (∀ w, Calls Tryz.prog 150 #[.int .i64 lo, .int .i64 64] w fun e w' => e = .returned (.bool true) ∧ w' = w) := Lib.hid fun w => by rw [← bool_yes h2]; exact from153 _ _ w
  by_cases h3 : 1 ≤ bu ∧ bu ≤ 64
  rotate_left
  · have HF3 : Hid (∀ w, Calls Tryz.prog 150 #[.int .i64 bu, .int .i64 64] w fun e w' => e = .returned (.bool false) ∧ w' = w) := Lib.hid fun w => by rw [← bool_no h3]; exact from153 _ _ w
    have HV : Hid (r = false) := Lib.hid (by rw [HR.out]; exact bool_no (by omega))
    clear HR
    go_enter Tryz.func85, Tryz.ntmps85
    go_wp2_with (go_at_call 150; (with_reducible first | refine (HF0.out _).mono ?_ | refine (HF1.out _).mono ?_ | refine (HF2.out _).mono ?_ | refine (HF3.out _).mono ?_); rintro e w' ⟨rfl, rfl⟩)
    go_ret
    exact ⟨by rw [HV.out]; rfl, (Below.refl _ _).alloc (Nat.le_refl _) _⟩
  have HF3 : Hid (∀ w, Calls Tryz.prog 150 #[.int .i64 bu, .int .i64 64] w fun e w' => e = .returned (.bool true) ∧ w' = w) := Lib.hid fun w => by rw [← bool_yes h3]; exact from153 _ _ w
  have HV : Hid (r = true) := Lib.hid (by rw [HR.out]; exact bool_yes (by omega))
  clear HR
  go_enter Tryz.func85, Tryz.ntmps85
  go_wp2_with (go_at_call 150; (with_reducible first | refine (HF0.out _).mono ?_ | refine (HF1.out _).mono ?_ | refine (HF2.out _).mono ?_ | refine (HF3.out _).mono ?_); rintro e w' ⟨rfl, rfl⟩)
  go_ret
  exact ⟨by rw [HV.out]; rfl, (Below.refl _ _).alloc (Nat.le_refl _) _⟩

theorem few57 (c : Cfg) (w : World) : Calls Tryz.prog 8 #[.agg c.cells] w (BoolOn (decide c.few) w) := by
  have HRT := Lib.hid fun w => refRight_any c w
  have HFF : Hid (c.few ↔ c.right ∧ c.th ≤ 6 ∧ c.sl ≤ 30 ∧ c.lo ≤ 8 ∧ c.bu ≤ 8) := Lib.hid Iff.rfl
  obtain ⟨R, hR⟩ : ∃ R, R = decide c.right := ⟨_, rfl⟩
  rw [← hR] at HRT
  obtain ⟨r, hr⟩ : ∃ r, r = decide c.few := ⟨_, rfl⟩
  rw [← hr]
  have HR : Hid (r = decide (R = true ∧ c.th ≤ 6 ∧ c.sl ≤ 30 ∧ c.lo ≤ 8 ∧ c.bu ≤ 8)) := Lib.hid (by rw [hr, hR]; apply decide_eq_decide.2; rw [HFF.out]; simp)
  clear hr hR HFF
  obtain ⟨th, sl, lo, bu⟩ := c
  simp only [Cfg.cells] at *
  cases R
  · have HV0 := HR
    have HV : Hid (r = false) := Lib.hid (by rw [HR.out]; exact bool_no (fun h => by cases h.1))
    clear HR
    go_enter Tryz.func8, Tryz.ntmps8
    go_wp2_with (go_at_call 24; (with_reducible refine (HRT.out _).mono ?_); rintro e w' ⟨rfl, hb⟩; have l0 := hb.cell (p := ⟨w.heap.size, 0, none⟩) (by simp); have l1 := hb.cell (p := ⟨w.heap.size, 1, none⟩) (by simp); have l2 := hb.cell (p := ⟨w.heap.size, 2, none⟩) (by simp); have l3 := hb.cell (p := ⟨w.heap.size, 3, none⟩) (by simp); have HB : Hid (Below w.heap.size w w') := Lib.hid (((Below.refl _ _).alloc (Nat.le_refl _) _).trans (hb.mono (by simp))); clear hb)
    go_ret
    exact ⟨by rw [HV.out]; rfl, HB.out⟩
  by_cases h0 : th ≤ 6
  rotate_left
  · have d0 : decide (th ≤ 6) = false := bool_no h0
    have HV : Hid (r = false) := Lib.hid (by rw [HR.out]; exact bool_no (by omega))
    clear HR
    go_enter Tryz.func8, Tryz.ntmps8
    go_wp2_with (go_at_call 24; (with_reducible refine (HRT.out _).mono ?_); rintro e w' ⟨rfl, hb⟩; have l0 := hb.cell (p := ⟨w.heap.size, 0, none⟩) (by simp); have l1 := hb.cell (p := ⟨w.heap.size, 1, none⟩) (by simp); have l2 := hb.cell (p := ⟨w.heap.size, 2, none⟩) (by simp); have l3 := hb.cell (p := ⟨w.heap.size, 3, none⟩) (by simp); have HB : Hid (Below w.heap.size w w') := Lib.hid (((Below.refl _ _).alloc (Nat.le_refl _) _).trans (hb.mono (by simp))); clear hb)
    go_ret
    exact ⟨by rw [HV.out]; rfl, HB.out⟩
  have d0 : decide (th ≤ 6) = true := bool_yes h0
  by_cases h1 : sl ≤ 30
  rotate_left
  · have d1 : decide (sl ≤ 30) = false := bool_no h1
    have HV : Hid (r = false) := Lib.hid (by rw [HR.out]; exact bool_no (by omega))
    clear HR
    go_enter Tryz.func8, Tryz.ntmps8
    go_wp2_with (go_at_call 24; (with_reducible refine (HRT.out _).mono ?_); rintro e w' ⟨rfl, hb⟩; have l0 := hb.cell (p := ⟨w.heap.size, 0, none⟩) (by simp); have l1 := hb.cell (p := ⟨w.heap.size, 1, none⟩) (by simp); have l2 := hb.cell (p := ⟨w.heap.size, 2, none⟩) (by simp); have l3 := hb.cell (p := ⟨w.heap.size, 3, none⟩) (by simp); have HB : Hid (Below w.heap.size w w') := Lib.hid (((Below.refl _ _).alloc (Nat.le_refl _) _).trans (hb.mono (by simp))); clear hb)
    go_ret
    exact ⟨by rw [HV.out]; rfl, HB.out⟩
  have d1 : decide (sl ≤ 30) = true := bool_yes h1
  by_cases h2 : lo ≤ 8
  rotate_left
  · have d2 : decide (lo ≤ 8) = false := bool_no h2
    have HV : Hid (r = false) := Lib.hid (by rw [HR.out]; exact bool_no (by omega))
    clear HR
    go_enter Tryz.func8, Tryz.ntmps8
    go_wp2_with (go_at_call 24; (with_reducible refine (HRT.out _).mono ?_); rintro e w' ⟨rfl, hb⟩; have l0 := hb.cell (p := ⟨w.heap.size, 0, none⟩) (by simp); have l1 := hb.cell (p := ⟨w.heap.size, 1, none⟩) (by simp); have l2 := hb.cell (p := ⟨w.heap.size, 2, none⟩) (by simp); have l3 := hb.cell (p := ⟨w.heap.size, 3, none⟩) (by simp); have HB : Hid (Below w.heap.size w w') := Lib.hid (((Below.refl _ _).alloc (Nat.le_refl _) _).trans (hb.mono (by simp))); clear hb)
    go_ret
    exact ⟨by rw [HV.out]; rfl, HB.out⟩
  have d2 : decide (lo ≤ 8) = true := bool_yes h2
  by_cases h3 : bu ≤ 8
  rotate_left
  · have d3 : decide (bu ≤ 8) = false := bool_no h3
    have HV : Hid (r = false) := Lib.hid (by rw [HR.out]; exact bool_no (by omega))
    clear HR
    go_enter Tryz.func8, Tryz.ntmps8
    go_wp2_with (go_at_call 24; (with_reducible refine (HRT.out _).mono ?_); rintro e w' ⟨rfl, hb⟩; have l0 := hb.cell (p := ⟨w.heap.size, 0, none⟩) (by simp); have l1 := hb.cell (p := ⟨w.heap.size, 1, none⟩) (by simp); have l2 := hb.cell (p := ⟨w.heap.size, 2, none⟩) (by simp); have l3 := hb.cell (p := ⟨w.heap.size, 3, none⟩) (by simp); have HB : Hid (Below w.heap.size w w') := Lib.hid (((Below.refl _ _).alloc (Nat.le_refl _) _).trans (hb.mono (by simp))); clear hb)
    go_ret
    exact ⟨by rw [HV.out]; rfl, HB.out⟩
  have d3 : decide (bu ≤ 8) = true := bool_yes h3
  have HV : Hid (r = true) := Lib.hid (by rw [HR.out]; exact bool_yes ⟨rfl, by omega, by omega, by omega, by omega⟩)
  clear HR
  go_enter Tryz.func8, Tryz.ntmps8
  go_wp2_with (go_at_call 24; (with_reducible refine (HRT.out _).mono ?_); rintro e w' ⟨rfl, hb⟩; have l0 := hb.cell (p := ⟨w.heap.size, 0, none⟩) (by simp); have l1 := hb.cell (p := ⟨w.heap.size, 1, none⟩) (by simp); have l2 := hb.cell (p := ⟨w.heap.size, 2, none⟩) (by simp); have l3 := hb.cell (p := ⟨w.heap.size, 3, none⟩) (by simp); have HB : Hid (Below w.heap.size w w') := Lib.hid (((Below.refl _ _).alloc (Nat.le_refl _) _).trans (hb.mono (by simp))); clear hb)
  go_ret
  exact ⟨by rw [HV.out]; rfl, HB.out⟩
end Go.Proofs.YtkdcfijebgeajaaGreat
