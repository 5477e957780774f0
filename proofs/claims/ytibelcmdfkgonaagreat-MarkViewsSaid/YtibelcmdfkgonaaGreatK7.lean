/- Layer 20 (mark): a mark's row of cells; its small methods.
   Layers 6, 16: the head of a bucket; a key's bucket.
   DERIVED: THE SHELF's CONTRACTS AT THIS DUMP, IN PLAIN WORDS (tools/lay-plain.mjs out of 'TryzShelf2.lean', which tools/lay-shelf.mjs wrote): THE SAME DECLARATIONS UNDER THE SAME NAMES: 'import', 'namespace', 'open', 'def', 'theorem' AND NOTHING ELSE: no command of the shelf's: FOR A HAND-IN. Each laying: the table of numbers ('.._ren') and one theorem, a field a fact of the dump's own or the kernel's comparison; each contract: ONE APPLICATION.
   A row of whole numbers: one is put in.
   Layer 4: a number is put into a set. -/
import Derived.Test.YtibelcmdfkgonaaGreatK5
import Derived.Test.YtibelcmdfkgonaaGreatK6
import Derived.Laws.EntriesVeiled
import Derived.IntWalk
import Derived.Ground.Names2Prog
import Derived.Shelf.Slices.SearchI
import Derived.Shelf.Slices.Empties
import Derived.Test.YtibelcmdfkgonaaGreatProg
import Derived.Test.YtibelcmdfkgonaaGreatK4
import Derived.Shelf.Spec.SlicesInsert
import Derived.Shelf.Spec.SlicesInsertGrow
namespace Go.Proofs.YtibelcmdfkgonaaGreat
open Go.RowKit Go.BigFrame
set_option linter.unusedVariables false
set_option linter.unusedSimpArgs false
theorem row_15 {W : World} {b : Nat} {k0 k1 k2 k3 k4 k5 k6 k7 k8 k9 k10 k11 k12 k13 k14 : Value} {t : TypeId} (h : W.heap[b]? = some (.cells #[k0, k1, k2, k3, k4, k5, k6, k7, k8, k9, k10, k11, k12, k13, k14] t (0, 0))) :
    W.cell? ⟨b, 0, none⟩ = some k0 ∧ W.cell? ⟨b, 1, none⟩ = some k1 ∧ W.cell? ⟨b, 2, none⟩ = some k2 ∧ W.cell? ⟨b, 3, none⟩ = some k3 ∧ W.cell? ⟨b, 4, none⟩ = some k4 ∧ W.cell? ⟨b, 5, none⟩ = some k5 ∧ W.cell? ⟨b, 6, none⟩ = some k6 ∧ W.cell? ⟨b, 7, none⟩ = some k7 ∧ W.cell? ⟨b, 8, none⟩ = some k8 ∧ W.cell? ⟨b, 9, none⟩ = some k9 ∧ W.cell? ⟨b, 10, none⟩ = some k10 ∧ W.cell? ⟨b, 11, none⟩ = some k11 ∧ W.cell? ⟨b, 12, none⟩ = some k12 ∧ W.cell? ⟨b, 13, none⟩ = some k13 ∧ W.cell? ⟨b, 14, none⟩ = some k14 ∧ ∀ j, W.frozen? ⟨b, j, none⟩ = false :=
  ⟨cell_row h 0 _ rfl, cell_row h 1 _ rfl, cell_row h 2 _ rfl, cell_row h 3 _ rfl, cell_row h 4 _ rfl, cell_row h 5 _ rfl, cell_row h 6 _ rfl, cell_row h 7 _ rfl, cell_row h 8 _ rfl, cell_row h 9 _ rfl, cell_row h 10 _ rfl, cell_row h 11 _ rfl, cell_row h 12 _ rfl, cell_row h 13 _ rfl, cell_row h 14 _ rfl, free_row h⟩
/-- A mark's cells. -/
def MkRow (W : World) (x : Nat) (k0 k1 k2 k3 k4 k5 k6 k7 k8 k9 k10 k11 k12 k13 k14 : Value) : Prop := W.heap[x]? = some (.cells #[k0, k1, k2, k3, k4, k5, k6, k7, k8, k9, k10, k11, k12, k13, k14] 149 (0, 0))
/-- It ends; x's cells are as told; no other old block has turned. -/
def RowTo (x : Nat) (c : Array Value) (W : World) (e : Ending) (W' : World) : Prop := (∃ u, e = .returned u) ∧ W'.heap[x]? = some (.cells c 149 (0, 0)) ∧ But x W W'
theorem but_set {p : Nat} {a w : World} (h : But p a w) (j : Nat) (v : Value) : But p a (w.setCell ⟨p, j, none⟩ v) :=
  ⟨h.os, h.tape, h.output, by simpa [World.setCell] using h.size, fun k hk hp => (heap_set_other hp).trans (h.block k hk hp)⟩
theorem but_drewN {p : Nat} {a w : World} (h : But p a w) (n : Nat) : But p a (w.drewN n) := ⟨h.os, h.tape, h.output, h.size, h.block⟩
theorem fail137 (x : Nat) (k0 k1 k2 k3 k4 k5 k6 k7 k8 k9 k10 k11 k12 k13 k14 : Value) (w : World) (h : w.heap[x]? = some (.cells #[k0, k1, k2, k3, k4, k5, k6, k7, k8, k9, k10, k11, k12, k13, k14] 149 (0, 0))) :
    Calls Tryz.prog 137 #[.pointer (some ⟨x, 0, none⟩)] w (RowTo x #[k0, k1, .int .i64 4, k3, k4, k5, .bool true, k7, k8, k9, k10, k11, k12, k13, k14] w) := by
  have HR := Lib.hid h
  have q6 := cell_row h 6 _ rfl
  have q2 := cell_row h 2 _ rfl
  have qf := free_row h
  clear h
  go_enter Tryz.func137, Tryz.ntmps137
  go_wp2_with fail
  go_end0
  exact ⟨⟨_, rfl⟩, heap_set _ (heap_set _ HR.out), but_set (but_set (But.refl _ _) _ _) _ _⟩

theorem over226_bad (x : Nat) (k0 k1 k2 k5 k6 k7 k8 k9 k10 k11 k12 k14 : Value) (wa : Option Addr) (nh cw : Nat) (li : Nat) (fr : Bool) (hl : li ≤ 1000) (hn : nh ≤ 1000) (h0 : li = 0) (hf : fr = false) (w : World)
    (h : w.heap[x]? = some (.cells #[k0, k1, k2, .slice wa nh cw, .int .i64 li, k5, k6, k7, k8, k9, k10, k11, k12, .bool fr, k14] 149 (0, 0))) :
    Calls Tryz.prog 226 #[.pointer (some ⟨x, 0, none⟩)] w (RowTo x #[k0, k1, .int .i64 4, .slice wa nh cw, .int .i64 li, k5, .bool true, k7, k8, k9, k10, k11, k12, .bool fr, k14] w) := by
  have HR := Lib.hid h
  have q2 := cell_row h 2 _ rfl
  have q3 := cell_row h 3 _ rfl
  have q4 := cell_row h 4 _ rfl
  have q13 := cell_row h 13 _ rfl
  have qf := free_row h
  subst h0; subst hf
  have HF := Lib.hid (fail137 x k0 k1 k2 (.slice wa nh cw) (.int .i64 (0 : Nat)) k5 k6 k7 k8 k9 k10 k11 k12 (.bool false) k14 w h)
  clear h
  go_enter Tryz.func226, Tryz.ntmps226
  go_wp2_with fail
  refine HF.out.mono ?_
  rintro e w' ⟨⟨u, rfl⟩, hr, hb⟩
  have H := Lib.hid (And.intro hr hb)
  clear hr hb q2 q3 q4 q13 qf
  go_wp2_with fail
  go_end0
  exact ⟨⟨_, rfl⟩, H.out.1, H.out.2⟩
theorem over226_last (x : Nat) (k0 k1 k2 k5 k6 k7 k8 k9 k10 k11 k12 k14 : Value) (wa : Option Addr) (nh cw : Nat) (li : Nat) (fr : Bool) (hl : li ≤ 1000) (hn : nh ≤ 1000) (hok : ¬ (li = 0 ∧ fr = false)) (hlast : li + 1 = nh) (w : World)
    (h : w.heap[x]? = some (.cells #[k0, k1, k2, .slice wa nh cw, .int .i64 li, k5, k6, k7, k8, k9, k10, k11, k12, .bool fr, k14] 149 (0, 0))) :
    Calls Tryz.prog 226 #[.pointer (some ⟨x, 0, none⟩)] w (RowTo x #[k0, k1, .int .i64 4, .slice wa nh cw, .int .i64 ((li : Int) + 1), k5, k6, k7, k8, k9, k10, k11, k12, .bool fr, k14] w) := by
  have HR := Lib.hid h
  have q2 := cell_row h 2 _ rfl
  have q3 := cell_row h 3 _ rfl
  have q4 := cell_row h 4 _ rfl
  have q13 := cell_row h 13 _ rfl
  have qf := free_row h
  have HOK := Lib.hid hok
  have HL := Lib.hid hlast
  have e1 : ((li : Int) + 1 == (nh : Int)) = true := by simp; omega
  have i0 : (0 : Int) ≤ (li : Int) := by omega
  have i1 : (li : Int) ≤ 1000 := by omega
  have i2 : (nh : Int) ≤ 1000 := by omega
  clear hok hlast
  clear h
  go_enter Tryz.func226, Tryz.ntmps226
  by_cases h0 : li = 0
  · have hf : fr = true := by have := HOK.out; cases fr <;> simp_all
    subst hf
    have e0 : ((li : Int) == 0) = true := by simp; omega
    clear h0
    go_wp2_with fail
    go_quiet (fail)
    go_wp2_with fail
    go_end0
    exact ⟨⟨_, rfl⟩, heap_set _ (heap_set _ (heap_set _ HR.out)), but_set (but_drewN (but_set (but_set (But.refl _ _) _ _) _ _) _) _ _⟩
  · have e0 : ((li : Int) == 0) = false := by simp; omega
    clear h0
    go_wp2_with fail
    go_quiet (fail)
    go_wp2_with fail
    go_end0
    exact ⟨⟨_, rfl⟩, heap_set _ (heap_set _ (heap_set _ HR.out)), but_set (but_drewN (but_set (but_set (But.refl _ _) _ _) _ _) _) _ _⟩
theorem over226_more (x : Nat) (k0 k1 k2 k5 k6 k7 k8 k9 k10 k11 k12 k14 : Value) (wa : Option Addr) (nh cw : Nat) (li : Nat) (fr : Bool) (hl : li ≤ 1000) (hn : nh ≤ 1000) (hok : ¬ (li = 0 ∧ fr = false)) (hlast : li + 1 ≠ nh) (w : World)
    (h : w.heap[x]? = some (.cells #[k0, k1, k2, .slice wa nh cw, .int .i64 li, k5, k6, k7, k8, k9, k10, k11, k12, .bool fr, k14] 149 (0, 0))) :
    Calls Tryz.prog 226 #[.pointer (some ⟨x, 0, none⟩)] w (RowTo x #[k0, k1, .int .i64 0, .slice wa nh cw, .int .i64 ((li : Int) + 1), k5, k6, k7, k8, k9, k10, k11, k12, .bool fr, k14] w) := by
  have HR := Lib.hid h
  have q2 := cell_row h 2 _ rfl
  have q3 := cell_row h 3 _ rfl
  have q4 := cell_row h 4 _ rfl
  have q13 := cell_row h 13 _ rfl
  have qf := free_row h
  have HOK := Lib.hid hok
  have HL := Lib.hid hlast
  have e1 : ((li : Int) + 1 == (nh : Int)) = false := by simp; omega
  have i0 : (0 : Int) ≤ (li : Int) := by omega
  have i1 : (li : Int) ≤ 1000 := by omega
  have i2 : (nh : Int) ≤ 1000 := by omega
  clear hok hlast
  clear h
  go_enter Tryz.func226, Tryz.ntmps226
  by_cases h0 : li = 0
  · have hf : fr = true := by have := HOK.out; cases fr <;> simp_all
    subst hf
    have e0 : ((li : Int) == 0) = true := by simp; omega
    clear h0
    go_wp2_with fail
    go_quiet (fail)
    go_wp2_with fail
    go_end0
    exact ⟨⟨_, rfl⟩, heap_set _ (heap_set _ HR.out), but_drewN (but_set (but_set (But.refl _ _) _ _) _ _) _⟩
  · have e0 : ((li : Int) == 0) = false := by simp; omega
    clear h0
    go_wp2_with fail
    go_quiet (fail)
    go_wp2_with fail
    go_end0
    exact ⟨⟨_, rfl⟩, heap_set _ (heap_set _ HR.out), but_drewN (but_set (but_set (But.refl _ _) _ _) _ _) _⟩
/-- Numbers met: whether it was there; now it is. -/
theorem add227 (x mb S cm : Nat) (met : Nat → Bool) (n : Nat) (hn : n < S) (hS : S ≤ 100000) (w : World) (h : w.cell? ⟨x, 5, none⟩ = some (.slice (some ⟨mb, 0, none⟩) S cm)) (hm : RowAt w mb S fun k => .bool (met k)) :
    Calls Tryz.prog 227 #[.pointer (some ⟨x, 5, none⟩), .int .i64 n] w fun e w' => e = .returned (.bool (!met n)) ∧ RowAt w' mb S (fun k => .bool (addMet met n k)) ∧ But mb w w' := by
  have HM := Lib.hid hm
  have q := hm.cell hn
  have qf := hm.free n
  have i0 : (0 : Int) ≤ (n : Int) := by omega
  have i1 : (n : Int) < (S : Int) := by omega
  have i2 : (S : Int) ≤ 100000 := by omega
  clear hm
  cases hx : met n with
  | true =>
    have HX := Lib.hid hx
    rw [hx] at q
    clear hx
    go_enter Tryz.func227, Tryz.ntmps227
    go_wp2_with fail
    go_ret
    refine ⟨rfl, ?_, But.refl _ _⟩
    have e : addMet met n = met := by funext k; unfold addMet; split; rename_i e; rw [e, HX.out]; rfl
    rw [e]; exact HM.out
  | false =>
    rw [hx] at q
    clear hx
    go_enter Tryz.func227, Tryz.ntmps227
    go_wp2_with fail
    go_ret
    refine ⟨rfl, ?_, but_set (But.refl _ _) _ _⟩
    have := HM.out.set n (.bool true)
    have e : upd (fun k => Value.bool (met k)) n (.bool true) = fun k => .bool (addMet met n k) := by
      funext k; unfold upd addMet; split <;> rfl
    rw [e] at this; exact this

end Go.Proofs.YtibelcmdfkgonaaGreat

namespace Go.Proofs.YtibelcmdfkgonaaGreat
open Go.RowKit Go.BigFrame
set_option linter.unusedVariables false
set_option linter.unusedSimpArgs false
def Lv.bucket (v : Lv) (n : Int) : Int := if hasB n v.bu then 40 + n else v.ln * 8
theorem hasB_yes {n m : Int} (h : hasB n m = true) : 0 ≤ n ∧ n < m := by simpa [hasB] using h
theorem bucket134 (l : Nat) (v : Lv) (n : Int) (w : World) (h : LayAt w l v) : Calls Tryz.prog 134 #[.pointer (some ⟨l, 0, none⟩), .int .i64 n] w (Gives (.int .i64 (v.bucket n)) w) := by
  have HC := Lib.hid fun w h => config70 l v w h
  have HL := Lib.hid fun w h => lines80 l v w h
  have HH := Lib.hid fun w => has223 n v.bu w
  have HW := Lib.hid h
  have HN := Lib.hid fun w => line131 l 5 (by omega) (by omega) w
  have hok := h.ok
  have b0 := hok.bu0
  have b1 := hok.bu1
  have l0 := hok.ln0
  have l1 := hok.ln1
  have HE : Hid (v.bucket n = if hasB n v.bu then 40 + n else v.ln * 8) := Lib.hid rfl
  have HY : Hid (hasB n v.bu = true → 0 ≤ n ∧ n < v.bu) := Lib.hid hasB_yes
  clear h hok
  generalize v.bucket n = r at *
  generalize hasB n v.bu = y at *
  cases y with
  | true =>
    obtain ⟨n0, n1⟩ := HY.out rfl
    clear HY
    go_enter Tryz.func134, Tryz.ntmps134
    go_wp2_with fail
    refine (HC.out _ HW.out).mono ?_
    rintro e w1 ⟨rfl, hb⟩
    have HB := Lib.hid hb
    clear hb
    go_wp2_with fail
    refine (HH.out _).mono ?_
    rintro e w2 ⟨rfl, rfl⟩
    go_wp2_with fail
    refine (HN.out _).mono ?_
    rintro e w2 ⟨rfl, rfl⟩
    go_wp2_with fail
    go_ret
    exact ⟨ret_int (by rw [HE.out]; simp), HB.out.alloc HB.out.size _⟩
  | false =>
    clear HY
    go_enter Tryz.func134, Tryz.ntmps134
    go_wp2_with fail
    refine (HC.out _ HW.out).mono ?_
    rintro e w1 ⟨rfl, hb⟩
    have HB := Lib.hid hb
    clear hb
    go_wp2_with fail
    refine (HH.out _).mono ?_
    rintro e w2 ⟨rfl, rfl⟩
    go_wp2_with fail
    refine (HL.out _ (HW.out.keep ((HB.out.alloc HB.out.size _).block l HW.out.lt))).mono ?_
    rintro e w2 ⟨rfl, rfl⟩
    go_wp2_with fail
    go_ret
    exact ⟨ret_int (by rw [HE.out]; simp), HB.out.alloc HB.out.size _⟩
def mulN (a : Nat) : Nat := a * 2654435769 % 4294967296
def mixN (a : Nat) : Nat := mulN a ^^^ (mulN a / 65536)
theorem mulN_lt (a : Nat) : mulN a < 4294967296 := Nat.mod_lt _ (by decide)
theorem mixN_lt (a : Nat) : mixN a < 4294967296 := by
  have h := mulN_lt a
  exact Nat.xor_lt_two_pow (n := 32) h (by have := Nat.div_le_self (mulN a) 65536; omega)
theorem bits_xor_u32 (x y : Nat) (hx : x < 4294967296) (hy : y < 4294967296) : bits BinOp.xor IntKind.u32 (x : Int) (y : Int) = ((x ^^^ y : Nat) : Int) := by
  have h : x ^^^ y < 4294967296 := Nat.xor_lt_two_pow (n := 32) hx hy
  have e : (BitVec.ofNat 32 x ^^^ BitVec.ofNat 32 y).toNat = x ^^^ y := by
    rw [BitVec.toNat_xor, BitVec.toNat_ofNat, BitVec.toNat_ofNat, Nat.mod_eq_of_lt hx, Nat.mod_eq_of_lt hy]
  simp only [bits, BitVec.ofInt_natCast]
  show IntKind.u32.wrap ((BitVec.ofNat 32 x ^^^ BitVec.ofNat 32 y).toNat : Int) = _
  rw [e, IntKind.wrap_u32]; omega
def hMix (a : Int) : Int := (mixN a.toNat : Nat)
theorem hMix_lo (a : Int) : 0 ≤ hMix a := by unfold hMix; omega
theorem hMix_hi (a : Int) : hMix a ≤ 4294967295 := by unfold hMix; have := mixN_lt a.toNat; omega
theorem hMix_walk (a : Int) (h0 : 0 ≤ a) : bits BinOp.xor IntKind.u32 (IntKind.u32.wrap (a * 2654435769)) (IntKind.u32.wrap (a * 2654435769) / 65536) = hMix a := by
  obtain ⟨n, rfl⟩ := Int.eq_ofNat_of_zero_le h0
  have e : IntKind.u32.wrap ((n : Int) * 2654435769) = (mulN n : Nat) := by rw [IntKind.wrap_u32]; unfold mulN; omega
  have e2 : ((mulN n : Nat) : Int) / 65536 = (mulN n / 65536 : Nat) := by omega
  rw [e, e2, bits_xor_u32 _ _ (mulN_lt n) (by have := mulN_lt n; have := Nat.div_le_self (mulN n) 65536; omega)]
  rfl
theorem mix228 (a : Int) (h0 : 0 ≤ a) (w : World) : Calls Tryz.prog 228 #[.int .u32 a] w (Says (.int .u32 (hMix a)) w) := by
  have HM := Lib.hid (hMix_walk a h0)
  go_enter Tryz.func228, Tryz.ntmps228
  go_wp2_with fail
  go_ret
  exact ⟨ret_int HM.out, rfl⟩
def bucketI (a m : Int) : Int := hMix a % m
theorem bucket140 (a m : Int) (h0 : 0 ≤ a) (m0 : 1 ≤ m) (m1 : m ≤ 100000) (w : World) : Calls Tryz.prog 140 #[.int .u32 a, .int .i64 m] w (Says (.int .i64 (bucketI a m)) w) := by
  have HM := Lib.hid fun w => mix228 a h0 w
  have i0 := hMix_lo a
  have i1 := hMix_hi a
  have HE : Hid (hMix a % m = bucketI a m) := Lib.hid rfl
  have HE2 : Hid ((hMix a).tmod m = bucketI a m) := Lib.hid (by rw [Int.tmod_eq_emod_of_nonneg i0]; rfl)
  have HE3 : Hid (wrap64 (hMix a % m) = bucketI a m) := Lib.hid (by
    have h1 := Int.emod_nonneg (hMix a) (show m ≠ 0 by omega)
    have h2 := Int.emod_lt_of_pos (hMix a) (show 0 < m by omega)
    exact (IntWalk.wrap64_in (hMix a % m) (by omega)).trans rfl)
  have hd : decide (m < 1) = false := bool_no (by omega)
  generalize hMix a = x at *
  generalize bucketI a m = r at *
  go_enter Tryz.func140, Tryz.ntmps140
  go_wp2_with fail
  refine (HM.out _).mono ?_
  rintro e w1 ⟨rfl, rfl⟩
  go_wp2_with fail
  go_ret
  exact ⟨ret_int (by exact HE3.out), rfl⟩

end Go.Proofs.YtibelcmdfkgonaaGreat

namespace Go.Proofs
open Go.Shelf
def Tryz.laysNm225_ren : Go.Shelf.Ren := ⟨fun | 25 => 313 | 31 => 334 | 32 => 335 | 37 => 358 | n => n, fun | 22 => 84 | 3 => 3 | 4 => 4 | 40 => 222 | 0 => 0 | n => n, fun | n => n⟩
theorem Tryz.laysNm225 : Go.Proofs.Lays2.n25 Tryz.prog Tryz.laysNm225_ren := {
  mixed := by kernel_rfl
  f25 := Tryz.func313.trans (congrArg some (by kernel_rfl))
  f31 := Tryz.func334.trans (congrArg some (by kernel_rfl))
  f32 := Tryz.func335.trans (congrArg some (by kernel_rfl))
  f37 := Tryz.func358.trans (congrArg some (by kernel_rfl))
  t0 := Tryz.underlying0
  a0 := Tryz.isAgg0
  z0 := Tryz.sizeOf0
  v0 := Tryz.zeroValue0
  t3 := Tryz.underlying3
  a3 := Tryz.isAgg3
  z3 := Tryz.sizeOf3
  v3 := Tryz.zeroValue3
  t4 := Tryz.underlying4
  a4 := Tryz.isAgg4
  z4 := Tryz.sizeOf4
  v4 := Tryz.zeroValue4
  t22 := Tryz.underlying84
  a22 := Tryz.isAgg84
  z22 := Tryz.sizeOf84
  v22 := Tryz.zeroValue84
  t40 := Tryz.underlying222
  a40 := Tryz.isAgg222
  z40 := Tryz.sizeOf222
  v40 := Tryz.zeroValue222 }
open Go.RowKit Go.Lib in
theorem Tryz.slices_BinarySearch_int (b off n c : Nat) (zs : List Int) (x : Int) (w : World) (hz : n ≤ zs.length) (hbig : n < 4611686018427387904) (hc : ∀ j, j < zs.length → w.cell? ⟨b, off + j, none⟩ = some (.int .i64 (zs.getD j 0))) (hs : (zs.take n).Pairwise (· ≤ ·)) :
    Calls Tryz.prog 313 #[.slice (some ⟨b, off, none⟩) n c, .int .i64 x] w fun e w' => e = .returned (.tuple #[.int .i64 ((zs.take n).countP (· < x) : Nat), .bool ((zs.take n).contains x)]) ∧ ∃ q, w' = w.drewN q := Any.slices_BinarySearch_int Tryz.laysNm225 b off n c zs x w hz hbig hc hs
open Go.RowKit Go.Lib in
theorem Tryz.slices_BinarySearch_int_empty (a : Option Addr) (c : Nat) (x : Int) (w : World) :
    Calls Tryz.prog 313 #[.slice a 0 c, .int .i64 x] w fun e w' => e = .returned (.tuple #[.int .i64 0, .bool false]) ∧ w' = w := Any.slices_BinarySearch_int_empty Tryz.laysNm225 a c x w
def Tryz.laysIns_ren : Go.Shelf.Ren := ⟨fun | 21 => 314 | 27 => 336 | 28 => 337 | 35 => 359 | 39 => 366 | n => n, fun | 22 => 84 | 3 => 3 | 4 => 4 | 0 => 0 | n => n, fun | n => n⟩
theorem Tryz.laysIns : Go.Proofs.Lays2.n21 Tryz.prog Tryz.laysIns_ren := {
  mixed := by kernel_rfl
  f21 := Tryz.func314.trans (congrArg some (by kernel_rfl))
  f27 := Tryz.func336.trans (congrArg some (by kernel_rfl))
  f28 := Tryz.func337.trans (congrArg some (by kernel_rfl))
  f35 := Tryz.func359.trans (congrArg some (by kernel_rfl))
  f39 := Tryz.func366.trans (congrArg some (by kernel_rfl))
  t0 := Tryz.underlying0
  a0 := Tryz.isAgg0
  z0 := Tryz.sizeOf0
  v0 := Tryz.zeroValue0
  t3 := Tryz.underlying3
  a3 := Tryz.isAgg3
  z3 := Tryz.sizeOf3
  v3 := Tryz.zeroValue3
  t4 := Tryz.underlying4
  a4 := Tryz.isAgg4
  z4 := Tryz.sizeOf4
  v4 := Tryz.zeroValue4
  t22 := Tryz.underlying84
  a22 := Tryz.isAgg84
  z22 := Tryz.sizeOf84
  v22 := Tryz.zeroValue84
  i3 := by kernel_rfl }
end Go.Proofs

namespace Go.Proofs.YtibelcmdfkgonaaGreat
open Go.RowKit Go.BigFrame
set_option linter.unusedVariables false
set_option linter.unusedSimpArgs false
def insAt (l : List Int) (i : Nat) (x : Int) : List Int := l.take i ++ x :: l.drop i
theorem insAt_len {l : List Int} {i : Nat} (h : i ≤ l.length) (x : Int) : (insAt l i x).length = l.length + 1 := by
  simp [insAt]; omega
theorem insAt_get {l : List Int} {i : Nat} (h : i ≤ l.length) (x : Int) (k : Nat) : (insAt l i x).getD k 0 = if k < i then l.getD k 0 else if k = i then x else l.getD (k - 1) 0 := by
  unfold insAt
  rw [List.getD_eq_getElem?_getD, List.getElem?_append]
  have hl : (l.take i).length = i := by simp; omega
  rw [hl]
  by_cases h1 : k < i
  · rw [if_pos h1, if_pos h1, List.getElem?_take, if_pos h1, List.getD_eq_getElem?_getD]
  · rw [if_neg h1, if_neg h1]
    by_cases h2 : k = i
    · subst h2; simp
    · rw [if_neg h2]
      obtain ⟨j, hj⟩ : ∃ j, k - i = j + 1 := ⟨k - i - 1, by omega⟩
      rw [hj, List.getElem?_cons_succ, List.getElem?_drop, List.getD_eq_getElem?_getD, show i + j = k - 1 by omega]
theorem heap_setCells_other (b : Nat) {g : Nat} (h : g ≠ b) : ∀ (vs : List Value) (o : Nat) (w : World), (w.setCells b o vs).heap[g]? = w.heap[g]?
  | [], _, _ => rfl
  | v :: r, o, w => by rw [World.setCells, heap_setCells_other b h r, heap_set_other h]
theorem heap_setCells (b : Nat) : ∀ (vs : List Value) (o : Nat) (w : World) (c : Array Value) (t : TypeId) (f : Nat × Nat), w.heap[b]? = some (.cells c t f) → ∃ c', (w.setCells b o vs).heap[b]? = some (.cells c' t f) ∧ c'.size = c.size
  | [], _, _, c, _, _, h => ⟨c, h, rfl⟩
  | v :: r, o, w, c, t, f, h => by
    obtain ⟨c', h1, h2⟩ := heap_setCells b r (o + 1) _ _ t f (heap_set (j := o) v h)
    exact ⟨c', h1, h2.trans (by simp)⟩
theorem Turn.setCells {F : Nat → Prop} {a : World} {b : Nat} (hb : b < a.heap.size → F b) : ∀ (vs : List Value) (o : Nat) (w : World), Turn F a w → Turn F a (w.setCells b o vs)
  | [], _, _, h => h
  | v :: r, o, w, h => Turn.setCells hb r (o + 1) _ (h.set hb o v)
theorem Turn.drew {F : Nat → Prop} {a w : World} (h : Turn F a w) : Turn F a w.drew := ⟨h.os, h.tape, h.output, h.size, h.block⟩
theorem Turn.drewN {F : Nat → Prop} {a w : World} (h : Turn F a w) (n : Nat) : Turn F a (w.drewN n) := ⟨h.os, h.tape, h.output, h.size, h.block⟩
theorem cell_in {w : World} {b j : Nat} {c : Array Value} {t : TypeId} {f : Nat × Nat} (h : w.heap[b]? = some (.cells c t f)) : w.cell? ⟨b, j, none⟩ = c[j]? := cell_of_row _ _ j _ _ _ h
/-- A number was put in at a place. -/
def InsTo (v : Value) (l : List Int) (W : World) (e : Ending) (W' : World) : Prop :=
  ∃ v', e = .returned v' ∧ LstAt W' v' l ∧ Turn (fun k => v.ownBlock = some k) W W' ∧ ∀ g, v'.ownBlock = some g → v.ownBlock = some g ∨ W.heap.size ≤ g
theorem vals_get (l : List Int) (j : Nat) (v : Value) (h : (l.map (Value.int .i64))[j]? = some v) : j < l.length ∧ v = .int .i64 (l.getD j 0) := by
  rw [List.getElem?_map] at h
  cases hj : l[j]? with
  | none => rw [hj] at h; cases h
  | some y =>
    rw [hj] at h; cases h
    exact ⟨(List.getElem?_eq_some_iff.1 hj).1, by rw [List.getD_eq_getElem?_getD, hj]; rfl⟩
theorem vals_get' (l : List Int) (j : Nat) (h : j < l.length) : (l.map (Value.int .i64))[j]? = some (.int .i64 (l.getD j 0)) := by
  rw [List.getElem?_map, List.getD_eq_getElem?_getD, List.getElem?_eq_getElem h]; rfl
theorem one_vals (l : List Int) : ∀ v ∈ l.map (Value.int .i64), v.oneCell' = true := by
  intro v hv
  obtain ⟨x, _, rfl⟩ := List.mem_map.1 hv
  rfl
theorem ins87_grow (v : Value) (l : List Int) (i : Nat) (hi : i ≤ l.length) (x : Int) (vb : Nat) (W : World) (hl : l.length ≤ 1000000) (a : Option Addr) (cap : Nat) (hv' : v = .slice a l.length cap) (hcap : l.length ≤ cap) (hroom : cap < l.length + 1)
    (ha : a = none ∧ l = [] ∨ ∃ g, a = some ⟨g, 0, none⟩ ∧ ∀ j, j < l.length → W.cell? ⟨g, j, none⟩ = some (.int .i64 (l.getD j 0)))
    (hv : W.cell? ⟨vb, 0, none⟩ = some (.int .i64 x)) :
    Calls Tryz.prog 314 #[v, .int .i64 i, .slice (some ⟨vb, 0, none⟩) 1 1] W (InsTo v (insAt l i x) W) := by
  subst hv'
  have hvs : ∀ j u, [Value.int .i64 x][j]? = some u → W.cell? ⟨vb, 0 + j, none⟩ = some u := by
    intro j u hj
    cases j with
    | zero => simp at hj; subst hj; exact hv
    | succ j => simp at hj
  have hov : ∀ u ∈ [Value.int .i64 x], u.oneCell' = true := by simp [Value.oneCell']
  by_cases hie : i = l.length
  · subst hie
    refine (Any2.slices_Insert_int_end_grow Tryz.laysIns a l.length cap vb 0 1 1 (l.map (Value.int .i64)) [.int .i64 x] W (by omega) hcap hroom (by omega) (by simp) rfl (fun e => by rcases ha with ⟨_, rfl⟩ | ⟨g, rfl, _⟩; rfl; cases e) ?_ hvs hov).mono ?_
    · intro b hb j u hj
      obtain ⟨h1, rfl⟩ := vals_get _ _ _ hj
      rcases ha with ⟨rfl, _⟩ | ⟨g, rfl, hc⟩
      · cases hb
      · cases hb
        have := hc j h1
        rw [Addr.add_lit, Nat.zero_add]; exact this
    · rintro e W' ⟨rfl, rfl⟩
      have hg := grownCap_ge W (l.length + 1) cap 3
      have hg2 := grownCap_le_maxLen W (l.length + 1) cap 3 (by unfold maxLen; omega)
      unfold maxLen at hg2
      obtain ⟨C, hC⟩ : ∃ C, C = grownCap W (l.length + 1) cap 3 := ⟨_, rfl⟩
      have e3 : Tryz.laysIns_ren.t 3 = 3 := rfl
      rw [e3, ← hC]
      rw [← hC] at hg hg2
      refine ⟨_, rfl, Or.inr ⟨W.heap.size, C, _, ?_, heap_alloc_new W.drew _, ?_, hg2, ?_, ?_, ?_⟩, ?_, ?_⟩
      · rw [insAt_len (Nat.le_refl _)]
      · rw [insAt_len (Nat.le_refl _)]; exact hg
      · simp [size_zeroCells, Value.cells]; omega
      · simp [size_zeroCells, Value.cells]; omega
      · intro k hk
        rw [insAt_len (Nat.le_refl _)] at hk
        rw [insAt_get (Nat.le_refl _)]
        rw [Array.getElem?_append_left (by simp; omega)]
        simp only [List.getElem?_toArray]
        rw [List.getElem?_append]
        by_cases h1 : k < l.length
        · rw [if_pos (by simpa using h1), if_pos h1]; exact vals_get' _ _ h1
        · have : k = l.length := by omega
          subst this
          simp
      · exact (Turn.refl _ W).drew.alloc _
      · intro g hg'; cases hg'; exact Or.inr (Nat.le_refl _)
  · rcases ha with ⟨_, rfl⟩ | ⟨g, rfl, hc⟩
    · simp at hi hie; omega
    refine (Any2.slices_Insert_int_grow Tryz.laysIns g 0 l.length cap i vb 0 1 1 (l.map (Value.int .i64)) [.int .i64 x] W (by omega) (by omega) hcap hroom (by omega) (by simp) rfl ?_ hvs (one_vals l) hov).mono ?_
    · intro j u hj
      obtain ⟨h1, rfl⟩ := vals_get _ _ _ hj
      rw [Nat.zero_add]; exact hc j h1
    · rintro e W' ⟨rfl, rfl⟩
      have hg := grownCap_ge W (l.length + 1) cap 3
      have hg2 := grownCap_le_maxLen W (l.length + 1) cap 3 (by unfold maxLen; omega)
      unfold maxLen at hg2
      obtain ⟨C, hC⟩ : ∃ C, C = grownCap W (l.length + 1) cap 3 := ⟨_, rfl⟩
      have e3 : Tryz.laysIns_ren.t 3 = 3 := rfl
      rw [e3, ← hC]
      rw [← hC] at hg hg2
      obtain ⟨c0, hc0⟩ : ∃ c0, c0 = (((l.map (Value.int .i64)).take i).toArray ++ Builtin.zeroCells (Value.int .i64 0).cells (l.length + 1 - i) ++ Builtin.zeroCells (Value.int .i64 0).cells (C - (l.length + 1))) := ⟨_, rfl⟩
      rw [← hc0]
      have s0 : c0.size = C := by rw [hc0]; simp [size_zeroCells, Value.cells]; omega
      have g0 : ∀ k, k < i → c0[k]? = some (.int .i64 (l.getD k 0)) := by
        intro k hk
        rw [hc0, Array.getElem?_append_left (by simp [size_zeroCells]; omega), Array.getElem?_append_left (by simp; omega)]
        simp only [List.getElem?_toArray]
        rw [List.getElem?_take, if_pos hk]; exact vals_get' _ _ (by omega)
      clear hc0
      have h0 : (W.alloc (.cells c0 3)).heap[W.heap.size]? = some (.cells c0 3 (0, 0)) := heap_alloc_new W _
      obtain ⟨c1, h1, s1⟩ := heap_setCells W.heap.size [.int .i64 x] i (W.alloc (.cells c0 3)).drew c0 3 (0, 0) h0
      obtain ⟨c2, h2, s2⟩ := heap_setCells W.heap.size ((l.map (Value.int .i64)).drop i) (i + 1) (((W.alloc (.cells c0 3)).drew.setCells W.heap.size i [.int .i64 x]).drew) c1 3 (0, 0) h1
      have r0 : ∀ j, j < C → ((W.alloc (.cells c0 3)).drew.cell? ⟨W.heap.size, j, none⟩).isSome = true := fun j hj => by
        rw [cell_in (w := (W.alloc (.cells c0 3)).drew) h0, Array.getElem?_eq_getElem (by omega)]; rfl
      have r1 : ∀ j, j < C → ((((W.alloc (.cells c0 3)).drew.setCells W.heap.size i [.int .i64 x]).drew).cell? ⟨W.heap.size, j, none⟩).isSome = true := fun j hj => by
        rw [cell_in (w := ((W.alloc (.cells c0 3)).drew.setCells W.heap.size i [.int .i64 x]).drew) h1, Array.getElem?_eq_getElem (by omega)]; rfl
      refine ⟨_, rfl, Or.inr ⟨W.heap.size, C, c2, ?_, h2, ?_, hg2, by omega, by omega, ?_⟩, ?_, ?_⟩
      · rw [insAt_len hi]
      · rw [insAt_len hi]; exact hg
      · intro k hk
        rw [insAt_len hi] at hk
        rw [insAt_get hi, ← cell_in h2]
        by_cases k1 : k < i
        · rw [if_pos k1, World.cell?_setCells_out _ _ _ _ _ (fun _ _ => Or.inl (by show k < i + 1; omega))]
          show (((W.alloc (.cells c0 3)).drew.setCells W.heap.size i [.int .i64 x]).cell? ⟨W.heap.size, k, none⟩) = _
          rw [World.cell?_setCells_out _ _ _ _ _ (fun _ _ => Or.inl (by show k < i; omega))]
          rw [cell_in (w := (W.alloc (.cells c0 3)).drew) h0]; exact g0 k k1
        · rw [if_neg k1]
          by_cases k2 : k = i
          · subst k2
            rw [if_pos rfl, World.cell?_setCells_out _ _ _ _ _ (fun _ _ => Or.inl (by show k < k + 1; omega))]
            show (((W.alloc (.cells c0 3)).drew.setCells W.heap.size k [.int .i64 x]).cell? ⟨W.heap.size, k, none⟩) = _
            have := World.cell?_setCells_in W.heap.size [.int .i64 x] k (W.alloc (.cells c0 3)).drew (fun j hj => r0 _ (by simp at hj; omega)) 0 (by simp)
            simpa using this
          · rw [if_neg k2]
            have hd : ((l.map (Value.int .i64)).drop i).length = l.length - i := by simp
            have := World.cell?_setCells_in W.heap.size ((l.map (Value.int .i64)).drop i) (i + 1) (((W.alloc (.cells c0 3)).drew.setCells W.heap.size i [.int .i64 x]).drew) (fun j hj => r1 _ (by omega)) (k - (i + 1)) (by omega)
            rw [show i + 1 + (k - (i + 1)) = k by omega] at this
            rw [this]
            have e1 : ((l.map (Value.int .i64)).drop i)[k - (i + 1)]? = some (.int .i64 (l.getD (k - 1) 0)) := by
              rw [List.getElem?_drop, show i + (k - (i + 1)) = k - 1 by omega]; exact vals_get' _ _ (by omega)
            rw [← e1, List.getElem?_eq_getElem]
      · exact Turn.setCells (fun e => absurd e (by omega)) _ _ _ (Turn.setCells (fun e => absurd e (by omega)) _ _ _ ((Turn.refl _ W).alloc _).drew).drew
      · intro g hg'; cases hg'; exact Or.inr (Nat.le_refl _)
theorem ins87_room (g cap : Nat) (c : Array Value) (l : List Int) (i : Nat) (hi : i ≤ l.length) (x : Int) (vb : Nat) (W : World) (hl : l.length ≤ 1000000) (h : W.heap[g]? = some (.cells c 3 (0, 0))) (hroom : l.length + 1 ≤ cap) (hc63 : cap ≤ 9223372036854775807) (hcs : cap ≤ c.size) (hc : ∀ k, k < l.length → c[k]? = some (.int .i64 (l.getD k 0)))
    (hv : W.heap[vb]? = some (.cells #[.int .i64 x] 3 (0, 0))) (hne : vb ≠ g) :
    Calls Tryz.prog 314 #[.slice (some ⟨g, 0, none⟩) l.length cap, .int .i64 i, .slice (some ⟨vb, 0, none⟩) 1 1] W (InsTo (.slice (some ⟨g, 0, none⟩) l.length cap) (insAt l i x) W) := by
  have hvs : ∀ j u, [Value.int .i64 x][j]? = some u → W.cell? ⟨vb, 0 + j, none⟩ = some u := by
    intro j u hj
    cases j with
    | zero => simp at hj; subst hj; rw [cell_in hv]; rfl
    | succ j => simp at hj
  have hov : ∀ u ∈ [Value.int .i64 x], u.oneCell' = true := by simp [Value.oneCell']
  have hfz : ∀ b (c : Array Value) (t : TypeId), W.heap[b]? = some (.cells c t (0, 0)) → ∀ j, W.frozen? ⟨b, j, none⟩ = false := fun b c t h j => by unfold World.frozen?; rw [h]; simp
  have r0 : ∀ j, j < cap → (W.cell? ⟨g, j, none⟩).isSome = true := fun j hj => by
    rw [cell_in h, Array.getElem?_eq_getElem (by omega)]; rfl
  by_cases hie : i = l.length
  · subst hie
    refine (Any2.slices_Insert_int_end_room Tryz.laysIns g 0 l.length cap vb 0 1 1 [.int .i64 x] W (by omega) hroom hc63 rfl (fun j hj => by rw [show 0 + l.length + j = l.length + j by omega]; exact r0 _ (by omega)) (fun j hj => hfz _ _ _ h _) hvs hov).mono ?_
    rintro e W' ⟨rfl, rfl⟩
    rw [Nat.zero_add]
    obtain ⟨c1, h1, s1⟩ := heap_setCells g [.int .i64 x] l.length W c 3 (0, 0) h
    refine ⟨_, rfl, Or.inr ⟨g, cap, c1, ?_, h1, ?_, hc63, by omega, by omega, ?_⟩, ?_, fun g' hg' => by cases hg'; exact Or.inl rfl⟩
    · rw [insAt_len (Nat.le_refl _)]
    · rw [insAt_len (Nat.le_refl _)]; exact hroom
    · intro k hk
      rw [insAt_len (Nat.le_refl _)] at hk
      rw [insAt_get (Nat.le_refl _), ← cell_in h1]
      by_cases k1 : k < l.length
      · rw [if_pos k1, World.cell?_setCells_out _ _ _ _ _ (fun _ _ => Or.inl (by show k < l.length; omega)), cell_in h]; exact hc k k1
      · obtain rfl : k = l.length := by omega
        rw [if_neg k1, if_pos rfl]
        have := World.cell?_setCells_in g [.int .i64 x] l.length W (fun j hj => r0 _ (by simp at hj; omega)) 0 (by simp)
        simpa using this
    · exact Turn.setCells (F := fun k => (Value.slice (some ⟨g, 0, none⟩) l.length cap).ownBlock = some k) (fun _ => rfl) _ _ _ (Turn.refl _ W)
  · have hsa : W.shape? vb = some (3, 1) := by unfold World.shape?; rw [hv]; rfl
    have hsb : W.shape? g = some (3, c.size) := by unfold World.shape?; rw [h]
    refine (Any2.slices_Insert_int_shift Tryz.laysIns g 0 l.length cap i vb 0 1 1 (l.map (Value.int .i64)) [.int .i64 x] W (by omega) (by omega) hroom hc63 hne (by simp) rfl ?_ (fun j hj => by rw [Nat.zero_add]; exact r0 _ (by omega)) (fun j hj => hfz _ _ _ h _) hvs (one_vals l) hov 3 3 1 c.size hsa hsb (by omega) (hfz _ _ _ hv _) (hfz _ _ _ hv _)).mono ?_
    · intro j u hj
      obtain ⟨h1, rfl⟩ := vals_get _ _ _ hj
      rw [Nat.zero_add, cell_in h]; exact hc j h1
    · rintro e W' ⟨rfl, rfl⟩
      rw [Nat.zero_add, Nat.zero_add]
      have h0 : W.drew.heap[g]? = some (.cells c 3 (0, 0)) := h
      obtain ⟨c1, h1, s1⟩ := heap_setCells g ((l.map (Value.int .i64)).drop i) (i + 1) W.drew c 3 (0, 0) h0
      obtain ⟨c2, h2, s2⟩ := heap_setCells g [.int .i64 x] i (W.drew.setCells g (i + 1) ((l.map (Value.int .i64)).drop i)) c1 3 (0, 0) h1
      have q0 : ∀ j, j < cap → (W.drew.cell? ⟨g, j, none⟩).isSome = true := r0
      have q1 : ∀ j, j < cap → ((W.drew.setCells g (i + 1) ((l.map (Value.int .i64)).drop i)).cell? ⟨g, j, none⟩).isSome = true := fun j hj => by
        rw [cell_in h1, Array.getElem?_eq_getElem (by omega)]; rfl
      refine ⟨_, rfl, Or.inr ⟨g, cap, c2, ?_, h2, ?_, hc63, by omega, by omega, ?_⟩, ?_, fun g' hg' => by cases hg'; exact Or.inl rfl⟩
      · rw [insAt_len hi]
      · rw [insAt_len hi]; exact hroom
      · intro k hk
        rw [insAt_len hi] at hk
        rw [insAt_get hi, ← cell_in h2]
        have hd : ((l.map (Value.int .i64)).drop i).length = l.length - i := by simp
        by_cases k1 : k < i
        · rw [if_pos k1, World.cell?_setCells_out _ _ _ _ _ (fun _ _ => Or.inl (by show k < i; omega)), World.cell?_setCells_out _ _ _ _ _ (fun _ _ => Or.inl (by show k < i + 1; omega))]
          rw [cell_in h0]; exact hc k (by omega)
        · rw [if_neg k1]
          by_cases k2 : k = i
          · subst k2
            rw [if_pos rfl]
            have := World.cell?_setCells_in g [.int .i64 x] k (W.drew.setCells g (k + 1) ((l.map (Value.int .i64)).drop k)) (fun j hj => q1 _ (by simp at hj; omega)) 0 (by simp)
            simpa using this
          · rw [if_neg k2, World.cell?_setCells_out _ _ _ _ _ (fun _ _ => Or.inr (by show i + 1 ≤ k; omega))]
            have := World.cell?_setCells_in g ((l.map (Value.int .i64)).drop i) (i + 1) W.drew (fun j hj => q0 _ (by omega)) (k - (i + 1)) (by omega)
            rw [show i + 1 + (k - (i + 1)) = k by omega] at this
            rw [this]
            have e1 : ((l.map (Value.int .i64)).drop i)[k - (i + 1)]? = some (.int .i64 (l.getD (k - 1) 0)) := by
              rw [List.getElem?_drop, show i + (k - (i + 1)) = k - 1 by omega]; exact vals_get' _ _ (by omega)
            rw [← e1, List.getElem?_eq_getElem]
      · exact Turn.setCells (F := fun k => (Value.slice (some ⟨g, 0, none⟩) l.length cap).ownBlock = some k) (fun _ => rfl) _ _ _ (Turn.setCells (F := fun k => (Value.slice (some ⟨g, 0, none⟩) l.length cap).ownBlock = some k) (fun _ => rfl) _ _ _ (Turn.refl _ W).drew)
theorem ins87 (v : Value) (l : List Int) (i : Nat) (hi : i ≤ l.length) (x : Int) (vb : Nat) (W : World) (hl : l.length ≤ 1000000) (h : LstAt W v l) (hv : W.heap[vb]? = some (.cells #[.int .i64 x] 3 (0, 0))) (hne : v.ownBlock ≠ some vb) :
    Calls Tryz.prog 314 #[v, .int .i64 i, .slice (some ⟨vb, 0, none⟩) 1 1] W (InsTo v (insAt l i x) W) := by
  have hv0 : W.cell? ⟨vb, 0, none⟩ = some (.int .i64 x) := by rw [cell_in hv]; rfl
  rcases h with ⟨rfl, rfl⟩ | ⟨g, cap, c, rfl, h1, h2, h3, h4, h5, h6⟩
  · exact ins87_grow _ [] i hi x vb W hl none 0 rfl (Nat.le_refl _) (by simp) (Or.inl ⟨rfl, rfl⟩) hv0
  · by_cases hr : l.length + 1 ≤ cap
    · exact ins87_room g cap c l i hi x vb W hl h1 hr h3 h4 h6 hv (fun e => hne (by rw [e]; rfl))
    · exact ins87_grow _ l i hi x vb W hl (some ⟨g, 0, none⟩) cap rfl h2 (by omega) (Or.inr ⟨g, rfl, fun j hj => by rw [cell_in h1]; exact h6 j hj⟩) hv0
end Go.Proofs.YtibelcmdfkgonaaGreat

namespace Go.Proofs.YtibelcmdfkgonaaGreat
open Go.RowKit Go.BigFrame
set_option linter.unusedVariables false
set_option linter.unusedSimpArgs false
/-- A number into a rising row. -/
def insS (l : List Int) (x : Int) : List Int := if l.contains x then l else insAt l (l.countP (· < x)) x
/-- What lies at one place of a block of rows is another one. -/
def SetTo (fb t : Nat) (v : Value) (l : List Int) (W : World) (e : Ending) (W' : World) : Prop :=
  (∃ u, e = .returned u) ∧ ∃ v' W1, Turn (fun k => v.ownBlock = some k) W W1 ∧ LstAt W1 v' l ∧ (∀ g, v'.ownBlock = some g → v.ownBlock = some g ∨ W.heap.size ≤ g) ∧ W' = W1.setCell ⟨fb, t, none⟩ v'
theorem LstAt.slice {W : World} {v : Value} {l : List Int} (h : LstAt W v l) : ∃ a n c, v = .slice a n c := by
  rcases h with ⟨rfl, _⟩ | ⟨g, cap, c, rfl, _⟩
  · exact ⟨_, _, _, rfl⟩
  · exact ⟨_, _, _, rfl⟩
theorem search86 (v : Value) (l : List Int) (x : Int) (W : World) (hl : l.length ≤ 1000000) (h : LstAt W v l) (hs : l.Pairwise (· < ·)) :
    Calls Tryz.prog 313 #[v, .int .i64 x] W fun e w' => e = .returned (.tuple #[.int .i64 (l.countP (· < x) : Nat), .bool (l.contains x)]) ∧ w'.heap = W.heap ∧ Below W.heap.size W w' := by
  rcases h with ⟨rfl, rfl⟩ | ⟨g, cap, c, rfl, h1, h2, h3, h4, h5, h6⟩
  · refine (Tryz.slices_BinarySearch_int_empty none 0 x W).mono ?_
    rintro e w' ⟨rfl, rfl⟩
    exact ⟨rfl, rfl, Below.refl _ _⟩
  · refine (Tryz.slices_BinarySearch_int g 0 l.length cap l x W (Nat.le_refl _) (by omega) (fun j hj => by rw [Nat.zero_add, cell_in h1]; exact h6 j hj) (by rw [List.take_length]; exact hs.imp fun h => Int.le_of_lt h)).mono ?_
    rintro e w' ⟨rfl, q, rfl⟩
    rw [List.take_length]
    exact ⟨rfl, rfl, rfl, rfl, rfl, Nat.le_refl _, fun _ _ => rfl⟩
set_option maxRecDepth 100000 in
theorem put76_in (fb t : Nat) (v : Value) (l : List Int) (x : Int) (W : World) (hl : l.length ≤ 1000000) (hc : W.cell? ⟨fb, t, none⟩ = some v) (h : LstAt W v l) (hs : l.Pairwise (· < ·)) (hx : l.contains x = true) :
    Calls Tryz.prog 287 #[.pointer (some ⟨fb, t, none⟩), .int .i64 x] W (fun e W' => (∃ u, e = .returned u) ∧ Below W.heap.size W W' ∧ W'.heap = W.heap) := by
  have HS := Lib.hid (search86 v l x W hl h hs)
  rw [hx] at HS
  generalize l.countP (· < x) = i at *
  clear h hs hx
  go_enter Tryz.func287, Tryz.ntmps287
  go_wp2_with fail
  refine HS.out.mono ?_
  rintro e w1 ⟨rfl, hh, hb⟩
  have HH := Lib.hid hh
  have HB := Lib.hid hb
  clear hh hb
  go_wp2_with fail
  go_end0
  exact ⟨⟨_, rfl⟩, HB.out, HH.out⟩
set_option maxRecDepth 100000 in
theorem put76_new (fb t : Nat) (v : Value) (l : List Int) (x : Int) (W : World) (hl : l.length ≤ 1000000) (hc : W.cell? ⟨fb, t, none⟩ = some v) (hf : W.frozen? ⟨fb, t, none⟩ = false) (hlt : fb < W.heap.size) (hfv : v.ownBlock ≠ some fb) (h : LstAt W v l) (hs : l.Pairwise (· < ·)) (hx : l.contains x = false) :
    Calls Tryz.prog 287 #[.pointer (some ⟨fb, t, none⟩), .int .i64 x] W (SetTo fb t v (insAt l (l.countP (· < x)) x) W) := by
  have HS := Lib.hid (search86 v l x W hl h hs)
  rw [hx] at HS
  have HL : Hid (∀ w : World, w.heap = W.heap → ∀ vb, w.heap.size = vb → Calls Tryz.prog 314 #[v, .int .i64 (l.countP (· < x) : Nat), .slice (some ⟨vb, 0, none⟩) 1 1] (w.alloc (.cells #[.int .i64 x] 3)) (InsTo v (insAt l (l.countP (· < x)) x) (w.alloc (.cells #[.int .i64 x] 3)))) := Lib.hid fun w hw vb hvb => by
    subst hvb
    refine ins87 v l (l.countP (· < x)) List.countP_le_length x w.heap.size _ hl ?_ (heap_alloc_new w _) (fun e => ?_)
    · refine h.keep fun g hg => ?_
      have := h.lt hg
      rw [Below.heap_alloc _ _ _ (by rw [hw]; exact this), hw]
    · have := h.lt e; rw [hw] at this; omega
  generalize l.countP (· < x) = i at *
  have HLT := Lib.hid hlt
  have HF := Lib.hid hf
  have HFV := Lib.hid hfv
  have HC := Lib.hid hc
  clear h hs hx hlt hf hfv
  go_enter Tryz.func287, Tryz.ntmps287
  go_wp2_with fail
  refine HS.out.mono ?_
  rintro e w1 ⟨rfl, hh, hb⟩
  have hc1 : w1.cell? ⟨fb, t, none⟩ = some v := (cell_same hh _).trans HC.out
  have HH := Lib.hid hh
  have HB := Lib.hid hb
  clear hh hb
  go_wp2_with fail
  refine (HL.out w1 HH.out _ rfl).mono ?_
  rintro e w2 ⟨v', rfl, hl', ht, hn⟩
  have hsz : W.heap.size < (w1.alloc (.cells #[.int .i64 x] 3)).heap.size := by simp [HH.out]
  have e2 : w2.heap[fb]? = W.heap[fb]? := by
    rw [ht.block fb (by have := HLT.out; omega) (fun e => HFV.out e), Below.heap_alloc _ _ _ (by rw [HH.out]; exact HLT.out), HH.out]
  have hc2 : w2.cell? ⟨fb, t, none⟩ = some v := (cell_of_heap e2 t).trans HC.out
  have hf2 : w2.frozen? ⟨fb, t, none⟩ = false := (frozen_of_heap e2 t).trans HF.out
  have HE : Hid (Turn (fun k => v.ownBlock = some k) W w2) := Lib.hid (((Turn.of_below HB.out).alloc _).trans ht (fun _ _ h => h))
  have HN : Hid (∀ g, v'.ownBlock = some g → v.ownBlock = some g ∨ W.heap.size ≤ g) := Lib.hid fun g hg => by
    rcases hn g hg with h | h
    · exact Or.inl h
    · exact Or.inr (by omega)
  have HL2 := Lib.hid hl'
  obtain ⟨a', n', k', rfl⟩ := hl'.slice
  clear ht hl' hn hsz e2 hc hc1
  go_wp2_with fail
  go_end0
  exact ⟨⟨_, rfl⟩, _, w2, HE.out, HL2.out, HN.out, rfl⟩
end Go.Proofs.YtibelcmdfkgonaaGreat
