/- Layer 2, the document's: the sum of words.
   A run reckoned: the page's example of layer 22.
   Layer 22: of no recovery nothing is told; the most steps.
   Layer 22: law 4, of any config.
   What a value that was read as data holds, cell by cell: structs, arrays, slices of them. No program here.
   Layer 22: a config that came in, opened. No walk here.
   Layer 22: law 4. -/
import Derived.Test.YtibelcmdfkgonaaGreatJ28
import Derived.Test.YtibelcmdfkgonaaGreatJ16
import Derived.Test.YtibelcmdfkgonaaGreatJ17
import Derived.Test.YtibelcmdfkgonaaGreatJ27
import Derived.Test.YtibelcmdfkgonaaGreatJ23
import Derived.IntWalk
import Derived.Below
import Derived.WalkKit
import Derived.ProofKit
import Derived.OpenShut
import Derived.Deep.Slices
import Derived.Lib.Hide
import Derived.Lib.SmallJoins
namespace Go.Proofs.YtibelcmdfkgonaaGreat
open Go.RowKit Go.BigFrame
set_option linter.unusedVariables false
set_option linter.unusedSimpArgs false
/-- A row of values. -/
def valsL (g : Nat → Value) (n : Nat) : List Value := (List.range n).map g
theorem valsL_next (g : Nat → Value) (n : Nat) : valsL g (n + 1) = valsL g n ++ [g n] := by simp [valsL, List.range_succ]
theorem valsL_get (g : Nat → Value) (n j : Nat) (h : j < n) : (valsL g n)[j]?.getD undef = g j := by
  unfold valsL; rw [List.getElem?_map, List.getElem?_range h]; rfl
def byteAt (f : Nat → Nat) (j : Nat) : Nat := f (j / 8) / 256 ^ (j % 8) % 256
theorem byteAt_at (f : Nat → Nat) (k q : Nat) (h : q < 8) : byteAt f (8 * k + q) = f k / 256 ^ q % 256 := by
  unfold byteAt; rw [show (8 * k + q) / 8 = k by omega, show (8 * k + q) % 8 = q by omega]
theorem word_bits (x : Nat) : bitsOf 64 x = bitsOf 8 (x / 256 ^ 0 % 256) ++ bitsOf 8 (x / 256 ^ 1 % 256) ++ bitsOf 8 (x / 256 ^ 2 % 256) ++ bitsOf 8 (x / 256 ^ 3 % 256) ++ bitsOf 8 (x / 256 ^ 4 % 256) ++ bitsOf 8 (x / 256 ^ 5 % 256) ++ bitsOf 8 (x / 256 ^ 6 % 256) ++ bitsOf 8 (x / 256 ^ 7 % 256) := by
  have e : ∀ q, bitsOf 8 (x / 256 ^ q % 256) = bitsOf 8 (x / 2 ^ (8 * q)) := fun q => by
    rw [show bitsOf 8 (x / 256 ^ q % 256) = bitsOf 8 (x / 256 ^ q) from bitsOf_mod 8 _, show (256 : Nat) = 2 ^ 8 from rfl, ← Nat.pow_mul]
  rw [e, e, e, e, e, e, e, e]
  have s : ∀ a, bitsOf (8 + a) x = bitsOf 8 x ++ bitsOf a (x / 2 ^ 8) := fun a => bitsOf_append 8 a x
  have g : ∀ a b, bitsOf (a + b) x = bitsOf a x ++ bitsOf b (x / 2 ^ a) := fun a b => bitsOf_append a b x
  rw [show 64 = 56 + 8 from rfl, g, show 56 = 48 + 8 from rfl, g, show 48 = 40 + 8 from rfl, g, show 40 = 32 + 8 from rfl, g, show 32 = 24 + 8 from rfl, g, show 24 = 16 + 8 from rfl, g, show 16 = 8 + 8 from rfl, g]
  simp
theorem byteBits_words (f : Nat → Nat) : ∀ n, byteBits (byteAt f) (8 * n) = (List.range n).flatMap fun j => bitsOf 64 (f j)
  | 0 => rfl
  | n + 1 => by
    rw [bitsAll_next, ← byteBits_words f n, show 8 * (n + 1) = 8 * n + 7 + 1 by omega]
    rw [byteBits_next, byteBits_next, byteBits_next, byteBits_next, byteBits_next, byteBits_next, byteBits_next, byteBits_next, word_bits]
    rw [byteAt_at f n 7 (by omega), byteAt_at f n 6 (by omega), byteAt_at f n 5 (by omega), byteAt_at f n 4 (by omega), byteAt_at f n 3 (by omega), byteAt_at f n 2 (by omega), byteAt_at f n 1 (by omega)]
    rw [show byteAt f (8 * n) = f n / 256 ^ 0 % 256 from byteAt_at f n 0 (by omega)]
    simp only [List.append_assoc]
theorem byteAt_lt (f : Nat → Nat) (j : Nat) : byteAt f j < 256 := Nat.mod_lt _ (by decide)
set_option maxRecDepth 100000 in
set_option maxHeartbeats 8000000 in
theorem words31 (f : Nat → Nat) (hf : ∀ j, f j < 18446744073709551616) (n : Nat) (hn : n ≤ 10000) (a : Option Addr) (cap : Nat) (w : World) (h : WordsN w.heap.size w a n f) :
    Calls Tryz.prog 232 #[.slice a n cap] w fun e w' => e = .returned (.int .u32 (sumW f n)) ∧ Below w.heap.size w w' := by
  obtain ⟨i5, hi, hz0, hz1, hz2⟩ := info_parts info5
  obtain ⟨B, hB⟩ : ∃ B, B = w.heap.size := ⟨_, rfl⟩
  obtain ⟨b, off, ha, hc⟩ := h
  rw [← hB] at ha ⊢
  have HB := Lib.hid hB
  have HA := Lib.hid ha
  have HC := Lib.hid hc
  have HF := Lib.hid hf
  obtain ⟨fb, hfb⟩ : ∃ fb, fb = byteAt f := ⟨_, rfl⟩
  have HFB : Hid (∀ k q, q < 8 → fb (8 * k + q) = f k / 256 ^ q % 256) := Lib.hid (by rw [hfb]; exact byteAt_at f)
  obtain ⟨g, hg⟩ : ∃ g : Nat → Value, g = fun j => .int .u8 (Int.ofNat (fb j)) := ⟨_, rfl⟩
  have HG : Hid (∀ j, g j = .int .u8 (Int.ofNat (fb j))) := Lib.hid fun j => by rw [hg]
  have HE := Lib.hid (And.intro hfb hg)
  clear ha hc hB hf hfb hg
  go_enter Tryz.func232, Tryz.ntmps232
  go_wp2_with fail
  go_loopw [3, 4] (fun v i wr => ∃ k : Nat, k ≤ n ∧ i = .int .i64 k ∧ Hid (wr.ownsRow B 5 1 v (8 * k) (valsL g (8 * k))) ∧ Hid (Below B w wr)) (fun _ i _ => n - (intOf i).toNat)
  case atStart => exact ⟨0, by omega, rfl, World.ownsRow_nil _ _ _ _, by rw [HB.out]; exact Below.refl _ _⟩
  case round =>
    obtain ⟨k, hk, rfl, HO, HBE⟩ := hrel
    by_cases hlt : k < n
    · have d1 : decide ((k : Int) < (n : Int)) = true := bool_yes (by omega)
      obtain ⟨rfl, hb⟩ := HA.out (by omega)
      have e1 : wr.cell? ⟨b, off + k, none⟩ = some (.int .u64 (f k)) := by rw [HBE.out.cell (p := ⟨b, off + k, none⟩) hb, HC.out k hlt]
      have hfk := HF.out k
      have HFk : Hid (∀ q, q < 8 → fb (8 * k + q) = f k / 256 ^ q % 256) := Lib.hid (HFB.out k)
      generalize f k = x at *
      go_wp2_with fail
      clear e1
      go_loopw [3, 5, 6] (fun v y i wr => ∃ (m z : Nat), m ≤ 8 ∧ z < 18446744073709551616 ∧ i = .int .i64 m ∧ y = .int .u64 z ∧ Hid (z = x / 256 ^ m) ∧ Hid (wr.ownsRow B 5 1 v (8 * k + m) (valsL g (8 * k + m))) ∧ Hid (Below B w wr)) (fun _ _ i _ => 8 - (intOf i).toNat)
      case atStart => exact ⟨0, x, by omega, hfk, rfl, rfl, by simp [Hid], HO, HBE⟩
      case round =>
        clear HO HBE
        obtain ⟨m, z, hm, hz, rfl, rfl, HZ, HO, HBE⟩ := hrel
        have hBw : B ≤ wr.heap.size := by have := HBE.out.size; have := HB.out; omega
        have q1 : 8 * k + m + 1 ≤ maxLen := by unfold maxLen; omega
        have q2 : (8 * k + m + 1) * 1 ≤ 140737488355328 := by omega
        obtain ⟨va, vc, rfl⟩ := own_slice_n HO.out
        by_cases hlt8 : m < 8
        · have d2 : decide ((m : Int) < 8) = true := bool_yes (by omega)
          have HY : Hid (g (8 * k + m) = .int .u8 ((z : Int) % 256)) := Lib.hid (by rw [HG.out, HFk.out m hlt8, ← HZ.out]; rfl)
          have HZ' : Hid (z / 256 = x / 256 ^ (m + 1)) := Lib.hid (by rw [HZ.out, Nat.div_div_eq_div_mul, Nat.pow_succ])
          go_wp2_with (at_builtin; refine wpList_push rfl (.tmp 21) (.tmp 25) 79 rfl B 5 i5 (.int .u8 0) 1 1 Tryz.underlying79 hi hz0 hz1 hz2 rfl (by decide) wr hBw (.slice va (8 * k + m) vc) (8 * k + m) (valsL g (8 * k + m)) rfl HO.out #[.int .u8 ((z : Int) % 256)] 1 1 rfl rfl (by simp [Value.oneCell']) q1 q2 ?_; intro v' w' ho' hg' hb' hn'; have HO' := Lib.hid ho'; have HB' := Lib.hid (hb' _ _ HBE.out (Nat.le_refl _)); clear ho' hg' hb' hn')
          go_wp2_with fail
          go_roundw
          case rel => exact ⟨m + 1, z / 256, by omega, by omega, by go_num, by go_num, HZ', Lib.hid (by rw [← Nat.add_assoc, valsL_next, HY.out]; exact HO'.out), HB'⟩
          case measure => simp [intOf]; omega
        · obtain rfl : m = 8 := by omega
          go_wp2_with fail
          go_roundw
          case rel => exact ⟨k + 1, by omega, by go_num, HO, HBE⟩
          case measure => simp [intOf]; omega
    · obtain rfl : k = n := by omega
      have d1 : decide ((k : Int) < (k : Int)) = false := by simp
      obtain ⟨va, vc, rfl⟩ := own_slice_n HO.out
      obtain ⟨a', c', hv, hat⟩ := own_at HO.out
      obtain ⟨rfl, rfl⟩ : va = a' ∧ vc = c' := by cases hv; exact ⟨rfl, rfl⟩
      have HM : Hid (Calls Tryz.prog 290 #[.slice va (8 * k) vc] wr fun e w' => e = .returned (.int .u32 (sumW f k)) ∧ Below wr.heap.size wr w') := Lib.hid (by
        have h1 : CellsAt wr.heap.size wr va (8 * k) fun j => .int .u8 (fb j) := by
          obtain ⟨b', o', h1, h2⟩ := hat
          exact ⟨b', o', h1, fun j hj => by rw [h2 j hj]; show some ((valsL g (8 * k))[j]?.getD undef) = _; rw [valsL_get g _ j hj, HG.out]; rfl⟩
        have h2 := bytes47 fb (by rw [HE.out.1]; exact byteAt_lt f) (8 * k) (by omega) va vc wr h1
        have h3 : ones - crcBits ones (byteBits fb (8 * k)) = sumW f k := by rw [HE.out.1, byteBits_words]; rfl
        rw [h3] at h2; exact h2)
      clear hv hat
      go_wp2_with (go_at_call 290; (with_reducible refine HM.out.mono ?_); rintro e w2 ⟨rfl, hb2⟩; have HB2 := Lib.hid hb2; clear hb2)
      go_ret
      exact ⟨rfl, HBE.out.trans (HB2.out.mono (by have := HBE.out.size; have := HB.out; omega))⟩
end Go.Proofs.YtibelcmdfkgonaaGreat

namespace Go.Proofs.YtibelcmdfkgonaaGreat
namespace Rk
open Go.RowKit
set_option maxRecDepth 1000000
theorem sums360 : SumsWords Tryz.prog 360 sumW := fun a n cap g w h1 h2 hg hb hs hc =>
  ⟨MuLone.run_callFunc_enter Tryz.func360 (by kernel_rfl) (rfl : Tryz.f360.body = some _) _ _, (sum20 (some a) n cap (by omega) g hg w ⟨a.block, a.off, fun _ => ⟨by obtain ⟨x, y, z⟩ := a; cases hs; rfl, hb⟩, hc⟩).mono (by rintro e w' ⟨rfl, rfl⟩; exact ⟨rfl, Below.refl _ _⟩)⟩
theorem sums232 : SumsWords Tryz.prog 232 sumW := fun a n cap g w h1 h2 hg hb hs hc =>
  ⟨MuLone.run_callFunc_enter Tryz.func232 (by kernel_rfl) (rfl : Tryz.f232.body = some _) _ _, words31 g hg n (by omega) (some a) cap w ⟨a.block, a.off, fun _ => ⟨by obtain ⟨x, y, z⟩ := a; cases hs; rfl, hb⟩, hc⟩⟩
theorem orcOk : OrcOk env := fun f g hg args σ v σ' h B w0 R w args' hS hl => by
  have hg : orcT f = some g := hg
  unfold orcT at hg
  split at hg
  · rename_i hf
    rw [beqN] at hf
    have hf := of_decide_eq_true hf
    subst hf
    cases hg
    exact wordsOrc_ok envOk sums360 sumW_list h B w0 R w args' hS hl
  · split at hg
    · rename_i hf
      rw [beqN] at hf
      have hf := of_decide_eq_true hf
      subst hf
      cases hg
      exact wordsOrc_ok envOk sums232 sumW_list h B w0 R w args' hS hl
    · cases hg
theorem awake22 (w : World) : Calls Tryz.prog 22 #[] w fun e w' => e = .returned (.bool true) ∧ Below w.heap.size w w' := reckoned_true envOk orcOk said22 w
end Rk
end Go.Proofs.YtibelcmdfkgonaaGreat

namespace Go.Proofs.YtibelcmdfkgonaaGreat
open Go.RowKit Go.BigFrame
set_option linter.unusedVariables false
set_option linter.unusedSimpArgs false
theorem ret_intA {k : IntKind} {a b : Int} (h : a = b) : Ending.returned (.int k a) = .returned (.int k b) := by rw [h]
theorem cell_of_heapA {W W' : World} {b : Nat} (h : W'.heap[b]? = W.heap[b]?) (j : Nat) : W'.cell? ⟨b, j, none⟩ = W.cell? ⟨b, j, none⟩ := by simp [World.cell?, h]
theorem done24_nil (w : World) : Calls Tryz.prog 24 #[.pointer none] w (Says (.bool true) w) := by
  go_enter Tryz.func24, Tryz.ntmps24
  go_wp2_with fail
  go_ret
  exact ⟨rfl, rfl⟩
theorem up25_nil (w : World) : Calls Tryz.prog 25 #[.pointer none] w (Says (.bool false) w) := by
  go_enter Tryz.func25, Tryz.ntmps25
  go_wp2_with fail
  go_ret
  exact ⟨rfl, rfl⟩
theorem corrupt26_nil (w : World) : Calls Tryz.prog 26 #[.pointer none] w (Says (.bool false) w) := by
  go_enter Tryz.func26, Tryz.ntmps26
  go_wp2_with fail
  go_ret
  exact ⟨rfl, rfl⟩
theorem step27_nil (m : Value) (w : World) : Calls Tryz.prog 27 #[.pointer none, m] w (Says (.bool true) w) := by
  have HD := Lib.hid (done24_nil w)
  go_enter Tryz.func27, Tryz.ntmps27
  go_wp2_with fail
  refine HD.out.mono ?_
  rintro e w1 ⟨rfl, hw⟩
  cases hw
  go_wp2_with fail
  refine HD.out.mono ?_
  rintro e w1 ⟨rfl, hw⟩
  cases hw
  go_wp2_with fail
  go_ret
  exact ⟨rfl, rfl⟩
theorem most23_no (c : Cfg) (w : World) (h : ¬ c.right) : Calls Tryz.prog 23 #[.agg c.cells] w fun e w' => e = .returned (.int .i64 0) ∧ Below w.heap.size w w' := by
  have HR := Lib.hid fun w => right_any c w
  have d : decide c.right = false := decide_eq_false h
  rw [d] at HR
  clear h d
  obtain ⟨th, sl, lo, bu⟩ := c
  simp only [Cfg.cells] at HR ⊢
  have HB := Lib.hid (Below.refl w.heap.size w)
  go_enter Tryz.func23, Tryz.ntmps23
  go_wp2_with fail
  refine (HR.out _).mono ?_
  rintro e w1 ⟨rfl, hb⟩
  have HB1 := Lib.hid hb
  clear hb
  go_wp2_with fail
  go_ret
  exact ⟨rfl, (Below.refl _ _ |>.alloc (Nat.le_refl _) _).trans (HB1.out.mono (by simp))⟩
theorem wrap_small (x : Int) (h0 : -1000000000 ≤ x) (h1 : x ≤ 1000000000) : wrap64 x = x := by unfold wrap64; omega
theorem most23_yes (th sl lo bu : Int) (w : World) (h : Cfg.right ⟨th, sl, lo, bu⟩) : Calls Tryz.prog 23 #[.agg (Cfg.cells ⟨th, sl, lo, bu⟩)] w fun e w' => e = .returned (.int .i64 (12 * sl + 4 * th * lo + 8 * th + 4 * bu + 40)) ∧ Below w.heap.size w w' := by
  have HR := Lib.hid fun w => right_any ⟨th, sl, lo, bu⟩ w
  have d : decide (Cfg.right ⟨th, sl, lo, bu⟩) = true := decide_eq_true h
  rw [d] at HR
  have h' : 1 ≤ th ∧ th ≤ 64 ∧ 1 ≤ sl ∧ sl ≤ 65536 ∧ 1 ≤ lo ∧ lo ≤ 64 ∧ 1 ≤ bu ∧ bu ≤ 64 := h
  obtain ⟨a1, a2, a3, a4, a5, a6, a7, a8⟩ := h'
  obtain ⟨z, hz⟩ : ∃ z, z = 4 * th * lo := ⟨_, rfl⟩
  have z0 : 0 ≤ z := by rw [hz]; exact Int.mul_nonneg (by omega) (by omega)
  have z1 : z ≤ 4 * 64 * 64 := by rw [hz]; exact Int.mul_le_mul (by omega) (by omega) (by omega) (by omega)
  have e1 : wrap64 (12 * sl) = 12 * sl := wrap_small _ (by omega) (by omega)
  have e2 : wrap64 (4 * th) = 4 * th := wrap_small _ (by omega) (by omega)
  have e3 : wrap64 (4 * th * lo) = 4 * th * lo := wrap_small _ (by omega) (by omega)
  have e4 : wrap64 (12 * sl + 4 * th * lo) = 12 * sl + 4 * th * lo := wrap_small _ (by omega) (by omega)
  have e5 : wrap64 (8 * th) = 8 * th := wrap_small _ (by omega) (by omega)
  have e6 : wrap64 (12 * sl + 4 * th * lo + 8 * th) = 12 * sl + 4 * th * lo + 8 * th := wrap_small _ (by omega) (by omega)
  have e7 : wrap64 (4 * bu) = 4 * bu := wrap_small _ (by omega) (by omega)
  have e8 : wrap64 (12 * sl + 4 * th * lo + 8 * th + 4 * bu) = 12 * sl + 4 * th * lo + 8 * th + 4 * bu := wrap_small _ (by omega) (by omega)
  have e9 : wrap64 (12 * sl + 4 * th * lo + 8 * th + 4 * bu + 40) = 12 * sl + 4 * th * lo + 8 * th + 4 * bu + 40 := wrap_small _ (by omega) (by omega)
  have HE : Hid ((wrap64 (wrap64 (wrap64 (wrap64 (wrap64 (12 * sl) + wrap64 (wrap64 (4 * th) * lo)) + wrap64 (8 * th)) + wrap64 (4 * bu)) + 40)) = 12 * sl + 4 * th * lo + 8 * th + 4 * bu + 40) := Lib.hid (by rw [e2, e1, e3, e4, e5, e6, e7, e8, e9])
  clear h d hz z0 z1 a1 a2 a3 a4 a5 a6 a7 a8 e1 e2 e3 e4 e5 e6 e7 e8 e9
  simp only [Cfg.cells] at HR ⊢
  have HB := Lib.hid (Below.refl w.heap.size w)
  go_enter Tryz.func23, Tryz.ntmps23
  go_wp2_with fail
  refine (HR.out _).mono ?_
  rintro e w1 ⟨rfl, hb⟩
  have q : ∀ j, w1.cell? ⟨w.heap.size, j, none⟩ = (w.alloc (.cells #[.int .i64 th, .int .i64 sl, .int .i64 lo, .int .i64 bu] 23)).cell? ⟨w.heap.size, j, none⟩ := fun j => cell_of_heapA (hb.block w.heap.size (by simp)) j
  have q0 := (q 0).trans (cell_alloc w _ 23 0 _ rfl)
  have q1 := (q 1).trans (cell_alloc w _ 23 1 _ rfl)
  have q2 := (q 2).trans (cell_alloc w _ 23 2 _ rfl)
  have q3 := (q 3).trans (cell_alloc w _ 23 3 _ rfl)
  have HB1 := Lib.hid hb
  clear hb q
  go_wp2_with fail
  go_ret
  refine ⟨?_, (Below.refl _ _ |>.alloc (Nat.le_refl _) _).trans (HB1.out.mono (by simp))⟩
  exact ret_intA HE.out
end Go.Proofs.YtibelcmdfkgonaaGreat

namespace Go.Proofs.YtibelcmdfkgonaaGreat
open Go.RowKit Go.BigFrame
set_option linter.unusedVariables false
set_option linter.unusedSimpArgs false
/-- What a call of the example leaves. -/
def Awake (P : Program) (f : FuncId) : Prop := ∀ w, Calls P f #[] w fun e w' => e = .returned (.bool true) ∧ Below w.heap.size w w'
set_option maxHeartbeats 4000000 in
theorem law4_with (HA : Hid (Awake Tryz.prog 22)) (th sl lo bu : Int) (w : World) : Calls Tryz.prog 4 #[.agg (Cfg.cells ⟨th, sl, lo, bu⟩)] w fun e w' => e = .returned (.bool true) ∧ Below w.heap.size w w' := by
  have HR := Lib.hid fun w => refRight_any ⟨th, sl, lo, bu⟩ w
  obtain ⟨T, hT⟩ : ∃ T, T = wrap64 (wrap64 (wrap64 (wrap64 (wrap64 (12 * sl) + wrap64 (wrap64 (4 * th) * lo)) + wrap64 (8 * th)) + wrap64 (4 * bu)) + 40) := ⟨_, rfl⟩
  obtain ⟨X, hX⟩ : ∃ X : Int, X = (if Cfg.right ⟨th, sl, lo, bu⟩ then T else 0) := ⟨_, rfl⟩
  have HM : Hid (∀ w, Calls Tryz.prog 23 #[.agg (Cfg.cells ⟨th, sl, lo, bu⟩)] w fun e w' => e = .returned (.int .i64 X) ∧ Below w.heap.size w w') := Lib.hid fun w => by
    by_cases h : Cfg.right ⟨th, sl, lo, bu⟩
    · have h' : 1 ≤ th ∧ th ≤ 64 ∧ 1 ≤ sl ∧ sl ≤ 65536 ∧ 1 ≤ lo ∧ lo ≤ 64 ∧ 1 ≤ bu ∧ bu ≤ 64 := h
      obtain ⟨a1, a2, a3, a4, a5, a6, a7, a8⟩ := h'
      obtain ⟨z, hz⟩ : ∃ z, z = 4 * th * lo := ⟨_, rfl⟩
      have z0 : 0 ≤ z := by rw [hz]; exact Int.mul_nonneg (by omega) (by omega)
      have z1 : z ≤ 4 * 64 * 64 := by rw [hz]; exact Int.mul_le_mul (by omega) (by omega) (by omega) (by omega)
      have e1 : wrap64 (12 * sl) = 12 * sl := wrap_small _ (by omega) (by omega)
      have e2 : wrap64 (4 * th) = 4 * th := wrap_small _ (by omega) (by omega)
      have e3 : wrap64 (4 * th * lo) = 4 * th * lo := wrap_small _ (by omega) (by omega)
      have e4 : wrap64 (12 * sl + 4 * th * lo) = 12 * sl + 4 * th * lo := wrap_small _ (by omega) (by omega)
      have e5 : wrap64 (8 * th) = 8 * th := wrap_small _ (by omega) (by omega)
      have e6 : wrap64 (12 * sl + 4 * th * lo + 8 * th) = 12 * sl + 4 * th * lo + 8 * th := wrap_small _ (by omega) (by omega)
      have e7 : wrap64 (4 * bu) = 4 * bu := wrap_small _ (by omega) (by omega)
      have e8 : wrap64 (12 * sl + 4 * th * lo + 8 * th + 4 * bu) = 12 * sl + 4 * th * lo + 8 * th + 4 * bu := wrap_small _ (by omega) (by omega)
      have e9 : wrap64 (12 * sl + 4 * th * lo + 8 * th + 4 * bu + 40) = 12 * sl + 4 * th * lo + 8 * th + 4 * bu + 40 := wrap_small _ (by omega) (by omega)
      have hT2 : T = 12 * sl + 4 * th * lo + 8 * th + 4 * bu + 40 := by rw [hT, e2, e1, e3, e4, e5, e6, e7, e8, e9]
      rw [hX, if_pos h, hT2]
      exact most23_yes th sl lo bu w h
    · rw [hX, if_neg h]
      exact most23_no ⟨th, sl, lo, bu⟩ w h
  have HX := Lib.hid hX
  have HT := Lib.hid hT
  clear hX hT
  obtain ⟨rt, hrt⟩ : ∃ rt, rt = decide (Cfg.right ⟨th, sl, lo, bu⟩) := ⟨_, rfl⟩
  rw [← hrt] at HR
  have HX2 : Hid (X = if rt then T else 0) := Lib.hid (by rw [HX.out, hrt]; simp)
  clear HX
  have HRT := Lib.hid hrt
  clear hrt
  simp only [Cfg.cells] at HR HM ⊢
  have HB := Lib.hid (Below.refl w.heap.size w)
  go_enter Tryz.func4, Tryz.ntmps4
  go_wp2_with fail
  refine (HR.out _).mono ?_
  rintro e w1 ⟨rfl, hb⟩
  have q : ∀ j, w1.cell? ⟨w.heap.size, j, none⟩ = (w.alloc (.cells #[.int .i64 th, .int .i64 sl, .int .i64 lo, .int .i64 bu] 23)).cell? ⟨w.heap.size, j, none⟩ := fun j => cell_of_heapA (hb.block w.heap.size (by simp)) j
  have q0 := (q 0).trans (cell_alloc w _ 23 0 _ rfl)
  have q1 := (q 1).trans (cell_alloc w _ 23 1 _ rfl)
  have q2 := (q 2).trans (cell_alloc w _ 23 2 _ rfl)
  have q3 := (q 3).trans (cell_alloc w _ 23 3 _ rfl)
  have hb1 : Below w.heap.size w w1 := ((Below.refl _ _).alloc (Nat.le_refl _) _).trans (hb.mono (by simp))
  have hz1 : w.heap.size < w1.heap.size := by have := hb.size; simp at this; omega
  clear hb q
  have HB1 := Lib.hid hb1
  clear hb1
  cases rt
  case false =>
    have d1 : decide (X = 0) = true := decide_eq_true (HX2.out.trans (if_neg (by decide)))
    go_wp2_with fail
    refine (HA.out _).mono ?_
    rintro e w2 ⟨rfl, hb2⟩
    have p0 := (cell_of_heapA (hb2.block w.heap.size hz1) 0).trans q0
    have p1 := (cell_of_heapA (hb2.block w.heap.size hz1) 1).trans q1
    have p2 := (cell_of_heapA (hb2.block w.heap.size hz1) 2).trans q2
    have p3 := (cell_of_heapA (hb2.block w.heap.size hz1) 3).trans q3
    have HB2 : Hid (Below w.heap.size w w2) := Lib.hid (HB1.out.trans (hb2.mono (by omega)))
    have hz2 : w.heap.size < w2.heap.size := by have := hb2.size; omega
    clear hb2 q0 q1 q2 q3 HB1
    go_wp2_with fail
    refine (HM.out _).mono ?_
    rintro e w3 ⟨rfl, hb3⟩
    have HB3 : Hid (Below w.heap.size w w3) := Lib.hid (HB2.out.trans (hb3.mono (by omega)))
    clear hb3 HB2
    go_wp2_with fail
    refine (done24_nil _).mono ?_
    rintro e w4 ⟨rfl, hw⟩
    cases hw
    go_wp2_with fail
    refine (up25_nil _).mono ?_
    rintro e w4 ⟨rfl, hw⟩
    cases hw
    go_wp2_with fail
    refine (corrupt26_nil _).mono ?_
    rintro e w4 ⟨rfl, hw⟩
    cases hw
    go_wp2_with fail
    refine (step27_nil _ _).mono ?_
    rintro e w4 ⟨rfl, hw⟩
    cases hw
    go_wp2_with fail
    go_ret
    exact ⟨rfl, HB3.out⟩

  case true =>
    have d1 : X = T := HX2.out.trans (if_pos rfl)
    go_wp2_with fail
    refine (HA.out _).mono ?_
    rintro e w2 ⟨rfl, hb2⟩
    have p0 := (cell_of_heapA (hb2.block w.heap.size hz1) 0).trans q0
    have p1 := (cell_of_heapA (hb2.block w.heap.size hz1) 1).trans q1
    have p2 := (cell_of_heapA (hb2.block w.heap.size hz1) 2).trans q2
    have p3 := (cell_of_heapA (hb2.block w.heap.size hz1) 3).trans q3
    have HB2 : Hid (Below w.heap.size w w2) := Lib.hid (HB1.out.trans (hb2.mono (by omega)))
    have hz2 : w.heap.size < w2.heap.size := by have := hb2.size; omega
    clear hb2 q0 q1 q2 q3 HB1
    go_wp2_with fail
    refine (HM.out _).mono ?_
    rintro e w3 ⟨rfl, hb3⟩
    have HB3 : Hid (Below w.heap.size w w3) := Lib.hid (HB2.out.trans (hb3.mono (by omega)))
    clear hb3 HB2
    go_wp2_with fail
    refine (done24_nil _).mono ?_
    rintro e w4 ⟨rfl, hw⟩
    cases hw
    go_wp2_with fail
    refine (up25_nil _).mono ?_
    rintro e w4 ⟨rfl, hw⟩
    cases hw
    go_wp2_with fail
    refine (corrupt26_nil _).mono ?_
    rintro e w4 ⟨rfl, hw⟩
    cases hw
    go_wp2_with fail
    refine (step27_nil _ _).mono ?_
    rintro e w4 ⟨rfl, hw⟩
    cases hw
    go_wp2_with fail
    go_ret
    exact ⟨rfl, HB3.out⟩

end Go.Proofs.YtibelcmdfkgonaaGreat

namespace Go.Proofs.YtibelcmdfkgonaaGreat
open Go.RowKit Go.ChangeShapes Go.WideShapes Go.Deep

/-- The kind of a type's j-th cell: an integer kind, or a bool (none). -/
def kindAt (P : Program) : Nat → TypeId → Nat → Option (Option IntKind)
  | 0, _, _ => none
  | d + 1, t, j =>
    match P.underlying t with
    | some (.int k) => if j = 0 then some (some k) else none
    | some .bool => if j = 0 then some none else none
    | some (.struct fs) =>
      match fs.toList.find? fun f => decide (f.offset ≤ j) && decide (j < f.offset + P.cellsOf f.type) with
      | some f => kindAt P d f.type (j - f.offset)
      | none => none
    | some (.array n e) => if 0 < P.cellsOf e ∧ j < n * P.cellsOf e then kindAt P d e (j % P.cellsOf e) else none
    | _ => none

/-- A cell of that kind. -/
def LeafOk (k : Option IntKind) (v : Value) : Prop :=
  match k with
  | some k => ∃ n, v = .int k n ∧ (Lit.int k n).wf = true
  | none => ∃ b, v = .bool b

section
variable {H : Type} {enc : TypeId × Value → H} {P : Program} {w : World} {base : Nat} {spare : Nat → Bool} {held : Bool}

theorem kindAt_ok : ∀ (d : Nat) (t : TypeId) (j : Nat) (k : Option IntKind) (fuel : Nat) (cs : List Value) (x : DataW H × List MemPlace),
    DataW.trod enc P w base spare held fuel t cs = some x → kindAt P d t j = some k → ∃ v, cs[j]? = some v ∧ LeafOk k v
  | 0, _, _, _, _, _, _, _, hk => by simp [kindAt] at hk
  | d + 1, t, j, k, fuel, cs, x, h, hk => by
    unfold kindAt at hk
    split at hk
    · rename_i q hu
      split at hk
      · rename_i hj
        simp only [Option.some.injEq] at hk
        subst hk hj
        obtain ⟨n, rfl, -, hw⟩ := DataW.trod_int hu h
        exact ⟨_, rfl, n, rfl, hw⟩
      · cases hk
    · rename_i hu
      split at hk
      · rename_i hj
        simp only [Option.some.injEq] at hk
        subst hk hj
        obtain ⟨b, rfl, -⟩ := DataW.trod_bool hu h
        exact ⟨_, rfl, b, rfl⟩
      · cases hk
    · rename_i fs hu
      split at hk
      · rename_i f hf
        obtain ⟨xs, n, -, -, hlen, hxs, hfield⟩ := DataW.trod_struct hu h
        have hmem := List.mem_of_find?_eq_some hf
        have hcond := List.find?_some hf
        simp only [Bool.and_eq_true, decide_eq_true_eq] at hcond
        obtain ⟨i, hi, rfl⟩ := List.mem_iff_getElem.1 hmem
        have hfi : fs[i]? = some (fs.toList[i]) := by
          rw [← Array.getElem?_toList]; exact List.getElem?_eq_getElem hi
        have h1 := hfield i _ hfi
        have hix : i < xs.length := by rw [hxs]; simpa using hi
        rw [List.getElem?_eq_getElem hix] at h1
        obtain ⟨v, hv, hl⟩ := kindAt_ok d _ _ k n _ _ h1 hk
        refine ⟨v, ?_, hl⟩
        rw [List.getElem?_take] at hv
        split at hv
        · rw [List.getElem?_drop] at hv
          rw [← hv]; congr 1; omega
        · cases hv
      · cases hk
    · rename_i n e hu
      split at hk
      · rename_i hc
        obtain ⟨xs, m, -, -, hlen, hxs, hel⟩ := DataW.trod_array hu h
        have hi : j / P.cellsOf e < n := Nat.div_lt_of_lt_mul (by rw [Nat.mul_comm]; exact hc.2)
        have h1 := hel _ hi
        rw [List.getElem?_eq_getElem (by omega)] at h1
        obtain ⟨v, hv, hl⟩ := kindAt_ok d _ _ k m _ _ h1 hk
        refine ⟨v, ?_, hl⟩
        rw [List.getElem?_take] at hv
        split at hv
        · rw [List.getElem?_drop] at hv
          rw [← hv]; congr 1
          have := Nat.div_add_mod j (P.cellsOf e)
          rw [Nat.mul_comm] at this
          omega
        · cases hv
      · cases hk
    · cases hk

/-- A slice that came in, cell by cell. -/
theorem open_slice_cells {t e : TypeId} {fuel : Nat} {cs : List Value} {x : DataW H × List MemPlace} (ht : P.underlying t = some (.slice e)) (hc0 : 0 < P.cellsOf e)
    (hk0 : ∃ d k, kindAt P d e 0 = some k) (h : DataW.trod enc P w base spare held fuel t cs = some x) (a : Option Addr) (len cap : Nat) (hcs : cs = [.slice a len cap]) :
    len ≤ cap ∧ cap ≤ maxLen ∧ (len = 0 ∨ ∃ b off, a = some ⟨b, off, none⟩ ∧ b < w.heap.size ∧ ∀ i, i < len → ∀ d j k, j < P.cellsOf e → kindAt P d e j = some k → ∃ v, w.cell? ⟨b, off + i * P.cellsOf e + j, none⟩ = some v ∧ LeafOk k v) := by
  rcases open_slice ht h with ⟨rfl, -⟩ | ⟨ad, len', cap', m, n, D, Pl, rfl, hb, hl, hm, hmm, hx, hi⟩
  · simp only [List.cons.injEq, Value.slice.injEq, and_true] at hcs
    obtain ⟨rfl, rfl, rfl⟩ := hcs
    exact ⟨Nat.le_refl _, Nat.zero_le _, .inl rfl⟩
  · simp only [List.cons.injEq, Value.slice.injEq, and_true] at hcs
    obtain ⟨rfl, rfl, rfl⟩ := hcs
    refine ⟨hl, hm, ?_⟩
    by_cases h0 : len' = 0
    · exact .inl h0
    refine .inr ?_
    have hlm : len' ≤ m := by rw [hmm]; split <;> omega
    have get : ∀ i, i < len' → ∀ d j k, j < P.cellsOf e → kindAt P d e j = some k → ∃ v, w.cell? ((ad.add (i * P.cellsOf e)).add j) = some v ∧ LeafOk k v := by
      intro i hil d j k hj hk
      obtain ⟨cs', hc, ht'⟩ := hi i (by omega)
      obtain ⟨_, hcl, hat⟩ := World.cells?_some hc
      obtain ⟨v, hv, hlf⟩ := kindAt_ok d e j k n cs' _ ht' hk
      exact ⟨v, by rw [hat j hj]; exact hv, hlf⟩
    obtain ⟨b, off, spot⟩ := ad
    obtain ⟨d, k, hk0⟩ := hk0
    obtain ⟨v0, hv0, -⟩ := get 0 (by omega) d 0 k hc0 hk0
    have hspot : spot = none := by
      have := World.cell?_spot hv0
      simpa [Addr.add] using this
    subst hspot
    have hv0' : w.cell? ⟨b, off, none⟩ = some v0 := by
      have := hv0
      rw [Addr.add_lit, Addr.add_lit] at this
      simpa using this
    refine ⟨b, off, rfl, World.block_lt_of_cell? w _ hv0', fun i hil d j k hj hk => ?_⟩
    have := get i hil d j k hj hk
    rwa [Addr.add_lit, Addr.add_lit] at this
end
end Go.Proofs.YtibelcmdfkgonaaGreat

namespace Go.Proofs.YtibelcmdfkgonaaGreat
open Go.RowKit Go.ChangeShapes Go.WideShapes Go.Deep
set_option linter.unusedVariables false
set_option linter.unusedSimpArgs false
theorem kind23_0 : kindAt Tryz.prog 4 23 0 = some (some .i64) := by kernel_rfl
theorem kind23_1 : kindAt Tryz.prog 4 23 1 = some (some .i64) := by kernel_rfl
theorem kind23_2 : kindAt Tryz.prog 4 23 2 = some (some .i64) := by kernel_rfl
theorem kind23_3 : kindAt Tryz.prog 4 23 3 = some (some .i64) := by kernel_rfl
set_option maxRecDepth 100000 in
theorem cfg_open {H : Type} {enc : TypeId × Value → H} {w : World} {r : Reach} {b0 base : Nat} {spare : Nat → Bool} {held : Bool} {v : Value} {d : DataW H} {p : List MemPlace}
    (hv : Value.okWide Tryz.prog w r b0 23 v) (h : DataW.Trod enc Tryz.prog w base spare held 23 v d p) : ∃ (th sl lo' bu : Int), v = .agg #[.int .i64 th, .int .i64 sl, .int .i64 lo', .int .i64 bu] := by
  obtain ⟨cs, rfl, hsz⟩ := okWide_struct Tryz.underlying23 hv
  obtain ⟨fuel, hf⟩ := h
  have hc : Tryz.prog.cellsOf 23 = 4 := by kernel_rfl
  rw [hc] at hsz
  obtain ⟨_, g0, n0, rfl, -⟩ := kindAt_ok 4 23 0 _ fuel _ _ hf kind23_0
  obtain ⟨_, g1, n1, rfl, -⟩ := kindAt_ok 4 23 1 _ fuel _ _ hf kind23_1
  obtain ⟨_, g2, n2, rfl, -⟩ := kindAt_ok 4 23 2 _ fuel _ _ hf kind23_2
  obtain ⟨_, g3, n3, rfl, -⟩ := kindAt_ok 4 23 3 _ fuel _ _ hf kind23_3
  simp only [Value.cells] at g0 g1 g2 g3
  obtain ⟨l⟩ := cs
  match l, hsz with
  | [c0, c1, c2, c3], _ =>
    simp at g0 g1 g2 g3
    subst g0 g1 g2 g3
    exact ⟨_, _, _, _, rfl⟩
end Go.Proofs.YtibelcmdfkgonaaGreat

namespace Go.Proofs.YtibelcmdfkgonaaGreat
open Go.RowKit
theorem law4 (th sl lo bu : Int) (w : World) : Calls Tryz.prog 4 #[.agg (Cfg.cells ⟨th, sl, lo, bu⟩)] w fun e w' => e = .returned (.bool true) ∧ Below w.heap.size w w' := law4_with (Lib.hid Rk.awake22) th sl lo bu w
#print axioms law4
end Go.Proofs.YtibelcmdfkgonaaGreat
