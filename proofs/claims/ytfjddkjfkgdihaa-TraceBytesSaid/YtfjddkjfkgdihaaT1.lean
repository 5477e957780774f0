/- Walks of layer 37 (trace): a number's bytes, written and read. -/
import Derived.Test.YtfjddkjfkgdihaaRows
import Derived.Test.YtfjddkjfkgdihaaTm
import Derived.Test.YtfjddkjfkgdihaaRd
import Derived.Test.YtfjddkjfkgdihaaVoc
namespace Go.Proofs.Ytfjddkjfkgdihaa
open Go.RowKit
set_option linter.unusedVariables false

theorem info5 : (Try.prog.info? 5).map (fun i => (i.zero, i.size, i.bytes)) = some (some (.int .u8 0), 1, 1) := by kernel_rfl

def u8s (l : List Int) : List Value := l.map (Value.int .u8)
theorem u8s_len (l : List Int) : (u8s l).length = l.length := by simp [u8s]
theorem u8s_append (l m : List Int) : u8s (l ++ m) = u8s l ++ u8s m := by simp [u8s]

def NumberTo (n : Nat) (w : World) (e : Ending) (w' : World) : Prop :=
  ∃ v, e = .returned v ∧ Below w.heap.size w w' ∧ w'.ownsRow w.heap.size 5 1 v (numB n).length (u8s (numB n))

set_option maxRecDepth 100000 in
theorem number_any (n : Nat) (hn : n < 18446744073709551616) (w : World) :
    Calls Try.prog 28 #[.int .u64 n] w (NumberTo n w) := by
  obtain ⟨i5, hi, hz0, hz1, hz2⟩ := info_parts info5
  obtain ⟨B, hB⟩ : ∃ B, B = w.heap.size := ⟨_, rfl⟩
  have HB := Lib.hid hB; clear hB
  have HL := Lib.hid (numB_len10 n hn)
  have hn' : (n : Int) ≤ 18446744073709551615 := by omega
  clear hn
  go_enter Try.func28, Try.ntmps28
  go_wp2
  go_loopw [0, 3] (fun x v wr => ∃ (m : Nat) (L : List Int), x = .int .u64 m ∧ (m : Int) ≤ n ∧ Hid (L ++ numB m = numB n) ∧ Hid (wr.ownsRow B 5 1 v L.length (u8s L)) ∧ Hid (Below B w wr)) (fun x _ _ => (intOf x).toNat)
  case atStart => exact ⟨n, [], rfl, by omega, Lib.hid rfl, World.ownsRow_nil _ _ _ _, Below.refl _ _⟩
  case round =>
    obtain ⟨m, L, rfl, hm, HE, HO, HBE⟩ := hrel
    have hsz := HBE.out.size
    have hBw : B ≤ wr.heap.size := by rw [HB.out]; exact hsz
    have hlen : L.length < 10 := by
      have h1 := HE.out; have h2 := HL.out
      rw [← h1, List.length_append] at h2
      have := List.length_pos_iff.2 (numB_ne m)
      omega
    by_cases hlt : m < 128
    · have hlt' : (m : Int) < 128 := by omega
      have hr : IntKind.u8.wrap (m : Int) = m := IntWalk.u8_in _ (by omega)
      have HF : Hid (numB n = L ++ [(m : Int)]) := Lib.hid (by rw [← HE.out, numB_small hlt])
      clear hlt
      go_wp2_with (at_builtin; refine wpList_push rfl _ _ 40 rfl B 5 i5 (.int .u8 0) 1 1 Try.underlying40 hi hz0 hz1 hz2 rfl (by decide) wr hBw u3 L.length (u8s L) rfl HO.out #[.int .u8 m] 1 1 rfl rfl ?c1 ?c3 ?c4 ?_)
      case c1 => simp [Value.oneCell']
      case c3 => unfold maxLen; omega
      case c4 => omega
      intro v' w' hown hgr hbel hne
      have HO' := Lib.hid hown; have HB' := Lib.hid (hbel B w HBE.out (Nat.le_refl _))
      clear hown hgr hbel hne
      go_wp2
      go_ret
      refine ⟨v', rfl, by rw [← HB.out]; exact HB'.out, ?_⟩
      rw [← HB.out, HF.out, u8s_append, List.length_append]
      exact HO'.out
    · have hlt' : (128 : Int) ≤ m := by omega
      have hor := or_128 m (by omega)
      have HF : Hid (numB m = ((m : Int) % 128 + 128) :: numB (m / 128)) := Lib.hid (by rw [numB_big hlt]; simp)
      clear hlt
      go_wp2_with (at_builtin; refine wpList_push rfl _ _ 40 rfl B 5 i5 (.int .u8 0) 1 1 Try.underlying40 hi hz0 hz1 hz2 rfl (by decide) wr hBw u3 L.length (u8s L) rfl HO.out #[.int .u8 (m % 128 + 128)] 1 1 rfl rfl ?d1 ?d3 ?d4 ?_)
      case d1 => simp [Value.oneCell']
      case d3 => unfold maxLen; omega
      case d4 => omega
      intro v' w' hown hgr hbel hne
      have HO' := Lib.hid hown; have HB' := Lib.hid (hbel B w HBE.out (Nat.le_refl _))
      clear hown hgr hbel hne
      go_wp2
      go_roundw
      case rel =>
        refine ⟨m / 128, L ++ [(m : Int) % 128 + 128], by simp, by omega, Lib.hid ?_, Lib.hid ?_, HB'⟩
        · rw [← HE.out, HF.out]; simp
        · rw [u8s_append, List.length_append]; exact HO'.out
      case measure => simp [intOf]; omega
set_option maxRecDepth 100000 in
theorem refNumber_any (n : Nat) (hn : n < 18446744073709551616) (w : World) :
    Calls Try.prog 27 #[.int .u64 n] w (NumberTo n w) := by
  obtain ⟨i5, hi, hz0, hz1, hz2⟩ := info_parts info5
  obtain ⟨B, hB⟩ : ∃ B, B = w.heap.size := ⟨_, rfl⟩
  have HB := Lib.hid hB; clear hB
  have HL := Lib.hid (numB_len10 n hn)
  have hn' : (n : Int) ≤ 18446744073709551615 := by omega
  clear hn
  go_enter Try.func27, Try.ntmps27
  go_wp2
  go_loopw [0, 3] (fun x v wr => ∃ (m : Nat) (L : List Int), x = .int .u64 m ∧ (m : Int) ≤ n ∧ Hid (L ++ numB m = numB n) ∧ Hid (wr.ownsRow B 5 1 v L.length (u8s L)) ∧ Hid (Below B w wr)) (fun x _ _ => (intOf x).toNat)
  case atStart => exact ⟨n, [], rfl, by omega, Lib.hid rfl, World.ownsRow_nil _ _ _ _, Below.refl _ _⟩
  case round =>
    obtain ⟨m, L, rfl, hm, HE, HO, HBE⟩ := hrel
    have hsz := HBE.out.size
    have hBw : B ≤ wr.heap.size := by rw [HB.out]; exact hsz
    have hlen : L.length < 10 := by
      have h1 := HE.out; have h2 := HL.out
      rw [← h1, List.length_append] at h2
      have := List.length_pos_iff.2 (numB_ne m)
      omega
    by_cases hlt : m < 128
    · have hlt' : (m : Int) < 128 := by omega
      have hr : IntKind.u8.wrap (m : Int) = m := IntWalk.u8_in _ (by omega)
      have HF : Hid (numB n = L ++ [(m : Int)]) := Lib.hid (by rw [← HE.out, numB_small hlt])
      clear hlt
      go_wp2_with (at_builtin; refine wpList_push rfl _ _ 40 rfl B 5 i5 (.int .u8 0) 1 1 Try.underlying40 hi hz0 hz1 hz2 rfl (by decide) wr hBw u3 L.length (u8s L) rfl HO.out #[.int .u8 m] 1 1 rfl rfl ?e1 ?e3 ?e4 ?_)
      case e1 => simp [Value.oneCell']
      case e3 => unfold maxLen; omega
      case e4 => omega
      intro v' w' hown hgr hbel hne
      have HO' := Lib.hid hown; have HB' := Lib.hid (hbel B w HBE.out (Nat.le_refl _))
      clear hown hgr hbel hne
      go_wp2
      go_ret
      refine ⟨v', rfl, by rw [← HB.out]; exact HB'.out, ?_⟩
      rw [← HB.out, HF.out, u8s_append, List.length_append]
      exact HO'.out
    · have hlt' : (128 : Int) ≤ m := by omega
      have HF : Hid (numB m = ((m : Int) % 128 + 128) :: numB (m / 128)) := Lib.hid (by rw [numB_big hlt]; simp)
      clear hlt
      go_wp2_with (at_builtin; refine wpList_push rfl _ _ 40 rfl B 5 i5 (.int .u8 0) 1 1 Try.underlying40 hi hz0 hz1 hz2 rfl (by decide) wr hBw u3 L.length (u8s L) rfl HO.out #[.int .u8 (m % 128 + 128)] 1 1 rfl rfl ?f1 ?f3 ?f4 ?_)
      case f1 => simp [Value.oneCell']
      case f3 => unfold maxLen; omega
      case f4 => omega
      intro v' w' hown hgr hbel hne
      have HO' := Lib.hid hown; have HB' := Lib.hid (hbel B w HBE.out (Nat.le_refl _))
      clear hown hgr hbel hne
      go_wp2
      go_roundw
      case rel =>
        refine ⟨m / 128, L ++ [(m : Int) % 128 + 128], by simp, by omega, Lib.hid ?_, Lib.hid ?_, HB'⟩
        · rw [← HE.out, HF.out]; simp
        · rw [u8s_append, List.length_append]; exact HO'.out
      case measure => simp [intOf]; omega

theorem ret_k {a c : Int} {k : IntKind} (h : a = c) : Ending.returned (.int k a) = .returned (.int k c) := by rw [h]

theorem signed_any (k : Int) (h0 : -9223372036854775808 ≤ k) (h1 : k ≤ 9223372036854775807) (w : World) : Calls Try.prog 29 #[.int .i64 k] w fun e w' => e = .returned (.int .u64 (sgn k)) ∧ w = w' := by
  by_cases hk : k < 0
  · go_enter Try.func29, Try.ntmps29
    go_wp2
    go_ret
    exact ⟨ret_k (sgn_neg_walk k hk h0), rfl⟩
  · have hk' : 0 ≤ k := by omega
    clear hk
    go_enter Try.func29, Try.ntmps29
    go_wp2
    go_ret
    exact ⟨ret_k (by unfold sgn; rw [if_neg (by omega)]; omega), rfl⟩
theorem refSigned_any (k : Int) (h0 : -9223372036854775808 ≤ k) (h1 : k ≤ 9223372036854775807) (w : World) : Calls Try.prog 30 #[.int .i64 k] w fun e w' => e = .returned (.int .u64 (sgn k)) ∧ w = w' := by
  by_cases hk : k < 0
  · go_enter Try.func30, Try.ntmps30
    go_wp2
    go_ret
    exact ⟨ret_k (by unfold sgn; rw [if_pos hk]; omega), rfl⟩
  · have hk' : 0 ≤ k := by omega
    clear hk
    go_enter Try.func30, Try.ntmps30
    go_wp2
    go_ret
    exact ⟨ret_k (by unfold sgn; rw [if_neg (by omega)]), rfl⟩
theorem unsigned_any (n : Int) (h0 : 0 ≤ n) (h1 : n ≤ 18446744073709551615) (w : World) : Calls Try.prog 31 #[.int .u64 n] w fun e w' => e = .returned (.int .i64 (uns n)) ∧ w = w' := by
  by_cases hb : n % 2 = 1
  · have hm : (bits BinOp.and IntKind.u64 n 1 == 1) = true := by rw [and_1 n h0 h1, hb]; rfl
    have HB := Lib.hid hb; clear hb
    go_enter Try.func31, Try.ntmps31
    go_wp2
    go_ret
    exact ⟨ret_k (uns_odd_walk n h0 h1 HB.out), rfl⟩
  · have hm : (bits BinOp.and IntKind.u64 n 1 == 1) = false := by rw [and_1 n h0 h1]; simp; omega
    have HB := Lib.hid hb; clear hb
    go_enter Try.func31, Try.ntmps31
    go_wp2
    go_ret
    exact ⟨ret_k (by unfold uns; rw [if_neg HB.out]), rfl⟩
end Go.Proofs.Ytfjddkjfkgdihaa
