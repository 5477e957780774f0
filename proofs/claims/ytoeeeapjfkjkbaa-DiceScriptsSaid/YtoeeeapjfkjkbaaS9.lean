/- Walk of dice.cup.throws' function (layer 35), an iterator that keeps state in a cell. -/
import Derived.Test.YtoeeeapjfkjkbaaA1
import Derived.Test.YtoeeeapjfkjkbaaS7
namespace Go.Proofs.Ytoeeeapjfkjkbaa
open Go.RowKit Go.BigFrame
set_option linter.unusedVariables false
set_option linter.unusedSimpArgs false

/-- What the iterator reads. -/
structure ItAt (W : World) (p b2 b3 n : Nat) (s : Int) : Prop where
  c2 : W.cell? ⟨b2, 0, none⟩ = some (.pointer (some ⟨p, 5, none⟩))
  c3 : W.cell? ⟨b3, 0, none⟩ = some (.int .i64 n)
  cs : W.cell? ⟨p, 5, none⟩ = some (.int .u64 s)
  fs : W.frozen? ⟨p, 5, none⟩ = false
set_option maxRecDepth 100000 in
theorem iter24 (m l p b2 b3 n : Nat) (hm : 1 ≤ m) (hn : n ≤ 600) (S : Nat → Int) (J : Nat → World → Prop)
    (hJ : ∀ k W, J k W → ItAt W p b2 b3 n (S k))
    (hY : ∀ k W, k < n → J k W → YieldAt Fence.wide (m - 1) Try.prog l #[.int .u64 (rThrow (S k))] (W.setCell ⟨p, 5, none⟩ (.int .u64 (rNext (S k)))) fun e W' => e = .returned (.bool true) ∧ J (k + 1) W')
    (W : World) (h0 : J 0 W) :
    CallsIn Fence.wide m Try.prog 24 #[.func (.yield l) #[] #[], .pointer (some ⟨b3, 0, none⟩), .pointer (some ⟨b2, 0, none⟩)] W fun e W' => (∃ v, e = .returned v) ∧ J n W' := by
  have HJ := Lib.hid hJ
  have HY := Lib.hid hY
  have H0 := Lib.hid h0
  have x3 := (hJ 0 W h0).c3
  clear hJ hY h0
  refine callsIn_of_wp Try.func24 rfl trivial ?_ rfl
  simp only [Try.ntmps24, List.size_toArray, List.length_cons, List.length_nil, Nat.reduceAdd, Nat.reduceSub, Array.replicate_succ, Array.replicate_zero, List.push_toArray, List.append_toArray, List.nil_append, List.cons_append]
  gi_wp2
  gi_loopw [7] (fun i wr => ∃ k : Nat, k ≤ n ∧ i = .int .i64 k ∧ Hid (J k wr)) (fun i _ => n - (intOf i).toNat)
  case atStart => exact ⟨0, Nat.zero_le _, rfl, H0⟩
  case round =>
    obtain ⟨k, hk, rfl, HK⟩ := hrel
    by_cases hlt : k < n
    · have d1 : decide ((k : Int) < (n : Int)) = true := by simp; omega
      obtain ⟨c2, c3, cs, fs⟩ := HJ.out k wr HK.out
      obtain ⟨fn, tmps, assign, body, hy, hR⟩ := HY.out k wr hlt HK.out
      have HR := Lib.hid hR
      have HT := Lib.hid (throw_any (S k) wr)
      have y2 : (wr.setCell ⟨p, 5, none⟩ (.int .u64 (rNext (S k)))).cell? ⟨b2, 0, none⟩ = some (.pointer (some ⟨p, 5, none⟩)) := (World.cell?_setCell_other _ _ _ _ (by intro e; cases e)).trans c2
      clear hR HY HJ
      generalize rThrow (S k) = v at *
      generalize rNext (S k) = s' at *
      generalize S k = s at *
      gi_wp2_with (first
        | (refine ⟨trivial, ?_⟩; gi_at_call 10; refine (callsIn_wide.2 HT.out).mono ?_; rintro e w' ⟨rfl, rfl⟩))
      refine HR.out.mono ?_
      rintro e W' ⟨rfl, hj⟩
      have HJ2 := Lib.hid hj
      clear hj
      gi_wp2
      go_roundw
      case rel => exact ⟨k + 1, by omega, by go_num, HJ2⟩
      case measure => simp [intOf]; omega
    · obtain rfl : k = n := by omega
      have d1 : decide ((k : Int) < (k : Int)) = false := by simp
      gi_wp2
      go_end0
      exact ⟨⟨_, rfl⟩, HK.out⟩
end Go.Proofs.Ytoeeeapjfkjkbaa
