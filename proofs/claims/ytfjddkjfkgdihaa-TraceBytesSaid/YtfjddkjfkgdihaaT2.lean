/- Walks of layer 37 (trace): a number read out of bytes. -/
import Derived.Test.YtfjddkjfkgdihaaT1
import Derived.BigQuiet
namespace Go.Proofs.Ytfjddkjfkgdihaa
open Go.RowKit
set_option linter.unusedVariables false

/-- The slice value b[k:] over a slice at (bl, off). -/
def cutV (bl off len cap k : Nat) : Value := .slice (if cap = k then some ⟨bl, off, none⟩ else some ⟨bl, off + k, none⟩) (len - k) (cap - k)

theorem ret_cut {a c : Int} {a1 : Option Addr} {bl off len cap k l1 c1 : Nat} (h : a = c) (h1 : Value.slice a1 l1 c1 = cutV bl off len cap k) :
    Ending.returned (.tuple #[.int .u64 a, .slice a1 l1 c1, .bool true]) = .returned (.tuple #[.int .u64 c, cutV bl off len cap k, .bool true]) := by rw [h, h1]
def ReadYes (z : Nat → Int) (bl off len cap k : Nat) (w : World) (e : Ending) (w' : World) : Prop :=
  e = .returned (.tuple #[.int .u64 (vs z k), cutV bl off len cap k, .bool true]) ∧ ∃ n, w' = w.drewN n

set_option maxRecDepth 100000 in
theorem read_yes (bl off len cap : Nat) (z : Nat → Int) (k : Nat) (w : World) (hlc : len ≤ cap) (hcm : cap ≤ 9223372036854775807) (hz : ∀ i, i < len → w.cell? ⟨bl, off + i, none⟩ = some (.int .u8 (z i)))
    (hb : ∀ i, 0 ≤ z i ∧ z i ≤ 255) (hh : Hit z len k) : Calls Try.prog 26 #[.slice (some ⟨bl, off, none⟩) len cap] w (ReadYes z bl off len cap k w) := by
  have HH := Lib.hid hh
  have HZ := Lib.hid hz
  have HBY := Lib.hid hb
  have k1 := hh.stops.one
  have k2 := hh.le
  have k3 := hh.ten
  clear hh hz hb
  obtain ⟨mm, hmm, m1⟩ : ∃ mm : Nat, Hid (mm = min len 10) ∧ k ≤ mm := ⟨_, Lib.hid rfl, by omega⟩
  by_cases hl : len ≤ 10
  all_goals
    go_enter Try.func26, Try.ntmps26
    go_wp2
    go_loop [2, 10] (fun n i => ∃ j : Nat, j < k ∧ i = .int .i64 j ∧ ∃ s : Int, n = .int .u64 s ∧ Hid (s = vs z j)) (fun _ i => k - (intOf i).toNat)
    case atStart => exact ⟨0, by omega, rfl, 0, rfl, Lib.hid rfl⟩
    case round =>
      obtain ⟨j, hj, rfl, s, rfl, HS⟩ := hrel
      have hc := HZ.out j (by omega)
      obtain ⟨c0, c1⟩ := HBY.out j
      have h9 : Hid (j = 9 → z j ≤ 1) := Lib.hid fun e => by subst e; exact HH.out.top (by omega)
      have hor := or_step s (z j) j (by rw [HS.out]; exact vs_lo _ _) (by rw [HS.out]; exact vs_hi _ _) c0 c1 (by omega) h9.out
      have hbig : Hid (j + 1 < k → 128 ≤ z j) := Lib.hid fun e => HH.out.stops.big j e
      have hlast : Hid (j + 1 = k → z j < 128 ∧ (1 < k → z j ≠ 0)) := Lib.hid fun e => by
        have h1 := HH.out.stops.last; have h2 := HH.out.stops.some
        rw [show k - 1 = j by omega] at h1 h2; exact ⟨h1, h2⟩
      have hsn : Hid (s + z j % 128 * 128 ^ j = vs z (j + 1)) := Lib.hid (by rw [vs_succ, HS.out])
      obtain ⟨s2, hs2⟩ : ∃ s2, s2 = s + z j % 128 * 128 ^ j := ⟨_, rfl⟩
      rw [← hs2] at hor hsn
      clear hs2
      generalize z j = c at *
      by_cases hjk : j + 1 < k
      · have g9 : ((j : Int) == 9) = false := by simp; omega
        have hc128 := hbig.out hjk
        clear hlast h9 hbig
        go_wp2
        go_round
        case rel => exact ⟨j + 1, by omega, by go_num, s2, rfl, hsn⟩
        case measure => simp [intOf]; omega
      · obtain ⟨hc128, hcn⟩ := hlast.out (by omega)
        have hkj : Hid (k = j + 1) := Lib.hid (by omega)
        by_cases h0 : 0 < j
        · have hc0 : (c == 0) = false := by have := hcn (by omega); simp [this]
          by_cases hj9 : j = 9
          · have g9 : ((j : Int) == 9) = true := by simp [hj9]
            have g1 := h9.out hj9
            clear hlast h9 hbig hj9 hcn
            go_wp2
            have hw1 : IntKind.i64.wrap ((j : Int) + 1) = (j : Int) + 1 := IntWalk.i64_in _ (by omega)
            have hw2 : ((j : Int) + 1).toNat = j + 1 := by omega
            have hw3 : (0 : Int) ≤ (j : Int) + 1 := by omega
            have hw4 : (j : Int) + 1 ≤ (len : Int) := by omega
            go_quiet (fail)
            go_wp2
            all_goals
              go_ret3
              have e := hkj.out
              subst e
              exact ⟨ret_cut (by rw [← hsn.out]) (by unfold cutV; first | (simp [*]; done) | (simp; omega)), nq, rfl⟩
          · have g9 : ((j : Int) == 9) = false := by simp; omega
            clear hlast h9 hbig hj9 hcn
            go_wp2
            have hw1 : IntKind.i64.wrap ((j : Int) + 1) = (j : Int) + 1 := IntWalk.i64_in _ (by omega)
            have hw2 : ((j : Int) + 1).toNat = j + 1 := by omega
            have hw3 : (0 : Int) ≤ (j : Int) + 1 := by omega
            have hw4 : (j : Int) + 1 ≤ (len : Int) := by omega
            go_quiet (fail)
            go_wp2
            all_goals
              go_ret3
              have e := hkj.out
              subst e
              exact ⟨ret_cut (by rw [← hsn.out]) (by unfold cutV; first | (simp [*]; done) | (simp; omega)), nq, rfl⟩
        · have g9 : ((j : Int) == 9) = false := by simp; omega
          clear hlast h9 hbig hcn
          go_wp2
          have hw1 : IntKind.i64.wrap ((j : Int) + 1) = (j : Int) + 1 := IntWalk.i64_in _ (by omega)
          have hw2 : ((j : Int) + 1).toNat = j + 1 := by omega
          have hw3 : (0 : Int) ≤ (j : Int) + 1 := by omega
          have hw4 : (j : Int) + 1 ≤ (len : Int) := by omega
          go_quiet (fail)
          go_wp2
          all_goals
            go_ret3
            have e := hkj.out
            subst e
            exact ⟨ret_cut (by rw [← hsn.out]) (by unfold cutV; first | (simp [*]; done) | (simp; omega)), nq, rfl⟩

def ReadNo (w : World) (e : Ending) (w' : World) : Prop := e = .returned (.tuple #[.int .u64 0, .slice none 0 0, .bool false]) ∧ w = w'

theorem read_nil (a : Option Addr) (cap : Nat) (w : World) : Calls Try.prog 26 #[.slice a 0 cap] w (ReadNo w) := by
  go_enter Try.func26, Try.ntmps26
  go_wp2
  go_loop [10] (fun i => i = .int .i64 0) (fun _ => 0)
  case atStart => rfl
  case round =>
    obtain rfl := hrel
    go_wp2
    go_ret3
    exact ⟨rfl, rfl⟩

set_option maxRecDepth 100000 in
theorem read_no (bl off len cap : Nat) (z : Nat → Int) (w : World) (h1 : 1 ≤ len) (hlc : len ≤ cap) (hcm : cap ≤ 9223372036854775807) (hz : ∀ i, i < len → w.cell? ⟨bl, off + i, none⟩ = some (.int .u8 (z i)))
    (hb : ∀ i, 0 ≤ z i ∧ z i ≤ 255) (hh : ∀ k, ¬ Hit z len k) : Calls Try.prog 26 #[.slice (some ⟨bl, off, none⟩) len cap] w (ReadNo w) := by
  have HH := Lib.hid hh
  have HZ := Lib.hid hz
  have HBY := Lib.hid hb
  clear hh hz hb
  obtain ⟨mm, hmm, m1, m2⟩ : ∃ mm : Nat, Hid (mm = min len 10) ∧ mm ≤ len ∧ mm ≤ 10 := ⟨_, Lib.hid rfl, by omega, by omega⟩
  by_cases hl : len ≤ 10
  all_goals
    have hmm2 : Hid (len ≤ 10 → mm = len) := Lib.hid fun h => by rw [hmm.out]; omega
    have hmm3 : Hid (¬ len ≤ 10 → mm = 10) := Lib.hid fun h => by rw [hmm.out]; omega
    go_enter Try.func26, Try.ntmps26
    go_wp2
    go_loop [2, 10] (fun n i => ∃ j : Nat, j ≤ mm ∧ i = .int .i64 j ∧ ∃ s : Int, n = .int .u64 s ∧ Hid (s = vs z j) ∧ Hid (∀ i, i < j → 128 ≤ z i)) (fun _ i => mm - (intOf i).toNat)
    case atStart => exact ⟨0, by omega, rfl, 0, rfl, Lib.hid rfl, Lib.hid fun i hi => absurd hi (by omega)⟩
    case round =>
      obtain ⟨j, hj, rfl, s, rfl, HS, HP⟩ := hrel
      by_cases hjm : j < mm
      · have hc := HZ.out j (by omega)
        obtain ⟨c0, c1⟩ := HBY.out j
        have hno : Hid (z j < 128 → (1 ≤ j → z j ≠ 0) → (j = 9 → z j ≤ 1) → False) := Lib.hid fun a b d =>
          HH.out (j + 1) ⟨⟨by omega, fun i hi => HP.out i (by omega), by simpa using a, fun h => by simpa using b (by omega)⟩, by omega, by omega, fun h => by rw [show j = 9 by omega] at d; exact d rfl⟩
        have hnx : Hid (128 ≤ z j → ∀ i, i < j + 1 → 128 ≤ z i) := Lib.hid fun h i hi => by
          rcases Nat.lt_or_ge i j with h' | h'
          · exact HP.out i h'
          · rw [show i = j by omega]; exact h
        have hor : Hid ((j = 9 → z j ≤ 1) → bits BinOp.or IntKind.u64 s (IntKind.u64.wrap (IntKind.u64.wrap (bits BinOp.and IntKind.u8 (z j) 127) * 2 ^ (7 * j))) = vs z (j + 1)) := Lib.hid fun h => by
          rw [or_step s (z j) j (by rw [HS.out]; exact vs_lo _ _) (by rw [HS.out]; exact vs_hi _ _) c0 c1 (by omega) h, vs_succ, HS.out]
        generalize z j = c at *
        by_cases hj9 : j = 9
        · have g9 : ((j : Int) == 9) = true := by simp [hj9]
          by_cases hc1 : 1 < c
          · clear hj9
            go_wp2
            go_ret3
            exact ⟨rfl, rfl⟩
          · by_cases hc0 : c = 0
            · have q0 : (c == 0) = true := by simp [hc0]
              have q1 : c ≤ 1 := by omega
              have q2 : 0 < j := by omega
              have q3 : c < 128 := by omega
              clear hj9 hc0 hc1
              go_wp2
              go_ret3
              exact ⟨rfl, rfl⟩
            · exact (hno.out (by omega) (fun _ => hc0) (fun _ => by omega)).elim
        · have g9 : ((j : Int) == 9) = false := by simp; omega
          obtain ⟨s2, hs2⟩ : ∃ s2, s2 = vs z (j + 1) := ⟨_, rfl⟩
          have hor2 := hor.out (fun h => absurd h hj9)
          rw [← hs2] at hor2
          have HS2 := Lib.hid hs2
          clear hs2
          by_cases hc8 : c < 128
          · by_cases hj0 : j = 0
            · exact (hno.out hc8 (fun h => by omega) (fun h => by omega)).elim
            · by_cases hc0 : c = 0
              · have q0 : (c == 0) = true := by simp [hc0]
                have q2 : 0 < j := by omega
                clear hj9 hc0 hj0
                go_wp2
                go_ret3
                exact ⟨rfl, rfl⟩
              · exact (hno.out hc8 (fun _ => hc0) (fun h => absurd h hj9)).elim
          · have hc8' : 128 ≤ c := by omega
            clear hj9 hc8
            go_wp2
            go_round
            case rel => exact ⟨j + 1, by omega, by go_num, s2, rfl, HS2, Lib.hid (hnx.out hc8')⟩
            case measure => simp [intOf]; omega
      · obtain rfl : j = mm := by omega
        first
          | (have e := hmm2.out hl; subst e; go_wp2; go_ret3; exact ⟨rfl, rfl⟩)
          | (have e := hmm3.out hl; subst e; go_wp2; go_ret3; exact ⟨rfl, rfl⟩)
end Go.Proofs.Ytfjddkjfkgdihaa
