/- Walk of the reference's number (layer 37): the number from a place on, and the place behind. -/
import Derived.Test.YtfjddkjfkgdihaaT5
namespace Go.Proofs.Ytfjddkjfkgdihaa
open Go.RowKit
set_option linter.unusedVariables false
set_option linter.unusedSimpArgs false

/-- What number says of the bytes M from a place on. -/
structure NumAt (M : List Int) (at_ : Nat) (v nx : Int) : Prop where
  lo : 0 ≤ v
  hi : v < 18446744073709551616
  next : nx = -1 ∨ ((at_ : Int) < nx ∧ nx ≤ M.length)
  says : ∀ (m : Nat) (r : List Int), m < 18446744073709551616 → M.drop at_ = numB m ++ r → v = m ∧ nx = at_ + (numB m).length

/-- All bytes so far say that there is more. -/
def More (z : Nat → Int) (j : Nat) : Prop := ∀ i, i < j → 128 ≤ z i
theorem num_first {M : List Int} {at_ m : Nat} {r : List Int} (h : M.drop at_ = numB m ++ r) :
    (∀ i, i < (numB m).length → M.getD (at_ + i) 0 = (numB m).getD i 0) ∧ at_ + (numB m).length ≤ M.length := by
  have hl := congrArg List.length h
  rw [List.length_drop, List.length_append] at hl
  have h1 : 1 ≤ (numB m).length := List.length_pos_iff.2 (numB_ne m)
  refine ⟨fun i hi => ?_, by omega⟩
  have e : M[at_ + i]? = (M.drop at_)[i]? := by rw [List.getElem?_drop]
  rw [List.getD_eq_getElem?_getD, e, h, List.getElem?_append_left hi, List.getD_eq_getElem?_getD]
theorem num_none {M : List Int} {at_ j : Nat} (hm : More (fun i => M.getD (at_ + i) 0) j) (hj : j = 10 ∨ at_ + j = M.length) (v : Int) (h0 : 0 ≤ v) (h1 : v < 18446744073709551616) : NumAt M at_ v (-1) := by
  refine ⟨h0, h1, .inl rfl, fun m r hmm h => ?_⟩
  exfalso
  obtain ⟨hz, hl⟩ := num_first h
  obtain ⟨hs, -, -⟩ := stops_of_numB m (fun i => M.getD (at_ + i) 0) hz
  have h10 := numB_len10 m hmm
  have h2 := hs.last
  have h3 := hs.one
  have h4 := hm ((numB m).length - 1) (by omega)
  simp only at h2 h4
  omega
theorem num_some {M : List Int} {at_ j : Nat} (hm : More (fun i => M.getD (at_ + i) 0) j) (hj : at_ + j < M.length) (hz : M.getD (at_ + j) 0 < 128) (v : Int) (hv : v = vs (fun i => M.getD (at_ + i) 0) (j + 1) % 18446744073709551616) : NumAt M at_ v ((at_ : Int) + j + 1) := by
  refine ⟨by omega, by omega, .inr ⟨by omega, by omega⟩, fun m r hmm h => ?_⟩
  obtain ⟨hzz, hl⟩ := num_first h
  obtain ⟨hs, hvv, -⟩ := stops_of_numB m (fun i => M.getD (at_ + i) 0) hzz
  have h2 := hs.last
  have h3 := hs.one
  have e : (numB m).length = j + 1 := by
    rcases Nat.lt_trichotomy (numB m).length (j + 1) with h | h | h
    · have := hm ((numB m).length - 1) (by omega); simp only at h2 this; omega
    · exact h
    · have := hs.big j h; omega
  rw [e] at hvv
  rw [hvv] at hv
  exact ⟨by omega, by rw [e]; omega⟩

def NumTo (M : List Int) (at_ : Nat) (w : World) (e : Ending) (w' : World) : Prop :=
  ∃ v nx : Int, e = .returned (.tuple #[.int .u64 v, .int .i64 nx]) ∧ w' = w ∧ NumAt M at_ v nx

set_option maxRecDepth 100000 in
set_option maxHeartbeats 1000000 in
theorem refNum_any (a : Option Addr) (len cap at_ : Nat) (M : List Int) (B : Nat) (w : World) (h : RdB .u8 B w a len cap M) (hM : ∀ c ∈ M, 0 ≤ c ∧ c ≤ 255) (hl : len ≤ 1000000) (hat : at_ ≤ len) :
    Calls Try.prog 74 #[.slice a len cap, .int .i64 at_] w (NumTo M at_ w) := by
  obtain ⟨hML, hlc, hcm, hB, hc⟩ := h
  unfold maxLen at hcm
  have HC := Lib.hid hc
  have HL := Lib.hid hML
  have HM := Lib.hid hM
  clear hc hM hML
  go_enter Try.func74, Try.ntmps74
  go_wp2_with fail
  go_loopw [6, 7, 8] (fun n t i wr => ∃ j : Nat, j ≤ 10 ∧ at_ + j ≤ len ∧ i = .int .i64 j ∧ wr = w ∧ ∃ s u : Int, n = .int .u64 s ∧ t = .int .u64 u ∧ Hid (s = vs (fun i => M.getD (at_ + i) 0) j % 18446744073709551616 ∧ (j ≤ 9 → u = 128 ^ j) ∧ More (fun i => M.getD (at_ + i) 0) j)) (fun _ _ i _ => 10 - (intOf i).toNat)
  case atStart => exact ⟨0, by omega, by omega, rfl, rfl, 0, 1, rfl, rfl, Lib.hid ⟨by simp [vs], by simp, fun i hi => by omega⟩⟩
  case round =>
    obtain ⟨j, hj, hjl, rfl, rfl, s, u, rfl, rfl, HS⟩ := hrel
    by_cases h10 : j = 10
    · have g1 : decide ((j : Int) < 10) = false := by simp; omega
      have HN := Lib.hid (num_none HS.out.2.2 (.inl h10) 0 (by omega) (by omega))
      go_wp2_with fail
      go_ret2
      exact ⟨0, -1, rfl, rfl, HN.out⟩
    · have j9 : j ≤ 9 := by omega
      have g1 : decide ((j : Int) < 10) = true := by simp; omega
      by_cases hlt : at_ + j < len
      · have hb : ∃ b off, a = some ⟨b, off, none⟩ ∧ wr.cell? ⟨b, off + (at_ + j), none⟩ = some (.int .u8 (M.getD (at_ + j) 0)) := by
          rcases HC.out with h | ⟨b, off, e, -, hc⟩
          · omega
          · exact ⟨b, off, e, hc _ hlt⟩
        obtain ⟨b, off, rfl, hcell⟩ := hb
        have hby : 0 ≤ M.getD (at_ + j) 0 ∧ M.getD (at_ + j) 0 ≤ 255 := by
          have : at_ + j < M.length := by rw [HL.out]; exact hlt
          rw [List.getD_eq_getElem?_getD, List.getElem?_eq_getElem this, Option.getD_some]
          exact HM.out _ (List.getElem_mem _)
        have hst := add_step (fun i => M.getD (at_ + i) 0) j s u HS.out.1 (HS.out.2.1 j9)
        have hmu : Hid (j + 1 ≤ 9 → IntKind.u64.wrap (u * 128) = 128 ^ (j + 1)) := Lib.hid fun e => mul_step j u e (HS.out.2.1 j9)
        have hsome : Hid (M.getD (at_ + j) 0 < 128 → ∀ v, v = vs (fun i => M.getD (at_ + i) 0) (j + 1) % 18446744073709551616 → NumAt M at_ v ((at_ : Int) + j + 1)) := Lib.hid fun e v hv => num_some HS.out.2.2 (by rw [HL.out]; exact hlt) e v hv
        have hmore : Hid (128 ≤ M.getD (at_ + j) 0 → More (fun i => M.getD (at_ + i) 0) (j + 1)) := Lib.hid fun e i hi => by
          by_cases h : i < j
          · exact HS.out.2.2 i h
          · obtain rfl : i = j := by omega
            exact e
        generalize M.getD (at_ + j) 0 = c at *
        obtain ⟨c0, c1⟩ := hby
        obtain ⟨x, hx⟩ : ∃ x, x = vs (fun i => M.getD (at_ + i) 0) (j + 1) % 18446744073709551616 := ⟨_, rfl⟩
        rw [← hx] at hst
        have HX := Lib.hid hx
        clear hx
        have w1 : IntKind.i64.wrap ((at_ : Int) + (j : Int)) = ((at_ + j : Nat) : Int) := by rw [IntWalk.i64_in _ (by omega)]; omega
        have w2 : IntKind.i64.wrap (((at_ + j : Nat) : Int) + 1) = ((at_ + j : Nat) : Int) + 1 := IntWalk.i64_in _ (by omega)
        have g2 : decide (((at_ + j : Nat) : Int) < (len : Int)) = true := by simp; omega
        have g3 : (0 : Int) ≤ ((at_ + j : Nat) : Int) := by omega
        have g4 : ((at_ + j : Nat) : Int) < (len : Int) := by omega
        have g5 : (((at_ + j : Nat) : Int)).toNat = at_ + j := by omega
        have w3 : IntKind.u64.wrap (c % 128) = c % 128 := IntWalk.u64_in _ (by omega)
        have w4 : IntKind.u8.wrap (c % 128) = c % 128 := IntWalk.u8_in _ (by omega)
        by_cases hc128 : c < 128
        · have g6 : decide (c < 128) = true := by simp; omega
          clear HC HS
          go_wp2_with fail
          go_ret2
          exact ⟨x, _, rfl, rfl, hsome.out hc128 x HX.out⟩
        · have g6 : decide (c < 128) = false := by simp; omega
          clear HC HS
          go_wp2_with fail
          go_roundw
          case rel => exact ⟨j + 1, by omega, by omega, by go_num, by trivial, x, _, rfl, rfl, Lib.hid ⟨HX.out, hmu.out, hmore.out (by omega)⟩⟩
          case measure => simp [intOf]; omega
      · have HN := Lib.hid (num_none HS.out.2.2 (.inr (by rw [HL.out]; omega)) 0 (by omega) (by omega))
        have w1 : IntKind.i64.wrap ((at_ : Int) + (j : Int)) = ((at_ + j : Nat) : Int) := by rw [IntWalk.i64_in _ (by omega)]; omega
        have g2 : decide (((at_ + j : Nat) : Int) < (len : Int)) = false := by simp; omega
        go_wp2_with fail
        go_ret2
        exact ⟨0, -1, rfl, rfl, HN.out⟩
end Go.Proofs.Ytfjddkjfkgdihaa
