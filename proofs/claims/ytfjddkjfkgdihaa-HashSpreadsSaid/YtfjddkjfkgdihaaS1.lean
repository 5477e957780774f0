/- Walk of hash.Spread. -/
import Derived.Test.YtfjddkjfkgdihaaH2
namespace Go.Proofs.Ytfjddkjfkgdihaa
open Go.RowKit
set_option linter.unusedVariables false

/-- Of the first k keys, how many lie in bucket j. -/
def cntK (z : Nat → Int) (m : Int) : Nat → Nat → Int
  | 0, _ => 0
  | k + 1, j => cntK z m k j + if hMix (z k) % m = (j : Int) then 1 else 0
theorem cntK_bd (z : Nat → Int) (m : Int) (k j : Nat) : 0 ≤ cntK z m k j ∧ cntK z m k j ≤ k := by
  induction k with
  | zero => simp [cntK]
  | succ k ih => simp only [cntK]; split <;> omega
def rowK (z : Nat → Int) (m : Nat) (k : Nat) : List Value := (List.range m).map fun j => .int .i64 (cntK z m k j)
theorem rowK_len (z : Nat → Int) (m k : Nat) : (rowK z m k).length = m := by simp [rowK]
theorem rowK_get (z : Nat → Int) (m k j : Nat) (h : j < m) : (rowK z m k)[j]? = some (.int .i64 (cntK z m k j)) := by simp [rowK, h]
theorem rowK_zero (z : Nat → Int) (m : Nat) : rowK z m 0 = List.replicate m (.int .i64 0) := by
  apply List.ext_getElem?; intro j; by_cases h : j < m <;> simp [rowK, cntK, h]
theorem rowK_succ (z : Nat → Int) (m k j : Nat) (h : j < m) (hj : hMix (z k) % m = (j : Int)) : rowK z m (k + 1) = (rowK z m k).set j (.int .i64 (cntK z m k j + 1)) := by
  apply List.ext_getElem?
  intro i
  by_cases hi : i < m
  · by_cases e : j = i
    · subst e; simp [rowK, cntK, hi, hj]
    · have e2 : ¬ (j : Int) = (i : Int) := by omega
      rw [List.getElem?_set_ne e]; simp [rowK, cntK, hi, hj, e2]
  · simp [rowK, hi]

/-- What the walk is told of a slice of keys that came in. -/
def KeysAt (w : World) (a : Option Addr) (len cap : Nat) (z : Nat → Int) : Prop :=
  len ≤ cap ∧ cap ≤ maxLen ∧ ∀ k, k < len → ∃ b off, a = some ⟨b, off, none⟩ ∧ b < w.heap.size ∧ w.cell? ⟨b, off + k, none⟩ = some (.int .u32 (z k)) ∧ 0 ≤ z k ∧ z k ≤ 4294967295

theorem info3 : (Try.prog.info? 3).map (fun i => (i.zero, i.size, i.bytes)) = some (some (.int .i64 0), 1, 8) := by kernel_rfl

theorem spread_none (a : Option Addr) (len cap : Nat) (m : Int) (h : m < 1 ∨ 64 < m) (w : World) :
    Calls Try.prog 24 #[.slice a len cap, .int .i64 m] w fun e w' => e = .returned (.slice none 0 0) ∧ w = w' := by
  by_cases h1 : m < 1
  · go_enter Try.func24, Try.ntmps24
    go_wp2
    go_ret
    exact ⟨rfl, rfl⟩
  · have h2 : 64 < m := by omega
    go_enter Try.func24, Try.ntmps24
    go_wp2
    go_ret
    exact ⟨rfl, rfl⟩

def SpreadTo (z : Nat → Int) (m len : Nat) (w : World) (e : Ending) (w' : World) : Prop :=
  e = .returned (.slice (some ⟨w.heap.size, 0, none⟩) m m) ∧ Below w.heap.size w w' ∧ w'.ownsRow w.heap.size 3 1 (.slice (some ⟨w.heap.size, 0, none⟩) m m) m (rowK z m len)

set_option maxRecDepth 100000 in
theorem spread_any (a : Option Addr) (len cap : Nat) (z : Nat → Int) (m : Nat) (h1 : 1 ≤ m) (h2 : m ≤ 64) (w : World) (hz : KeysAt w a len cap z) (hl : len ≤ 300) :
    Calls Try.prog 24 #[.slice a len cap, .int .i64 m] w (SpreadTo z m len w) := by
  obtain ⟨i3, hi, hz0, hz1, hz2⟩ := info_parts info3
  obtain ⟨hlc, hcm, hcell⟩ := hz
  unfold maxLen at hcm
  have HC := Lib.hid hcell; clear hcell
  obtain ⟨B, hB⟩ : ∃ B, B = w.heap.size := ⟨_, rfl⟩
  have HB := Lib.hid hB; clear hB
  go_enter Try.func24, Try.ntmps24
  go_wp2_with (at_make; refine wpList_make_full _ rfl _ _ 37 rfl B 3 i3 (.int .i64 0) 1 Try.underlying37 hi hz0 hz1 .i64 .i64 m m m rfl rfl rfl rfl ?c1 ?c2 ?c3 ?_)
  case c1 => rw [hz2]; omega
  case c2 => unfold maxLen; omega
  case c3 => have := HB.out; omega
  intro w1 hown hgr
  have hB := HB.out
  rw [← hB]
  have hbel : Below B w w1 := (Below.refl B w).grown hgr (by omega) (by simp)
  rw [toList_madeCells_one, ← rowK_zero z m, hB.symm] at hown
  clear hB hgr
  have HOWN := Lib.hid hown; clear hown
  have HBEL := Lib.hid hbel; clear hbel
  go_wp2_with fail
  go_loopw [18] (fun i wr => ∃ k : Nat, k ≤ len ∧ i = .int .i64 k ∧ Hid (Below B w wr) ∧ Hid (wr.ownsRow B 3 1 (.slice (some ⟨B, 0, none⟩) m m) m (rowK z m k))) (fun i _ => len - (intOf i).toNat)
  case atStart => exact ⟨0, Nat.zero_le _, rfl, HBEL, HOWN⟩
  case round =>
    obtain ⟨k, hk, rfl, HBEL, HOWN⟩ := hrel
    by_cases hlt : k < len
    · obtain ⟨b, off, rfl, hb, hc, z0, z1⟩ := HC.out k hlt
      have hcw : wr.cell? ⟨b, off + k, none⟩ = some (.int .u32 (z k)) := (HBEL.out.cell (by rw [HB.out]; exact hb)).trans hc
      obtain ⟨j, hj⟩ : ∃ j : Nat, hMix (z k) % (m : Int) = j := Int.eq_ofNat_of_zero_le (Int.emod_nonneg _ (by omega))
      have hjm : j < m := by have := Int.emod_lt_of_pos (hMix (z k)) (show (0 : Int) < m by omega); omega
      have hcj : wr.cell? ⟨B, j, none⟩ = some (.int .i64 (cntK z m k j)) := by rw [HOWN.out.cellAt j (by omega), rowK_get _ _ _ _ hjm]
      have hfj := HOWN.out.frozenAt j
      have bd := cntK_bd z m k j
      have hst := HOWN.out.stored j (.int .i64 (cntK z m k j + 1))
      rw [← rowK_succ z m k j hjm hj] at hst
      have H23 : Hid (∀ w, Calls Try.prog 23 #[.int .u32 (z k), .int .i64 m] w (RefTo j w)) := Lib.hid (by rw [← hj]; exact bucket_any _ _ z0 (by omega) (by omega))
      have HST := Lib.hid hst
      clear hst hj hc
      generalize cntK z m k j = c at *
      go_wp2_with (go_at_call 23; refine (H23.out _).mono ?_; rintro e w' ⟨rfl, rfl⟩)
      go_roundw
      case rel => exact ⟨k + 1, by omega, by go_num, HBEL.out.setCell (Nat.le_refl _) _, HST.out.1⟩
      case measure => simp [intOf]; omega
    · obtain rfl : k = len := by omega
      go_wp2
      go_ret
      have hB := HB.out
      exact ⟨by rw [← hB]; rfl, by rw [← hB]; exact HBEL.out, by rw [← hB]; exact HOWN.out⟩
end Go.Proofs.Ytfjddkjfkgdihaa
