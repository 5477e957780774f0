/- Layer 2, the document's: bits, the divisor. -/
import Derived.Test.YtjbngddmmdcagaaDoorS2
namespace Go.Proofs.YtjbngddmmdcagaaDoor
open Go.RowKit Go.BigFrame
set_option linter.unusedVariables false
set_option linter.unusedSimpArgs false

theorem info3 : (Tryd.prog.info? 3).map (fun i => (i.zero, i.size, i.bytes)) = some (some (.int .i64 0), 1, 8) := by kernel_rfl
/-- Numbers as values. -/
def intsL (l : List Nat) : List Value := l.map fun (b : Nat) => .int .i64 (Int.ofNat b)
theorem intsL_len (l : List Nat) : (intsL l).length = l.length := by simp [intsL]
theorem intsL_append (l m : List Nat) : intsL (l ++ m) = intsL l ++ intsL m := by simp [intsL]
theorem intsL_one (l : List Nat) : ∀ u ∈ intsL l, u.oneCell' = true := fun u hu => by
  obtain ⟨_, _, rfl⟩ := List.mem_map.1 hu
  rfl
theorem intsL_get (l : List Nat) (j : Nat) (h : j < l.length) : (intsL l)[j]? = some (.int .i64 (l[j]?.getD 0 : Nat)) := by
  simp [intsL, List.getElem?_eq_getElem h]
/-- A new list of numbers. -/
def NewInts (l : List Nat) (w : World) (e : Ending) (w' : World) : Prop := ∃ v, e = .returned v ∧ Below w.heap.size w w' ∧ w'.ownsRow w.heap.size 3 1 v l.length (intsL l)
/-- Cells that lie below B. -/
def CellsAt (B : Nat) (W : World) (a : Option Addr) (n : Nat) (f : Nat → Value) : Prop :=
  ∃ b off, (0 < n → a = some ⟨b, off, none⟩ ∧ b < B) ∧ ∀ j, j < n → W.cell? ⟨b, off + j, none⟩ = some (f j)
theorem CellsAt.below {B B' : Nat} {W W' : World} {a : Option Addr} {n : Nat} {f : Nat → Value} (h : CellsAt B W a n f) (hb : Below B' W W') (hB : B ≤ B') : CellsAt B W' a n f := by
  obtain ⟨b, off, ha, hc⟩ := h
  exact ⟨b, off, ha, fun j hj => (hb.cell (p := ⟨b, off + j, none⟩) (by have := (ha (by omega)).2; show b < B'; omega)).trans (hc j hj)⟩
/-- A row of one's own, cell by cell. -/
theorem own_at {w : World} {base : Nat} {e : TypeId} {v : Value} {n : Nat} {xs : List Value} (h : w.ownsRow base e 1 v n xs) : ∃ a c, v = .slice a n c ∧ CellsAt w.heap.size w a n (fun j => xs[j]?.getD undef) := by
  have hl : xs.length = n := by have := h.1; omega
  rcases h.2 with ⟨rfl, rfl⟩ | ⟨g, cap, cur, rfl, hb, hg, h1, h2, h3, h4⟩
  · exact ⟨_, _, rfl, 0, 0, by omega, by omega⟩
  · refine ⟨_, _, rfl, g, 0, fun _ => ⟨rfl, (Array.getElem?_eq_some_iff.1 hg).1⟩, fun j hj => ?_⟩
    rw [Nat.zero_add, cell_in hg, ← Array.getElem?_toList]
    have h5 : xs[j]? = cur.toList[j]? := by rw [← h4, Nat.mul_one, List.getElem?_take, if_pos hj]
    rw [← h5, List.getElem?_eq_getElem (by omega)]; simp [List.getElem?_eq_getElem (show j < xs.length by omega)]
set_option maxRecDepth 100000 in
set_option maxHeartbeats 4000000 in
theorem bits59 (x n : Nat) (hx : x < 18446744073709551616) (hn : n ≤ 64) (w : World) : Calls Tryd.prog 59 #[.int .u64 x, .int .i64 n] w (NewInts (bitsOf n x) w) := by
  obtain ⟨i3, hi, hz0, hz1, hz2⟩ := info_parts info3
  obtain ⟨B, hB⟩ : ∃ B, B = w.heap.size := ⟨_, rfl⟩
  unfold NewInts
  rw [← hB, bitsOf_length]
  have HB := Lib.hid hB; clear hB
  go_enter Tryd.func59, Tryd.ntmps59
  go_wp2_with fail
  go_loopw [0, 5, 6] (fun v0 v i wr => ∃ (k y : Nat) (l : List Nat), k ≤ n ∧ y < 18446744073709551616 ∧ v0 = .int .u64 y ∧ i = .int .i64 k ∧ Hid (bitsOf n x = l ++ bitsOf (n - k) y ∧ l.length = k) ∧ Hid (wr.ownsRow B 3 1 v k (intsL l)) ∧ Hid (Below B w wr)) (fun _ _ i _ => n - (intOf i).toNat)
  case atStart => exact ⟨0, x, [], by omega, hx, rfl, rfl, ⟨rfl, rfl⟩, World.ownsRow_nil _ _ _ _, by rw [HB.out]; exact Below.refl _ _⟩
  case round =>
    obtain ⟨k, y, l, hk, hy, rfl, rfl, HE, HO, HBE⟩ := hrel
    have hBw : B ≤ wr.heap.size := by rw [HB.out]; rw [HB.out] at HBE; exact HBE.out.size
    have q1 : k + 1 ≤ maxLen := by unfold maxLen; omega
    have q2 : (k + 1) * 8 ≤ 140737488355328 := by omega
    obtain ⟨va, vc, rfl⟩ := own_slice_n HO.out
    by_cases hlt : k < n
    · have d1 : decide ((k : Int) < (n : Int)) = true := bool_yes (by omega)
      go_wp2_with (at_builtin; refine wpList_push rfl (.tmp 12) (.tmp 16) 30 rfl B 3 i3 (.int .i64 0) 1 8 Tryd.underlying30 hi hz0 hz1 hz2 rfl (by decide) wr hBw (.slice va k vc) k (intsL l) rfl HO.out #[.int .i64 ((y : Int) % 2)] 1 1 rfl rfl (by simp [Value.oneCell']) q1 q2 ?_; intro v' w' ho' hg' hb' hn'; have HO' := Lib.hid ho'; have HB' := Lib.hid (hb' _ _ HBE.out (Nat.le_refl _)); clear ho' hg' hb' hn')
      go_wp2_with fail
      go_roundw
      case rel => exact ⟨k + 1, y / 2, l ++ [y % 2], by omega, by omega, by go_num, by go_num, ⟨by rw [HE.out.1, show n - k = (n - (k + 1)) + 1 by omega, bitsOf, List.append_assoc]; rfl, by rw [List.length_append, HE.out.2]; rfl⟩, Lib.hid (by rw [intsL_append]; exact HO'.out), HB'⟩
      case measure => simp [intOf]; omega
    · obtain rfl : k = n := by omega
      have d1 : decide ((k : Int) < (k : Int)) = false := by simp
      go_wp2_with fail
      go_ret
      exact ⟨_, rfl, HBE.out, by have := HE.out.1; rw [Nat.sub_self] at this; rw [this, bitsOf, List.append_nil]; exact HO.out⟩
end Go.Proofs.YtjbngddmmdcagaaDoor
