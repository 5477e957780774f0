/- Layer 5 (super): which lines are read, and as which config. -/
import Derived.Test.YtkdcfijebgeajaaGreatJw7
namespace Go.Proofs.YtkdcfijebgeajaaGreat
open Go.RowKit Go.BigFrame
set_option linter.unusedVariables false
set_option linter.unusedSimpArgs false
set_option maxRecDepth 100000 in
theorem eq142 (o0 o1 o2 o3 o4 o5 o6 o7 i0 i1 i2 i3 i4 i5 i6 i7 : Int) (w : World) : (Op.equalIn 10000 142 (.agg #[.int .u64 o0, .int .u64 o1, .int .u64 o2, .int .u64 o3, .int .u64 o4, .int .u64 o5, .int .u64 o6, .int .u64 o7]) (.agg #[.int .u64 i0, .int .u64 i1, .int .u64 i2, .int .u64 i3, .int .u64 i4, .int .u64 i5, .int .u64 i6, .int .u64 i7])).run Tryz.prog w = .ok (decide (o0 = i0 ∧ o1 = i1 ∧ o2 = i2 ∧ o3 = i3 ∧ o4 = i4 ∧ o5 = i5 ∧ o6 = i6 ∧ o7 = i7)) w := by
  obtain ⟨t3, hi, -⟩ := info_parts (show (Tryz.prog.info? 105).map (fun i => (i.zero, i.size, i.bytes)) = some (some (.int .u64 0), 1, 8) by kernel_rfl)
  have hc : Tryz.prog.cellsOf 105 = 1 := by kernel_rfl
  have hk : Tryz.prog.plainKey 105 = true := by kernel_rfl
  have hp : ∀ (xs : Array Value) (j : Nat) (v : Value) (w : World), xs[j]? = some v → (_root_.Go.part 105 xs j).run Tryz.prog w = .ok v w := fun xs j v w h => run_part_plain w hk h
  have h0 := hp #[.int .u64 o0, .int .u64 o1, .int .u64 o2, .int .u64 o3, .int .u64 o4, .int .u64 o5, .int .u64 o6, .int .u64 o7] 0 (.int .u64 o0) w rfl
  have g0 := hp #[.int .u64 i0, .int .u64 i1, .int .u64 i2, .int .u64 i3, .int .u64 i4, .int .u64 i5, .int .u64 i6, .int .u64 i7] 0 (.int .u64 i0) w rfl
  have h1 := hp #[.int .u64 o0, .int .u64 o1, .int .u64 o2, .int .u64 o3, .int .u64 o4, .int .u64 o5, .int .u64 o6, .int .u64 o7] 1 (.int .u64 o1) w rfl
  have g1 := hp #[.int .u64 i0, .int .u64 i1, .int .u64 i2, .int .u64 i3, .int .u64 i4, .int .u64 i5, .int .u64 i6, .int .u64 i7] 1 (.int .u64 i1) w rfl
  have h2 := hp #[.int .u64 o0, .int .u64 o1, .int .u64 o2, .int .u64 o3, .int .u64 o4, .int .u64 o5, .int .u64 o6, .int .u64 o7] 2 (.int .u64 o2) w rfl
  have g2 := hp #[.int .u64 i0, .int .u64 i1, .int .u64 i2, .int .u64 i3, .int .u64 i4, .int .u64 i5, .int .u64 i6, .int .u64 i7] 2 (.int .u64 i2) w rfl
  have h3 := hp #[.int .u64 o0, .int .u64 o1, .int .u64 o2, .int .u64 o3, .int .u64 o4, .int .u64 o5, .int .u64 o6, .int .u64 o7] 3 (.int .u64 o3) w rfl
  have g3 := hp #[.int .u64 i0, .int .u64 i1, .int .u64 i2, .int .u64 i3, .int .u64 i4, .int .u64 i5, .int .u64 i6, .int .u64 i7] 3 (.int .u64 i3) w rfl
  have h4 := hp #[.int .u64 o0, .int .u64 o1, .int .u64 o2, .int .u64 o3, .int .u64 o4, .int .u64 o5, .int .u64 o6, .int .u64 o7] 4 (.int .u64 o4) w rfl
  have g4 := hp #[.int .u64 i0, .int .u64 i1, .int .u64 i2, .int .u64 i3, .int .u64 i4, .int .u64 i5, .int .u64 i6, .int .u64 i7] 4 (.int .u64 i4) w rfl
  have h5 := hp #[.int .u64 o0, .int .u64 o1, .int .u64 o2, .int .u64 o3, .int .u64 o4, .int .u64 o5, .int .u64 o6, .int .u64 o7] 5 (.int .u64 o5) w rfl
  have g5 := hp #[.int .u64 i0, .int .u64 i1, .int .u64 i2, .int .u64 i3, .int .u64 i4, .int .u64 i5, .int .u64 i6, .int .u64 i7] 5 (.int .u64 i5) w rfl
  have h6 := hp #[.int .u64 o0, .int .u64 o1, .int .u64 o2, .int .u64 o3, .int .u64 o4, .int .u64 o5, .int .u64 o6, .int .u64 o7] 6 (.int .u64 o6) w rfl
  have g6 := hp #[.int .u64 i0, .int .u64 i1, .int .u64 i2, .int .u64 i3, .int .u64 i4, .int .u64 i5, .int .u64 i6, .int .u64 i7] 6 (.int .u64 i6) w rfl
  have h7 := hp #[.int .u64 o0, .int .u64 o1, .int .u64 o2, .int .u64 o3, .int .u64 o4, .int .u64 o5, .int .u64 o6, .int .u64 o7] 7 (.int .u64 o7) w rfl
  have g7 := hp #[.int .u64 i0, .int .u64 i1, .int .u64 i2, .int .u64 i3, .int .u64 i4, .int .u64 i5, .int .u64 i6, .int .u64 i7] 7 (.int .u64 i7) w rfl
  have hr : List.range 8 = [0, 1, 2, 3, 4, 5, 6, 7] := rfl
  have he := fun a b => run_equalIn_int (P := Tryz.prog) w 9998 105 .u64 .u64 a b Tryz.underlying105
  rw [run_equalIn_array w 9999 _ _ Tryz.underlying142 hi, hc, hr]
  simp [Op.eqItems, h0, g0, h1, g1, h2, g2, h3, g3, h4, g4, h5, g5, h6, g6, h7, g7, he]
  by_cases e0 : o0 = i0
  rotate_left
  · simp [e0]
  rw [if_pos e0, decide_eq_true e0, Bool.true_and]
  by_cases e1 : o1 = i1
  rotate_left
  · simp [e1]
  rw [if_pos e1, decide_eq_true e1, Bool.true_and]
  by_cases e2 : o2 = i2
  rotate_left
  · simp [e2]
  rw [if_pos e2, decide_eq_true e2, Bool.true_and]
  by_cases e3 : o3 = i3
  rotate_left
  · simp [e3]
  rw [if_pos e3, decide_eq_true e3, Bool.true_and]
  by_cases e4 : o4 = i4
  rotate_left
  · simp [e4]
  rw [if_pos e4, decide_eq_true e4, Bool.true_and]
  by_cases e5 : o5 = i5
  rotate_left
  · simp [e5]
  rw [if_pos e5, decide_eq_true e5, Bool.true_and]
  by_cases e6 : o6 = i6
  rotate_left
  · simp [e6]
  rw [if_pos e6, decide_eq_true e6, Bool.true_and]
  by_cases e7 : o7 = i7
  rotate_left
  · simp [e7]
  rw [if_pos e7, decide_eq_true e7]
def lineG (g : Nat → Nat) : Value := .agg #[.int .u64 (g 0 : Nat), .int .u64 (g 1 : Nat), .int .u64 (g 2 : Nat), .int .u64 (g 3 : Nat), .int .u64 (g 4 : Nat), .int .u64 (g 5 : Nat), .int .u64 (g 6 : Nat), .int .u64 (g 7 : Nat)]
def cfgV (th sl lo bu : Nat) : Value := .agg #[.int .i64 (th : Nat), .int .i64 (sl : Nat), .int .i64 (lo : Nat), .int .i64 (bu : Nat)]
def LineP (g : Nat → Nat) : Prop := Ok4 (g 1) (g 2) (g 3) (g 4) ∧ g 0 = magic ∧ g 5 = 1 ∧ g 6 = 0 ∧ g 7 = sumW (six magic (g 1) (g 2) (g 3) (g 4) 1) 7
open Classical in
/-- What is read. -/
noncomputable def readV (g : Nat → Nat) : Value := if LineP g then .tuple #[cfgV (g 1) (g 2) (g 3) (g 4), .int .i64 0] else .tuple #[.agg #[.int .i64 0, .int .i64 0, .int .i64 0, .int .i64 0], .int .i64 8]
theorem number198_any (x m : Nat) (hm : m ≤ 1000000) (w : World) : Calls Tryz.prog 198 #[.int .u64 (x : Nat), .int .i64 (m : Nat)] w (Says (.int .i64 ((if x ≤ m then x else 0 : Nat) : Nat)) w) := by
  by_cases h : x ≤ m
  · rw [if_pos h]; exact number317 x m h hm w
  · rw [if_neg h]
    have d1 : decide ((m : Int) < (x : Int)) = true := bool_yes (by omega)
    have e1 : IntKind.u64.wrap (m : Int) = m := by simp [IntKind.wrap, IntKind.bits, IntKind.signed]; omega
    go_enter Tryz.func198, Tryz.ntmps198
    go_wp2_with fail
    go_ret
    exact ⟨rfl, rfl⟩
theorem line73_no (m1 m2 m3 m4 : Nat) (h : ¬ Ok4 m1 m2 m3 m4) (w : World) : Calls Tryz.prog 73 #[.agg #[.int .i64 (m1 : Nat), .int .i64 (m2 : Nat), .int .i64 (m3 : Nat), .int .i64 (m4 : Nat)]] w (Gives (.tuple #[.agg #[.int .u64 0, .int .u64 0, .int .u64 0, .int .u64 0, .int .u64 0, .int .u64 0, .int .u64 0, .int .u64 0], .int .i64 1]) w) := by
  have HR := Lib.hid fun w => right_any ⟨m1, m2, m3, m4⟩ w
  have d : decide (Cfg.right ⟨m1, m2, m3, m4⟩) = false := decide_eq_false (fun k => h (by unfold Cfg.right at k; unfold Ok4; simp only at k; omega))
  rw [d] at HR
  clear h d
  simp only [Cfg.cells] at HR
  go_enter Tryz.func73, Tryz.ntmps73
  go_wp2_with fail
  refine (HR.out _).mono ?_
  rintro e w1 ⟨rfl, hb⟩
  have g1 : w1.heap[w.heap.size + 1]? = some (.cells zero8 142 (0, 0)) := (hb.block _ (by first | (simp; done) | (simp; omega))).trans (by have := heap_alloc_new (w.alloc (.cells #[.int .i64 (m1 : Nat), .int .i64 (m2 : Nat), .int .i64 (m3 : Nat), .int .i64 (m4 : Nat)] 23)) (.cells zero8 142); rwa [World.size_alloc] at this)
  have hB1 : Below w.heap.size w w1 := (((Below.refl _ _).alloc (Nat.le_refl _) _).alloc (by simp) _).trans (hb.mono (by simp; omega))
  have HB1 := Lib.hid hB1
  clear hb hB1
  have d0 := cell_row g1 0 _ rfl
  have d1 := cell_row g1 1 _ rfl
  have d2 := cell_row g1 2 _ rfl
  have d3 := cell_row g1 3 _ rfl
  have d4 := cell_row g1 4 _ rfl
  have d5 := cell_row g1 5 _ rfl
  have d6 := cell_row g1 6 _ rfl
  have d7 := cell_row g1 7 _ rfl
  have f1 : ∀ j, w1.frozen? ⟨w.heap.size + 1, j, none⟩ = false := fun j => by unfold World.frozen?; rw [g1]; simp
  clear g1
  go_wp2_with fail
  refine bodyPost_ret (v := .tuple #[.agg #[.int .u64 0, .int .u64 0, .int .u64 0, .int .u64 0, .int .u64 0, .int .u64 0, .int .u64 0, .int .u64 0], .int .i64 1]) ?_ rfl ⟨rfl, ?_⟩
  · simp [results, Tryz.results73, go_sem, d0, d1, d2, d3, d4, d5, d6, d7]
  · exact ((((((((HB1.out).setCell (p := ⟨w.heap.size + 1, 0, none⟩) (Nat.le_succ _) _).setCell (p := ⟨w.heap.size + 1, 1, none⟩) (Nat.le_succ _) _).setCell (p := ⟨w.heap.size + 1, 2, none⟩) (Nat.le_succ _) _).setCell (p := ⟨w.heap.size + 1, 3, none⟩) (Nat.le_succ _) _).setCell (p := ⟨w.heap.size + 1, 4, none⟩) (Nat.le_succ _) _).setCell (p := ⟨w.heap.size + 1, 5, none⟩) (Nat.le_succ _) _).setCell (p := ⟨w.heap.size + 1, 6, none⟩) (Nat.le_succ _) _).setCell (p := ⟨w.heap.size + 1, 7, none⟩) (Nat.le_succ _) _
set_option maxRecDepth 100000 in
/-- A line is read, whatever it is. -/
theorem read148_any (g : Nat → Nat) (w : World) : Calls Tryz.prog 148 #[lineG g] w (Gives (readV g) w) := by
  obtain ⟨m1, h1⟩ : ∃ m : Nat, m = if g 1 ≤ 64 then g 1 else 0 := ⟨_, rfl⟩
  obtain ⟨m2, h2⟩ : ∃ m : Nat, m = if g 2 ≤ 65536 then g 2 else 0 := ⟨_, rfl⟩
  obtain ⟨m3, h3⟩ : ∃ m : Nat, m = if g 3 ≤ 64 then g 3 else 0 := ⟨_, rfl⟩
  obtain ⟨m4, h4⟩ : ∃ m : Nat, m = if g 4 ≤ 64 then g 4 else 0 := ⟨_, rfl⟩
  have N1 : Hid (∀ w, Calls Tryz.prog 198 #[.int .u64 (g 1 : Nat), .int .i64 64] w (Says (.int .i64 (m1 : Nat)) w)) := Lib.hid fun w => by rw [h1]; exact number198_any (g 1) 64 (by omega) w
  have N2 : Hid (∀ w, Calls Tryz.prog 198 #[.int .u64 (g 2 : Nat), .int .i64 65536] w (Says (.int .i64 (m2 : Nat)) w)) := Lib.hid fun w => by rw [h2]; exact number198_any (g 2) 65536 (by omega) w
  have N3 : Hid (∀ w, Calls Tryz.prog 198 #[.int .u64 (g 3 : Nat), .int .i64 64] w (Says (.int .i64 (m3 : Nat)) w)) := Lib.hid fun w => by rw [h3]; exact number198_any (g 3) 64 (by omega) w
  have N4 : Hid (∀ w, Calls Tryz.prog 198 #[.int .u64 (g 4 : Nat), .int .i64 64] w (Says (.int .i64 (m4 : Nat)) w)) := Lib.hid fun w => by rw [h4]; exact number198_any (g 4) 64 (by omega) w
  by_cases hm : Ok4 m1 m2 m3 m4
  · have hm' := hm
    unfold Ok4 at hm'
    have e1 : m1 = g 1 := by rw [h1]; split; rfl; rename_i hx; rw [if_neg hx] at h1; omega
    have e2 : m2 = g 2 := by rw [h2]; split; rfl; rename_i hx; rw [if_neg hx] at h2; omega
    have e3 : m3 = g 3 := by rw [h3]; split; rfl; rename_i hx; rw [if_neg hx] at h3; omega
    have e4 : m4 = g 4 := by rw [h4]; split; rfl; rename_i hx; rw [if_neg hx] at h4; omega
    obtain ⟨S, hS⟩ : ∃ S, S = sumW (six magic m1 m2 m3 m4 1) 7 := ⟨_, rfl⟩
    have HL : Hid (∀ w, Calls Tryz.prog 73 #[.agg #[.int .i64 (m1 : Nat), .int .i64 (m2 : Nat), .int .i64 (m3 : Nat), .int .i64 (m4 : Nat)]] w (Gives (.tuple #[.agg #[.int .u64 7739836655157129782, .int .u64 (m1 : Nat), .int .u64 (m2 : Nat), .int .u64 (m3 : Nat), .int .u64 (m4 : Nat), .int .u64 1, .int .u64 0, .int .u64 (S : Nat)], .int .i64 0]) w)) := Lib.hid fun w => by
      have := line318 m1 m2 m3 m4 hm w
      rw [hS]
      exact this
    have key : decide ((7739836655157129782 : Int) = (g 0 : Nat) ∧ (m1 : Int) = (g 1 : Nat) ∧ (m2 : Int) = (g 2 : Nat) ∧ (m3 : Int) = (g 3 : Nat) ∧ (m4 : Int) = (g 4 : Nat) ∧ (1 : Int) = (g 5 : Nat) ∧ (0 : Int) = (g 6 : Nat) ∧ (S : Int) = (g 7 : Nat)) = true ↔ LineP g := by
      rw [decide_eq_true_iff]
      unfold LineP
      rw [← e1, ← e2, ← e3, ← e4, ← hS]
      constructor
      · rintro ⟨a, b, c, d, e, f, i, j⟩
        refine ⟨hm, ?_, by omega, by omega, by omega⟩
        unfold magic; omega
      · rintro ⟨a, b, c, d, e⟩
        refine ⟨?_, rfl, rfl, rfl, rfl, by omega, by omega, by omega⟩
        rw [b]; rfl
    by_cases hp : LineP g
    · have HE : Hid (∀ w, (Op.equalIn 10000 142 (.agg #[.int .u64 7739836655157129782, .int .u64 (m1 : Nat), .int .u64 (m2 : Nat), .int .u64 (m3 : Nat), .int .u64 (m4 : Nat), .int .u64 1, .int .u64 0, .int .u64 (S : Nat)]) (.agg #[.int .u64 (g 0 : Nat), .int .u64 (g 1 : Nat), .int .u64 (g 2 : Nat), .int .u64 (g 3 : Nat), .int .u64 (g 4 : Nat), .int .u64 (g 5 : Nat), .int .u64 (g 6 : Nat), .int .u64 (g 7 : Nat)])).run Tryz.prog w = .ok true w) := Lib.hid fun w => by rw [eq142, key.2 hp]
      unfold readV
      rw [if_pos hp, ← e1, ← e2, ← e3, ← e4]
      exact read_yes (g 0 : Nat) (g 1 : Nat) (g 2 : Nat) (g 3 : Nat) (g 4 : Nat) (g 5 : Nat) (g 6 : Nat) (g 7 : Nat) _ _ _ _ _ _ _ _ m1 m2 m3 m4 N1 N2 N3 N4 HL HE w
    · have HE : Hid (∀ w, (Op.equalIn 10000 142 (.agg #[.int .u64 7739836655157129782, .int .u64 (m1 : Nat), .int .u64 (m2 : Nat), .int .u64 (m3 : Nat), .int .u64 (m4 : Nat), .int .u64 1, .int .u64 0, .int .u64 (S : Nat)]) (.agg #[.int .u64 (g 0 : Nat), .int .u64 (g 1 : Nat), .int .u64 (g 2 : Nat), .int .u64 (g 3 : Nat), .int .u64 (g 4 : Nat), .int .u64 (g 5 : Nat), .int .u64 (g 6 : Nat), .int .u64 (g 7 : Nat)])).run Tryz.prog w = .ok false w) := Lib.hid fun w => by rw [eq142, Bool.eq_false_iff.2 fun h => hp (key.1 h)]
      unfold readV
      rw [if_neg hp]
      exact read_ne (g 0 : Nat) (g 1 : Nat) (g 2 : Nat) (g 3 : Nat) (g 4 : Nat) (g 5 : Nat) (g 6 : Nat) (g 7 : Nat) _ _ _ _ _ _ _ _ m1 m2 m3 m4 N1 N2 N3 N4 HL HE w
  · have hp : ¬ LineP g := fun h => hm (by
      obtain ⟨a, -⟩ := h
      have a' := a
      unfold Ok4 at a'
      rw [h1, h2, h3, h4, if_pos (by omega), if_pos (by omega), if_pos (by omega), if_pos (by omega)]
      exact a)
    unfold readV
    rw [if_neg hp]
    exact read_er (g 0 : Nat) (g 1 : Nat) (g 2 : Nat) (g 3 : Nat) (g 4 : Nat) (g 5 : Nat) (g 6 : Nat) (g 7 : Nat) _ _ _ _ _ _ _ _ m1 m2 m3 m4 N1 N2 N3 N4 (Lib.hid fun w => line73_no m1 m2 m3 m4 hm w) w
end Go.Proofs.YtkdcfijebgeajaaGreat
