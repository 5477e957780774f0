/- The law ReplayRuns, walked.
   The law ReplayRuns, walked where there is a memory.
   What a value that was read as data holds, cell by cell: structs, arrays, slices of them. No program here.
   The law ReplayRuns for all data. -/
import Derived.Test.YtpmjcinemabamaaK8
import Derived.WalkKit
import Derived.ProofKit
import Derived.OpenShut
import Derived.Deep.Slices
import Derived.Lib.Hide
namespace Go.Proofs.Ytpmjcinemabamaa
open Go.RowKit Go.BigFrame
set_option linter.unusedVariables false
set_option linter.unusedSimpArgs false

/-- Words in memory. -/
def WordsIn (W : World) (a : Option Addr) (n : Nat) (f : Nat → Int) : Prop := 0 < n → ∃ b off, a = some ⟨b, off, none⟩ ∧ b < W.heap.size ∧ ∀ j, j < n → W.cell? ⟨b, off + j, none⟩ = some (.int .u64 (f j))
theorem WordsIn.below {W W' : World} {a : Option Addr} {n : Nat} {f : Nat → Int} (h : WordsIn W a n f) (hb : Below W.heap.size W W') : WordsIn W' a n f := fun h0 => by
  obtain ⟨b, off, e, hl, hc⟩ := h h0
  exact ⟨b, off, e, Nat.lt_of_lt_of_le hl hb.size, fun j hj => (hb.cell (p := ⟨b, off + j, none⟩) hl).trans (hc j hj)⟩
theorem open18_all (a : Option Addr) (n cap : Nat) (hn : n ≤ cap) (hc : cap ≤ 9223372036854775807) (t : Int) (f : Nat → Int) (w : World) (h : WordsIn w a n f) : Calls Try.prog 18 #[.slice a n cap, .int .i64 t] w (OpenTo f n t w) := by
  by_cases h1 : 1 ≤ t ∧ t ≤ 64
  · by_cases h2 : wholeE n = 0
    · by_cases h3 : n = 0
      · subst h3; exact open18_none a cap hc t f w h1
      · obtain ⟨b, off, e, hl, hw⟩ := h (by omega)
        refine open18_yes a b off n cap (fun _ => e) hn hc t f w ?_ hl hw
        unfold mayOpenE; rw [if_neg (by simpa using h1), if_neg (by simpa using h2), if_neg h3]
    · exact open18_err a n cap (by omega) t f w h1 h2
  · refine (open18_no a n cap t h1 w).mono ?_
    rintro e w' ⟨rfl, hb, _⟩
    have : mayOpenE n t = 1 := by unfold mayOpenE; rw [if_pos h1]
    exact ⟨hb, Or.inl ⟨by omega, by rw [this]⟩⟩
set_option maxRecDepth 100000 in
set_option maxHeartbeats 1000000 in
theorem law3_long (a : Option Addr) (n cap : Nat) (x0 x1 : Int) (al : Option Addr) (len capl : Nat) (m1 : n ≤ 9223372036854775807) (m2 : len ≤ 9223372036854775807) (W : World) (h : 60 < n ∨ 100 < len ∨ 300 < x1 ∧ x1 ≤ 262144) :
    Calls Try.prog 3 #[.slice a n cap, .agg #[.int .i64 x0, .int .i64 x1], .slice al len capl] W (Gives (.bool true) W) := by
  have HA := Lib.hid fun w => awake5 w
  by_cases h1 : 60 < n
  · have d1 : decide (60 < (n : Int)) = true := bool_yes (by omega)
    clear h h1
    go_enter Try.func3, Try.ntmps3
    go_wp2_with fail
    with_reducible refine (HA.out _).mono ?_
    rintro e w ⟨rfl, hb⟩
    have HB := Lib.hid (((Below.refl _ _).alloc (Nat.le_refl _) _).trans (hb.mono (by simp)))
    clear hb
    go_wp2_with fail
    go_ret
    exact ⟨rfl, HB.out⟩
  · have d1 : decide (60 < (n : Int)) = false := bool_no (by omega)
    by_cases h2 : 100 < len
    · have d2 : decide (100 < (len : Int)) = true := bool_yes (by omega)
      clear h h1 h2
      go_enter Try.func3, Try.ntmps3
      go_wp2_with fail
      with_reducible refine (HA.out _).mono ?_
      rintro e w ⟨rfl, hb⟩
      have HB := Lib.hid (((Below.refl _ _).alloc (Nat.le_refl _) _).trans (hb.mono (by simp)))
      clear hb
      go_wp2_with fail
      go_ret
      exact ⟨rfl, HB.out⟩
    · have d2 : decide (100 < (len : Int)) = false := bool_no (by omega)
      have d3 : decide (300 < x1) = true := bool_yes (by omega)
      have d4 : decide (x1 ≤ 262144) = true := bool_yes (by omega)
      clear h h1 h2
      go_enter Try.func3, Try.ntmps3
      go_wp2_with fail
      with_reducible refine (HA.out _).mono ?_
      rintro e w ⟨rfl, hb⟩
      have HB := Lib.hid (((Below.refl _ _).alloc (Nat.le_refl _) _).trans (hb.mono (by simp)))
      clear hb
      go_wp2_with fail
      go_ret
      exact ⟨rfl, HB.out⟩
set_option maxRecDepth 100000 in
set_option maxHeartbeats 1000000 in
theorem law3_none (a : Option Addr) (n cap : Nat) (x0 x1 : Int) (al : Option Addr) (len capl : Nat) (hn : n ≤ 60) (hl : len ≤ 100) (hx : ¬ (300 < x1 ∧ x1 ≤ 262144)) (f : Nat → Int) (l : Nat → Acc) (W : World)
    (hR : ∀ w, Below W.heap.size W w → Calls Try.prog 6 #[.slice a n cap, .int .i64 x0, .int .i64 x1, .slice al len capl] w (RunTo f n x0 x1 l len w)) (hE : runE n x0 x1 ≠ 0) :
    Calls Try.prog 3 #[.slice a n cap, .agg #[.int .i64 x0, .int .i64 x1], .slice al len capl] W (Gives (.bool true) W) := by
  have HA := Lib.hid fun w => awake5 w
  have HRUN : Hid (∀ w, Below W.heap.size W w → Calls Try.prog 6 #[.slice a n cap, .int .i64 x0, .int .i64 x1, .slice al len capl] w (fun e w' => e = .returned (.tuple #[.pointer none, .int .i64 0, .int .i64 (runE n x0 x1)]) ∧ Below w.heap.size w w')) := Lib.hid fun w hw => (hR w hw).mono fun e w' h => by
    rcases h.2 with ⟨_, h1⟩ | ⟨h1, _⟩
    · exact ⟨h1, h.1⟩
    · exact absurd h1 hE
  have HMO := Lib.hid fun w => mayOpen7 n (by omega) x0 w
  have HWN := Lib.hid fun w => words8_nil w
  have d1 : decide (60 < (n : Int)) = false := bool_no (by omega)
  have d2 : decide (100 < (len : Int)) = false := bool_no (by omega)
  have HS : Hid (mayOpenE n x0 ≠ 0 ∧ runE n x0 x1 = mayOpenE n x0 ∨ mayOpenE n x0 = 0 ∧ runE n x0 x1 = 1 ∧ (x1 < 0 ∨ 262144 < x1)) := Lib.hid (by
    unfold runE at hE ⊢
    by_cases h0 : mayOpenE n x0 = 0
    · rw [if_neg (by simpa using h0)] at hE ⊢
      by_cases h1 : x1 < 0 ∨ 262144 < x1
      · rw [if_pos h1]; exact Or.inr ⟨h0, rfl, h1⟩
      · rw [if_neg h1] at hE; exact absurd rfl hE
    · rw [if_pos h0]; exact Or.inl ⟨h0, rfl⟩)
  generalize runE n x0 x1 = E at *
  generalize mayOpenE n x0 = mo at *
  have e1 : (E != 0) = true := by simpa using hE
  have e2 : (E == 0) = false := by simpa using hE
  have e3 : (E != E) = false := by simp
  clear hR hE
  obtain ⟨B, hB⟩ : ∃ B : Obj, B = .cells #[.int .i64 x0, .int .i64 x1] 23 := ⟨_, rfl⟩
  have hb0 : Below W.heap.size W (W.alloc B) := (Below.refl _ _).alloc (Nat.le_refl _) _
  have HR0 := Lib.hid (HRUN.out _ hb0)
  have HQ0 : Hid ((W.alloc B).heap[W.heap.size]? = some (.cells #[.int .i64 x0, .int .i64 x1] 23)) := Lib.hid (by rw [heap_alloc_new, hB])
  have HB0 := Lib.hid hb0
  subst hB
  clear hb0 HRUN
  by_cases h3 : 300 < x1
  · have d3 : decide (300 < x1) = true := bool_yes h3
    have d4 : decide (x1 ≤ 262144) = false := bool_no (by omega)
    clear h3 hx
    go_enter Try.func3, Try.ntmps3
    go_wp2_with fail
    with_reducible refine HR0.out.mono ?_
    rintro e w1 ⟨rfl, hb⟩
    have q1 := (hb.block W.heap.size (by simp)).trans HQ0.out
    have c0 : w1.cell? ⟨W.heap.size, 0, none⟩ = some (.int .i64 x0) := by rw [cell_in q1]; rfl
    have c1 : w1.cell? ⟨W.heap.size, 1, none⟩ = some (.int .i64 x1) := by rw [cell_in q1]; rfl
    have HB1 : Hid (Below W.heap.size W w1) := Lib.hid (HB0.out.trans (hb.mono HB0.out.size))
    clear hb q1
    go_wp2_with fail
    with_reducible refine (HMO.out _).mono ?_
    rintro e w' ⟨rfl, hw⟩
    cases hw
    rcases HS.out with ⟨g1, g2⟩ | ⟨g1, g2, g3⟩
    · have f1 : (mo == 0) = false := by simpa using g1
      subst g2
      clear g1
      go_wp2_with fail
      with_reducible refine (HA.out _).mono ?_
      rintro e w2 ⟨rfl, hb2⟩
      have HB2 := Lib.hid hb2
      clear hb2
      go_wp2_with fail
      with_reducible refine (HWN.out _).mono ?_
      rintro e w' ⟨rfl, hw⟩
      cases hw
      go_wp2_with fail
      go_ret
      exact ⟨rfl, HB1.out.trans (HB2.out.mono HB1.out.size)⟩
    · subst g1
      subst g2
      rcases g3 with g3 | g3
      · have f2 : decide (x1 < 0) = true := bool_yes g3
        clear g3
        go_wp2_with fail
        with_reducible refine (HA.out _).mono ?_
        rintro e w2 ⟨rfl, hb2⟩
        have HB2 := Lib.hid hb2
        clear hb2
        go_wp2_with fail
        with_reducible refine (HWN.out _).mono ?_
        rintro e w' ⟨rfl, hw⟩
        cases hw
        go_wp2_with fail
        go_ret
        exact ⟨rfl, HB1.out.trans (HB2.out.mono HB1.out.size)⟩
      · have f2 : decide (x1 < 0) = false := bool_no (by omega)
        have f3 : decide (262144 < x1) = true := bool_yes g3
        clear g3
        go_wp2_with fail
        with_reducible refine (HA.out _).mono ?_
        rintro e w2 ⟨rfl, hb2⟩
        have HB2 := Lib.hid hb2
        clear hb2
        go_wp2_with fail
        with_reducible refine (HWN.out _).mono ?_
        rintro e w' ⟨rfl, hw⟩
        cases hw
        go_wp2_with fail
        go_ret
        exact ⟨rfl, HB1.out.trans (HB2.out.mono HB1.out.size)⟩
  · have d3 : decide (300 < x1) = false := bool_no h3
    clear h3 hx
    go_enter Try.func3, Try.ntmps3
    go_wp2_with fail
    with_reducible refine HR0.out.mono ?_
    rintro e w1 ⟨rfl, hb⟩
    have q1 := (hb.block W.heap.size (by simp)).trans HQ0.out
    have c0 : w1.cell? ⟨W.heap.size, 0, none⟩ = some (.int .i64 x0) := by rw [cell_in q1]; rfl
    have c1 : w1.cell? ⟨W.heap.size, 1, none⟩ = some (.int .i64 x1) := by rw [cell_in q1]; rfl
    have HB1 : Hid (Below W.heap.size W w1) := Lib.hid (HB0.out.trans (hb.mono HB0.out.size))
    clear hb q1
    go_wp2_with fail
    with_reducible refine (HMO.out _).mono ?_
    rintro e w' ⟨rfl, hw⟩
    cases hw
    rcases HS.out with ⟨g1, g2⟩ | ⟨g1, g2, g3⟩
    · have f1 : (mo == 0) = false := by simpa using g1
      subst g2
      clear g1
      go_wp2_with fail
      with_reducible refine (HA.out _).mono ?_
      rintro e w2 ⟨rfl, hb2⟩
      have HB2 := Lib.hid hb2
      clear hb2
      go_wp2_with fail
      with_reducible refine (HWN.out _).mono ?_
      rintro e w' ⟨rfl, hw⟩
      cases hw
      go_wp2_with fail
      go_ret
      exact ⟨rfl, HB1.out.trans (HB2.out.mono HB1.out.size)⟩
    · subst g1
      subst g2
      rcases g3 with g3 | g3
      · have f2 : decide (x1 < 0) = true := bool_yes g3
        clear g3
        go_wp2_with fail
        with_reducible refine (HA.out _).mono ?_
        rintro e w2 ⟨rfl, hb2⟩
        have HB2 := Lib.hid hb2
        clear hb2
        go_wp2_with fail
        with_reducible refine (HWN.out _).mono ?_
        rintro e w' ⟨rfl, hw⟩
        cases hw
        go_wp2_with fail
        go_ret
        exact ⟨rfl, HB1.out.trans (HB2.out.mono HB1.out.size)⟩
      · have f2 : decide (x1 < 0) = false := bool_no (by omega)
        have f3 : decide (262144 < x1) = true := bool_yes g3
        clear g3
        go_wp2_with fail
        with_reducible refine (HA.out _).mono ?_
        rintro e w2 ⟨rfl, hb2⟩
        have HB2 := Lib.hid hb2
        clear hb2
        go_wp2_with fail
        with_reducible refine (HWN.out _).mono ?_
        rintro e w' ⟨rfl, hw⟩
        cases hw
        go_wp2_with fail
        go_ret
        exact ⟨rfl, HB1.out.trans (HB2.out.mono HB1.out.size)⟩
end Go.Proofs.Ytpmjcinemabamaa

namespace Go.Proofs.Ytpmjcinemabamaa
open Go.RowKit Go.BigFrame
set_option linter.unusedVariables false
set_option linter.unusedSimpArgs false

theorem racts_n (M : Rv) (a : Acc) : (M.acts a).n = M.n := by
  unfold Rv.acts
  have hp : ∀ x v, (M.put x v).n = M.n := fun x v => by unfold Rv.put; split <;> rfl
  have hd : ∀ x nw pu, (M.did x nw pu).n = M.n := fun x nw pu => by
    unfold Rv.did
    split
    · exact hp _ _
    · rfl
  split
  · exact hd _ _ _
  split
  · exact hd _ _ _
  split
  · exact hd _ _ _
  split
  · unfold Rv.flushM; split <;> rfl
  split
  · unfold Rv.fenceM; split <;> rfl
  · rfl
theorem rrun_n (R : Rv) (l : Nat → Acc) (k : Nat) : (rrun R l k).1.n = R.n := by
  induction k with
  | zero => rfl
  | succ k ih => rw [← ih]; exact racts_n _ _
set_option maxRecDepth 100000 in
set_option maxHeartbeats 4000000 in
theorem law3_yes (b off m cap nt np : Nat) (al : Option Addr) (len capl : Nat) (hm : 0 < m) (hn : 8 * m ≤ 60) (ht0 : 0 < nt) (ht1 : nt ≤ 64) (hp : np ≤ 300) (hl : len ≤ 100) (f : Nat → Int) (l : Nat → Acc) (W : World) (hb : b < W.heap.size) (hw : ∀ j, j < 8 * m → W.cell? ⟨b, off + j, none⟩ = some (.int .u64 (f j))) (hA : AccsIn W al len l)
    (hR : ∀ w, Below W.heap.size W w → Calls Try.prog 6 #[.slice (some ⟨b, off, none⟩) (8 * m) cap, .int .i64 nt, .int .i64 np, .slice al len capl] w (RunTo f (8 * m) nt np l len w)) (hE : runE (8 * m) nt np = 0) (hmo : mayOpenE (8 * m) nt = 0) :
    Calls Try.prog 3 #[.slice (some ⟨b, off, none⟩) (8 * m) cap, .agg #[.int .i64 nt, .int .i64 np], .slice al len capl] W (Gives (.bool true) W) := by
  have HRUN : Hid (∀ w, Below W.heap.size W w → Calls Try.prog 6 #[.slice (some ⟨b, off, none⟩) (8 * m) cap, .int .i64 nt, .int .i64 np, .slice al len capl] w (fun e w' => ∃ (M : Mv) (r : Nat), e = .returned (.tuple #[.pointer (some ⟨M.m, 0, none⟩), .int .i64 r, .int .i64 0]) ∧ Below w.heap.size w w' ∧ MemAt w' M ∧ (∀ k, M.own k → w.heap.size ≤ k) ∧ RunAt f m nt np l len M r ∧ r ≤ len)) := Lib.hid fun w hw => (hR w hw).mono fun e w' h => by
    rcases h.2 with ⟨h1, _⟩ | ⟨_, M, r, h1, h2, h3, h4, h5, _⟩
    · exact absurd hE h1
    · rw [show 8 * m / 8 = m by omega, Int.toNat_natCast, Int.toNat_natCast] at h4
      exact ⟨M, r, h1, h.1, h2, h3, h4, h5⟩
  have HMO : Hid (∀ w, Calls Try.prog 7 #[.int .i64 (8 * m : Nat), .int .i64 nt] w (Says (.int .i64 0) w)) := Lib.hid fun w => by
    have := mayOpen7 (8 * m) (by omega) nt w; rw [hmo] at this; exact this
  have HNEW : Hid (∀ w, Below W.heap.size W w → Calls Try.prog 9 #[.slice (some ⟨b, off, none⟩) (8 * m) cap, .int .i64 nt, .int .i64 np] w (RNew f m nt np w)) := Lib.hid fun w h => refNew9 b off m cap nt np hm (by omega) ht0 ht1 (by omega) f w (Nat.lt_of_lt_of_le hb h.size) fun j hj => (h.cell (p := ⟨b, off + j, none⟩) hb).trans (hw j hj)
  have HACC := Lib.hid hA
  have d1 : decide (60 < ((8 * m : Nat) : Int)) = false := bool_no (by omega)
  have d2 : decide (100 < (len : Int)) = false := bool_no (by omega)
  have d3 : decide (300 < (np : Int)) = false := bool_no (by omega)
  have d4 : decide ((np : Int) < 0) = false := bool_no (by omega)
  have d5 : decide (262144 < (np : Int)) = false := bool_no (by omega)
  have HL := Lib.hid hl
  obtain ⟨n, hn8⟩ : ∃ n, n = 8 * m := ⟨_, rfl⟩
  have hn60 : n ≤ 60 := by omega
  rw [← hn8] at HRUN HMO HNEW d1 ⊢
  have HN := Lib.hid hn8
  clear hR hE hmo hw hA hn8 hn hb hm
  obtain ⟨B, hB⟩ : ∃ B : Obj, B = .cells #[.int .i64 nt, .int .i64 np] 23 := ⟨_, rfl⟩
  have hb0 : Below W.heap.size W (W.alloc B) := (Below.refl _ _).alloc (Nat.le_refl _) _
  have HR0 := Lib.hid (HRUN.out _ hb0)
  have HQ0 : Hid ((W.alloc B).heap[W.heap.size]? = some (.cells #[.int .i64 nt, .int .i64 np] 23)) := Lib.hid (by rw [heap_alloc_new, hB])
  have HB0 := Lib.hid hb0
  have HZ0 : Hid (W.heap.size < (W.alloc B).heap.size) := Lib.hid (by simp)
  subst hB
  clear hb0 HRUN
  go_enter Try.func3, Try.ntmps3
  go_wp2_with fail
  with_reducible refine HR0.out.mono ?_
  rintro e w1 ⟨M, r, rfl, hb, hm1, ho, hr, hrl⟩
  have q1 := (hb.block W.heap.size HZ0.out).trans HQ0.out
  have c0 : w1.cell? ⟨W.heap.size, 0, none⟩ = some (.int .i64 nt) := by rw [cell_in q1]; rfl
  have c1 : w1.cell? ⟨W.heap.size, 1, none⟩ = some (.int .i64 np) := by rw [cell_in q1]; rfl
  have HB1 : Hid (Below W.heap.size W w1) := Lib.hid (HB0.out.trans (hb.mono HB0.out.size))
  have HM1 := Lib.hid hm1
  have HO1 := Lib.hid ho
  have HRA := Lib.hid hr
  have HRL := Lib.hid hrl
  clear hb q1 hm1 ho hr hrl
  go_wp2_with fail
  with_reducible refine (HMO.out _).mono ?_
  rintro e w' ⟨rfl, hw⟩
  cases hw
  have HNW := Lib.hid (HNEW.out w1 HB1.out)
  clear HNEW
  go_wp2_with fail
  with_reducible refine HNW.out.mono ?_
  rintro e w2 ⟨R, rfl, hr2, hi, hro, hb2, hwm⟩
  have HM2 := Lib.hid (HM1.out.below hb2)
  have HAP : Hid (∀ k, R.own k → ¬ M.own k) := Lib.hid fun k h1 h2 => by have := hro k h1; have := HM1.out.lt h2; omega
  have HRO := Lib.hid hro
  have HB2 : Hid (Below W.heap.size W w2) := Lib.hid (HB1.out.trans (hb2.mono HB1.out.size))
  have HRUN := Lib.hid (refRun10 R al len capl HL.out l w2 hr2 (by rw [hi.hck]; omega) (by rw [hwm]; omega) (HACC.out.below HB2.out) (fun h0 b' off' e h => by
    have h1 := hro b' h
    obtain ⟨b2, off2, e2, hl2, _⟩ := HACC.out 0 h0
    rw [e2] at e; cases e
    have := HB1.out.size; omega))
  obtain ⟨hal, hrr⟩ := HRA.out R hi
  have hMn : 8 * M.n = n := by rw [hal.n, rrun_n, hi.hn, HN.out]
  have HAL := Lib.hid hal
  clear hr2 hi hro hb2 hwm hal
  go_wp2_with fail
  with_reducible refine HRUN.out.mono ?_
  rintro e w3 ⟨rfl, hr3, hrm, hrow, ht3⟩
  obtain ⟨R', hR'⟩ : ∃ R', R' = (rrun R l len).1 := ⟨_, rfl⟩
  rw [← hR'] at hr3 hrm hrow HAL
  rw [← hrr]
  have HM3 := Lib.hid (HM2.out.turn ht3 fun k h1 h2 => HAP.out k h2 h1)
  have HR3 := Lib.hid hr3
  have HB3 : Hid (Below W.heap.size W w3) := Lib.hid (HB2.out.trans (ht3.below HB2.out.size fun k hk h => by have := HRO.out k h; have := HB1.out.size; omega))
  obtain ⟨V, hV⟩ : ∃ V, V = w3.heap.size := ⟨_, rfl⟩
  have le : ∀ {w : World}, Below V w3 w → V ≤ w.heap.size := fun h => by rw [hV]; exact h.size
  have K5 : Hid (∀ w, Below V w3 w → Calls Try.prog 5 #[] w (fun e w' => e = .returned (.bool true) ∧ Below V w3 w')) := Lib.hid fun w hw => (awake5 w).mono fun e w' h => ⟨h.1, hw.trans (h.2.mono (le hw))⟩
  have K11 : Hid (∀ w, Below V w3 w → Calls Try.prog 11 #[.pointer (some ⟨M.m, 0, none⟩), .pointer (some ⟨R.m, 0, none⟩)] w (fun e w' => e = .returned (.bool true) ∧ Below V w3 w')) := Lib.hid fun w hw => by
    have := same11 M R' w (HM3.out.below (hV ▸ hw)) (HR3.out.below (hV ▸ hw)) HAL.out
    rw [hrm] at this
    exact this.mono fun e w' h => ⟨h.1, hw.trans (h.2.mono (le hw))⟩
  have K8 : Hid (∀ w, Below V w3 w → Calls Try.prog 8 #[.pointer (some ⟨M.m, 0, none⟩)] w (fun e w' => ∃ g c, e = .returned (.slice (some ⟨g, 0, none⟩) n c) ∧ Below V w3 w' ∧ RowAt w' g n (fun k => .int .u64 (M.seen k)))) := Lib.hid fun w hw => (words8M M w (HM3.out.below (hV ▸ hw))).mono fun e w' ⟨g, c, h1, h2, h3, _⟩ => by
    rw [hMn] at h1 h3
    exact ⟨g, c, h1, hw.trans (h2.mono (le hw)), h3⟩
  obtain ⟨x0, -⟩ := row10 HR3.out.row
  obtain ⟨-, y1, -, -⟩ := dev_cells HR3.out.dev
  have hRn : 8 * R'.n = n := by rw [← HAL.out.n]; exact hMn
  rw [hRn] at y1
  rw [hrm] at x0
  have K12 : Hid (∀ g c w, Below V w3 w → RowAt w g n (fun k => .int .u64 (M.seen k)) → Calls Try.prog 12 #[.slice (some ⟨g, 0, none⟩) n c, .slice (some ⟨R'.sb, 0, none⟩) n R'.c1] w (fun e w' => e = .returned (.bool true) ∧ Below V w3 w')) := Lib.hid fun g c w hw h => by
    have hs := (HR3.out.below (hV ▸ hw)).seen
    rw [hRn] at hs
    exact (same12M g R'.sb _ c R'.c1 (by omega) M.seen R'.seen w h hs (fun k hk => HAL.out.seen k (by omega))).mono fun e w' ⟨h1, h2⟩ => ⟨h1, hw.trans (h2.mono (le hw))⟩
  have HRV : Hid (R.m < V ∧ R'.d < V) := Lib.hid (by rw [hV, ← hrm]; exact ⟨HR3.out.lt (Or.inl (by simp [Rv.blocks])), HR3.out.lt (Or.inl (by simp [Rv.blocks]))⟩)
  have HV : Hid (Below V w3 w3 ∧ (∀ w, Below V w3 w → Below W.heap.size W w)) := Lib.hid ⟨Below.refl _ _, fun w h => HB3.out.trans (h.mono (by rw [hV]; exact HB3.out.size))⟩
  have HV1 := Lib.hid HV.out.1
  clear le hRn hMn hrr hR' hr3 hrm hrow ht3 HR3 HM3 HAL HB3 hV HRA HRO HAP HM2 HM1 HRUN HN
  generalize R'.sb = sb at *
  generalize R'.c1 = c1 at *
  generalize R'.d = rd at *
  generalize R.m = rm at *
  generalize M.m = mm at *
  generalize M.seen = seen at *
  go_wp2_with fail
  go_region_held3 (fun w' => w'.cell? ⟨rm, 0, none⟩ = some (.pointer (some ⟨rd, 0, none⟩)) ∧ w'.cell? ⟨rd, 1, none⟩ = some (.slice (some ⟨sb, 0, none⟩) n c1)) (go_keep) (first | (go_at_call 5; refine (K5.out _ (HV1.out.drew)).mono ?_; rintro e w4 ⟨rfl, hb⟩; have q1 : ∀ o, w4.cell? ⟨rm, o, none⟩ = w3.cell? ⟨rm, o, none⟩ := fun o => hb.cell (p := ⟨rm, o, none⟩) HRV.out.1; have q2 : ∀ o, w4.cell? ⟨rd, o, none⟩ = w3.cell? ⟨rd, o, none⟩ := fun o => hb.cell (p := ⟨rd, o, none⟩) HRV.out.2; have HNOW := Lib.hid hb; clear hb) | (go_at_call 11; refine (K11.out _ HNOW.out).mono ?_; rintro e w5 ⟨rfl, hb⟩; have q1 : ∀ o, w5.cell? ⟨rm, o, none⟩ = w3.cell? ⟨rm, o, none⟩ := fun o => hb.cell (p := ⟨rm, o, none⟩) HRV.out.1; have q2 : ∀ o, w5.cell? ⟨rd, o, none⟩ = w3.cell? ⟨rd, o, none⟩ := fun o => hb.cell (p := ⟨rd, o, none⟩) HRV.out.2; have HNOW := Lib.hid hb; clear hb) | (go_at_call 8; refine (K8.out _ HNOW.out).mono ?_; rintro e w6 ⟨g, c, rfl, hb, hg⟩; have HG := Lib.hid hg; clear hg; have q1 : ∀ o, w6.cell? ⟨rm, o, none⟩ = w3.cell? ⟨rm, o, none⟩ := fun o => hb.cell (p := ⟨rm, o, none⟩) HRV.out.1; have q2 : ∀ o, w6.cell? ⟨rd, o, none⟩ = w3.cell? ⟨rd, o, none⟩ := fun o => hb.cell (p := ⟨rd, o, none⟩) HRV.out.2; have HNOW := Lib.hid hb; clear hb) | (go_at_call 12; refine (K12.out _ _ _ HNOW.out HG.out).mono ?_; rintro e w7 ⟨rfl, hb⟩; have q1 : ∀ o, w7.cell? ⟨rm, o, none⟩ = w3.cell? ⟨rm, o, none⟩ := fun o => hb.cell (p := ⟨rm, o, none⟩) HRV.out.1; have q2 : ∀ o, w7.cell? ⟨rd, o, none⟩ = w3.cell? ⟨rd, o, none⟩ := fun o => hb.cell (p := ⟨rd, o, none⟩) HRV.out.2; have HNOW := Lib.hid hb; clear hb))
  go_wp2_with fail
  go_ret
  exact ⟨rfl, HV.out.2 _ HNOW.out⟩
end Go.Proofs.Ytpmjcinemabamaa

namespace Go.Proofs.Ytpmjcinemabamaa
open Go.RowKit Go.ChangeShapes Go.WideShapes Go.Deep

/-- The kind of a type's j-th cell: an integer kind, or a bool (none). -/
def kindAt (P : Program) : Nat → TypeId → Nat → Option (Option IntKind)
  | 0, _, _ => none
  | d + 1, t, j =>
    match P.underlying t with
    | some (.int k) => if j = 0 then some (some k) else none
    | some .bool => if j = 0 then some none else none
    | some (.struct fs) =>
      match fs.toList.find? fun f => decide (f.offset ≤ j) && decide (j < f.offset + P.cellsOf f.type) with
      | some f => kindAt P d f.type (j - f.offset)
      | none => none
    | some (.array n e) => if 0 < P.cellsOf e ∧ j < n * P.cellsOf e then kindAt P d e (j % P.cellsOf e) else none
    | _ => none

/-- A cell of that kind. -/
def LeafOk (k : Option IntKind) (v : Value) : Prop :=
  match k with
  | some k => ∃ n, v = .int k n ∧ (Lit.int k n).wf = true
  | none => ∃ b, v = .bool b

section
variable {H : Type} {enc : TypeId × Value → H} {P : Program} {w : World} {base : Nat} {spare : Nat → Bool} {held : Bool}

theorem kindAt_ok : ∀ (d : Nat) (t : TypeId) (j : Nat) (k : Option IntKind) (fuel : Nat) (cs : List Value) (x : DataW H × List MemPlace),
    DataW.trod enc P w base spare held fuel t cs = some x → kindAt P d t j = some k → ∃ v, cs[j]? = some v ∧ LeafOk k v
  | 0, _, _, _, _, _, _, _, hk => by simp [kindAt] at hk
  | d + 1, t, j, k, fuel, cs, x, h, hk => by
    unfold kindAt at hk
    split at hk
    · rename_i q hu
      split at hk
      · rename_i hj
        simp only [Option.some.injEq] at hk
        subst hk hj
        obtain ⟨n, rfl, -, hw⟩ := DataW.trod_int hu h
        exact ⟨_, rfl, n, rfl, hw⟩
      · cases hk
    · rename_i hu
      split at hk
      · rename_i hj
        simp only [Option.some.injEq] at hk
        subst hk hj
        obtain ⟨b, rfl, -⟩ := DataW.trod_bool hu h
        exact ⟨_, rfl, b, rfl⟩
      · cases hk
    · rename_i fs hu
      split at hk
      · rename_i f hf
        obtain ⟨xs, n, -, -, hlen, hxs, hfield⟩ := DataW.trod_struct hu h
        have hmem := List.mem_of_find?_eq_some hf
        have hcond := List.find?_some hf
        simp only [Bool.and_eq_true, decide_eq_true_eq] at hcond
        obtain ⟨i, hi, rfl⟩ := List.mem_iff_getElem.1 hmem
        have hfi : fs[i]? = some (fs.toList[i]) := by
          rw [← Array.getElem?_toList]; exact List.getElem?_eq_getElem hi
        have h1 := hfield i _ hfi
        have hix : i < xs.length := by rw [hxs]; simpa using hi
        rw [List.getElem?_eq_getElem hix] at h1
        obtain ⟨v, hv, hl⟩ := kindAt_ok d _ _ k n _ _ h1 hk
        refine ⟨v, ?_, hl⟩
        rw [List.getElem?_take] at hv
        split at hv
        · rw [List.getElem?_drop] at hv
          rw [← hv]; congr 1; omega
        · cases hv
      · cases hk
    · rename_i n e hu
      split at hk
      · rename_i hc
        obtain ⟨xs, m, -, -, hlen, hxs, hel⟩ := DataW.trod_array hu h
        have hi : j / P.cellsOf e < n := Nat.div_lt_of_lt_mul (by rw [Nat.mul_comm]; exact hc.2)
        have h1 := hel _ hi
        rw [List.getElem?_eq_getElem (by omega)] at h1
        obtain ⟨v, hv, hl⟩ := kindAt_ok d _ _ k m _ _ h1 hk
        refine ⟨v, ?_, hl⟩
        rw [List.getElem?_take] at hv
        split at hv
        · rw [List.getElem?_drop] at hv
          rw [← hv]; congr 1
          have := Nat.div_add_mod j (P.cellsOf e)
          rw [Nat.mul_comm] at this
          omega
        · cases hv
      · cases hk
    · cases hk

/-- A slice that came in, cell by cell. -/
theorem open_slice_cells {t e : TypeId} {fuel : Nat} {cs : List Value} {x : DataW H × List MemPlace} (ht : P.underlying t = some (.slice e)) (hc0 : 0 < P.cellsOf e)
    (hk0 : ∃ d k, kindAt P d e 0 = some k) (h : DataW.trod enc P w base spare held fuel t cs = some x) (a : Option Addr) (len cap : Nat) (hcs : cs = [.slice a len cap]) :
    len ≤ cap ∧ cap ≤ maxLen ∧ (len = 0 ∨ ∃ b off, a = some ⟨b, off, none⟩ ∧ b < w.heap.size ∧ ∀ i, i < len → ∀ d j k, j < P.cellsOf e → kindAt P d e j = some k → ∃ v, w.cell? ⟨b, off + i * P.cellsOf e + j, none⟩ = some v ∧ LeafOk k v) := by
  rcases open_slice ht h with ⟨rfl, -⟩ | ⟨ad, len', cap', m, n, D, Pl, rfl, hb, hl, hm, hmm, hx, hi⟩
  · simp only [List.cons.injEq, Value.slice.injEq, and_true] at hcs
    obtain ⟨rfl, rfl, rfl⟩ := hcs
    exact ⟨Nat.le_refl _, Nat.zero_le _, .inl rfl⟩
  · simp only [List.cons.injEq, Value.slice.injEq, and_true] at hcs
    obtain ⟨rfl, rfl, rfl⟩ := hcs
    refine ⟨hl, hm, ?_⟩
    by_cases h0 : len' = 0
    · exact .inl h0
    refine .inr ?_
    have hlm : len' ≤ m := by rw [hmm]; split <;> omega
    have get : ∀ i, i < len' → ∀ d j k, j < P.cellsOf e → kindAt P d e j = some k → ∃ v, w.cell? ((ad.add (i * P.cellsOf e)).add j) = some v ∧ LeafOk k v := by
      intro i hil d j k hj hk
      obtain ⟨cs', hc, ht'⟩ := hi i (by omega)
      obtain ⟨_, hcl, hat⟩ := World.cells?_some hc
      obtain ⟨v, hv, hlf⟩ := kindAt_ok d e j k n cs' _ ht' hk
      exact ⟨v, by rw [hat j hj]; exact hv, hlf⟩
    obtain ⟨b, off, spot⟩ := ad
    obtain ⟨d, k, hk0⟩ := hk0
    obtain ⟨v0, hv0, -⟩ := get 0 (by omega) d 0 k hc0 hk0
    have hspot : spot = none := by
      have := World.cell?_spot hv0
      simpa [Addr.add] using this
    subst hspot
    have hv0' : w.cell? ⟨b, off, none⟩ = some v0 := by
      have := hv0
      rw [Addr.add_lit, Addr.add_lit] at this
      simpa using this
    refine ⟨b, off, rfl, World.block_lt_of_cell? w _ hv0', fun i hil d j k hj hk => ?_⟩
    have := get i hil d j k hj hk
    rwa [Addr.add_lit, Addr.add_lit] at this
end
end Go.Proofs.Ytpmjcinemabamaa

namespace Go.Proofs.Ytpmjcinemabamaa
open Go.RowKit Go.ChangeShapes Go.WideShapes
set_option linter.unusedVariables false

theorem list_of_len {α : Type} (n : Nat) (l : List α) (h : l.length = n + 1) : ∃ c l', l = c :: l' ∧ l'.length = n := by
  cases l with
  | nil => simp at h
  | cons c l => exact ⟨c, l, rfl, by simpa using h⟩
theorem okWide_array {P : Program} {w : World} {r : Reach} {base : Nat} {t : TypeId} {v : Value} {n : Nat} {e : TypeId} (ht : P.underlying t = some (.array n e)) (h : Value.okWide P w r base t v) : ∃ cs, v = .agg cs ∧ cs.size = P.cellsOf t := by
  simp only [Value.okWide, ht] at h
  obtain ⟨cs, h1, h2, _⟩ := h
  exact ⟨cs, h1, h2⟩
theorem cells23 : Try.prog.cellsOf 23 = 2 := by kernel_rfl
theorem kind23_0 : kindAt Try.prog 3 23 0 = some (some .i64) := by kernel_rfl
theorem kind23_1 : kindAt Try.prog 3 23 1 = some (some .i64) := by kernel_rfl
theorem cells42 : Try.prog.cellsOf 42 = 1 := by kernel_rfl
theorem kind42_0 : kindAt Try.prog 3 42 0 = some (some .u64) := by kernel_rfl
theorem cells44 : Try.prog.cellsOf 44 = 6 := by kernel_rfl
theorem kind44_0 : kindAt Try.prog 3 44 0 = some (some .i64) := by kernel_rfl
theorem kind44_1 : kindAt Try.prog 3 44 1 = some (some .i64) := by kernel_rfl
theorem kind44_2 : kindAt Try.prog 3 44 2 = some (some .i64) := by kernel_rfl
theorem kind44_3 : kindAt Try.prog 3 44 3 = some (some .u64) := by kernel_rfl
theorem kind44_4 : kindAt Try.prog 3 44 4 = some (some .u64) := by kernel_rfl
theorem kind44_5 : kindAt Try.prog 3 44 5 = some none := by kernel_rfl
theorem pair_of_trod {H : Type} {enc : TypeId × Value → H} {w : World} {base : Nat} {spare : Nat → Bool} {held : Bool} {fuel : Nat} {cs : Array Value} {x : DataW H × List MemPlace}
    (hs : cs.size = Try.prog.cellsOf 23) (h : DataW.trod enc Try.prog w base spare held fuel 23 (Value.cells (.agg cs)).toList = some x) : ∃ a b : Int, cs = #[.int .i64 a, .int .i64 b] := by
  obtain ⟨l⟩ := cs
  rw [cells23] at hs
  have q0 : l.length = 2 := hs
  obtain ⟨c0, l, rfl, q1⟩ := list_of_len 1 l q0
  obtain ⟨c1, l, rfl, q2⟩ := list_of_len 0 l q1
  obtain rfl := List.length_eq_zero_iff.1 q2
  obtain ⟨_, e0, n0, rfl, -⟩ := kindAt_ok 3 23 0 _ _ _ _ h kind23_0
  obtain rfl : c0 = .int .i64 n0 := Option.some.inj e0
  obtain ⟨_, e1, n1, rfl, -⟩ := kindAt_ok 3 23 1 _ _ _ _ h kind23_1
  obtain rfl : c1 = .int .i64 n1 := Option.some.inj e1
  exact ⟨n0, n1, rfl⟩
theorem words_of_trod {H : Type} {enc : TypeId × Value → H} {w : World} {base : Nat} {spare : Nat → Bool} {held : Bool} {fuel : Nat} {a : Option Addr} {len cap : Nat} {x : DataW H × List MemPlace}
    (h : DataW.trod enc Try.prog w base spare held fuel 22 (Value.cells (.slice a len cap)).toList = some x) : len ≤ cap ∧ cap ≤ 9223372036854775807 ∧ ∃ f, WordsIn w a len f := by
  obtain ⟨h1, h2, h3⟩ := open_slice_cells (P := Try.prog) Try.underlying22 (by rw [cells42]; decide) ⟨3, _, kind42_0⟩ h a len cap (by simp [Value.cells])
  unfold maxLen at h2
  refine ⟨h1, h2, ?_⟩
  rcases h3 with rfl | ⟨b, off, rfl, hb, hc⟩
  · exact ⟨fun _ => 0, fun h => by omega⟩
  · rw [cells42] at hc
    have each : ∀ i, ∃ c : Int, i < len → w.cell? ⟨b, off + i, none⟩ = some (.int .u64 c) := by
      intro i
      by_cases hi : i < len
      · obtain ⟨_, c0, n0, rfl, f0⟩ := hc i hi 3 0 _ (by decide) kind42_0
        rw [Nat.mul_one, Nat.add_zero] at c0
        exact ⟨n0, fun _ => c0⟩
      · exact ⟨0, fun h => absurd h hi⟩
    exact ⟨fun i => Classical.choose (each i), fun _ => ⟨b, off, rfl, hb, fun j hj => Classical.choose_spec (each j) hj⟩⟩
theorem accs_of_trod {H : Type} {enc : TypeId × Value → H} {w : World} {base : Nat} {spare : Nat → Bool} {held : Bool} {fuel : Nat} {a : Option Addr} {len cap : Nat} {x : DataW H × List MemPlace}
    (h : DataW.trod enc Try.prog w base spare held fuel 24 (Value.cells (.slice a len cap)).toList = some x) : len ≤ cap ∧ cap ≤ 9223372036854775807 ∧ ∃ c, AccsIn w a len c := by
  obtain ⟨h1, h2, h3⟩ := open_slice_cells (P := Try.prog) Try.underlying24 (by rw [cells44]; decide) ⟨3, _, kind44_0⟩ h a len cap (by simp [Value.cells])
  unfold maxLen at h2
  refine ⟨h1, h2, ?_⟩
  rcases h3 with rfl | ⟨b, off, rfl, hb, hc⟩
  · exact ⟨fun _ => ⟨0, 0, 0, 0, 0, false⟩, fun i hi => by omega⟩
  · rw [cells44] at hc
    have each : ∀ i, ∃ c : Acc, i < len → AccIn w b (off + i * 6) c ∧ c.May := by
      intro i
      by_cases hi : i < len
      · obtain ⟨_, c0, n0, rfl, f0⟩ := hc i hi 3 0 _ (by decide) kind44_0
        obtain ⟨_, c1, n1, rfl, f1⟩ := hc i hi 3 1 _ (by decide) kind44_1
        obtain ⟨_, c2, n2, rfl, f2⟩ := hc i hi 3 2 _ (by decide) kind44_2
        obtain ⟨_, c3, n3, rfl, f3⟩ := hc i hi 3 3 _ (by decide) kind44_3
        obtain ⟨_, c4, n4, rfl, f4⟩ := hc i hi 3 4 _ (by decide) kind44_4
        obtain ⟨_, c5, n5, rfl⟩ := hc i hi 3 5 _ (by decide) kind44_5
        refine ⟨⟨n0, n1, n2, n3, n4, n5⟩, fun _ => ⟨⟨c0, c1, c2, c3, c4, c5⟩, ?_⟩⟩
        simp [Lit.wf, IntKind.min, IntKind.max, IntKind.signed, IntKind.bits] at f2 f3
        unfold Acc.May
        simp only
        omega
      · exact ⟨⟨0, 0, 0, 0, 0, false⟩, fun h => absurd h hi⟩
    exact ⟨fun i => Classical.choose (each i), fun i hi => ⟨b, off, rfl, hb, (Classical.choose_spec (each i) hi).1, (Classical.choose_spec (each i) hi).2⟩⟩
theorem law3 (a : Option Addr) (n cap : Nat) (x0 x1 : Int) (al : Option Addr) (len capl : Nat) (f : Nat → Int) (l : Nat → Acc) (W : World) (h1 : n ≤ cap) (h2 : cap ≤ 9223372036854775807) (h3 : len ≤ capl) (h4 : capl ≤ 9223372036854775807) (hW : WordsIn W a n f) (hA : AccsIn W al len l) :
    Calls Try.prog 3 #[.slice a n cap, .agg #[.int .i64 x0, .int .i64 x1], .slice al len capl] W (Gives (.bool true) W) := by
  by_cases hlong : 60 < n ∨ 100 < len ∨ 300 < x1 ∧ x1 ≤ 262144
  · exact law3_long a n cap x0 x1 al len capl (by omega) (by omega) W hlong
  · have hR : ∀ w, Below W.heap.size W w → Calls Try.prog 6 #[.slice a n cap, .int .i64 x0, .int .i64 x1, .slice al len capl] w (RunTo f n x0 x1 l len w) := fun w hw =>
      run6_all a n cap x0 x1 al len capl (by omega) f l w (open18_all a n cap h1 h2 x0 f w (hW.below hw)) (hA.below hw)
    by_cases hE : runE n x0 x1 = 0
    · have hmo : mayOpenE n x0 = 0 := by
        unfold runE at hE
        by_cases h0 : mayOpenE n x0 = 0
        · exact h0
        · rw [if_pos h0] at hE; exact absurd hE h0
      obtain ⟨p1, p2, p3⟩ := mayOpen_ok hmo
      obtain ⟨p4, p5⟩ := wholeE_eq p2
      have hx : 0 ≤ x1 ∧ x1 ≤ 262144 := by
        unfold runE at hE
        rw [if_neg (by simpa using hmo)] at hE
        by_cases hb : x1 < 0 ∨ 262144 < x1
        · rw [if_pos hb] at hE; omega
        · omega
      obtain ⟨nt, rfl⟩ := Int.eq_ofNat_of_zero_le (show 0 ≤ x0 by omega)
      obtain ⟨np, rfl⟩ := Int.eq_ofNat_of_zero_le hx.1
      obtain ⟨b, off, rfl, hb, hc⟩ := hW p3
      obtain ⟨m, hm⟩ : ∃ m, m = n / 8 := ⟨_, rfl⟩
      obtain rfl : n = 8 * m := by omega
      exact law3_yes b off m cap nt np al len capl (by omega) (by omega) (by omega) (by omega) (by omega) (by omega) f l W hb hc hA hR hE hmo
    · exact law3_none a n cap x0 x1 al len capl (by omega) (by omega) (by omega) f l W hR hE
end Go.Proofs.Ytpmjcinemabamaa
