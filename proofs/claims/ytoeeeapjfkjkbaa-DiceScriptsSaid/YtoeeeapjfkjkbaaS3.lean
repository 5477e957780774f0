/- Layer 35 (dice): how many steps a recovery takes at most, how many lines there are, a layout. -/
import Derived.Test.YtoeeeapjfkjkbaaS2
namespace Go.Proofs.Ytoeeeapjfkjkbaa
open Go.RowKit Go.BigFrame
set_option linter.unusedVariables false
set_option linter.unusedSimpArgs false

theorem few4 (c : Cfg) (w : World) : Calls Try.prog 4 #[.agg c.cells] w (BoolOn (decide c.few || !decide c.right) w) := by
  have HF := Lib.hid fun w => few9 c w
  have HRT := Lib.hid fun w => refRight_any c w
  generalize decide c.few = f at *
  generalize decide c.right = r at *
  obtain ⟨th, sl, lo, bu⟩ := c
  simp only [Cfg.cells] at *
  cases f
  · go_enter Try.func4, Try.ntmps4
    go_wp2_with (first | (go_at_call 9; (with_reducible refine (HF.out _).mono ?_); rintro e w' ⟨rfl, hb⟩; have l0 := hb.cell (p := ⟨w.heap.size, 0, none⟩) (by simp); have l1 := hb.cell (p := ⟨w.heap.size, 1, none⟩) (by simp); have l2 := hb.cell (p := ⟨w.heap.size, 2, none⟩) (by simp); have l3 := hb.cell (p := ⟨w.heap.size, 3, none⟩) (by simp); have HB : Hid (Below w.heap.size w w') := Lib.hid (((Below.refl _ _).alloc (Nat.le_refl _) _).trans (hb.mono (by simp))); clear hb) | (go_at_call 7; (with_reducible refine (HRT.out _).mono ?_); rintro e w2 ⟨rfl, hb⟩; have HB2 : Hid (Below w.heap.size w w2) := Lib.hid (HB.out.trans (hb.mono HB.out.size)); clear hb))
    go_ret
    exact ⟨by simp, HB2.out⟩
  · go_enter Try.func4, Try.ntmps4
    go_wp2_with (go_at_call 9; (with_reducible refine (HF.out _).mono ?_); rintro e w' ⟨rfl, hb⟩; have HB : Hid (Below w.heap.size w w') := Lib.hid (((Below.refl _ _).alloc (Nat.le_refl _) _).trans (hb.mono (by simp))); clear hb)
    go_ret
    exact ⟨rfl, HB.out⟩

def Cfg.most (c : Cfg) : Int := 12 * c.sl + 4 * c.th * c.lo + 8 * c.th + 4 * c.bu + 40
def Cfg.lines (c : Cfg) : Int := 5 + (c.bu + 7) / 8 + c.th + c.th * ((c.lo + 7) / 8) + c.sl
theorem mul_bd {a b A B : Int} (h1 : 1 ≤ a) (h2 : a ≤ A) (h3 : 1 ≤ b) (h4 : b ≤ B) : 1 ≤ a * b ∧ a * b ≤ A * B := by
  constructor
  · have := Int.mul_le_mul h1 h3 (by omega) (by omega); simpa using this
  · exact Int.mul_le_mul h2 h4 (by omega) (by omega)
def IntOn (v : Int) (w : World) (e : Ending) (w' : World) : Prop := e = .returned (.int .i64 v) ∧ Below w.heap.size w w'
theorem refMost (c : Cfg) (hc : c.right) (w : World) : Calls Try.prog 16 #[.agg c.cells] w (IntOn c.most w) := by
  obtain ⟨v, hv⟩ : ∃ v, v = c.most := ⟨_, rfl⟩
  rw [← hv]
  have HV : Hid (v = 12 * c.sl + 4 * c.th * c.lo + 8 * c.th + 4 * c.bu + 40) := Lib.hid hv
  clear hv
  obtain ⟨th, sl, lo, bu⟩ := c
  unfold Cfg.right at hc
  simp only [Cfg.cells] at *
  obtain ⟨h1, h2, h3, h4, h5, h6, h7, h8⟩ := hc
  obtain ⟨p1, p2⟩ := mul_bd (show 1 ≤ 4 * th by omega) (show 4 * th ≤ 256 by omega) h5 h6
  go_enter Try.func16, Try.ntmps16
  go_wp2_with fail
  go_ret
  refine ⟨ret1 ?_, (Below.refl _ _).alloc (Nat.le_refl _) _⟩
  exact HV.out.symm
theorem most_any (c : Cfg) (hc : c.right) (w : World) : Calls Try.prog 23 #[.agg c.cells] w (IntOn c.most w) := by
  have HRT : Hid (∀ w, Calls Try.prog 20 #[.agg c.cells] w (BoolOn true w)) := Lib.hid fun w => by rw [← bool_yes hc]; exact right_any c w
  obtain ⟨v, hv⟩ : ∃ v, v = c.most := ⟨_, rfl⟩
  rw [← hv]
  have HV : Hid (v = 12 * c.sl + 4 * c.th * c.lo + 8 * c.th + 4 * c.bu + 40) := Lib.hid hv
  clear hv
  obtain ⟨th, sl, lo, bu⟩ := c
  unfold Cfg.right at hc
  simp only [Cfg.cells] at *
  obtain ⟨h1, h2, h3, h4, h5, h6, h7, h8⟩ := hc
  obtain ⟨p1, p2⟩ := mul_bd (show 1 ≤ 4 * th by omega) (show 4 * th ≤ 256 by omega) h5 h6
  go_enter Try.func23, Try.ntmps23
  go_wp2_with (go_at_call 20; (with_reducible refine (HRT.out _).mono ?_); rintro e w' ⟨rfl, hb⟩; have l0 := hb.cell (p := ⟨w.heap.size, 0, none⟩) (by simp); have l1 := hb.cell (p := ⟨w.heap.size, 1, none⟩) (by simp); have l2 := hb.cell (p := ⟨w.heap.size, 2, none⟩) (by simp); have l3 := hb.cell (p := ⟨w.heap.size, 3, none⟩) (by simp); have HB : Hid (Below w.heap.size w w') := Lib.hid (((Below.refl _ _).alloc (Nat.le_refl _) _).trans (hb.mono (by simp))); clear hb)
  go_ret
  refine ⟨ret1 ?_, HB.out⟩
  exact HV.out.symm
theorem refLines (c : Cfg) (hc : c.right) (w : World) : Calls Try.prog 19 #[.agg c.cells] w (IntOn c.lines w) := by
  obtain ⟨v, hv⟩ : ∃ v, v = c.lines := ⟨_, rfl⟩
  rw [← hv]
  have HV : Hid (v = 5 + (c.bu + 7) / 8 + c.th + c.th * ((c.lo + 7) / 8) + c.sl) := Lib.hid hv
  clear hv
  obtain ⟨th, sl, lo, bu⟩ := c
  unfold Cfg.right at hc
  simp only [Cfg.cells] at *
  obtain ⟨h1, h2, h3, h4, h5, h6, h7, h8⟩ := hc
  obtain ⟨p1, p2⟩ := mul_bd h1 h2 (show 1 ≤ (lo + 7) / 8 by omega) (show (lo + 7) / 8 ≤ 8 by omega)
  go_enter Try.func19, Try.ntmps19
  go_wp2_with fail
  go_ret
  refine ⟨ret1 ?_, (Below.refl _ _).alloc (Nat.le_refl _) _⟩
  exact HV.out.symm
theorem linesOf22 (n : Int) (h1 : 1 ≤ n) (h2 : n ≤ 64) (w : World) : Calls Try.prog 22 #[.int .i64 n] w fun e w' => e = .returned (.int .i64 ((n + 7) / 8)) ∧ w' = w := by
  go_enter Try.func22, Try.ntmps22
  go_wp2_with fail
  go_ret
  refine ⟨ret1 ?_, rfl⟩
  omega
theorem cut21 (n a : Int) (p : Nat) (h0 : 0 ≤ a) (h1 : a ≤ 1000000) (h2 : 0 ≤ n) (h3 : n ≤ 1000000) (w : World) (hc : w.cell? ⟨p, 0, none⟩ = some (.int .i64 a)) (hf : w.frozen? ⟨p, 0, none⟩ = false) :
    Calls Try.prog 21 #[.int .i64 n, .pointer (some ⟨p, 0, none⟩)] w fun e w' => e = .returned (.int .i64 a) ∧ w' = w.setCell ⟨p, 0, none⟩ (.int .i64 (a + n)) := by
  go_enter Try.func21, Try.ntmps21
  go_wp2_with fail
  go_ret
  refine ⟨ret1 ?_, by congr 1⟩
  omega
theorem lines12 (p : Nat) (v : Int) (w : World) (hc : w.cell? ⟨p, 8, none⟩ = some (.int .i64 v)) :
    Calls Try.prog 12 #[.pointer (some ⟨p, 0, none⟩)] w fun e w' => e = .returned (.int .i64 v) ∧ w' = w := by
  go_enter Try.func12, Try.ntmps12
  go_wp2_with fail
  go_ret
  exact ⟨rfl, rfl⟩

/-- A layout: its lines' number lies in its ninth cell. -/
structure LayW (w : World) (q r : Nat) (W : World) (th sl lo bu a : Int) : Prop where
  c0 : W.cell? ⟨q, 0, none⟩ = some (.int .i64 th)
  c1 : W.cell? ⟨q, 1, none⟩ = some (.int .i64 sl)
  c2 : W.cell? ⟨q, 2, none⟩ = some (.int .i64 lo)
  c3 : W.cell? ⟨q, 3, none⟩ = some (.int .i64 bu)
  ca : W.cell? ⟨r, 0, none⟩ = some (.int .i64 a)
  fa : W.frozen? ⟨r, 0, none⟩ = false
  qr : q < r
  rs : r < W.heap.size
  below : Below w.heap.size w W
  wq : w.heap.size ≤ q
theorem cell_set_block {w : World} {b j g i : Nat} {v : Value} (h : g ≠ b) : (w.setCell ⟨b, j, none⟩ v).cell? ⟨g, i, none⟩ = w.cell? ⟨g, i, none⟩ :=
  World.cell?_setCell_other _ _ _ _ (by intro e; cases e; exact h rfl)
theorem LayW.cut {w : World} {q r : Nat} {W : World} {th sl lo bu a : Int} (h : LayW w q r W th sl lo bu a) (a' : Int) : LayW w q r (W.setCell ⟨r, 0, none⟩ (.int .i64 a')) th sl lo bu a' := by
  have hq := h.qr
  have hw := h.wq
  refine ⟨?_, ?_, ?_, ?_, World.cell?_setCell_same _ _ _ h.ca, by rw [World.frozen?_setCell]; exact h.fa, hq, by simpa using h.rs, h.below.setCell (by show _ ≤ r; omega) _, hw⟩
  · rw [cell_set_block (by omega)]; exact h.c0
  · rw [cell_set_block (by omega)]; exact h.c1
  · rw [cell_set_block (by omega)]; exact h.c2
  · rw [cell_set_block (by omega)]; exact h.c3
theorem LayW.other {w : World} {q r : Nat} {W : World} {th sl lo bu a : Int} (h : LayW w q r W th sl lo bu a) (g j : Nat) (v : Value) (h1 : g ≠ q) (h2 : g ≠ r) (h3 : w.heap.size ≤ g) : LayW w q r (W.setCell ⟨g, j, none⟩ v) th sl lo bu a := by
  refine ⟨?_, ?_, ?_, ?_, ?_, by rw [World.frozen?_setCell]; exact h.fa, h.qr, by simpa using h.rs, h.below.setCell h3 _, h.wq⟩
  · rw [cell_set_block (Ne.symm h1)]; exact h.c0
  · rw [cell_set_block (Ne.symm h1)]; exact h.c1
  · rw [cell_set_block (Ne.symm h1)]; exact h.c2
  · rw [cell_set_block (Ne.symm h1)]; exact h.c3
  · rw [cell_set_block (Ne.symm h2)]; exact h.ca
theorem LayW.alloc {w : World} {q r : Nat} {W : World} {th sl lo bu a : Int} (h : LayW w q r W th sl lo bu a) (o : Obj) : LayW w q r (W.alloc o) th sl lo bu a := by
  have hq : q < W.heap.size := Nat.lt_trans h.qr h.rs
  have hw := h.wq
  refine ⟨?_, ?_, ?_, ?_, ?_, ?_, h.qr, by simp; have := h.rs; omega, h.below.alloc (by omega) _, hw⟩
  · rw [World.cell?_alloc_lt _ _ _ hq]; exact h.c0
  · rw [World.cell?_alloc_lt _ _ _ hq]; exact h.c1
  · rw [World.cell?_alloc_lt _ _ _ hq]; exact h.c2
  · rw [World.cell?_alloc_lt _ _ _ hq]; exact h.c3
  · rw [World.cell?_alloc_lt _ _ _ h.rs]; exact h.ca
  · unfold World.frozen?; rw [Below.heap_alloc _ _ _ h.rs]; exact h.fa
theorem LayW.drew {w : World} {q r : Nat} {W : World} {th sl lo bu a : Int} (h : LayW w q r W th sl lo bu a) : LayW w q r W.drew th sl lo bu a :=
  ⟨h.c0, h.c1, h.c2, h.c3, h.ca, h.fa, h.qr, h.rs, h.below.drew, h.wq⟩
/-- The layout that is being made: its block. -/
def Lay9 (W : World) (g : Nat) (th sl lo bu x4 x5 l8 x7 x8 : Int) : Prop := W.heap[g]? = some (.cells #[.int .i64 th, .int .i64 sl, .int .i64 lo, .int .i64 bu, .int .i64 x4, .int .i64 x5, .int .i64 l8, .int .i64 x7, .int .i64 x8] 62 (0, 0))
theorem Lay9.cells {W : World} {g : Nat} {th sl lo bu x4 x5 l8 x7 x8 : Int} (h : Lay9 W g th sl lo bu x4 x5 l8 x7 x8) :
    W.cell? ⟨g, 4, none⟩ = some (.int .i64 x4) ∧ W.cell? ⟨g, 5, none⟩ = some (.int .i64 x5) ∧ W.cell? ⟨g, 6, none⟩ = some (.int .i64 l8) ∧ W.cell? ⟨g, 7, none⟩ = some (.int .i64 x7) ∧ W.cell? ⟨g, 8, none⟩ = some (.int .i64 x8) ∧ (∀ j, W.frozen? ⟨g, j, none⟩ = false) ∧ g < W.heap.size := by
  refine ⟨?_, ?_, ?_, ?_, ?_, fun j => ?_, (Array.getElem?_eq_some_iff.1 h).1⟩
  all_goals first | (rw [cell_of_row _ _ _ _ _ _ h]; rfl) | (unfold World.frozen?; rw [h]; simp)
theorem heap_set_other {W : World} {b j g : Nat} {v : Value} (h : g ≠ b) : (W.setCell ⟨b, j, none⟩ v).heap[g]? = W.heap[g]? := Below.heap_setCell W _ v g h
theorem Lay9.other {W : World} {g b j : Nat} {v : Value} {th sl lo bu x4 x5 l8 x7 x8 : Int} (h : Lay9 W g th sl lo bu x4 x5 l8 x7 x8) (hn : g ≠ b) : Lay9 (W.setCell ⟨b, j, none⟩ v) g th sl lo bu x4 x5 l8 x7 x8 := (heap_set_other hn).trans h
theorem heap_set {w : World} {g j : Nat} {c : Array Value} {t : TypeId} {f : Nat × Nat} (v : Value) (h : w.heap[g]? = some (.cells c t f)) : (w.setCell ⟨g, j, none⟩ v).heap[g]? = some (.cells (c.setIfInBounds j v) t f) := by
  simp [World.setCell, Array.getElem?_modify, h]
def LayTo (v : Int) (w : World) (e : Ending) (w' : World) : Prop :=
  ∃ g, e = .returned (.tuple #[.pointer (some ⟨g, 0, none⟩), .int .i64 0]) ∧ Below w.heap.size w w' ∧ w'.cell? ⟨g, 8, none⟩ = some (.int .i64 v) ∧ g < w'.heap.size
theorem layout_no (c : Cfg) (hc : ¬ c.right) (w : World) : Calls Try.prog 11 #[.agg c.cells] w fun e w' => e = .returned (.tuple #[.pointer none, .int .i64 1]) ∧ Below w.heap.size w w' := by
  have HRT : Hid (∀ w, Calls Try.prog 20 #[.agg c.cells] w (BoolOn false w)) := Lib.hid fun w => by rw [← bool_no hc]; exact right_any c w
  obtain ⟨th, sl, lo, bu⟩ := c
  simp only [Cfg.cells] at *
  clear hc
  go_enter Try.func11, Try.ntmps11
  go_wp2_with (go_at_call 20; (with_reducible refine (HRT.out _).mono ?_); rintro e w' ⟨rfl, hb⟩; have HB : Hid (Below w.heap.size w w') := Lib.hid (((Below.refl _ _).alloc (Nat.le_refl _) _).trans (hb.mono (by simp))); clear hb)
  go_ret2
  exact ⟨rfl, HB.out⟩
set_option maxRecDepth 100000 in
set_option maxHeartbeats 2000000 in
theorem layout_yes (c : Cfg) (hc : c.right) (w : World) : Calls Try.prog 11 #[.agg c.cells] w (LayTo c.lines w) := by
  have HRT : Hid (∀ w, Calls Try.prog 20 #[.agg c.cells] w (BoolOn true w)) := Lib.hid fun w => by rw [← bool_yes hc]; exact right_any c w
  obtain ⟨v, hv⟩ : ∃ v, v = c.lines := ⟨_, rfl⟩
  rw [← hv]
  have HV : Hid (v = 5 + (c.bu + 7) / 8 + c.th + c.th * ((c.lo + 7) / 8) + c.sl) := Lib.hid hv
  clear hv
  obtain ⟨th, sl, lo, bu⟩ := c
  unfold Cfg.right at hc
  simp only [Cfg.cells] at *
  obtain ⟨h1, h2, h3, h4, h5, h6, h7, h8⟩ := hc
  obtain ⟨p1, p2⟩ := mul_bd h1 h2 (show 1 ≤ (lo + 7) / 8 by omega) (show (lo + 7) / 8 ≤ 8 by omega)
  have hmf : ∀ (fn : Fn) (first cap : Array Value) (w : World), (Instr.makeFunc fn first cap).run Try.prog w = .ok (.func fn first cap) w := fun _ _ _ _ => rfl
  go_enter Try.func11, Try.ntmps11
  go_wp2_with fail
  (with_reducible refine (HRT.out _).mono ?_)
  rintro e w1 ⟨rfl, hb⟩
  have l0 : w1.cell? ⟨w.heap.size, 0, none⟩ = some (.int .i64 th) := by rw [hb.cell (p := ⟨w.heap.size, 0, none⟩) (by simp)]; simp
  have l1 : w1.cell? ⟨w.heap.size, 1, none⟩ = some (.int .i64 sl) := by rw [hb.cell (p := ⟨w.heap.size, 1, none⟩) (by simp)]; simp
  have l2 : w1.cell? ⟨w.heap.size, 2, none⟩ = some (.int .i64 lo) := by rw [hb.cell (p := ⟨w.heap.size, 2, none⟩) (by simp)]; simp
  have l3 : w1.cell? ⟨w.heap.size, 3, none⟩ = some (.int .i64 bu) := by rw [hb.cell (p := ⟨w.heap.size, 3, none⟩) (by simp)]; simp
  have hs1 : w.heap.size < w1.heap.size := by have := hb.size; simp at this; omega
  have HB : Hid (Below w.heap.size w w1) := Lib.hid (((Below.refl _ _).alloc (Nat.le_refl _) _).trans (hb.mono (by simp)))
  clear hb HRT
  obtain ⟨q, hq⟩ : ∃ q, q = w.heap.size := ⟨_, rfl⟩
  rw [← hq] at l0 l1 l2 l3 hs1 ⊢
  have HQ := Lib.hid hq
  clear hq
  have HL1 := Lib.hid fun w => linesOf22 bu (by omega) (by omega) w
  have HL2 := Lib.hid fun w => linesOf22 lo (by omega) (by omega) w
  generalize hB : (bu + 7) / 8 = b8 at *
  generalize hL : (lo + 7) / 8 = l8 at *
  have hb8 : 1 ≤ b8 ∧ b8 ≤ 8 := by omega
  have hl8 : 1 ≤ l8 ∧ l8 ≤ 8 := by omega
  clear hB hL
  generalize htl : th * l8 = tl at *
  go_upto_region 5 with fail
  obtain ⟨W2, hW2⟩ : ∃ W, W = w1.alloc (.cells #[.int .i64 5] 3) := ⟨_, rfl⟩
  obtain ⟨r, hr⟩ : ∃ r, r = w1.heap.size := ⟨_, rfl⟩
  have HL : Hid (LayW w q r W2 th sl lo bu 5) := Lib.hid (by
    have hq := HQ.out
    rw [hW2, hr]
    refine ⟨?_, ?_, ?_, ?_, ?_, ?_, hs1, by simp, HB.out.alloc (by omega) _, by omega⟩
    · rw [World.cell?_alloc_lt _ _ _ hs1]; exact l0
    · rw [World.cell?_alloc_lt _ _ _ hs1]; exact l1
    · rw [World.cell?_alloc_lt _ _ _ hs1]; exact l2
    · rw [World.cell?_alloc_lt _ _ _ hs1]; exact l3
    · simp
    · unfold World.frozen?; rw [heap_alloc_new]; simp)
  rw [← hW2, ← hr]
  clear hW2 hr l0 l1 l2 l3 hs1 HB HQ
  obtain ⟨x0, x1, x2, x3, xa, za, hqr, hrs, hbl, hwq⟩ := HL.out
  have HC1 := Lib.hid (cut21 b8 5 r (by omega) (by omega) (by omega) (by omega) W2 xa za)
  go_wp2_with fail
  refine (HL1.out _).mono ?_
  rintro e w' ⟨rfl, rfl⟩
  go_wp2_with fail
  refine HC1.out.mono ?_
  rintro e w2 ⟨rfl, rfl⟩
  have HL3 := Lib.hid (HL.out.cut (5 + b8))
  clear x0 x1 x2 x3 xa za hqr hrs hbl HC1 HL1 HL
  generalize w'.setCell ⟨r, 0, none⟩ (.int .i64 (5 + b8)) = W3 at *
  obtain ⟨x0, x1, x2, x3, xa, za, hqr, hrs, hbl, hwq⟩ := HL3.out
  go_upto_region 6 with fail
  go_cut [6] from 16 (fun v6 wx => ∃ g, v6 = .pointer (some ⟨g, 0, none⟩) ∧ g ≠ q ∧ g ≠ r ∧ w.heap.size ≤ g ∧ Hid (LayW w q r wx th sl lo bu (5 + b8)) ∧ Hid (wx.heap[g]? = some (.cells #[.int .i64 th, .int .i64 sl, .int .i64 lo, .int .i64 bu, .int .i64 0, .int .i64 0, .int .i64 l8, .int .i64 0, .int .i64 0] 62 (0, 0))))
  case first =>
    go_region_with (go_at_call 22; refine (HL2.out _).mono ?_; rintro e w' ⟨rfl, rfl⟩)
    all_goals
      go_wp2_with fail
      go_meet
      case rel => exact ⟨_, rfl, by omega, by omega, by omega, Lib.hid (HL3.out.alloc _).drew, Lib.hid (heap_alloc_new _ _)⟩
  case rest =>
    clear x0 x1 x2 x3 xa za hqr hrs hbl hwq HL3 HL2
    obtain ⟨g, rfl, hgq, hgr, hwg, HL, HG⟩ := hcut
    have HG : Hid (Lay9 wc g th sl lo bu 0 0 l8 0 0) := HG
    obtain ⟨x0, x1, x2, x3, xa, za, hqr, hrs, hbl, hwq⟩ := HL.out
    have HC := Lib.hid (cut21 th (5 + b8) r (by omega) (by omega) (by omega) (by omega) wc xa za)
    go_wp2_with fail
    refine HC.out.mono ?_
    rintro e w2 ⟨rfl, rfl⟩
    have HL2 := Lib.hid (HL.out.cut (5 + b8 + th))
    have HG2 := Lib.hid (HG.out.other (b := r) (j := 0) (v := .int .i64 (5 + b8 + th)) hgr)
    clear x0 x1 x2 x3 xa za hqr hrs hbl hwq HL HG HC
    generalize w'.setCell ⟨r, 0, none⟩ (.int .i64 (5 + b8 + th)) = W4 at *
    generalize wc.setCell ⟨r, 0, none⟩ (.int .i64 (5 + b8 + th)) = W4 at *
    obtain ⟨y4, y5, y6, y7, y8, yf, hgs⟩ := HG2.out.cells
    go_upto_region 8 with fail
    have HL3 := Lib.hid (HL2.out.other g 4 (.int .i64 (5 + b8)) hgq hgr hwg)
    have HG3 : Hid (Lay9 (W4.setCell ⟨g, 4, none⟩ (.int .i64 (5 + b8))) g th sl lo bu (5 + b8) 0 l8 0 0) := Lib.hid (heap_set (j := 4) (.int .i64 (5 + b8)) HG2.out)
    clear y4 y5 y6 y7 y8 yf hgs HL2 HG2
    generalize W4.setCell ⟨g, 4, none⟩ (.int .i64 (5 + b8)) = W5 at *
    obtain ⟨x0, x1, x2, x3, xa, za, hqr, hrs, hbl, hwq⟩ := HL3.out
    obtain ⟨y4, y5, y6, y7, y8, yf, hgs⟩ := HG3.out.cells
    have y5r : (W5.setCell ⟨r, 0, none⟩ (.int .i64 (5 + b8 + th + tl))).cell? ⟨g, 5, none⟩ = some (.int .i64 0) := by rw [cell_set_block hgr]; exact y5
    have wtl : IntKind.i64.wrap tl = tl := IntWalk.i64_in _ (by omega)
    go_cut [38] from 29 (fun v38 wx => Hid (LayW w q r wx th sl lo bu (5 + b8 + th + tl)) ∧ Hid (Lay9 wx g th sl lo bu (5 + b8) (5 + b8 + th) l8 0 0))
    case first =>
      have HC8 := Lib.hid (cut21 tl (5 + b8 + th) r (by omega) (by omega) (by omega) (by omega) W5.drew xa za)
      go_region_with (go_at_call 21; refine HC8.out.mono ?_; rintro e w' ⟨rfl, rfl⟩)
      all_goals
        go_wp2_with fail
        go_meet
        case rel => exact ⟨Lib.hid ((HL3.out.cut (5 + b8 + th + tl)).other g 5 _ hgq hgr hwg).drew, Lib.hid (heap_set (j := 5) _ (HG3.out.other (b := r) (j := 0) (v := .int .i64 (5 + b8 + th + tl)) hgr))⟩
    case rest =>
      clear x0 x1 x2 x3 xa za hqr hrs hbl hwq y4 y5 y6 y7 y8 yf hgs y5r HL3 HG3
      obtain ⟨HL, HG⟩ := hcut
      obtain ⟨x0, x1, x2, x3, xa, za, hqr, hrs, hbl, hwq⟩ := HL.out
      have HC := Lib.hid (cut21 sl (5 + b8 + th + tl) r (by omega) (by omega) (by omega) (by omega) wc xa za)
      go_wp2_with fail
      refine HC.out.mono ?_
      rintro e w2 ⟨rfl, rfl⟩
      have HL2 := Lib.hid (HL.out.cut (5 + b8 + th + tl + sl))
      have HG2 := Lib.hid (HG.out.other (b := r) (j := 0) (v := .int .i64 (5 + b8 + th + tl + sl)) hgr)
      clear x0 x1 x2 x3 xa za hqr hrs hbl hwq HL HG HC
      generalize wc.setCell ⟨r, 0, none⟩ (.int .i64 (5 + b8 + th + tl + sl)) = W6 at *
      obtain ⟨y4, y5, y6, y7, y8, yf, hgs⟩ := HG2.out.cells
      go_upto_region 10 with fail
      have HL3 := Lib.hid (HL2.out.other g 7 (.int .i64 (5 + b8 + th + tl)) hgq hgr hwg)
      have HG3 : Hid (Lay9 (W6.setCell ⟨g, 7, none⟩ (.int .i64 (5 + b8 + th + tl))) g th sl lo bu (5 + b8) (5 + b8 + th) l8 (5 + b8 + th + tl) 0) := Lib.hid (heap_set (j := 7) (.int .i64 (5 + b8 + th + tl)) HG2.out)
      clear y4 y5 y6 y7 y8 yf hgs HL2 HG2
      generalize W6.setCell ⟨g, 7, none⟩ (.int .i64 (5 + b8 + th + tl)) = W7 at *
      obtain ⟨x0, x1, x2, x3, xa, za, hqr, hrs, hbl, hwq⟩ := HL3.out
      obtain ⟨y4, y5, y6, y7, y8, yf, hgs⟩ := HG3.out.cells
      have HF : Hid ((W7.setCell ⟨g, 8, none⟩ (.int .i64 (5 + b8 + th + tl + sl))).cell? ⟨g, 8, none⟩ = some (.int .i64 v)) := Lib.hid (by rw [HV.out]; exact World.cell?_setCell_same _ _ _ y8)
      go_wp2_with fail
      go_ret2
      exact ⟨g, rfl, hbl.setCell hwg _, HF.out, by simpa using hgs⟩
end Go.Proofs.Ytoeeeapjfkjkbaa
