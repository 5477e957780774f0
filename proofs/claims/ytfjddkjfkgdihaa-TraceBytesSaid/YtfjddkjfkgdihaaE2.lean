/- Walks of layer 37 (trace): which accesses may be written. -/
import Derived.Test.YtfjddkjfkgdihaaE1
import Derived.Test.YtfjddkjfkgdihaaE0
import Derived.Test.YtfjddkjfkgdihaaT3
import Derived.Laws.Pointers
import Derived.BigQuiet
import Derived.WalkSmall
namespace Go.Proofs.Ytfjddkjfkgdihaa
open Go.RowKit Go.BigFrame
set_option linter.unusedVariables false
set_option linter.unusedSimpArgs false

def AccD.oldsB (k : Int) : Bool := decide (k = 1 ∨ k = 2 ∨ k = 3)
def AccD.newsB (k : Int) : Bool := decide (k = 2 ∨ k = 3)
def SameBool (b : Bool) (w : World) (e : Ending) (w' : World) : Prop := e = .returned (.bool b) ∧ w = w'

theorem olds_any (k : Int) (w : World) : Calls Try.prog 84 #[.int .i64 k] w (SameBool (AccD.oldsB k) w) := by
  have hk : k = 1 ∨ k = 2 ∨ k = 3 ∨ (¬ k = 1 ∧ ¬ k = 2 ∧ ¬ k = 3) := by omega
  rcases hk with rfl | rfl | rfl | ⟨h1, h2, h3⟩
  · go_enter Try.func84, Try.ntmps84
    go_wp2
    go_ret
    exact ⟨rfl, rfl⟩
  · go_enter Try.func84, Try.ntmps84
    go_wp2
    go_ret
    exact ⟨rfl, rfl⟩
  · go_enter Try.func84, Try.ntmps84
    go_wp2
    go_ret
    exact ⟨rfl, rfl⟩
  · have e1 : (k == 1) = false := by simp [h1]
    have e2 : (k == 2) = false := by simp [h2]
    have e3 : (k == 3) = false := by simp [h3]
    have e : Hid (AccD.oldsB k = false) := Lib.hid (by simp [AccD.oldsB, h1, h2, h3])
    clear h1 h2 h3
    go_enter Try.func84, Try.ntmps84
    go_wp2
    go_ret
    exact ⟨by rw [e.out]; rfl, rfl⟩
theorem news_any (k : Int) (w : World) : Calls Try.prog 85 #[.int .i64 k] w (SameBool (AccD.newsB k) w) := by
  have hk : k = 2 ∨ k = 3 ∨ (¬ k = 2 ∧ ¬ k = 3) := by omega
  rcases hk with rfl | rfl | ⟨h2, h3⟩
  · go_enter Try.func85, Try.ntmps85
    go_wp2
    go_ret
    exact ⟨rfl, rfl⟩
  · go_enter Try.func85, Try.ntmps85
    go_wp2
    go_ret
    exact ⟨rfl, rfl⟩
  · have e2 : (k == 2) = false := by simp [h2]
    have e3 : (k == 3) = false := by simp [h3]
    have e : Hid (AccD.newsB k = false) := Lib.hid (by simp [AccD.newsB, h2, h3])
    clear h2 h3
    go_enter Try.func85, Try.ntmps85
    go_wp2
    go_ret
    exact ⟨by rw [e.out]; rfl, rfl⟩

def TrueOr (b : Bool) (w : World) (e : Ending) (w' : World) : Prop := e = .returned (.bool b) ∧ Below w.heap.size w w'
def AccD.plain (x : AccD) : AccD := ⟨x.ki, x.th, if x.ki = 5 then 0 else x.pl, if AccD.oldsB x.ki then x.ol else 0, if AccD.newsB x.ki then x.ne else 0, x.dn⟩
def AggOn (v : Array Value) (w : World) (e : Ending) (w' : World) : Prop := e = .returned (.agg v) ∧ Below w.heap.size w w'

set_option maxRecDepth 100000 in
set_option maxHeartbeats 4000000 in
theorem plain_any (x : AccD) (w : World) : Calls Try.prog 82 #[.agg x.cells] w (AggOn x.plain.cells w) := by
  obtain ⟨ki, th, pl, ol, ne, dn⟩ := x
  have HO := Lib.hid fun w => olds_any ki w
  have HN := Lib.hid fun w => news_any ki w
  unfold AccD.plain
  obtain ⟨b1, hb1⟩ : ∃ b, b = AccD.oldsB ki := ⟨_, rfl⟩
  obtain ⟨b2, hb2⟩ : ∃ b, b = AccD.newsB ki := ⟨_, rfl⟩
  simp only
  rw [← hb1] at HO ⊢
  rw [← hb2] at HN ⊢
  clear hb1 hb2
  obtain ⟨P, hP⟩ : ∃ P, P = AccD.cells ⟨ki, th, if ki = 5 then 0 else pl, if b1 = true then ol else 0, if b2 = true then ne else 0, dn⟩ := ⟨_, rfl⟩
  rw [← hP]
  have HP := Lib.hid hP; clear hP
  unfold AccD.cells
  by_cases h5 : ki = 5
  · subst h5
    cases b1 <;> cases b2
    · go_enter Try.func82, Try.ntmps82
      go_wp2_with (first | (go_at_call 84; refine (HO.out _).mono ?_; rintro e w' ⟨rfl, rfl⟩) | (go_at_call 85; refine (HN.out _).mono ?_; rintro e w' ⟨rfl, rfl⟩))
      refine bodyPost_ret (v := .agg #[.int .i64 5, .int .i64 th, .int .i64 0, .int .u64 0, .int .u64 0, .bool dn]) (by simp [results, Try.results82, go_sem]) rfl ⟨by rw [HP.out]; simp [AccD.cells], ((Below.refl _ _).alloc (Nat.le_refl _) _).alloc (by simp) _⟩
    · go_enter Try.func82, Try.ntmps82
      go_wp2_with (first | (go_at_call 84; refine (HO.out _).mono ?_; rintro e w' ⟨rfl, rfl⟩) | (go_at_call 85; refine (HN.out _).mono ?_; rintro e w' ⟨rfl, rfl⟩))
      refine bodyPost_ret (v := .agg #[.int .i64 5, .int .i64 th, .int .i64 0, .int .u64 0, .int .u64 ne, .bool dn]) (by simp [results, Try.results82, go_sem]) rfl ⟨by rw [HP.out]; simp [AccD.cells], ((Below.refl _ _).alloc (Nat.le_refl _) _).alloc (by simp) _⟩
    · go_enter Try.func82, Try.ntmps82
      go_wp2_with (first | (go_at_call 84; refine (HO.out _).mono ?_; rintro e w' ⟨rfl, rfl⟩) | (go_at_call 85; refine (HN.out _).mono ?_; rintro e w' ⟨rfl, rfl⟩))
      refine bodyPost_ret (v := .agg #[.int .i64 5, .int .i64 th, .int .i64 0, .int .u64 ol, .int .u64 0, .bool dn]) (by simp [results, Try.results82, go_sem]) rfl ⟨by rw [HP.out]; simp [AccD.cells], ((Below.refl _ _).alloc (Nat.le_refl _) _).alloc (by simp) _⟩
    · go_enter Try.func82, Try.ntmps82
      go_wp2_with (first | (go_at_call 84; refine (HO.out _).mono ?_; rintro e w' ⟨rfl, rfl⟩) | (go_at_call 85; refine (HN.out _).mono ?_; rintro e w' ⟨rfl, rfl⟩))
      refine bodyPost_ret (v := .agg #[.int .i64 5, .int .i64 th, .int .i64 0, .int .u64 ol, .int .u64 ne, .bool dn]) (by simp [results, Try.results82, go_sem]) rfl ⟨by rw [HP.out]; simp [AccD.cells], ((Below.refl _ _).alloc (Nat.le_refl _) _).alloc (by simp) _⟩
  · have e5 : (ki == 5) = false := by simp [h5]
    have H5 := Lib.hid h5; clear h5
    cases b1 <;> cases b2
    · go_enter Try.func82, Try.ntmps82
      go_wp2_with (first | (go_at_call 84; refine (HO.out _).mono ?_; rintro e w' ⟨rfl, rfl⟩) | (go_at_call 85; refine (HN.out _).mono ?_; rintro e w' ⟨rfl, rfl⟩))
      refine bodyPost_ret (v := .agg #[.int .i64 ki, .int .i64 th, .int .i64 pl, .int .u64 0, .int .u64 0, .bool dn]) (by simp [results, Try.results82, go_sem]) rfl ⟨by rw [HP.out]; simp [AccD.cells, H5.out], ((Below.refl _ _).alloc (Nat.le_refl _) _).alloc (by simp) _⟩
    · go_enter Try.func82, Try.ntmps82
      go_wp2_with (first | (go_at_call 84; refine (HO.out _).mono ?_; rintro e w' ⟨rfl, rfl⟩) | (go_at_call 85; refine (HN.out _).mono ?_; rintro e w' ⟨rfl, rfl⟩))
      refine bodyPost_ret (v := .agg #[.int .i64 ki, .int .i64 th, .int .i64 pl, .int .u64 0, .int .u64 ne, .bool dn]) (by simp [results, Try.results82, go_sem]) rfl ⟨by rw [HP.out]; simp [AccD.cells, H5.out], ((Below.refl _ _).alloc (Nat.le_refl _) _).alloc (by simp) _⟩
    · go_enter Try.func82, Try.ntmps82
      go_wp2_with (first | (go_at_call 84; refine (HO.out _).mono ?_; rintro e w' ⟨rfl, rfl⟩) | (go_at_call 85; refine (HN.out _).mono ?_; rintro e w' ⟨rfl, rfl⟩))
      refine bodyPost_ret (v := .agg #[.int .i64 ki, .int .i64 th, .int .i64 pl, .int .u64 ol, .int .u64 0, .bool dn]) (by simp [results, Try.results82, go_sem]) rfl ⟨by rw [HP.out]; simp [AccD.cells, H5.out], ((Below.refl _ _).alloc (Nat.le_refl _) _).alloc (by simp) _⟩
    · go_enter Try.func82, Try.ntmps82
      go_wp2_with (first | (go_at_call 84; refine (HO.out _).mono ?_; rintro e w' ⟨rfl, rfl⟩) | (go_at_call 85; refine (HN.out _).mono ?_; rintro e w' ⟨rfl, rfl⟩))
      refine bodyPost_ret (v := .agg #[.int .i64 ki, .int .i64 th, .int .i64 pl, .int .u64 ol, .int .u64 ne, .bool dn]) (by simp [results, Try.results82, go_sem]) rfl ⟨by rw [HP.out]; simp [AccD.cells, H5.out], ((Below.refl _ _).alloc (Nat.le_refl _) _).alloc (by simp) _⟩

theorem plain_eq (x : AccD) (h1 : 1 ≤ x.ki) (h2 : x.ki ≤ 5) : (x.plain = x) ↔ ((x.ki = 5 → x.pl = 0) ∧ (4 ≤ x.ki → x.ol = 0) ∧ (¬ x.ki = 2 → ¬ x.ki = 3 → x.ne = 0)) := by
  obtain ⟨ki, th, pl, ol, ne, dn⟩ := x
  simp only at h1 h2
  rcases (show ki = 1 ∨ ki = 2 ∨ ki = 3 ∨ ki = 4 ∨ ki = 5 by omega) with rfl | rfl | rfl | rfl | rfl <;> simp [AccD.plain, AccD.oldsB, AccD.newsB] <;> grind

instance : DecidableEq AccD := fun x y => decidable_of_iff (x.ki = y.ki ∧ x.th = y.th ∧ x.pl = y.pl ∧ x.ol = y.ol ∧ x.ne = y.ne ∧ x.dn = y.dn) ⟨fun ⟨a, b, c, d, e, f⟩ => AccD.ext' a b c d e f, fun h => by subst h; simp⟩

theorem eql50 (x y : AccD) (w : World) : (binOp .eql 50 (.agg x.cells) (.agg y.cells)).run Try.prog w = .ok (.bool (decide (x = y))) w := by
  simp only [AccD.cells]
  go_simp
  by_cases h : x = y
  · subst h; simp
  · rw [decide_eq_false h]
    repeat' split
    all_goals first | rfl | exact absurd (AccD.ext' (by assumption) (by assumption) (by assumption) (by assumption) (by assumption) (by assumption)) h

theorem box_cells (W : World) {b : Nat} {x : AccD} {t : TypeId} (h : W.heap[b]? = some (.cells x.cells t (0, 0))) :
    (∀ y : Over W.heap.size W, y.w.cell? ⟨b, 0, none⟩ = some (.int .i64 x.ki)) ∧ (∀ y : Over W.heap.size W, y.w.cell? ⟨b, 1, none⟩ = some (.int .i64 x.th)) ∧ (∀ y : Over W.heap.size W, y.w.cell? ⟨b, 2, none⟩ = some (.int .i64 x.pl)) ∧ (∀ y : Over W.heap.size W, y.w.cell? ⟨b, 3, none⟩ = some (.int .u64 x.ol)) ∧ (∀ y : Over W.heap.size W, y.w.cell? ⟨b, 4, none⟩ = some (.int .u64 x.ne)) ∧ (∀ y : Over W.heap.size W, y.w.cell? ⟨b, 5, none⟩ = some (.bool x.dn)) := by
  have hlt := (Array.getElem?_eq_some_iff.1 h).1
  have e : ∀ (y : Over W.heap.size W) (o : Nat), y.w.cell? ⟨b, o, none⟩ = x.cells[o]? := fun y o => by
    rw [y.below.cell (p := ⟨b, o, none⟩) hlt, cell_of_row _ _ _ _ _ _ h]
  exact ⟨fun y => e y 0, fun y => e y 1, fun y => e y 2, fun y => e y 3, fun y => e y 4, fun y => e y 5⟩

/-- May it be written, said by the place of the one that may not be. -/
theorem may_false_iff (x : AccD) : x.mayB = (decide (1 ≤ x.ki) && decide (x.ki ≤ 5) && decide (0 ≤ x.th) && decide (x.th < 64) && decide (-1073741824 ≤ x.pl) && decide (x.pl ≤ 1073741824) && decide (x.plain = x)) := by
  by_cases h1 : 1 ≤ x.ki
  · by_cases h2 : x.ki ≤ 5
    · have := plain_eq x h1 h2
      rw [Bool.eq_iff_iff]
      simp only [AccD.mayB, decide_eq_true_eq, Bool.and_eq_true, this]
      grind
    · simp [AccD.mayB, h2]
  · simp [AccD.mayB, h1]

set_option maxRecDepth 100000 in
set_option maxHeartbeats 4000000 in
theorem right_acc (x : AccD) (w : World) : Calls Try.prog 68 #[.agg x.cells] w (TrueOr x.mayB w) := by
  rw [may_false_iff]
  have HP := Lib.hid fun w => plain_any x w
  have HE := Lib.hid fun w => eql50 x.plain x w
  obtain ⟨q, hq⟩ : ∃ q, q = decide (x.plain = x) := ⟨_, rfl⟩
  rw [← hq] at HE ⊢
  clear hq
  simp only [AccD.cells] at HE HP
  generalize x.plain = y at HE HP
  obtain ⟨ki, th, pl, ol, ne, dn⟩ := x
  obtain ⟨r, hr⟩ : ∃ r, r = (decide (1 ≤ ki) && decide (ki ≤ 5) && decide (0 ≤ th) && decide (th < 64) && decide (-1073741824 ≤ pl) && decide (pl ≤ 1073741824) && q) := ⟨_, rfl⟩
  simp only at HE HP
  rw [← hr]
  have HR := Lib.hid hr; clear hr
  unfold AccD.cells
  by_cases h1 : 1 ≤ ki
  · skip
    by_cases h2 : ki ≤ 5
    · skip
      by_cases h3 : 0 ≤ th
      · skip
        by_cases h4 : th < 64
        · skip
          by_cases h5 : -1073741824 ≤ pl
          · skip
            by_cases h6 : pl ≤ 1073741824
            · skip
              have HF : Hid (r = q) := Lib.hid (by rw [HR.out]; simp [h1, h2, h3, h4, h5, h6])
              go_enter Try.func68, Try.ntmps68
              go_wp2_with fail
              obtain ⟨W, hW⟩ : ∃ W, W = w.alloc (.cells (AccD.cells ⟨ki, th, pl, ol, ne, dn⟩) 50) := ⟨_, rfl⟩
              obtain ⟨b, hb⟩ : ∃ b, b = w.heap.size := ⟨_, rfl⟩
              have hbw : Below b w W := by rw [hW, hb]; exact (Below.refl _ _).alloc (Nat.le_refl _) _
              have hcell : W.heap[b]? = some (.cells (AccD.cells ⟨ki, th, pl, ol, ne, dn⟩) 50 (0, 0)) := by rw [hW, hb, heap_alloc_new]
              simp only [AccD.cells] at hW
              rw [← hW, ← hb]
              have HBW := Lib.hid hbw; have HBB := Lib.hid hb
              clear hW hb hbw
              obtain ⟨d0, d1, d2, d3, d4, d5⟩ := box_cells W hcell
              clear hcell
              have he := HE.out
              refine region_quiet_of (fun x : Over W.heap.size W => x.w) (by kernel_rfl) (by kernel_rfl) (Over.first _ _) (Over.first_w _ _) ?_
              repeat (first | go_big_quiet_skip | (go_big_quiet_want; go_big_quiet_op; first | go_big_quiet_on | go_big_quiet_call ((rename_i x; go_at_call 82; refine (HP.out _).mono ?_; rintro e w' ⟨rfl, hb⟩; exact ⟨rfl, x.on w' (hb.mono x.below.size), rfl⟩))))
              refine wpQuiet_nil ?_
              rintro _ ⟨x, rfl⟩
              clear he; clear d0 d1 d2 d3 d4 d5
              go_wp2
              go_ret
              exact ⟨by rw [HF.out]; rfl, by rw [← HBB.out]; exact HBW.out.trans (x.below.mono (by rw [HBB.out]; exact HBW.out.size))⟩
            · skip
              have HF : Hid (r = false) := Lib.hid (by rw [HR.out]; simp [h6])
              have e6 : decide (pl ≤ 1073741824) = false := by simp [h6]
              have g6 : 1073741824 < pl := by omega
              clear h6
              go_enter Try.func68, Try.ntmps68
              go_wp2_with fail
              obtain ⟨W, hW⟩ : ∃ W, W = w.alloc (.cells (AccD.cells ⟨ki, th, pl, ol, ne, dn⟩) 50) := ⟨_, rfl⟩
              obtain ⟨b, hb⟩ : ∃ b, b = w.heap.size := ⟨_, rfl⟩
              have hbw : Below b w W := by rw [hW, hb]; exact (Below.refl _ _).alloc (Nat.le_refl _) _
              have hcell : W.heap[b]? = some (.cells (AccD.cells ⟨ki, th, pl, ol, ne, dn⟩) 50 (0, 0)) := by rw [hW, hb, heap_alloc_new]
              simp only [AccD.cells] at hW
              rw [← hW, ← hb]
              have HBW := Lib.hid hbw; have HBB := Lib.hid hb
              clear hW hb hbw
              obtain ⟨d0, d1, d2, d3, d4, d5⟩ := box_cells W hcell
              clear hcell
              refine region_quiet_of (fun x : Over W.heap.size W => x.w) (by kernel_rfl) (by kernel_rfl) (Over.first _ _) (Over.first_w _ _) ?_
              repeat (first | go_big_quiet_skip | (go_big_quiet_want; go_big_quiet_op; first | go_big_quiet_on | go_big_quiet_call ((rename_i x; go_at_call 82; refine (HP.out _).mono ?_; rintro e w' ⟨rfl, hb⟩; exact ⟨rfl, x.on w' (hb.mono x.below.size), rfl⟩))))
              refine wpQuiet_nil ?_
              rintro _ ⟨x, rfl⟩
              clear d0 d1 d2 d3 d4 d5
              go_wp2
              go_ret
              exact ⟨by rw [HF.out]; rfl, by rw [← HBB.out]; exact HBW.out.trans (x.below.mono (by rw [HBB.out]; exact HBW.out.size))⟩
          · skip
            have HF : Hid (r = false) := Lib.hid (by rw [HR.out]; simp [h5])
            have e5 : decide (-1073741824 ≤ pl) = false := by simp [h5]
            have g5 : pl < -1073741824 := by omega
            clear h5
            go_enter Try.func68, Try.ntmps68
            go_wp2_with fail
            obtain ⟨W, hW⟩ : ∃ W, W = w.alloc (.cells (AccD.cells ⟨ki, th, pl, ol, ne, dn⟩) 50) := ⟨_, rfl⟩
            obtain ⟨b, hb⟩ : ∃ b, b = w.heap.size := ⟨_, rfl⟩
            have hbw : Below b w W := by rw [hW, hb]; exact (Below.refl _ _).alloc (Nat.le_refl _) _
            have hcell : W.heap[b]? = some (.cells (AccD.cells ⟨ki, th, pl, ol, ne, dn⟩) 50 (0, 0)) := by rw [hW, hb, heap_alloc_new]
            simp only [AccD.cells] at hW
            rw [← hW, ← hb]
            have HBW := Lib.hid hbw; have HBB := Lib.hid hb
            clear hW hb hbw
            obtain ⟨d0, d1, d2, d3, d4, d5⟩ := box_cells W hcell
            clear hcell
            refine region_quiet_of (fun x : Over W.heap.size W => x.w) (by kernel_rfl) (by kernel_rfl) (Over.first _ _) (Over.first_w _ _) ?_
            repeat (first | go_big_quiet_skip | (go_big_quiet_want; go_big_quiet_op; first | go_big_quiet_on | go_big_quiet_call ((rename_i x; go_at_call 82; refine (HP.out _).mono ?_; rintro e w' ⟨rfl, hb⟩; exact ⟨rfl, x.on w' (hb.mono x.below.size), rfl⟩))))
            refine wpQuiet_nil ?_
            rintro _ ⟨x, rfl⟩
            clear d0 d1 d2 d3 d4 d5
            go_wp2
            go_ret
            exact ⟨by rw [HF.out]; rfl, by rw [← HBB.out]; exact HBW.out.trans (x.below.mono (by rw [HBB.out]; exact HBW.out.size))⟩
        · skip
          have HF : Hid (r = false) := Lib.hid (by rw [HR.out]; simp [h4])
          have e4 : decide (th < 64) = false := by simp [h4]
          have g4 : 64 ≤ th := by omega
          clear h4
          go_enter Try.func68, Try.ntmps68
          go_wp2_with fail
          obtain ⟨W, hW⟩ : ∃ W, W = w.alloc (.cells (AccD.cells ⟨ki, th, pl, ol, ne, dn⟩) 50) := ⟨_, rfl⟩
          obtain ⟨b, hb⟩ : ∃ b, b = w.heap.size := ⟨_, rfl⟩
          have hbw : Below b w W := by rw [hW, hb]; exact (Below.refl _ _).alloc (Nat.le_refl _) _
          have hcell : W.heap[b]? = some (.cells (AccD.cells ⟨ki, th, pl, ol, ne, dn⟩) 50 (0, 0)) := by rw [hW, hb, heap_alloc_new]
          simp only [AccD.cells] at hW
          rw [← hW, ← hb]
          have HBW := Lib.hid hbw; have HBB := Lib.hid hb
          clear hW hb hbw
          obtain ⟨d0, d1, d2, d3, d4, d5⟩ := box_cells W hcell
          clear hcell
          refine region_quiet_of (fun x : Over W.heap.size W => x.w) (by kernel_rfl) (by kernel_rfl) (Over.first _ _) (Over.first_w _ _) ?_
          repeat (first | go_big_quiet_skip | (go_big_quiet_want; go_big_quiet_op; first | go_big_quiet_on | go_big_quiet_call ((rename_i x; go_at_call 82; refine (HP.out _).mono ?_; rintro e w' ⟨rfl, hb⟩; exact ⟨rfl, x.on w' (hb.mono x.below.size), rfl⟩))))
          refine wpQuiet_nil ?_
          rintro _ ⟨x, rfl⟩
          clear d0 d1 d2 d3 d4 d5
          go_wp2
          go_ret
          exact ⟨by rw [HF.out]; rfl, by rw [← HBB.out]; exact HBW.out.trans (x.below.mono (by rw [HBB.out]; exact HBW.out.size))⟩
      · skip
        have HF : Hid (r = false) := Lib.hid (by rw [HR.out]; simp [h3])
        have e3 : decide (0 ≤ th) = false := by simp [h3]
        have g3 : th < 0 := by omega
        clear h3
        go_enter Try.func68, Try.ntmps68
        go_wp2_with fail
        obtain ⟨W, hW⟩ : ∃ W, W = w.alloc (.cells (AccD.cells ⟨ki, th, pl, ol, ne, dn⟩) 50) := ⟨_, rfl⟩
        obtain ⟨b, hb⟩ : ∃ b, b = w.heap.size := ⟨_, rfl⟩
        have hbw : Below b w W := by rw [hW, hb]; exact (Below.refl _ _).alloc (Nat.le_refl _) _
        have hcell : W.heap[b]? = some (.cells (AccD.cells ⟨ki, th, pl, ol, ne, dn⟩) 50 (0, 0)) := by rw [hW, hb, heap_alloc_new]
        simp only [AccD.cells] at hW
        rw [← hW, ← hb]
        have HBW := Lib.hid hbw; have HBB := Lib.hid hb
        clear hW hb hbw
        obtain ⟨d0, d1, d2, d3, d4, d5⟩ := box_cells W hcell
        clear hcell
        refine region_quiet_of (fun x : Over W.heap.size W => x.w) (by kernel_rfl) (by kernel_rfl) (Over.first _ _) (Over.first_w _ _) ?_
        repeat (first | go_big_quiet_skip | (go_big_quiet_want; go_big_quiet_op; first | go_big_quiet_on | go_big_quiet_call ((rename_i x; go_at_call 82; refine (HP.out _).mono ?_; rintro e w' ⟨rfl, hb⟩; exact ⟨rfl, x.on w' (hb.mono x.below.size), rfl⟩))))
        refine wpQuiet_nil ?_
        rintro _ ⟨x, rfl⟩
        clear d0 d1 d2 d3 d4 d5
        go_wp2
        go_ret
        exact ⟨by rw [HF.out]; rfl, by rw [← HBB.out]; exact HBW.out.trans (x.below.mono (by rw [HBB.out]; exact HBW.out.size))⟩
    · skip
      have HF : Hid (r = false) := Lib.hid (by rw [HR.out]; simp [h2])
      have e2 : decide (ki ≤ 5) = false := by simp [h2]
      have g2 : 5 < ki := by omega
      clear h2
      go_enter Try.func68, Try.ntmps68
      go_wp2_with fail
      obtain ⟨W, hW⟩ : ∃ W, W = w.alloc (.cells (AccD.cells ⟨ki, th, pl, ol, ne, dn⟩) 50) := ⟨_, rfl⟩
      obtain ⟨b, hb⟩ : ∃ b, b = w.heap.size := ⟨_, rfl⟩
      have hbw : Below b w W := by rw [hW, hb]; exact (Below.refl _ _).alloc (Nat.le_refl _) _
      have hcell : W.heap[b]? = some (.cells (AccD.cells ⟨ki, th, pl, ol, ne, dn⟩) 50 (0, 0)) := by rw [hW, hb, heap_alloc_new]
      simp only [AccD.cells] at hW
      rw [← hW, ← hb]
      have HBW := Lib.hid hbw; have HBB := Lib.hid hb
      clear hW hb hbw
      obtain ⟨d0, d1, d2, d3, d4, d5⟩ := box_cells W hcell
      clear hcell
      refine region_quiet_of (fun x : Over W.heap.size W => x.w) (by kernel_rfl) (by kernel_rfl) (Over.first _ _) (Over.first_w _ _) ?_
      repeat (first | go_big_quiet_skip | (go_big_quiet_want; go_big_quiet_op; first | go_big_quiet_on | go_big_quiet_call ((rename_i x; go_at_call 82; refine (HP.out _).mono ?_; rintro e w' ⟨rfl, hb⟩; exact ⟨rfl, x.on w' (hb.mono x.below.size), rfl⟩))))
      refine wpQuiet_nil ?_
      rintro _ ⟨x, rfl⟩
      clear d0 d1 d2 d3 d4 d5
      go_wp2
      go_ret
      exact ⟨by rw [HF.out]; rfl, by rw [← HBB.out]; exact HBW.out.trans (x.below.mono (by rw [HBB.out]; exact HBW.out.size))⟩
  · skip
    have HF : Hid (r = false) := Lib.hid (by rw [HR.out]; simp [h1])
    have e1 : decide (1 ≤ ki) = false := by simp [h1]
    have g1 : ki < 1 := by omega
    clear h1
    go_enter Try.func68, Try.ntmps68
    go_wp2_with fail
    obtain ⟨W, hW⟩ : ∃ W, W = w.alloc (.cells (AccD.cells ⟨ki, th, pl, ol, ne, dn⟩) 50) := ⟨_, rfl⟩
    obtain ⟨b, hb⟩ : ∃ b, b = w.heap.size := ⟨_, rfl⟩
    have hbw : Below b w W := by rw [hW, hb]; exact (Below.refl _ _).alloc (Nat.le_refl _) _
    have hcell : W.heap[b]? = some (.cells (AccD.cells ⟨ki, th, pl, ol, ne, dn⟩) 50 (0, 0)) := by rw [hW, hb, heap_alloc_new]
    simp only [AccD.cells] at hW
    rw [← hW, ← hb]
    have HBW := Lib.hid hbw; have HBB := Lib.hid hb
    clear hW hb hbw
    obtain ⟨d0, d1, d2, d3, d4, d5⟩ := box_cells W hcell
    clear hcell
    refine region_quiet_of (fun x : Over W.heap.size W => x.w) (by kernel_rfl) (by kernel_rfl) (Over.first _ _) (Over.first_w _ _) ?_
    repeat (first | go_big_quiet_skip | (go_big_quiet_want; go_big_quiet_op; first | go_big_quiet_on | go_big_quiet_call ((rename_i x; go_at_call 82; refine (HP.out _).mono ?_; rintro e w' ⟨rfl, hb⟩; exact ⟨rfl, x.on w' (hb.mono x.below.size), rfl⟩))))
    refine wpQuiet_nil ?_
    rintro _ ⟨x, rfl⟩
    clear d0 d1 d2 d3 d4 d5
    go_wp2
    go_ret
    exact ⟨by rw [HF.out]; rfl, by rw [← HBB.out]; exact HBW.out.trans (x.below.mono (by rw [HBB.out]; exact HBW.out.size))⟩
end Go.Proofs.Ytfjddkjfkgdihaa
