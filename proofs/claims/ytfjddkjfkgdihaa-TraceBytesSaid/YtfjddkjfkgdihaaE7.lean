/- Walks of the reference's May and of the statement's same (the ways of May printed by e7.py). -/
import Derived.Test.YtfjddkjfkgdihaaE3
import Derived.Laws.StructEq
namespace Go.Proofs.Ytfjddkjfkgdihaa
open Go.RowKit Go.BigFrame
set_option linter.unusedVariables false
set_option linter.unusedSimpArgs false

set_option maxRecDepth 100000 in
set_option maxHeartbeats 2000000 in
theorem may_lo (ki th pl ol ne : Int) (dn : Bool) (w : World) (h : ki < 1) : Calls Try.prog 48 #[.agg (AccD.cells ⟨ki, th, pl, ol, ne, dn⟩)] w (TrueOr (AccD.mayB ⟨ki, th, pl, ol, ne, dn⟩) w) := by
  obtain ⟨r, hr⟩ : ∃ r, r = AccD.mayB ⟨ki, th, pl, ol, ne, dn⟩ := ⟨_, rfl⟩
  rw [← hr]
  have HR := Lib.hid hr; clear hr
  unfold AccD.cells
  have HF : Hid (r = false) := Lib.hid (by rw [HR.out]; simp [AccD.mayB]; omega)
  clear HR
  go_enter Try.func48, Try.ntmps48
  go_wp2
  go_ret
  exact ⟨by rw [HF.out]; rfl, (Below.refl _ _).alloc (Nat.le_refl _) _⟩
set_option maxRecDepth 100000 in
set_option maxHeartbeats 2000000 in
theorem may_hi (ki th pl ol ne : Int) (dn : Bool) (w : World) (h : 5 < ki) (h1 : ¬ ki < 1) : Calls Try.prog 48 #[.agg (AccD.cells ⟨ki, th, pl, ol, ne, dn⟩)] w (TrueOr (AccD.mayB ⟨ki, th, pl, ol, ne, dn⟩) w) := by
  obtain ⟨r, hr⟩ : ∃ r, r = AccD.mayB ⟨ki, th, pl, ol, ne, dn⟩ := ⟨_, rfl⟩
  rw [← hr]
  have HR := Lib.hid hr; clear hr
  unfold AccD.cells
  have HF : Hid (r = false) := Lib.hid (by rw [HR.out]; simp [AccD.mayB]; omega)
  clear HR
  go_enter Try.func48, Try.ntmps48
  go_wp2
  go_ret
  exact ⟨by rw [HF.out]; rfl, (Below.refl _ _).alloc (Nat.le_refl _) _⟩
set_option maxRecDepth 100000 in
set_option maxHeartbeats 2000000 in
theorem may_tlo (ki th pl ol ne : Int) (dn : Bool) (w : World) (h1 : 1 ≤ ki) (h2 : ki ≤ 5) (h : th < 0) : Calls Try.prog 48 #[.agg (AccD.cells ⟨ki, th, pl, ol, ne, dn⟩)] w (TrueOr (AccD.mayB ⟨ki, th, pl, ol, ne, dn⟩) w) := by
  obtain ⟨r, hr⟩ : ∃ r, r = AccD.mayB ⟨ki, th, pl, ol, ne, dn⟩ := ⟨_, rfl⟩
  rw [← hr]
  have HR := Lib.hid hr; clear hr
  unfold AccD.cells
  have HF : Hid (r = false) := Lib.hid (by rw [HR.out]; simp [AccD.mayB]; omega)
  clear HR
  go_enter Try.func48, Try.ntmps48
  go_wp2
  go_ret
  exact ⟨by rw [HF.out]; rfl, (Below.refl _ _).alloc (Nat.le_refl _) _⟩
set_option maxRecDepth 100000 in
set_option maxHeartbeats 2000000 in
theorem may_thi (ki th pl ol ne : Int) (dn : Bool) (w : World) (h1 : 1 ≤ ki) (h2 : ki ≤ 5) (h3 : 0 ≤ th) (h : 63 < th) : Calls Try.prog 48 #[.agg (AccD.cells ⟨ki, th, pl, ol, ne, dn⟩)] w (TrueOr (AccD.mayB ⟨ki, th, pl, ol, ne, dn⟩) w) := by
  obtain ⟨r, hr⟩ : ∃ r, r = AccD.mayB ⟨ki, th, pl, ol, ne, dn⟩ := ⟨_, rfl⟩
  rw [← hr]
  have HR := Lib.hid hr; clear hr
  unfold AccD.cells
  have HF : Hid (r = false) := Lib.hid (by rw [HR.out]; simp [AccD.mayB]; omega)
  clear HR
  go_enter Try.func48, Try.ntmps48
  go_wp2
  go_ret
  exact ⟨by rw [HF.out]; rfl, (Below.refl _ _).alloc (Nat.le_refl _) _⟩
set_option maxRecDepth 100000 in
set_option maxHeartbeats 2000000 in
theorem may_plo (ki th pl ol ne : Int) (dn : Bool) (w : World) (h1 : 1 ≤ ki) (h2 : ki ≤ 5) (h3 : 0 ≤ th) (h4 : th ≤ 63) (h : pl < -1073741824) : Calls Try.prog 48 #[.agg (AccD.cells ⟨ki, th, pl, ol, ne, dn⟩)] w (TrueOr (AccD.mayB ⟨ki, th, pl, ol, ne, dn⟩) w) := by
  obtain ⟨r, hr⟩ : ∃ r, r = AccD.mayB ⟨ki, th, pl, ol, ne, dn⟩ := ⟨_, rfl⟩
  rw [← hr]
  have HR := Lib.hid hr; clear hr
  unfold AccD.cells
  have HF : Hid (r = false) := Lib.hid (by rw [HR.out]; simp [AccD.mayB]; omega)
  clear HR
  go_enter Try.func48, Try.ntmps48
  go_wp2
  go_ret
  exact ⟨by rw [HF.out]; rfl, (Below.refl _ _).alloc (Nat.le_refl _) _⟩
set_option maxRecDepth 100000 in
set_option maxHeartbeats 2000000 in
theorem may_phi (ki th pl ol ne : Int) (dn : Bool) (w : World) (h1 : 1 ≤ ki) (h2 : ki ≤ 5) (h3 : 0 ≤ th) (h4 : th ≤ 63) (h5 : -1073741824 ≤ pl) (h : 1073741824 < pl) : Calls Try.prog 48 #[.agg (AccD.cells ⟨ki, th, pl, ol, ne, dn⟩)] w (TrueOr (AccD.mayB ⟨ki, th, pl, ol, ne, dn⟩) w) := by
  obtain ⟨r, hr⟩ : ∃ r, r = AccD.mayB ⟨ki, th, pl, ol, ne, dn⟩ := ⟨_, rfl⟩
  rw [← hr]
  have HR := Lib.hid hr; clear hr
  unfold AccD.cells
  have HF : Hid (r = false) := Lib.hid (by rw [HR.out]; simp [AccD.mayB]; omega)
  clear HR
  go_enter Try.func48, Try.ntmps48
  go_wp2
  go_ret
  exact ⟨by rw [HF.out]; rfl, (Below.refl _ _).alloc (Nat.le_refl _) _⟩
set_option maxRecDepth 100000 in
set_option maxHeartbeats 2000000 in
theorem may_1n0 (th pl ol : Int) (dn : Bool) (w : World) (h3 : 0 ≤ th) (h4 : th ≤ 63) (h5 : -1073741824 ≤ pl) (h6 : pl ≤ 1073741824) : Calls Try.prog 48 #[.agg (AccD.cells ⟨1, th, pl, ol, 0, dn⟩)] w (TrueOr (AccD.mayB ⟨1, th, pl, ol, 0, dn⟩) w) := by
  obtain ⟨r, hr⟩ : ∃ r, r = AccD.mayB ⟨1, th, pl, ol, 0, dn⟩ := ⟨_, rfl⟩
  rw [← hr]
  have HR := Lib.hid hr; clear hr
  unfold AccD.cells
  have HF : Hid (r = true) := Lib.hid (by rw [HR.out]; simp [AccD.mayB]; omega)
  clear HR
  go_enter Try.func48, Try.ntmps48
  go_wp2
  go_ret
  exact ⟨by rw [HF.out]; first | rfl | simp, (Below.refl _ _).alloc (Nat.le_refl _) _⟩
set_option maxRecDepth 100000 in
set_option maxHeartbeats 2000000 in
theorem may_1n1 (th pl ol ne : Int) (dn : Bool) (w : World) (h3 : 0 ≤ th) (h4 : th ≤ 63) (h5 : -1073741824 ≤ pl) (h6 : pl ≤ 1073741824) (e2 : ¬ ne = 0) : Calls Try.prog 48 #[.agg (AccD.cells ⟨1, th, pl, ol, ne, dn⟩)] w (TrueOr (AccD.mayB ⟨1, th, pl, ol, ne, dn⟩) w) := by
  obtain ⟨r, hr⟩ : ∃ r, r = AccD.mayB ⟨1, th, pl, ol, ne, dn⟩ := ⟨_, rfl⟩
  rw [← hr]
  have HR := Lib.hid hr; clear hr
  unfold AccD.cells
  have HF : Hid (r = false) := Lib.hid (by rw [HR.out]; simp [AccD.mayB]; omega)
  have gne : (ne == 0) = false := by simp [e2]
  have kne : (ne != 0) = true := by simp [e2]
  clear e2
  clear HR
  go_enter Try.func48, Try.ntmps48
  go_wp2
  go_ret
  exact ⟨by rw [HF.out]; first | rfl | simp, (Below.refl _ _).alloc (Nat.le_refl _) _⟩
set_option maxRecDepth 100000 in
set_option maxHeartbeats 2000000 in
theorem may_2 (th pl ol ne : Int) (dn : Bool) (w : World) (h3 : 0 ≤ th) (h4 : th ≤ 63) (h5 : -1073741824 ≤ pl) (h6 : pl ≤ 1073741824) : Calls Try.prog 48 #[.agg (AccD.cells ⟨2, th, pl, ol, ne, dn⟩)] w (TrueOr (AccD.mayB ⟨2, th, pl, ol, ne, dn⟩) w) := by
  obtain ⟨r, hr⟩ : ∃ r, r = AccD.mayB ⟨2, th, pl, ol, ne, dn⟩ := ⟨_, rfl⟩
  rw [← hr]
  have HR := Lib.hid hr; clear hr
  unfold AccD.cells
  have HF : Hid (r = true) := Lib.hid (by rw [HR.out]; simp [AccD.mayB]; omega)
  clear HR
  go_enter Try.func48, Try.ntmps48
  go_wp2
  go_ret
  exact ⟨by rw [HF.out]; first | rfl | simp, (Below.refl _ _).alloc (Nat.le_refl _) _⟩
set_option maxRecDepth 100000 in
set_option maxHeartbeats 2000000 in
theorem may_3 (th pl ol ne : Int) (dn : Bool) (w : World) (h3 : 0 ≤ th) (h4 : th ≤ 63) (h5 : -1073741824 ≤ pl) (h6 : pl ≤ 1073741824) : Calls Try.prog 48 #[.agg (AccD.cells ⟨3, th, pl, ol, ne, dn⟩)] w (TrueOr (AccD.mayB ⟨3, th, pl, ol, ne, dn⟩) w) := by
  obtain ⟨r, hr⟩ : ∃ r, r = AccD.mayB ⟨3, th, pl, ol, ne, dn⟩ := ⟨_, rfl⟩
  rw [← hr]
  have HR := Lib.hid hr; clear hr
  unfold AccD.cells
  have HF : Hid (r = true) := Lib.hid (by rw [HR.out]; simp [AccD.mayB]; omega)
  clear HR
  go_enter Try.func48, Try.ntmps48
  go_wp2
  go_ret
  exact ⟨by rw [HF.out]; first | rfl | simp, (Below.refl _ _).alloc (Nat.le_refl _) _⟩
set_option maxRecDepth 100000 in
set_option maxHeartbeats 2000000 in
theorem may_4o0n0 (th pl : Int) (dn : Bool) (w : World) (h3 : 0 ≤ th) (h4 : th ≤ 63) (h5 : -1073741824 ≤ pl) (h6 : pl ≤ 1073741824) : Calls Try.prog 48 #[.agg (AccD.cells ⟨4, th, pl, 0, 0, dn⟩)] w (TrueOr (AccD.mayB ⟨4, th, pl, 0, 0, dn⟩) w) := by
  obtain ⟨r, hr⟩ : ∃ r, r = AccD.mayB ⟨4, th, pl, 0, 0, dn⟩ := ⟨_, rfl⟩
  rw [← hr]
  have HR := Lib.hid hr; clear hr
  unfold AccD.cells
  have HF : Hid (r = true) := Lib.hid (by rw [HR.out]; simp [AccD.mayB]; omega)
  clear HR
  go_enter Try.func48, Try.ntmps48
  go_wp2
  go_ret
  exact ⟨by rw [HF.out]; first | rfl | simp, (Below.refl _ _).alloc (Nat.le_refl _) _⟩
set_option maxRecDepth 100000 in
set_option maxHeartbeats 2000000 in
theorem may_4o0n1 (th pl ne : Int) (dn : Bool) (w : World) (h3 : 0 ≤ th) (h4 : th ≤ 63) (h5 : -1073741824 ≤ pl) (h6 : pl ≤ 1073741824) (e2 : ¬ ne = 0) : Calls Try.prog 48 #[.agg (AccD.cells ⟨4, th, pl, 0, ne, dn⟩)] w (TrueOr (AccD.mayB ⟨4, th, pl, 0, ne, dn⟩) w) := by
  obtain ⟨r, hr⟩ : ∃ r, r = AccD.mayB ⟨4, th, pl, 0, ne, dn⟩ := ⟨_, rfl⟩
  rw [← hr]
  have HR := Lib.hid hr; clear hr
  unfold AccD.cells
  have HF : Hid (r = false) := Lib.hid (by rw [HR.out]; simp [AccD.mayB]; omega)
  have gne : (ne == 0) = false := by simp [e2]
  have kne : (ne != 0) = true := by simp [e2]
  clear e2
  clear HR
  go_enter Try.func48, Try.ntmps48
  go_wp2
  go_ret
  exact ⟨by rw [HF.out]; first | rfl | simp, (Below.refl _ _).alloc (Nat.le_refl _) _⟩
set_option maxRecDepth 100000 in
set_option maxHeartbeats 2000000 in
theorem may_4o1n0 (th pl ol : Int) (dn : Bool) (w : World) (h3 : 0 ≤ th) (h4 : th ≤ 63) (h5 : -1073741824 ≤ pl) (h6 : pl ≤ 1073741824) (e1 : ¬ ol = 0) : Calls Try.prog 48 #[.agg (AccD.cells ⟨4, th, pl, ol, 0, dn⟩)] w (TrueOr (AccD.mayB ⟨4, th, pl, ol, 0, dn⟩) w) := by
  obtain ⟨r, hr⟩ : ∃ r, r = AccD.mayB ⟨4, th, pl, ol, 0, dn⟩ := ⟨_, rfl⟩
  rw [← hr]
  have HR := Lib.hid hr; clear hr
  unfold AccD.cells
  have HF : Hid (r = false) := Lib.hid (by rw [HR.out]; simp [AccD.mayB]; omega)
  have gol : (ol == 0) = false := by simp [e1]
  have kol : (ol != 0) = true := by simp [e1]
  clear e1
  clear HR
  go_enter Try.func48, Try.ntmps48
  go_wp2
  go_ret
  exact ⟨by rw [HF.out]; first | rfl | simp, (Below.refl _ _).alloc (Nat.le_refl _) _⟩
set_option maxRecDepth 100000 in
set_option maxHeartbeats 2000000 in
theorem may_4o1n1 (th pl ol ne : Int) (dn : Bool) (w : World) (h3 : 0 ≤ th) (h4 : th ≤ 63) (h5 : -1073741824 ≤ pl) (h6 : pl ≤ 1073741824) (e1 : ¬ ol = 0) (e2 : ¬ ne = 0) : Calls Try.prog 48 #[.agg (AccD.cells ⟨4, th, pl, ol, ne, dn⟩)] w (TrueOr (AccD.mayB ⟨4, th, pl, ol, ne, dn⟩) w) := by
  obtain ⟨r, hr⟩ : ∃ r, r = AccD.mayB ⟨4, th, pl, ol, ne, dn⟩ := ⟨_, rfl⟩
  rw [← hr]
  have HR := Lib.hid hr; clear hr
  unfold AccD.cells
  have HF : Hid (r = false) := Lib.hid (by rw [HR.out]; simp [AccD.mayB]; omega)
  have gol : (ol == 0) = false := by simp [e1]
  have kol : (ol != 0) = true := by simp [e1]
  clear e1
  have gne : (ne == 0) = false := by simp [e2]
  have kne : (ne != 0) = true := by simp [e2]
  clear e2
  clear HR
  go_enter Try.func48, Try.ntmps48
  go_wp2
  go_ret
  exact ⟨by rw [HF.out]; first | rfl | simp, (Below.refl _ _).alloc (Nat.le_refl _) _⟩
set_option maxRecDepth 100000 in
set_option maxHeartbeats 2000000 in
theorem may_5o0n0p0 (th : Int) (dn : Bool) (w : World) (h3 : 0 ≤ th) (h4 : th ≤ 63) : Calls Try.prog 48 #[.agg (AccD.cells ⟨5, th, 0, 0, 0, dn⟩)] w (TrueOr (AccD.mayB ⟨5, th, 0, 0, 0, dn⟩) w) := by
  obtain ⟨r, hr⟩ : ∃ r, r = AccD.mayB ⟨5, th, 0, 0, 0, dn⟩ := ⟨_, rfl⟩
  rw [← hr]
  have HR := Lib.hid hr; clear hr
  unfold AccD.cells
  have HF : Hid (r = true) := Lib.hid (by rw [HR.out]; simp [AccD.mayB]; omega)
  clear HR
  go_enter Try.func48, Try.ntmps48
  go_wp2
  go_ret
  exact ⟨by rw [HF.out]; first | rfl | simp, (Below.refl _ _).alloc (Nat.le_refl _) _⟩
set_option maxRecDepth 100000 in
set_option maxHeartbeats 2000000 in
theorem may_5o0n0p1 (th pl : Int) (dn : Bool) (w : World) (h3 : 0 ≤ th) (h4 : th ≤ 63) (h5 : -1073741824 ≤ pl) (h6 : pl ≤ 1073741824) (e3 : ¬ pl = 0) : Calls Try.prog 48 #[.agg (AccD.cells ⟨5, th, pl, 0, 0, dn⟩)] w (TrueOr (AccD.mayB ⟨5, th, pl, 0, 0, dn⟩) w) := by
  obtain ⟨r, hr⟩ : ∃ r, r = AccD.mayB ⟨5, th, pl, 0, 0, dn⟩ := ⟨_, rfl⟩
  rw [← hr]
  have HR := Lib.hid hr; clear hr
  unfold AccD.cells
  have HF : Hid (r = false) := Lib.hid (by rw [HR.out]; simp [AccD.mayB]; omega)
  have gpl : (pl == 0) = false := by simp [e3]
  have kpl : (pl != 0) = true := by simp [e3]
  clear e3
  clear HR
  go_enter Try.func48, Try.ntmps48
  go_wp2
  go_ret
  exact ⟨by rw [HF.out]; first | rfl | simp, (Below.refl _ _).alloc (Nat.le_refl _) _⟩
set_option maxRecDepth 100000 in
set_option maxHeartbeats 2000000 in
theorem may_5o0n1p0 (th ne : Int) (dn : Bool) (w : World) (h3 : 0 ≤ th) (h4 : th ≤ 63) (e2 : ¬ ne = 0) : Calls Try.prog 48 #[.agg (AccD.cells ⟨5, th, 0, 0, ne, dn⟩)] w (TrueOr (AccD.mayB ⟨5, th, 0, 0, ne, dn⟩) w) := by
  obtain ⟨r, hr⟩ : ∃ r, r = AccD.mayB ⟨5, th, 0, 0, ne, dn⟩ := ⟨_, rfl⟩
  rw [← hr]
  have HR := Lib.hid hr; clear hr
  unfold AccD.cells
  have HF : Hid (r = false) := Lib.hid (by rw [HR.out]; simp [AccD.mayB]; omega)
  have gne : (ne == 0) = false := by simp [e2]
  have kne : (ne != 0) = true := by simp [e2]
  clear e2
  clear HR
  go_enter Try.func48, Try.ntmps48
  go_wp2
  go_ret
  exact ⟨by rw [HF.out]; first | rfl | simp, (Below.refl _ _).alloc (Nat.le_refl _) _⟩
set_option maxRecDepth 100000 in
set_option maxHeartbeats 2000000 in
theorem may_5o0n1p1 (th pl ne : Int) (dn : Bool) (w : World) (h3 : 0 ≤ th) (h4 : th ≤ 63) (h5 : -1073741824 ≤ pl) (h6 : pl ≤ 1073741824) (e2 : ¬ ne = 0) (e3 : ¬ pl = 0) : Calls Try.prog 48 #[.agg (AccD.cells ⟨5, th, pl, 0, ne, dn⟩)] w (TrueOr (AccD.mayB ⟨5, th, pl, 0, ne, dn⟩) w) := by
  obtain ⟨r, hr⟩ : ∃ r, r = AccD.mayB ⟨5, th, pl, 0, ne, dn⟩ := ⟨_, rfl⟩
  rw [← hr]
  have HR := Lib.hid hr; clear hr
  unfold AccD.cells
  have HF : Hid (r = false) := Lib.hid (by rw [HR.out]; simp [AccD.mayB]; omega)
  have gne : (ne == 0) = false := by simp [e2]
  have kne : (ne != 0) = true := by simp [e2]
  clear e2
  have gpl : (pl == 0) = false := by simp [e3]
  have kpl : (pl != 0) = true := by simp [e3]
  clear e3
  clear HR
  go_enter Try.func48, Try.ntmps48
  go_wp2
  go_ret
  exact ⟨by rw [HF.out]; first | rfl | simp, (Below.refl _ _).alloc (Nat.le_refl _) _⟩
set_option maxRecDepth 100000 in
set_option maxHeartbeats 2000000 in
theorem may_5o1n0p0 (th ol : Int) (dn : Bool) (w : World) (h3 : 0 ≤ th) (h4 : th ≤ 63) (e1 : ¬ ol = 0) : Calls Try.prog 48 #[.agg (AccD.cells ⟨5, th, 0, ol, 0, dn⟩)] w (TrueOr (AccD.mayB ⟨5, th, 0, ol, 0, dn⟩) w) := by
  obtain ⟨r, hr⟩ : ∃ r, r = AccD.mayB ⟨5, th, 0, ol, 0, dn⟩ := ⟨_, rfl⟩
  rw [← hr]
  have HR := Lib.hid hr; clear hr
  unfold AccD.cells
  have HF : Hid (r = false) := Lib.hid (by rw [HR.out]; simp [AccD.mayB]; omega)
  have gol : (ol == 0) = false := by simp [e1]
  have kol : (ol != 0) = true := by simp [e1]
  clear e1
  clear HR
  go_enter Try.func48, Try.ntmps48
  go_wp2
  go_ret
  exact ⟨by rw [HF.out]; first | rfl | simp, (Below.refl _ _).alloc (Nat.le_refl _) _⟩
set_option maxRecDepth 100000 in
set_option maxHeartbeats 2000000 in
theorem may_5o1n0p1 (th pl ol : Int) (dn : Bool) (w : World) (h3 : 0 ≤ th) (h4 : th ≤ 63) (h5 : -1073741824 ≤ pl) (h6 : pl ≤ 1073741824) (e1 : ¬ ol = 0) (e3 : ¬ pl = 0) : Calls Try.prog 48 #[.agg (AccD.cells ⟨5, th, pl, ol, 0, dn⟩)] w (TrueOr (AccD.mayB ⟨5, th, pl, ol, 0, dn⟩) w) := by
  obtain ⟨r, hr⟩ : ∃ r, r = AccD.mayB ⟨5, th, pl, ol, 0, dn⟩ := ⟨_, rfl⟩
  rw [← hr]
  have HR := Lib.hid hr; clear hr
  unfold AccD.cells
  have HF : Hid (r = false) := Lib.hid (by rw [HR.out]; simp [AccD.mayB]; omega)
  have gol : (ol == 0) = false := by simp [e1]
  have kol : (ol != 0) = true := by simp [e1]
  clear e1
  have gpl : (pl == 0) = false := by simp [e3]
  have kpl : (pl != 0) = true := by simp [e3]
  clear e3
  clear HR
  go_enter Try.func48, Try.ntmps48
  go_wp2
  go_ret
  exact ⟨by rw [HF.out]; first | rfl | simp, (Below.refl _ _).alloc (Nat.le_refl _) _⟩
set_option maxRecDepth 100000 in
set_option maxHeartbeats 2000000 in
theorem may_5o1n1p0 (th ol ne : Int) (dn : Bool) (w : World) (h3 : 0 ≤ th) (h4 : th ≤ 63) (e1 : ¬ ol = 0) (e2 : ¬ ne = 0) : Calls Try.prog 48 #[.agg (AccD.cells ⟨5, th, 0, ol, ne, dn⟩)] w (TrueOr (AccD.mayB ⟨5, th, 0, ol, ne, dn⟩) w) := by
  obtain ⟨r, hr⟩ : ∃ r, r = AccD.mayB ⟨5, th, 0, ol, ne, dn⟩ := ⟨_, rfl⟩
  rw [← hr]
  have HR := Lib.hid hr; clear hr
  unfold AccD.cells
  have HF : Hid (r = false) := Lib.hid (by rw [HR.out]; simp [AccD.mayB]; omega)
  have gol : (ol == 0) = false := by simp [e1]
  have kol : (ol != 0) = true := by simp [e1]
  clear e1
  have gne : (ne == 0) = false := by simp [e2]
  have kne : (ne != 0) = true := by simp [e2]
  clear e2
  clear HR
  go_enter Try.func48, Try.ntmps48
  go_wp2
  go_ret
  exact ⟨by rw [HF.out]; first | rfl | simp, (Below.refl _ _).alloc (Nat.le_refl _) _⟩
set_option maxRecDepth 100000 in
set_option maxHeartbeats 2000000 in
theorem may_5o1n1p1 (th pl ol ne : Int) (dn : Bool) (w : World) (h3 : 0 ≤ th) (h4 : th ≤ 63) (h5 : -1073741824 ≤ pl) (h6 : pl ≤ 1073741824) (e1 : ¬ ol = 0) (e2 : ¬ ne = 0) (e3 : ¬ pl = 0) : Calls Try.prog 48 #[.agg (AccD.cells ⟨5, th, pl, ol, ne, dn⟩)] w (TrueOr (AccD.mayB ⟨5, th, pl, ol, ne, dn⟩) w) := by
  obtain ⟨r, hr⟩ : ∃ r, r = AccD.mayB ⟨5, th, pl, ol, ne, dn⟩ := ⟨_, rfl⟩
  rw [← hr]
  have HR := Lib.hid hr; clear hr
  unfold AccD.cells
  have HF : Hid (r = false) := Lib.hid (by rw [HR.out]; simp [AccD.mayB]; omega)
  have gol : (ol == 0) = false := by simp [e1]
  have kol : (ol != 0) = true := by simp [e1]
  clear e1
  have gne : (ne == 0) = false := by simp [e2]
  have kne : (ne != 0) = true := by simp [e2]
  clear e2
  have gpl : (pl == 0) = false := by simp [e3]
  have kpl : (pl != 0) = true := by simp [e3]
  clear e3
  clear HR
  go_enter Try.func48, Try.ntmps48
  go_wp2
  go_ret
  exact ⟨by rw [HF.out]; first | rfl | simp, (Below.refl _ _).alloc (Nat.le_refl _) _⟩
theorem may_acc (x : AccD) (w : World) : Calls Try.prog 48 #[.agg x.cells] w (TrueOr x.mayB w) := by
  obtain ⟨ki, th, pl, ol, ne, dn⟩ := x
  by_cases a1 : ki < 1
  · exact may_lo ki th pl ol ne dn w a1
  by_cases a2 : 5 < ki
  · exact may_hi ki th pl ol ne dn w a2 a1
  by_cases a3 : th < 0
  · exact may_tlo ki th pl ol ne dn w (by omega) (by omega) a3
  by_cases a4 : 63 < th
  · exact may_thi ki th pl ol ne dn w (by omega) (by omega) (by omega) a4
  by_cases a5 : pl < -1073741824
  · exact may_plo ki th pl ol ne dn w (by omega) (by omega) (by omega) (by omega) a5
  by_cases a6 : 1073741824 < pl
  · exact may_phi ki th pl ol ne dn w (by omega) (by omega) (by omega) (by omega) (by omega) a6
  have b3 : 0 ≤ th := by omega
  have b4 : th ≤ 63 := by omega
  have b5 : -1073741824 ≤ pl := by omega
  have b6 : pl ≤ 1073741824 := by omega
  rcases (show ki = 1 ∨ ki = 2 ∨ ki = 3 ∨ ki = 4 ∨ ki = 5 by omega) with rfl | rfl | rfl | rfl | rfl
  · skip
    by_cases e2 : ne = 0
    · subst e2
      exact may_1n0 th pl ol dn w b3 b4 b5 b6
    · skip
      exact may_1n1 th pl ol ne dn w b3 b4 b5 b6 e2
  · skip
    exact may_2 th pl ol ne dn w b3 b4 b5 b6
  · skip
    exact may_3 th pl ol ne dn w b3 b4 b5 b6
  · skip
    by_cases e1 : ol = 0
    · subst e1
      by_cases e2 : ne = 0
      · subst e2
        exact may_4o0n0 th pl dn w b3 b4 b5 b6
      · skip
        exact may_4o0n1 th pl ne dn w b3 b4 b5 b6 e2
    · skip
      by_cases e2 : ne = 0
      · subst e2
        exact may_4o1n0 th pl ol dn w b3 b4 b5 b6 e1
      · skip
        exact may_4o1n1 th pl ol ne dn w b3 b4 b5 b6 e1 e2
  · skip
    by_cases e1 : ol = 0
    · subst e1
      by_cases e2 : ne = 0
      · subst e2
        by_cases e3 : pl = 0
        · subst e3
          exact may_5o0n0p0 th dn w b3 b4
        · skip
          exact may_5o0n0p1 th pl dn w b3 b4 b5 b6 e3
      · skip
        by_cases e3 : pl = 0
        · subst e3
          exact may_5o0n1p0 th ne dn w b3 b4 e2
        · skip
          exact may_5o0n1p1 th pl ne dn w b3 b4 b5 b6 e2 e3
    · skip
      by_cases e2 : ne = 0
      · subst e2
        by_cases e3 : pl = 0
        · subst e3
          exact may_5o1n0p0 th ol dn w b3 b4 e1
        · skip
          exact may_5o1n0p1 th pl ol dn w b3 b4 b5 b6 e1 e3
      · skip
        by_cases e3 : pl = 0
        · subst e3
          exact may_5o1n1p0 th ol ne dn w b3 b4 e1 e2
        · skip
          exact may_5o1n1p1 th pl ol ne dn w b3 b4 b5 b6 e1 e2 e3

theorem neq50 (x : AccD) (w : World) : (binOp .neq 50 (.agg x.cells) (.agg x.cells)).run Try.prog w = .ok (.bool false) w := by
  simp only [AccD.cells]
  go_simp

set_option maxRecDepth 100000 in
set_option maxHeartbeats 2000000 in
theorem sameAccs_any (a1 a2 : Option Addr) (n k1 k2 : Nat) (c : Nat → AccD) (w : World) (h1 : AccsAt w a1 n k1 c) (h2 : AccsAt w a2 n k2 c) :
    Calls Try.prog 51 #[.slice a1 n k1, .slice a2 n k2] w (TrueOn w) := by
  obtain ⟨q1, q2, g1⟩ := h1
  obtain ⟨q3, q4, g2⟩ := h2
  unfold maxLen at q2 q4
  have H1 := Lib.hid g1
  have H2 := Lib.hid g2
  clear g1 g2
  go_enter Try.func51, Try.ntmps51
  go_wp2_with fail
  go_loopw [5] (fun i wr => ∃ k : Nat, k ≤ n ∧ i = .int .i64 k ∧ ∃ q, wr = w.drewN q) (fun i _ => n - (intOf i).toNat)
  case atStart => exact ⟨0, Nat.zero_le _, rfl, 0, rfl⟩
  case round =>
    obtain ⟨k, hk, rfl, q, rfl⟩ := hrel
    by_cases hkn : k < n
    · obtain ⟨b1, o1, rfl, hb1, hc1⟩ := H1.out k hkn
      obtain ⟨b2, o2, rfl, hb2, hc2⟩ := H2.out k hkn
      obtain ⟨x0, x1, x2, x3, x4, x5⟩ := hc1
      obtain ⟨y0, y1, y2, y3, y4, y5⟩ := hc2
      have hq := fun w => neq50 (c k) w
      simp only [AccD.cells] at hq
      clear hb1 hb2
      have k0 : (0 : Int) ≤ (k : Int) := by omega
      have k1 : (k : Int) < (n : Int) := by omega
      generalize c k = x at *
      go_wp2_with fail
      go_quiet (fail)
      go_wp2_with fail
      go_roundw
      case rel => exact ⟨k + 1, by omega, by go_num, _, rfl⟩
      case measure => simp [intOf]; omega
    · obtain rfl : k = n := by omega
      go_wp2_with fail
      go_ret
      exact ⟨rfl, (Below.refl _ _).trans ⟨rfl, rfl, rfl, Nat.le_refl _, fun _ _ => rfl⟩⟩
end Go.Proofs.Ytfjddkjfkgdihaa
