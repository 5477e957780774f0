/- Walks of Tally.one, case by case (printed by w2.py). -/
import Derived.Test.YtfjddkjfkgdihaaW2
import Derived.Laws.Pointers
import Derived.RegionTactic
import Derived.BigRegion
import Derived.ChangeAlike
import Derived.BigQuiet
namespace Go.Proofs.Ytfjddkjfkgdihaa
open Go.RowKit Go.BigFrame
set_option linter.unusedVariables false
set_option linter.unusedSimpArgs false

set_option maxRecDepth 100000 in
set_option maxHeartbeats 4000000 in
theorem one_3fneg_hi (b g n : Nat) (F T : Nat → Int) (th pl ol ne : Int) (w : World) (H : TallyAt w b F g n T) (hn : n ≤ 64) (hF : ∀ j, j < 9 → 0 ≤ F j ∧ F j < 1000) (hT : ∀ j, j < n → 0 ≤ T j ∧ T j < 1000) (p0 : pl < 0) (t0 : (n : Int) ≤ th) (t1 : 0 ≤ th) :
    Calls Try.prog 57 #[.pointer (some ⟨b, 0, none⟩), .agg (AccD.cells ⟨3, th, pl, ol, ne, false⟩)] w (OneTo b F g n T ⟨3, th, pl, ol, ne, false⟩ w) := by
  have c0 := H.cell 0 (by decide)
  obtain ⟨l0, u0⟩ := hF 0 (by decide)
  have c1 := H.cell 1 (by decide)
  obtain ⟨l1, u1⟩ := hF 1 (by decide)
  have c2 := H.cell 2 (by decide)
  obtain ⟨l2, u2⟩ := hF 2 (by decide)
  have c3 := H.cell 3 (by decide)
  obtain ⟨l3, u3⟩ := hF 3 (by decide)
  have c4 := H.cell 4 (by decide)
  obtain ⟨l4, u4⟩ := hF 4 (by decide)
  have c5 := H.cell 5 (by decide)
  obtain ⟨l5, u5⟩ := hF 5 (by decide)
  have c6 := H.cell 6 (by decide)
  obtain ⟨l6, u6⟩ := hF 6 (by decide)
  have c7 := H.cell 7 (by decide)
  obtain ⟨l7, u7⟩ := hF 7 (by decide)
  have c8 := H.cell 8 (by decide)
  obtain ⟨l8, u8⟩ := hF 8 (by decide)
  have c9 := H.list
  have hb := H.lt
  have hg := H.lt2
  have z := H.free
  have z2 := H.free2
  have ne1 := H.ne
  have ne2 := Ne.symm H.ne
  have q1 : decide (th < (n : Int)) = false := by simp; omega
  have HH := Lib.hid H
  clear H hF hT
  unfold AccD.cells
  go_enter Try.func57, Try.ntmps57
  go_wp2
  go_region
  all_goals go_wp2
  go_quiet (fail)
  go_wp2
  go_end0
  refine ⟨rfl, ((((((But.refl b g w).set1 3 _).set1 6 _).set1 8 _).alloc _).drew.drewN _), TallyAt.congr (((((HH.out.setF 3 _ (by decide)).setF 6 _ (by decide)).setF 8 _ (by decide)).alloc _).drew.drewN _) ?_ ?_⟩
  · exact fun j hj => k3fneg_F F _ _ _ _ true j hj  p0
  · exact fun j hj => th_out T th n j hj (by omega)
set_option maxRecDepth 100000 in
set_option maxHeartbeats 4000000 in
theorem one_3fpos_in (b g n : Nat) (F T : Nat → Int) (th pl ol ne : Int) (w : World) (H : TallyAt w b F g n T) (hn : n ≤ 64) (hF : ∀ j, j < 9 → 0 ≤ F j ∧ F j < 1000) (hT : ∀ j, j < n → 0 ≤ T j ∧ T j < 1000) (p0 : 0 ≤ pl) (t0 : 0 ≤ th) (t1 : th < n) :
    Calls Try.prog 57 #[.pointer (some ⟨b, 0, none⟩), .agg (AccD.cells ⟨3, th, pl, ol, ne, false⟩)] w (OneTo b F g n T ⟨3, th, pl, ol, ne, false⟩ w) := by
  have c0 := H.cell 0 (by decide)
  obtain ⟨l0, u0⟩ := hF 0 (by decide)
  have c1 := H.cell 1 (by decide)
  obtain ⟨l1, u1⟩ := hF 1 (by decide)
  have c2 := H.cell 2 (by decide)
  obtain ⟨l2, u2⟩ := hF 2 (by decide)
  have c3 := H.cell 3 (by decide)
  obtain ⟨l3, u3⟩ := hF 3 (by decide)
  have c4 := H.cell 4 (by decide)
  obtain ⟨l4, u4⟩ := hF 4 (by decide)
  have c5 := H.cell 5 (by decide)
  obtain ⟨l5, u5⟩ := hF 5 (by decide)
  have c6 := H.cell 6 (by decide)
  obtain ⟨l6, u6⟩ := hF 6 (by decide)
  have c7 := H.cell 7 (by decide)
  obtain ⟨l7, u7⟩ := hF 7 (by decide)
  have c8 := H.cell 8 (by decide)
  obtain ⟨l8, u8⟩ := hF 8 (by decide)
  have c9 := H.list
  have hb := H.lt
  have hg := H.lt2
  have z := H.free
  have z2 := H.free2
  have ne1 := H.ne
  have ne2 := Ne.symm H.ne
  obtain ⟨m, rfl⟩ := Int.eq_ofNat_of_zero_le t0
  have ct := H.cell2 m (by omega)
  obtain ⟨lt, ut⟩ := hT m (by omega)
  have hmn : m < n := by omega
  have q1 : decide ((m : Int) < (n : Int)) = true := by simp; omega
  have q2 : decide (m < n) = true := by simp; omega
  have HH := Lib.hid H
  clear H hF hT
  unfold AccD.cells
  go_enter Try.func57, Try.ntmps57
  go_wp2
  go_region
  all_goals go_wp2
  go_quiet (fail)
  go_wp2
  go_region
  all_goals go_wp2
  go_end0
  refine ⟨rfl, (((((((But.refl b g w).set1 3 _).set1 6 _).set1 7 _).alloc _).drewN _).set2 m _), TallyAt.congr ((((((HH.out.setF 3 _ (by decide)).setF 6 _ (by decide)).setF 7 _ (by decide)).alloc _).drewN _).setT m _) ?_ ?_⟩
  · exact fun j hj => k3fpos_F F _ _ _ _ true j hj  p0
  · exact fun j hj => th_in T m j
set_option maxRecDepth 100000 in
set_option maxHeartbeats 4000000 in
theorem one_3fpos_lo (b g n : Nat) (F T : Nat → Int) (th pl ol ne : Int) (w : World) (H : TallyAt w b F g n T) (hn : n ≤ 64) (hF : ∀ j, j < 9 → 0 ≤ F j ∧ F j < 1000) (hT : ∀ j, j < n → 0 ≤ T j ∧ T j < 1000) (p0 : 0 ≤ pl) (t0 : th < 0) :
    Calls Try.prog 57 #[.pointer (some ⟨b, 0, none⟩), .agg (AccD.cells ⟨3, th, pl, ol, ne, false⟩)] w (OneTo b F g n T ⟨3, th, pl, ol, ne, false⟩ w) := by
  have c0 := H.cell 0 (by decide)
  obtain ⟨l0, u0⟩ := hF 0 (by decide)
  have c1 := H.cell 1 (by decide)
  obtain ⟨l1, u1⟩ := hF 1 (by decide)
  have c2 := H.cell 2 (by decide)
  obtain ⟨l2, u2⟩ := hF 2 (by decide)
  have c3 := H.cell 3 (by decide)
  obtain ⟨l3, u3⟩ := hF 3 (by decide)
  have c4 := H.cell 4 (by decide)
  obtain ⟨l4, u4⟩ := hF 4 (by decide)
  have c5 := H.cell 5 (by decide)
  obtain ⟨l5, u5⟩ := hF 5 (by decide)
  have c6 := H.cell 6 (by decide)
  obtain ⟨l6, u6⟩ := hF 6 (by decide)
  have c7 := H.cell 7 (by decide)
  obtain ⟨l7, u7⟩ := hF 7 (by decide)
  have c8 := H.cell 8 (by decide)
  obtain ⟨l8, u8⟩ := hF 8 (by decide)
  have c9 := H.list
  have hb := H.lt
  have hg := H.lt2
  have z := H.free
  have z2 := H.free2
  have ne1 := H.ne
  have ne2 := Ne.symm H.ne
  have q1 : decide (0 ≤ th) = false := by simp; omega
  have HH := Lib.hid H
  clear H hF hT
  unfold AccD.cells
  go_enter Try.func57, Try.ntmps57
  go_wp2
  go_region
  all_goals go_wp2
  go_quiet (fail)
  go_wp2
  go_end0
  refine ⟨rfl, ((((((But.refl b g w).set1 3 _).set1 6 _).set1 7 _).alloc _).drew.drewN _), TallyAt.congr (((((HH.out.setF 3 _ (by decide)).setF 6 _ (by decide)).setF 7 _ (by decide)).alloc _).drew.drewN _) ?_ ?_⟩
  · exact fun j hj => k3fpos_F F _ _ _ _ true j hj  p0
  · exact fun j hj => th_out T th n j hj (by omega)
set_option maxRecDepth 100000 in
set_option maxHeartbeats 4000000 in
theorem one_3fpos_hi (b g n : Nat) (F T : Nat → Int) (th pl ol ne : Int) (w : World) (H : TallyAt w b F g n T) (hn : n ≤ 64) (hF : ∀ j, j < 9 → 0 ≤ F j ∧ F j < 1000) (hT : ∀ j, j < n → 0 ≤ T j ∧ T j < 1000) (p0 : 0 ≤ pl) (t0 : (n : Int) ≤ th) (t1 : 0 ≤ th) :
    Calls Try.prog 57 #[.pointer (some ⟨b, 0, none⟩), .agg (AccD.cells ⟨3, th, pl, ol, ne, false⟩)] w (OneTo b F g n T ⟨3, th, pl, ol, ne, false⟩ w) := by
  have c0 := H.cell 0 (by decide)
  obtain ⟨l0, u0⟩ := hF 0 (by decide)
  have c1 := H.cell 1 (by decide)
  obtain ⟨l1, u1⟩ := hF 1 (by decide)
  have c2 := H.cell 2 (by decide)
  obtain ⟨l2, u2⟩ := hF 2 (by decide)
  have c3 := H.cell 3 (by decide)
  obtain ⟨l3, u3⟩ := hF 3 (by decide)
  have c4 := H.cell 4 (by decide)
  obtain ⟨l4, u4⟩ := hF 4 (by decide)
  have c5 := H.cell 5 (by decide)
  obtain ⟨l5, u5⟩ := hF 5 (by decide)
  have c6 := H.cell 6 (by decide)
  obtain ⟨l6, u6⟩ := hF 6 (by decide)
  have c7 := H.cell 7 (by decide)
  obtain ⟨l7, u7⟩ := hF 7 (by decide)
  have c8 := H.cell 8 (by decide)
  obtain ⟨l8, u8⟩ := hF 8 (by decide)
  have c9 := H.list
  have hb := H.lt
  have hg := H.lt2
  have z := H.free
  have z2 := H.free2
  have ne1 := H.ne
  have ne2 := Ne.symm H.ne
  have q1 : decide (th < (n : Int)) = false := by simp; omega
  have HH := Lib.hid H
  clear H hF hT
  unfold AccD.cells
  go_enter Try.func57, Try.ntmps57
  go_wp2
  go_region
  all_goals go_wp2
  go_quiet (fail)
  go_wp2
  go_end0
  refine ⟨rfl, ((((((But.refl b g w).set1 3 _).set1 6 _).set1 7 _).alloc _).drew.drewN _), TallyAt.congr (((((HH.out.setF 3 _ (by decide)).setF 6 _ (by decide)).setF 7 _ (by decide)).alloc _).drew.drewN _) ?_ ?_⟩
  · exact fun j hj => k3fpos_F F _ _ _ _ true j hj  p0
  · exact fun j hj => th_out T th n j hj (by omega)
set_option maxRecDepth 100000 in
set_option maxHeartbeats 4000000 in
theorem one_3tneg_in (b g n : Nat) (F T : Nat → Int) (th pl ol ne : Int) (w : World) (H : TallyAt w b F g n T) (hn : n ≤ 64) (hF : ∀ j, j < 9 → 0 ≤ F j ∧ F j < 1000) (hT : ∀ j, j < n → 0 ≤ T j ∧ T j < 1000) (p0 : pl < 0) (t0 : 0 ≤ th) (t1 : th < n) :
    Calls Try.prog 57 #[.pointer (some ⟨b, 0, none⟩), .agg (AccD.cells ⟨3, th, pl, ol, ne, true⟩)] w (OneTo b F g n T ⟨3, th, pl, ol, ne, true⟩ w) := by
  have c0 := H.cell 0 (by decide)
  obtain ⟨l0, u0⟩ := hF 0 (by decide)
  have c1 := H.cell 1 (by decide)
  obtain ⟨l1, u1⟩ := hF 1 (by decide)
  have c2 := H.cell 2 (by decide)
  obtain ⟨l2, u2⟩ := hF 2 (by decide)
  have c3 := H.cell 3 (by decide)
  obtain ⟨l3, u3⟩ := hF 3 (by decide)
  have c4 := H.cell 4 (by decide)
  obtain ⟨l4, u4⟩ := hF 4 (by decide)
  have c5 := H.cell 5 (by decide)
  obtain ⟨l5, u5⟩ := hF 5 (by decide)
  have c6 := H.cell 6 (by decide)
  obtain ⟨l6, u6⟩ := hF 6 (by decide)
  have c7 := H.cell 7 (by decide)
  obtain ⟨l7, u7⟩ := hF 7 (by decide)
  have c8 := H.cell 8 (by decide)
  obtain ⟨l8, u8⟩ := hF 8 (by decide)
  have c9 := H.list
  have hb := H.lt
  have hg := H.lt2
  have z := H.free
  have z2 := H.free2
  have ne1 := H.ne
  have ne2 := Ne.symm H.ne
  obtain ⟨m, rfl⟩ := Int.eq_ofNat_of_zero_le t0
  have ct := H.cell2 m (by omega)
  obtain ⟨lt, ut⟩ := hT m (by omega)
  have hmn : m < n := by omega
  have q1 : decide ((m : Int) < (n : Int)) = true := by simp; omega
  have q2 : decide (m < n) = true := by simp; omega
  have HH := Lib.hid H
  clear H hF hT
  unfold AccD.cells
  go_enter Try.func57, Try.ntmps57
  go_wp2
  go_region
  all_goals go_wp2
  go_quiet (fail)
  go_wp2
  go_region
  all_goals go_wp2
  go_end0
  refine ⟨rfl, ((((((But.refl b g w).set1 3 _).set1 8 _).alloc _).drewN _).set2 m _), TallyAt.congr (((((HH.out.setF 3 _ (by decide)).setF 8 _ (by decide)).alloc _).drewN _).setT m _) ?_ ?_⟩
  · exact fun j hj => k3tneg_F F _ _ _ _ true j hj  p0
  · exact fun j hj => th_in T m j
set_option maxRecDepth 100000 in
set_option maxHeartbeats 4000000 in
theorem one_3tneg_lo (b g n : Nat) (F T : Nat → Int) (th pl ol ne : Int) (w : World) (H : TallyAt w b F g n T) (hn : n ≤ 64) (hF : ∀ j, j < 9 → 0 ≤ F j ∧ F j < 1000) (hT : ∀ j, j < n → 0 ≤ T j ∧ T j < 1000) (p0 : pl < 0) (t0 : th < 0) :
    Calls Try.prog 57 #[.pointer (some ⟨b, 0, none⟩), .agg (AccD.cells ⟨3, th, pl, ol, ne, true⟩)] w (OneTo b F g n T ⟨3, th, pl, ol, ne, true⟩ w) := by
  have c0 := H.cell 0 (by decide)
  obtain ⟨l0, u0⟩ := hF 0 (by decide)
  have c1 := H.cell 1 (by decide)
  obtain ⟨l1, u1⟩ := hF 1 (by decide)
  have c2 := H.cell 2 (by decide)
  obtain ⟨l2, u2⟩ := hF 2 (by decide)
  have c3 := H.cell 3 (by decide)
  obtain ⟨l3, u3⟩ := hF 3 (by decide)
  have c4 := H.cell 4 (by decide)
  obtain ⟨l4, u4⟩ := hF 4 (by decide)
  have c5 := H.cell 5 (by decide)
  obtain ⟨l5, u5⟩ := hF 5 (by decide)
  have c6 := H.cell 6 (by decide)
  obtain ⟨l6, u6⟩ := hF 6 (by decide)
  have c7 := H.cell 7 (by decide)
  obtain ⟨l7, u7⟩ := hF 7 (by decide)
  have c8 := H.cell 8 (by decide)
  obtain ⟨l8, u8⟩ := hF 8 (by decide)
  have c9 := H.list
  have hb := H.lt
  have hg := H.lt2
  have z := H.free
  have z2 := H.free2
  have ne1 := H.ne
  have ne2 := Ne.symm H.ne
  have q1 : decide (0 ≤ th) = false := by simp; omega
  have HH := Lib.hid H
  clear H hF hT
  unfold AccD.cells
  go_enter Try.func57, Try.ntmps57
  go_wp2
  go_region
  all_goals go_wp2
  go_quiet (fail)
  go_wp2
  go_end0
  refine ⟨rfl, (((((But.refl b g w).set1 3 _).set1 8 _).alloc _).drew.drewN _), TallyAt.congr ((((HH.out.setF 3 _ (by decide)).setF 8 _ (by decide)).alloc _).drew.drewN _) ?_ ?_⟩
  · exact fun j hj => k3tneg_F F _ _ _ _ true j hj  p0
  · exact fun j hj => th_out T th n j hj (by omega)
set_option maxRecDepth 100000 in
set_option maxHeartbeats 4000000 in
theorem one_3tneg_hi (b g n : Nat) (F T : Nat → Int) (th pl ol ne : Int) (w : World) (H : TallyAt w b F g n T) (hn : n ≤ 64) (hF : ∀ j, j < 9 → 0 ≤ F j ∧ F j < 1000) (hT : ∀ j, j < n → 0 ≤ T j ∧ T j < 1000) (p0 : pl < 0) (t0 : (n : Int) ≤ th) (t1 : 0 ≤ th) :
    Calls Try.prog 57 #[.pointer (some ⟨b, 0, none⟩), .agg (AccD.cells ⟨3, th, pl, ol, ne, true⟩)] w (OneTo b F g n T ⟨3, th, pl, ol, ne, true⟩ w) := by
  have c0 := H.cell 0 (by decide)
  obtain ⟨l0, u0⟩ := hF 0 (by decide)
  have c1 := H.cell 1 (by decide)
  obtain ⟨l1, u1⟩ := hF 1 (by decide)
  have c2 := H.cell 2 (by decide)
  obtain ⟨l2, u2⟩ := hF 2 (by decide)
  have c3 := H.cell 3 (by decide)
  obtain ⟨l3, u3⟩ := hF 3 (by decide)
  have c4 := H.cell 4 (by decide)
  obtain ⟨l4, u4⟩ := hF 4 (by decide)
  have c5 := H.cell 5 (by decide)
  obtain ⟨l5, u5⟩ := hF 5 (by decide)
  have c6 := H.cell 6 (by decide)
  obtain ⟨l6, u6⟩ := hF 6 (by decide)
  have c7 := H.cell 7 (by decide)
  obtain ⟨l7, u7⟩ := hF 7 (by decide)
  have c8 := H.cell 8 (by decide)
  obtain ⟨l8, u8⟩ := hF 8 (by decide)
  have c9 := H.list
  have hb := H.lt
  have hg := H.lt2
  have z := H.free
  have z2 := H.free2
  have ne1 := H.ne
  have ne2 := Ne.symm H.ne
  have q1 : decide (th < (n : Int)) = false := by simp; omega
  have HH := Lib.hid H
  clear H hF hT
  unfold AccD.cells
  go_enter Try.func57, Try.ntmps57
  go_wp2
  go_region
  all_goals go_wp2
  go_quiet (fail)
  go_wp2
  go_end0
  refine ⟨rfl, (((((But.refl b g w).set1 3 _).set1 8 _).alloc _).drew.drewN _), TallyAt.congr ((((HH.out.setF 3 _ (by decide)).setF 8 _ (by decide)).alloc _).drew.drewN _) ?_ ?_⟩
  · exact fun j hj => k3tneg_F F _ _ _ _ true j hj  p0
  · exact fun j hj => th_out T th n j hj (by omega)
set_option maxRecDepth 100000 in
set_option maxHeartbeats 4000000 in
theorem one_3tpos_in (b g n : Nat) (F T : Nat → Int) (th pl ol ne : Int) (w : World) (H : TallyAt w b F g n T) (hn : n ≤ 64) (hF : ∀ j, j < 9 → 0 ≤ F j ∧ F j < 1000) (hT : ∀ j, j < n → 0 ≤ T j ∧ T j < 1000) (p0 : 0 ≤ pl) (t0 : 0 ≤ th) (t1 : th < n) :
    Calls Try.prog 57 #[.pointer (some ⟨b, 0, none⟩), .agg (AccD.cells ⟨3, th, pl, ol, ne, true⟩)] w (OneTo b F g n T ⟨3, th, pl, ol, ne, true⟩ w) := by
  have c0 := H.cell 0 (by decide)
  obtain ⟨l0, u0⟩ := hF 0 (by decide)
  have c1 := H.cell 1 (by decide)
  obtain ⟨l1, u1⟩ := hF 1 (by decide)
  have c2 := H.cell 2 (by decide)
  obtain ⟨l2, u2⟩ := hF 2 (by decide)
  have c3 := H.cell 3 (by decide)
  obtain ⟨l3, u3⟩ := hF 3 (by decide)
  have c4 := H.cell 4 (by decide)
  obtain ⟨l4, u4⟩ := hF 4 (by decide)
  have c5 := H.cell 5 (by decide)
  obtain ⟨l5, u5⟩ := hF 5 (by decide)
  have c6 := H.cell 6 (by decide)
  obtain ⟨l6, u6⟩ := hF 6 (by decide)
  have c7 := H.cell 7 (by decide)
  obtain ⟨l7, u7⟩ := hF 7 (by decide)
  have c8 := H.cell 8 (by decide)
  obtain ⟨l8, u8⟩ := hF 8 (by decide)
  have c9 := H.list
  have hb := H.lt
  have hg := H.lt2
  have z := H.free
  have z2 := H.free2
  have ne1 := H.ne
  have ne2 := Ne.symm H.ne
  obtain ⟨m, rfl⟩ := Int.eq_ofNat_of_zero_le t0
  have ct := H.cell2 m (by omega)
  obtain ⟨lt, ut⟩ := hT m (by omega)
  have hmn : m < n := by omega
  have q1 : decide ((m : Int) < (n : Int)) = true := by simp; omega
  have q2 : decide (m < n) = true := by simp; omega
  have HH := Lib.hid H
  clear H hF hT
  unfold AccD.cells
  go_enter Try.func57, Try.ntmps57
  go_wp2
  go_region
  all_goals go_wp2
  go_quiet (fail)
  go_wp2
  go_region
  all_goals go_wp2
  go_end0
  refine ⟨rfl, ((((((But.refl b g w).set1 3 _).set1 7 _).alloc _).drewN _).set2 m _), TallyAt.congr (((((HH.out.setF 3 _ (by decide)).setF 7 _ (by decide)).alloc _).drewN _).setT m _) ?_ ?_⟩
  · exact fun j hj => k3tpos_F F _ _ _ _ true j hj  p0
  · exact fun j hj => th_in T m j
set_option maxRecDepth 100000 in
set_option maxHeartbeats 4000000 in
theorem one_3tpos_lo (b g n : Nat) (F T : Nat → Int) (th pl ol ne : Int) (w : World) (H : TallyAt w b F g n T) (hn : n ≤ 64) (hF : ∀ j, j < 9 → 0 ≤ F j ∧ F j < 1000) (hT : ∀ j, j < n → 0 ≤ T j ∧ T j < 1000) (p0 : 0 ≤ pl) (t0 : th < 0) :
    Calls Try.prog 57 #[.pointer (some ⟨b, 0, none⟩), .agg (AccD.cells ⟨3, th, pl, ol, ne, true⟩)] w (OneTo b F g n T ⟨3, th, pl, ol, ne, true⟩ w) := by
  have c0 := H.cell 0 (by decide)
  obtain ⟨l0, u0⟩ := hF 0 (by decide)
  have c1 := H.cell 1 (by decide)
  obtain ⟨l1, u1⟩ := hF 1 (by decide)
  have c2 := H.cell 2 (by decide)
  obtain ⟨l2, u2⟩ := hF 2 (by decide)
  have c3 := H.cell 3 (by decide)
  obtain ⟨l3, u3⟩ := hF 3 (by decide)
  have c4 := H.cell 4 (by decide)
  obtain ⟨l4, u4⟩ := hF 4 (by decide)
  have c5 := H.cell 5 (by decide)
  obtain ⟨l5, u5⟩ := hF 5 (by decide)
  have c6 := H.cell 6 (by decide)
  obtain ⟨l6, u6⟩ := hF 6 (by decide)
  have c7 := H.cell 7 (by decide)
  obtain ⟨l7, u7⟩ := hF 7 (by decide)
  have c8 := H.cell 8 (by decide)
  obtain ⟨l8, u8⟩ := hF 8 (by decide)
  have c9 := H.list
  have hb := H.lt
  have hg := H.lt2
  have z := H.free
  have z2 := H.free2
  have ne1 := H.ne
  have ne2 := Ne.symm H.ne
  have q1 : decide (0 ≤ th) = false := by simp; omega
  have HH := Lib.hid H
  clear H hF hT
  unfold AccD.cells
  go_enter Try.func57, Try.ntmps57
  go_wp2
  go_region
  all_goals go_wp2
  go_quiet (fail)
  go_wp2
  go_end0
  refine ⟨rfl, (((((But.refl b g w).set1 3 _).set1 7 _).alloc _).drew.drewN _), TallyAt.congr ((((HH.out.setF 3 _ (by decide)).setF 7 _ (by decide)).alloc _).drew.drewN _) ?_ ?_⟩
  · exact fun j hj => k3tpos_F F _ _ _ _ true j hj  p0
  · exact fun j hj => th_out T th n j hj (by omega)
set_option maxRecDepth 100000 in
set_option maxHeartbeats 4000000 in
theorem one_3tpos_hi (b g n : Nat) (F T : Nat → Int) (th pl ol ne : Int) (w : World) (H : TallyAt w b F g n T) (hn : n ≤ 64) (hF : ∀ j, j < 9 → 0 ≤ F j ∧ F j < 1000) (hT : ∀ j, j < n → 0 ≤ T j ∧ T j < 1000) (p0 : 0 ≤ pl) (t0 : (n : Int) ≤ th) (t1 : 0 ≤ th) :
    Calls Try.prog 57 #[.pointer (some ⟨b, 0, none⟩), .agg (AccD.cells ⟨3, th, pl, ol, ne, true⟩)] w (OneTo b F g n T ⟨3, th, pl, ol, ne, true⟩ w) := by
  have c0 := H.cell 0 (by decide)
  obtain ⟨l0, u0⟩ := hF 0 (by decide)
  have c1 := H.cell 1 (by decide)
  obtain ⟨l1, u1⟩ := hF 1 (by decide)
  have c2 := H.cell 2 (by decide)
  obtain ⟨l2, u2⟩ := hF 2 (by decide)
  have c3 := H.cell 3 (by decide)
  obtain ⟨l3, u3⟩ := hF 3 (by decide)
  have c4 := H.cell 4 (by decide)
  obtain ⟨l4, u4⟩ := hF 4 (by decide)
  have c5 := H.cell 5 (by decide)
  obtain ⟨l5, u5⟩ := hF 5 (by decide)
  have c6 := H.cell 6 (by decide)
  obtain ⟨l6, u6⟩ := hF 6 (by decide)
  have c7 := H.cell 7 (by decide)
  obtain ⟨l7, u7⟩ := hF 7 (by decide)
  have c8 := H.cell 8 (by decide)
  obtain ⟨l8, u8⟩ := hF 8 (by decide)
  have c9 := H.list
  have hb := H.lt
  have hg := H.lt2
  have z := H.free
  have z2 := H.free2
  have ne1 := H.ne
  have ne2 := Ne.symm H.ne
  have q1 : decide (th < (n : Int)) = false := by simp; omega
  have HH := Lib.hid H
  clear H hF hT
  unfold AccD.cells
  go_enter Try.func57, Try.ntmps57
  go_wp2
  go_region
  all_goals go_wp2
  go_quiet (fail)
  go_wp2
  go_end0
  refine ⟨rfl, (((((But.refl b g w).set1 3 _).set1 7 _).alloc _).drew.drewN _), TallyAt.congr ((((HH.out.setF 3 _ (by decide)).setF 7 _ (by decide)).alloc _).drew.drewN _) ?_ ?_⟩
  · exact fun j hj => k3tpos_F F _ _ _ _ true j hj  p0
  · exact fun j hj => th_out T th n j hj (by omega)
end Go.Proofs.Ytfjddkjfkgdihaa
