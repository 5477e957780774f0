/- Layer 19: words that are not as many as a layout has, and no layout.
   Layer 19: the law of words that are no store's.
   Layer 22: a config that came in, opened. No walk here. -/
import Derived.Test.YtkdcfijebgeajaaGreatJ13
import Derived.Lib.SmallJoins
import Derived.Test.YtkdcfijebgeajaaGreatJ12
namespace Go.Proofs.YtkdcfijebgeajaaGreat
open Go.RowKit Go.BigFrame
set_option linter.unusedVariables false
set_option linter.unusedSimpArgs false
set_option maxRecDepth 100000 in
theorem places12_nil (a : Option Addr) (n cap : Nat) (w : World) : Calls Tryz.prog 12 #[.pointer none, .slice a n cap] w (Says (.tuple #[.slice none 0 0, .int .i64 1]) w) := by
  go_enter Tryz.func12, Tryz.ntmps12
  go_wp2_with fail
  refine bodyPost_ret (v := .tuple #[.slice none 0 0, .int .i64 1]) ?_ rfl ⟨rfl, rfl⟩
  simp [results, Tryz.results12, go_sem]
set_option maxRecDepth 100000 in
theorem places12_form (l : Nat) (v : Lv) (a : Option Addr) (n cap : Nat) (w : World) (h : LayAt w l v) (h0 : 0 ≤ v.ln) (h1 : v.ln ≤ 1000000) (hn : (n : Int) ≠ v.ln * 8) : Calls Tryz.prog 12 #[.pointer (some ⟨l, 0, none⟩), .slice a n cap] w (Says (.tuple #[.slice none 0 0, .int .i64 3]) w) := by
  have HL := Lib.hid (lines80 l v w h)
  have e1 : wrap64 (v.ln * 8) = v.ln * 8 := by unfold wrap64; omega
  have d1 : decide ((n : Int) = v.ln * 8) = false := decide_eq_false hn
  go_enter Tryz.func12, Tryz.ntmps12
  go_wp2_with fail
  refine HL.out.mono ?_
  rintro e w1 ⟨rfl, rfl⟩
  go_wp2_with fail
  refine bodyPost_ret (v := .tuple #[.slice none 0 0, .int .i64 3]) ?_ rfl ⟨rfl, rfl⟩
  simp [results, Tryz.results12, go_sem]
/-- A state and an error: no cells but new ones. -/
def StateErr (er : Int) (w : World) (e : Ending) (w' : World) : Prop := e = .returned (.tuple #[.agg #[.slice none 0 0, .slice none 0 0, .slice none 0 0], .int .i64 er]) ∧ Below w.heap.size w w'
theorem results_st {fn : Func} {s t : Nat} (hf : fn.results = #[.cell s 44, .tmp t]) {tmps : Array Value} {b : Nat} {v : Value} (ht : tmps.getD s undef = .pointer (some ⟨b, 0, none⟩)) (hv : tmps.getD t undef = v) {w : World} {c0 c1 c2 : Value} {ty : TypeId}
    (h : w.heap[b]? = some (.cells #[c0, c1, c2] ty (0, 0))) : (results fn tmps).run Tryz.prog w = .ok (.tuple #[.agg #[c0, c1, c2], v]) w := by
  have z0 := cell_row h 0 _ rfl
  have z1 := cell_row h 1 _ rfl
  have z2 := cell_row h 2 _ rfl
  have ht' : tmps[s]?.getD undef = .pointer (some ⟨b, 0, none⟩) := by simpa using ht
  have hv' : tmps[t]?.getD undef = v := by simpa using hv
  simp only [results, hf]
  simp [go_sem, ht', hv', z0, z1, z2]
set_option maxRecDepth 100000 in
theorem state13_of (lp : Value) (a : Option Addr) (n cap : Nat) (er : Int) (w : World) (hne : er ≠ 0) (HP : Hid (∀ w', Below w.heap.size w w' → Calls Tryz.prog 12 #[lp, .slice a n cap] w' (Says (.tuple #[.slice none 0 0, .int .i64 er]) w'))) : Calls Tryz.prog 13 #[lp, .slice a n cap] w (StateErr er w) := by
  have d1 : (er != 0) = true := by simp [hne]
  go_enter Tryz.func13, Tryz.ntmps13
  go_wp2_with fail
  refine (HP.out _ ((Below.refl _ _).alloc (Nat.le_refl _) _)).mono ?_
  rintro e w1 ⟨rfl, hw⟩
  cases hw
  go_wp2_with fail
  refine bodyPost_ret (v := .tuple #[.agg #[.slice none 0 0, .slice none 0 0, .slice none 0 0], .int .i64 er]) ?_ rfl ⟨rfl, (Below.refl _ _).alloc (Nat.le_refl _) _⟩
  exact results_st (fn := Tryz.f13) (s := 4) (t := 5) (b := w.heap.size) Tryz.results13 rfl rfl (heap_alloc_new w _)
set_option maxRecDepth 100000 in
theorem right15_of (lp : Value) (a : Option Addr) (n cap : Nat) (er : Int) (w : World) (hne : er ≠ 0) (HP : Hid (Calls Tryz.prog 12 #[lp, .slice a n cap] w (Says (.tuple #[.slice none 0 0, .int .i64 er]) w))) : Calls Tryz.prog 15 #[lp, .slice a n cap] w (Says (.bool false) w) := by
  have d1 : (er == 0) = false := by simp [hne]
  go_enter Tryz.func15, Tryz.ntmps15
  go_wp2_with fail
  refine HP.out.mono ?_
  rintro e w1 ⟨rfl, hw⟩
  cases hw
  go_wp2_with fail
  go_ret
  exact ⟨rfl, rfl⟩
theorem equal65_nil (w : World) : Calls Tryz.prog 65 #[.slice none 0 0, .slice none 0 0] w (Says (.bool true) w) := by
  go_enter Tryz.func65, Tryz.ntmps65
  go_wp2_with fail
  go_loopw [13] (fun i wr => i = .int .i64 0 ∧ Hid (wr = w)) (fun _ _ => 0)
  case atStart => exact ⟨rfl, Lib.hid rfl⟩
  case round =>
    obtain ⟨rfl, HW⟩ := hrel
    go_wp2_with fail
    go_ret
    exact ⟨rfl, HW.out⟩
theorem equal66_nil (w : World) : Calls Tryz.prog 66 #[.slice none 0 0, .slice none 0 0] w (Says (.bool true) w) := by
  go_enter Tryz.func66, Tryz.ntmps66
  go_wp2_with fail
  go_loopw [13] (fun i wr => i = .int .i64 0 ∧ Hid (wr = w)) (fun _ _ => 0)
  case atStart => exact ⟨rfl, Lib.hid rfl⟩
  case round =>
    obtain ⟨rfl, HW⟩ := hrel
    go_wp2_with fail
    go_ret
    exact ⟨rfl, HW.out⟩
theorem same14_nil (w : World) : Calls Tryz.prog 14 #[.agg #[.slice none 0 0, .slice none 0 0, .slice none 0 0], .agg #[.slice none 0 0, .slice none 0 0, .slice none 0 0]] w fun e w' => e = .returned (.bool true) ∧ Below w.heap.size w w' := by
  go_enter Tryz.func14, Tryz.ntmps14
  go_wp2_with fail
  refine (equal65_nil _).mono ?_
  rintro e w1 ⟨rfl, hw⟩
  cases hw
  go_wp2_with fail
  refine (equal65_nil _).mono ?_
  rintro e w1 ⟨rfl, hw⟩
  cases hw
  go_wp2_with fail
  refine (equal66_nil _).mono ?_
  rintro e w1 ⟨rfl, hw⟩
  cases hw
  go_wp2_with fail
  go_ret
  exact ⟨rfl, ((Below.refl _ _).alloc (Nat.le_refl _) _).alloc (by simp) _⟩
end Go.Proofs.YtkdcfijebgeajaaGreat

namespace Go.Proofs.YtkdcfijebgeajaaGreat
open Go.RowKit Go.BigFrame
set_option linter.unusedVariables false
set_option linter.unusedSimpArgs false
def TrueOn (w : World) (e : Ending) (w' : World) : Prop := e = .returned (.bool true) ∧ Below w.heap.size w w'
set_option maxRecDepth 100000 in
set_option maxHeartbeats 4000000 in
theorem counts_long (HA : Hid (Awake Tryz.prog 10)) (c : Cfg) (a : Option Addr) (n cap : Nat) (hn : 300 < n) (w : World) : Calls Tryz.prog 3 #[.agg c.cells, .slice a n cap] w (TrueOn w) := by
  have d1 : decide ((300 : Int) < (n : Int)) = true := decide_eq_true (by omega)
  obtain ⟨th, sl, lo, bu⟩ := c
  simp only [Cfg.cells]
  go_enter Tryz.func3, Tryz.ntmps3
  go_wp2_with fail
  refine (HA.out _).mono ?_
  rintro e w2 ⟨rfl, hb⟩
  have HB : Hid (Below w.heap.size w w2) := Lib.hid (((Below.refl _ _).alloc (Nat.le_refl _) _).trans (hb.mono (by simp)))
  clear hb
  go_wp2_with fail
  go_ret
  exact ⟨rfl, HB.out⟩
set_option maxRecDepth 100000 in
set_option maxHeartbeats 4000000 in
theorem counts_many (HA : Hid (Awake Tryz.prog 10)) (c : Cfg) (hc : ¬ c.few) (a : Option Addr) (n cap : Nat) (hn : n ≤ 300) (w : World) : Calls Tryz.prog 3 #[.agg c.cells, .slice a n cap] w (TrueOn w) := by
  have d1 : decide ((300 : Int) < (n : Int)) = false := decide_eq_false (by omega)
  have HF := Lib.hid fun w => few57 c w
  rw [decide_eq_false hc] at HF
  clear hc
  obtain ⟨th, sl, lo, bu⟩ := c
  simp only [Cfg.cells] at HF ⊢
  go_enter Tryz.func3, Tryz.ntmps3
  go_wp2_with fail
  refine (HF.out _).mono ?_
  rintro e w1 ⟨rfl, hb⟩
  have HB1 : Hid (Below w.heap.size w w1) := Lib.hid (((Below.refl _ _).alloc (Nat.le_refl _) _).trans (hb.mono (by simp)))
  clear hb
  go_wp2_with fail
  refine (HA.out _).mono ?_
  rintro e w2 ⟨rfl, hb⟩
  have HB : Hid (Below w.heap.size w w2) := Lib.hid (HB1.out.trans (hb.mono HB1.out.size))
  clear hb
  go_wp2_with fail
  go_ret
  exact ⟨rfl, HB.out⟩
set_option maxRecDepth 100000 in
set_option maxHeartbeats 8000000 in
theorem counts_few (HA : Hid (Awake Tryz.prog 10)) (th sl lo bu : Nat) (hf : (⟨th, sl, lo, bu⟩ : Cfg).few) (a : Option Addr) (n cap : Nat) (hn : n ≤ 300) (w : World) : Calls Tryz.prog 3 #[.agg (Cfg.cells ⟨th, sl, lo, bu⟩), .slice a n cap] w (TrueOn w) := by
  have d1 : decide ((300 : Int) < (n : Int)) = false := decide_eq_false (by omega)
  have HF := Lib.hid fun w => few57 ⟨th, sl, lo, bu⟩ w
  rw [decide_eq_true hf] at HF
  have hf' := hf
  obtain ⟨⟨f1, f2, f3, f4, f5, f6, f7, f8⟩, f9, f10, f11, f12⟩ := hf'
  simp only at f1 f2 f3 f4 f5 f6 f7 f8 f9 f10 f11 f12
  have HLA := Lib.hid fun w => lasting59 th sl lo bu (by omega) (by omega) (by omega) (by omega) w
  change Hid (∀ w, Calls Tryz.prog 9 _ w (WordsOf (nwN th sl lo bu) _ w)) at HLA
  have HLY := Lib.hid fun w => lay9_yes th sl lo bu hf none 0 0 (by omega) (fun _ => 0) (fun _ => 0) w (fun i hi => by omega)
  have hnl := nw_ln th sl lo bu
  have hnb := nw_bd th sl lo bu (by omega) (by omega) (by omega) (by omega)
  obtain ⟨nw, hnw⟩ : ∃ nw, nw = nwN th sl lo bu := ⟨_, rfl⟩
  rw [← hnw] at HLA hnl hnb
  obtain ⟨v, hv⟩ : ∃ v, v = (⟨th, sl, lo, bu⟩ : Cfg).lv := ⟨_, rfl⟩
  rw [← hv] at hnl
  have HNL := Lib.hid hnl
  have HNB := Lib.hid hnb
  have HV := Lib.hid hv
  have HFF := Lib.hid hf
  clear hnl hnb hnw hv hf f1 f2 f3 f4 f5 f6 f7 f8 f9 f10 f11 f12
  unfold gCells at HLY
  simp only [Cfg.cells] at HF HLA HLY ⊢
  go_enter Tryz.func3, Tryz.ntmps3
  go_wp2_with fail
  refine (HF.out _).mono ?_
  rintro e w1 ⟨rfl, hb⟩
  have q : ∀ j, w1.cell? ⟨w.heap.size, j, none⟩ = (w.alloc (.cells #[.int .i64 th, .int .i64 sl, .int .i64 lo, .int .i64 bu] 23)).cell? ⟨w.heap.size, j, none⟩ := fun j => cell_of_heapA (hb.block w.heap.size (by simp)) j
  have q0 := (q 0).trans (cell_alloc w _ 23 0 _ rfl)
  have q1 := (q 1).trans (cell_alloc w _ 23 1 _ rfl)
  have q2 := (q 2).trans (cell_alloc w _ 23 2 _ rfl)
  have q3 := (q 3).trans (cell_alloc w _ 23 3 _ rfl)
  have HB1 : Hid (Below w.heap.size w w1) := Lib.hid (((Below.refl _ _).alloc (Nat.le_refl _) _).trans (hb.mono (by simp)))
  have hz1 : w.heap.size < w1.heap.size := by have := hb.size; simp at this; omega
  clear hb q
  go_wp2_with fail
  refine (HLA.out _).mono ?_
  rintro e w2 ⟨u, rfl, hb, ho⟩
  obtain ⟨va, vc, rfl⟩ := own_slice_n ho
  have p0 := (cell_of_heapA (hb.block w.heap.size hz1) 0).trans q0
  have p1 := (cell_of_heapA (hb.block w.heap.size hz1) 1).trans q1
  have p2 := (cell_of_heapA (hb.block w.heap.size hz1) 2).trans q2
  have p3 := (cell_of_heapA (hb.block w.heap.size hz1) 3).trans q3
  have HB2 : Hid (Below w.heap.size w w2) := Lib.hid (HB1.out.trans (hb.mono HB1.out.size))
  clear hb ho q0 q1 q2 q3 HB1
  by_cases heq : n = nw
  · have d2 : ((n : Int) == (nw : Int)) = true := beq_iff_eq.2 (by omega)
    have d3 : decide ((n : Int) = (nw : Int)) = true := decide_eq_true (by omega)
    have d4 : (n : Int) = (nw : Int) := by omega
    go_wp2_with fail
    refine (HA.out _).mono ?_
    rintro e w3 ⟨rfl, hb⟩
    have HB : Hid (Below w.heap.size w w3) := Lib.hid (HB2.out.trans (hb.mono HB2.out.size))
    clear hb
    go_wp2_with fail
    go_ret
    exact ⟨rfl, HB.out⟩
  have d2 : ((n : Int) == (nw : Int)) = false := by simp; omega
  have d3 : ¬ ((n : Int) = (nw : Int)) := by omega
  have HNE := Lib.hid heq
  clear heq
  go_wp2_with fail
  refine (HLY.out _).mono ?_
  rintro e w3 (⟨h1, rfl, hb⟩ | ⟨-, l, M, R, rfl, hl⟩)
  · exact absurd ⟨HFF.out, Nat.zero_le _⟩ h1
  have HB3 : Hid (Below w.heap.size w w3) := Lib.hid (HB2.out.trans (hl.below.mono HB2.out.size))
  have HL3 : Hid (LayAt w3 l v) := Lib.hid (by rw [HV.out]; exact hl.lay)
  obtain ⟨mm, hmm⟩ : ∃ mm, mm = M.m := ⟨_, rfl⟩
  obtain ⟨rm, hrm⟩ : ∃ rm, rm = R.m := ⟨_, rfl⟩
  rw [← hmm, ← hrm]
  clear hl hmm hrm HLY HLA p0 p1 p2 p3 HB2
  have HP : Hid (∀ w', Below w3.heap.size w3 w' → Calls Tryz.prog 12 #[.pointer (some ⟨l, 0, none⟩), .slice a n cap] w' (Says (.tuple #[.slice none 0 0, .int .i64 3]) w')) := Lib.hid fun w' hb => places12_form l v a n cap w' (HL3.out.keep (hb.block _ HL3.out.lt)) (by have := HNL.out; omega) (by have := HNL.out; have := HNB.out; omega) (by have := HNL.out; have := HNE.out; omega)
  go_wp2_with fail
  refine (HP.out _ (Below.refl _ _)).mono ?_
  rintro e w4 ⟨rfl, hw⟩
  cases hw
  go_wp2_with fail
  refine (state13_of _ a n cap 3 _ (by decide) (Lib.hid fun w' hb => HP.out w' hb)).mono ?_
  rintro e w5 ⟨rfl, hb⟩
  have HB5 : Hid (Below w3.heap.size w3 w5) := Lib.hid hb
  clear hb
  go_wp2_with fail
  obtain ⟨s1, hs1⟩ : ∃ s1, s1 = w5.heap.size := ⟨_, rfl⟩
  obtain ⟨W5, hW5⟩ : ∃ W5, W5 = w5.alloc (.cells #[.slice none 0 0, .slice none 0 0, .slice none 0 0] 44) := ⟨_, rfl⟩
  rw [← hW5, ← hs1]
  have R5 : Hid (W5.heap[s1]? = some (.cells #[.slice none 0 0, .slice none 0 0, .slice none 0 0] 44 (0, 0))) := Lib.hid (by rw [hW5, hs1]; exact heap_alloc_new w5 _)
  have HC5 : Hid (Below w3.heap.size w3 W5) := Lib.hid (by rw [hW5]; exact HB5.out.alloc HB5.out.size _)
  clear hW5 hs1 HB5
  refine (state13_of _ a n cap 1 _ (by decide) (Lib.hid fun w' hb => places12_nil a n cap w')).mono ?_
  rintro e w6 ⟨rfl, hb⟩
  have R6 := Lib.hid ((hb.block _ (lt_row R5.out)).trans R5.out)
  have HC6 : Hid (Below w3.heap.size w3 w6) := Lib.hid (HC5.out.trans (hb.mono HC5.out.size))
  clear hb R5 HC5
  go_upto_region 7 with fail
  obtain ⟨s2, hs2⟩ : ∃ s2, s2 = w6.heap.size := ⟨_, rfl⟩
  obtain ⟨W7, hW7⟩ : ∃ W7, W7 = w6.alloc (.cells #[.slice none 0 0, .slice none 0 0, .slice none 0 0] 44) := ⟨_, rfl⟩
  rw [← hW7, ← hs2]
  have S7 : Hid (W7.heap[s2]? = some (.cells #[.slice none 0 0, .slice none 0 0, .slice none 0 0] 44 (0, 0))) := Lib.hid (by rw [hW7, hs2]; exact heap_alloc_new w6 _)
  have R7 : Hid (W7.heap[s1]? = some (.cells #[.slice none 0 0, .slice none 0 0, .slice none 0 0] 44 (0, 0))) := Lib.hid (by rw [hW7, Below.heap_alloc _ _ _ (lt_row R6.out)]; exact R6.out)
  have HC7 : Hid (Below w3.heap.size w3 W7) := Lib.hid (by rw [hW7]; exact HC6.out.alloc HC6.out.size _)
  clear hW7 hs2 HC6 R6
  go_wp2_with fail
  refine (HA.out _).mono ?_
  rintro e w8 ⟨rfl, hb⟩
  have S8 := Lib.hid ((hb.block _ (lt_row S7.out)).trans S7.out)
  have R8 := Lib.hid ((hb.block _ (lt_row R7.out)).trans R7.out)
  have HC8 : Hid (Below w3.heap.size w3 w8) := Lib.hid (HC7.out.trans (hb.mono HC7.out.size))
  clear hb S7 R7 HC7
  have r0 := cell_row R8.out 0 _ rfl
  have r1 := cell_row R8.out 1 _ rfl
  have r2 := cell_row R8.out 2 _ rfl
  go_wp2_with fail
  refine (same14_nil _).mono ?_
  rintro e w9 ⟨rfl, hb⟩
  have S9 := Lib.hid ((hb.block _ (lt_row S8.out)).trans S8.out)
  have R9 := Lib.hid ((hb.block _ (lt_row R8.out)).trans R8.out)
  have HC9 : Hid (Below w3.heap.size w3 w9) := Lib.hid (HC8.out.trans (hb.mono HC8.out.size))
  clear hb S8 R8 HC8 r0 r1 r2
  have r0 := cell_row R9.out 0 _ rfl
  have r1 := cell_row R9.out 1 _ rfl
  have r2 := cell_row R9.out 2 _ rfl
  have t0 := cell_row S9.out 0 _ rfl
  have t1 := cell_row S9.out 1 _ rfl
  have t2 := cell_row S9.out 2 _ rfl
  go_wp2_with fail
  refine (same14_nil _).mono ?_
  rintro e w10 ⟨rfl, hb⟩
  have HC10 : Hid (Below w3.heap.size w3 w10) := Lib.hid (HC9.out.trans (hb.mono HC9.out.size))
  clear hb r0 r1 r2 t0 t1 t2
  go_wp2_with fail
  refine (right15_of _ a n cap 3 _ (by decide) (Lib.hid (HP.out _ HC10.out))).mono ?_
  rintro e w11 ⟨rfl, hw⟩
  cases hw
  go_wp2_with fail
  go_ret
  exact ⟨rfl, HB3.out.trans (HC10.out.mono HB3.out.size)⟩
end Go.Proofs.YtkdcfijebgeajaaGreat

namespace Go.Proofs.YtkdcfijebgeajaaGreat
open Go.RowKit Go.ChangeShapes Go.WideShapes Go.Deep
set_option linter.unusedVariables false
set_option linter.unusedSimpArgs false
theorem kind23_0 : kindAt Tryz.prog 4 23 0 = some (some .i64) := by kernel_rfl
theorem kind23_1 : kindAt Tryz.prog 4 23 1 = some (some .i64) := by kernel_rfl
theorem kind23_2 : kindAt Tryz.prog 4 23 2 = some (some .i64) := by kernel_rfl
theorem kind23_3 : kindAt Tryz.prog 4 23 3 = some (some .i64) := by kernel_rfl
set_option maxRecDepth 100000 in
theorem cfg_open {H : Type} {enc : TypeId × Value → H} {w : World} {r : Reach} {b0 base : Nat} {spare : Nat → Bool} {held : Bool} {v : Value} {d : DataW H} {p : List MemPlace}
    (hv : Value.okWide Tryz.prog w r b0 23 v) (h : DataW.Trod enc Tryz.prog w base spare held 23 v d p) : ∃ (th sl lo' bu : Int), v = .agg #[.int .i64 th, .int .i64 sl, .int .i64 lo', .int .i64 bu] := by
  obtain ⟨cs, rfl, hsz⟩ := okWide_struct Tryz.underlying23 hv
  obtain ⟨fuel, hf⟩ := h
  have hc : Tryz.prog.cellsOf 23 = 4 := by kernel_rfl
  rw [hc] at hsz
  obtain ⟨_, g0, n0, rfl, -⟩ := kindAt_ok 4 23 0 _ fuel _ _ hf kind23_0
  obtain ⟨_, g1, n1, rfl, -⟩ := kindAt_ok 4 23 1 _ fuel _ _ hf kind23_1
  obtain ⟨_, g2, n2, rfl, -⟩ := kindAt_ok 4 23 2 _ fuel _ _ hf kind23_2
  obtain ⟨_, g3, n3, rfl, -⟩ := kindAt_ok 4 23 3 _ fuel _ _ hf kind23_3
  simp only [Value.cells] at g0 g1 g2 g3
  obtain ⟨l⟩ := cs
  match l, hsz with
  | [c0, c1, c2, c3], _ =>
    simp at g0 g1 g2 g3
    subst g0 g1 g2 g3
    exact ⟨_, _, _, _, rfl⟩
end Go.Proofs.YtkdcfijebgeajaaGreat
