/- Layer 20 (mark): it goes on by a link, walked row by row.
   Layer 20 (mark): it goes on by a link. No walk here.
   Layer 20 (mark): an append to a slice of its own, and where it lies then; a mark whose lists have grown. No walk here. -/
import Derived.Test.YtibelcmdfkgonaaGreatK9
import Derived.Maps.AppendAt
namespace Go.Proofs.YtibelcmdfkgonaaGreat
open Go.RowKit Go.BigFrame
set_option linter.unusedVariables false
set_option linter.unusedSimpArgs false
theorem but_of_below {p : Nat} {w w' : World} (h : Below w.heap.size w w') : But p w w' := ⟨h.os, h.tape, h.output, h.size, fun k hk _ => h.block k hk⟩
theorem Turn.drawnN {F : Nat → Prop} {a w : World} (h : Turn F a w) (n : Nat) : Turn F a (w.drewN n) := ⟨h.os, h.tape, h.output, h.size, h.block⟩
theorem goOn138_over (x : Nat) (k0 k1 k2 k3 k4 k5 k6 k7 k8 k9 k10 k11 k12 k13 k14 : Value) (X : Int) (hX : U64 X) (hz : toW X = -1) (c : Array Value)
    (HO : Hid (∀ W, W.heap[x]? = some (.cells #[k0, k1, k2, k3, k4, k5, k6, k7, k8, .int .i64 (-1), k10, k11, k12, k13, .int .u64 0] 149 (0, 0)) → Calls Tryz.prog 226 #[.pointer (some ⟨x, 0, none⟩)] W (RowTo x c W))) (w : World) (h : w.heap[x]? = some (.cells #[k0, k1, k2, k3, k4, k5, k6, k7, k8, k9, k10, k11, k12, k13, k14] 149 (0, 0))) :
    Calls Tryz.prog 138 #[.pointer (some ⟨x, 0, none⟩), .int .u64 X] w (RowTo x c w) := by
  have HT : Hid (∀ w, Calls Tryz.prog 136 #[.int .u64 X] w (Gives (.int .i64 (-1)) w)) := Lib.hid fun w => by rw [← hz]; exact to136 X hX w
  have HR := Lib.hid h
  clear h hX hz
  go_enter Tryz.func138, Tryz.ntmps138
  go_wp2_with fail
  refine (HT.out _).mono ?_
  rintro e w1 ⟨rfl, hb⟩
  have HB := Lib.hid (but_of_below (p := x) hb)
  have HR1 := Lib.hid ((hb.block x (lt_row HR.out)).trans HR.out)
  have q9 := cell_row HR1.out 9 _ rfl
  have q14 := cell_row HR1.out 14 _ rfl
  have qf := free_row HR1.out
  clear hb
  go_wp2_with fail
  refine (HO.out _ (by exact heap_set _ (heap_set _ HR1.out))).mono ?_
  rintro e w2 ⟨⟨u, rfl⟩, hr, hb⟩
  have H2 := Lib.hid (And.intro hr ((but_set (but_set HB.out _ _) _ _).trans hb))
  clear hr hb q9 q14 qf
  go_wp2_with fail
  go_end0
  exact ⟨⟨_, rfl⟩, H2.out.1, H2.out.2⟩
/-- It ends; x's cells and what was met are as told; no other old block has turned. -/
def RowMet (x mb S : Nat) (c : Array Value) (m : Nat → Bool) (W : World) (e : Ending) (W' : World) : Prop :=
  (∃ u, e = .returned u) ∧ W'.heap[x]? = some (.cells c 149 (0, 0)) ∧ RowAt W' mb S (fun k => .bool (m k)) ∧ Turn (fun k => k = x ∨ k = mb) W W'

theorem goOn138_met (x : Nat) (k0 k1 k2 k3 k6 k7 k8 k9 k11 k12 k13 k14 : Value) (li : Nat) (hl : li ≤ 1000) (fs : Bool) (mb S cm : Nat) (hne : x ≠ mb) (met : Nat → Bool) (n : Nat) (hn : n < S) (hS : S ≤ 100000) (X : Int) (hX : U64 X) (hz : toW X = n) (hmt : met n = true) (w : World)
    (h : w.heap[x]? = some (.cells #[k0, k1, k2, k3, .int .i64 li, .slice (some ⟨mb, 0, none⟩) S cm, k6, k7, k8, k9, .bool fs, k11, k12, k13, k14] 149 (0, 0))) (hm : RowAt w mb S fun k => .bool (met k)) :
    Calls Tryz.prog 138 #[.pointer (some ⟨x, 0, none⟩), .int .u64 X] w (RowMet x mb S #[k0, k1, .int .i64 4, k3, .int .i64 li, .slice (some ⟨mb, 0, none⟩) S cm, .bool true, k7, k8, .int .i64 n, .bool fs, k11, k12, k13, .int .u64 0] (addMet met n) w) := by
  have HT : Hid (∀ w, Calls Tryz.prog 136 #[.int .u64 X] w (Gives (.int .i64 n) w)) := Lib.hid fun w => by rw [← hz]; exact to136 X hX w
  have HA : Hid (∀ w, w.cell? ⟨x, 5, none⟩ = some (.slice (some ⟨mb, 0, none⟩) S cm) → RowAt w mb S (fun k => .bool (met k)) → Calls Tryz.prog 227 #[.pointer (some ⟨x, 5, none⟩), .int .i64 n] w fun e w' => e = .returned (.bool false) ∧ RowAt w' mb S (fun k => .bool (addMet met n k)) ∧ But mb w w') := Lib.hid fun w h1 h2 => by
    have := add227 x mb S cm met n hn hS w h1 h2; rw [hmt] at this; exact this
  have HF := Lib.hid fun w h => fail137 x k0 k1 k2 k3 (.int .i64 li) (.slice (some ⟨mb, 0, none⟩) S cm) k6 k7 k8 (.int .i64 n) (.bool fs) k11 k12 k13 (.int .u64 0) w h
  have HR := Lib.hid h
  have HM := Lib.hid hm
  have HN := Lib.hid hne
  have e1 : ((n : Int) == -1) = false := by rw [beq_eq_false_iff_ne]; omega
  have i0 : (0 : Int) ≤ (n : Int) := by omega
  clear h hm hX hz hmt
  go_enter Tryz.func138, Tryz.ntmps138
  go_wp2_with fail
  refine (HT.out _).mono ?_
  rintro e w1 ⟨rfl, hb⟩
  have HB := Lib.hid (Turn.of_below (F := fun k => k = x ∨ k = mb) hb)
  have HR1 := Lib.hid ((hb.block x (lt_row HR.out)).trans HR.out)
  have HM1 := Lib.hid (HM.out.keep (hb.block mb HM.out.lt))
  have q5 := cell_row HR1.out 5 _ rfl
  have q9 := cell_row HR1.out 9 _ rfl
  have q14 := cell_row HR1.out 14 _ rfl
  have qf := free_row HR1.out
  clear hb
  go_wp2_with fail
  refine region_qd 0 7 (by kernel_rfl) (by kernel_rfl) (fun _ _ d _ _ h => by cases d <;> exact h) ?_
  simp only [List.take_succ_cons, List.take_zero, List.drop_succ_cons, List.drop_zero, Nat.reduceAdd]
  repeat (first | go_big_quiet_skip | (go_big_quiet_want; go_big_quiet_op; go_big_quiet_on))
  refine wpQuiet_nil ?_
  repeat (first | go_big_quiet_skip | (go_big_quiet_want; go_big_quiet_op; first | go_big_quiet_on))
  refine wpQuiet_nil ?_
  rintro _ ⟨k, rfl⟩
  go_wp2_with fail
  refine (HA.out _ (by exact cell_row (heap_set (.int .u64 0) (heap_set (.int .i64 n) HR1.out)) 5 _ rfl) (by exact (HM1.out.keep (by exact (heap_set_other (Ne.symm HN.out)).trans (heap_set_other (Ne.symm HN.out)))))).mono ?_
  rintro e w2 ⟨rfl, hm2, hb2⟩
  have HT2 := Lib.hid (((HB.out.set (fun _ => .inl rfl) 9 (.int .i64 n)).set (fun _ => .inl rfl) 14 (.int .u64 0)).drawnN k |>.trans (Turn.of_but (F := fun k => k = x ∨ k = mb) hb2 fun _ => .inr rfl) (fun _ _ h => h))
  have HM2 := Lib.hid hm2
  have HR2 := Lib.hid ((hb2.block x (by have := lt_row HR1.out; simpa [World.setCell] using this) HN.out).trans (heap_set (.int .u64 0) (heap_set (.int .i64 n) HR1.out)))
  simp only [List.setIfInBounds_toArray, List.set_cons_succ, List.set_cons_zero] at HR2
  clear hm2 hb2 q5 q9 q14 qf
  go_wp2_with fail
  refine (HF.out _ (by exact HR2.out)).mono ?_
  rintro e w3 ⟨⟨u, rfl⟩, hr, hb⟩
  have H3 := Lib.hid (And.intro hr (And.intro (HM2.out.keep (hb.block mb HM2.out.lt (Ne.symm HN.out))) (HT2.out.trans (Turn.of_but (F := fun k => k = x ∨ k = mb) hb fun _ => .inl rfl) (fun _ _ h => h))))
  clear hr hb
  go_wp2_with fail
  go_end0
  exact ⟨⟨_, rfl⟩, H3.out.1, H3.out.2.1, H3.out.2.2⟩

theorem goOn138_keys (x : Nat) (k0 k1 k2 k3 k6 k7 k8 k9 k11 k12 k13 k14 : Value) (li : Nat) (hl : li ≤ 1000) (fs : Bool) (mb S cm : Nat) (hne : x ≠ mb) (met : Nat → Bool) (n : Nat) (hn : n < S) (hS : S ≤ 100000) (X : Int) (hX : U64 X) (hz : toW X = n) (hmt : met n = false) (h0 : li ≠ 0) (w : World)
    (h : w.heap[x]? = some (.cells #[k0, k1, k2, k3, .int .i64 li, .slice (some ⟨mb, 0, none⟩) S cm, k6, k7, k8, k9, .bool fs, k11, k12, k13, k14] 149 (0, 0))) (hm : RowAt w mb S fun k => .bool (met k)) :
    Calls Tryz.prog 138 #[.pointer (some ⟨x, 0, none⟩), .int .u64 X] w (RowMet x mb S #[k0, k1, .int .i64 1, k3, .int .i64 li, .slice (some ⟨mb, 0, none⟩) S cm, k6, k7, k8, .int .i64 n, .bool fs, k11, k12, k13, .int .u64 0] (addMet met n) w) := by
  have HT : Hid (∀ w, Calls Tryz.prog 136 #[.int .u64 X] w (Gives (.int .i64 n) w)) := Lib.hid fun w => by rw [← hz]; exact to136 X hX w
  have HA : Hid (∀ w, w.cell? ⟨x, 5, none⟩ = some (.slice (some ⟨mb, 0, none⟩) S cm) → RowAt w mb S (fun k => .bool (met k)) → Calls Tryz.prog 227 #[.pointer (some ⟨x, 5, none⟩), .int .i64 n] w fun e w' => e = .returned (.bool true) ∧ RowAt w' mb S (fun k => .bool (addMet met n k)) ∧ But mb w w') := Lib.hid fun w h1 h2 => by
    have := add227 x mb S cm met n hn hS w h1 h2; rw [hmt] at this; exact this
  have HR := Lib.hid h
  have HM := Lib.hid hm
  have HN := Lib.hid hne
  have e1 : ((n : Int) == -1) = false := by rw [beq_eq_false_iff_ne]; omega
  have i0 : (0 : Int) ≤ (n : Int) := by omega
  have e2 : ((li : Int) != 0) = true := by simp; omega
  clear h0
  clear h hm hX hz hmt
  go_enter Tryz.func138, Tryz.ntmps138
  go_wp2_with fail
  refine (HT.out _).mono ?_
  rintro e w1 ⟨rfl, hb⟩
  have HB := Lib.hid (Turn.of_below (F := fun k => k = x ∨ k = mb) hb)
  have HR1 := Lib.hid ((hb.block x (lt_row HR.out)).trans HR.out)
  have HM1 := Lib.hid (HM.out.keep (hb.block mb HM.out.lt))
  have q5 := cell_row HR1.out 5 _ rfl
  have q9 := cell_row HR1.out 9 _ rfl
  have q14 := cell_row HR1.out 14 _ rfl
  have qf := free_row HR1.out
  clear hb
  go_wp2_with fail
  refine region_qd 0 7 (by kernel_rfl) (by kernel_rfl) (fun _ _ d _ _ h => by cases d <;> exact h) ?_
  simp only [List.take_succ_cons, List.take_zero, List.drop_succ_cons, List.drop_zero, Nat.reduceAdd]
  repeat (first | go_big_quiet_skip | (go_big_quiet_want; go_big_quiet_op; go_big_quiet_on))
  refine wpQuiet_nil ?_
  repeat (first | go_big_quiet_skip | (go_big_quiet_want; go_big_quiet_op; first | go_big_quiet_on))
  refine wpQuiet_nil ?_
  rintro _ ⟨k, rfl⟩
  go_wp2_with fail
  refine (HA.out _ (by exact cell_row (heap_set (.int .u64 0) (heap_set (.int .i64 n) HR1.out)) 5 _ rfl) (by exact (HM1.out.keep (by exact (heap_set_other (Ne.symm HN.out)).trans (heap_set_other (Ne.symm HN.out)))))).mono ?_
  rintro e w2 ⟨rfl, hm2, hb2⟩
  have HT2 := Lib.hid (((HB.out.set (fun _ => .inl rfl) 9 (.int .i64 n)).set (fun _ => .inl rfl) 14 (.int .u64 0)).drawnN k |>.trans (Turn.of_but (F := fun k => k = x ∨ k = mb) hb2 fun _ => .inr rfl) (fun _ _ h => h))
  have HM2 := Lib.hid hm2
  have HR2 := Lib.hid ((hb2.block x (by have := lt_row HR1.out; simpa [World.setCell] using this) HN.out).trans (heap_set (.int .u64 0) (heap_set (.int .i64 n) HR1.out)))
  simp only [List.setIfInBounds_toArray, List.set_cons_succ, List.set_cons_zero] at HR2
  clear hm2 hb2 q5 q9 q14 qf
  have q2 := cell_row HR2.out 2 _ rfl
  have q4 := cell_row HR2.out 4 _ rfl
  have q10 := cell_row HR2.out 10 _ rfl
  have qf := free_row HR2.out
  go_wp2_with fail
  go_end0
  exact ⟨⟨_, rfl⟩, heap_set _ HR2.out, HM2.out.keep (heap_set_other (Ne.symm HN.out)), HT2.out.set (fun _ => .inl rfl) _ _⟩

theorem goOn138_links (x : Nat) (k0 k1 k2 k3 k6 k7 k8 k9 k11 k12 k13 k14 : Value) (li : Nat) (hl : li ≤ 1000) (fs : Bool) (mb S cm : Nat) (hne : x ≠ mb) (met : Nat → Bool) (n : Nat) (hn : n < S) (hS : S ≤ 100000) (X : Int) (hX : U64 X) (hz : toW X = n) (hmt : met n = false) (h0 : li = 0) (hfs : fs = true) (w : World)
    (h : w.heap[x]? = some (.cells #[k0, k1, k2, k3, .int .i64 li, .slice (some ⟨mb, 0, none⟩) S cm, k6, k7, k8, k9, .bool fs, k11, k12, k13, k14] 149 (0, 0))) (hm : RowAt w mb S fun k => .bool (met k)) :
    Calls Tryz.prog 138 #[.pointer (some ⟨x, 0, none⟩), .int .u64 X] w (RowMet x mb S #[k0, k1, .int .i64 3, k3, .int .i64 li, .slice (some ⟨mb, 0, none⟩) S cm, k6, k7, k8, .int .i64 n, .bool fs, k11, k12, k13, .int .u64 0] (addMet met n) w) := by
  have HT : Hid (∀ w, Calls Tryz.prog 136 #[.int .u64 X] w (Gives (.int .i64 n) w)) := Lib.hid fun w => by rw [← hz]; exact to136 X hX w
  have HA : Hid (∀ w, w.cell? ⟨x, 5, none⟩ = some (.slice (some ⟨mb, 0, none⟩) S cm) → RowAt w mb S (fun k => .bool (met k)) → Calls Tryz.prog 227 #[.pointer (some ⟨x, 5, none⟩), .int .i64 n] w fun e w' => e = .returned (.bool true) ∧ RowAt w' mb S (fun k => .bool (addMet met n k)) ∧ But mb w w') := Lib.hid fun w h1 h2 => by
    have := add227 x mb S cm met n hn hS w h1 h2; rw [hmt] at this; exact this
  have HR := Lib.hid h
  have HM := Lib.hid hm
  have HN := Lib.hid hne
  have e1 : ((n : Int) == -1) = false := by rw [beq_eq_false_iff_ne]; omega
  have i0 : (0 : Int) ≤ (n : Int) := by omega
  have e2 : ((li : Int) != 0) = false := by simp; omega
  subst hfs
  clear h0
  clear h hm hX hz hmt
  go_enter Tryz.func138, Tryz.ntmps138
  go_wp2_with fail
  refine (HT.out _).mono ?_
  rintro e w1 ⟨rfl, hb⟩
  have HB := Lib.hid (Turn.of_below (F := fun k => k = x ∨ k = mb) hb)
  have HR1 := Lib.hid ((hb.block x (lt_row HR.out)).trans HR.out)
  have HM1 := Lib.hid (HM.out.keep (hb.block mb HM.out.lt))
  have q5 := cell_row HR1.out 5 _ rfl
  have q9 := cell_row HR1.out 9 _ rfl
  have q14 := cell_row HR1.out 14 _ rfl
  have qf := free_row HR1.out
  clear hb
  go_wp2_with fail
  refine region_qd 0 7 (by kernel_rfl) (by kernel_rfl) (fun _ _ d _ _ h => by cases d <;> exact h) ?_
  simp only [List.take_succ_cons, List.take_zero, List.drop_succ_cons, List.drop_zero, Nat.reduceAdd]
  repeat (first | go_big_quiet_skip | (go_big_quiet_want; go_big_quiet_op; go_big_quiet_on))
  refine wpQuiet_nil ?_
  repeat (first | go_big_quiet_skip | (go_big_quiet_want; go_big_quiet_op; first | go_big_quiet_on))
  refine wpQuiet_nil ?_
  rintro _ ⟨k, rfl⟩
  go_wp2_with fail
  refine (HA.out _ (by exact cell_row (heap_set (.int .u64 0) (heap_set (.int .i64 n) HR1.out)) 5 _ rfl) (by exact (HM1.out.keep (by exact (heap_set_other (Ne.symm HN.out)).trans (heap_set_other (Ne.symm HN.out)))))).mono ?_
  rintro e w2 ⟨rfl, hm2, hb2⟩
  have HT2 := Lib.hid (((HB.out.set (fun _ => .inl rfl) 9 (.int .i64 n)).set (fun _ => .inl rfl) 14 (.int .u64 0)).drawnN k |>.trans (Turn.of_but (F := fun k => k = x ∨ k = mb) hb2 fun _ => .inr rfl) (fun _ _ h => h))
  have HM2 := Lib.hid hm2
  have HR2 := Lib.hid ((hb2.block x (by have := lt_row HR1.out; simpa [World.setCell] using this) HN.out).trans (heap_set (.int .u64 0) (heap_set (.int .i64 n) HR1.out)))
  simp only [List.setIfInBounds_toArray, List.set_cons_succ, List.set_cons_zero] at HR2
  clear hm2 hb2 q5 q9 q14 qf
  have q2 := cell_row HR2.out 2 _ rfl
  have q4 := cell_row HR2.out 4 _ rfl
  have q10 := cell_row HR2.out 10 _ rfl
  have qf := free_row HR2.out
  go_wp2_with fail
  go_end0
  exact ⟨⟨_, rfl⟩, heap_set _ HR2.out, HM2.out.keep (heap_set_other (Ne.symm HN.out)), HT2.out.set (fun _ => .inl rfl) _ _⟩

theorem goOn138_vals (x : Nat) (k0 k1 k2 k3 k6 k7 k8 k9 k11 k12 k13 k14 : Value) (li : Nat) (hl : li ≤ 1000) (fs : Bool) (mb S cm : Nat) (hne : x ≠ mb) (met : Nat → Bool) (n : Nat) (hn : n < S) (hS : S ≤ 100000) (X : Int) (hX : U64 X) (hz : toW X = n) (hmt : met n = false) (h0 : li = 0) (hfs : fs = false) (w : World)
    (h : w.heap[x]? = some (.cells #[k0, k1, k2, k3, .int .i64 li, .slice (some ⟨mb, 0, none⟩) S cm, k6, k7, k8, k9, .bool fs, k11, k12, k13, k14] 149 (0, 0))) (hm : RowAt w mb S fun k => .bool (met k)) :
    Calls Tryz.prog 138 #[.pointer (some ⟨x, 0, none⟩), .int .u64 X] w (RowMet x mb S #[k0, k1, .int .i64 2, k3, .int .i64 li, .slice (some ⟨mb, 0, none⟩) S cm, k6, k7, k8, .int .i64 n, .bool fs, k11, k12, k13, .int .u64 0] (addMet met n) w) := by
  have HT : Hid (∀ w, Calls Tryz.prog 136 #[.int .u64 X] w (Gives (.int .i64 n) w)) := Lib.hid fun w => by rw [← hz]; exact to136 X hX w
  have HA : Hid (∀ w, w.cell? ⟨x, 5, none⟩ = some (.slice (some ⟨mb, 0, none⟩) S cm) → RowAt w mb S (fun k => .bool (met k)) → Calls Tryz.prog 227 #[.pointer (some ⟨x, 5, none⟩), .int .i64 n] w fun e w' => e = .returned (.bool true) ∧ RowAt w' mb S (fun k => .bool (addMet met n k)) ∧ But mb w w') := Lib.hid fun w h1 h2 => by
    have := add227 x mb S cm met n hn hS w h1 h2; rw [hmt] at this; exact this
  have HR := Lib.hid h
  have HM := Lib.hid hm
  have HN := Lib.hid hne
  have e1 : ((n : Int) == -1) = false := by rw [beq_eq_false_iff_ne]; omega
  have i0 : (0 : Int) ≤ (n : Int) := by omega
  have e2 : ((li : Int) != 0) = false := by simp; omega
  subst hfs
  clear h0
  clear h hm hX hz hmt
  go_enter Tryz.func138, Tryz.ntmps138
  go_wp2_with fail
  refine (HT.out _).mono ?_
  rintro e w1 ⟨rfl, hb⟩
  have HB := Lib.hid (Turn.of_below (F := fun k => k = x ∨ k = mb) hb)
  have HR1 := Lib.hid ((hb.block x (lt_row HR.out)).trans HR.out)
  have HM1 := Lib.hid (HM.out.keep (hb.block mb HM.out.lt))
  have q5 := cell_row HR1.out 5 _ rfl
  have q9 := cell_row HR1.out 9 _ rfl
  have q14 := cell_row HR1.out 14 _ rfl
  have qf := free_row HR1.out
  clear hb
  go_wp2_with fail
  refine region_qd 0 7 (by kernel_rfl) (by kernel_rfl) (fun _ _ d _ _ h => by cases d <;> exact h) ?_
  simp only [List.take_succ_cons, List.take_zero, List.drop_succ_cons, List.drop_zero, Nat.reduceAdd]
  repeat (first | go_big_quiet_skip | (go_big_quiet_want; go_big_quiet_op; go_big_quiet_on))
  refine wpQuiet_nil ?_
  repeat (first | go_big_quiet_skip | (go_big_quiet_want; go_big_quiet_op; first | go_big_quiet_on))
  refine wpQuiet_nil ?_
  rintro _ ⟨k, rfl⟩
  go_wp2_with fail
  refine (HA.out _ (by exact cell_row (heap_set (.int .u64 0) (heap_set (.int .i64 n) HR1.out)) 5 _ rfl) (by exact (HM1.out.keep (by exact (heap_set_other (Ne.symm HN.out)).trans (heap_set_other (Ne.symm HN.out)))))).mono ?_
  rintro e w2 ⟨rfl, hm2, hb2⟩
  have HT2 := Lib.hid (((HB.out.set (fun _ => .inl rfl) 9 (.int .i64 n)).set (fun _ => .inl rfl) 14 (.int .u64 0)).drawnN k |>.trans (Turn.of_but (F := fun k => k = x ∨ k = mb) hb2 fun _ => .inr rfl) (fun _ _ h => h))
  have HM2 := Lib.hid hm2
  have HR2 := Lib.hid ((hb2.block x (by have := lt_row HR1.out; simpa [World.setCell] using this) HN.out).trans (heap_set (.int .u64 0) (heap_set (.int .i64 n) HR1.out)))
  simp only [List.setIfInBounds_toArray, List.set_cons_succ, List.set_cons_zero] at HR2
  clear hm2 hb2 q5 q9 q14 qf
  have q2 := cell_row HR2.out 2 _ rfl
  have q4 := cell_row HR2.out 4 _ rfl
  have q10 := cell_row HR2.out 10 _ rfl
  have qf := free_row HR2.out
  go_wp2_with fail
  go_end0
  exact ⟨⟨_, rfl⟩, heap_set _ HR2.out, HM2.out.keep (heap_set_other (Ne.symm HN.out)), HT2.out.set (fun _ => .inl rfl) _ _⟩

end Go.Proofs.YtibelcmdfkgonaaGreat

namespace Go.Proofs.YtibelcmdfkgonaaGreat
open Go.RowKit Go.BigFrame
set_option linter.unusedVariables false
set_option linter.unusedSimpArgs false
theorem no43 : ¬ (4 : Nat) ≤ 3 := by decide
theorem no10 : ¬ (1 : Nat) ≤ 0 := by decide
theorem z64 : (0 : Nat) < 18446744073709551616 := by decide
/-- Its row and what was met have turned. -/
theorem MkAt.to_met {W W' : World} {K : Mk} {e : Ending} {c : Array Value} {m : Nat → Bool} (h : MkAt W K) (s' : MS) (hr : RowMet K.x K.mb K.S c m W e W') (hc : c = ({ K with s := s' } : Mk).cells) (e1 : s'.met = m) (e2 : s'.heads = K.s.heads) (e3 : s'.nodes = K.s.nodes)
    (li : s'.list ≤ K.nh) (lip : s'.pc ≠ 4 → s'.list < K.nh) (sl : 1 ≤ s'.pc → s'.pc ≤ 3 → 1 ≤ s'.slot ∧ s'.slot ≤ K.S) (ky : s'.key < 18446744073709551616) (vl : s'.val < 18446744073709551616) : MkTo K s' W e W' := by
  obtain ⟨hu, h1, h2, h3⟩ := hr
  refine ⟨hu, h3.mono (fun k _ hk => ?_), K.hv, K.nv, ?_, fun _ hk => .inl hk, fun _ hk => .inl hk⟩
  · rcases hk with rfl | rfl
    · exact .inl rfl
    · exact .inr (.inr (.inl rfl))
  · have b : ∀ k, k < W.heap.size → k ≠ K.x → k ≠ K.mb → W'.heap[k]? = W.heap[k]? := fun k hk n1 n2 => h3.block k hk (by rintro (e | e); exact n1 e; exact n2 e)
    exact { row := by rw [← hc]; exact h1
            lay := h.lay.keep (b _ h.lay.lt (fun e => h.lo (.inl e)) (fun e => h.lo (.inr (.inr (.inl e)))))
            ways := h.ways.keep (b _ h.ways.lt (Ne.symm h.xw) h.wm)
            met := by show RowAt W' K.mb K.S fun k => .bool (s'.met k); rw [e1]; exact h2
            heads := by show W'.ownsRow 0 48 1 K.hv s'.heads.length (headsV s'.heads); rw [e2]; exact own_keep' h.heads fun k hk => b k (h.heads.lt k hk).2 (fun e => h.hx.1 (e ▸ hk)) (fun e => h.hx.2.2 (e ▸ hk))
            nodes := by show W'.ownsRow 0 50 4 K.nv s'.nodes.length (nodesV s'.nodes); rw [e3]; exact own_keep' h.nodes fun k hk => b k (h.nodes.lt k hk).2 (fun e => h.nx.1 (e ▸ hk)) (fun e => h.nx.2.2 (e ▸ hk))
            xw := h.xw, xm := h.xm, wm := h.wm, lo := h.lo, hx := h.hx, nx := h.nx, hn := h.hn, hS := h.hS, nh1 := h.nh1, li := li, lip := lip, sl := sl, ky := ky, vl := vl }
theorem goOn_at (g : Gd) (K : Mk) (hf : Fits g K) (x : Nat) (hx : x < 18446744073709551616) (hr : lo x ≤ K.S) (hl : K.s.list < K.nh) (hS : K.S ≤ 100000) (w : World) (h : MkAt w K) :
    Calls Tryz.prog 138 #[.pointer (some ⟨K.x, 0, none⟩), .int .u64 (x : Int)] w (MkTo K (K.s.goOn g x) w) := by
  have hX : U64 (x : Int) := by unfold U64; omega
  have hnh := h.nh1
  by_cases h0 : lo x = 0
  · have hz : toW (x : Int) = -1 := by rw [to_lo, h0]; rfl
    by_cases hbad : K.s.list = 0 ∧ K.s.free = false
    · have hs : K.s.goOn g x = { K.s with slot := 0, val := 0, corrupt := true, pc := 4 } := by
        unfold MS.goOn; rw [if_pos h0]; unfold MS.over; rw [if_pos hbad]; rfl
      rw [hs]
      refine (goOn138_over K.x _ _ _ _ _ _ _ _ _ _ _ _ _ _ _ (x : Int) hX hz _ (Lib.hid fun W hW => over226_bad K.x _ _ _ _ _ _ _ _ _ _ _ _ _ _ _ _ _ (by omega) (by omega) hbad.1 hbad.2 W hW) w h.row).mono fun e w' hr => ?_
      exact h.to_row _ hr rfl rfl rfl h.li (fun e => absurd rfl e) (fun _ e => absurd e no43) h.ky z64
    · by_cases hlast : K.s.list + 1 = K.nh
      · have hs : K.s.goOn g x = { K.s with slot := 0, val := 0, list := K.s.list + 1, pc := 4 } := by
          unfold MS.goOn; rw [if_pos h0]; unfold MS.over; rw [if_neg hbad, hf.nh, if_pos hlast]
        rw [hs]
        refine (goOn138_over K.x _ _ _ _ _ _ _ _ _ _ _ _ _ _ _ (x : Int) hX hz _ (Lib.hid fun W hW => over226_last K.x _ _ _ _ _ _ _ _ _ _ _ _ _ _ _ _ _ (by omega) (by omega) hbad hlast W hW) w h.row).mono fun e w' hr => ?_
        exact h.to_row _ hr rfl rfl rfl (by show K.s.list + 1 ≤ K.nh; omega) (fun e => absurd rfl e) (fun _ e => absurd e no43) h.ky z64
      · have hs : K.s.goOn g x = { K.s with slot := 0, val := 0, list := K.s.list + 1, pc := 0 } := by
          unfold MS.goOn; rw [if_pos h0]; unfold MS.over; rw [if_neg hbad, hf.nh, if_neg hlast]
        rw [hs]
        refine (goOn138_over K.x _ _ _ _ _ _ _ _ _ _ _ _ _ _ _ (x : Int) hX hz _ (Lib.hid fun W hW => over226_more K.x _ _ _ _ _ _ _ _ _ _ _ _ _ _ _ _ _ (by omega) (by omega) hbad hlast W hW) w h.row).mono fun e w' hr => ?_
        exact h.to_row _ hr rfl rfl rfl (by show K.s.list + 1 ≤ K.nh; omega) (fun _ => by show K.s.list + 1 < K.nh; omega) (fun e => absurd e no10) h.ky z64
  · obtain ⟨n, hn⟩ : ∃ n, n = lo x - 1 := ⟨_, rfl⟩
    have hz : toW (x : Int) = (n : Int) := by rw [to_lo]; omega
    have hnS : n < K.S := by omega
    have hlo : lo x = n + 1 := by omega
    have hsl : (((n + 1 : Nat) : Int) - 1) = (n : Int) := by omega
    cases hmt : K.s.met n with
    | true =>
      have hs : K.s.goOn g x = { K.s with slot := n + 1, val := 0, corrupt := true, pc := 4 } := by
        unfold MS.goOn; rw [if_neg h0, if_pos (by rw [← hn]; exact hmt), hlo]; rfl
      rw [hs]
      refine (goOn138_met K.x _ _ _ _ _ _ _ _ _ _ _ _ K.s.list (by omega) K.s.first K.mb K.S K.cm h.xm K.s.met n hnS hS (x : Int) hX hz hmt w h.row h.met).mono fun e w' hr => ?_
      refine h.to_met _ hr (by simp only [Mk.cells, hsl]; rfl) ?_ rfl rfl h.li (fun e => absurd rfl e) (fun _ e => absurd e no43) h.ky z64
      funext k; unfold addMet; split
      · rename_i e; rw [e]; exact hmt
      · rfl
    | false =>
      by_cases hl0 : K.s.list = 0
      · cases hfs : K.s.first with
        | true =>
          have hs : K.s.goOn g x = { K.s with slot := n + 1, val := 0, met := addMet K.s.met n, pc := 3 } := by
            unfold MS.goOn; rw [if_neg h0, ← hn, if_neg (by rw [hmt]; decide), hlo, if_neg (by omega), if_pos hfs]
          rw [hs]
          refine (goOn138_links K.x _ _ _ _ _ _ _ _ _ _ _ _ K.s.list (by omega) K.s.first K.mb K.S K.cm h.xm K.s.met n hnS hS (x : Int) hX hz hmt hl0 hfs w h.row h.met).mono fun e w' hr => ?_
          exact h.to_met _ hr (by simp only [Mk.cells, hsl]; rfl) rfl rfl rfl h.li (fun _ => hl) (fun _ _ => ⟨by show 1 ≤ n + 1; omega, by show n + 1 ≤ K.S; omega⟩) h.ky z64
        | false =>
          have hs : K.s.goOn g x = { K.s with slot := n + 1, val := 0, met := addMet K.s.met n, pc := 2 } := by
            unfold MS.goOn; rw [if_neg h0, ← hn, if_neg (by rw [hmt]; decide), hlo, if_neg (by omega), if_neg (by rw [hfs]; decide)]
          rw [hs]
          refine (goOn138_vals K.x _ _ _ _ _ _ _ _ _ _ _ _ K.s.list (by omega) K.s.first K.mb K.S K.cm h.xm K.s.met n hnS hS (x : Int) hX hz hmt hl0 hfs w h.row h.met).mono fun e w' hr => ?_
          exact h.to_met _ hr (by simp only [Mk.cells, hsl]; rfl) rfl rfl rfl h.li (fun _ => hl) (fun _ _ => ⟨by show 1 ≤ n + 1; omega, by show n + 1 ≤ K.S; omega⟩) h.ky z64
      · have hs : K.s.goOn g x = { K.s with slot := n + 1, val := 0, met := addMet K.s.met n, pc := 1 } := by
          unfold MS.goOn; rw [if_neg h0, ← hn, if_neg (by rw [hmt]; decide), hlo, if_pos hl0]
        rw [hs]
        refine (goOn138_keys K.x _ _ _ _ _ _ _ _ _ _ _ _ K.s.list (by omega) K.s.first K.mb K.S K.cm h.xm K.s.met n hnS hS (x : Int) hX hz hmt hl0 w h.row h.met).mono fun e w' hr => ?_
        exact h.to_met _ hr (by simp only [Mk.cells, hsl]; rfl) rfl rfl rfl h.li (fun _ => hl) (fun _ _ => ⟨by show 1 ≤ n + 1; omega, by show n + 1 ≤ K.S; omega⟩) h.ky z64

end Go.Proofs.YtibelcmdfkgonaaGreat

namespace Go.Proofs.YtibelcmdfkgonaaGreat
open Go.RowKit Go.BigFrame
set_option linter.unusedVariables false
set_option linter.unusedSimpArgs false
/-- 'append(s, x)' of new elements that lie in the block just made; where the slice lies then. -/
theorem wpList_push_at {P : Program} {ops : Array Oper} {rest : List Oper} {o : Oper} {a : Act} {Q : Exit → Act → World → Prop} (hgd : o.guard = none) (s x : Operand) (t : TypeId)
    (ho : o.op = .call { callee := .builtin .append, args := #[s, x], argTypes := #[t, t] })
    (e : TypeId) (i : TypeInfo) (z : Value) (size bytes : Nat) (ht : P.underlying t = some (.slice e)) (hi : P.info? e = some i) (hz : i.zero = some z)
    (hsize : i.size = size) (hby : i.bytes = bytes) (hzs : z.cells.size = size) (hsz : 0 < size)
    (wr : World) (v : Value) (n : Nat) (xs : List Value) (hs : a.eval s = v) (hown : wr.ownsRow 0 e size v n xs)
    (cs : Array Value) (m c : Nat) (hx : a.eval x = .slice (some ⟨wr.heap.size, 0, none⟩) m c) (hl : cs.size = m * size) (h1 : ∀ u ∈ cs.toList, u.oneCell' = true)
    (h63 : n + m ≤ maxLen) (hbytes : (n + m) * bytes ≤ 140737488355328)
    (h : ∀ v' w', w'.ownsRow 0 e size v' (n + m) (xs ++ cs.toList) → (wr.alloc (.cells cs e)).grownBy w' v.ownBlock → (v'.ownBlock = v.ownBlock ∨ v'.ownBlock = some (wr.heap.size + 1)) → wpList P ops Q rest (a.put o.dst v') w') :
    wpList P ops Q (o :: rest) a (wr.alloc (.cells cs e)) := by
  refine wpList_append_own_at _ hgd s x t ho 0 e i z size bytes ht hi hz hsize hby hzs hsz v n xs hs (hown.alloc _) ⟨wr.heap.size, 0, none⟩ m c cs.toList hx (by simpa using hl) (fun j u hj => cell_alloc wr cs e j u hj) h1 h63 hbytes (Nat.zero_le _) ?_
  intro v' w' ho' hg' _ hat
  refine h v' w' ho' hg' ?_
  rcases hat with hat | hat
  · exact .inl hat
  · exact .inr (by rw [hat]; simp)
/-- A mark whose lists lie anew. -/
theorem MkAt.renew {W W1 : World} {K : Mk} (h : MkAt W K) (hv1 nv1 : Value) (s1 : MS) (hrow : W1.heap[K.x]? = some (.cells ({ K with s := s1, hv := hv1, nv := nv1 } : Mk).cells 149 (0, 0)))
    (kb : ∀ k, k < W.heap.size → k ≠ K.x → K.hv.ownBlock ≠ some k → K.nv.ownBlock ≠ some k → W1.heap[k]? = W.heap[k]?)
    (heads : W1.ownsRow 0 48 1 hv1 s1.heads.length (headsV s1.heads)) (nodes : W1.ownsRow 0 50 4 nv1 s1.nodes.length (nodesV s1.nodes))
    (bh : ∀ k, hv1.ownBlock = some k → K.hv.ownBlock = some k ∨ W.heap.size ≤ k) (bn : ∀ k, nv1.ownBlock = some k → K.nv.ownBlock = some k ∨ W.heap.size ≤ k) (dj : ∀ k, hv1.ownBlock = some k → nv1.ownBlock ≠ some k)
    (e1 : s1.met = K.s.met) (li : s1.list ≤ K.nh) (lip : s1.pc ≠ 4 → s1.list < K.nh) (sl : 1 ≤ s1.pc → s1.pc ≤ 3 → 1 ≤ s1.slot ∧ s1.slot ≤ K.S) (ky : s1.key < 18446744073709551616) (vl : s1.val < 18446744073709551616) :
    MkAt W1 { K with s := s1, hv := hv1, nv := nv1 } := by
  have lx := lt_row h.row
  have nh : ∀ k, k < W.heap.size → K.hv.ownBlock ≠ some k → hv1.ownBlock ≠ some k := fun k hk hn e => by rcases bh k e with h1 | h1; exact hn h1; omega
  have nn : ∀ k, k < W.heap.size → K.nv.ownBlock ≠ some k → nv1.ownBlock ≠ some k := fun k hk hn e => by rcases bn k e with h1 | h1; exact hn h1; omega
  have hlo := h.lo
  have nl : K.l ≠ K.x ∧ K.l ≠ K.wb ∧ K.l ≠ K.mb ∧ K.hv.ownBlock ≠ some K.l ∧ K.nv.ownBlock ≠ some K.l :=
    ⟨fun e => hlo (.inl e), fun e => hlo (.inr (.inl e)), fun e => hlo (.inr (.inr (.inl e))), fun e => hlo (.inr (.inr (.inr (.inl e)))), fun e => hlo (.inr (.inr (.inr (.inr e))))⟩
  exact
  { row := hrow
    lay := h.lay.keep (kb _ h.lay.lt nl.1 nl.2.2.2.1 nl.2.2.2.2)
    ways := h.ways.keep (kb _ h.ways.lt (Ne.symm h.xw) h.hx.2.1 h.nx.2.1)
    met := by show RowAt W1 K.mb K.S fun k => .bool (s1.met k); rw [e1]; exact h.met.keep (kb _ h.met.lt (Ne.symm h.xm) h.hx.2.2 h.nx.2.2)
    heads := heads
    nodes := nodes
    xw := h.xw, xm := h.xm, wm := h.wm
    lo := by
      rintro (e | e | e | e | e)
      · exact nl.1 e
      · exact nl.2.1 e
      · exact nl.2.2.1 e
      · exact nh _ h.lay.lt nl.2.2.2.1 e
      · exact nn _ h.lay.lt nl.2.2.2.2 e
    hx := ⟨nh _ lx h.hx.1, nh _ h.ways.lt h.hx.2.1, nh _ h.met.lt h.hx.2.2⟩
    nx := ⟨nn _ lx h.nx.1, nn _ h.ways.lt h.nx.2.1, nn _ h.met.lt h.nx.2.2⟩
    hn := dj, hS := h.hS, nh1 := h.nh1, li := li, lip := lip, sl := sl, ky := ky, vl := vl }
/-- First a turn of its own, then a step. -/
theorem MkTo.after {W W1 W' : World} {K : Mk} {hv1 nv1 : Value} {s1 s' : MS} {e : Ending} (h : MkAt W K) (t : Turn K.own W W1)
    (bh : ∀ k, hv1.ownBlock = some k → K.hv.ownBlock = some k ∨ W.heap.size ≤ k) (bn : ∀ k, nv1.ownBlock = some k → K.nv.ownBlock = some k ∨ W.heap.size ≤ k)
    (k : MkTo { K with s := s1, hv := hv1, nv := nv1 } s' W1 e W') : MkTo K s' W e W' := by
  obtain ⟨hu, t2, hv2, nv2, h2, b1, b2⟩ := k
  refine ⟨hu, t.trans t2 (fun k hk ho => ?_), hv2, nv2, h2, fun k hk => ?_, fun k hk => ?_⟩
  · rcases ho with e | e | e | e | e
    · exact .inl e
    · exact .inr (.inl e)
    · exact .inr (.inr (.inl e))
    · rcases bh k e with h1 | h1
      · exact .inr (.inr (.inr (.inl h1)))
      · omega
    · rcases bn k e with h1 | h1
      · exact .inr (.inr (.inr (.inr h1)))
      · omega
  · rcases b1 k hk with h1 | h1
    · exact bh k h1
    · exact .inr (Nat.le_trans t.size h1)
  · rcases b2 k hk with h1 | h1
    · exact bn k h1
    · exact .inr (Nat.le_trans t.size h1)
end Go.Proofs.YtibelcmdfkgonaaGreat
