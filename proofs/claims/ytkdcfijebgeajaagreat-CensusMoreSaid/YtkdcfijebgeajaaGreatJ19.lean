/- Layer 7: an access to a word.
   Layer 7: load, store, swap.
   Layers 4, 7: flush.
   Layers 4, 7: lines are written back; fence. -/
import Derived.Test.YtkdcfijebgeajaaGreatJ18
namespace Go.Proofs.YtkdcfijebgeajaaGreat
open Go.RowKit Go.BigFrame
set_option linter.unusedVariables false
set_option linter.unusedSimpArgs false
/-- What an access to a word answers, and what it leaves. -/
def Mv.res (M : Mv) (x : Acc) (pu : Bool) : Acc := if (M.peek x.pl).2 then ⟨x.ki, x.th, x.pl, (M.peek x.pl).1, x.ne, pu || x.ki == 1⟩ else x
def Mv.did (M : Mv) (x : Acc) (nw : Int) (pu : Bool) : Mv := (if (M.peek x.pl).2 && pu then M.put x.pl nw else M).note (M.res x pu) (M.peek x.pl).2
/-- It answers a struct; the memory is as told; nothing else has turned. -/
def DoneV (M M' : Mv) (v : Value) (W : World) (e : Ending) (W' : World) : Prop := e = .returned v ∧ MemAt W' M' ∧ Turn M.own W W'
theorem row6 {W : World} {b : Nat} {k0 k1 k2 k3 k4 k5 : Value} {t : TypeId} (h : W.heap[b]? = some (.cells #[k0, k1, k2, k3, k4, k5] t (0, 0))) :
    W.cell? ⟨b, 0, none⟩ = some k0 ∧ W.cell? ⟨b, 1, none⟩ = some k1 ∧ W.cell? ⟨b, 2, none⟩ = some k2 ∧ W.cell? ⟨b, 3, none⟩ = some k3 ∧ W.cell? ⟨b, 4, none⟩ = some k4 ∧ W.cell? ⟨b, 5, none⟩ = some k5 ∧ ∀ j, W.frozen? ⟨b, j, none⟩ = false := by
  refine ⟨?_, ?_, ?_, ?_, ?_, ?_, fun j => ?_⟩
  all_goals first | (rw [cell_of_row _ _ _ _ _ _ h]; rfl) | (unfold World.frozen?; rw [h]; simp)
theorem two_new (W : World) (a b : Obj) : ((W.alloc a).alloc b).heap[W.heap.size]? = some a ∧ ((W.alloc a).alloc b).heap[W.heap.size + 1]? = some b := by
  constructor
  · rw [Below.heap_alloc _ _ _ (by simp)]; exact heap_alloc_new W a
  · have := heap_alloc_new (W.alloc a) b; simpa using this
theorem two_news {W w : World} {a b : Obj} (h : w.heap = ((W.alloc a).alloc b).heap) : w.heap[W.heap.size]? = some a ∧ w.heap[W.heap.size + 1]? = some b := by
  rw [h]; exact two_new W a b
theorem cell_set_at {w : World} {b j : Nat} {u : Value} (v : Value) (h : w.cell? ⟨b, j, none⟩ = some u) : (w.setCell ⟨b, j, none⟩ v).cell? ⟨b, j, none⟩ = some v := by
  unfold World.cell? at h
  split at h
  · rename_i c t f e
    simp at h
    have hl : j < c.size := (Array.getElem?_eq_some_iff.1 h).1
    rw [cell_of_row _ _ j _ _ _ (heap_set v e)]
    simp [hl]
  · cases h
theorem six_sets {F : Nat → Prop} {a w : World} (h : Turn F a w) {b : Nat} (hb : a.heap.size ≤ b) (v0 v1 v2 v3 v4 v5 : Value) :
    Turn F a ((((((w.setCell ⟨b, 0, none⟩ v0).setCell ⟨b, 1, none⟩ v1).setCell ⟨b, 2, none⟩ v2).setCell ⟨b, 3, none⟩ v3).setCell ⟨b, 4, none⟩ v4).setCell ⟨b, 5, none⟩ v5) := by
  have e : b < a.heap.size → F b := fun x => by omega
  exact ((((((h.set e _ _).set e _ _).set e _ _).set e _ _).set e _ _).set e _ _)
theorem MemAt.six {w : World} {M : Mv} (h : MemAt w M) {b : Nat} (hb : ¬ M.own b) (v0 v1 v2 v3 v4 v5 : Value) :
    MemAt ((((((w.setCell ⟨b, 0, none⟩ v0).setCell ⟨b, 1, none⟩ v1).setCell ⟨b, 2, none⟩ v2).setCell ⟨b, 3, none⟩ v3).setCell ⟨b, 4, none⟩ v4).setCell ⟨b, 5, none⟩ v5) M := by
  refine h.keep fun k hk => ?_
  have e : k ≠ b := fun e => hb (e ▸ hk)
  rw [heap_set_other e, heap_set_other e, heap_set_other e, heap_set_other e, heap_set_other e, heap_set_other e]
theorem six_row {w : World} {b : Nat} {k0 k1 k2 k3 k4 k5 : Value} {t : TypeId} {f : Nat × Nat} (h : w.heap[b]? = some (.cells #[k0, k1, k2, k3, k4, k5] t f)) (v0 v1 v2 v3 v4 v5 : Value) :
    ((((((w.setCell ⟨b, 0, none⟩ v0).setCell ⟨b, 1, none⟩ v1).setCell ⟨b, 2, none⟩ v2).setCell ⟨b, 3, none⟩ v3).setCell ⟨b, 4, none⟩ v4).setCell ⟨b, 5, none⟩ v5).heap[b]? = some (.cells #[v0, v1, v2, v3, v4, v5] t f) := by
  rw [heap_set v5 (heap_set v4 (heap_set v3 (heap_set v2 (heap_set v1 (heap_set v0 h)))))]
  rfl
/-- A function whose result is an access in memory. -/
theorem results_acc {fn : Func} {s : Nat} (hf : fn.results = #[.cell s 109]) {tmps : Array Value} {b : Nat} (ht : tmps.getD s undef = .pointer (some ⟨b, 0, none⟩)) {w : World} {v0 v1 v2 v3 v4 v5 : Value}
    (h : w.heap[b]? = some (.cells #[v0, v1, v2, v3, v4, v5] 109 (0, 0))) : (results fn tmps).run Tryz.prog w = .ok (.agg #[v0, v1, v2, v3, v4, v5]) w := by
  obtain ⟨z0, z1, z2, z3, z4, z5, zf⟩ := row6 h
  have ht' : tmps[s]?.getD undef = .pointer (some ⟨b, 0, none⟩) := by simpa using ht
  simp only [results, hf]
  simp [go_sem, ht', z0, z1, z2, z3, z4, z5]
theorem MemAt.not_own {W : World} {M : Mv} (h : MemAt W M) {k : Nat} (hk : W.heap.size ≤ k) : ¬ M.own k := fun e => by have := h.lt e; omega
set_option maxRecDepth 100000 in
theorem word52_no (M : Mv) (x : Acc) (fv : Value) (W : World) (h : MemAt W M) (hc : M.ck ≤ 1000000) (q0 : -9223372036854775808 ≤ x.pl) (q1 : x.pl ≤ 9223372036854775807) (hp : (M.peek x.pl).2 = false) :
    Calls Tryz.prog 109 #[.pointer (some ⟨M.m, 0, none⟩), .agg x.cells, fv] W (DoneV M (M.note x false) (.agg x.cells) W) := by
  have HM := Lib.hid h
  have HP : Hid (∀ w, MemAt w M → Calls Tryz.prog 169 #[.pointer (some ⟨M.m, 0, none⟩), .int .i64 x.pl] w (Tells (.tuple #[.int .u64 (M.peek x.pl).1, .bool false]) w)) := Lib.hid fun w hw => by have := peekM M x.pl q0 q1 w hw; rw [hp] at this; exact this
  have HC : Hid (∀ w, MemAt w M → Calls Tryz.prog 171 #[.pointer (some ⟨M.m, 0, none⟩), .agg x.cells, .bool false] w (Done M (M.note x false) w)) := Lib.hid fun w hw => countM M x false w hw hc
  clear h hp
  generalize (M.peek x.pl).1 = o at *
  obtain ⟨N, hN⟩ : ∃ N, N = M.note x false := ⟨_, rfl⟩
  have HN : Hid (∀ k, N.own k → M.own k) := Lib.hid fun k hk => by rw [hN] at hk; exact hk
  rw [← hN] at HC ⊢
  clear hN
  obtain ⟨ki, th, pl, ol, ne, dn⟩ := x
  simp only [Acc.cells] at *
  go_enter Tryz.func109, Tryz.ntmps109
  go_wp2_with fail
  refine (HP.out _ (HM.out.below (((Below.refl _ _).alloc (Nat.le_refl _) _).alloc (by simp) _))).mono ?_
  rintro e w1 ⟨rfl, hb, hh⟩
  have HH := Lib.hid hh
  obtain ⟨ra, rr⟩ := two_news hh
  obtain ⟨a0, a1, a2, a3, a4, a5, af⟩ := row6 ra
  obtain ⟨r0, r1, r2, r3, r4, r5, rf⟩ := row6 rr
  have HB : Hid (Below W.heap.size W w1) := Lib.hid ((((Below.refl _ _).alloc (Nat.le_refl _) _).alloc (by simp) _).trans (hb.mono (by simp; omega)))
  have HS : Hid (W.heap.size + 1 < w1.heap.size) := Lib.hid (by rw [hh]; simp)
  have HA := Lib.hid ra
  have HR := Lib.hid rr
  clear hb hh ra rr
  go_wp2_with fail
  refine (HC.out _ (HM.out.below HB.out)).mono ?_
  rintro e w2 ⟨⟨x, rfl⟩, hm, ht⟩
  have HT := Lib.hid ((Turn.of_below (F := M.own) HB.out).trans ht (fun _ _ h => h))
  have ra := (ht.block W.heap.size (by have := HS.out; omega) (HM.out.not_own (by omega))).trans HA.out
  have rr := (ht.block (W.heap.size + 1) (by have := HS.out; omega) (HM.out.not_own (by omega))).trans HR.out
  have HM2 := Lib.hid hm
  clear hm ht a0 a1 a2 a3 a4 a5 af r0 r1 r2 r3 r4 r5 rf
  obtain ⟨a0, a1, a2, a3, a4, a5, af⟩ := row6 ra
  obtain ⟨r0, r1, r2, r3, r4, r5, rf⟩ := row6 rr
  have HA2 := Lib.hid ra
  have HR2 := Lib.hid rr
  clear ra rr
  go_wp2_with fail
  refine bodyPost_ret (v := .agg #[.int .i64 ki, .int .i64 th, .int .i64 pl, .int .u64 ol, .int .u64 ne, .bool dn]) ?_ rfl ?_
  · exact results_acc rfl rfl (six_row HR2.out _ _ _ _ _ _)
  · exact ⟨rfl, HM2.out.six (fun e => HM.out.not_own (by omega) (HN.out _ e)) _ _ _ _ _ _, six_sets HT.out (by omega) _ _ _ _ _ _⟩
set_option maxRecDepth 100000 in
theorem word52_puts (M : Mv) (x : Acc) (f : Nat) (lb : Array Value) (nw : Int) (ef : ∀ args w, (callFunc f args).run Tryz.prog w = .ok (.enter f args) w) (W : World) (h : MemAt W M) (hc : M.ck ≤ 1000000) (q0 : -9223372036854775808 ≤ x.pl) (q1 : x.pl ≤ 9223372036854775807) (hp : (M.peek x.pl).2 = true)
    (hf : ∀ w1, Below W.heap.size W w1 → Calls Tryz.prog f (#[.int .u64 (M.peek x.pl).1] ++ lb) w1 (Tells (.tuple #[.int .u64 nw, .bool true]) w1)) :
    Calls Tryz.prog 109 #[.pointer (some ⟨M.m, 0, none⟩), .agg x.cells, .func (.func f) #[] lb] W (DoneV M ((M.put x.pl nw).note ⟨x.ki, x.th, x.pl, (M.peek x.pl).1, x.ne, true || x.ki == 1⟩ true) (.agg (Acc.cells ⟨x.ki, x.th, x.pl, (M.peek x.pl).1, x.ne, true || x.ki == 1⟩)) W) := by
  have HM := Lib.hid h
  have HP : Hid (∀ w, MemAt w M → Calls Tryz.prog 169 #[.pointer (some ⟨M.m, 0, none⟩), .int .i64 x.pl] w (Tells (.tuple #[.int .u64 (M.peek x.pl).1, .bool true]) w)) := Lib.hid fun w hw => by have := peekM M x.pl q0 q1 w hw; rw [hp] at this; exact this
  have HQ : Hid (∀ w, MemAt w M → Calls Tryz.prog 170 #[.pointer (some ⟨M.m, 0, none⟩), .int .i64 x.pl, .int .u64 nw] w (Done M (M.put x.pl nw) w)) := Lib.hid fun w hw => putM M x.pl nw w hw hp
  have HO : Hid (∀ k, (M.put x.pl nw).own k → M.own k) := Lib.hid fun k hk => by rw [Mv.put_own] at hk; exact hk
  have hck : (M.put x.pl nw).ck ≤ 1000000 := by rw [Mv.put_ck]; exact hc
  have hem : (M.put x.pl nw).m = M.m := Mv.put_m _ _ _
  have HF := Lib.hid hf
  clear h hp hf
  generalize (M.peek x.pl).1 = o at *
  obtain ⟨y, hy⟩ : ∃ y, y = (true || x.ki == 1) := ⟨_, rfl⟩
  rw [← hy]
  obtain ⟨N0, hN0⟩ : ∃ N0, N0 = M.put x.pl nw := ⟨_, rfl⟩
  rw [← hN0] at HQ HO hck hem ⊢
  clear hN0
  have HC : Hid (∀ w, MemAt w N0 → Calls Tryz.prog 171 #[.pointer (some ⟨M.m, 0, none⟩), .agg (Acc.cells ⟨x.ki, x.th, x.pl, o, x.ne, y⟩), .bool true] w (Done N0 (N0.note ⟨x.ki, x.th, x.pl, o, x.ne, y⟩ true) w)) := Lib.hid fun w hw => by have := countM N0 ⟨x.ki, x.th, x.pl, o, x.ne, y⟩ true w hw hck; rw [hem] at this; exact this
  obtain ⟨N, hN⟩ : ∃ N, N = N0.note ⟨x.ki, x.th, x.pl, o, x.ne, y⟩ true := ⟨_, rfl⟩
  have HN : Hid (∀ k, N.own k → M.own k) := Lib.hid fun k hk => HO.out k (by rw [hN] at hk; exact hk)
  rw [← hN] at HC ⊢
  clear hN hck hem
  obtain ⟨ki, th, pl, ol, ne, dn⟩ := x
  simp only [Acc.cells] at *
  have HY := Lib.hid hy
  clear hy
  go_enter Tryz.func109, Tryz.ntmps109
  go_wp2_with fail
  refine (HP.out _ (HM.out.below (((Below.refl _ _).alloc (Nat.le_refl _) _).alloc (by simp) _))).mono ?_
  rintro e w1 ⟨rfl, hb, hh⟩
  obtain ⟨ra, rr⟩ := two_news hh
  obtain ⟨a0, a1, a2, a3, a4, a5, af⟩ := row6 ra
  have HB : Hid (Below W.heap.size W w1) := Lib.hid ((((Below.refl _ _).alloc (Nat.le_refl _) _).alloc (by simp) _).trans (hb.mono (by simp; omega)))
  have HS : Hid (W.heap.size + 1 < w1.heap.size) := Lib.hid (by rw [hh]; simp)
  have HA := Lib.hid ra
  have HR := Lib.hid rr
  clear hb hh ra rr
  go_wp2_with fail
  with_reducible refine (HF.out _ (HB.out.setCell (Nat.le_refl _) _)).mono ?_
  rintro e w2 ⟨rfl, hb, hh⟩
  have ra := heap_set (j := 3) (.int .u64 o) HA.out
  have rr := (heap_set_other (j := 3) (v := .int .u64 o) (show W.heap.size + 1 ≠ W.heap.size by omega)).trans HR.out
  rw [← hh] at ra rr
  have HB2 : Hid (Below W.heap.size W w2) := Lib.hid ((HB.out.setCell (Nat.le_refl _) _).trans (hb.mono (by have := HS.out; simp [World.setCell]; omega)))
  have HS2 : Hid (W.heap.size + 1 < w2.heap.size) := Lib.hid (by rw [hh]; have := HS.out; simpa [World.setCell] using this)
  simp only [List.setIfInBounds_toArray, List.set_cons_succ, List.set_cons_zero] at ra
  have HA2 := Lib.hid ra
  have HR2 := Lib.hid rr
  clear a0 a1 a2 a3 a4 a5 af hb hh
  obtain ⟨a0, a1, a2, a3, a4, a5, af⟩ := row6 ra
  clear ra rr
  go_wp2_with fail
  refine (HQ.out _ (HM.out.below HB2.out)).mono ?_
  rintro e w3 ⟨⟨u, rfl⟩, hm, ht⟩
  have HT3 := Lib.hid ((Turn.of_below (F := M.own) HB2.out).trans ht (fun _ _ h => h))
  have ra := (ht.block W.heap.size (by have := HS2.out; omega) (HM.out.not_own (by omega))).trans HA2.out
  have rr := (ht.block (W.heap.size + 1) (by have := HS2.out; omega) (HM.out.not_own (by omega))).trans HR2.out
  have HS3 : Hid (W.heap.size + 1 < w3.heap.size) := Lib.hid (Nat.lt_of_lt_of_le HS2.out ht.size)
  have HM3 := Lib.hid hm
  have HA3 := Lib.hid ra
  have HR3 := Lib.hid rr
  clear hm ht a0 a1 a2 a3 a4 a5 af
  obtain ⟨a0, a1, a2, a3, a4, a5, af⟩ := row6 ra
  clear ra rr
  go_wp2_with fail
  obtain rfl : y = true := by rw [HY.out]; simp
  have hmA : MemAt (w3.setCell ⟨W.heap.size, 5, none⟩ (.bool true)) N0 := HM3.out.keep fun k hk => heap_set_other fun e => HM.out.not_own (Nat.le_refl _) (e ▸ HO.out k hk)
  refine (HC.out _ hmA).mono ?_
  rintro e w4 ⟨⟨u', rfl⟩, hm, ht⟩
  have HT4 : Hid (Turn M.own W w4) := Lib.hid ((HT3.out.set (fun e => absurd e (by omega)) _ _).trans ht (fun k _ hk => HO.out k hk))
  have ra := (ht.block W.heap.size (by have := HS3.out; simp [World.setCell]; omega) (fun e => HM.out.not_own (Nat.le_refl _) (HO.out _ e))).trans (heap_set (j := 5) (.bool true) HA3.out)
  have rr := (ht.block (W.heap.size + 1) (by have := HS3.out; simp [World.setCell]; omega) (fun e => HM.out.not_own (by omega) (HO.out _ e))).trans ((heap_set_other (j := 5) (v := .bool true) (show W.heap.size + 1 ≠ W.heap.size by omega)).trans HR3.out)
  simp only [List.setIfInBounds_toArray, List.set_cons_succ, List.set_cons_zero] at ra
  have HM4 := Lib.hid hm
  have HR4 := Lib.hid rr
  clear hm ht a0 a1 a2 a3 a4 a5 af hmA
  obtain ⟨a0, a1, a2, a3, a4, a5, af⟩ := row6 ra
  obtain ⟨r0, r1, r2, r3, r4, r5, rf⟩ := row6 rr
  clear ra rr
  go_wp2_with fail
  refine bodyPost_ret (v := .agg #[.int .i64 ki, .int .i64 th, .int .i64 pl, .int .u64 o, .int .u64 ne, .bool true]) ?_ rfl ?_
  · exact results_acc rfl rfl (six_row HR4.out _ _ _ _ _ _)
  · exact ⟨rfl, HM4.out.six (fun e => HM.out.not_own (by omega) (HN.out _ e)) _ _ _ _ _ _, six_sets HT4.out (by omega) _ _ _ _ _ _⟩
set_option maxRecDepth 100000 in
theorem word52_looks (M : Mv) (x : Acc) (f : Nat) (lb : Array Value) (nw : Int) (ef : ∀ args w, (callFunc f args).run Tryz.prog w = .ok (.enter f args) w) (W : World) (h : MemAt W M) (hc : M.ck ≤ 1000000) (q0 : -9223372036854775808 ≤ x.pl) (q1 : x.pl ≤ 9223372036854775807) (hp : (M.peek x.pl).2 = true)
    (hf : ∀ w1, Below W.heap.size W w1 → Calls Tryz.prog f (#[.int .u64 (M.peek x.pl).1] ++ lb) w1 (Tells (.tuple #[.int .u64 nw, .bool false]) w1)) :
    Calls Tryz.prog 109 #[.pointer (some ⟨M.m, 0, none⟩), .agg x.cells, .func (.func f) #[] lb] W (DoneV M (M.note ⟨x.ki, x.th, x.pl, (M.peek x.pl).1, x.ne, false || x.ki == 1⟩ true) (.agg (Acc.cells ⟨x.ki, x.th, x.pl, (M.peek x.pl).1, x.ne, false || x.ki == 1⟩)) W) := by
  have HM := Lib.hid h
  have HP : Hid (∀ w, MemAt w M → Calls Tryz.prog 169 #[.pointer (some ⟨M.m, 0, none⟩), .int .i64 x.pl] w (Tells (.tuple #[.int .u64 (M.peek x.pl).1, .bool true]) w)) := Lib.hid fun w hw => by have := peekM M x.pl q0 q1 w hw; rw [hp] at this; exact this
  have HF := Lib.hid hf
  clear h hp hf
  generalize (M.peek x.pl).1 = o at *
  obtain ⟨y, hy⟩ : ∃ y, y = (false || x.ki == 1) := ⟨_, rfl⟩
  rw [← hy]
  obtain ⟨N0, hN0⟩ : ∃ N0, N0 = M := ⟨_, rfl⟩
  have hck : N0.ck ≤ 1000000 := by rw [hN0]; exact hc
  have hem : N0.m = M.m := by rw [hN0]
  have HO : Hid (∀ k, N0.own k → M.own k) := Lib.hid fun k hk => by rw [hN0] at hk; exact hk
  have HE := Lib.hid hN0
  rw [show M.note ⟨x.ki, x.th, x.pl, o, x.ne, y⟩ true = N0.note ⟨x.ki, x.th, x.pl, o, x.ne, y⟩ true by rw [hN0]]
  clear hN0
  have HC : Hid (∀ w, MemAt w N0 → Calls Tryz.prog 171 #[.pointer (some ⟨M.m, 0, none⟩), .agg (Acc.cells ⟨x.ki, x.th, x.pl, o, x.ne, y⟩), .bool true] w (Done N0 (N0.note ⟨x.ki, x.th, x.pl, o, x.ne, y⟩ true) w)) := Lib.hid fun w hw => by have := countM N0 ⟨x.ki, x.th, x.pl, o, x.ne, y⟩ true w hw hck; rw [hem] at this; exact this
  obtain ⟨N, hN⟩ : ∃ N, N = N0.note ⟨x.ki, x.th, x.pl, o, x.ne, y⟩ true := ⟨_, rfl⟩
  have HN : Hid (∀ k, N.own k → M.own k) := Lib.hid fun k hk => HO.out k (by rw [hN] at hk; exact hk)
  rw [← hN] at HC ⊢
  clear hN hck hem
  obtain ⟨ki, th, pl, ol, ne, dn⟩ := x
  simp only [Acc.cells] at *
  have HY := Lib.hid hy
  clear hy
  go_enter Tryz.func109, Tryz.ntmps109
  go_wp2_with fail
  refine (HP.out _ (HM.out.below (((Below.refl _ _).alloc (Nat.le_refl _) _).alloc (by simp) _))).mono ?_
  rintro e w1 ⟨rfl, hb, hh⟩
  obtain ⟨ra, rr⟩ := two_news hh
  obtain ⟨a0, a1, a2, a3, a4, a5, af⟩ := row6 ra
  have HB : Hid (Below W.heap.size W w1) := Lib.hid ((((Below.refl _ _).alloc (Nat.le_refl _) _).alloc (by simp) _).trans (hb.mono (by simp; omega)))
  have HS : Hid (W.heap.size + 1 < w1.heap.size) := Lib.hid (by rw [hh]; simp)
  have HA := Lib.hid ra
  have HR := Lib.hid rr
  clear hb hh ra rr
  go_wp2_with fail
  with_reducible refine (HF.out _ (HB.out.setCell (Nat.le_refl _) _)).mono ?_
  rintro e w2 ⟨rfl, hb, hh⟩
  have ra := heap_set (j := 3) (.int .u64 o) HA.out
  have rr := (heap_set_other (j := 3) (v := .int .u64 o) (show W.heap.size + 1 ≠ W.heap.size by omega)).trans HR.out
  rw [← hh] at ra rr
  have HB2 : Hid (Below W.heap.size W w2) := Lib.hid ((HB.out.setCell (Nat.le_refl _) _).trans (hb.mono (by have := HS.out; simp [World.setCell]; omega)))
  have HS2 : Hid (W.heap.size + 1 < w2.heap.size) := Lib.hid (by rw [hh]; have := HS.out; simpa [World.setCell] using this)
  simp only [List.setIfInBounds_toArray, List.set_cons_succ, List.set_cons_zero] at ra
  have HA2 := Lib.hid ra
  have HR2 := Lib.hid rr
  clear a0 a1 a2 a3 a4 a5 af hb hh
  obtain ⟨a0, a1, a2, a3, a4, a5, af⟩ := row6 ra
  clear ra rr
  have HT3 : Hid (Turn M.own W w2) := Lib.hid (Turn.of_below HB2.out)
  have HM3 : Hid (MemAt w2 N0) := Lib.hid (by rw [HE.out]; exact HM.out.below HB2.out)
  have HA3 := HA2
  have HR3 := HR2
  have HS3 := HS2
  go_wp2_with fail
  have ky : (ki == 1) = y := by rw [HY.out]; simp
  rw [ky]
  have hmA : MemAt (w2.setCell ⟨W.heap.size, 5, none⟩ (.bool y)) N0 := HM3.out.keep fun k hk => heap_set_other fun e => HM.out.not_own (Nat.le_refl _) (e ▸ HO.out k hk)
  refine (HC.out _ hmA).mono ?_
  rintro e w4 ⟨⟨u', rfl⟩, hm, ht⟩
  have HT4 : Hid (Turn M.own W w4) := Lib.hid ((HT3.out.set (fun e => absurd e (by omega)) _ _).trans ht (fun k _ hk => HO.out k hk))
  have ra := (ht.block W.heap.size (by have := HS3.out; simp [World.setCell]; omega) (fun e => HM.out.not_own (Nat.le_refl _) (HO.out _ e))).trans (heap_set (j := 5) (.bool y) HA3.out)
  have rr := (ht.block (W.heap.size + 1) (by have := HS3.out; simp [World.setCell]; omega) (fun e => HM.out.not_own (by omega) (HO.out _ e))).trans ((heap_set_other (j := 5) (v := .bool y) (show W.heap.size + 1 ≠ W.heap.size by omega)).trans HR3.out)
  simp only [List.setIfInBounds_toArray, List.set_cons_succ, List.set_cons_zero] at ra
  have HM4 := Lib.hid hm
  have HR4 := Lib.hid rr
  clear hm ht a0 a1 a2 a3 a4 a5 af hmA
  obtain ⟨a0, a1, a2, a3, a4, a5, af⟩ := row6 ra
  obtain ⟨r0, r1, r2, r3, r4, r5, rf⟩ := row6 rr
  clear ra rr
  go_wp2_with fail
  refine bodyPost_ret (v := .agg #[.int .i64 ki, .int .i64 th, .int .i64 pl, .int .u64 o, .int .u64 ne, .bool y]) ?_ rfl ?_
  · exact results_acc rfl rfl (six_row HR4.out _ _ _ _ _ _)
  · exact ⟨rfl, HM4.out.six (fun e => HM.out.not_own (by omega) (HN.out _ e)) _ _ _ _ _ _, six_sets HT4.out (by omega) _ _ _ _ _ _⟩
end Go.Proofs.YtkdcfijebgeajaaGreat

namespace Go.Proofs.YtkdcfijebgeajaaGreat
open Go.RowKit Go.BigFrame
set_option linter.unusedVariables false
set_option linter.unusedSimpArgs false
theorem word52M (M : Mv) (x : Acc) (f : Nat) (lb : Array Value) (nw : Int) (pu : Bool) (ef : ∀ args w, (callFunc f args).run Tryz.prog w = .ok (.enter f args) w) (W : World) (h : MemAt W M) (hc : M.ck ≤ 1000000) (q0 : -9223372036854775808 ≤ x.pl) (q1 : x.pl ≤ 9223372036854775807)
    (hf : ∀ w1, Below W.heap.size W w1 → Calls Tryz.prog f (#[.int .u64 (M.peek x.pl).1] ++ lb) w1 (Tells (.tuple #[.int .u64 nw, .bool pu]) w1)) :
    Calls Tryz.prog 109 #[.pointer (some ⟨M.m, 0, none⟩), .agg x.cells, .func (.func f) #[] lb] W (DoneV M (M.did x nw pu) (.agg (M.res x pu).cells) W) := by
  unfold Mv.did Mv.res
  by_cases hp : (M.peek x.pl).2 = true
  · rw [if_pos hp, hp]
    cases pu
    · exact word52_looks M x f lb nw ef W h hc q0 q1 hp hf
    · exact word52_puts M x f lb nw ef W h hc q0 q1 hp hf
  · have hp' : (M.peek x.pl).2 = false := by simpa using hp
    rw [if_neg hp, hp']
    exact word52_no M x _ W h hc q0 q1 hp'
def Mv.load (M : Mv) (t at_ : Int) : Mv := M.did ⟨1, t, at_, 0, 0, false⟩ 0 false
def Mv.store (M : Mv) (t at_ w : Int) : Mv := M.did ⟨2, t, at_, 0, w, false⟩ w true
def Mv.swap (M : Mv) (t at_ old w : Int) : Mv := M.did ⟨3, t, at_, 0, w, false⟩ w ((M.peek at_).1 == old)
theorem Mv.did_own (M : Mv) (x : Acc) (nw : Int) (pu : Bool) : (M.did x nw pu).own = M.own := by
  unfold Mv.did; split
  · exact Mv.put_own M _ _
  · rfl
theorem peek_no {M : Mv} {at_ : Int} (h : (M.peek at_).2 = false) : (M.peek at_).1 = 0 := by
  unfold Mv.peek peekV at *
  by_cases h0 : 0 ≤ at_ <;> by_cases h1 : at_ / 8 < (M.n : Int) <;> by_cases h2 : -1 - at_ < (M.np : Int) <;> simp [h0, h1, h2] at h ⊢
theorem res_ol (M : Mv) (x : Acc) (h : x.ol = 0) (pu : Bool) : (M.res x pu).ol = (M.peek x.pl).1 := by
  unfold Mv.res
  by_cases hp : (M.peek x.pl).2 = true
  · rw [if_pos hp]
  · rw [if_neg hp, h, peek_no (by simpa using hp)]
set_option maxRecDepth 100000 in
theorem load37 (M : Mv) (t at_ : Int) (q0 : -9223372036854775808 ≤ at_) (q1 : at_ ≤ 9223372036854775807) (W : World) (h : MemAt W M) (hc : M.ck ≤ 1000000) :
    Calls Tryz.prog 164 #[.pointer (some ⟨M.m, 0, none⟩), .int .i64 t, .int .i64 at_] W (DoneV M (M.load t at_) (.int .u64 (M.peek at_).1) W) := by
  have H := Lib.hid (word52M M ⟨1, t, at_, 0, 0, false⟩ 215 #[] 0 false (enters_at Tryz.func215 (by kernel_rfl) rfl) W h hc q0 q1 (fun w1 _ => loads53 _ w1))
  have HO := Lib.hid (res_ol M ⟨1, t, at_, 0, 0, false⟩ rfl false)
  have hO : ∀ k, (M.load t at_).own k → M.own k := fun k hk => by unfold Mv.load at hk; rw [Mv.did_own] at hk; exact hk
  unfold Mv.load at *
  generalize M.did ⟨1, t, at_, 0, 0, false⟩ 0 false = N at *
  generalize M.res ⟨1, t, at_, 0, 0, false⟩ false = r at *
  obtain ⟨o, ho⟩ : ∃ o, o = (M.peek at_).1 := ⟨_, rfl⟩
  have HO2 : Hid (r.ol = o) := Lib.hid (by rw [ho]; exact HO.out)
  rw [← ho]
  obtain ⟨ki, th, pl, ol, ne, dn⟩ := r
  simp only [Acc.cells] at *
  have HO3 : Hid (ol = o) := HO2
  have HH := Lib.hid h
  have HL := Lib.hid hO
  clear HO HO2 ho h hO
  go_enter Tryz.func164, Tryz.ntmps164
  go_wp2_with fail
  refine H.out.mono ?_
  rintro e w1 ⟨rfl, hm, ht⟩
  have HM := Lib.hid hm
  have HT := Lib.hid ht
  clear hm ht
  go_wp2_with fail
  go_ret
  exact ⟨ret_eq (by rw [HO3.out]; rfl), HM.out.below ((Below.refl _ _).alloc (Nat.le_refl _) _), HT.out.alloc _⟩
set_option maxRecDepth 100000 in
theorem store38 (M : Mv) (t at_ v : Int) (q0 : -9223372036854775808 ≤ at_) (q1 : at_ ≤ 9223372036854775807) (W : World) (h : MemAt W M) (hc : M.ck ≤ 1000000) :
    Calls Tryz.prog 54 #[.pointer (some ⟨M.m, 0, none⟩), .int .i64 t, .int .i64 at_, .int .u64 v] W (Done M (M.store t at_ v) W) := by
  have H : Hid (∀ o, Calls Tryz.prog 109 #[.pointer (some ⟨M.m, 0, none⟩), .agg (Acc.cells ⟨2, t, at_, 0, v, false⟩), .func (.func 110) #[] #[.pointer (some ⟨W.heap.size, 0, none⟩)]] (W.alloc (.cells #[.int .u64 v] o)) (DoneV M (M.store t at_ v) (.agg (M.res ⟨2, t, at_, 0, v, false⟩ true).cells) (W.alloc (.cells #[.int .u64 v] o)))) := Lib.hid fun o => by
    refine word52M M ⟨2, t, at_, 0, v, false⟩ 110 _ v true (enters_at Tryz.func110 (by kernel_rfl) rfl) _ (h.below ((Below.refl _ _).alloc (Nat.le_refl _) _)) hc q0 q1 (fun w1 hb => ?_)
    exact stores54 _ v W.heap.size w1 ((hb.cell (p := ⟨W.heap.size, 0, none⟩) (by simp)).trans (cell_of_row _ _ 0 _ _ _ (heap_alloc_new W _)))
  generalize M.store t at_ v = N at *
  generalize M.res ⟨2, t, at_, 0, v, false⟩ true = r at *
  simp only [Acc.cells] at *
  clear h
  go_enter Tryz.func54, Tryz.ntmps54
  go_wp2_with fail
  refine (H.out _).mono ?_
  rintro e w1 ⟨rfl, hm, ht⟩
  have HM := Lib.hid hm
  have HT := Lib.hid ht
  clear hm ht
  go_wp2_with fail
  go_end0
  exact ⟨⟨_, rfl⟩, HM.out, ((Turn.refl _ _).alloc _).trans HT.out (fun _ _ h => h)⟩
set_option maxRecDepth 100000 in
theorem swap39 (M : Mv) (t at_ old v : Int) (q0 : -9223372036854775808 ≤ at_) (q1 : at_ ≤ 9223372036854775807) (W : World) (h : MemAt W M) (hc : M.ck ≤ 1000000) :
    Calls Tryz.prog 324 #[.pointer (some ⟨M.m, 0, none⟩), .int .i64 t, .int .i64 at_, .int .u64 old, .int .u64 v] W (DoneV M (M.swap t at_ old v) (.bool (M.swap t at_ old v).la.dn) W) := by
  have H : Hid (∀ o o', Calls Tryz.prog 109 #[.pointer (some ⟨M.m, 0, none⟩), .agg (Acc.cells ⟨3, t, at_, 0, v, false⟩), .func (.func 354) #[] #[.pointer (some ⟨W.heap.size + 1, 0, none⟩), .pointer (some ⟨W.heap.size, 0, none⟩)]] ((W.alloc (.cells #[.int .u64 old] o)).alloc (.cells #[.int .u64 v] o')) (DoneV M (M.swap t at_ old v) (.agg (M.res ⟨3, t, at_, 0, v, false⟩ ((M.peek at_).1 == old)).cells) ((W.alloc (.cells #[.int .u64 old] o)).alloc (.cells #[.int .u64 v] o')))) := Lib.hid fun o o' => by
    refine word52M M ⟨3, t, at_, 0, v, false⟩ 354 _ v _ (enters_at Tryz.func354 (by kernel_rfl) rfl) _ (h.below (((Below.refl _ _).alloc (Nat.le_refl _) _).alloc (by simp) _)) hc q0 q1 (fun w1 hb => ?_)
    have e := two_new W (.cells #[.int .u64 old] o) (.cells #[.int .u64 v] o')
    exact swaps55 _ v old (W.heap.size + 1) W.heap.size w1 ((hb.cell (p := ⟨W.heap.size + 1, 0, none⟩) (by simp)).trans (cell_of_row _ _ 0 _ _ _ e.2)) ((hb.cell (p := ⟨W.heap.size, 0, none⟩) (by simp; omega)).trans (cell_of_row _ _ 0 _ _ _ e.1))
  have HO : Hid ((M.swap t at_ old v).la = M.res ⟨3, t, at_, 0, v, false⟩ ((M.peek at_).1 == old)) := Lib.hid rfl
  generalize M.swap t at_ old v = N at *
  generalize M.res ⟨3, t, at_, 0, v, false⟩ ((M.peek at_).1 == old) = r at *
  obtain ⟨y, hy⟩ : ∃ y, y = N.la.dn := ⟨_, rfl⟩
  have HY : Hid (r.dn = y) := Lib.hid (by rw [hy, HO.out])
  rw [← hy]
  obtain ⟨ki, th, pl, ol, ne, dn⟩ := r
  simp only [Acc.cells] at *
  have HY2 : Hid (dn = y) := HY
  clear h HO HY hy
  go_enter Tryz.func324, Tryz.ntmps324
  go_wp2_with fail
  refine (H.out _ _).mono ?_
  rintro e w1 ⟨rfl, hm, ht⟩
  have HM := Lib.hid hm
  have HT := Lib.hid ht
  clear hm ht
  go_wp2_with fail
  go_ret
  exact ⟨ret_eq (by rw [HY2.out]; rfl), HM.out.below ((Below.refl _ _).alloc (Nat.le_refl _) _), ((((Turn.refl _ _).alloc _).alloc _).trans HT.out (fun _ _ h => h)).alloc _⟩
end Go.Proofs.YtkdcfijebgeajaaGreat

namespace Go.Proofs.YtkdcfijebgeajaaGreat
open Go.RowKit Go.BigFrame
set_option linter.unusedVariables false
set_option linter.unusedSimpArgs false
theorem insAt_mem {l : List Int} {i : Nat} {x y : Int} (h : y ∈ insAt l i x) : y = x ∨ y ∈ l := by
  unfold insAt at h
  rw [List.mem_append, List.mem_cons] at h
  rcases h with h | h | h
  · exact Or.inr (List.mem_of_mem_take h)
  · exact Or.inl h
  · exact Or.inr (List.mem_of_mem_drop h)
theorem mem_insAt {l : List Int} {i : Nat} {x y : Int} : y ∈ insAt l i x ↔ y = x ∨ y ∈ l := by
  constructor
  · exact insAt_mem
  · intro h
    unfold insAt
    rw [List.mem_append, List.mem_cons]
    rcases h with rfl | h
    · exact Or.inr (Or.inl rfl)
    · rw [← List.take_append_drop i l, List.mem_append] at h
      rcases h with h | h
      · exact Or.inl h
      · exact Or.inr (Or.inr h)
theorem countP_take (l : List Int) (x : Int) (hs : l.Pairwise (· < ·)) : (∀ y ∈ l.take (l.countP (· < x)), y < x) ∧ (∀ y ∈ l.drop (l.countP (· < x)), x ≤ y) := by
  induction l with
  | nil => simp
  | cons a l ih =>
    obtain ⟨h1, h2⟩ := List.pairwise_cons.1 hs
    obtain ⟨i1, i2⟩ := ih h2
    by_cases ha : a < x
    · rw [List.countP_cons_of_pos (by simpa using ha), List.take_succ_cons, List.drop_succ_cons]
      refine ⟨fun y hy => ?_, i2⟩
      rcases List.mem_cons.1 hy with rfl | hy
      · exact ha
      · exact i1 y hy
    · have : l.countP (· < x) = 0 := by
        rw [List.countP_eq_zero]
        intro y hy
        have := h1 y hy
        simp; omega
      rw [List.countP_cons_of_neg (by simpa using ha), this]
      refine ⟨by simp, fun y hy => ?_⟩
      simp at hy
      rcases hy with rfl | hy
      · omega
      · have := h1 y hy; omega
theorem insS_mem {l : List Int} {x y : Int} : y ∈ insS l x ↔ y = x ∨ y ∈ l := by
  unfold insS
  split
  · rename_i h
    have : x ∈ l := by simpa using h
    constructor
    · exact Or.inr
    · rintro (rfl | h)
      · exact this
      · exact h
  · exact mem_insAt
theorem insS_rise {l : List Int} {x : Int} (hs : l.Pairwise (· < ·)) : (insS l x).Pairwise (· < ·) := by
  unfold insS
  split
  · exact hs
  · rename_i h
    have hx : x ∉ l := by simpa using h
    obtain ⟨h1, h2⟩ := countP_take l x hs
    unfold insAt
    rw [List.pairwise_append]
    refine ⟨hs.sublist (List.take_sublist _ _), ?_, ?_⟩
    · rw [List.pairwise_cons]
      refine ⟨fun y hy => ?_, hs.sublist (List.drop_sublist _ _)⟩
      have := h2 y hy
      have : y ≠ x := fun e => hx (e ▸ List.mem_of_mem_drop hy)
      omega
    · intro y hy z hz
      have a := h1 y hy
      rcases List.mem_cons.1 hz with rfl | hz
      · exact a
      · have := h2 z hz; omega
/-- A rising row of numbers below n has at most n. -/
theorem rise_len : ∀ (l : List Int) (n : Nat) (a : Int), l.Pairwise (· < ·) → (∀ x ∈ l, a ≤ x ∧ x < n) → a ≤ n → (l.length : Int) ≤ n - a
  | [], n, a, _, _, h => by simp; omega
  | x :: l, n, a, hs, h, hn => by
    obtain ⟨h1, h2⟩ := List.pairwise_cons.1 hs
    have hx := h x (by simp)
    have := rise_len l n (x + 1) h2 (fun y hy => by have := h1 y hy; have := h y (by simp [hy]); omega) (by omega)
    simp; omega
theorem MemAt.fl_len {W : World} {M : Mv} (h : MemAt W M) {t : Nat} (ht : t < M.nt) : (M.fl t).length ≤ M.n := by
  have := rise_len (M.fl t) M.n 0 (h.rise t ht) (h.inn t ht) (by omega)
  omega
/-- What a thread flushes is another row now. -/
theorem MemAt.set_fl {W W1 : World} {M : Mv} (h : MemAt W M) {t : Nat} (ht : t < M.nt) {v' : Value} {l' : List Int} (hT : Turn (fun k => (M.fv t).ownBlock = some k) W W1) (hl : LstAt W1 v' l') (hv : ∀ g, v'.ownBlock = some g → (M.fv t).ownBlock = some g ∨ W.heap.size ≤ g)
    (hs : l'.Pairwise (· < ·)) (hi : ∀ x ∈ l', 0 ≤ x ∧ x < M.n) :
    MemAt (W1.setCell ⟨M.fb, t, none⟩ v') { M with fl := upd M.fl t l', fv := upd M.fv t v' } ∧ Turn M.own W (W1.setCell ⟨M.fb, t, none⟩ v') ∧ ∀ k, ({ M with fl := upd M.fl t l', fv := upd M.fv t v' } : Mv).own k → M.own k ∨ W.heap.size ≤ k := by
  have n := h.ne
  have o1 : ∀ k, k ∈ M.blocks → W1.heap[k]? = W.heap[k]? := fun k hk => hT.block k (h.lt (Or.inl hk)) fun e => h.alone t ht k e hk
  have o : ∀ k, k ∈ M.blocks → k ≠ M.fb → (W1.setCell ⟨M.fb, t, none⟩ v').heap[k]? = W.heap[k]? := fun k hk e => (heap_set_other e).trans (o1 k hk)
  have hfb : M.fb ∈ M.blocks := by simp [Mv.blocks]
  have hfl : M.fb < W.heap.size := h.lt (Or.inl hfb)
  refine ⟨?_, ?_, ?_⟩
  · exact { h with
      row := (o _ (by simp [Mv.blocks]) n.mf).trans h.row
      dev := (o _ (by simp [Mv.blocks]) n.df).trans h.dev
      kept := h.kept.keep (o _ (by simp [Mv.blocks]) n.kf)
      seen := h.seen.keep (o _ (by simp [Mv.blocks]) n.sf)
      wr := h.wr.keep (o _ (by simp [Mv.blocks]) n.wf)
      fb := (h.fb.keep (o1 _ hfb)).set t v'
      pass := h.pass.keep (o _ (by simp [Mv.blocks]) (Ne.symm n.fp))
      fl := fun t' ht' => by
        show LstAt _ (upd M.fv t v' t') (upd M.fl t l' t')
        by_cases e : t' = t
        · subst e
          rw [upd_at, upd_at]
          refine hl.keep fun g hg => heap_set_other fun e => ?_
          rcases hv g hg with h1 | h1
          · exact h.alone _ ht g h1 (e ▸ hfb)
          · omega
        · rw [upd_ne _ _ e, upd_ne _ _ e]
          refine (h.fl t' ht').keep fun g hg => ?_
          rw [heap_set_other (fun (e' : g = M.fb) => h.alone t' ht' g hg (e' ▸ hfb))]
          exact hT.block g ((h.fl t' ht').lt hg) fun e' => h.lone t ht t' ht' (Ne.symm e) g e' hg
      alone := fun t' ht' g hg hb => by
        have hg : (upd M.fv t v' t').ownBlock = some g := hg
        have hb : g ∈ M.blocks := hb
        by_cases e : t' = t
        · subst e
          rw [upd_at] at hg
          rcases hv g hg with h1 | h1
          · exact h.alone _ ht g h1 hb
          · have := h.lt (Or.inl hb); omega
        · rw [upd_ne _ _ e] at hg; exact h.alone t' ht' g hg hb
      lone := fun a ha b hb hab g hg0 hg1 => by
        have hg : (upd M.fv t v' a).ownBlock = some g := hg0
        have hg' : (upd M.fv t v' b).ownBlock = some g := hg1
        have ha : a < M.nt := ha
        have hb : b < M.nt := hb
        clear hg0 hg1
        by_cases e : a = t
        · rw [e, upd_at] at hg
          rw [upd_ne _ _ (fun e' => hab (e.trans e'.symm))] at hg'
          rcases hv g hg with h1 | h1
          · exact h.lone _ ht b hb (fun e' => hab (e.trans e')) g h1 hg'
          · have := (h.fl b hb).lt hg'; omega
        · rw [upd_ne _ _ e] at hg
          by_cases e' : b = t
          · rw [e', upd_at] at hg'
            rcases hv g hg' with h1 | h1
            · exact h.lone a ha _ ht e g hg h1
            · have := (h.fl a ha).lt hg; omega
          · rw [upd_ne _ _ e'] at hg'; exact h.lone a ha b hb hab g hg hg'
      rise := fun t' ht' => by
        show (upd M.fl t l' t').Pairwise (· < ·)
        by_cases e : t' = t
        · subst e; rw [upd_at]; exact hs
        · rw [upd_ne _ _ e]; exact h.rise t' ht'
      inn := fun t' ht' => by
        show ∀ x ∈ upd M.fl t l' t', 0 ≤ x ∧ x < M.n
        by_cases e : t' = t
        · subst e; rw [upd_at]; exact hi
        · rw [upd_ne _ _ e]; exact h.inn t' ht' }
  · exact (hT.mono fun k _ e => Or.inr ⟨t, ht, e⟩).set (fun _ => Or.inl hfb) _ _
  · rintro k (hk | ⟨t', ht', hk⟩)
    · exact Or.inl (Or.inl hk)
    · have hk : (upd M.fv t v' t').ownBlock = some k := hk
      by_cases e : t' = t
      · subst e
        rw [upd_at] at hk
        rcases hv k hk with h1 | h1
        · exact Or.inl (Or.inr ⟨_, ht, h1⟩)
        · exact Or.inr h1
      · rw [upd_ne _ _ e] at hk; exact Or.inl (Or.inr ⟨t', ht', hk⟩)
/-- The memory turned into another one that owns no more but new blocks. -/
def Into (M M' : Mv) (W W' : World) : Prop := MemAt W' M' ∧ Turn M.own W W' ∧ ∀ k, M'.own k → M.own k ∨ W.heap.size ≤ k
theorem Into.trans {M M' M'' : Mv} {W W' W'' : World} (h : Into M M' W W') (k : Into M' M'' W' W'') : Into M M'' W W'' := by
  have hs := h.2.1.size
  refine ⟨k.1, h.2.1.trans k.2.1 fun i hi e => ?_, fun i e => ?_⟩
  · rcases h.2.2 i e with h1 | h1
    · exact h1
    · omega
  · rcases k.2.2 i e with h1 | h1
    · exact h.2.2 i h1
    · exact Or.inr (by omega)
theorem Into.below {M M' : Mv} {W W' W'' : World} (h : Into M M' W W') (k : Below W'.heap.size W' W'') : Into M M' W W'' :=
  ⟨h.1.below k, h.2.1.trans (Turn.of_below k) (fun _ _ h => h), h.2.2⟩
theorem Into.of_below {M M' : Mv} {W W' W'' : World} (k : Below W.heap.size W W') (h : Into M M' W' W'') : Into M M' W W'' :=
  ⟨h.1, (Turn.of_below k).trans h.2.1 (fun _ _ h => h), fun i e => (h.2.2 i e).imp id fun h => by have := k.size; omega⟩
theorem Into.refl {M : Mv} {W : World} (h : MemAt W M) : Into M M W W := ⟨h, Turn.refl _ _, fun _ h => Or.inl h⟩
/-- A thread flushes a line: its error, and the memory behind it. -/
def Mv.flushE (M : Mv) (t l : Int) : Int := if threadE M.nt t = 0 then lineE M.n l else 1
def Mv.flushed (M : Mv) (t l : Int) (v : Value) : Mv := { M with fl := upd M.fl t.toNat (insS (M.fl t.toNat) l), fv := upd M.fv t.toNat v }
def FlushTo (M : Mv) (t l : Int) (W : World) (e : Ending) (W' : World) : Prop :=
  e = .returned (.int .i64 (M.flushE t l)) ∧ (M.flushE t l ≠ 0 ∧ Into M M W W' ∨ M.flushE t l = 0 ∧ ∃ v, Into M (M.flushed t l v) W W')
theorem flush57_no (M : Mv) (t l : Int) (W : World) (h : MemAt W M) (hn : M.flushE t l ≠ 0) :
    Calls Tryz.prog 350 #[.pointer (some ⟨M.d, 0, none⟩), .int .i64 t, .int .i64 l] W (FlushTo M t l W) := by
  have HT := Lib.hid (thread74 M.d (some ⟨M.fb, 0, none⟩) M.nt M.c3 t W (by rw [cell_in h.dev]; rfl))
  have HL := Lib.hid (line75 M.d (some ⟨M.sb, 0, none⟩) M.n M.c1 l W (by rw [cell_in h.dev]; rfl))
  have HM := Lib.hid h
  have HN := Lib.hid hn
  unfold Mv.flushE at hn
  by_cases h0 : threadE M.nt t = 0
  · rw [if_pos h0] at hn
    have e5 : lineE M.n l = 5 := by unfold lineE at *; split at hn <;> simp_all
    have eF : M.flushE t l = 5 := by unfold Mv.flushE; rw [if_pos h0]; exact e5
    have HE : Hid (M.flushE t l = 5) := Lib.hid eF
    rw [h0] at HT
    rw [e5] at HL
    clear h hn h0 e5 eF
    go_enter Tryz.func350, Tryz.ntmps350
    go_wp2_with fail
    refine HT.out.mono ?_
    rintro e w ⟨rfl, hw⟩
    cases hw
    go_wp2_with fail
    refine HL.out.mono ?_
    rintro e w ⟨rfl, hw⟩
    cases hw
    go_wp2_with fail
    go_ret
    exact ⟨by rw [HE.out]; rfl, Or.inl ⟨HN.out, Into.refl HM.out⟩⟩
  · have e1 : threadE M.nt t = 1 := by unfold threadE at *; split at h0 <;> simp_all
    have eF : M.flushE t l = 1 := by unfold Mv.flushE; rw [if_neg h0]
    have HE : Hid (M.flushE t l = 1) := Lib.hid eF
    rw [e1] at HT
    clear h hn h0 e1 eF
    go_enter Tryz.func350, Tryz.ntmps350
    go_wp2_with fail
    refine HT.out.mono ?_
    rintro e w ⟨rfl, hw⟩
    cases hw
    go_wp2_with fail
    go_ret
    exact ⟨by rw [HE.out]; rfl, Or.inl ⟨HN.out, Into.refl HM.out⟩⟩
/-- A line into what a thread flushes. -/
theorem put76 (M : Mv) (t : Nat) (ht : t < M.nt) (l : Int) (h0 : 0 ≤ l) (h1 : l < M.n) (W : World) (h : MemAt W M) :
    Calls Tryz.prog 377 #[.pointer (some ⟨M.fb, t, none⟩), .int .i64 l] W (fun e W' => (∃ u, e = .returned u) ∧ ∃ v, Into M (M.flushed t l v) W W') := by
  have hl := h.fl_len ht
  have hn := h.n1
  have hin : ∀ x ∈ insS (M.fl t) l, 0 ≤ x ∧ x < M.n := fun x hx => by
    rcases insS_mem.1 hx with rfl | hx
    · exact ⟨h0, h1⟩
    · exact h.inn t ht x hx
  have hr := insS_rise (x := l) (h.rise t ht)
  unfold Mv.flushed
  rw [Int.toNat_natCast]
  by_cases hx : (M.fl t).contains l = true
  · have e : insS (M.fl t) l = M.fl t := by unfold insS; rw [if_pos hx]
    refine (put76_in M.fb t (M.fv t) (M.fl t) l W (by omega) (h.fb.cell ht) (h.fl t ht) (h.rise t ht) hx).mono ?_
    rintro e' W' ⟨hu, hb, hh⟩
    refine ⟨hu, M.fv t, ?_⟩
    rw [e]
    have e1 : upd M.fl t (M.fl t) = M.fl := by funext k; unfold upd; split <;> simp_all
    have e2 : upd M.fv t (M.fv t) = M.fv := by funext k; unfold upd; split <;> simp_all
    rw [e1, e2]
    exact (Into.refl h).below hb
  · have hx' : (M.fl t).contains l = false := by simpa using hx
    have e : insS (M.fl t) l = insAt (M.fl t) ((M.fl t).countP (· < l)) l := by unfold insS; rw [if_neg hx]
    refine (put76_new M.fb t (M.fv t) (M.fl t) l W (by omega) (h.fb.cell ht) (h.fb.free t) h.fb.lt (fun e => h.alone t ht _ e (by simp [Mv.blocks])) (h.fl t ht) (h.rise t ht) hx').mono ?_
    rintro e' W' ⟨hu, v', W1, hT, hL, hv, rfl⟩
    rw [← e] at hL
    obtain ⟨a, b, c⟩ := h.set_fl ht hT hL hv hr hin
    exact ⟨hu, v', a, b, c⟩
set_option maxRecDepth 100000 in
theorem flush57_yes (M : Mv) (t l : Int) (W : World) (h : MemAt W M) (hn : M.flushE t l = 0) :
    Calls Tryz.prog 350 #[.pointer (some ⟨M.d, 0, none⟩), .int .i64 t, .int .i64 l] W (FlushTo M t l W) := by
  have HT := Lib.hid (thread74 M.d (some ⟨M.fb, 0, none⟩) M.nt M.c3 t W (by rw [cell_in h.dev]; rfl))
  have HL := Lib.hid (line75 M.d (some ⟨M.sb, 0, none⟩) M.n M.c1 l W (by rw [cell_in h.dev]; rfl))
  have HN := Lib.hid hn
  unfold Mv.flushE at hn
  have h0 : threadE M.nt t = 0 := by by_cases h0 : threadE M.nt t = 0; exact h0; rw [if_neg h0] at hn; cases hn
  rw [if_pos h0] at hn
  rw [h0] at HT
  rw [hn] at HL
  unfold threadE at h0
  unfold lineE at hn
  have a0 : 0 ≤ t ∧ t < M.nt := by split at h0; cases h0; omega
  have a1 : 0 ≤ l ∧ l < M.n := by split at hn; cases hn; omega
  obtain ⟨k, rfl⟩ := Int.eq_ofNat_of_zero_le a0.1
  have b0 : (0 : Int) ≤ (k : Int) := by omega
  have b1 : (k : Int) < (M.nt : Int) := a0.2
  have HP := Lib.hid (put76 M k (by omega) l a1.1 a1.2 W h)
  have hd : W.cell? ⟨M.d, 3, none⟩ = some (.slice (some ⟨M.fb, 0, none⟩) M.nt M.c3) := by rw [cell_in h.dev]; rfl
  clear h hn h0 a0 a1
  go_enter Tryz.func350, Tryz.ntmps350
  go_wp2_with fail
  refine HT.out.mono ?_
  rintro e w ⟨rfl, hw⟩
  cases hw
  go_wp2_with fail
  refine HL.out.mono ?_
  rintro e w ⟨rfl, hw⟩
  cases hw
  go_wp2_with fail
  refine HP.out.mono ?_
  rintro e w ⟨⟨u, rfl⟩, hv⟩
  have HV := Lib.hid hv
  clear hv
  go_wp2_with fail
  go_ret
  exact ⟨by rw [HN.out]; rfl, Or.inr ⟨HN.out, HV.out⟩⟩
theorem flush57 (M : Mv) (t l : Int) (W : World) (h : MemAt W M) :
    Calls Tryz.prog 350 #[.pointer (some ⟨M.d, 0, none⟩), .int .i64 t, .int .i64 l] W (FlushTo M t l W) := by
  by_cases hn : M.flushE t l = 0
  · exact flush57_yes M t l W h hn
  · exact flush57_no M t l W h hn
end Go.Proofs.YtkdcfijebgeajaaGreat

namespace Go.Proofs.YtkdcfijebgeajaaGreat
open Go.RowKit Go.BigFrame
set_option linter.unusedVariables false
set_option linter.unusedSimpArgs false
theorem RowAt.put8 {W : World} {b n : Nat} {f : Nat → Value} (h : RowAt W b n f) (o : Nat) (l : Nat → Int) : RowAt (put8 W b o l) b n (fun k => if o ≤ k ∧ k < o + 8 then .int .u64 (l (k - o)) else f k) := by
  refine ((((((((h.set o (.int .u64 (l 0))).set (o + 1) (.int .u64 (l 1))).set (o + 2) (.int .u64 (l 2))).set (o + 3) (.int .u64 (l 3))).set (o + 4) (.int .u64 (l 4))).set (o + 5) (.int .u64 (l 5))).set (o + 6) (.int .u64 (l 6))).set (o + 7) (.int .u64 (l 7))).congr fun k _ => ?_
  by_cases hk : o ≤ k ∧ k < o + 8
  · rw [if_pos hk]
    obtain ⟨j, rfl⟩ : ∃ j, k = o + j := ⟨k - o, by omega⟩
    have hj : j < 8 := by omega
    rw [show o + j - o = j by omega]
    have c : j = 0 ∨ j = 1 ∨ j = 2 ∨ j = 3 ∨ j = 4 ∨ j = 5 ∨ j = 6 ∨ j = 7 := by omega
    rcases c with rfl | rfl | rfl | rfl | rfl | rfl | rfl | rfl <;> simp [upd]
  · rw [if_neg hk]
    have : ∀ j, j < 8 → k ≠ o + j := fun j hj => by omega
    unfold upd
    rw [if_neg (this 7 (by omega)), if_neg (this 6 (by omega)), if_neg (this 5 (by omega)), if_neg (this 4 (by omega)), if_neg (this 3 (by omega)), if_neg (this 2 (by omega)), if_neg (this 1 (by omega)), if_neg (show k ≠ o by omega)]
theorem put8_turn {F : Nat → Prop} {a w : World} (h : Turn F a w) {b : Nat} (hb : b < a.heap.size → F b) (o : Nat) (l : Nat → Int) : Turn F a (put8 w b o l) := by
  unfold put8
  exact (((((((h.set hb _ _).set hb _ _).set hb _ _).set hb _ _).set hb _ _).set hb _ _).set hb _ _).set hb _ _
/-- A line is written back. -/
def Mv.back1 (M : Mv) (i : Nat) : Mv := { M with kept := fun k => if k / 8 = i then M.seen k else M.kept k, wr := upd M.wr i (M.wr i + 1) }
theorem back78M (M : Mv) (i : Nat) (hi : i < M.n) (W : World) (h : MemAt W M) (hw : M.wr i < M.wm) (hm : M.wm ≤ 1000000) :
    Calls Tryz.prog 132 #[.pointer (some ⟨M.d, 0, none⟩), .int .i64 i] W (Done M (M.back1 i) W) := by
  have n := h.ne
  have hw0 := h.wr0 i hi
  refine (back78 M.d M.kb M.sb M.wb M.n M.c0 M.c1 M.c2 h.n1 i hi (fun r => M.kept (i * 8 + r)) (fun r => M.seen (i * 8 + r)) (M.wr i) hw0.1 (by omega) W (by rw [cell_in h.dev]; rfl) (by rw [cell_in h.dev]; rfl) (by rw [cell_in h.dev]; rfl)
    (fun r hr => h.kept.cell (by omega)) (fun r hr => h.seen.cell (by omega)) (h.wr.cell hi) h.kept.free h.wr.free (Ne.symm n.dk) (Ne.symm n.kw) (Ne.symm n.dw) (Ne.symm n.ks)).mono ?_
  rintro e W' ⟨hx, w1, ⟨hh, hb⟩, rfl⟩
  have hT : Turn M.own W w1 := (put8_turn (Turn.refl _ W) (fun _ => Or.inl (by simp [Mv.blocks])) _ _).trans (Turn.of_below hb) (fun _ _ h => h)
  have o1 : ∀ k, k ≠ M.kb → w1.heap[k]? = W.heap[k]? := fun k hk => by rw [hh]; exact put8_heap hk
  have o : ∀ k, k ≠ M.kb → k ≠ M.wb → (w1.setCell ⟨M.wb, i, none⟩ (.int .i64 (M.wr i + 1))).heap[k]? = W.heap[k]? := fun k hk e => (heap_set_other e).trans (o1 k hk)
  refine ⟨hx, ?_, hT.set (fun _ => Or.inl (by simp [Mv.blocks])) _ _⟩
  exact { h with
    row := (o _ n.mkb n.mw).trans h.row
    dev := (o _ n.dk n.dw).trans h.dev
    kept := by
      refine RowAt.keep (W := w1) ?_ (heap_set_other n.kw)
      refine RowAt.congr (RowAt.keep (h.kept.put8 (i * 8) (fun r => M.seen (i * 8 + r))) (by rw [hh])) fun k hk => ?_
      show _ = Value.int .u64 (if k / 8 = i then M.seen k else M.kept k)
      by_cases c : i * 8 ≤ k ∧ k < i * 8 + 8
      · rw [if_pos c, if_pos (by omega), show i * 8 + (k - i * 8) = k by omega]
      · rw [if_neg c, if_neg (by omega)]
    seen := h.seen.keep (o _ (Ne.symm n.ks) n.sw)
    wr := by
      have := (h.wr.keep (o1 _ (Ne.symm n.kw))).set i (.int .i64 (M.wr i + 1))
      simp only [Mv.back1, upd_map]
      exact this
    fb := h.fb.keep (o _ (Ne.symm n.kf) (Ne.symm n.wf))
    pass := h.pass.keep (o _ (Ne.symm n.kp) (Ne.symm n.wp))
    fl := fun t ht => (h.fl t ht).keep fun g hg => o g (fun e => h.alone t ht g hg (by rw [e]; simp [Mv.blocks])) (fun e => h.alone t ht g hg (by rw [e]; simp [Mv.blocks]))
    wr0 := fun k hk => by
      show 0 ≤ upd M.wr i (M.wr i + 1) k ∧ upd M.wr i (M.wr i + 1) k ≤ M.wm
      by_cases e : k = i
      · rw [e, upd_at]; omega
      · rw [upd_ne _ _ e]; exact h.wr0 k hk }
/-- Lines are written back, each once. -/
def Mv.backs (M : Mv) (l : List Int) : Mv := { M with kept := fun i => if l.contains ((i / 8 : Nat) : Int) then M.seen i else M.kept i, wr := fun n => if l.contains (n : Int) then M.wr n + 1 else M.wr n, wm := M.wm + 1 }
theorem backs_nil {W : World} {M : Mv} (h : MemAt W M) : MemAt W (M.backs []) := by
  exact { h with
    kept := h.kept
    wr := h.wr
    wr0 := fun k hk => by
      have := h.wr0 k hk
      show 0 ≤ (if ([] : List Int).contains (k : Int) then M.wr k + 1 else M.wr k) ∧ (if ([] : List Int).contains (k : Int) then M.wr k + 1 else M.wr k) ≤ M.wm + 1
      simp; omega }
theorem backs_step (M : Mv) (l : List Int) (i : Nat) (hi : (i : Int) ∉ l) : (M.backs l).back1 i = M.backs (l ++ [(i : Int)]) := by
  unfold Mv.backs Mv.back1
  have e1 : (fun k => if k / 8 = i then M.seen k else if l.contains ((k / 8 : Nat) : Int) then M.seen k else M.kept k) = fun k => if (l ++ [(i : Int)]).contains ((k / 8 : Nat) : Int) then M.seen k else M.kept k := by
    funext k
    by_cases c : k / 8 = i
    · simp [c]
    · have : ¬ ((k / 8 : Nat) : Int) = (i : Int) := by omega
      simp [c]
      congr 1
      simp
      omega
  have e2 : upd (fun n : Nat => if l.contains (n : Int) then M.wr n + 1 else M.wr n) i ((if l.contains (i : Int) then M.wr i + 1 else M.wr i) + 1) = fun n : Nat => if (l ++ [(i : Int)]).contains (n : Int) then M.wr n + 1 else M.wr n := by
    funext k
    by_cases c : k = i
    · subst c
      rw [upd_at]; simp [hi]
    · rw [upd_ne _ _ c]
      have : ¬ ((k : Int) = (i : Int)) := by omega
      simp [this]
  simp only [e1, e2]
theorem Mv.backs_own (M : Mv) (l : List Int) : (M.backs l).own = M.own := rfl
end Go.Proofs.YtkdcfijebgeajaaGreat
