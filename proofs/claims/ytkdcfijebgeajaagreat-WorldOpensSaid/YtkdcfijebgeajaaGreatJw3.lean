/- Layer 6 (layout): a config's layout; the head of a bucket.
   A row of whole numbers: one is put in.
   A region that draws its order, walked in a round of a range over a function as everywhere; an append as a step of such a region. No program here.
   Layer 3: the parts of a list, an iterator that keeps what is left in a cell.
   Layers 3, 4: the words of lines; what is seen and kept.
   Layer 3: what lies in memory while words are cut into lines. No walk here.
   Layer 3: the law of Cut's range over the parts. -/
import Derived.Test.YtkdcfijebgeajaaGreatJw2
import Derived.IntWalk
import Derived.Ground.Names2Prog
import Derived.Shelf.Slices.SearchI
import Derived.Shelf.Slices.Empties
import Derived.Test.YtkdcfijebgeajaaGreatProg
import Derived.Shelf.Spec.SlicesInsert
import Derived.Shelf.Spec.SlicesInsertGrow
import Derived.RangeFuncNested
import Derived.RangeFuncBound
import Derived.RangeFuncCalls
import Derived.RangeFuncLeaves
import Derived.WalkKit
import Derived.OwnWalkIn
import Derived.TacticsInMore
import Derived.LoopNIn
import Derived.LoopIn
import Derived.Sort.LoopGhostIn
import Derived.OrdersIn
import Derived.Maps.AppendAt
import Derived.Shelf.Abstract
namespace Go.Proofs.YtkdcfijebgeajaaGreat
open Go.RowKit Go.BigFrame
set_option linter.unusedVariables false
set_option linter.unusedSimpArgs false
def linesI (n : Int) : Int := (n + 7) / 8
theorem linesOf121 (n : Int) (h0 : 0 ≤ n) (h1 : n ≤ 1000000) (w : World) : Calls Tryz.prog 105 #[.int .i64 n] w (Says (.int .i64 (linesI n)) w) := by
  have HC : Hid ((n + 8 - 1) / 8 = linesI n) := Lib.hid (by unfold linesI; omega)
  have HD : Hid ((n + 7) / 8 = linesI n) := Lib.hid rfl
  go_enter Tryz.func105, Tryz.ntmps105
  go_wp2_with fail
  go_ret
  exact ⟨ret_int (by first | exact HC.out | exact HD.out), rfl⟩
theorem cut120 (a n : Int) (b : Nat) (a0 : 0 ≤ a) (a1 : a ≤ 10000000) (n0 : 0 ≤ n) (n1 : n ≤ 10000000) (w : World) (h : w.cell? ⟨b, 0, none⟩ = some (.int .i64 a)) (hf : w.frozen? ⟨b, 0, none⟩ = false) :
    Calls Tryz.prog 104 #[.int .i64 n, .pointer (some ⟨b, 0, none⟩)] w fun e w' => e = .returned (.int .i64 a) ∧ w' = w.setCell ⟨b, 0, none⟩ (.int .i64 (a + n)) := by
  have HE : Hid (a + n - n = a) := Lib.hid (by omega)
  have hc := cell_set_at (.int .i64 (a + n)) h
  go_enter Tryz.func104, Tryz.ntmps104
  go_wp2_with fail
  go_ret
  exact ⟨ret_int (by first | rfl | exact HE.out | omega), rfl⟩
theorem But.below2 {p B : Nat} {w w' : World} (h : But p w w') (hp : B ≤ p) (hs : B ≤ w.heap.size) : Below B w w' := ⟨h.os, h.tape, h.output, h.size, fun k hk => h.block k (by omega) (by omega)⟩
theorem cut120p (a n : Int) (b : Nat) (a0 : 0 ≤ a) (a1 : a ≤ 10000000) (n0 : 0 ≤ n) (n1 : n ≤ 10000000) (w : World) (h : w.heap[b]? = some (.cells #[.int .i64 a] 3 (0, 0))) :
    Calls Tryz.prog 104 #[.int .i64 n, .pointer (some ⟨b, 0, none⟩)] w fun e w' => e = .returned (.int .i64 a) ∧ w'.heap[b]? = some (.cells #[.int .i64 (a + n)] 3 (0, 0)) ∧ But b w w' := by
  refine (cut120 a n b a0 a1 n0 n1 w (cell_row h 0 _ rfl) (free_row h 0)).mono ?_
  rintro e w' ⟨rfl, rfl⟩
  exact ⟨rfl, heap_set _ h, ⟨rfl, rfl, rfl, by simp [World.setCell], fun k _ hk => heap_set_other hk⟩⟩
def Cfg.lv (c : Cfg) : Lv :=
  { th := c.th, sl := c.sl, lo := c.lo, bu := c.bu, pt := 5 + linesI c.bu, pl := 5 + linesI c.bu + c.th, ls := linesI c.lo,
    ps := 5 + linesI c.bu + c.th + c.th * linesI c.lo, ln := 5 + linesI c.bu + c.th + c.th * linesI c.lo + c.sl }
theorem mul_bd (a b m n : Int) (a0 : 0 ≤ a) (a1 : a ≤ m) (b0 : 0 ≤ b) (b1 : b ≤ n) : 0 ≤ a * b ∧ a * b ≤ m * n :=
  ⟨Int.mul_nonneg a0 b0, Int.le_trans (Int.mul_le_mul_of_nonneg_right a1 b0) (Int.mul_le_mul_of_nonneg_left b1 (by omega))⟩
theorem Cfg.lv_ok (c : Cfg) (h : c.right) : c.lv.Ok := by
  obtain ⟨h1, h2, h3, h4, h5, h6, h7, h8⟩ := h
  have b0 : 0 ≤ linesI c.bu ∧ linesI c.bu ≤ 8 := by unfold linesI; omega
  have l0 : 0 ≤ linesI c.lo ∧ linesI c.lo ≤ 8 := by unfold linesI; omega
  have m := mul_bd c.th (linesI c.lo) 64 8 (by omega) h2 l0.1 l0.2
  unfold Cfg.lv
  constructor <;> simp only <;> omega
def OfTo (v : Lv) (W : World) (e : Ending) (W' : World) : Prop := ∃ l, e = .returned (.tuple #[.pointer (some ⟨l, 0, none⟩), .int .i64 0]) ∧ Below W.heap.size W W' ∧ W.heap.size ≤ l ∧ LayAt W' l v
set_option maxRecDepth 100000 in
set_option maxHeartbeats 1000000 in
theorem of58 (c : Cfg) (h : c.right) (w : World) : Calls Tryz.prog 49 #[.agg c.cells] w (OfTo c.lv w) := by
  have HR : Hid (∀ w, Calls Tryz.prog 85 #[.agg c.cells] w (BoolOn true w)) := Lib.hid fun w => by have := right_any c w; rw [bool_yes h] at this; exact this
  have HOK := Lib.hid (c.lv_ok h)
  obtain ⟨h1, h2, h3, h4, h5, h6, h7, h8⟩ := h
  have b0 : 0 ≤ linesI c.bu ∧ linesI c.bu ≤ 8 := by unfold linesI; omega
  have l0 : 0 ≤ linesI c.lo ∧ linesI c.lo ≤ 8 := by unfold linesI; omega
  have m := mul_bd c.th (linesI c.lo) 64 8 (by omega) h2 l0.1 l0.2
  have HB := Lib.hid fun w => linesOf121 c.bu (by omega) (by omega) w
  have HL := Lib.hid fun w => linesOf121 c.lo (by omega) (by omega) w
  unfold Cfg.lv at *
  obtain ⟨th, sl, lo, bu⟩ := c
  simp only [Cfg.cells] at *
  generalize linesI bu = nb at *
  generalize linesI lo = nl at *
  obtain ⟨b0, b1⟩ := b0
  obtain ⟨l0, l1⟩ := l0
  obtain ⟨m0, m1⟩ := m
  go_enter Tryz.func49, Tryz.ntmps49
  go_wp2_with fail
  refine (HR.out _).mono ?_
  rintro e w1 ⟨rfl, hb⟩
  have HB1 : Hid (Below w.heap.size w w1) := Lib.hid (((Below.refl _ _).alloc (Nat.le_refl _) _).trans (hb.mono (by simp)))
  have HS : Hid (w.heap.size < w1.heap.size) := Lib.hid (by have := hb.size; simp at this; omega)
  have HC : Hid (w1.heap[w.heap.size]? = some (.cells #[.int .i64 th, .int .i64 sl, .int .i64 lo, .int .i64 bu] 23)) := Lib.hid ((hb.block _ (by simp)).trans (heap_alloc_new w _))
  obtain ⟨c0, c1, c2, c3, cf⟩ := row_4 HC.out
  have hs := HS.out
  clear hb
  go_wp2_with fail
  refine (HB.out _).mono ?_
  rintro e w2 ⟨rfl, rfl⟩
  go_wp2_with fail
  refine (cut120 5 nb w1.heap.size (by omega) (by omega) b0 (by omega) _ (by simp) (by simp)).mono ?_
  rintro e w2 ⟨rfl, rfl⟩
  go_wp2_with fail
  refine region_tail 5 (by kernel_rfl) (by kernel_rfl) ?_
  simp only [List.take_succ_cons, List.take_zero, List.drop_succ_cons, List.drop_zero]
  still_step
  still_step
  still_step
  still_call (HL.out _)
  still_step
  refine wpStill_nil ?_
  go_wp2_with fail
  refine (cut120 (5 + nb) th w1.heap.size (by omega) (by omega) (by omega) (by omega) _ (by simp) (by simp)).mono ?_
  rintro e w2 ⟨rfl, rfl⟩
  go_wp2_with fail
  obtain ⟨W3, h3⟩ : ∃ W3, W3 = World.drew ((w1.alloc (.cells #[.int .i64 (5 + nb + th)] 3)).alloc (.cells #[.int .i64 th, .int .i64 sl, .int .i64 lo, .int .i64 bu, .int .i64 (5 + nb), .int .i64 0, .int .i64 nl, .int .i64 0, .int .i64 0] 154)) := ⟨_, rfl⟩
  rw [← h3]
  have e3 : W3.heap = ((w1.alloc (.cells #[.int .i64 (5 + nb + th)] 3)).alloc (.cells #[.int .i64 th, .int .i64 sl, .int .i64 lo, .int .i64 bu, .int .i64 (5 + nb), .int .i64 0, .int .i64 nl, .int .i64 0, .int .i64 0] 154)).heap := by rw [h3]; rfl
  have HA : Hid (W3.heap[w1.heap.size]? = some (.cells #[.int .i64 (5 + nb + th)] 3)) := Lib.hid (by rw [e3]; exact (two_new w1 _ _).1)
  have HL3 : Hid (W3.heap[w1.heap.size + 1]? = some (.cells #[.int .i64 th, .int .i64 sl, .int .i64 lo, .int .i64 bu, .int .i64 (5 + nb), .int .i64 0, .int .i64 nl, .int .i64 0, .int .i64 0] 154)) := Lib.hid (by rw [e3]; exact (two_new w1 _ _).2)
  have HC3 : Hid (W3.heap[w.heap.size]? = some (.cells #[.int .i64 th, .int .i64 sl, .int .i64 lo, .int .i64 bu] 23)) := Lib.hid (by rw [e3, Below.heap_alloc _ _ _ (by simp; omega), Below.heap_alloc _ _ _ hs]; exact HC.out)
  have HB3 : Hid (Below w.heap.size w W3) := Lib.hid (by rw [h3]; exact ((HB1.out.alloc HB1.out.size _).alloc (by have := HB1.out.size; simp; omega) _).drew)
  obtain ⟨A, hA⟩ : ∃ A, A = w1.heap.size := ⟨_, rfl⟩
  rw [← hA] at HA HL3 hs ⊢
  have hw : w.heap.size ≤ A := by omega
  have HWA : Hid (w.heap.size ≤ A) := Lib.hid hw
  clear h3 e3 c0 c1 c2 c3 cf HC HB1 HS hA
  obtain ⟨C, hC⟩ : ∃ C, C = w.heap.size := ⟨_, rfl⟩
  rw [← hC] at HC3 hs ⊢
  clear hC hw
  have q0 := cell_row HC3.out 0 _ rfl
  have q1 := cell_row HC3.out 1 _ rfl
  have q2 := cell_row HL3.out 2 _ rfl
  have q4 := cell_row HL3.out 4 _ rfl
  have q6 := cell_row HL3.out 6 _ rfl
  have q7 := cell_row HL3.out 7 _ rfl
  have q8 := cell_row HL3.out 8 _ rfl
  have qf := free_row HL3.out
  have hw2 : IntKind.i64.wrap (th * nl) = th * nl := IntWalk.i64_in _ (by omega)
  have hne : C ≠ A := by omega
  have hne2 : A ≠ C := by omega
  have HCUT := Lib.hid fun w h => cut120p (5 + nb + th) (th * nl) A (by omega) (by omega) m0 (by omega) w h
  have HAS : Hid (A + 1 < W3.heap.size) := Lib.hid (lt_row HL3.out)
  refine region_qd 1 8 (by kernel_rfl) (by kernel_rfl) (fun _ _ d _ _ h => by cases d <;> exact h) ?_
  simp only [List.take_succ_cons, List.take_zero, List.drop_succ_cons, List.drop_zero, Nat.reduceAdd]
  repeat (first | go_big_quiet_skip | (go_big_quiet_want; go_big_quiet_op; go_big_quiet_on))
  refine wpQuiet_nil ?_
  repeat (first | go_big_quiet_skip | (go_big_quiet_want; go_big_quiet_op; go_big_quiet_on))
  refine wpQuiet_nil ?_
  rintro _ ⟨k, rfl⟩
  go_wp2_with fail
  refine (HCUT.out _ (by exact HA.out)).mono ?_
  rintro e w2 ⟨rfl, ha2, hb2⟩
  have HA2 := Lib.hid ha2
  have HL4 := Lib.hid ((hb2.block (A + 1) HAS.out (by omega)).trans HL3.out)
  have HC4 := Lib.hid ((hb2.block C (by have := HAS.out; show C < W3.heap.size; omega) hne).trans HC3.out)
  have HB4 := Lib.hid ((drewN_below HB3.out k).trans (But.below2 hb2 HWA.out HB3.out.size))
  clear ha2 hb2 q0 q1 q2 q4 q6 q7 q8 qf hw2 HCUT HB3 HL3 HC3 HA
  have q1 := cell_row HC4.out 1 _ rfl
  have q2 := cell_row HL4.out 5 _ rfl
  have qf := free_row HL4.out
  go_wp2_with fail
  obtain ⟨W5, h5⟩ : ∃ W5, W5 = w2.setCell ⟨A + 1, 5, none⟩ (.int .i64 (5 + nb + th)) := ⟨_, rfl⟩
  rw [← h5]
  have HA5 : Hid (W5.heap[A]? = some (.cells #[.int .i64 (5 + nb + th + th * nl)] 3)) := Lib.hid (by rw [h5]; exact (heap_set_other (by omega)).trans HA2.out)
  have HL5 : Hid (W5.heap[A + 1]? = some (.cells #[.int .i64 th, .int .i64 sl, .int .i64 lo, .int .i64 bu, .int .i64 (5 + nb), .int .i64 (5 + nb + th), .int .i64 nl, .int .i64 0, .int .i64 0] 154)) := Lib.hid (by rw [h5]; exact heap_set _ HL4.out)
  have HB5 : Hid (Below w.heap.size w W5) := Lib.hid (by rw [h5]; exact HB4.out.setCell (by have := HWA.out; simp; omega) _)
  clear h5 q1 q2 qf HB4 HL4 HA2
  refine (cut120p (5 + nb + th + th * nl) sl A (by omega) (by omega) (by omega) (by omega) W5 HA5.out).mono ?_
  rintro e w6 ⟨rfl, ha6, hb6⟩
  have HA6 := Lib.hid ha6
  have HL6 := Lib.hid ((hb6.block (A + 1) (lt_row HL5.out) (by omega)).trans HL5.out)
  have HB6 := Lib.hid (HB5.out.trans (But.below2 hb6 HWA.out HB5.out.size))
  clear ha6 hb6 HB5 HL5 HA5
  have q0 := cell_row HA6.out 0 _ rfl
  have q7 := cell_row HL6.out 7 _ rfl
  have q8 := cell_row HL6.out 8 _ rfl
  have qf := free_row HL6.out
  go_wp2_with fail
  go_ret2
  refine ⟨A + 1, rfl, ?_, by have := HWA.out; omega, ⟨?_, HOK.out⟩⟩
  · exact (HB6.out.setCell (by have := HWA.out; simp; omega) _).setCell (by have := HWA.out; simp; omega) _
  · exact heap_set _ (heap_set _ HL6.out)
end Go.Proofs.YtkdcfijebgeajaaGreat

namespace Go.Proofs.YtkdcfijebgeajaaGreat
open Go.RowKit Go.BigFrame
set_option linter.unusedVariables false
set_option linter.unusedSimpArgs false
theorem cell_in {w : World} {b j : Nat} {c : Array Value} {t : TypeId} {f : Nat × Nat} (h : w.heap[b]? = some (.cells c t f)) : w.cell? ⟨b, j, none⟩ = c[j]? := cell_of_row _ _ j _ _ _ h
end Go.Proofs.YtkdcfijebgeajaaGreat

namespace Go.Proofs.YtkdcfijebgeajaaGreat
open Go.RowKit
set_option linter.unusedVariables false
theorem rowsIn_wide {n : Nat} {P : Program} {row : String} {args : Array Value} {w : World} {R : Value → World → Prop} (h : Rows P row args w R) : RowsIn Fence.wide n P row args w R :=
  fun c cs _ => by
    obtain ⟨v, w', r, s⟩ := h c cs
    exact ⟨v, w', r, stepsIn_wide.2 s⟩
theorem oper_in {P : Program} {o : Oper} {a : Act} {w : World} {K : Act → World → Prop} {Q : Exit → Act → World → Prop} {l n : Nat} (hd : ∀ c, o.op ≠ .defer c) (h : o.wp P a w K Q) : o.wpIn (Fence.wide.inRound l) n P a w K Q := by
  refine ⟨fun _ _ => trivial, ?_⟩
  unfold Oper.wp at h
  rw [show (o.semAt (Fence.wide.inRound l).round a.eval) = execOp a.eval o from Oper.semAt_eq _ _ _ hd]
  generalize (execOp a.eval o).run P w = r at *
  cases r with
  | ok x w' =>
    cases x <;> first
      | exact h
      | exact ⟨(fun e => by cases e), CallsIn.inRound l (callsIn_wide.2 h)⟩
      | exact ⟨(fun e => by cases e), rowsIn_wide h⟩
      | exact h.elim
  | halt x w' => cases x <;> exact h
theorem any_in {P : Program} {md : Region.Mode} {ops : Array Oper} {Q : Exit → Act → World → Prop} {l n : Nat} (hd : ∀ (i : Nat) (o : Oper), ops[i]? = some o → ∀ c, o.op ≠ .defer c) (hQ : ¬ LetsOut Q) :
    ∀ (fuel : Nat) (listed : Array Bool) (a : Act) (w : World), wpAny P md ops Q fuel listed a w → wpAnyIn (Fence.wide.inRound l) n P md ops Q fuel listed a w := by
  intro fuel
  induction fuel with
  | zero => intro listed a w h; exact h
  | succ fuel ih =>
    intro listed a w h
    refine ⟨h.1, fun i hi => ?_⟩
    have hs := h.2 i hi
    unfold wpOp at hs
    unfold wpOpIn
    cases ho : ops[i]? with
    | none => rw [ho] at hs; exact ih _ _ _ hs
    | some o =>
      rw [ho] at hs
      simp only at hs ⊢
      split
      · rename_i hw
        rw [if_pos hw] at hs
        rcases hs with hs | ⟨-, hs⟩
        · exact Oper.wpIn_mono (fun a w h => ih _ _ _ h) (oper_in (hd i o ho) hs)
        · exact absurd hs hQ
      · rename_i hw
        rw [if_neg hw] at hs
        exact ⟨fun _ _ => trivial, ih _ _ _ hs⟩
theorem region_in {P : Program} {ops : Array Oper} {Q : Exit → Act → World → Prop} {l n id : Nat} {a : Act} {w : World} (hm : P.follows .mixedOrders = true) (hd : ∀ (i : Nat) (o : Oper), ops[i]? = some o → ∀ c, o.op ≠ .defer c) (hQ : ¬ LetsOut Q)
    (h : wpAny P .any ops Q ops.size (Array.replicate ops.size false) a w.drew) : (Code.region id ops true).wpIn (Fence.wide.inRound l) n P Q a w :=
  wpIn_region_any hm (any_in hd hQ _ _ _ _ h)
theorem step_append_at {P : Program} {ops : Array Oper} {o : Oper} {a : Act} {w : World} {K : Act → World → Prop} {Q : Exit → Act → World → Prop} {E : Prop} (hgd : o.guard = none) (s x : Operand) (t : TypeId)
    (ho : o.op = .call { callee := .builtin .append, args := #[s, x], argTypes := #[t, t] })
    (base : Nat) (e : TypeId) (i : TypeInfo) (z : Value) (size bytes : Nat) (ht : P.underlying t = some (.slice e)) (hi : P.info? e = some i) (hz : i.zero = some z)
    (hsize : i.size = size) (hby : i.bytes = bytes) (hzs : z.cells.size = size) (hsz : 0 < size)
    (v : Value) (n : Nat) (xs : List Value) (hs : a.eval s = v) (hown : w.ownsRow base e size v n xs)
    (ad : Addr) (m c : Nat) (news : List Value) (hx : a.eval x = .slice (some ad) m c) (hl : news.length = m * size) (hnews : ∀ j u, news[j]? = some u → w.cell? (ad.add j) = some u) (h1 : ∀ u ∈ news, u.oneCell' = true)
    (h63 : n + m ≤ maxLen) (hbytes : (n + m) * bytes ≤ 140737488355328) (hbase : base ≤ w.heap.size)
    (h : ∀ v' w', w'.ownsRow base e size v' (n + m) (xs ++ news) → w.grownBy w' v.ownBlock → (v'.ownBlock = v.ownBlock ∨ v'.ownBlock = some w.heap.size) → K (a.put o.dst v') w') :
    if Region.wanted o (yielded ops a.tmps) = true then Oper.wp P o a w K Q else E := by
  have hw : Region.wanted o (yielded ops a.tmps) = true := by simp [Region.wanted, hgd]
  rw [if_pos hw]
  obtain ⟨v', w', hr, h2, h3, h4, h5⟩ := run_append_own_at (P := P) w base t o.type e i z size bytes ht hi hz hsize hby hzs hsz v n xs hown ad m c news hl hnews h1 h63 hbytes hbase
  unfold Oper.wp execOp
  simp only [ho, resolve, invoke, builtin, Sem.run_bind, Sem.run_pure, Result.andThen_ok, List.map_toArray, List.map_cons, List.map_nil, hs, hx, hr]
  exact h v' w' h2 h3 h5
end Go.Proofs.YtkdcfijebgeajaaGreat

namespace Go.Proofs.YtkdcfijebgeajaaGreat
open Go.RowKit Go.BigFrame
set_option linter.unusedVariables false
set_option linter.unusedSimpArgs false
def PartsAt (W : World) (b2 b3 b off n cap k : Nat) : Prop :=
  ∃ A, (8 * (k + 1) ≤ n → A = some ⟨b, off + 8 * k, none⟩) ∧ W.cell? ⟨b2, 0, none⟩ = some (.slice A (n - 8 * k) (cap - 8 * k)) ∧ W.cell? ⟨b3, 0, none⟩ = some (.int .i64 8) ∧ W.frozen? ⟨b2, 0, none⟩ = false
set_option maxRecDepth 100000 in
theorem iter71 (m l b2 b3 b off n cap : Nat) (hne : b2 ≠ b3) (hm : 1 ≤ m) (hn : n ≤ cap) (hc : cap ≤ 9223372036854775807) (J J' : Nat → World → Prop)
    (hJ : ∀ k W, J k W → PartsAt W b2 b3 b off n cap k)
    (hJ' : ∀ k W, J' k W → PartsAt W b2 b3 b off n cap k)
    (hY : ∀ k W, 8 * (k + 1) ≤ n → J k W → YieldAt Fence.wide (m - 1) Tryz.prog l #[.slice (some ⟨b, off + 8 * k, none⟩) 8 8] W fun e W' => e = .returned (.bool true) ∧ J' k W')
    (hN : ∀ k W A, 8 * (k + 1) ≤ n → J' k W → (8 * (k + 1 + 1) ≤ n → A = some ⟨b, off + 8 * (k + 1), none⟩) → J (k + 1) (W.setCell ⟨b2, 0, none⟩ (.slice A (n - 8 * (k + 1)) (cap - 8 * (k + 1)))))
    (W : World) (h0 : J 0 W) :
    CallsIn Fence.wide m Tryz.prog 197 #[.func (.yield l) #[] #[], .pointer (some ⟨b2, 0, none⟩), .pointer (some ⟨b3, 0, none⟩)] W fun e W' => (∃ v, e = .returned v) ∧ J (n / 8) W' := by
  have HJ := Lib.hid hJ
  have HJ' := Lib.hid hJ'
  have HY := Lib.hid hY
  have HN := Lib.hid hN
  have H0 := Lib.hid h0
  clear hJ hJ' hY hN h0
  refine callsIn_of_wp Tryz.func197 rfl trivial ?_ rfl
  simp only [Tryz.ntmps197, List.size_toArray, List.length_cons, List.length_nil, Nat.reduceAdd, Nat.reduceSub, Array.replicate_succ, Array.replicate_zero, List.push_toArray, List.append_toArray, List.nil_append, List.cons_append]
  gi_wp2
  gi_loopg [] (n / 8) (fun g wr => ∃ k : Nat, k + g = n / 8 ∧ Hid (J k wr))
  case atStart => exact ⟨0, by omega, H0⟩
  case round =>
    obtain ⟨k, hk, HK⟩ := hrel
    obtain ⟨A, hA, c2, c3, f2⟩ := HJ.out k wr HK.out
    by_cases hlt : 8 * (k + 1) ≤ n
    · obtain rfl := hA (by omega)
      obtain ⟨fn, tmps, assign, body, hy, hR⟩ := HY.out k wr hlt HK.out
      have HR := Lib.hid hR
      have HL := Lib.hid hlt
      obtain ⟨r, hr⟩ : ∃ r, r = n - 8 * k := ⟨_, rfl⟩
      obtain ⟨q, hq⟩ : ∃ q, q = cap - 8 * k := ⟨_, rfl⟩
      rw [← hr, ← hq] at c2
      have d1 : decide ((8 : Int) ≤ (r : Int)) = true := bool_yes (by omega)
      have i1 : (8 : Int) ≤ (q : Int) := by omega
      have i2 : (8 : Int) ≤ (r : Int) := by omega
      have i3 : (r : Int) ≤ (q : Int) := by omega
      have HRQ : Hid (r = n - 8 * k ∧ q = cap - 8 * k) := Lib.hid ⟨hr, hq⟩
      obtain ⟨o, ho⟩ : ∃ o, o = off + 8 * k := ⟨_, rfl⟩
      rw [← ho] at c2 hy
      have HO := Lib.hid ho
      clear hA hr hq ho hR hlt HY HJ
      gi_wp2
      refine HR.out.mono ?_
      rintro e W' ⟨rfl, hj⟩
      have HK2 := Lib.hid hj
      obtain ⟨A2, hA2, e2, e3, g2⟩ := HJ'.out k W' hj
      obtain rfl := hA2 (by have := HL.out; omega)
      rw [← HO.out, ← HRQ.out.1, ← HRQ.out.2] at e2
      clear hj hA2 c2 c3 f2 hy HR
      by_cases hq8 : q = 8
      · have hN1 := HN.out k W' (some ⟨b, o, none⟩) HL.out HK2.out (fun h => by have := HRQ.out.2; have := HL.out; omega)
        have hN2 : J (k + 1) (W'.setCell ⟨b2, 0, none⟩ (.slice (some ⟨b, o, none⟩) (r - 8) (q - 8))) := by
          rw [show r - 8 = n - 8 * (k + 1) by have := HRQ.out; omega, show q - 8 = cap - 8 * (k + 1) by have := HRQ.out; omega]; exact hN1
        have HN2 := Lib.hid hN2
        clear hN1 hN2
        subst hq8
        gi_wp2
        go_roundg (gk - 1)
        case rel => exact ⟨k + 1, by have := HL.out; omega, HN2⟩
        case measure => have := HL.out; omega
      · have hN1 := HN.out k W' (some ⟨b, o + 8, none⟩) HL.out HK2.out (fun _ => by rw [HO.out]; congr 2)
        have hN2 : J (k + 1) (W'.setCell ⟨b2, 0, none⟩ (.slice (some ⟨b, o + 8, none⟩) (r - 8) (q - 8))) := by
          rw [show r - 8 = n - 8 * (k + 1) by have := HRQ.out; omega, show q - 8 = cap - 8 * (k + 1) by have := HRQ.out; omega]; exact hN1
        have HN2 := Lib.hid hN2
        have q1 : (8 == q) = false := by simp; omega
        have q2 : (q == 8) = false := by simp; omega
        clear hN1 hN2
        gi_wp2
        go_roundg (gk - 1)
        case rel => exact ⟨k + 1, by have := HL.out; omega, HN2⟩
        case measure => have := HL.out; omega
    · have HL := Lib.hid hlt
      have hkn : k = n / 8 := by omega
      have HR : Hid (n - 8 * k < 8) := Lib.hid (by omega)
      generalize n - 8 * k = r at *
      have d1 : decide ((8 : Int) ≤ (r : Int)) = false := bool_no (by have := HR.out; omega)
      have HKN := Lib.hid hkn
      clear hkn hlt hA
      gi_wp2
      go_end0
      exact ⟨⟨_, rfl⟩, by rw [← HKN.out]; exact HK.out⟩
end Go.Proofs.YtkdcfijebgeajaaGreat

namespace Go.Proofs.YtkdcfijebgeajaaGreat
open Go.RowKit Go.BigFrame
set_option linter.unusedVariables false
set_option linter.unusedSimpArgs false
theorem wpList_push' {P : Program} {ops : Array Oper} {rest : List Oper} {o : Oper} {a : Act} {Q : Exit → Act → World → Prop} (hgd : o.guard = none) (s x : Operand) (t : TypeId)
    (ho : o.op = .call { callee := .builtin .append, args := #[s, x], argTypes := #[t, t] })
    (base : Nat) (e e' : TypeId) (i : TypeInfo) (z : Value) (size bytes : Nat) (ht : P.underlying t = some (.slice e)) (hi : P.info? e = some i) (hz : i.zero = some z)
    (hsize : i.size = size) (hby : i.bytes = bytes) (hzs : z.cells.size = size) (hsz : 0 < size)
    (wr : World) (hbase : base ≤ wr.heap.size) (v : Value) (n : Nat) (xs : List Value) (hs : a.eval s = v) (hown : wr.ownsRow base e size v n xs)
    (cs : Array Value) (m c : Nat) (hx : a.eval x = .slice (some ⟨wr.heap.size, 0, none⟩) m c) (hl : cs.size = m * size) (h1 : ∀ u ∈ cs.toList, u.oneCell' = true)
    (h63 : n + m ≤ maxLen) (hbytes : (n + m) * bytes ≤ 140737488355328)
    (h : ∀ v' w', w'.ownsRow base e size v' (n + m) (xs ++ cs.toList) → wr.grownBy w' v.ownBlock → (∀ B W, Below B W wr → B ≤ base → Below B W w') → (v' = .slice none 0 0 ↔ v = .slice none 0 0 ∧ m = 0) → wpList P ops Q rest (a.put o.dst v') w') :
    wpList P ops Q (o :: rest) a (wr.alloc (.cells cs e')) := by
  refine wpList_append_own _ hgd s x t ho base e i z size bytes ht hi hz hsize hby hzs hsz v n xs hs (hown.alloc _) ⟨wr.heap.size, 0, none⟩ m c cs.toList hx (by simpa using hl) (fun j u hj => cell_alloc wr cs e' j u hj) h1 h63 hbytes (by simp; omega) ?_
  intro v' w' ho' hg' hn'
  refine h v' w' ho' (grownBy_trans (World.grownBy_alloc wr _ _) hg') (fun B W hb hB => ?_) hn'
  refine (hb.alloc (by omega) _).grown hg' (by simp; omega) (fun k hk => ?_)
  have := hown.lt k hk
  omega
theorem info42 : (Tryz.prog.info? 105).map (fun i => (i.zero, i.size, i.bytes)) = some (some (.int .u64 0), 1, 8) := by kernel_rfl
def wordsL (f : Nat → Int) (n : Nat) : List Value := (List.range n).map fun k => .int .u64 (f k)
theorem wordsL_len (f : Nat → Int) (n : Nat) : (wordsL f n).length = n := by simp [wordsL]
theorem wordsL_get (f : Nat → Int) (n k : Nat) (h : k < n) : (wordsL f n)[k]? = some (.int .u64 (f k)) := by
  unfold wordsL; rw [List.getElem?_map, List.getElem?_range h]; rfl
theorem wordsL_8 (f : Nat → Int) (k : Nat) : wordsL f (8 * (k + 1)) = wordsL f (8 * k) ++ [.int .u64 (f (k * 8)), .int .u64 (f (k * 8 + 1)), .int .u64 (f (k * 8 + 2)), .int .u64 (f (k * 8 + 3)), .int .u64 (f (k * 8 + 4)), .int .u64 (f (k * 8 + 5)), .int .u64 (f (k * 8 + 6)), .int .u64 (f (k * 8 + 7))] := by
  unfold wordsL
  rw [show 8 * (k + 1) = 8 * k + 8 by omega, List.range_add, List.map_append, List.map_map]
  congr 1
  simp only [List.range_succ_eq_map, List.range_zero, List.map_cons, List.map_nil, Function.comp, List.map_map]
  rw [show 8 * k = k * 8 by omega]
  rfl
def NewWords (f : Nat → Int) (n : Nat) (W : World) (e : Ending) (W' : World) : Prop := ∃ v, e = .returned v ∧ Below W.heap.size W W' ∧ W'.ownsRow W.heap.size 105 1 v n (wordsL f n)
set_option maxRecDepth 100000 in
set_option maxHeartbeats 1000000 in
theorem words42 (b n cap : Nat) (hn : n ≤ 262144) (f : Nat → Int) (W : World) (h : RowAt W b (8 * n) fun k => .int .u64 (f k)) :
    Calls Tryz.prog 83 #[.slice (some ⟨b, 0, none⟩) n cap] W (NewWords f (8 * n) W) := by
  obtain ⟨i42, hi, hz0, hz1, hz2⟩ := info_parts info42
  have HR := Lib.hid h
  have hb := h.lt
  clear h
  obtain ⟨B, hB⟩ : ∃ B, B = W.heap.size := ⟨_, rfl⟩
  unfold NewWords
  rw [← hB] at hb ⊢
  have HBB := Lib.hid hb; clear hb
  have HB := Lib.hid hB; clear hB
  go_enter Tryz.func83, Tryz.ntmps83
  go_wp2_with fail
  go_loopw [3, 8] (fun v i wr => ∃ k : Nat, k ≤ n ∧ i = .int .i64 k ∧ Hid (wr.ownsRow B 105 1 v (8 * k) (wordsL f (8 * k))) ∧ Hid (Below B W wr)) (fun _ i _ => n - (intOf i).toNat)
  case atStart => exact ⟨0, Nat.zero_le _, rfl, World.ownsRow_nil _ _ _ _, Below.refl _ _⟩
  case round =>
    obtain ⟨k, hk, rfl, HO, HBE⟩ := hrel
    have HBw : Hid (B ≤ wr.heap.size) := Lib.hid (by rw [HB.out]; exact HBE.out.size)
    by_cases hlt : k < n
    · have hr : RowAt wr b (8 * n) fun k => .int .u64 (f k) := HR.out.keep (HBE.out.block b HBB.out)
      have h8 : Eight wr b (k * 8) (fun r => f (k * 8 + r)) := fun r hr' => hr.cell (by omega)
      obtain ⟨c0, c1, c2, c3, c4, c5, c6, c7⟩ := h8.cells
      have hw8 := wordsL_8 f k
      have i0 : (0 : Int) ≤ (k : Int) := by omega
      have i1 : (k : Int) < (n : Int) := by omega
      have i2 : decide ((k : Int) < (n : Int)) = true := bool_yes i1
      rw [Nat.add_zero] at c0
      have HW8 := Lib.hid hw8
      clear hr h8 hw8
      generalize f (k * 8) = v0 at *
      generalize f (k * 8 + 1) = v1 at *
      generalize f (k * 8 + 2) = v2 at *
      generalize f (k * 8 + 3) = v3 at *
      generalize f (k * 8 + 4) = v4 at *
      generalize f (k * 8 + 5) = v5 at *
      generalize f (k * 8 + 6) = v6 at *
      generalize f (k * 8 + 7) = v7 at *
      go_wp2_with (at_builtin; refine wpList_push' rfl _ _ 24 rfl B 105 142 i42 (.int .u64 0) 1 8 Tryz.underlying24 hi hz0 hz1 hz2 rfl (by decide) wr HBw.out u3 (8 * k) (wordsL f (8 * k)) rfl HO.out #[.int .u64 v0, .int .u64 v1, .int .u64 v2, .int .u64 v3, .int .u64 v4, .int .u64 v5, .int .u64 v6, .int .u64 v7] 8 8 rfl rfl (by simp [Value.oneCell']) (by unfold maxLen; omega) (by omega) ?_; intro v' w' hown hgr hbel hne; have HO' := Lib.hid hown; have HB' := Lib.hid (hbel B W HBE.out (Nat.le_refl _)); clear hown hgr hbel hne)
      go_wp2_with fail
      go_roundw
      case rel => exact ⟨k + 1, by omega, by go_num, Lib.hid (by rw [HW8.out]; exact HO'.out), HB'⟩
      case measure => simp [intOf]; omega
    · obtain rfl : k = n := by omega
      have i2 : decide ((k : Int) < (k : Int)) = false := by simp
      go_wp2_with fail
      go_ret
      exact ⟨_, rfl, HBE.out, HO.out⟩
end Go.Proofs.YtkdcfijebgeajaaGreat

namespace Go.Proofs.YtkdcfijebgeajaaGreat
open Go.RowKit Go.BigFrame
set_option linter.unusedVariables false
set_option linter.unusedSimpArgs false
theorem own_slice {w : World} {base : Nat} {e : TypeId} {size : Nat} {v : Value} {n : Nat} {xs : List Value} (h : w.ownsRow base e size v n xs) : ∃ a m c, v = .slice a m c := by
  rcases h.2 with ⟨rfl, -⟩ | ⟨g, cap, cur, rfl, -⟩
  · exact ⟨_, _, _, rfl⟩
  · exact ⟨_, _, _, rfl⟩
theorem own_slice_n {w : World} {base : Nat} {e : TypeId} {size : Nat} {v : Value} {n : Nat} {xs : List Value} (h : w.ownsRow base e size v n xs) : ∃ a c, v = .slice a n c := by
  rcases h.2 with ⟨rfl, rfl⟩ | ⟨g, cap, cur, rfl, -⟩
  · exact ⟨_, _, rfl⟩
  · exact ⟨_, _, rfl⟩
theorem own_lt {w : World} {base : Nat} {e : TypeId} {size : Nat} {v : Value} {n : Nat} {xs : List Value} (h : w.ownsRow base e size v n xs) {k : Nat} (hk : v.ownBlock = some k) : base ≤ k ∧ k < w.heap.size := by
  rcases h.2 with ⟨rfl, -⟩ | ⟨g, cap, cur, rfl, hb, hg, -⟩
  · cases hk
  · cases hk; exact ⟨hb, (Array.getElem?_eq_some_iff.1 hg).1⟩
theorem own_cells {w : World} {base : Nat} {e : TypeId} {size : Nat} {v : Value} {n : Nat} {xs : List Value} (h : w.ownsRow base e size v n xs) {k : Nat} (hk : v.ownBlock = some k) : ∃ cs t f, w.heap[k]? = some (.cells cs t f) := by
  rcases h.2 with ⟨rfl, -⟩ | ⟨g, cap, cur, rfl, hb, hg, -⟩
  · cases hk
  · cases hk; exact ⟨_, _, _, hg⟩
theorem own_keep1 {w w' : World} {base : Nat} {e : TypeId} {size : Nat} {v : Value} {n : Nat} {xs : List Value} (h : w.ownsRow base e size v n xs) (hk : ∀ k, v.ownBlock = some k → w'.heap[k]? = w.heap[k]?) : w'.ownsRow base e size v n xs := by
  refine ⟨h.1, ?_⟩
  rcases h.2 with hn | ⟨g, cap, cur, rfl, hb, hg, rest⟩
  · exact .inl hn
  · exact .inr ⟨g, cap, cur, rfl, hb, (hk g rfl).trans hg, rest⟩
theorem own_row {w : World} {base : Nat} {e : TypeId} {size : Nat} {v : Value} {n : Nat} {xs : List Value} (h : w.ownsRow base e size v n xs) (hn : 0 < n) : ∃ g cap c, v = .slice (some ⟨g, 0, none⟩) n cap ∧ base ≤ g ∧ w.heap[g]? = some (.cells c e (0, 0)) ∧ n ≤ cap ∧ c.size = cap * size ∧ ∀ j, j < n * size → c[j]? = xs[j]? := by
  rcases h.2 with ⟨-, rfl⟩ | ⟨g, cap, cur, rfl, hb, hg, h1, h2, h3, h4⟩
  · omega
  · refine ⟨g, cap, cur, rfl, hb, hg, h1, h3, fun j hj => ?_⟩
    rw [← h4, List.getElem?_take, if_pos hj]; simp
theorem cells_at {W : World} {b o : Nat} {v : Value} (h : W.cell? ⟨b, o, none⟩ = some v) : ∃ cs t f, W.heap[b]? = some (.cells cs t f) := by
  unfold World.cell? at h
  split at h
  · rename_i c t f e; exact ⟨c, t, f, e⟩
  · cases h
def Stays (W W' : World) : Prop := ∀ (k : Nat) (o : Obj), W.heap[k]? = some o → o.isCells = false → W'.heap[k]? = some o
theorem Stays.trans {A B C : World} (h : Stays A B) (k : Stays B C) : Stays A C := fun q o a b => k q o (h q o a b) b
theorem stays_set {W : World} {p o : Nat} {v u : Value} (h : W.cell? ⟨p, o, none⟩ = some u) (j : Nat) : Stays W (W.setCell ⟨p, j, none⟩ v) := fun k ob hk hc => by
  by_cases e : k = p
  · subst e
    obtain ⟨cs, t, f, he⟩ := cells_at h
    rw [hk] at he; cases he; cases hc
  · rw [heap_set_other e]; exact hk
structure CutAt (w0 W : World) (po b2 b3 b off n cap : Nat) (f : Nat → Int) (k j : Nat) : Prop where
  below : Below w0.heap.size w0 W
  parts : PartsAt W b2 b3 b off n cap k
  out : ∃ v, W.cell? ⟨po, 0, none⟩ = some v ∧ W.ownsRow w0.heap.size 142 8 v j (wordsL f (8 * j)) ∧ v.ownBlock ≠ some po ∧ v.ownBlock ≠ some b2 ∧ v.ownBlock ≠ some b3
  fpo : W.frozen? ⟨po, 0, none⟩ = false
  h1 : w0.heap.size ≤ po ∧ po < W.heap.size
  h2 : w0.heap.size ≤ b2 ∧ b2 < W.heap.size
  h3 : w0.heap.size ≤ b3 ∧ b3 < W.heap.size
theorem PartsAt.keep {W W' : World} {b2 b3 b off n cap k : Nat} (h : PartsAt W b2 b3 b off n cap k) (e2 : W'.heap[b2]? = W.heap[b2]?) (e3 : W'.heap[b3]? = W.heap[b3]?) : PartsAt W' b2 b3 b off n cap k := by
  obtain ⟨A, a, c2, c3, f2⟩ := h
  exact ⟨A, a, (cell_of_heap e2 0).trans c2, (cell_of_heap e3 0).trans c3, (frozen_of_heap e2 0).trans f2⟩
theorem CutAt.same {w0 W W' : World} {po b2 b3 b off n cap : Nat} {f : Nat → Int} {k j : Nat} (h : CutAt w0 W po b2 b3 b off n cap f k j) (hs : W.heap.size ≤ W'.heap.size)
    (he : ∀ (g : Nat) (cs : Array Value) (t : TypeId) (q : Nat × Nat), W.heap[g]? = some (.cells cs t q) → W'.heap[g]? = some (.cells cs t q)) (hb : Below w0.heap.size w0 W') : CutAt w0 W' po b2 b3 b off n cap f k j := by
  have e : ∀ g : Nat, (∃ cs t q, W.heap[g]? = some (.cells cs t q)) → W'.heap[g]? = W.heap[g]? := fun g ⟨cs, t, q, hg⟩ => (he g cs t q hg).trans hg.symm
  obtain ⟨A, a, c2, c3, f2⟩ := h.parts
  obtain ⟨v, hv, ho, n1, n2, n3⟩ := h.out
  refine ⟨hb, h.parts.keep (e _ (cells_at c2)) (e _ (cells_at c3)), ⟨v, (cell_of_heap (e _ (cells_at hv)) 0).trans hv, own_keep1 ho fun q hq => e _ (own_cells ho hq), n1, n2, n3⟩, (frozen_of_heap (e _ (cells_at hv)) 0).trans h.fpo,
    ⟨h.h1.1, by have := h.h1.2; omega⟩, ⟨h.h2.1, by have := h.h2.2; omega⟩, ⟨h.h3.1, by have := h.h3.2; omega⟩⟩
theorem CutAt.grow {w0 W W' : World} {po b2 b3 b off n cap : Nat} {f : Nat → Int} {k j : Nat} (h : CutAt w0 W po b2 b3 b off n cap f k j) (hb : Below W.heap.size W W') : CutAt w0 W' po b2 b3 b off n cap f k j :=
  h.same hb.size (fun g cs t f he => (hb.block g (Array.getElem?_eq_some_iff.1 he).1).trans he) (h.below.trans (hb.mono h.below.size))
theorem grownBy_putObj' (W : World) (l : Nat) (o' : Obj) : W.grownBy (W.putObj l o') (some l) :=
  ⟨rfl, rfl, rfl, by simp [World.putObj], fun i hi hne => World.putObj_heap_other (fun e => hne (by rw [e]))⟩
theorem CutAt.put {w0 W : World} {po b2 b3 b off n cap : Nat} {f : Nat → Int} {k j : Nat} (h : CutAt w0 W po b2 b3 b off n cap f k j) {l : Nat} {o : Obj} (hl : W.heap[l]? = some o) (ho : o.isCells = false) (hw : w0.heap.size ≤ l) (o' : Obj) : CutAt w0 (W.putObj l o') po b2 b3 b off n cap f k j := by
  have hg := grownBy_putObj' W l o'
  refine h.same hg.size (fun g cs t f he => ?_) (h.below.grown hg h.below.size (fun k e => by cases e; exact hw))
  rw [World.putObj_heap_other (by rintro rfl; rw [hl] at he; cases he; cases ho)]
  exact he
theorem CutAt.next {w0 W : World} {po b2 b3 b off n cap : Nat} {f : Nat → Int} {k j : Nat} (h : CutAt w0 W po b2 b3 b off n cap f k j) (n1 : po ≠ b2) (n2 : b2 ≠ b3) {A : Option Addr} (hA : 8 * (k + 1 + 1) ≤ n → A = some ⟨b, off + 8 * (k + 1), none⟩) :
    CutAt w0 (W.setCell ⟨b2, 0, none⟩ (.slice A (n - 8 * (k + 1)) (cap - 8 * (k + 1)))) po b2 b3 b off n cap f (k + 1) j := by
  obtain ⟨A0, a, c2, c3, f2⟩ := h.parts
  obtain ⟨v, hv, ho, m1, m2, m3⟩ := h.out
  refine ⟨h.below.setCell h.h2.1 _, ⟨A, hA, cell_set_at _ c2, (cell_of_heap (heap_set_other (Ne.symm n2)) 0).trans c3, by rw [World.frozen?_setCell]; exact f2⟩, ⟨v, (cell_of_heap (heap_set_other n1) 0).trans hv, own_keep1 ho fun q hq => heap_set_other (fun e => m2 (e ▸ hq)), m1, m2, m3⟩, by rw [World.frozen?_setCell]; exact h.fpo,
    by simpa using h.h1, by simpa using h.h2, by simpa using h.h3⟩
theorem CutAt.add {w0 W W1 w' : World} {po b2 b3 b off n cap : Nat} {f : Nat → Int} {k : Nat} (h : CutAt w0 W po b2 b3 b off n cap f k k) (n1 : po ≠ b2) (n2 : b2 ≠ b3) (n3 : po ≠ b3) {v v' : Value} (hv : W.cell? ⟨po, 0, none⟩ = some v) (hb : Below W.heap.size W W1)
    (ho' : w'.ownsRow w0.heap.size 142 8 v' (k + 1) (wordsL f (8 * (k + 1)))) (hg : W1.grownBy w' v.ownBlock) (hbl : v'.ownBlock = v.ownBlock ∨ v'.ownBlock = some W1.heap.size) :
    CutAt w0 (w'.setCell ⟨po, 0, none⟩ v') po b2 b3 b off n cap f k (k + 1) ∧ Stays W (w'.setCell ⟨po, 0, none⟩ v') := by
  obtain ⟨v0, hv0, ho0, m1, m2, m3⟩ := h.out
  obtain rfl : v0 = v := by rw [hv] at hv0; cases hv0; rfl
  obtain ⟨A0, a, c2, c3, f2⟩ := h.parts
  have z1 := hb.size
  have z2 := hg.size
  have kA : ∀ g, g < W.heap.size → v0.ownBlock ≠ some g → w'.heap[g]? = W.heap[g]? := fun g hg' e => (hg.block g (by omega) (Ne.symm e)).trans (hb.block g hg')
  have kB : ∀ g, g < W.heap.size → v0.ownBlock ≠ some g → g ≠ po → (w'.setCell ⟨po, 0, none⟩ v').heap[g]? = W.heap[g]? := fun g hg' e e2 => (heap_set_other e2).trans (kA g hg' e)
  have nn : ∀ g, g < W.heap.size → v0.ownBlock ≠ some g → v'.ownBlock ≠ some g := fun g hg' e e2 => by
    rcases hbl with q | q
    · exact e (by rw [← q]; exact e2)
    · rw [q] at e2; cases e2; omega
  have l1 := h.h1
  have l2 := h.h2
  have l3 := h.h3
  refine ⟨⟨?_, h.parts.keep (kB b2 l2.2 m2 (Ne.symm n1)) (kB b3 l3.2 m3 (Ne.symm n3)), ⟨v', cell_set_at _ ((cell_of_heap (kA po l1.2 m1) 0).trans hv), own_keep1 ho' fun q hq => heap_set_other (fun e => nn po l1.2 m1 (e ▸ hq)), nn po l1.2 m1, nn b2 l2.2 m2, nn b3 l3.2 m3⟩, ?_, ?_, ?_, ?_⟩, ?_⟩
  · exact ((h.below.trans (hb.mono h.below.size)).grown hg (by have := h.below.size; omega) (fun q e => (own_lt ho0 e).1)).setCell l1.1 _
  · rw [World.frozen?_setCell, frozen_of_heap (kA po l1.2 m1)]; exact h.fpo
  · simp only [World.size_setCell]; omega
  · simp only [World.size_setCell]; omega
  · simp only [World.size_setCell]; omega
  · intro q o hq hc
    have hlt := (Array.getElem?_eq_some_iff.1 hq).1
    have hne : ∀ {g}, (∃ cs t f, W.heap[g]? = some (.cells cs t f)) → q ≠ g := by
      rintro g ⟨cs, t, f, he⟩ rfl
      rw [hq] at he; cases he; cases hc
    rw [kB q hlt (fun e => hne (own_cells ho0 e) rfl) (hne (cells_at hv))]; exact hq
end Go.Proofs.YtkdcfijebgeajaaGreat

namespace Go.Proofs.YtkdcfijebgeajaaGreat
open Go.RowKit Go.BigFrame
set_option linter.unusedVariables false
set_option linter.unusedSimpArgs false
def Ended (R : World → Prop) : Exit → Act → World → Prop
  | .normal, _, w => R w
  | _, _, _ => False
theorem range71 {assign body : Code} {Q : Exit → Act → World → Prop} {a : Act} {g : Operand} {w0 w : World} {po b2 b3 b off n cap : Nat} {f : Nat → Int} (hn : n ≤ cap) (hc : cap ≤ 9223372036854775807) (n1 : po ≠ b2) (n2 : b2 ≠ b3)
    (hg : a.eval g = .func (.func 197) #[] #[.pointer (some ⟨b2, 0, none⟩), .pointer (some ⟨b3, 0, none⟩)])
    (h0 : CutAt w0 w po b2 b3 b off n cap f 0 0)
    (hassign : ∀ (l : Nat) (v : Value) (W : World) (K : Act → World → Prop), K { tmps := (a.tmps.setIfInBounds 15 v).setIfInBounds 6 v, defers := [] } W →
      assign.wpIn (Fence.wide.inRound l) 7 Tryz.prog (Exit.then K (fun _ _ _ => False)) { tmps := a.tmps.setIfInBounds 15 v, defers := [] } W)
    (hbody : ∀ (l k : Nat) (W : World), 8 * (k + 1) ≤ n → CutAt w0 W po b2 b3 b off n cap f k k →
      body.wpIn (Fence.wide.inRound l) 7 Tryz.prog (Ended fun W' => CutAt w0 W' po b2 b3 b off n cap f k (k + 1) ∧ Stays W W') { tmps := (a.tmps.setIfInBounds 15 (.slice (some ⟨b, off + 8 * k, none⟩) 8 8)).setIfInBounds 6 (.slice (some ⟨b, off + 8 * k, none⟩) 8 8), defers := [] } W)
    (hdone : ∀ (D : Nat) (W : World), w0.heap.size ≤ D → CutAt w0 W po b2 b3 b off n cap f (n / 8) (n / 8) → W.heap[D]? = some (.deferred (some [])) → Q .normal { a with defers := { target := .collected D, args := #[] } :: a.defers } W) :
    (Code.rangeFunc g #[15] assign body).wpIn Fence.wide 9 Tryz.prog Q a w := by
  refine wpIn_rangeFunc ?_
  intro fn hfn
  obtain ⟨rec, hrec⟩ : ∃ rec : LoopState → Option Code → Loop, rec = fun st pe => { state := st, pending := pe, fn, tmps := a.tmps, params := #[15], assign, body, defers := w.heap.size } := ⟨_, rfl⟩
  obtain ⟨W1, hW1⟩ : ∃ W1, (w.alloc (.deferred (some []))).alloc (.loop (rec .ready none)) = W1 := ⟨_, rfl⟩
  have hsw := h0.below.size
  have hL1 : W1.heap[w.heap.size + 1]? = some (.loop (rec .ready none)) := by
    rw [← hW1]; have := World.alloc_heap_new (w.alloc (.deferred (some []))) (.loop (rec .ready none)); rwa [World.size_alloc] at this
  have hK1 : W1.heap[w.heap.size]? = some (.deferred (some [])) := by
    rw [← hW1]; exact (Below.heap_alloc _ _ _ (by simp)).trans (World.alloc_heap_new w _)
  have hI1 : CutAt w0 W1 po b2 b3 b off n cap f 0 0 := h0.grow (by rw [← hW1]; exact ((Below.refl _ w).alloc (Nat.le_refl _) _).alloc (by simp) _)
  refine ⟨w.heap.size + 1, [{ target := .collected w.heap.size, args := #[] }], W1, { target := .fn (.func 197) #[.pointer (some ⟨b2, 0, none⟩), .pointer (some ⟨b3, 0, none⟩)], args := #[.func (.yield (w.heap.size + 1)) #[] #[]] }, W1, 197,
    #[.func (.yield (w.heap.size + 1)) #[] #[]] ++ #[.pointer (some ⟨b2, 0, none⟩), .pointer (some ⟨b3, 0, none⟩)], W1, ?_, ?_, ?_, ?_, fun _ => by omega, ?_⟩
  · rw [← hW1, hrec]; exact run_enterLoop_outer _ _ _ _ _
  · simp only [resolve, hg]
    simp [go_sem]
  · intro f' hf'; simp [Target.leads] at hf'; subst hf'; trivial
  · have eg : ∀ args w, (callFunc 197 args).run Tryz.prog w = .ok (.enter 197 args) w := enters_at Tryz.func197 (by kernel_rfl) rfl
    simp [invoke, go_sem, eg]
  · have K : ∀ (k j : Nat), World → Prop := fun _ _ _ => True
    refine (iter71 8 (w.heap.size + 1) b2 b3 b off n cap n2 (by omega) hn hc
      (fun k W => CutAt w0 W po b2 b3 b off n cap f k k ∧ W.heap[w.heap.size + 1]? = some (.loop (rec .ready none)) ∧ W.heap[w.heap.size]? = some (.deferred (some [])))
      (fun k W => CutAt w0 W po b2 b3 b off n cap f k (k + 1) ∧ W.heap[w.heap.size + 1]? = some (.loop (rec .ready none)) ∧ W.heap[w.heap.size]? = some (.deferred (some [])))
      (fun k W h => h.1.parts) (fun k W h => h.1.parts) ?_ ?_ W1 ⟨hI1, hL1, hK1⟩).mono ?_
    · rintro k W hk ⟨hi, hl, hkk⟩
      have hlt : w.heap.size + 1 < W.heap.size := (Array.getElem?_eq_some_iff.1 hl).1
      have hy : (Instr.yield (w.heap.size + 1) #[.slice (some ⟨b, off + 8 * k, none⟩) 8 8]).run Tryz.prog W = .ok (.round (w.heap.size + 1) fn (a.tmps.setIfInBounds 15 (.slice (some ⟨b, off + 8 * k, none⟩) 8 8)) assign body) W := by
        refine (run_yield (P := Tryz.prog) (args := #[.slice (some ⟨b, off + 8 * k, none⟩) 8 8]) hl (by rw [hrec]; rfl)).trans ?_
        rw [hrec]
        simp
      refine ⟨fn, _, assign, body, hy, roundIn_of_wpIn hfn (hassign _ _ W _ ⟨_, run_beginRound hl (by rw [hrec]), ?_⟩)⟩
      have hl2 : (W.putObj (w.heap.size + 1) (.loop { rec .ready none with state := .busy })).heap[w.heap.size + 1]? = some (.loop { rec .ready none with state := .busy }) := World.putObj_heap_same hlt
      have hk2 : (W.putObj (w.heap.size + 1) (.loop { rec .ready none with state := .busy })).heap[w.heap.size]? = some (.deferred (some [])) := (World.putObj_heap_other (by omega)).trans hkk
      refine wpIn_mono (hbody _ k _ hk (hi.put hl rfl (by omega) _)) ?_
      rintro e a3 W3 hp
      cases e with
      | normal =>
        obtain ⟨hi3, hs3⟩ := hp
        have hl3 := hs3 _ _ hl2 rfl
        have hk3 := hs3 _ _ hk2 rfl
        have hend := run_endRound (P := Tryz.prog) none hl3
        refine ⟨_, _, hend, rfl, hi3.put hl3 rfl (by omega) _, ?_, (World.putObj_heap_other (by omega)).trans hk3⟩
        rw [World.putObj_heap_same (Array.getElem?_eq_some_iff.1 hl3).1, hrec]
        rfl
      | _ => exact hp.elim
    · rintro k W A hk ⟨hi, hl, hkk⟩ hA
      obtain ⟨A0, -, c2, -, -⟩ := hi.parts
      have hs := stays_set (v := .slice A (n - 8 * (k + 1)) (cap - 8 * (k + 1))) c2 0
      exact ⟨hi.next n1 n2 hA, hs _ _ hl rfl, hs _ _ hkk rfl⟩
    · rintro e W2 ⟨⟨v, rfl⟩, hi, hl, hk⟩
      exact ⟨none, _, by have := run_endLoop (P := Tryz.prog) hl (by rw [hrec]; simp); rw [hrec] at this; exact this, hdone _ _ hsw (hi.put hl rfl (by omega) _) ((World.putObj_heap_other (by omega)).trans hk)⟩
theorem parts50 (v : Value) (hv : ∃ a m c, v = .slice a m c) (n : Int) (w : World) : Calls Tryz.prog 147 #[v, .int .i64 n] w fun e w' =>
    e = .returned (.func (.func 197) #[] #[.pointer (some ⟨w.heap.size, 0, none⟩), .pointer (some ⟨w.heap.size + 1, 0, none⟩)]) ∧ w' = (w.alloc (.cells #[v] 24)).alloc (.cells #[.int .i64 n] 3) := by
  obtain ⟨a, m, c, rfl⟩ := hv
  have hmf : ∀ (fn : Fn) (first cap : Array Value) (w : World), (Instr.makeFunc fn first cap).run Tryz.prog w = .ok (.func fn first cap) w := fun _ _ _ _ => rfl
  go_enter Tryz.func147, Tryz.ntmps147
  go_wp2_with fail
  go_ret
  exact ⟨rfl, rfl⟩
end Go.Proofs.YtkdcfijebgeajaaGreat
