/- Layer 35 (dice): acts, scripts as lists; the acts that bring a store up. -/
import Derived.Test.YtoeeeapjfkjkbaaS3
import Derived.Maps.AppendAt
namespace Go.Proofs.Ytoeeeapjfkjkbaa
open Go.RowKit Go.BigFrame
set_option linter.unusedVariables false
set_option linter.unusedSimpArgs false

/-- An act. -/
structure ActD where
  ki : Int
  th : Int
  li : Int
  ok : Int
  key : Int
  val : Int
def ActD.cells (x : ActD) : Array Value := #[.int .i64 x.ki, .int .i64 x.th, .int .i64 x.li, .int .i64 x.ok, .int .u32 x.key, .int .u32 x.val]
def actCells : List ActD → List Value
  | [] => []
  | x :: l => x.cells.toList ++ actCells l
theorem actCells_append (l m : List ActD) : actCells (l ++ m) = actCells l ++ actCells m := by
  induction l with
  | nil => rfl
  | cons x l ih => simp [actCells, ih]
theorem actCells_len (l : List ActD) : (actCells l).length = l.length * 6 := by
  induction l with
  | nil => rfl
  | cons x l ih => simp [actCells, ih, ActD.cells]; omega
theorem actCells_one (l : List ActD) : ∀ u ∈ actCells l, u.oneCell' = true := by
  induction l with
  | nil => intro u h; cases h
  | cons x l ih =>
    intro u h
    rcases List.mem_append.1 h with h | h
    · simp only [ActD.cells, List.mem_cons, List.not_mem_nil, or_false] at h
      rcases h with rfl | rfl | rfl | rfl | rfl | rfl <;> rfl
    · exact ih u h
theorem actCells_at (l : List ActD) (i r : Nat) (hi : i < l.length) (hr : r < 6) : (actCells l)[i * 6 + r]? = (l.getD i ⟨0, 0, 0, 0, 0, 0⟩).cells.toList[r]? := by
  induction l generalizing i with
  | nil => cases hi
  | cons x l ih =>
    cases i with
    | zero =>
      show (x.cells.toList ++ actCells l)[0 * 6 + r]? = _
      rw [List.getElem?_append_left (by simp [ActD.cells]; omega)]
      simp
    | succ i =>
      show (x.cells.toList ++ actCells l)[(i + 1) * 6 + r]? = _
      rw [List.getElem?_append_right (by simp [ActD.cells]; omega)]
      have := ih i (by simpa using hi)
      rw [show (i + 1) * 6 + r - x.cells.toList.length = i * 6 + r by simp [ActD.cells]; omega, this]
      simp
def aRevive : ActD := ⟨5, 0, 0, 0, 0, 0⟩
def aCrash : ActD := ⟨4, 0, 0, 0, 0, 0⟩
def Cfg.revs (c : Cfg) : List ActD := List.replicate c.most.toNat aRevive
/-- The acts of a throw v (s: the state behind it), and the state then. -/
def actsOf (c : Cfg) (s v : Int) : List ActD :=
  if v % 16 < 3 then [⟨1, v / 16 % c.th, 0, rKind (rThrow s), rKey (rThrow s), rVal (rThrow s)⟩]
  else if v % 16 = 3 then [⟨3, 0, v / 256 % c.lines, 0, 0, 0⟩]
  else if v % 16 = 4 ∧ v / 256 % 8 = 0 then aCrash :: c.revs
  else [⟨2, v / 16 % c.th, 0, 0, 0, 0⟩]
def stOf (s v : Int) : Int := if v % 16 < 3 then rNext s else s
def playTo (c : Cfg) (seed : Int) : Nat → List ActD × Int
  | 0 => (c.revs, seed)
  | k + 1 => ((playTo c seed k).1 ++ actsOf c (rNext (playTo c seed k).2) (rThrow (playTo c seed k).2), stOf (rNext (playTo c seed k).2) (rThrow (playTo c seed k).2))
theorem playTo_more (c : Cfg) (seed : Int) (n m : Nat) : ∃ s, (playTo c seed (n + m)).1 = (playTo c seed n).1 ++ s := by
  induction m with
  | zero => exact ⟨[], by simp⟩
  | succ m ih =>
    obtain ⟨s, hs⟩ := ih
    refine ⟨s ++ actsOf c (rNext (playTo c seed (n + m)).2) (rThrow (playTo c seed (n + m)).2), ?_⟩
    show (playTo c seed (n + m)).1 ++ _ = _
    rw [hs, List.append_assoc]; rfl
theorem few_most {c : Cfg} (h : c.few) : 0 ≤ c.most ∧ c.most ≤ 672 := by
  obtain ⟨⟨h1, h2, h3, h4, h5, h6, h7, h8⟩, g1, g2, g3, g4⟩ := h
  obtain ⟨p1, p2⟩ := mul_bd (show 1 ≤ 4 * c.th by omega) (show 4 * c.th ≤ 24 by omega) h5 g3
  unfold Cfg.most
  omega
theorem actsOf_len {c : Cfg} (h : c.few) (s v : Int) : (actsOf c s v).length ≤ 673 := by
  have := few_most h
  unfold actsOf
  split
  · simp
  · split
    · simp
    · split
      · simp [Cfg.revs]; omega
      · simp
theorem playTo_len {c : Cfg} (h : c.few) (seed : Int) (n : Nat) : (playTo c seed n).1.length ≤ 673 * (n + 1) := by
  induction n with
  | zero => have := few_most h; simp [playTo, Cfg.revs]; omega
  | succ n ih =>
    have := actsOf_len h (rNext (playTo c seed n).2) (rThrow (playTo c seed n).2)
    show ((playTo c seed n).1 ++ _).length ≤ _
    rw [List.length_append]; omega

theorem info38 : (Try.prog.info? 38).map (fun i => (i.zero, i.size, i.bytes)) = some (some (.agg #[.int .i64 0, .int .i64 0, .int .i64 0, .int .i64 0, .int .u32 0, .int .u32 0]), 6, 40) := by kernel_rfl

/-- A table in memory: the config, how many lines, the cup's state. -/
structure TabAt (w : World) (p : Nat) (c : Cfg) (l s : Int) : Prop where
  lt : p < w.heap.size
  c0 : w.cell? ⟨p, 0, none⟩ = some (.int .i64 c.th)
  c1 : w.cell? ⟨p, 1, none⟩ = some (.int .i64 c.sl)
  c2 : w.cell? ⟨p, 2, none⟩ = some (.int .i64 c.lo)
  c3 : w.cell? ⟨p, 3, none⟩ = some (.int .i64 c.bu)
  cl : w.cell? ⟨p, 4, none⟩ = some (.int .i64 l)
  cs : w.cell? ⟨p, 5, none⟩ = some (.int .u64 s)
  free : ∀ j, w.frozen? ⟨p, j, none⟩ = false
theorem cell_of_heap {w w' : World} {b : Nat} (h : w'.heap[b]? = w.heap[b]?) (o : Nat) : w'.cell? ⟨b, o, none⟩ = w.cell? ⟨b, o, none⟩ := World.cell?_of_block (w := w) (a := ⟨b, o, none⟩) h
theorem frozen_of_heap {w w' : World} {b : Nat} (h : w'.heap[b]? = w.heap[b]?) (o : Nat) : w'.frozen? ⟨b, o, none⟩ = w.frozen? ⟨b, o, none⟩ := World.frozen?_of_block (w := w) (a := ⟨b, o, none⟩) h
theorem TabAt.keep {w w' : World} {p : Nat} {c : Cfg} {l s : Int} (h : TabAt w p c l s) (hs : w.heap.size ≤ w'.heap.size) (hb : w'.heap[p]? = w.heap[p]?) : TabAt w' p c l s :=
  ⟨Nat.lt_of_lt_of_le h.lt hs, by rw [cell_of_heap hb]; exact h.c0, by rw [cell_of_heap hb]; exact h.c1, by rw [cell_of_heap hb]; exact h.c2, by rw [cell_of_heap hb]; exact h.c3, by rw [cell_of_heap hb]; exact h.cl, by rw [cell_of_heap hb]; exact h.cs, fun j => by rw [frozen_of_heap hb]; exact h.free j⟩
theorem cell_set_ne {w : World} {b j i : Nat} {v : Value} (h : i ≠ j) : (w.setCell ⟨b, j, none⟩ v).cell? ⟨b, i, none⟩ = w.cell? ⟨b, i, none⟩ :=
  World.cell?_setCell_other _ _ _ _ (by intro e; cases e; exact h rfl)
theorem TabAt.set {w : World} {p : Nat} {c : Cfg} {l s : Int} (h : TabAt w p c l s) (s' : Int) : TabAt (w.setCell ⟨p, 5, none⟩ (.int .u64 s')) p c l s' :=
  ⟨by simpa using h.lt, by rw [cell_set_ne (by omega)]; exact h.c0, by rw [cell_set_ne (by omega)]; exact h.c1, by rw [cell_set_ne (by omega)]; exact h.c2, by rw [cell_set_ne (by omega)]; exact h.c3, by rw [cell_set_ne (by omega)]; exact h.cl, World.cell?_setCell_same _ _ _ h.cs, fun j => by rw [World.frozen?_setCell]; exact h.free j⟩
/-- Nothing but block p has turned. -/
structure But (p : Nat) (w w' : World) : Prop where
  os : w'.os = w.os
  tape : w'.tape = w.tape
  output : w'.output = w.output
  size : w.heap.size ≤ w'.heap.size
  block : ∀ k, k < w.heap.size → k ≠ p → w'.heap[k]? = w.heap[k]?
theorem But.refl (p : Nat) (w : World) : But p w w := ⟨rfl, rfl, rfl, Nat.le_refl _, fun _ _ _ => rfl⟩
theorem But.trans {p : Nat} {x y z : World} (h : But p x y) (k : But p y z) : But p x z :=
  ⟨k.os.trans h.os, k.tape.trans h.tape, k.output.trans h.output, Nat.le_trans h.size k.size, fun i hi h1 => (k.block i (Nat.lt_of_lt_of_le hi h.size) h1).trans (h.block i hi h1)⟩
theorem But.of_below {p : Nat} {w w' : World} (h : Below w.heap.size w w') : But p w w' := ⟨h.os, h.tape, h.output, h.size, fun k hk _ => h.block k hk⟩
theorem But.alloc {p : Nat} {a w : World} (h : But p a w) (o : Obj) : But p a (w.alloc o) :=
  ⟨h.os, h.tape, h.output, Nat.le_trans h.size (by simp), fun k hk hb => by rw [Below.heap_alloc _ _ _ (Nat.lt_of_lt_of_le hk h.size)]; exact h.block k hk hb⟩
theorem But.set {p : Nat} {a w : World} (h : But p a w) (j : Nat) (v : Value) : But p a (w.setCell ⟨p, j, none⟩ v) :=
  ⟨h.os, h.tape, h.output, by simpa [World.setCell] using h.size, fun k hk hb => by rw [heap_set_other hb]; exact h.block k hk hb⟩
theorem But.setNew {p : Nat} {a w : World} (h : But p a w) {g : Nat} (hg : a.heap.size ≤ g) (j : Nat) (v : Value) : But p a (w.setCell ⟨g, j, none⟩ v) :=
  ⟨h.os, h.tape, h.output, by simpa [World.setCell] using h.size, fun k hk hb => by rw [heap_set_other (by omega)]; exact h.block k hk hb⟩
theorem But.below {p B : Nat} {a w w' : World} (h : Below B a w) (k : But p w w') (hb : B ≤ p) (hB : B ≤ w.heap.size) : Below B a w' :=
  ⟨k.os.trans h.os, k.tape.trans h.tape, k.output.trans h.output, Nat.le_trans h.size k.size, fun i hi => (k.block i (by omega) (by omega)).trans (h.block i hi)⟩
theorem own_keep {w w' : World} {base : Nat} {e : TypeId} {size : Nat} {v : Value} {n : Nat} {xs : List Value} (h : w.ownsRow base e size v n xs) (hk : ∀ k, base ≤ k → k < w.heap.size → w'.heap[k]? = w.heap[k]?) : w'.ownsRow base e size v n xs := by
  refine ⟨h.1, ?_⟩
  rcases h.2 with hn | ⟨g, cap, cur, hv, hb, hg, rest⟩
  · exact .inl hn
  · exact .inr ⟨g, cap, cur, hv, hb, (hk g hb (Array.getElem?_eq_some_iff.1 hg).1).trans hg, rest⟩
theorem own_base {w : World} {B B' : Nat} {e : TypeId} {size : Nat} {v : Value} {n : Nat} {xs : List Value} (h : B ≤ B') (ho : w.ownsRow B' e size v n xs) : w.ownsRow B e size v n xs := by
  refine ⟨ho.1, ?_⟩
  rcases ho.2 with g | ⟨g, cap, cur, rfl, hb, rest⟩
  · exact .inl g
  · exact .inr ⟨g, cap, cur, rfl, Nat.le_trans h hb, rest⟩

/-- Acts, as a slice of the call's own. -/
def ActsOn (l : List ActD) (w : World) (v : Value) (w' : World) : Prop := w'.ownsRow w.heap.size 38 6 v l.length (actCells l)

set_option maxRecDepth 100000 in
set_option maxHeartbeats 2000000 in
theorem revives13 (c : Cfg) (hf : c.few) (p : Nat) (l s : Int) (w : World) (h : TabAt w p c l s) :
    Calls Try.prog 13 #[.pointer (some ⟨p, 0, none⟩)] w fun e w' => ∃ v, e = .returned v ∧ ActsOn c.revs w v w' ∧ Below w.heap.size w w' := by
  have HM := Lib.hid fun w => most_any c hf.1 w
  obtain ⟨i38, hi, hz0, hz1, hz2⟩ := info_parts info38
  obtain ⟨m0, m1⟩ := few_most hf
  obtain ⟨m, hm⟩ := Int.eq_ofNat_of_zero_le m0
  have HRV : Hid (c.revs = List.replicate m aRevive) := Lib.hid (by unfold Cfg.revs; rw [hm]; rfl)
  rw [hm] at HM m1
  have hmm : m ≤ 672 := by omega
  obtain ⟨x0, x1, x2, x3⟩ := And.intro h.c0 (And.intro h.c1 (And.intro h.c2 h.c3))
  simp only [Cfg.cells] at HM
  clear h hf hm m0 m1
  obtain ⟨B, hB⟩ : ∃ B, B = w.heap.size := ⟨_, rfl⟩
  have HB := Lib.hid hB
  clear hB
  go_enter Try.func13, Try.ntmps13
  go_wp2_with fail
  refine (HM.out _).mono ?_
  rintro e w1 ⟨rfl, hb1⟩
  have HB1 : Hid (Below B w w1) := Lib.hid (by rw [HB.out]; exact hb1)
  clear hb1 HM x0 x1 x2 x3
  go_wp2_with fail
  go_loopw [3, 9] (fun v i wr => ∃ k : Nat, k ≤ m ∧ i = .int .i64 k ∧ Hid (wr.ownsRow B 38 6 v k (actCells (List.replicate k aRevive))) ∧ Hid (Below B w wr)) (fun _ i _ => m - (intOf i).toNat)
  case atStart => exact ⟨0, Nat.zero_le _, rfl, World.ownsRow_nil _ _ _ _, HB1⟩
  case round =>
    clear HB1
    obtain ⟨k, hk, rfl, HO, HBE⟩ := hrel
    have hBw : B ≤ wr.heap.size := by rw [HB.out]; exact HBE.out.size
    by_cases hlt : k < m
    · have HN : Hid (actCells (List.replicate (k + 1) aRevive) = actCells (List.replicate k aRevive) ++ aRevive.cells.toList) := Lib.hid (by rw [List.replicate_succ', actCells_append]; simp [actCells])
      have HC : Hid (aRevive.cells = #[.int .i64 5, .int .i64 0, .int .i64 0, .int .i64 0, .int .u32 0, .int .u32 0]) := Lib.hid rfl
      go_wp2_with (at_builtin; refine wpList_push rfl (.tmp 11) (.tmp 13) 29 rfl B 38 i38 _ 6 40 Try.underlying29 hi hz0 hz1 hz2 rfl (by decide) wr hBw u3 k _ rfl HO.out aRevive.cells 1 1 rfl rfl (by simp [Value.oneCell', ActD.cells]) (by unfold maxLen; omega) (by omega) ?_; intro v' w4 ho4 hg4 hb4 _; have HO4 := Lib.hid ho4; have HB4 : Hid (Below B w w4) := Lib.hid (hb4 B w HBE.out (Nat.le_refl _)); clear ho4 hg4 hb4)
      go_roundw
      case rel => exact ⟨k + 1, by omega, by go_num, Lib.hid (by rw [HN.out]; exact HO4.out), HB4⟩
      case measure => simp [intOf]; omega
    · obtain rfl : k = m := by omega
      go_wp2_with fail
      go_ret
      refine ⟨u3, rfl, ?_, by rw [← HB.out]; exact HBE.out⟩
      unfold ActsOn
      rw [HRV.out, ← HB.out, List.length_replicate]
      exact HO.out
end Go.Proofs.Ytoeeeapjfkjkbaa
