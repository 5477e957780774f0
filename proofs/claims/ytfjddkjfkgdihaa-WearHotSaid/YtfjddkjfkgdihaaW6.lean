/- Walk of the reference's Count. -/
import Derived.Test.YtfjddkjfkgdihaaW5
import Derived.Laws.Pointers
import Derived.BigQuiet
namespace Go.Proofs.Ytfjddkjfkgdihaa
open Go.RowKit Go.BigFrame
set_option linter.unusedVariables false
set_option linter.unusedSimpArgs false

theorem own_form3 {w : World} {base : Nat} {e : TypeId} {size : Nat} {v : Value} {n : Nat} {xs : List Value} (h : w.ownsRow base e size v n xs) :
    ∃ a cap, v = .slice a n cap ∧ (0 < n → ∃ g, a = some ⟨g, 0, none⟩ ∧ base ≤ g ∧ g < w.heap.size ∧ ∀ j, j < n * size → w.cell? ⟨g, j, none⟩ = xs[j]?) := by
  rcases h.2 with ⟨rfl, h0⟩ | ⟨g, cap, cur, rfl, hb, hg, hnc, hcm, hcs, htake⟩
  · subst h0; exact ⟨none, 0, rfl, fun h => absurd h (by omega)⟩
  · exact ⟨_, _, rfl, fun _ => ⟨g, rfl, hb, (Array.getElem?_eq_some_iff.1 hg).1, fun j hj => World.ownsRow.cellAt (h := ⟨h.1, .inr ⟨g, cap, cur, rfl, hb, hg, hnc, hcm, hcs, htake⟩⟩) j hj⟩⟩

/-- The tally under way: nine numbers, the list's value. -/
structure TallyL (w : World) (b : Nat) (F : Nat → Int) (v : Value) : Prop where
  lt : b < w.heap.size
  cell : ∀ j, j < 9 → w.cell? ⟨b, j, none⟩ = some (.int .i64 (F j))
  list : w.cell? ⟨b, 9, none⟩ = some v
  free : ∀ j, w.frozen? ⟨b, j, none⟩ = false
theorem TallyL.keep {w w' : World} {b : Nat} {F : Nat → Int} {v : Value} (h : TallyL w b F v) (hs : w.heap.size ≤ w'.heap.size) (hb : w'.heap[b]? = w.heap[b]?) : TallyL w' b F v :=
  ⟨Nat.lt_of_lt_of_le h.lt hs, fun j hj => by rw [cell_of_heap hb]; exact h.cell j hj, by rw [cell_of_heap hb]; exact h.list, fun j => by rw [frozen_of_heap hb]; exact h.free j⟩
theorem TallyL.setF {w : World} {b : Nat} {F : Nat → Int} {v : Value} (h : TallyL w b F v) (j : Nat) (x : Int) (hj : j < 9) : TallyL (w.setCell ⟨b, j, none⟩ (.int .i64 x)) b (upd F j x) v :=
  ⟨by simpa using h.lt, fun i hi => by
      unfold upd
      by_cases e : i = j
      · subst e; rw [if_pos rfl, World.cell?_setCell_same _ _ _ (h.cell i hi)]
      · rw [if_neg e, cell_set_ne e]; exact h.cell i hi,
    by rw [cell_set_ne (by omega)]; exact h.list, fun i => by rw [World.frozen?_setCell]; exact h.free i⟩
theorem TallyL.setV {w : World} {b : Nat} {F : Nat → Int} {v : Value} (h : TallyL w b F v) (x : Value) : TallyL (w.setCell ⟨b, 9, none⟩ x) b F x :=
  ⟨by simpa using h.lt, fun i hi => by rw [cell_set_ne (by omega)]; exact h.cell i hi, by rw [World.cell?_setCell_same _ _ _ h.list], fun i => by rw [World.frozen?_setCell]; exact h.free i⟩
theorem TallyL.congr {w : World} {b : Nat} {F F' : Nat → Int} {v : Value} (h : TallyL w b F v) (hF : ∀ j, j < 9 → F j = F' j) : TallyL w b F' v :=
  ⟨h.lt, fun j hj => by rw [← hF j hj]; exact h.cell j hj, h.list, h.free⟩

theorem tallyL_made (w : World) (p t : Nat) (hp : p = w.heap.size) : TallyL (w.alloc (.cells zTally t)) p (fun _ => 0) (.slice none 0 0) := by
  subst hp
  have hG := heap_alloc_new w (.cells zTally t)
  refine ⟨by simp, fun j hj => ?_, by rw [cell_of_row _ _ _ _ _ _ hG]; rfl, fun j => by unfold World.frozen?; rw [hG]; simp⟩
  rw [cell_of_row _ _ _ _ _ _ hG]
  rcases (show j = 0 ∨ j = 1 ∨ j = 2 ∨ j = 3 ∨ j = 4 ∨ j = 5 ∨ j = 6 ∨ j = 7 ∨ j = 8 by omega) with rfl | rfl | rfl | rfl | rfl | rfl | rfl | rfl | rfl <;> rfl

def ofTh (t : Nat) : AccD → Bool := fun x => decide (x.th = (t : Int))
def thInts (c : Nat → AccD) (len k : Nat) : List Value := (List.range k).map fun t => .int .i64 (cnt (ofTh t) c len : Nat)

/-- A list that lies from block 'base' on. -/
def GList (w : World) (base : Nat) (a : Option Addr) (n : Nat) (T : Nat → Int) : Prop :=
  0 < n → ∃ g, a = some ⟨g, 0, none⟩ ∧ base ≤ g ∧ g < w.heap.size ∧ ∀ j, j < n → w.cell? ⟨g, j, none⟩ = some (.int .i64 (T j))
theorem gList_of {w : World} {base : Nat} {a : Option Addr} {n cc : Nat} {c : Nat → AccD} {len : Nat} (h : w.ownsRow base 3 1 (.slice a n cc) n (thInts c len n)) : GList w base a n (fun j => cnt (ofTh j) c len) := by
  obtain ⟨a', c', e, h2⟩ := own_form3 h
  cases e
  intro hn
  obtain ⟨g, rfl, h3, h4, h5⟩ := h2 hn
  refine ⟨g, rfl, h3, h4, fun j hj => ?_⟩
  rw [h5 j (by omega)]; simp [thInts, hj]
theorem GList.set {w : World} {base : Nat} {a : Option Addr} {n : Nat} {T : Nat → Int} (h : GList w base a n T) {b : Nat} (hb : b < base) (j : Nat) (v : Value) : GList (w.setCell ⟨b, j, none⟩ v) base a n T := fun hn => by
  obtain ⟨g, rfl, h3, h4, h5⟩ := h hn
  exact ⟨g, rfl, h3, by simpa using h4, fun i hi => by rw [cell_of_heap (heap_setCell_ne _ _ _ _ (by simp; omega))]; exact h5 i hi⟩

theorem rq_F (F : Nat → Int) (ki : Int) (q j : Nat) (q1 : 1 ≤ q) (h : ki = (q : Int)) : upd (fun j => F j + if 1 ≤ j ∧ j < q ∧ ki = (j : Int) then 1 else 0) q (F q + 1) j = F j + if 1 ≤ j ∧ j < q + 1 ∧ ki = (j : Int) then 1 else 0 := by
  unfold upd
  by_cases e : j = q
  · subst e; rw [if_pos rfl, if_pos ⟨q1, by omega, h⟩]
  · rw [if_neg e]; show F j + (if 1 ≤ j ∧ j < q ∧ ki = (j : Int) then 1 else 0) = _; rw [if_neg (by omega), if_neg (by omega)]
theorem rn_F (F : Nat → Int) (ki : Int) (q j : Nat) (h : ¬ ki = (q : Int)) : (F j + if 1 ≤ j ∧ j < q ∧ ki = (j : Int) then 1 else 0) = F j + if 1 ≤ j ∧ j < q + 1 ∧ ki = (j : Int) then 1 else 0 := by
  by_cases e : 1 ≤ j ∧ j < q ∧ ki = (j : Int)
  · rw [if_pos e, if_pos ⟨e.1, by omega, e.2.2⟩]
  · rw [if_neg e, if_neg (by intro h2; by_cases e2 : j = q; (· subst e2; exact h h2.2.2); exact e ⟨h2.1, by omega, h2.2.2⟩)]
theorem rlo_F (F : Nat → Int) (ki th pl ol ne : Int) (dn : Bool) (j : Nat) (hj : j < 9) (k0 : ki < 1) : (upd (fun j => F j + if 1 ≤ j ∧ j < 6 ∧ (ki : Int) = (j : Int) then 1 else 0) 0 (F 0 + 1)) j = F j + if (AccD.hit ⟨ki, th, pl, ol, ne, dn⟩ j) = true then 1 else 0 := by
  have n1 : ¬ ki = 1 := by omega
  have n2 : ¬ ki = 2 := by omega
  have n3 : ¬ ki = 3 := by omega
  have n4 : ¬ ki = 4 := by omega
  have n5 : ¬ ki = 5 := by omega
  have kk : ¬ (1 ≤ ki ∧ ki ≤ 5) := by omega
  have kw : (decide (1 ≤ ki) && decide (ki ≤ 3)) = false := by simp; omega
  rcases (show j = 0 ∨ j = 1 ∨ j = 2 ∨ j = 3 ∨ j = 4 ∨ j = 5 ∨ j = 6 ∨ j = 7 ∨ j = 8 by omega) with rfl | rfl | rfl | rfl | rfl | rfl | rfl | rfl | rfl <;> simp [upd, AccD.hit, AccD.kd, AccD.failB, AccD.wordB, kk, kw, n1, n2, n3, n4, n5]
theorem r1neg_F (F : Nat → Int) (th pl ol ne : Int) (dn : Bool) (j : Nat) (hj : j < 9) (p0 : pl < 0) : (upd (fun j => F j + if 1 ≤ j ∧ j < 6 ∧ (1 : Int) = (j : Int) then 1 else 0) 8 (F 8 + 1)) j = F j + if (AccD.hit ⟨1, th, pl, ol, ne, dn⟩ j) = true then 1 else 0 := by
  rcases (show j = 0 ∨ j = 1 ∨ j = 2 ∨ j = 3 ∨ j = 4 ∨ j = 5 ∨ j = 6 ∨ j = 7 ∨ j = 8 by omega) with rfl | rfl | rfl | rfl | rfl | rfl | rfl | rfl | rfl <;> simp [upd, AccD.hit, AccD.kd, AccD.failB, AccD.wordB, p0, Int.not_le.2 p0]
theorem r1pos_F (F : Nat → Int) (th pl ol ne : Int) (dn : Bool) (j : Nat) (hj : j < 9) (p0 : 0 ≤ pl) : (upd (fun j => F j + if 1 ≤ j ∧ j < 6 ∧ (1 : Int) = (j : Int) then 1 else 0) 7 (F 7 + 1)) j = F j + if (AccD.hit ⟨1, th, pl, ol, ne, dn⟩ j) = true then 1 else 0 := by
  rcases (show j = 0 ∨ j = 1 ∨ j = 2 ∨ j = 3 ∨ j = 4 ∨ j = 5 ∨ j = 6 ∨ j = 7 ∨ j = 8 by omega) with rfl | rfl | rfl | rfl | rfl | rfl | rfl | rfl | rfl <;> simp [upd, AccD.hit, AccD.kd, AccD.failB, AccD.wordB, p0, Int.not_lt.2 p0]
theorem r2neg_F (F : Nat → Int) (th pl ol ne : Int) (dn : Bool) (j : Nat) (hj : j < 9) (p0 : pl < 0) : (upd (fun j => F j + if 1 ≤ j ∧ j < 6 ∧ (2 : Int) = (j : Int) then 1 else 0) 8 (F 8 + 1)) j = F j + if (AccD.hit ⟨2, th, pl, ol, ne, dn⟩ j) = true then 1 else 0 := by
  rcases (show j = 0 ∨ j = 1 ∨ j = 2 ∨ j = 3 ∨ j = 4 ∨ j = 5 ∨ j = 6 ∨ j = 7 ∨ j = 8 by omega) with rfl | rfl | rfl | rfl | rfl | rfl | rfl | rfl | rfl <;> simp [upd, AccD.hit, AccD.kd, AccD.failB, AccD.wordB, p0, Int.not_le.2 p0]
theorem r2pos_F (F : Nat → Int) (th pl ol ne : Int) (dn : Bool) (j : Nat) (hj : j < 9) (p0 : 0 ≤ pl) : (upd (fun j => F j + if 1 ≤ j ∧ j < 6 ∧ (2 : Int) = (j : Int) then 1 else 0) 7 (F 7 + 1)) j = F j + if (AccD.hit ⟨2, th, pl, ol, ne, dn⟩ j) = true then 1 else 0 := by
  rcases (show j = 0 ∨ j = 1 ∨ j = 2 ∨ j = 3 ∨ j = 4 ∨ j = 5 ∨ j = 6 ∨ j = 7 ∨ j = 8 by omega) with rfl | rfl | rfl | rfl | rfl | rfl | rfl | rfl | rfl <;> simp [upd, AccD.hit, AccD.kd, AccD.failB, AccD.wordB, p0, Int.not_lt.2 p0]
theorem r3fneg_F (F : Nat → Int) (th pl ol ne : Int) (j : Nat) (hj : j < 9) (p0 : pl < 0) : (upd (upd (fun j => F j + if 1 ≤ j ∧ j < 6 ∧ (3 : Int) = (j : Int) then 1 else 0) 6 (F 6 + 1)) 8 (F 8 + 1)) j = F j + if (AccD.hit ⟨3, th, pl, ol, ne, false⟩ j) = true then 1 else 0 := by
  rcases (show j = 0 ∨ j = 1 ∨ j = 2 ∨ j = 3 ∨ j = 4 ∨ j = 5 ∨ j = 6 ∨ j = 7 ∨ j = 8 by omega) with rfl | rfl | rfl | rfl | rfl | rfl | rfl | rfl | rfl <;> simp [upd, AccD.hit, AccD.kd, AccD.failB, AccD.wordB, p0, Int.not_le.2 p0]
theorem r3fpos_F (F : Nat → Int) (th pl ol ne : Int) (j : Nat) (hj : j < 9) (p0 : 0 ≤ pl) : (upd (upd (fun j => F j + if 1 ≤ j ∧ j < 6 ∧ (3 : Int) = (j : Int) then 1 else 0) 6 (F 6 + 1)) 7 (F 7 + 1)) j = F j + if (AccD.hit ⟨3, th, pl, ol, ne, false⟩ j) = true then 1 else 0 := by
  rcases (show j = 0 ∨ j = 1 ∨ j = 2 ∨ j = 3 ∨ j = 4 ∨ j = 5 ∨ j = 6 ∨ j = 7 ∨ j = 8 by omega) with rfl | rfl | rfl | rfl | rfl | rfl | rfl | rfl | rfl <;> simp [upd, AccD.hit, AccD.kd, AccD.failB, AccD.wordB, p0, Int.not_lt.2 p0]
theorem r3tneg_F (F : Nat → Int) (th pl ol ne : Int) (j : Nat) (hj : j < 9) (p0 : pl < 0) : (upd (fun j => F j + if 1 ≤ j ∧ j < 6 ∧ (3 : Int) = (j : Int) then 1 else 0) 8 (F 8 + 1)) j = F j + if (AccD.hit ⟨3, th, pl, ol, ne, true⟩ j) = true then 1 else 0 := by
  rcases (show j = 0 ∨ j = 1 ∨ j = 2 ∨ j = 3 ∨ j = 4 ∨ j = 5 ∨ j = 6 ∨ j = 7 ∨ j = 8 by omega) with rfl | rfl | rfl | rfl | rfl | rfl | rfl | rfl | rfl <;> simp [upd, AccD.hit, AccD.kd, AccD.failB, AccD.wordB, p0, Int.not_le.2 p0]
theorem r3tpos_F (F : Nat → Int) (th pl ol ne : Int) (j : Nat) (hj : j < 9) (p0 : 0 ≤ pl) : (upd (fun j => F j + if 1 ≤ j ∧ j < 6 ∧ (3 : Int) = (j : Int) then 1 else 0) 7 (F 7 + 1)) j = F j + if (AccD.hit ⟨3, th, pl, ol, ne, true⟩ j) = true then 1 else 0 := by
  rcases (show j = 0 ∨ j = 1 ∨ j = 2 ∨ j = 3 ∨ j = 4 ∨ j = 5 ∨ j = 6 ∨ j = 7 ∨ j = 8 by omega) with rfl | rfl | rfl | rfl | rfl | rfl | rfl | rfl | rfl <;> simp [upd, AccD.hit, AccD.kd, AccD.failB, AccD.wordB, p0, Int.not_lt.2 p0]
theorem r4_F (F : Nat → Int) (th pl ol ne : Int) (dn : Bool) (j : Nat) (hj : j < 9) : (fun j => F j + if 1 ≤ j ∧ j < 6 ∧ (4 : Int) = (j : Int) then 1 else 0) j = F j + if (AccD.hit ⟨4, th, pl, ol, ne, dn⟩ j) = true then 1 else 0 := by
  rcases (show j = 0 ∨ j = 1 ∨ j = 2 ∨ j = 3 ∨ j = 4 ∨ j = 5 ∨ j = 6 ∨ j = 7 ∨ j = 8 by omega) with rfl | rfl | rfl | rfl | rfl | rfl | rfl | rfl | rfl <;> simp [upd, AccD.hit, AccD.kd, AccD.failB, AccD.wordB]
theorem r5_F (F : Nat → Int) (th pl ol ne : Int) (dn : Bool) (j : Nat) (hj : j < 9) : (fun j => F j + if 1 ≤ j ∧ j < 6 ∧ (5 : Int) = (j : Int) then 1 else 0) j = F j + if (AccD.hit ⟨5, th, pl, ol, ne, dn⟩ j) = true then 1 else 0 := by
  rcases (show j = 0 ∨ j = 1 ∨ j = 2 ∨ j = 3 ∨ j = 4 ∨ j = 5 ∨ j = 6 ∨ j = 7 ∨ j = 8 by omega) with rfl | rfl | rfl | rfl | rfl | rfl | rfl | rfl | rfl <;> simp [upd, AccD.hit, AccD.kd, AccD.failB, AccD.wordB]
theorem rhi_F (F : Nat → Int) (ki th pl ol ne : Int) (dn : Bool) (j : Nat) (hj : j < 9) (k0 : 5 < ki) : (upd (fun j => F j + if 1 ≤ j ∧ j < 6 ∧ (ki : Int) = (j : Int) then 1 else 0) 0 (F 0 + 1)) j = F j + if (AccD.hit ⟨ki, th, pl, ol, ne, dn⟩ j) = true then 1 else 0 := by
  have n1 : ¬ ki = 1 := by omega
  have n2 : ¬ ki = 2 := by omega
  have n3 : ¬ ki = 3 := by omega
  have n4 : ¬ ki = 4 := by omega
  have n5 : ¬ ki = 5 := by omega
  have kk : ¬ (1 ≤ ki ∧ ki ≤ 5) := by omega
  have kw : (decide (1 ≤ ki) && decide (ki ≤ 3)) = false := by simp; omega
  rcases (show j = 0 ∨ j = 1 ∨ j = 2 ∨ j = 3 ∨ j = 4 ∨ j = 5 ∨ j = 6 ∨ j = 7 ∨ j = 8 by omega) with rfl | rfl | rfl | rfl | rfl | rfl | rfl | rfl | rfl <;> simp [upd, AccD.hit, AccD.kd, AccD.failB, AccD.wordB, kk, kw, n1, n2, n3, n4, n5]
theorem tallyL_cells {w : World} {B : Nat} {F : Nat → Int} {v : Value} (h : TallyL w B F v) :
    w.cell? ⟨B, 0, none⟩ = some (.int .i64 (F 0)) ∧ w.cell? ⟨B, 1, none⟩ = some (.int .i64 (F 1)) ∧ w.cell? ⟨B, 2, none⟩ = some (.int .i64 (F 2)) ∧ w.cell? ⟨B, 3, none⟩ = some (.int .i64 (F 3)) ∧ w.cell? ⟨B, 4, none⟩ = some (.int .i64 (F 4)) ∧ w.cell? ⟨B, 5, none⟩ = some (.int .i64 (F 5)) ∧ w.cell? ⟨B, 6, none⟩ = some (.int .i64 (F 6)) ∧ w.cell? ⟨B, 7, none⟩ = some (.int .i64 (F 7)) ∧ w.cell? ⟨B, 8, none⟩ = some (.int .i64 (F 8)) ∧ w.cell? ⟨B, 9, none⟩ = some v ∧ ∀ j, w.frozen? ⟨B, j, none⟩ = false :=
  ⟨h.cell 0 (by decide), h.cell 1 (by decide), h.cell 2 (by decide), h.cell 3 (by decide), h.cell 4 (by decide), h.cell 5 (by decide), h.cell 6 (by decide), h.cell 7 (by decide), h.cell 8 (by decide), h.list, h.free⟩
theorem ztally_cells57 {w : World} {B : Nat} (h : w.heap[B]? = some (.cells zTally 57 (0, 0))) :
    w.cell? ⟨B, 0, none⟩ = some (.int .i64 0) ∧ w.cell? ⟨B, 1, none⟩ = some (.int .i64 0) ∧ w.cell? ⟨B, 2, none⟩ = some (.int .i64 0) ∧ w.cell? ⟨B, 3, none⟩ = some (.int .i64 0) ∧ w.cell? ⟨B, 4, none⟩ = some (.int .i64 0) ∧ w.cell? ⟨B, 5, none⟩ = some (.int .i64 0) ∧ w.cell? ⟨B, 6, none⟩ = some (.int .i64 0) ∧ w.cell? ⟨B, 7, none⟩ = some (.int .i64 0) ∧ w.cell? ⟨B, 8, none⟩ = some (.int .i64 0) ∧ w.cell? ⟨B, 9, none⟩ = some (.slice none 0 0) ∧ ∀ j, w.frozen? ⟨B, j, none⟩ = false := by
  refine ⟨?_, ?_, ?_, ?_, ?_, ?_, ?_, ?_, ?_, ?_, fun j => ?_⟩
  all_goals first | (rw [cell_of_row _ _ _ _ _ _ h]; rfl) | (unfold World.frozen?; rw [h]; simp)
theorem GList.list {w : World} {base : Nat} {a : Option Addr} {n : Nat} {T : Nat → Int} (h : GList w base a n T) : ListAt w a n T := fun j hj => by
  obtain ⟨g, rfl, -, h4, h5⟩ := h (by omega)
  exact ⟨g, 0, rfl, h4, by rw [Nat.zero_add]; exact h5 j hj⟩

set_option maxRecDepth 100000 in
set_option maxHeartbeats 4000000 in
theorem refCount_any (a : Option Addr) (len cap : Nat) (c : Nat → AccD) (t : Int) (n : Nat) (hn : n = (min (max t 0) 64).toNat) (w : World) (hc : AccsAt w a len cap c) (hl : len ≤ 200) :
    Calls Try.prog 36 #[.slice a len cap, .int .i64 t] w (TallyTo (fun j => cnt (fun x => x.hit j) c len) n (fun j => cnt (ofTh j) c len) w) := by
  obtain ⟨i3, hi, hz0, hz1, hz2⟩ := info_parts info3
  obtain ⟨hlc, hcm, hcell⟩ := hc
  unfold maxLen at hcm
  have HC := Lib.hid hcell; clear hcell
  obtain ⟨B, hB⟩ : ∃ B, B = w.heap.size := ⟨_, rfl⟩
  have HB := Lib.hid hB; clear hB
  have hn64 : n ≤ 64 := by omega
  have hcs : (t < 0 ∧ n = 0) ∨ (0 ≤ t ∧ t ≤ 64 ∧ t = n) ∨ (64 < t ∧ n = 64) := by omega
  clear hn
  have n0 : (0 : Int) ≤ n := by omega
  go_enter Try.func36, Try.ntmps36
  go_upto_region 2 with fail
  obtain ⟨W, hW⟩ : ∃ W, W = (w.alloc (.cells zTally 57)).alloc (.cells zTally 57) := ⟨_, rfl⟩
  have HT0 : Hid (TallyL W (B + 1) (fun _ => 0) (.slice none 0 0)) := Lib.hid (by rw [hW, HB.out]; exact tallyL_made _ _ _ (by simp))
  have HR0 : Hid (W.heap[B]? = some (.cells zTally 57 (0, 0))) := Lib.hid (by rw [hW, HB.out, Below.heap_alloc _ _ _ (by simp), heap_alloc_new])
  have HB0 : Hid (Below B w W) := Lib.hid (by rw [hW, HB.out]; exact ((Below.refl _ _).alloc (Nat.le_refl _) _).alloc (by simp) _)
  have HS0 : Hid (W.heap.size = B + 2) := Lib.hid (by rw [hW, HB.out]; simp)
  simp only [zTally] at hW
  rw [← hW, ← HB.out]
  clear hW
  go_cut [6] from 12 to 14 (fun v6 wr => v6 = .int .i64 n ∧ wr = W)
  case first =>
    rcases hcs with ⟨ht, rfl⟩ | ⟨ht0, ht1, rfl⟩ | ⟨ht, rfl⟩
    · have htt : t ≤ 0 := by omega
      go_wp2
      go_meet
      case rel => exact ⟨rfl, rfl⟩
    · go_wp2
      go_meet
      case rel => exact ⟨rfl, rfl⟩
    · have htt : ¬ t ≤ 64 := by omega
      have htt : ¬ t ≤ 0 := by omega
      go_wp2
      go_meet
      case rel => exact ⟨rfl, rfl⟩
  case rest =>
    obtain ⟨rfl, rfl⟩ := hcut
    clear hcs
    go_wp2_with fail
    go_loopw [7] (fun i wr => ∃ (k : Nat) (aa : Option Addr) (cc : Nat), k ≤ n ∧ i = .int .i64 k ∧ Hid (TallyL wr (B + 1) (fun _ => 0) (.slice aa k cc)) ∧ Hid (wr.ownsRow (B + 2) 3 1 (.slice aa k cc) k (thInts c len k)) ∧ Hid (Below B w wr) ∧ Hid (wr.heap[B]? = some (.cells zTally 57 (0, 0)))) (fun i _ => n - (intOf i).toNat)
    case atStart => exact ⟨0, none, 0, Nat.zero_le _, rfl, HT0, Lib.hid (World.ownsRow_nil _ _ _ _), HB0, HR0⟩
    case round =>
      clear HT0 HR0 HB0 HS0
      obtain ⟨k, aa, cc, hk, rfl, HTL, HOW, HBE, HRB⟩ := hrel
      by_cases hlt : k < n
      · have hkn : (k : Int) < (n : Int) := by omega
        go_wp2_with fail
        go_loop [8, 9] (fun x i => ∃ j : Nat, j ≤ len ∧ i = .int .i64 j ∧ x = .int .i64 (cnt (ofTh k) c j : Nat)) (fun _ i => len - (intOf i).toNat)
        case atStart => exact ⟨0, Nat.zero_le _, rfl, rfl⟩
        case round =>
          obtain ⟨j, hj, rfl, rfl⟩ := hrel
          by_cases hjl : j < len
          · obtain ⟨b, off, rfl, hb, hc⟩ := HC.out j hjl
            obtain ⟨-, d1, -, -, -, -⟩ := hc.of (w' := wr) fun o => HBE.out.cell (p := ⟨b, o, none⟩) (by rw [HB.out]; exact hb)
            have hle := cnt_le (ofTh k) c j
            have HST := Lib.hid (show cnt (ofTh k) c (j + 1) = cnt (ofTh k) c j + (if ofTh k (c j) = true then 1 else 0) from rfl)
            generalize hz : cnt (ofTh k) c j = z at *
            clear hz
            by_cases ht : (c j).th = (k : Int)
            · have HE : Hid (ofTh k (c j) = true) := Lib.hid (by simp [ofTh, ht])
              rw [ht] at d1
              go_wp2_with fail
              go_round
              case rel => exact ⟨j + 1, by omega, by go_num, by rw [HST.out, HE.out]; go_num⟩
              case measure => simp [intOf]; omega
            · have HE : Hid (ofTh k (c j) = false) := Lib.hid (by simp [ofTh, ht])
              have hne : ((c j).th == (k : Int)) = false := by simp [ht]
              go_wp2_with fail
              go_round
              case rel => exact ⟨j + 1, by omega, by go_num, by rw [HST.out, HE.out]; go_num⟩
              case measure => simp [intOf]; omega
          · obtain rfl : j = len := by omega
            have f9 := HTL.out.list
            have z9 := HTL.out.free 9
            have hsz := HBE.out.size
            have hBw : B + 2 ≤ wr.heap.size := by have := HTL.out.lt; omega
            have hrs : Hid (thInts c j (k + 1) = thInts c j k ++ [.int .i64 (cnt (ofTh k) c j : Nat)]) := Lib.hid (by simp [thInts, List.range_succ])
            generalize hq : cnt (ofTh k) c j = q at *
            clear hq
            go_wp2_with (at_builtin; refine wpList_push rfl _ _ 37 rfl (B + 2) 3 i3 (.int .i64 0) 1 8 Try.underlying37 hi hz0 hz1 hz2 rfl (by decide) wr hBw (.slice aa k cc) k (thInts c j k) rfl HOW.out #[.int .i64 q] 1 1 rfl rfl (by simp [Value.oneCell']) (by unfold maxLen; omega) (by omega) ?_; intro v' w' hown hgr hbel hne; obtain ⟨a', c', rfl, -⟩ := own_form3 hown; have HO' := Lib.hid hown; have HB' := Lib.hid (hbel B w HBE.out (by omega)); have hbb := hbel (B + 2) wr (Below.refl _ _) (Nat.le_refl _); have HTL' := Lib.hid (HTL.out.keep hbb.size (hbb.block _ (by omega))); have HRB' : Hid (w'.heap[B]? = some (.cells zTally 57 (0, 0))) := Lib.hid ((hbb.block B (by omega)).trans HRB.out); clear hown hgr hbel hne hbb f9 z9; have f9 := HTL'.out.list; have z9 := HTL'.out.free 9)
            go_roundw
            case rel => exact ⟨k + 1, a', c', by omega, by go_num, Lib.hid (HTL'.out.setV _), Lib.hid (by rw [hrs.out]; exact ownsRow_setCell_below HO'.out (by simp) _), Lib.hid (HB'.out.setCell (by simp) _), Lib.hid (by rw [heap_setCell_ne _ _ _ _ (by simp)]; exact HRB'.out)⟩
            case measure => simp [intOf]; omega
      · obtain rfl : k = n := by omega
        have HGL : Hid (GList wr (B + 2) aa k (fun j => cnt (ofTh j) c len)) := Lib.hid (gList_of HOW.out)
        clear HOW
        go_wp2_with fail
        -- LAST LOOP
        go_loopw [10] (fun i wr => ∃ m : Nat, m ≤ len ∧ i = .int .i64 m ∧ Hid (TallyL wr (B + 1) (fun j => cnt (fun x => x.hit j) c m) (.slice aa k cc)) ∧ Hid (GList wr (B + 2) aa k (fun j => cnt (ofTh j) c len)) ∧ Hid (Below B w wr) ∧ Hid (wr.heap[B]? = some (.cells zTally 57 (0, 0)))) (fun i _ => len - (intOf i).toNat)
        case atStart => exact ⟨0, Nat.zero_le _, rfl, HTL, HGL, HBE, HRB⟩
        case round =>
          clear HTL HGL HBE HRB
          obtain ⟨m, hm, rfl, HTL, HGL, HBE, HRB⟩ := hrel
          by_cases hml : m < len
          · obtain ⟨b, off, rfl, hb, hc⟩ := HC.out m hml
            have hbB : b < B := by rw [HB.out]; exact hb
            have HBB := Lib.hid hbB
            have HACC := Lib.hid hc
            have HFB : Hid (∀ j, 0 ≤ ((cnt (fun x => x.hit j) c m : Nat) : Int) ∧ ((cnt (fun x => x.hit j) c m : Nat) : Int) ≤ 200) := Lib.hid fun j => by have := cnt_le (fun x => x.hit j) c m; omega
            have HFS : Hid (∀ j, ((cnt (fun x => x.hit j) c (m + 1) : Nat) : Int) = (cnt (fun x => x.hit j) c m : Nat) + if (c m).hit j = true then 1 else 0) := Lib.hid fun j => (cnt_step (fun x => x.hit j) c m).symm
            obtain ⟨F, hF⟩ : ∃ F : Nat → Int, F = fun j => ((cnt (fun x => x.hit j) c m : Nat) : Int) := ⟨_, rfl⟩
            have HFB : Hid (∀ j, 0 ≤ F j ∧ F j ≤ 200) := by rw [hF]; exact HFB
            have HFS : Hid (∀ j, ((cnt (fun x => x.hit j) c (m + 1) : Nat) : Int) = F j + if (c m).hit j = true then 1 else 0) := by rw [hF]; exact HFS
            have HTL : Hid (TallyL wr (B + 1) F (.slice aa k cc)) := by rw [hF]; exact HTL
            clear hF hc hbB
            generalize c m = x at *
            obtain ⟨ki, th, pl, ol, ne, dn⟩ := x
            go_wp2_with fail
            go_loopw [11] (fun i wr => ∃ q : Nat, 1 ≤ q ∧ q ≤ 6 ∧ i = .int .i64 q ∧ Hid (TallyL wr (B + 1) (fun j => F j + if 1 ≤ j ∧ j < q ∧ ki = (j : Int) then 1 else 0) (.slice aa k cc)) ∧ Hid (GList wr (B + 2) aa k (fun j => cnt (ofTh j) c len)) ∧ Hid (Below B w wr) ∧ Hid (wr.heap[B]? = some (.cells zTally 57 (0, 0)))) (fun i _ => 6 - (intOf i).toNat)
            case atStart => exact ⟨1, by omega, by omega, rfl, Lib.hid (HTL.out.congr fun j hj => by rw [if_neg (by omega)]; omega), HGL, HBE, HRB⟩
            case round =>
              clear HTL HGL HBE HRB
              obtain ⟨q, q1, q6, rfl, HTL, HGL, HBE, HRB⟩ := hrel
              obtain ⟨d0, d1, d2, d3, d4, d5⟩ := HACC.out.of (w' := wr) fun o => HBE.out.cell (p := ⟨b, o, none⟩) HBB.out
              have e1 : B + 1 ≠ b := by have := HBB.out; omega
              have e2 : b ≠ B + 1 := by have := HBB.out; omega
              by_cases hq5 : q ≤ 5
              · have hq5' : (q : Int) ≤ 5 := by omega
                have hq0 : (0 : Int) ≤ q := by omega
                have hq6 : (q : Int) < 6 := by omega
                by_cases hkq : ki = (q : Int)
                · have fq := HTL.out.cell q (by omega)
                  rw [if_neg (by omega), Int.add_zero] at fq
                  have zq := HTL.out.free q
                  obtain ⟨l0, u0⟩ := HFB.out q
                  rw [hkq] at d0
                  have HKQ := Lib.hid hkq; clear hkq
                  go_wp2_with fail
                  go_roundw
                  case rel => exact ⟨q + 1, by omega, by omega, by go_num, Lib.hid ((HTL.out.setF q _ (by omega)).congr fun j hj => rq_F F ki q j q1 (HKQ.out)), Lib.hid (HGL.out.set (by omega) _ _), Lib.hid (HBE.out.setCell (by simp) _), Lib.hid (by rw [heap_setCell_ne _ _ _ _ (by simp)]; exact HRB.out)⟩
                  case measure => simp [intOf]; omega
                · have hne : (ki == (q : Int)) = false := by simp [hkq]
                  have HKQ := Lib.hid hkq; clear hkq
                  go_wp2_with fail
                  go_roundw
                  case rel => exact ⟨q + 1, by omega, by omega, by go_num, Lib.hid (HTL.out.congr fun j hj => rn_F F ki q j HKQ.out), HGL, HBE, HRB⟩
                  case measure => simp [intOf]; omega
              · obtain rfl : q = 6 := by omega
                clear q1 q6 hq5
                have hk : ki < 1 ∨ ki = 1 ∨ ki = 2 ∨ ki = 3 ∨ ki = 4 ∨ ki = 5 ∨ 5 < ki := by omega
                have hp : pl < 0 ∨ 0 ≤ pl := by omega
                have f0 := HTL.out.cell 0 (by decide)
                rw [if_neg (by omega), Int.add_zero] at f0
                obtain ⟨l0, u0⟩ := HFB.out 0
                have f6 := HTL.out.cell 6 (by decide)
                rw [if_neg (by omega), Int.add_zero] at f6
                obtain ⟨l6, u6⟩ := HFB.out 6
                have f7 := HTL.out.cell 7 (by decide)
                rw [if_neg (by omega), Int.add_zero] at f7
                obtain ⟨l7, u7⟩ := HFB.out 7
                have f8 := HTL.out.cell 8 (by decide)
                rw [if_neg (by omega), Int.add_zero] at f8
                obtain ⟨l8, u8⟩ := HFB.out 8
                have zz := HTL.out.free
                rcases hk with hk | rfl | rfl | rfl | rfl | rfl | hk
                · skip
                  have k3 : (ki == 3) = false := by simp; omega
                  go_wp2_with fail
                  go_roundw
                  case rel => exact ⟨m + 1, by omega, by go_num, Lib.hid ((HTL.out.setF 0 _ (by decide)).congr fun j hj => by rw [HFS.out j]; exact rlo_F F ki th pl ol ne dn j hj hk), Lib.hid (HGL.out.set (by omega) _ _), Lib.hid (HBE.out.setCell (by simp) _), Lib.hid (by (iterate 1 rw [heap_setCell_ne _ _ _ _ (by simp)]); exact HRB.out)⟩
                  case measure => simp [intOf]; omega
                · rcases hp with hp | hp
                  · skip
                    go_wp2_with fail
                    go_roundw
                    case rel => exact ⟨m + 1, by omega, by go_num, Lib.hid ((HTL.out.setF 8 _ (by decide)).congr fun j hj => by rw [HFS.out j]; exact r1neg_F F th pl ol ne dn j hj hp), Lib.hid (HGL.out.set (by omega) _ _), Lib.hid (HBE.out.setCell (by simp) _), Lib.hid (by (iterate 1 rw [heap_setCell_ne _ _ _ _ (by simp)]); exact HRB.out)⟩
                    case measure => simp [intOf]; omega
                  · skip
                    go_wp2_with fail
                    go_roundw
                    case rel => exact ⟨m + 1, by omega, by go_num, Lib.hid ((HTL.out.setF 7 _ (by decide)).congr fun j hj => by rw [HFS.out j]; exact r1pos_F F th pl ol ne dn j hj hp), Lib.hid (HGL.out.set (by omega) _ _), Lib.hid (HBE.out.setCell (by simp) _), Lib.hid (by (iterate 1 rw [heap_setCell_ne _ _ _ _ (by simp)]); exact HRB.out)⟩
                    case measure => simp [intOf]; omega
                · rcases hp with hp | hp
                  · skip
                    go_wp2_with fail
                    go_roundw
                    case rel => exact ⟨m + 1, by omega, by go_num, Lib.hid ((HTL.out.setF 8 _ (by decide)).congr fun j hj => by rw [HFS.out j]; exact r2neg_F F th pl ol ne dn j hj hp), Lib.hid (HGL.out.set (by omega) _ _), Lib.hid (HBE.out.setCell (by simp) _), Lib.hid (by (iterate 1 rw [heap_setCell_ne _ _ _ _ (by simp)]); exact HRB.out)⟩
                    case measure => simp [intOf]; omega
                  · skip
                    go_wp2_with fail
                    go_roundw
                    case rel => exact ⟨m + 1, by omega, by go_num, Lib.hid ((HTL.out.setF 7 _ (by decide)).congr fun j hj => by rw [HFS.out j]; exact r2pos_F F th pl ol ne dn j hj hp), Lib.hid (HGL.out.set (by omega) _ _), Lib.hid (HBE.out.setCell (by simp) _), Lib.hid (by (iterate 1 rw [heap_setCell_ne _ _ _ _ (by simp)]); exact HRB.out)⟩
                    case measure => simp [intOf]; omega
                · rcases dn with _ | _
                  · rcases hp with hp | hp
                    · skip
                      go_wp2_with fail
                      go_roundw
                      case rel => exact ⟨m + 1, by omega, by go_num, Lib.hid (((HTL.out.setF 6 _ (by decide)).setF 8 _ (by decide)).congr fun j hj => by rw [HFS.out j]; exact r3fneg_F F th pl ol ne j hj hp), Lib.hid ((HGL.out.set (by omega) _ _).set (by omega) _ _), Lib.hid ((HBE.out.setCell (by simp) _).setCell (by simp) _), Lib.hid (by (iterate 2 rw [heap_setCell_ne _ _ _ _ (by simp)]); exact HRB.out)⟩
                      case measure => simp [intOf]; omega
                    · skip
                      go_wp2_with fail
                      go_roundw
                      case rel => exact ⟨m + 1, by omega, by go_num, Lib.hid (((HTL.out.setF 6 _ (by decide)).setF 7 _ (by decide)).congr fun j hj => by rw [HFS.out j]; exact r3fpos_F F th pl ol ne j hj hp), Lib.hid ((HGL.out.set (by omega) _ _).set (by omega) _ _), Lib.hid ((HBE.out.setCell (by simp) _).setCell (by simp) _), Lib.hid (by (iterate 2 rw [heap_setCell_ne _ _ _ _ (by simp)]); exact HRB.out)⟩
                      case measure => simp [intOf]; omega
                  · rcases hp with hp | hp
                    · skip
                      go_wp2_with fail
                      go_roundw
                      case rel => exact ⟨m + 1, by omega, by go_num, Lib.hid ((HTL.out.setF 8 _ (by decide)).congr fun j hj => by rw [HFS.out j]; exact r3tneg_F F th pl ol ne j hj hp), Lib.hid (HGL.out.set (by omega) _ _), Lib.hid (HBE.out.setCell (by simp) _), Lib.hid (by (iterate 1 rw [heap_setCell_ne _ _ _ _ (by simp)]); exact HRB.out)⟩
                      case measure => simp [intOf]; omega
                    · skip
                      go_wp2_with fail
                      go_roundw
                      case rel => exact ⟨m + 1, by omega, by go_num, Lib.hid ((HTL.out.setF 7 _ (by decide)).congr fun j hj => by rw [HFS.out j]; exact r3tpos_F F th pl ol ne j hj hp), Lib.hid (HGL.out.set (by omega) _ _), Lib.hid (HBE.out.setCell (by simp) _), Lib.hid (by (iterate 1 rw [heap_setCell_ne _ _ _ _ (by simp)]); exact HRB.out)⟩
                      case measure => simp [intOf]; omega
                · skip
                  go_wp2_with fail
                  go_roundw
                  case rel => exact ⟨m + 1, by omega, by go_num, Lib.hid (HTL.out.congr fun j hj => by rw [HFS.out j]; exact r4_F F th pl ol ne dn j hj), Lib.hid HGL.out, Lib.hid HBE.out, Lib.hid (by exact HRB.out)⟩
                  case measure => simp [intOf]; omega
                · skip
                  go_wp2_with fail
                  go_roundw
                  case rel => exact ⟨m + 1, by omega, by go_num, Lib.hid (HTL.out.congr fun j hj => by rw [HFS.out j]; exact r5_F F th pl ol ne dn j hj), Lib.hid HGL.out, Lib.hid HBE.out, Lib.hid (by exact HRB.out)⟩
                  case measure => simp [intOf]; omega
                · skip
                  have k3 : (ki == 3) = false := by simp; omega
                  have k1 : ¬ ki < 1 := by omega
                  have k2 : (1 : Int) ≤ ki := by omega
                  go_wp2_with fail
                  go_roundw
                  case rel => exact ⟨m + 1, by omega, by go_num, Lib.hid ((HTL.out.setF 0 _ (by decide)).congr fun j hj => by rw [HFS.out j]; exact rhi_F F ki th pl ol ne dn j hj hk), Lib.hid (HGL.out.set (by omega) _ _), Lib.hid (HBE.out.setCell (by simp) _), Lib.hid (by (iterate 1 rw [heap_setCell_ne _ _ _ _ (by simp)]); exact HRB.out)⟩
                  case measure => simp [intOf]; omega
          · obtain rfl : m = len := by omega
            obtain ⟨x0, x1, x2, x3, x4, x5, x6, x7, x8, x9, -⟩ := tallyL_cells HTL.out
            obtain ⟨r0, r1, r2, r3, r4, r5, r6, r7, r8, r9, rz⟩ := ztally_cells57 HRB.out
            go_wp2_with fail
            refine bodyPost_ret (v := tallyV (fun j => ((cnt (fun x => x.hit j) c m : Nat) : Int)) aa k cc) (by simp [results, Try.results36, go_sem, tallyV, r0, r1, r2, r3, r4, r5, r6, r7, r8, r9]) rfl ?_
            refine ⟨_, _, rfl, ?_, ?_⟩
            · rw [← HB.out]; exact ((((((((((HBE.out.setCell (Nat.le_refl _) _).setCell (Nat.le_refl _) _).setCell (Nat.le_refl _) _).setCell (Nat.le_refl _) _).setCell (Nat.le_refl _) _).setCell (Nat.le_refl _) _).setCell (Nat.le_refl _) _).setCell (Nat.le_refl _) _).setCell (Nat.le_refl _) _).setCell (Nat.le_refl _) _)
            · exact ((((((((((HGL.out.set (by omega) _ _).set (by omega) _ _).set (by omega) _ _).set (by omega) _ _).set (by omega) _ _).set (by omega) _ _).set (by omega) _ _).set (by omega) _ _).set (by omega) _ _).set (by omega) _ _).list
end Go.Proofs.Ytfjddkjfkgdihaa
