/- Layer 3: what a cut holds. -/
import Derived.Test.YtjbngddmmdcagaaDoorC35
namespace Go.Proofs.YtjbngddmmdcagaaDoor
open Go.RowKit Go.BigFrame
set_option linter.unusedVariables false
set_option linter.unusedSimpArgs false

theorem own_slice {w : World} {base : Nat} {e : TypeId} {size : Nat} {v : Value} {n : Nat} {xs : List Value} (h : w.ownsRow base e size v n xs) : ∃ a m c, v = .slice a m c := by
  rcases h.2 with ⟨rfl, -⟩ | ⟨g, cap, cur, rfl, -⟩
  · exact ⟨_, _, _, rfl⟩
  · exact ⟨_, _, _, rfl⟩
theorem own_slice_n {w : World} {base : Nat} {e : TypeId} {size : Nat} {v : Value} {n : Nat} {xs : List Value} (h : w.ownsRow base e size v n xs) : ∃ a c, v = .slice a n c := by
  rcases h.2 with ⟨rfl, rfl⟩ | ⟨g, cap, cur, rfl, -⟩
  · exact ⟨_, _, rfl⟩
  · exact ⟨_, _, rfl⟩
theorem own_lt {w : World} {base : Nat} {e : TypeId} {size : Nat} {v : Value} {n : Nat} {xs : List Value} (h : w.ownsRow base e size v n xs) {k : Nat} (hk : v.ownBlock = some k) : base ≤ k ∧ k < w.heap.size := by
  rcases h.2 with ⟨rfl, -⟩ | ⟨g, cap, cur, rfl, hb, hg, -⟩
  · cases hk
  · cases hk; exact ⟨hb, (Array.getElem?_eq_some_iff.1 hg).1⟩
theorem own_cells {w : World} {base : Nat} {e : TypeId} {size : Nat} {v : Value} {n : Nat} {xs : List Value} (h : w.ownsRow base e size v n xs) {k : Nat} (hk : v.ownBlock = some k) : ∃ cs t f, w.heap[k]? = some (.cells cs t f) := by
  rcases h.2 with ⟨rfl, -⟩ | ⟨g, cap, cur, rfl, hb, hg, -⟩
  · cases hk
  · cases hk; exact ⟨_, _, _, hg⟩
theorem own_keep1 {w w' : World} {base : Nat} {e : TypeId} {size : Nat} {v : Value} {n : Nat} {xs : List Value} (h : w.ownsRow base e size v n xs) (hk : ∀ k, v.ownBlock = some k → w'.heap[k]? = w.heap[k]?) : w'.ownsRow base e size v n xs := by
  refine ⟨h.1, ?_⟩
  rcases h.2 with hn | ⟨g, cap, cur, rfl, hb, hg, rest⟩
  · exact .inl hn
  · exact .inr ⟨g, cap, cur, rfl, hb, (hk g rfl).trans hg, rest⟩
theorem own_row {w : World} {base : Nat} {e : TypeId} {size : Nat} {v : Value} {n : Nat} {xs : List Value} (h : w.ownsRow base e size v n xs) (hn : 0 < n) : ∃ g cap c, v = .slice (some ⟨g, 0, none⟩) n cap ∧ base ≤ g ∧ w.heap[g]? = some (.cells c e (0, 0)) ∧ n ≤ cap ∧ c.size = cap * size ∧ ∀ j, j < n * size → c[j]? = xs[j]? := by
  rcases h.2 with ⟨-, rfl⟩ | ⟨g, cap, cur, rfl, hb, hg, h1, h2, h3, h4⟩
  · omega
  · refine ⟨g, cap, cur, rfl, hb, hg, h1, h3, fun j hj => ?_⟩
    rw [← h4, List.getElem?_take, if_pos hj]; simp
theorem cells_at {W : World} {b o : Nat} {v : Value} (h : W.cell? ⟨b, o, none⟩ = some v) : ∃ cs t f, W.heap[b]? = some (.cells cs t f) := by
  unfold World.cell? at h
  split at h
  · rename_i c t f e; exact ⟨c, t, f, e⟩
  · cases h
/-- What is no row of cells lies as it lay. -/
def Stays (W W' : World) : Prop := ∀ (k : Nat) (o : Obj), W.heap[k]? = some o → o.isCells = false → W'.heap[k]? = some o
theorem Stays.trans {A B C : World} (h : Stays A B) (k : Stays B C) : Stays A C := fun q o a b => k q o (h q o a b) b
theorem stays_below {W W' : World} (h : Below W.heap.size W W') : Stays W W' := fun k o hk _ => (h.block k (Array.getElem?_eq_some_iff.1 hk).1).trans hk
theorem stays_set {W : World} {p o : Nat} {v u : Value} (h : W.cell? ⟨p, o, none⟩ = some u) (j : Nat) : Stays W (W.setCell ⟨p, j, none⟩ v) := fun k ob hk hc => by
  by_cases e : k = p
  · subst e
    obtain ⟨cs, t, f, he⟩ := cells_at h
    rw [hk] at he; cases he; cases hc
  · rw [heap_set_other e]; exact hk
structure CutAt (w0 W : World) (po b2 b3 b off n cap : Nat) (f : Nat → Int) (k j : Nat) : Prop where
  below : Below w0.heap.size w0 W
  parts : PartsAt W b2 b3 b off n cap k
  out : ∃ v, W.cell? ⟨po, 0, none⟩ = some v ∧ W.ownsRow w0.heap.size 58 8 v j (wordsL f (8 * j)) ∧ v.ownBlock ≠ some po ∧ v.ownBlock ≠ some b2 ∧ v.ownBlock ≠ some b3
  fpo : W.frozen? ⟨po, 0, none⟩ = false
  h1 : w0.heap.size ≤ po ∧ po < W.heap.size
  h2 : w0.heap.size ≤ b2 ∧ b2 < W.heap.size
  h3 : w0.heap.size ≤ b3 ∧ b3 < W.heap.size
theorem PartsAt.keep {W W' : World} {b2 b3 b off n cap k : Nat} (h : PartsAt W b2 b3 b off n cap k) (e2 : W'.heap[b2]? = W.heap[b2]?) (e3 : W'.heap[b3]? = W.heap[b3]?) : PartsAt W' b2 b3 b off n cap k := by
  obtain ⟨A, a, c2, c3, f2⟩ := h
  exact ⟨A, a, (cell_of_heap e2 0).trans c2, (cell_of_heap e3 0).trans c3, (frozen_of_heap e2 0).trans f2⟩
theorem CutAt.same {w0 W W' : World} {po b2 b3 b off n cap : Nat} {f : Nat → Int} {k j : Nat} (h : CutAt w0 W po b2 b3 b off n cap f k j) (hs : W.heap.size ≤ W'.heap.size)
    (he : ∀ (g : Nat) (cs : Array Value) (t : TypeId) (q : Nat × Nat), W.heap[g]? = some (.cells cs t q) → W'.heap[g]? = some (.cells cs t q)) (hb : Below w0.heap.size w0 W') : CutAt w0 W' po b2 b3 b off n cap f k j := by
  have e : ∀ g : Nat, (∃ cs t q, W.heap[g]? = some (.cells cs t q)) → W'.heap[g]? = W.heap[g]? := fun g ⟨cs, t, q, hg⟩ => (he g cs t q hg).trans hg.symm
  obtain ⟨A, a, c2, c3, f2⟩ := h.parts
  obtain ⟨v, hv, ho, n1, n2, n3⟩ := h.out
  refine ⟨hb, h.parts.keep (e _ (cells_at c2)) (e _ (cells_at c3)), ⟨v, (cell_of_heap (e _ (cells_at hv)) 0).trans hv, own_keep1 ho fun q hq => e _ (own_cells ho hq), n1, n2, n3⟩, (frozen_of_heap (e _ (cells_at hv)) 0).trans h.fpo,
    ⟨h.h1.1, by have := h.h1.2; omega⟩, ⟨h.h2.1, by have := h.h2.2; omega⟩, ⟨h.h3.1, by have := h.h3.2; omega⟩⟩
theorem CutAt.grow {w0 W W' : World} {po b2 b3 b off n cap : Nat} {f : Nat → Int} {k j : Nat} (h : CutAt w0 W po b2 b3 b off n cap f k j) (hb : Below W.heap.size W W') : CutAt w0 W' po b2 b3 b off n cap f k j :=
  h.same hb.size (fun g cs t f he => (hb.block g (Array.getElem?_eq_some_iff.1 he).1).trans he) (h.below.trans (hb.mono h.below.size))
theorem grownBy_putObj' (W : World) (l : Nat) (o' : Obj) : W.grownBy (W.putObj l o') (some l) :=
  ⟨rfl, rfl, rfl, by simp [World.putObj], fun i hi hne => World.putObj_heap_other (fun e => hne (by rw [e]))⟩
theorem CutAt.put {w0 W : World} {po b2 b3 b off n cap : Nat} {f : Nat → Int} {k j : Nat} (h : CutAt w0 W po b2 b3 b off n cap f k j) {l : Nat} {o : Obj} (hl : W.heap[l]? = some o) (ho : o.isCells = false) (hw : w0.heap.size ≤ l) (o' : Obj) : CutAt w0 (W.putObj l o') po b2 b3 b off n cap f k j := by
  have hg := grownBy_putObj' W l o'
  refine h.same hg.size (fun g cs t f he => ?_) (h.below.grown hg h.below.size (fun k e => by cases e; exact hw))
  rw [World.putObj_heap_other (by rintro rfl; rw [hl] at he; cases he; cases ho)]
  exact he
/-- What is left is told anew. -/
theorem CutAt.next {w0 W : World} {po b2 b3 b off n cap : Nat} {f : Nat → Int} {k j : Nat} (h : CutAt w0 W po b2 b3 b off n cap f k j) (n1 : po ≠ b2) (n2 : b2 ≠ b3) {A : Option Addr} (hA : 8 * (k + 1 + 1) ≤ n → A = some ⟨b, off + 8 * (k + 1), none⟩) :
    CutAt w0 (W.setCell ⟨b2, 0, none⟩ (.slice A (n - 8 * (k + 1)) (cap - 8 * (k + 1)))) po b2 b3 b off n cap f (k + 1) j := by
  obtain ⟨A0, a, c2, c3, f2⟩ := h.parts
  obtain ⟨v, hv, ho, m1, m2, m3⟩ := h.out
  refine ⟨h.below.setCell h.h2.1 _, ⟨A, hA, cell_set_at _ c2, (cell_of_heap (heap_set_other (Ne.symm n2)) 0).trans c3, by rw [World.frozen?_setCell]; exact f2⟩, ⟨v, (cell_of_heap (heap_set_other n1) 0).trans hv, own_keep1 ho fun q hq => heap_set_other (fun e => m2 (e ▸ hq)), m1, m2, m3⟩, by rw [World.frozen?_setCell]; exact h.fpo,
    by simpa using h.h1, by simpa using h.h2, by simpa using h.h3⟩
/-- A line is put behind. -/
theorem CutAt.add {w0 W W1 w' : World} {po b2 b3 b off n cap : Nat} {f : Nat → Int} {k : Nat} (h : CutAt w0 W po b2 b3 b off n cap f k k) (n1 : po ≠ b2) (n2 : b2 ≠ b3) (n3 : po ≠ b3) {v v' : Value} (hv : W.cell? ⟨po, 0, none⟩ = some v) (hb : Below W.heap.size W W1)
    (ho' : w'.ownsRow w0.heap.size 58 8 v' (k + 1) (wordsL f (8 * (k + 1)))) (hg : W1.grownBy w' v.ownBlock) (hbl : v'.ownBlock = v.ownBlock ∨ v'.ownBlock = some W1.heap.size) :
    CutAt w0 (w'.setCell ⟨po, 0, none⟩ v') po b2 b3 b off n cap f k (k + 1) ∧ Stays W (w'.setCell ⟨po, 0, none⟩ v') := by
  obtain ⟨v0, hv0, ho0, m1, m2, m3⟩ := h.out
  obtain rfl : v0 = v := by rw [hv] at hv0; cases hv0; rfl
  obtain ⟨A0, a, c2, c3, f2⟩ := h.parts
  have z1 := hb.size
  have z2 := hg.size
  have kA : ∀ g, g < W.heap.size → v0.ownBlock ≠ some g → w'.heap[g]? = W.heap[g]? := fun g hg' e => (hg.block g (by omega) (Ne.symm e)).trans (hb.block g hg')
  have kB : ∀ g, g < W.heap.size → v0.ownBlock ≠ some g → g ≠ po → (w'.setCell ⟨po, 0, none⟩ v').heap[g]? = W.heap[g]? := fun g hg' e e2 => (heap_set_other e2).trans (kA g hg' e)
  have nn : ∀ g, g < W.heap.size → v0.ownBlock ≠ some g → v'.ownBlock ≠ some g := fun g hg' e e2 => by
    rcases hbl with q | q
    · exact e (by rw [← q]; exact e2)
    · rw [q] at e2; cases e2; omega
  have l1 := h.h1
  have l2 := h.h2
  have l3 := h.h3
  refine ⟨⟨?_, h.parts.keep (kB b2 l2.2 m2 (Ne.symm n1)) (kB b3 l3.2 m3 (Ne.symm n3)), ⟨v', cell_set_at _ ((cell_of_heap (kA po l1.2 m1) 0).trans hv), own_keep1 ho' fun q hq => heap_set_other (fun e => nn po l1.2 m1 (e ▸ hq)), nn po l1.2 m1, nn b2 l2.2 m2, nn b3 l3.2 m3⟩, ?_, ?_, ?_, ?_⟩, ?_⟩
  · exact ((h.below.trans (hb.mono h.below.size)).grown hg (by have := h.below.size; omega) (fun q e => (own_lt ho0 e).1)).setCell l1.1 _
  · rw [World.frozen?_setCell, frozen_of_heap (kA po l1.2 m1)]; exact h.fpo
  · simp only [World.size_setCell]; omega
  · simp only [World.size_setCell]; omega
  · simp only [World.size_setCell]; omega
  · intro q o hq hc
    have hlt := (Array.getElem?_eq_some_iff.1 hq).1
    have hne : ∀ {g}, (∃ cs t f, W.heap[g]? = some (.cells cs t f)) → q ≠ g := by
      rintro g ⟨cs, t, f, he⟩ rfl
      rw [hq] at he; cases he; cases hc
    rw [kB q hlt (fun e => hne (own_cells ho0 e) rfl) (hne (cells_at hv))]; exact hq
end Go.Proofs.YtjbngddmmdcagaaDoor
