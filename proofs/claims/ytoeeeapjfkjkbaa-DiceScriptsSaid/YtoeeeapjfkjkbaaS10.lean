/- Layer 35 (dice): what Script holds while it throws; a round of its range over a function. -/
import Derived.Test.YtoeeeapjfkjkbaaS6
import Derived.Test.YtoeeeapjfkjkbaaS7
namespace Go.Proofs.Ytoeeeapjfkjkbaa
open Go.RowKit Go.BigFrame
set_option linter.unusedVariables false
set_option linter.unusedSimpArgs false

theorem cfg_cells {W : World} {b : Nat} {k0 k1 k2 k3 : Value} {t : TypeId} (h : W.heap[b]? = some (.cells #[k0, k1, k2, k3] t (0, 0))) :
    W.cell? ⟨b, 0, none⟩ = some k0 ∧ W.cell? ⟨b, 1, none⟩ = some k1 ∧ W.cell? ⟨b, 2, none⟩ = some k2 ∧ W.cell? ⟨b, 3, none⟩ = some k3 ∧ ∀ j, W.frozen? ⟨b, j, none⟩ = false := by
  refine ⟨?_, ?_, ?_, ?_, fun j => ?_⟩
  all_goals first | (rw [cell_of_row _ _ _ _ _ _ h]; rfl) | (unfold World.frozen?; rw [h]; simp)
theorem tab_of {W : World} {p : Nat} {c : Cfg} {l s : Int} {t : TypeId} (h : W.heap[p]? = some (.cells #[.int .i64 c.th, .int .i64 c.sl, .int .i64 c.lo, .int .i64 c.bu, .int .i64 l, .int .u64 s] t (0, 0))) : TabAt W p c l s := by
  obtain ⟨h0, h1, h2, h3, h4, h5, hf⟩ := act_cells h
  exact ⟨(Array.getElem?_eq_some_iff.1 h).1, h0, h1, h2, h3, h4, h5, hf⟩
theorem own_slice {w : World} {base : Nat} {e : TypeId} {size : Nat} {v : Value} {n : Nat} {xs : List Value} (h : w.ownsRow base e size v n xs) : ∃ a m c, v = .slice a m c := by
  rcases h.2 with ⟨rfl, -⟩ | ⟨g, cap, cur, rfl, -⟩
  · exact ⟨_, _, _, rfl⟩
  · exact ⟨_, _, _, rfl⟩
theorem own_ne {w : World} {base : Nat} {e : TypeId} {size : Nat} {v : Value} {n : Nat} {xs : List Value} (h : w.ownsRow base e size v n xs) {k : Nat} (hk : k < base ∨ w.heap.size ≤ k) : some k ≠ v.ownBlock := by
  rcases h.2 with ⟨rfl, -⟩ | ⟨g, cap, cur, rfl, hb, hg, -⟩
  · intro e; cases e
  · intro e
    have hlt := (Array.getElem?_eq_some_iff.1 hg).1
    simp [Value.ownBlock] at e
    omega
/-- Script's table lies, and a cell that points to it. -/
def Tabbed (w1 : World) (c : Cfg) (ln seed : Int) (v : Value) (wx : World) : Prop :=
  ∃ p pt, v = .pointer (some ⟨pt, 0, none⟩) ∧ w1.heap.size ≤ p ∧ w1.heap.size ≤ pt ∧ p ≠ pt ∧ Hid (TabAt wx p c ln seed) ∧ Hid (wx.heap[pt]? = some (.cells #[.pointer (some ⟨p, 0, none⟩)] 45 (0, 0))) ∧ Hid (Below w1.heap.size w1 wx)
theorem tabbedA (w1 : World) (c : Cfg) (ln seed : Int) : Tabbed w1 c ln seed (.pointer (some ⟨w1.heap.size + 1, 0, none⟩)) ((w1.alloc (.cells #[.int .i64 c.th, .int .i64 c.sl, .int .i64 c.lo, .int .i64 c.bu, .int .i64 ln, .int .u64 seed] 50)).alloc (.cells #[.pointer (some ⟨w1.heap.size, 0, none⟩)] 45)).drew := by
  refine ⟨w1.heap.size, w1.heap.size + 1, rfl, Nat.le_refl _, by omega, by omega, Lib.hid (tab_of (t := 50) ?_), Lib.hid ?_, Lib.hid ?_⟩
  · exact (Below.heap_alloc _ _ _ (by simp)).trans (heap_alloc_new w1 _)
  · have := heap_alloc_new (w1.alloc (.cells #[.int .i64 c.th, .int .i64 c.sl, .int .i64 c.lo, .int .i64 c.bu, .int .i64 ln, .int .u64 seed] 50)) (.cells #[.pointer (some ⟨w1.heap.size, 0, none⟩)] 45)
    rw [World.size_alloc] at this
    exact this
  · exact (((Below.refl _ w1).alloc (Nat.le_refl _) _).alloc (by simp) _).drew
theorem tabbedB (w1 : World) (c : Cfg) (ln seed : Int) : Tabbed w1 c ln seed (.pointer (some ⟨w1.heap.size, 0, none⟩)) ((w1.alloc (.cells #[.pointer (some ⟨w1.heap.size + 1, 0, none⟩)] 45)).alloc (.cells #[.int .i64 c.th, .int .i64 c.sl, .int .i64 c.lo, .int .i64 c.bu, .int .i64 ln, .int .u64 seed] 50)).drew := by
  refine ⟨w1.heap.size + 1, w1.heap.size, rfl, by omega, Nat.le_refl _, by omega, Lib.hid (tab_of (t := 50) ?_), Lib.hid ?_, Lib.hid ?_⟩
  · have := heap_alloc_new (w1.alloc (.cells #[.pointer (some ⟨w1.heap.size + 1, 0, none⟩)] 45)) (.cells #[.int .i64 c.th, .int .i64 c.sl, .int .i64 c.lo, .int .i64 c.bu, .int .i64 ln, .int .u64 seed] 50)
    rw [World.size_alloc] at this
    exact this
  · exact (Below.heap_alloc _ _ _ (by simp)).trans (heap_alloc_new w1 _)
  · exact (((Below.refl _ w1).alloc (Nat.le_refl _) _).alloc (by simp) _).drew
/-- What Script holds while it throws. -/
structure PlayAt (w W : World) (p pt po b2 b3 : Nat) (c : Cfg) (n : Nat) (L : List ActD) (s : Int) : Prop where
  tab : TabAt W p c c.lines s
  cpt : W.cell? ⟨pt, 0, none⟩ = some (.pointer (some ⟨p, 0, none⟩))
  out : ∃ v, W.cell? ⟨po, 0, none⟩ = some v ∧ W.ownsRow w.heap.size 38 6 v L.length (actCells L) ∧ some p ≠ v.ownBlock ∧ some pt ≠ v.ownBlock ∧ some po ≠ v.ownBlock ∧ some b2 ≠ v.ownBlock ∧ some b3 ≠ v.ownBlock
  fpo : W.frozen? ⟨po, 0, none⟩ = false
  cb2 : W.cell? ⟨b2, 0, none⟩ = some (.pointer (some ⟨p, 5, none⟩))
  cb3 : W.cell? ⟨b3, 0, none⟩ = some (.int .i64 n)
  lts : p < W.heap.size ∧ pt < W.heap.size ∧ po < W.heap.size ∧ b2 < W.heap.size ∧ b3 < W.heap.size
  below : Below w.heap.size w W
/-- The blocks are five, and new ones. -/
structure Five (w : World) (p pt po b2 b3 : Nat) : Prop where
  g1 : w.heap.size ≤ p
  g2 : w.heap.size ≤ pt
  g3 : w.heap.size ≤ po
  g4 : w.heap.size ≤ b2
  g5 : w.heap.size ≤ b3
  n1 : p ≠ pt
  n2 : p ≠ po
  n3 : p ≠ b2
  n4 : p ≠ b3
  n5 : pt ≠ po
  n6 : po ≠ b2
  n7 : po ≠ b3
theorem cells_of_cell {W : World} {b o : Nat} {v : Value} (h : W.cell? ⟨b, o, none⟩ = some v) : ∃ cs t f, W.heap[b]? = some (.cells cs t f) := by
  unfold World.cell? at h
  split at h
  · rename_i cs t f he
    exact ⟨cs, t, f, he⟩
  · cases h
theorem lt_of_cell {W : World} {b o : Nat} {v : Value} (h : W.cell? ⟨b, o, none⟩ = some v) : b < W.heap.size := by
  obtain ⟨cs, t, f, h⟩ := cells_of_cell h
  exact (Array.getElem?_eq_some_iff.1 h).1
theorem own_keep1 {w w' : World} {base : Nat} {e : TypeId} {size : Nat} {v : Value} {n : Nat} {xs : List Value} (h : w.ownsRow base e size v n xs) (hk : ∀ k, some k = v.ownBlock → w'.heap[k]? = w.heap[k]?) : w'.ownsRow base e size v n xs := by
  refine ⟨h.1, ?_⟩
  rcases h.2 with hn | ⟨g, cap, cur, rfl, hb, hg, rest⟩
  · exact .inl hn
  · exact .inr ⟨g, cap, cur, rfl, hb, (hk g rfl).trans hg, rest⟩
theorem own_cells {w : World} {base : Nat} {e : TypeId} {size : Nat} {v : Value} {n : Nat} {xs : List Value} (h : w.ownsRow base e size v n xs) {k : Nat} (hk : some k = v.ownBlock) : base ≤ k ∧ ∃ cs t f, w.heap[k]? = some (.cells cs t f) := by
  rcases h.2 with ⟨rfl, -⟩ | ⟨g, cap, cur, rfl, hb, hg, rest⟩
  · cases hk
  · cases hk
    exact ⟨hb, _, _, _, hg⟩
/-- The same where no cells have turned. -/
theorem PlayAt.same {w W W' : World} {p pt po b2 b3 : Nat} {c : Cfg} {n : Nat} {L : List ActD} {s : Int} (h : PlayAt w W p pt po b2 b3 c n L s) (hs : W.heap.size ≤ W'.heap.size)
    (hk : ∀ (k : Nat) (cs : Array Value) (t : TypeId) (f : Nat × Nat), W.heap[k]? = some (Obj.cells cs t f) → W'.heap[k]? = some (Obj.cells cs t f)) (hb : Below w.heap.size w W') : PlayAt w W' p pt po b2 b3 c n L s := by
  have keep : ∀ {b o v}, W.cell? ⟨b, o, none⟩ = some v → W'.heap[b]? = W.heap[b]? := fun hc => by
    obtain ⟨cs, t, f, he⟩ := cells_of_cell hc
    rw [hk _ _ _ _ he, he]
  obtain ⟨v, hv, ho, hrest⟩ := h.out
  refine ⟨h.tab.keep hs (keep h.tab.c0), ?_, ⟨v, ?_, ?_, hrest⟩, ?_, ?_, ?_, ?_, hb⟩
  · rw [cell_of_heap (keep h.cpt)]; exact h.cpt
  · rw [cell_of_heap (keep hv)]; exact hv
  · refine own_keep1 ho fun k e => ?_
    obtain ⟨-, cs, t, f, he⟩ := own_cells ho e
    rw [hk _ _ _ _ he, he]
  · rw [frozen_of_heap (keep hv)]; exact h.fpo
  · rw [cell_of_heap (keep h.cb2)]; exact h.cb2
  · rw [cell_of_heap (keep h.cb3)]; exact h.cb3
  · obtain ⟨l1, l2, l3, l4, l5⟩ := h.lts
    exact ⟨by omega, by omega, by omega, by omega, by omega⟩
theorem PlayAt.grow {w W W' : World} {p pt po b2 b3 : Nat} {c : Cfg} {n : Nat} {L : List ActD} {s : Int} (h : PlayAt w W p pt po b2 b3 c n L s) (hb : Below W.heap.size W W') : PlayAt w W' p pt po b2 b3 c n L s :=
  h.same hb.size (fun k cs t f he => (hb.block k (Array.getElem?_eq_some_iff.1 he).1).trans he) (h.below.trans (hb.mono h.below.size))
theorem PlayAt.put {w W : World} {p pt po b2 b3 : Nat} {c : Cfg} {n : Nat} {L : List ActD} {s : Int} (h : PlayAt w W p pt po b2 b3 c n L s) {l : Nat} {o : Obj} (hl : W.heap[l]? = some o) (ho : o.isCells = false) (hw : w.heap.size ≤ l) (o' : Obj) : PlayAt w (W.putObj l o') p pt po b2 b3 c n L s := by
  have hlt := (Array.getElem?_eq_some_iff.1 hl).1
  have hg := grownBy_putObj' W l o'
  refine h.same hg.size (fun k cs t f he => ?_) (h.below.grown hg h.below.size (fun k e => by cases e; exact hw))
  rw [World.putObj_heap_other (by rintro rfl; rw [hl] at he; cases he; cases ho)]
  exact he
/-- The iterator has put its state. -/
theorem PlayAt.state {w W : World} {p pt po b2 b3 : Nat} {c : Cfg} {n : Nat} {L : List ActD} {s : Int} (F : Five w p pt po b2 b3) (h : PlayAt w W p pt po b2 b3 c n L s) (s' : Int) : PlayAt w (W.setCell ⟨p, 5, none⟩ (.int .u64 s')) p pt po b2 b3 c n L s' := by
  have keep : ∀ {b}, b ≠ p → (W.setCell ⟨p, 5, none⟩ (.int .u64 s')).heap[b]? = W.heap[b]? := fun hb => heap_set_other hb
  obtain ⟨v, hv, ho, h1, h2⟩ := h.out
  refine ⟨h.tab.set s', ?_, ⟨v, ?_, ?_, h1, h2⟩, ?_, ?_, ?_, by simpa using h.lts, h.below.setCell (by have := F.g1; exact this) _⟩
  · rw [cell_of_heap (keep (Ne.symm F.n1))]; exact h.cpt
  · rw [cell_of_heap (keep (Ne.symm F.n2))]; exact hv
  · exact own_keep1 ho fun k e => keep (fun e2 => h1 (by rw [← e2]; exact e))
  · rw [World.frozen?_setCell]; exact h.fpo
  · rw [cell_of_heap (keep (Ne.symm F.n3))]; exact h.cb2
  · rw [cell_of_heap (keep (Ne.symm F.n4))]; exact h.cb3
/-- What is no cells lies as it lay. -/
def Stays (W W' : World) : Prop := ∀ (k : Nat) (o : Obj), W.heap[k]? = some o → o.isCells = false → W'.heap[k]? = some o
theorem stays_state {W : World} {p o : Nat} {v u : Value} (h : W.cell? ⟨p, o, none⟩ = some u) (j : Nat) : Stays W (W.setCell ⟨p, j, none⟩ v) := fun k ob hk hc => by
  obtain ⟨cs, t, f, he⟩ := cells_of_cell h
  rw [heap_set_other (by rintro rfl; rw [hk] at he; cases he; cases hc)]
  exact hk
theorem play_step {w W W1 w' : World} {p pt po b2 b3 : Nat} {c : Cfg} {n : Nat} {L A : List ActD} {s s' : Int} (F : Five w p pt po b2 b3) (h : PlayAt w W p pt po b2 b3 c n L s) {vo v' : Value}
    (hvo : W.cell? ⟨po, 0, none⟩ = some vo) (hown : W.ownsRow w.heap.size 38 6 vo L.length (actCells L)) (hbut : But p W W1) (htab : TabAt W1 p c c.lines s')
    (ho' : w'.ownsRow w.heap.size 38 6 v' (L ++ A).length (actCells (L ++ A))) (hg : W1.grownBy w' vo.ownBlock) (hb : v'.ownBlock = vo.ownBlock ∨ v'.ownBlock = some W1.heap.size) :
    PlayAt w (w'.setCell ⟨po, 0, none⟩ v') p pt po b2 b3 c n (L ++ A) s' ∧ Stays W (w'.setCell ⟨po, 0, none⟩ v') := by
  obtain ⟨v0, hv0, ho0, h1, h2, h3, h4, h5⟩ := h.out
  obtain rfl : v0 = vo := by rw [hvo] at hv0; cases hv0; rfl
  obtain ⟨l1, l2, l3, l4, l5⟩ := h.lts
  have z1 := hbut.size
  have z2 := hg.size
  have kA : ∀ k, k < W.heap.size → k ≠ p → some k ≠ v0.ownBlock → w'.heap[k]? = W.heap[k]? := fun k hk h1 h2 => (hg.block k (by omega) h2).trans (hbut.block k hk h1)
  have kB : ∀ k, k < W.heap.size → k ≠ p → some k ≠ v0.ownBlock → k ≠ po → (w'.setCell ⟨po, 0, none⟩ v').heap[k]? = W.heap[k]? := fun k a b d e => (heap_set_other e).trans (kA k a b d)
  have hpp : (w'.setCell ⟨po, 0, none⟩ v').heap[p]? = W1.heap[p]? := (heap_set_other F.n2).trans (hg.block p (by omega) h1)
  have nn : ∀ k, k < W.heap.size → some k ≠ v0.ownBlock → some k ≠ v'.ownBlock := fun k a b e => by
    rcases hb with e2 | e2
    · exact b (by rw [← e2]; exact e)
    · rw [e2] at e; cases e; omega
  have hpo := kA po l3 (Ne.symm F.n2) h3
  refine ⟨⟨htab.keep (by simp; omega) hpp, ?_, ⟨v', ?_, ?_, nn p l1 h1, nn pt l2 h2, nn po l3 h3, nn b2 l4 h4, nn b3 l5 h5⟩, ?_, ?_, ?_, ?_, ?_⟩, ?_⟩
  · rw [cell_of_heap (kB pt l2 (Ne.symm F.n1) h2 F.n5)]; exact h.cpt
  · exact World.cell?_setCell_same _ _ _ (by rw [cell_of_heap hpo]; exact hvo)
  · exact own_keep1 ho' fun k e => heap_set_other (fun e2 => nn po l3 h3 (by rw [← e2]; exact e))
  · rw [World.frozen?_setCell, frozen_of_heap hpo]; exact h.fpo
  · rw [cell_of_heap (kB b2 l4 (Ne.symm F.n3) h4 (Ne.symm F.n6))]; exact h.cb2
  · rw [cell_of_heap (kB b3 l5 (Ne.symm F.n4) h5 (Ne.symm F.n7))]; exact h.cb3
  · simp only [World.size_setCell]; exact ⟨by omega, by omega, by omega, by omega, by omega⟩
  · exact ((But.below h.below hbut F.g1 h.below.size).grown hg (by have := h.below.size; omega) (fun k e => (own_cells hown e.symm).1)).setCell (by exact F.g3) _
  · intro k o hk hc
    have hlt := (Array.getElem?_eq_some_iff.1 hk).1
    have hne : ∀ {b}, (∃ cs t f, W.heap[b]? = some (.cells cs t f)) → k ≠ b := by
      rintro b ⟨cs, t, f, he⟩ rfl
      rw [hk] at he; cases he; cases hc
    rw [kB k hlt (hne (cells_of_cell h.tab.c0)) (fun e => hne (own_cells hown e).2 rfl) (hne (cells_of_cell hvo))]
    exact hk
end Go.Proofs.Ytoeeeapjfkjkbaa
