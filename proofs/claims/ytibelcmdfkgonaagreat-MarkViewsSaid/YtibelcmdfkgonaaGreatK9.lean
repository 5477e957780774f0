/- Layers 3, 4: the words of lines; what is seen and kept.
   Layer 3: what lies in memory while words are cut into lines. No walk here.
   Layer 20 (mark): a mark as a whole; whether a link may be. -/
import Derived.Test.YtibelcmdfkgonaaGreatK8
import Derived.Test.YtibelcmdfkgonaaGreatK5
import Derived.Test.YtibelcmdfkgonaaGreatK7
namespace Go.Proofs.YtibelcmdfkgonaaGreat
open Go.RowKit Go.BigFrame
set_option linter.unusedVariables false
set_option linter.unusedSimpArgs false
theorem cell_alloc' (w : World) (cs : Array Value) (e : TypeId) (j : Nat) (u : Value) (h : cs.toList[j]? = some u) : (w.alloc (.cells cs e)).cell? ((⟨w.heap.size, 0, none⟩ : Addr).add j) = some u := cell_alloc w cs e j u h
/-- 'append(s, x...)' of elements that lie in the block just made, of whatever type. -/
theorem wpList_push' {P : Program} {ops : Array Oper} {rest : List Oper} {o : Oper} {a : Act} {Q : Exit → Act → World → Prop} (hgd : o.guard = none) (s x : Operand) (t : TypeId)
    (ho : o.op = .call { callee := .builtin .append, args := #[s, x], argTypes := #[t, t] })
    (base : Nat) (e e' : TypeId) (i : TypeInfo) (z : Value) (size bytes : Nat) (ht : P.underlying t = some (.slice e)) (hi : P.info? e = some i) (hz : i.zero = some z)
    (hsize : i.size = size) (hby : i.bytes = bytes) (hzs : z.cells.size = size) (hsz : 0 < size)
    (wr : World) (hbase : base ≤ wr.heap.size) (v : Value) (n : Nat) (xs : List Value) (hs : a.eval s = v) (hown : wr.ownsRow base e size v n xs)
    (cs : Array Value) (m c : Nat) (hx : a.eval x = .slice (some ⟨wr.heap.size, 0, none⟩) m c) (hl : cs.size = m * size) (h1 : ∀ u ∈ cs.toList, u.oneCell' = true)
    (h63 : n + m ≤ maxLen) (hbytes : (n + m) * bytes ≤ 140737488355328)
    (h : ∀ v' w', w'.ownsRow base e size v' (n + m) (xs ++ cs.toList) → wr.grownBy w' v.ownBlock → (∀ B W, Below B W wr → B ≤ base → Below B W w') → (v' = .slice none 0 0 ↔ v = .slice none 0 0 ∧ m = 0) → wpList P ops Q rest (a.put o.dst v') w') :
    wpList P ops Q (o :: rest) a (wr.alloc (.cells cs e')) := by
  refine wpList_append_own _ hgd s x t ho base e i z size bytes ht hi hz hsize hby hzs hsz v n xs hs (hown.alloc _) ⟨wr.heap.size, 0, none⟩ m c cs.toList hx (by simpa using hl) (fun j u hj => cell_alloc wr cs e' j u hj) h1 h63 hbytes (by simp; omega) ?_
  intro v' w' ho' hg' hn'
  refine h v' w' ho' (grownBy_trans (World.grownBy_alloc wr _ _) hg') (fun B W hb hB => ?_) hn'
  refine (hb.alloc (by omega) _).grown hg' (by simp; omega) (fun k hk => ?_)
  have := hown.lt k hk
  omega
theorem info42 : (Tryz.prog.info? 48).map (fun i => (i.zero, i.size, i.bytes)) = some (some (.int .u64 0), 1, 8) := by kernel_rfl
/-- Words as values. -/
def wordsL (f : Nat → Int) (n : Nat) : List Value := (List.range n).map fun k => .int .u64 (f k)
theorem wordsL_len (f : Nat → Int) (n : Nat) : (wordsL f n).length = n := by simp [wordsL]
theorem wordsL_get (f : Nat → Int) (n k : Nat) (h : k < n) : (wordsL f n)[k]? = some (.int .u64 (f k)) := by
  unfold wordsL; rw [List.getElem?_map, List.getElem?_range h]; rfl
theorem wordsL_8 (f : Nat → Int) (k : Nat) : wordsL f (8 * (k + 1)) = wordsL f (8 * k) ++ [.int .u64 (f (k * 8)), .int .u64 (f (k * 8 + 1)), .int .u64 (f (k * 8 + 2)), .int .u64 (f (k * 8 + 3)), .int .u64 (f (k * 8 + 4)), .int .u64 (f (k * 8 + 5)), .int .u64 (f (k * 8 + 6)), .int .u64 (f (k * 8 + 7))] := by
  unfold wordsL
  rw [show 8 * (k + 1) = 8 * k + 8 by omega, List.range_add, List.map_append, List.map_map]
  congr 1
  simp only [List.range_succ_eq_map, List.range_zero, List.map_cons, List.map_nil, Function.comp, List.map_map]
  rw [show 8 * k = k * 8 by omega]
  rfl
/-- New words. -/
def NewWords (f : Nat → Int) (n : Nat) (W : World) (e : Ending) (W' : World) : Prop := ∃ v, e = .returned v ∧ Below W.heap.size W W' ∧ W'.ownsRow W.heap.size 48 1 v n (wordsL f n)
set_option maxRecDepth 100000 in
set_option maxHeartbeats 1000000 in
theorem words42 (b n cap : Nat) (hn : n ≤ 262144) (f : Nat → Int) (W : World) (h : RowAt W b (8 * n) fun k => .int .u64 (f k)) :
    Calls Tryz.prog 68 #[.slice (some ⟨b, 0, none⟩) n cap] W (NewWords f (8 * n) W) := by
  obtain ⟨i42, hi, hz0, hz1, hz2⟩ := info_parts info42
  have HR := Lib.hid h
  have hb := h.lt
  clear h
  obtain ⟨B, hB⟩ : ∃ B, B = W.heap.size := ⟨_, rfl⟩
  unfold NewWords
  rw [← hB] at hb ⊢
  have HBB := Lib.hid hb; clear hb
  have HB := Lib.hid hB; clear hB
  go_enter Tryz.func68, Tryz.ntmps68
  go_wp2_with fail
  go_loopw [3, 8] (fun v i wr => ∃ k : Nat, k ≤ n ∧ i = .int .i64 k ∧ Hid (wr.ownsRow B 48 1 v (8 * k) (wordsL f (8 * k))) ∧ Hid (Below B W wr)) (fun _ i _ => n - (intOf i).toNat)
  case atStart => exact ⟨0, Nat.zero_le _, rfl, World.ownsRow_nil _ _ _ _, Below.refl _ _⟩
  case round =>
    obtain ⟨k, hk, rfl, HO, HBE⟩ := hrel
    have HBw : Hid (B ≤ wr.heap.size) := Lib.hid (by rw [HB.out]; exact HBE.out.size)
    by_cases hlt : k < n
    · have hr : RowAt wr b (8 * n) fun k => .int .u64 (f k) := HR.out.keep (HBE.out.block b HBB.out)
      have h8 : Eight wr b (k * 8) (fun r => f (k * 8 + r)) := fun r hr' => hr.cell (by omega)
      obtain ⟨c0, c1, c2, c3, c4, c5, c6, c7⟩ := h8.cells
      have hw8 := wordsL_8 f k
      have i0 : (0 : Int) ≤ (k : Int) := by omega
      have i1 : (k : Int) < (n : Int) := by omega
      have i2 : decide ((k : Int) < (n : Int)) = true := bool_yes i1
      rw [Nat.add_zero] at c0
      have HW8 := Lib.hid hw8
      clear hr h8 hw8
      generalize f (k * 8) = v0 at *
      generalize f (k * 8 + 1) = v1 at *
      generalize f (k * 8 + 2) = v2 at *
      generalize f (k * 8 + 3) = v3 at *
      generalize f (k * 8 + 4) = v4 at *
      generalize f (k * 8 + 5) = v5 at *
      generalize f (k * 8 + 6) = v6 at *
      generalize f (k * 8 + 7) = v7 at *
      go_wp2_with (at_builtin; refine wpList_push' rfl _ _ 33 rfl B 48 218 i42 (.int .u64 0) 1 8 Tryz.underlying33 hi hz0 hz1 hz2 rfl (by decide) wr HBw.out u3 (8 * k) (wordsL f (8 * k)) rfl HO.out #[.int .u64 v0, .int .u64 v1, .int .u64 v2, .int .u64 v3, .int .u64 v4, .int .u64 v5, .int .u64 v6, .int .u64 v7] 8 8 rfl rfl (by simp [Value.oneCell']) (by unfold maxLen; omega) (by omega) ?_; intro v' w' hown hgr hbel hne; have HO' := Lib.hid hown; have HB' := Lib.hid (hbel B W HBE.out (Nat.le_refl _)); clear hown hgr hbel hne)
      go_wp2_with fail
      go_roundw
      case rel => exact ⟨k + 1, by omega, by go_num, Lib.hid (by rw [HW8.out]; exact HO'.out), HB'⟩
      case measure => simp [intOf]; omega
    · obtain rfl : k = n := by omega
      have i2 : decide ((k : Int) < (k : Int)) = false := by simp
      go_wp2_with fail
      go_ret
      exact ⟨_, rfl, HBE.out, HO.out⟩
end Go.Proofs.YtibelcmdfkgonaaGreat

namespace Go.Proofs.YtibelcmdfkgonaaGreat
open Go.RowKit Go.BigFrame
set_option linter.unusedVariables false
set_option linter.unusedSimpArgs false
theorem own_slice {w : World} {base : Nat} {e : TypeId} {size : Nat} {v : Value} {n : Nat} {xs : List Value} (h : w.ownsRow base e size v n xs) : ∃ a m c, v = .slice a m c := by
  rcases h.2 with ⟨rfl, -⟩ | ⟨g, cap, cur, rfl, -⟩
  · exact ⟨_, _, _, rfl⟩
  · exact ⟨_, _, _, rfl⟩
theorem own_slice_n {w : World} {base : Nat} {e : TypeId} {size : Nat} {v : Value} {n : Nat} {xs : List Value} (h : w.ownsRow base e size v n xs) : ∃ a c, v = .slice a n c := by
  rcases h.2 with ⟨rfl, rfl⟩ | ⟨g, cap, cur, rfl, -⟩
  · exact ⟨_, _, rfl⟩
  · exact ⟨_, _, rfl⟩
theorem own_lt {w : World} {base : Nat} {e : TypeId} {size : Nat} {v : Value} {n : Nat} {xs : List Value} (h : w.ownsRow base e size v n xs) {k : Nat} (hk : v.ownBlock = some k) : base ≤ k ∧ k < w.heap.size := by
  rcases h.2 with ⟨rfl, -⟩ | ⟨g, cap, cur, rfl, hb, hg, -⟩
  · cases hk
  · cases hk; exact ⟨hb, (Array.getElem?_eq_some_iff.1 hg).1⟩
theorem own_cells {w : World} {base : Nat} {e : TypeId} {size : Nat} {v : Value} {n : Nat} {xs : List Value} (h : w.ownsRow base e size v n xs) {k : Nat} (hk : v.ownBlock = some k) : ∃ cs t f, w.heap[k]? = some (.cells cs t f) := by
  rcases h.2 with ⟨rfl, -⟩ | ⟨g, cap, cur, rfl, hb, hg, -⟩
  · cases hk
  · cases hk; exact ⟨_, _, _, hg⟩
theorem own_keep1 {w w' : World} {base : Nat} {e : TypeId} {size : Nat} {v : Value} {n : Nat} {xs : List Value} (h : w.ownsRow base e size v n xs) (hk : ∀ k, v.ownBlock = some k → w'.heap[k]? = w.heap[k]?) : w'.ownsRow base e size v n xs := by
  refine ⟨h.1, ?_⟩
  rcases h.2 with hn | ⟨g, cap, cur, rfl, hb, hg, rest⟩
  · exact .inl hn
  · exact .inr ⟨g, cap, cur, rfl, hb, (hk g rfl).trans hg, rest⟩
theorem own_row {w : World} {base : Nat} {e : TypeId} {size : Nat} {v : Value} {n : Nat} {xs : List Value} (h : w.ownsRow base e size v n xs) (hn : 0 < n) : ∃ g cap c, v = .slice (some ⟨g, 0, none⟩) n cap ∧ base ≤ g ∧ w.heap[g]? = some (.cells c e (0, 0)) ∧ n ≤ cap ∧ c.size = cap * size ∧ ∀ j, j < n * size → c[j]? = xs[j]? := by
  rcases h.2 with ⟨-, rfl⟩ | ⟨g, cap, cur, rfl, hb, hg, h1, h2, h3, h4⟩
  · omega
  · refine ⟨g, cap, cur, rfl, hb, hg, h1, h3, fun j hj => ?_⟩
    rw [← h4, List.getElem?_take, if_pos hj]; simp
theorem cells_at {W : World} {b o : Nat} {v : Value} (h : W.cell? ⟨b, o, none⟩ = some v) : ∃ cs t f, W.heap[b]? = some (.cells cs t f) := by
  unfold World.cell? at h
  split at h
  · rename_i c t f e; exact ⟨c, t, f, e⟩
  · cases h
/-- What is no row of cells lies as it lay. -/
def Stays (W W' : World) : Prop := ∀ (k : Nat) (o : Obj), W.heap[k]? = some o → o.isCells = false → W'.heap[k]? = some o
theorem Stays.trans {A B C : World} (h : Stays A B) (k : Stays B C) : Stays A C := fun q o a b => k q o (h q o a b) b
theorem stays_below {W W' : World} (h : Below W.heap.size W W') : Stays W W' := fun k o hk _ => (h.block k (Array.getElem?_eq_some_iff.1 hk).1).trans hk
theorem stays_set {W : World} {p o : Nat} {v u : Value} (h : W.cell? ⟨p, o, none⟩ = some u) (j : Nat) : Stays W (W.setCell ⟨p, j, none⟩ v) := fun k ob hk hc => by
  by_cases e : k = p
  · subst e
    obtain ⟨cs, t, f, he⟩ := cells_at h
    rw [hk] at he; cases he; cases hc
  · rw [heap_set_other e]; exact hk
structure CutAt (w0 W : World) (po b2 b3 b off n cap : Nat) (f : Nat → Int) (k j : Nat) : Prop where
  below : Below w0.heap.size w0 W
  parts : PartsAt W b2 b3 b off n cap k
  out : ∃ v, W.cell? ⟨po, 0, none⟩ = some v ∧ W.ownsRow w0.heap.size 218 8 v j (wordsL f (8 * j)) ∧ v.ownBlock ≠ some po ∧ v.ownBlock ≠ some b2 ∧ v.ownBlock ≠ some b3
  fpo : W.frozen? ⟨po, 0, none⟩ = false
  h1 : w0.heap.size ≤ po ∧ po < W.heap.size
  h2 : w0.heap.size ≤ b2 ∧ b2 < W.heap.size
  h3 : w0.heap.size ≤ b3 ∧ b3 < W.heap.size
theorem PartsAt.keep {W W' : World} {b2 b3 b off n cap k : Nat} (h : PartsAt W b2 b3 b off n cap k) (e2 : W'.heap[b2]? = W.heap[b2]?) (e3 : W'.heap[b3]? = W.heap[b3]?) : PartsAt W' b2 b3 b off n cap k := by
  obtain ⟨A, a, c2, c3, f2⟩ := h
  exact ⟨A, a, (cell_of_heap e2 0).trans c2, (cell_of_heap e3 0).trans c3, (frozen_of_heap e2 0).trans f2⟩
theorem CutAt.same {w0 W W' : World} {po b2 b3 b off n cap : Nat} {f : Nat → Int} {k j : Nat} (h : CutAt w0 W po b2 b3 b off n cap f k j) (hs : W.heap.size ≤ W'.heap.size)
    (he : ∀ (g : Nat) (cs : Array Value) (t : TypeId) (q : Nat × Nat), W.heap[g]? = some (.cells cs t q) → W'.heap[g]? = some (.cells cs t q)) (hb : Below w0.heap.size w0 W') : CutAt w0 W' po b2 b3 b off n cap f k j := by
  have e : ∀ g : Nat, (∃ cs t q, W.heap[g]? = some (.cells cs t q)) → W'.heap[g]? = W.heap[g]? := fun g ⟨cs, t, q, hg⟩ => (he g cs t q hg).trans hg.symm
  obtain ⟨A, a, c2, c3, f2⟩ := h.parts
  obtain ⟨v, hv, ho, n1, n2, n3⟩ := h.out
  refine ⟨hb, h.parts.keep (e _ (cells_at c2)) (e _ (cells_at c3)), ⟨v, (cell_of_heap (e _ (cells_at hv)) 0).trans hv, own_keep1 ho fun q hq => e _ (own_cells ho hq), n1, n2, n3⟩, (frozen_of_heap (e _ (cells_at hv)) 0).trans h.fpo,
    ⟨h.h1.1, by have := h.h1.2; omega⟩, ⟨h.h2.1, by have := h.h2.2; omega⟩, ⟨h.h3.1, by have := h.h3.2; omega⟩⟩
theorem CutAt.grow {w0 W W' : World} {po b2 b3 b off n cap : Nat} {f : Nat → Int} {k j : Nat} (h : CutAt w0 W po b2 b3 b off n cap f k j) (hb : Below W.heap.size W W') : CutAt w0 W' po b2 b3 b off n cap f k j :=
  h.same hb.size (fun g cs t f he => (hb.block g (Array.getElem?_eq_some_iff.1 he).1).trans he) (h.below.trans (hb.mono h.below.size))
theorem grownBy_putObj' (W : World) (l : Nat) (o' : Obj) : W.grownBy (W.putObj l o') (some l) :=
  ⟨rfl, rfl, rfl, by simp [World.putObj], fun i hi hne => World.putObj_heap_other (fun e => hne (by rw [e]))⟩
theorem CutAt.put {w0 W : World} {po b2 b3 b off n cap : Nat} {f : Nat → Int} {k j : Nat} (h : CutAt w0 W po b2 b3 b off n cap f k j) {l : Nat} {o : Obj} (hl : W.heap[l]? = some o) (ho : o.isCells = false) (hw : w0.heap.size ≤ l) (o' : Obj) : CutAt w0 (W.putObj l o') po b2 b3 b off n cap f k j := by
  have hg := grownBy_putObj' W l o'
  refine h.same hg.size (fun g cs t f he => ?_) (h.below.grown hg h.below.size (fun k e => by cases e; exact hw))
  rw [World.putObj_heap_other (by rintro rfl; rw [hl] at he; cases he; cases ho)]
  exact he
/-- What is left is told anew. -/
theorem CutAt.next {w0 W : World} {po b2 b3 b off n cap : Nat} {f : Nat → Int} {k j : Nat} (h : CutAt w0 W po b2 b3 b off n cap f k j) (n1 : po ≠ b2) (n2 : b2 ≠ b3) {A : Option Addr} (hA : 8 * (k + 1 + 1) ≤ n → A = some ⟨b, off + 8 * (k + 1), none⟩) :
    CutAt w0 (W.setCell ⟨b2, 0, none⟩ (.slice A (n - 8 * (k + 1)) (cap - 8 * (k + 1)))) po b2 b3 b off n cap f (k + 1) j := by
  obtain ⟨A0, a, c2, c3, f2⟩ := h.parts
  obtain ⟨v, hv, ho, m1, m2, m3⟩ := h.out
  refine ⟨h.below.setCell h.h2.1 _, ⟨A, hA, cell_set_at _ c2, (cell_of_heap (heap_set_other (Ne.symm n2)) 0).trans c3, by rw [World.frozen?_setCell]; exact f2⟩, ⟨v, (cell_of_heap (heap_set_other n1) 0).trans hv, own_keep1 ho fun q hq => heap_set_other (fun e => m2 (e ▸ hq)), m1, m2, m3⟩, by rw [World.frozen?_setCell]; exact h.fpo,
    by simpa using h.h1, by simpa using h.h2, by simpa using h.h3⟩
/-- A line is put behind. -/
theorem CutAt.add {w0 W W1 w' : World} {po b2 b3 b off n cap : Nat} {f : Nat → Int} {k : Nat} (h : CutAt w0 W po b2 b3 b off n cap f k k) (n1 : po ≠ b2) (n2 : b2 ≠ b3) (n3 : po ≠ b3) {v v' : Value} (hv : W.cell? ⟨po, 0, none⟩ = some v) (hb : Below W.heap.size W W1)
    (ho' : w'.ownsRow w0.heap.size 218 8 v' (k + 1) (wordsL f (8 * (k + 1)))) (hg : W1.grownBy w' v.ownBlock) (hbl : v'.ownBlock = v.ownBlock ∨ v'.ownBlock = some W1.heap.size) :
    CutAt w0 (w'.setCell ⟨po, 0, none⟩ v') po b2 b3 b off n cap f k (k + 1) ∧ Stays W (w'.setCell ⟨po, 0, none⟩ v') := by
  obtain ⟨v0, hv0, ho0, m1, m2, m3⟩ := h.out
  obtain rfl : v0 = v := by rw [hv] at hv0; cases hv0; rfl
  obtain ⟨A0, a, c2, c3, f2⟩ := h.parts
  have z1 := hb.size
  have z2 := hg.size
  have kA : ∀ g, g < W.heap.size → v0.ownBlock ≠ some g → w'.heap[g]? = W.heap[g]? := fun g hg' e => (hg.block g (by omega) (Ne.symm e)).trans (hb.block g hg')
  have kB : ∀ g, g < W.heap.size → v0.ownBlock ≠ some g → g ≠ po → (w'.setCell ⟨po, 0, none⟩ v').heap[g]? = W.heap[g]? := fun g hg' e e2 => (heap_set_other e2).trans (kA g hg' e)
  have nn : ∀ g, g < W.heap.size → v0.ownBlock ≠ some g → v'.ownBlock ≠ some g := fun g hg' e e2 => by
    rcases hbl with q | q
    · exact e (by rw [← q]; exact e2)
    · rw [q] at e2; cases e2; omega
  have l1 := h.h1
  have l2 := h.h2
  have l3 := h.h3
  refine ⟨⟨?_, h.parts.keep (kB b2 l2.2 m2 (Ne.symm n1)) (kB b3 l3.2 m3 (Ne.symm n3)), ⟨v', cell_set_at _ ((cell_of_heap (kA po l1.2 m1) 0).trans hv), own_keep1 ho' fun q hq => heap_set_other (fun e => nn po l1.2 m1 (e ▸ hq)), nn po l1.2 m1, nn b2 l2.2 m2, nn b3 l3.2 m3⟩, ?_, ?_, ?_, ?_⟩, ?_⟩
  · exact ((h.below.trans (hb.mono h.below.size)).grown hg (by have := h.below.size; omega) (fun q e => (own_lt ho0 e).1)).setCell l1.1 _
  · rw [World.frozen?_setCell, frozen_of_heap (kA po l1.2 m1)]; exact h.fpo
  · simp only [World.size_setCell]; omega
  · simp only [World.size_setCell]; omega
  · simp only [World.size_setCell]; omega
  · intro q o hq hc
    have hlt := (Array.getElem?_eq_some_iff.1 hq).1
    have hne : ∀ {g}, (∃ cs t f, W.heap[g]? = some (.cells cs t f)) → q ≠ g := by
      rintro g ⟨cs, t, f, he⟩ rfl
      rw [hq] at he; cases he; cases hc
    rw [kB q hlt (fun e => hne (own_cells ho0 e) rfl) (hne (cells_at hv))]; exact hq
end Go.Proofs.YtibelcmdfkgonaaGreat

namespace Go.Proofs.YtibelcmdfkgonaaGreat
open Go.RowKit Go.BigFrame
set_option linter.unusedVariables false
set_option linter.unusedSimpArgs false
theorem fld23_1 (a b c d : Value) (w : World) : (Instr.field 23 (.agg #[a, b, c, d]) 1).run Tryz.prog w = .ok b w := by kernel_rfl
theorem fld23_3 (a b c d : Value) (w : World) : (Instr.field 23 (.agg #[a, b, c, d]) 3).run Tryz.prog w = .ok d w := by kernel_rfl
theorem cut_lo (x : Nat) : cutF 0 32 (x : Int) = (lo x : Int) := by unfold cutF lo; omega
theorem cut_hi (x : Nat) : cutF 32 7 (x : Int) = (hi x : Int) := by unfold cutF hi; omega
theorem to_lo (x : Nat) : toW (x : Int) = (lo x : Int) - 1 := by unfold toW; rw [cut_lo]
theorem by_hi (x : Nat) : byW (x : Int) = (hi x : Int) - 1 := by unfold byW; rw [cut_hi]
theorem clean_nat (x : Nat) : cleanW (x : Int) = ((x % 9223372036854775808 : Nat) : Int) := by unfold cleanW; omega
theorem lo_lt (x : Nat) : lo x < 4294967296 := by unfold lo; omega
theorem hi_lt (x : Nat) : hi x < 128 := by unfold hi; omega
theorem link_lohi (a b : Nat) (ha : a < 4294967296) (hb : b < 128) : linkW ((a : Int) - 1) ((b : Int) - 1) = ((a + b * 4294967296 : Nat) : Int) := by
  unfold linkW putF moreW; omega
theorem right_mark (x S T : Nat) : rightW (cleanW (x : Int)) S T = decide (rightL S T x) := by
  unfold rightW
  have hl : lo (x % 9223372036854775808) = lo x := by unfold lo; omega
  have hh : hi (x % 9223372036854775808) = hi x := by unfold hi; omega
  rw [clean_nat, to_lo, by_hi, clean_nat, hl, hh, link_lohi _ _ (lo_lt x) (hi_lt x)]
  have e : x % 9223372036854775808 % 9223372036854775808 = x % 9223372036854775808 := by omega
  rw [e]
  by_cases h : rightL S T x
  · obtain ⟨h1, h2, h3⟩ := h
    have a1 : (((lo x + hi x * 4294967296 : Nat) : Int) == ((x % 9223372036854775808 : Nat) : Int)) = true := by rw [h1]; exact beq_self_eq_true _
    rw [a1, bool_yes (show (lo x : Int) - 1 < (S : Int) by omega), bool_yes (show (hi x : Int) - 1 < (T : Int) by omega), bool_yes (show rightL S T x from ⟨h1, h2, h3⟩)]; rfl
  · rw [bool_no h]
    by_cases h1 : x % 9223372036854775808 = lo x + hi x * 4294967296
    · have a1 : (((lo x + hi x * 4294967296 : Nat) : Int) == ((x % 9223372036854775808 : Nat) : Int)) = true := by rw [h1]; exact beq_self_eq_true _
      by_cases h2 : lo x ≤ S
      · have h3 : ¬ hi x ≤ T := fun h3 => h ⟨h1, h2, h3⟩
        rw [bool_no (show ¬ (hi x : Int) - 1 < (T : Int) by omega), Bool.and_false]
      · rw [bool_no (show ¬ (lo x : Int) - 1 < (S : Int) by omega), Bool.and_false, Bool.false_and]
    · have a1 : (((lo x + hi x * 4294967296 : Nat) : Int) == ((x % 9223372036854775808 : Nat) : Int)) = false := by
        rw [beq_eq_false_iff_ne]; intro h2; exact h1 (by omega)
      rw [a1]; rfl
/-- What a mark has. -/
structure Mk where
  x : Nat
  l : Nat
  t : Int
  wb : Nat
  nh : Nat
  cw : Nat
  mb : Nat
  S : Nat
  cm : Nat
  v : Lv
  hd : Nat → Nat
  hv : Value
  nv : Value
  s : MS
def nodesV (ns : List Node) : List Value := ns.flatMap fun n => [.int .i64 (n.slot : Int), .int .i64 (n.list : Int), .int .u64 (n.link : Int), .int .u64 (n.val : Int)]
def headsV (hs : List Nat) : List Value := hs.map fun (y : Nat) => .int .u64 (y : Int)
def Mk.cells (K : Mk) : Array Value := #[.pointer (some ⟨K.l, 0, none⟩), .int .i64 K.t, .int .i64 (K.s.pc : Int), .slice (some ⟨K.wb, 0, none⟩) K.nh K.cw, .int .i64 (K.s.list : Int), .slice (some ⟨K.mb, 0, none⟩) K.S K.cm, .bool K.s.corrupt, K.hv, K.nv, .int .i64 ((K.s.slot : Int) - 1), .bool K.s.first, .bool K.s.above, .int .u64 (K.s.key : Int), .bool K.s.free, .int .u64 (K.s.val : Int)]
def Mk.own (K : Mk) (k : Nat) : Prop := k = K.x ∨ k = K.wb ∨ k = K.mb ∨ K.hv.ownBlock = some k ∨ K.nv.ownBlock = some k
structure MkAt (W : World) (K : Mk) : Prop where
  row : W.heap[K.x]? = some (.cells K.cells 149 (0, 0))
  lay : LayAt W K.l K.v
  ways : RowAt W K.wb K.nh fun k => .int .i64 (K.hd k : Int)
  met : RowAt W K.mb K.S fun k => .bool (K.s.met k)
  heads : W.ownsRow 0 48 1 K.hv K.s.heads.length (headsV K.s.heads)
  nodes : W.ownsRow 0 50 4 K.nv K.s.nodes.length (nodesV K.s.nodes)
  xw : K.x ≠ K.wb
  xm : K.x ≠ K.mb
  wm : K.wb ≠ K.mb
  lo : ¬ K.own K.l
  hx : K.hv.ownBlock ≠ some K.x ∧ K.hv.ownBlock ≠ some K.wb ∧ K.hv.ownBlock ≠ some K.mb
  nx : K.nv.ownBlock ≠ some K.x ∧ K.nv.ownBlock ≠ some K.wb ∧ K.nv.ownBlock ≠ some K.mb
  hn : ∀ k, K.hv.ownBlock = some k → K.nv.ownBlock ≠ some k
  hS : (K.S : Int) = K.v.sl
  nh1 : K.nh ≤ 1000
  li : K.s.list ≤ K.nh
  lip : K.s.pc ≠ 4 → K.s.list < K.nh
  sl : 1 ≤ K.s.pc → K.s.pc ≤ 3 → 1 ≤ K.s.slot ∧ K.s.slot ≤ K.S
  ky : K.s.key < 18446744073709551616
  vl : K.s.val < 18446744073709551616
theorem own_keep' {w w' : World} {base : Nat} {e : TypeId} {size : Nat} {v : Value} {n : Nat} {xs : List Value} (h : w.ownsRow base e size v n xs) (hk : ∀ k, v.ownBlock = some k → w'.heap[k]? = w.heap[k]?) : w'.ownsRow base e size v n xs := by
  refine ⟨h.1, ?_⟩
  rcases h.2 with hn | ⟨g, cap, cur, hv, hb, hg, rest⟩
  · exact .inl hn
  · subst hv; exact .inr ⟨g, cap, cur, rfl, hb, (hk g rfl).trans hg, rest⟩
theorem MkAt.lt {W : World} {K : Mk} (h : MkAt W K) {k : Nat} (hk : K.own k) : k < W.heap.size := by
  rcases hk with rfl | rfl | rfl | hk | hk
  · exact lt_row h.row
  · exact h.ways.lt
  · exact h.met.lt
  · exact (h.heads.lt k hk).2
  · exact (h.nodes.lt k hk).2
theorem MkAt.keep {W W' : World} {K : Mk} (h : MkAt W K) (e : ∀ k, K.own k ∨ k = K.l → W'.heap[k]? = W.heap[k]?) : MkAt W' K :=
  { h with
    row := (e _ (.inl (.inl rfl))).trans h.row
    lay := h.lay.keep (e _ (.inr rfl))
    ways := h.ways.keep (e _ (.inl (.inr (.inl rfl))))
    met := h.met.keep (e _ (.inl (.inr (.inr (.inl rfl)))))
    heads := own_keep' h.heads fun k hk => e k (.inl (.inr (.inr (.inr (.inl hk)))))
    nodes := own_keep' h.nodes fun k hk => e k (.inl (.inr (.inr (.inr (.inr hk))))) }
theorem MkAt.below {W W' : World} {K : Mk} (h : MkAt W K) (hb : Below W.heap.size W W') : MkAt W' K :=
  h.keep fun k hk => hb.block k (by rcases hk with hk | rfl; exact h.lt hk; exact h.lay.lt)
theorem MkAt.turn {W W' : World} {K : Mk} {F : Nat → Prop} (h : MkAt W K) (t : Turn F W W') (hd : ∀ k, K.own k ∨ k = K.l → ¬ F k) : MkAt W' K :=
  h.keep fun k hk => t.block k (by rcases hk with hk | rfl; exact h.lt hk; exact h.lay.lt) (hd k hk)
/-- A step done: the mark as s' has it; nothing but its own has turned. -/
def MkTo (K : Mk) (s' : MS) (W : World) (e : Ending) (W' : World) : Prop :=
  (∃ u, e = .returned u) ∧ Turn K.own W W' ∧ ∃ hv nv, MkAt W' { K with s := s', hv := hv, nv := nv } ∧ (∀ k, hv.ownBlock = some k → K.hv.ownBlock = some k ∨ W.heap.size ≤ k) ∧ (∀ k, nv.ownBlock = some k → K.nv.ownBlock = some k ∨ W.heap.size ≤ k)
/-- Its row alone has turned. -/
theorem MkAt.row_next {W W' : World} {K : Mk} (h : MkAt W K) (s' : MS) (hr : W'.heap[K.x]? = some (.cells ({ K with s := s' } : Mk).cells 149 (0, 0))) (hb : But K.x W W') (e1 : s'.met = K.s.met) (e2 : s'.heads = K.s.heads) (e3 : s'.nodes = K.s.nodes)
    (li : s'.list ≤ K.nh) (lip : s'.pc ≠ 4 → s'.list < K.nh) (sl : 1 ≤ s'.pc → s'.pc ≤ 3 → 1 ≤ s'.slot ∧ s'.slot ≤ K.S) (ky : s'.key < 18446744073709551616) (vl : s'.val < 18446744073709551616) : MkAt W' { K with s := s' } :=
  { row := hr
    lay := h.lay.keep (hb.block _ h.lay.lt fun e => h.lo (.inl e))
    ways := h.ways.keep (hb.block _ h.ways.lt (Ne.symm h.xw))
    met := by show RowAt W' K.mb K.S fun k => .bool (s'.met k); rw [e1]; exact h.met.keep (hb.block _ h.met.lt (Ne.symm h.xm))
    heads := by show W'.ownsRow 0 48 1 K.hv s'.heads.length (headsV s'.heads); rw [e2]; exact own_keep' h.heads fun k hk => hb.block k (h.heads.lt k hk).2 fun e => h.hx.1 (e ▸ hk)
    nodes := by show W'.ownsRow 0 50 4 K.nv s'.nodes.length (nodesV s'.nodes); rw [e3]; exact own_keep' h.nodes fun k hk => hb.block k (h.nodes.lt k hk).2 fun e => h.nx.1 (e ▸ hk)
    xw := h.xw, xm := h.xm, wm := h.wm, lo := h.lo, hx := h.hx, nx := h.nx, hn := h.hn, hS := h.hS, nh1 := h.nh1, li := li, lip := lip, sl := sl, ky := ky, vl := vl }
theorem MkAt.to_row {W W' : World} {K : Mk} {e : Ending} (h : MkAt W K) (s' : MS) (hr : RowTo K.x ({ K with s := s' } : Mk).cells W e W') (e1 : s'.met = K.s.met) (e2 : s'.heads = K.s.heads) (e3 : s'.nodes = K.s.nodes)
    (li : s'.list ≤ K.nh) (lip : s'.pc ≠ 4 → s'.list < K.nh) (sl : 1 ≤ s'.pc → s'.pc ≤ 3 → 1 ≤ s'.slot ∧ s'.slot ≤ K.S) (ky : s'.key < 18446744073709551616) (vl : s'.val < 18446744073709551616) : MkTo K s' W e W' :=
  ⟨hr.1, Turn.of_but hr.2.2 fun _ => .inl rfl, K.hv, K.nv, h.row_next s' hr.2.1 hr.2.2 e1 e2 e3 li lip sl ky vl, fun _ hk => .inl hk, fun _ hk => .inl hk⟩
/-- What is the same for the plain machine. -/
structure Fits (g : Gd) (K : Mk) : Prop where
  S : g.S = K.S
  T : (g.T : Int) = K.v.th
  nh : g.heads.length = K.nh
  bu1 : 1 ≤ K.v.bu
  bu : ∀ k : Nat, k < 4294967296 → (g.bucket k : Int) = bucketI (k : Int) K.v.bu
theorem right135 (K : Mk) (x T : Nat) (hx : x < 18446744073709551616) (hT : (T : Int) = K.v.th) (w : World) (h : MkAt w K) :
    Calls Tryz.prog 135 #[.pointer (some ⟨K.x, 0, none⟩), .int .u64 (x : Int)] w (Gives (.bool (decide (rightL K.S T x))) w) := by
  have HC := Lib.hid fun w h => config70 K.l K.v w h
  have HLAY := Lib.hid h.lay
  have hU : U64 (x : Int) := by unfold U64; omega
  have hUC : U64 (cleanW (x : Int)) := by unfold U64 cleanW; omega
  have HCL := Lib.hid fun w => clean225 (x : Int) hU w
  have HR : Hid (∀ w, Calls Tryz.prog 224 #[.int .u64 (cleanW (x : Int)), .int .i64 K.v.sl, .int .i64 K.v.th] w (Gives (.bool (decide (rightL K.S T x))) w)) := Lib.hid fun w => by
    rw [← right_mark, hT, h.hS]; exact right224 _ _ _ hUC w
  have q0 := cell_row h.row 0 _ rfl
  clear h hU hUC hT
  generalize decide (rightL K.S T x) = r at *
  generalize cleanW (x : Int) = c at *
  generalize hlv : K.v = v at *
  clear hlv
  obtain ⟨th, sl, lo', bu, pt, pl, ls, ps, ln⟩ := v
  generalize K.l = l at *
  generalize K.x = y at *
  simp only at *
  go_enter Tryz.func135, Tryz.ntmps135
  go_wp2_with fail
  refine (HC.out _ HLAY.out).mono ?_
  rintro e w1 ⟨rfl, hb⟩
  have HB := Lib.hid hb
  clear hb q0
  go_wp2_with fail
  refine region_qd 0 6 (by kernel_rfl) (by kernel_rfl) (fun _ _ d _ _ h => by cases d <;> exact h) ?_
  simp only [List.take_succ_cons, List.take_zero, List.drop_succ_cons, List.drop_zero, Nat.reduceAdd]
  refine wpQuiet_nil ?_
  repeat (first | go_big_quiet_skip | (go_big_quiet_want; go_big_quiet_op; first | go_big_quiet_on | go_big_quiet_call ((go_at_call 225; exact Calls.quiet_of_same (HCL.out _)))))
  refine wpQuiet_nil ?_
  rintro _ ⟨k, rfl⟩
  go_wp2_with fail
  refine (HR.out _).mono ?_
  rintro e w2 ⟨rfl, hb⟩
  have HB2 := Lib.hid ((drewN_below (HB.out.alloc HB.out.size _) k).trans (hb.mono (by have := HB.out.size; simp; omega)))
  clear hb
  go_wp2_with fail
  go_ret
  exact ⟨rfl, HB2.out⟩

end Go.Proofs.YtibelcmdfkgonaaGreat
