/- Small laws; what came of an earlier seat's texts. -/
import Derived.Test.YtjbngddmmdcagaaDoorRows
import Derived.Test.YtjbngddmmdcagaaDoorVoc
import Derived.WalkKit
import Derived.ProofKit
import Derived.OpenShut
import Derived.Lib.Hide
import Derived.Laws.Pointers
import Derived.BigQuiet
import Derived.RegionTactic
import Derived.BigRegion
import Derived.ChangeAlike
import Derived.Deep.RegionWith
import Derived.Deep.Cut
import Derived.Deep.CutRange
namespace Go.Proofs.YtjbngddmmdcagaaDoor
open Go.RowKit Go.BigFrame
set_option linter.unusedVariables false
set_option linter.unusedSimpArgs false

theorem bool_no {p : Prop} [Decidable p] (h : ¬ p) : decide p = false := by simp [h]
theorem bool_yes {p : Prop} [Decidable p] (h : p) : decide p = true := by simp [h]
/-- An answer, the world as it was. -/
def Says (v : Value) (w : World) (e : Ending) (w' : World) : Prop := e = .returned v ∧ w' = w
theorem ret_eq {a b : Value} (h : a = b) : Ending.returned a = Ending.returned b := by rw [h]
theorem heap_set_other {W : World} {b j g : Nat} {v : Value} (h : g ≠ b) : (W.setCell ⟨b, j, none⟩ v).heap[g]? = W.heap[g]? := Below.heap_setCell W _ v g h
theorem heap_set {w : World} {g j : Nat} {c : Array Value} {t : TypeId} {f : Nat × Nat} (v : Value) (h : w.heap[g]? = some (.cells c t f)) : (w.setCell ⟨g, j, none⟩ v).heap[g]? = some (.cells (c.setIfInBounds j v) t f) := by
  simp [World.setCell, Array.getElem?_modify, h]
theorem cell_of_heap {w w' : World} {b : Nat} (h : w'.heap[b]? = w.heap[b]?) (o : Nat) : w'.cell? ⟨b, o, none⟩ = w.cell? ⟨b, o, none⟩ := World.cell?_of_block (w := w) (a := ⟨b, o, none⟩) h
theorem frozen_of_heap {w w' : World} {b : Nat} (h : w'.heap[b]? = w.heap[b]?) (o : Nat) : w'.frozen? ⟨b, o, none⟩ = w.frozen? ⟨b, o, none⟩ := World.frozen?_of_block (w := w) (a := ⟨b, o, none⟩) h
theorem whole49 (n : Nat) (hn : n ≤ 9223372036854775807) (w : World) : Calls Tryd.prog 35 #[.int .i64 n, .int .i64 8] w (Says (.int .i64 (if (n : Int) % 8 ≠ 0 then 3 else if 262144 < (n : Int) / 8 then 2 else 0)) w) := by
  have e1 : (n : Int).tdiv 8 = (n : Int) / 8 := Int.tdiv_eq_ediv_of_nonneg (by omega)
  have e2 : (n : Int).tmod 8 = (n : Int) % 8 := Int.tmod_eq_emod_of_nonneg (by omega)
  by_cases h3 : (n : Int) % 8 = 0
  · have d3 : ((n : Int) % 8 != 0) = false := by simp [h3]
    rw [if_neg (fun h => h h3)]
    by_cases h4 : 262144 < (n : Int) / 8
    · have d4 : decide (262144 < (n : Int) / 8) = true := bool_yes h4
      rw [if_pos h4]
      go_enter Tryd.func35, Tryd.ntmps35
      go_wp2_with fail
      go_ret
      exact ⟨rfl, rfl⟩
    · have d4 : decide (262144 < (n : Int) / 8) = false := bool_no h4
      rw [if_neg h4]
      go_enter Tryd.func35, Tryd.ntmps35
      go_wp2_with fail
      go_ret
      exact ⟨rfl, rfl⟩
  · have d3 : ((n : Int) % 8 != 0) = true := by simp [h3]
    rw [if_pos h3]
    go_enter Tryd.func35, Tryd.ntmps35
    go_wp2_with fail
    go_ret
    exact ⟨rfl, rfl⟩
/-- An answer; the world as it was but for draws. -/
def Tells (v : Value) (w : World) (e : Ending) (w' : World) : Prop := e = .returned v ∧ Below w.heap.size w w' ∧ w'.heap = w.heap
/-- Eight words from one place on. -/
def Eight (W : World) (b o : Nat) (l : Nat → Int) : Prop := ∀ r, r < 8 → W.cell? ⟨b, o + r, none⟩ = some (.int .u64 (l r))
theorem Eight.cells {W : World} {b o : Nat} {l : Nat → Int} (h : Eight W b o l) : W.cell? ⟨b, o, none⟩ = some (.int .u64 (l 0)) ∧ W.cell? ⟨b, o + 1, none⟩ = some (.int .u64 (l 1)) ∧ W.cell? ⟨b, o + 2, none⟩ = some (.int .u64 (l 2)) ∧ W.cell? ⟨b, o + 3, none⟩ = some (.int .u64 (l 3)) ∧
    W.cell? ⟨b, o + 4, none⟩ = some (.int .u64 (l 4)) ∧ W.cell? ⟨b, o + 5, none⟩ = some (.int .u64 (l 5)) ∧ W.cell? ⟨b, o + 6, none⟩ = some (.int .u64 (l 6)) ∧ W.cell? ⟨b, o + 7, none⟩ = some (.int .u64 (l 7)) :=
  ⟨h 0 (by omega), h 1 (by omega), h 2 (by omega), h 3 (by omega), h 4 (by omega), h 5 (by omega), h 6 (by omega), h 7 (by omega)⟩
/-- A function with one place turned. -/
def upd {α : Type} (f : Nat → α) (j : Nat) (v : α) : Nat → α := fun k => if k = j then v else f k
/-- A block whose first n cells are told, none of it frozen. -/
def RowAt (W : World) (b n : Nat) (f : Nat → Value) : Prop := ∃ c t, W.heap[b]? = some (.cells c t (0, 0)) ∧ ∀ k, k < n → c[k]? = some (f k)
theorem upd_at {α : Type} (f : Nat → α) (j : Nat) (v : α) : upd f j v j = v := by simp [upd]
theorem upd_ne {α : Type} (f : Nat → α) {j k : Nat} (v : α) (h : k ≠ j) : upd f j v k = f k := by simp [upd, h]
theorem upd_map {α β : Type} (g : α → β) (f : Nat → α) (j : Nat) (v : α) : (fun k => g (upd f j v k)) = upd (fun k => g (f k)) j (g v) := by
  funext k; unfold upd; split <;> rfl
theorem RowAt.lt {W : World} {b n : Nat} {f : Nat → Value} (h : RowAt W b n f) : b < W.heap.size := by
  obtain ⟨c, t, h1, _⟩ := h; exact (Array.getElem?_eq_some_iff.1 h1).1
theorem RowAt.cell {W : World} {b n : Nat} {f : Nat → Value} (h : RowAt W b n f) {k : Nat} (hk : k < n) : W.cell? ⟨b, k, none⟩ = some (f k) := by
  obtain ⟨c, t, h1, h2⟩ := h
  rw [cell_of_row _ _ k _ _ _ h1]; exact h2 k hk
theorem RowAt.free {W : World} {b n : Nat} {f : Nat → Value} (h : RowAt W b n f) (j : Nat) : W.frozen? ⟨b, j, none⟩ = false := by
  obtain ⟨c, t, h1, h2⟩ := h
  unfold World.frozen?; rw [h1]; simp
theorem RowAt.keep {W W' : World} {b n : Nat} {f : Nat → Value} (h : RowAt W b n f) (e : W'.heap[b]? = W.heap[b]?) : RowAt W' b n f := by
  obtain ⟨c, t, h1, h2⟩ := h; exact ⟨c, t, e.trans h1, h2⟩
theorem RowAt.set {W : World} {b n : Nat} {f : Nat → Value} (h : RowAt W b n f) (j : Nat) (v : Value) : RowAt (W.setCell ⟨b, j, none⟩ v) b n (upd f j v) := by
  obtain ⟨c, t, h1, h2⟩ := h
  refine ⟨_, t, heap_set v h1, fun k hk => ?_⟩
  rw [Array.getElem?_setIfInBounds]
  have hk' : k < c.size := (Array.getElem?_eq_some_iff.1 (h2 k hk)).1
  by_cases e : k = j
  · subst e; simp [upd, hk']
  · rw [if_neg (Ne.symm e), upd_ne _ _ e]; exact h2 k hk
theorem RowAt.mono {W : World} {b n m : Nat} {f : Nat → Value} (h : RowAt W b n f) (hm : m ≤ n) : RowAt W b m f := by
  obtain ⟨c, t, h1, h2⟩ := h; exact ⟨c, t, h1, fun k hk => h2 k (by omega)⟩
theorem RowAt.congr {W : World} {b n : Nat} {f g : Nat → Value} (h : RowAt W b n f) (e : ∀ k, k < n → f k = g k) : RowAt W b n g := by
  obtain ⟨c, t, h1, h2⟩ := h; exact ⟨c, t, h1, fun k hk => by rw [← e k hk]; exact h2 k hk⟩
theorem cell_in {w : World} {b j : Nat} {c : Array Value} {t : TypeId} {f : Nat × Nat} (h : w.heap[b]? = some (.cells c t f)) : w.cell? ⟨b, j, none⟩ = c[j]? := cell_of_row _ _ j _ _ _ h
/-- Words as values. -/
def wordsL (f : Nat → Int) (n : Nat) : List Value := (List.range n).map fun k => .int .u64 (f k)
theorem cell_set_at {w : World} {b j : Nat} {u : Value} (v : Value) (h : w.cell? ⟨b, j, none⟩ = some u) : (w.setCell ⟨b, j, none⟩ v).cell? ⟨b, j, none⟩ = some v := by
  unfold World.cell? at h
  split at h
  · rename_i c t f e
    simp at h
    have hl : j < c.size := (Array.getElem?_eq_some_iff.1 h).1
    rw [cell_of_row _ _ j _ _ _ (heap_set v e)]
    simp [hl]
  · cases h
theorem enters_at {P : Program} {f : FuncId} {fn : Func} {c : Code} (hf : P.funcs[f]? = some fn) (hname : (fn.name == "runtime.NumGoroutine") = false) (hb : fn.body = some c) (args : Array Value) (w : World) :
    (callFunc f args).run P w = .ok (.enter f args) w := by
  have h1 : fn.name ≠ "runtime.NumGoroutine" := by simpa using hname
  simp [callFunc, hf, h1, hb]
theorem wordsL_len (f : Nat → Int) (n : Nat) : (wordsL f n).length = n := by simp [wordsL]
theorem wordsL_get (f : Nat → Int) (n k : Nat) (h : k < n) : (wordsL f n)[k]? = some (.int .u64 (f k)) := by
  unfold wordsL; rw [List.getElem?_map, List.getElem?_range h]; rfl
theorem wordsL_8 (f : Nat → Int) (k : Nat) : wordsL f (8 * (k + 1)) = wordsL f (8 * k) ++ [.int .u64 (f (k * 8)), .int .u64 (f (k * 8 + 1)), .int .u64 (f (k * 8 + 2)), .int .u64 (f (k * 8 + 3)), .int .u64 (f (k * 8 + 4)), .int .u64 (f (k * 8 + 5)), .int .u64 (f (k * 8 + 6)), .int .u64 (f (k * 8 + 7))] := by
  unfold wordsL
  rw [show 8 * (k + 1) = 8 * k + 8 by omega, List.range_add, List.map_append, List.map_map]
  congr 1
  simp only [List.range_succ_eq_map, List.range_zero, List.map_cons, List.map_nil, Function.comp, List.map_map]
  rw [show 8 * k = k * 8 by omega]
  rfl
end Go.Proofs.YtjbngddmmdcagaaDoor
