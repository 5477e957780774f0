/- Walks of layer 24's reference: the results that an operation can have; which calls may be. -/
import Derived.Test.YtfjddkjfkgdihaaC2
import Derived.Test.YtfjddkjfkgdihaaVoc
namespace Go.Proofs.Ytfjddkjfkgdihaa
open Go.RowKit Go.BigFrame
set_option linter.unusedVariables false

/-- The reference's table. -/
def resT (op : Int) : List (Int × Int) :=
  if op = 1 then [(1, 0), (5, 0)] else if op = 2 then [(1, 1), (2, 0), (5, 0)] else if op = 3 then [(1, 0), (3, 0), (5, 0)] else if op = 4 then [(1, 0), (4, 0), (5, 0)] else
  if op = 5 then [(3, 0), (4, 0)] else if op = 6 then [(1, 0), (3, 1), (5, 0)] else if op = 7 then [(3, 1), (4, 0)] else [(1, 1), (4, 0), (5, 0)]

def ResTo (op : Int) (w : World) (e : Ending) (w' : World) : Prop :=
  ∃ (t : TypeId), e = .returned (.slice (some ⟨w.heap.size, 0, none⟩) (resT op).length (resT op).length) ∧ w' = w.alloc (.cells ((resT op).flatMap fun p => [Value.int .i64 p.1, .int .i64 p.2]).toArray t)

theorem results_any (op : Int) (h1 : 1 ≤ op) (h2 : op ≤ 8) (w : World) : Calls Try.prog 62 #[.int .i64 op] w (ResTo op w) := by
  have : op = 1 ∨ op = 2 ∨ op = 3 ∨ op = 4 ∨ op = 5 ∨ op = 6 ∨ op = 7 ∨ op = 8 := by omega
  rcases this with rfl | rfl | rfl | rfl | rfl | rfl | rfl | rfl
  all_goals
    go_enter Try.func62, Try.ntmps62
    go_wp2
    go_ret
    exact ⟨_, rfl, rfl⟩

/-- The cells of the table. -/
theorem resT_cells (L : List (Int × Int)) (w : World) (t : TypeId) (i : Nat) (hi : i < L.length) :
    (w.alloc (.cells (L.flatMap fun p => [Value.int .i64 p.1, .int .i64 p.2]).toArray t)).cell? ⟨w.heap.size, i * 2, none⟩ = some (.int .i64 (L.getD i (0, 0)).1) ∧
    (w.alloc (.cells (L.flatMap fun p => [Value.int .i64 p.1, .int .i64 p.2]).toArray t)).cell? ⟨w.heap.size, i * 2 + 1, none⟩ = some (.int .i64 (L.getD i (0, 0)).2) := by
  have key : ∀ (L : List (Int × Int)) (i : Nat), i < L.length → (L.flatMap fun p => [Value.int .i64 p.1, .int .i64 p.2])[i * 2]? = some (.int .i64 (L.getD i (0, 0)).1) ∧ (L.flatMap fun p => [Value.int .i64 p.1, .int .i64 p.2])[i * 2 + 1]? = some (.int .i64 (L.getD i (0, 0)).2) := by
    intro L
    induction L with
    | nil => intro i h; simp at h
    | cons p L ih =>
      intro i h
      cases i with
      | zero => simp
      | succ i =>
        have := ih i (by simpa using h)
        simp only [List.flatMap_cons, List.getD_cons_succ]
        rw [show (i + 1) * 2 = i * 2 + 2 by omega, show i * 2 + 2 + 1 = (i * 2 + 1) + 2 by omega]
        simpa using this
  obtain ⟨k1, k2⟩ := key L i hi
  rw [cell_of_row _ _ _ _ t (0, 0) (heap_alloc_new w _), cell_of_row _ _ _ _ t (0, 0) (heap_alloc_new w _)]
  simpa using ⟨k1, k2⟩

def hitB (L : List (Int × Int)) (rk rv : Int) (i : Nat) : Bool := (L.getD i (0, 0)).1 == rk && ((L.getD i (0, 0)).2 == 1 || rv == 0)
def hitsB (ki rk rv : Int) : Bool := (resT ki).any fun p => p.1 == rk && (p.2 == 1 || rv == 0)
theorem hits_can (ki rk rv : Int) (h1 : 1 ≤ ki) (h2 : ki ≤ 8) : hitsB ki rk rv = (canB ki rk && (rv == 0 || valuedB ki rk)) := by
  have : ki = 1 ∨ ki = 2 ∨ ki = 3 ∨ ki = 4 ∨ ki = 5 ∨ ki = 6 ∨ ki = 7 ∨ ki = 8 := by omega
  have q : ∀ a b : Int, (a == b) = decide (b = a) := fun a b => by
    by_cases h : a = b
    · subst h; simp
    · have h' : ¬ b = a := fun e => h e.symm
      simp [h, h']
  by_cases hv : rv = 0
  all_goals by_cases k1 : rk = 1
  all_goals by_cases k2 : rk = 2
  all_goals by_cases k3 : rk = 3
  all_goals by_cases k4 : rk = 4
  all_goals by_cases k5 : rk = 5
  all_goals first | omega | skip
  all_goals rcases this with rfl | rfl | rfl | rfl | rfl | rfl | rfl | rfl
  all_goals simp [hitsB, resT, canB, valuedB, looksB, q, hv, k1, k2, k3, k4, k5]
theorem hits_of (L : List (Int × Int)) (rk rv : Int) (b : Bool) (hb : b = L.any fun p => p.1 == rk && (p.2 == 1 || rv == 0)) :
    (∀ i, i < L.length → hitB L rk rv i = true → b = true) ∧ ((∀ i, i < L.length → hitB L rk rv i = false) → b = false) := by
  subst hb
  constructor
  · intro i hi h
    rw [List.any_eq_true]
    refine ⟨L[i], List.getElem_mem hi, ?_⟩
    unfold hitB at h
    simpa [List.getD_eq_getElem?_getD, List.getElem?_eq_getElem hi] using h
  · intro h
    rw [List.any_eq_false]
    intro p hp
    obtain ⟨i, hi, rfl⟩ := List.mem_iff_getElem.1 hp
    have := h i hi
    unfold hitB at this
    simpa [List.getD_eq_getElem?_getD, List.getElem?_eq_getElem hi] using this
end Go.Proofs.Ytfjddkjfkgdihaa
