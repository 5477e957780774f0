/- Accesses and tallies, as data. -/
import Derived.Test.YtfjddkjfkgdihaaRows
import Derived.Test.YtfjddkjfkgdihaaVoc
import Derived.Test.YtfjddkjfkgdihaaOpen
import Derived.WalkSpells
namespace Go.Proofs.Ytfjddkjfkgdihaa
open Go.RowKit
set_option linter.unusedVariables false

/-- An access. -/
structure AccD where
  ki : Int
  th : Int
  pl : Int
  ol : Int
  ne : Int
  dn : Bool
def AccD.cells (x : AccD) : Array Value := #[.int .i64 x.ki, .int .i64 x.th, .int .i64 x.pl, .int .u64 x.ol, .int .u64 x.ne, .bool x.dn]
def AccAt (w : World) (b o : Nat) (c : AccD) : Prop :=
  w.cell? ⟨b, o, none⟩ = some (.int .i64 c.ki) ∧ w.cell? ⟨b, o + 1, none⟩ = some (.int .i64 c.th) ∧ w.cell? ⟨b, o + 2, none⟩ = some (.int .i64 c.pl) ∧ w.cell? ⟨b, o + 3, none⟩ = some (.int .u64 c.ol) ∧
  w.cell? ⟨b, o + 4, none⟩ = some (.int .u64 c.ne) ∧ w.cell? ⟨b, o + 5, none⟩ = some (.bool c.dn)
theorem AccAt.of {w w' : World} {b o : Nat} {c : AccD} (h : AccAt w b o c) (he : ∀ o, w'.cell? ⟨b, o, none⟩ = w.cell? ⟨b, o, none⟩) : AccAt w' b o c := by
  unfold AccAt at *; simp only [he]; exact h
def AccsAt (w : World) (a : Option Addr) (len cap : Nat) (c : Nat → AccD) : Prop :=
  len ≤ cap ∧ cap ≤ maxLen ∧ ∀ i, i < len → ∃ b off, a = some ⟨b, off, none⟩ ∧ b < w.heap.size ∧ AccAt w b (off + i * 6) (c i)
theorem AccsAt.below {w w' : World} {a : Option Addr} {len cap : Nat} {c : Nat → AccD} (h : AccsAt w a len cap c) (hb : Below w.heap.size w w') : AccsAt w' a len cap c :=
  ⟨h.1, h.2.1, fun i hi => by
    obtain ⟨b, off, e, hlt, hc⟩ := h.2.2 i hi
    exact ⟨b, off, e, Nat.lt_of_lt_of_le hlt hb.size, hc.of fun o => hb.cell (p := ⟨b, o, none⟩) hlt⟩⟩

/-! What is counted. -/
def AccD.kd (x : AccD) : Nat := if 1 ≤ x.ki ∧ x.ki ≤ 5 then x.ki.toNat else 0
def AccD.failB (x : AccD) : Bool := decide (x.ki = 3) && !x.dn
def AccD.wordB (x : AccD) : Bool := decide (1 ≤ x.ki) && decide (x.ki ≤ 3)
/-- The nine numbers of a tally: by kind, failed, lasting, passing. -/
def AccD.hit (x : AccD) (j : Nat) : Bool :=
  if j < 6 then decide (x.kd = j) else if j = 6 then x.failB else if j = 7 then x.wordB && decide (0 ≤ x.pl) else x.wordB && decide (x.pl < 0)
def cnt (p : AccD → Bool) (c : Nat → AccD) : Nat → Nat
  | 0 => 0
  | k + 1 => cnt p c k + if p (c k) then 1 else 0
theorem cnt_le (p : AccD → Bool) (c : Nat → AccD) (k : Nat) : cnt p c k ≤ k := by
  induction k with
  | zero => exact Nat.le_refl _
  | succ k ih => unfold cnt; split <;> omega

/-- A tally in memory: nine numbers and the threads' list. -/
structure TallyAt (w : World) (b : Nat) (F : Nat → Int) (g n : Nat) (T : Nat → Int) : Prop where
  lt : b < w.heap.size
  cell : ∀ j, j < 9 → w.cell? ⟨b, j, none⟩ = some (.int .i64 (F j))
  list : w.cell? ⟨b, 9, none⟩ = some (.slice (some ⟨g, 0, none⟩) n n)
  free : ∀ j, w.frozen? ⟨b, j, none⟩ = false
  lt2 : g < w.heap.size
  cell2 : ∀ j, j < n → w.cell? ⟨g, j, none⟩ = some (.int .i64 (T j))
  free2 : ∀ j, w.frozen? ⟨g, j, none⟩ = false
  ne : b ≠ g

/-- Nothing but the blocks b and g has turned. -/
structure But (b g : Nat) (w w' : World) : Prop where
  os : w'.os = w.os
  tape : w'.tape = w.tape
  output : w'.output = w.output
  size : w.heap.size ≤ w'.heap.size
  block : ∀ k, k < w.heap.size → k ≠ b → k ≠ g → w'.heap[k]? = w.heap[k]?

def OneTo (b : Nat) (F : Nat → Int) (g n : Nat) (T : Nat → Int) (x : AccD) (w : World) (e : Ending) (w' : World) : Prop :=
  e = .returned (.tuple #[]) ∧ But b g w w' ∧ TallyAt w' b (fun j => F j + if x.hit j then 1 else 0) g n (fun j => T j + if x.th = (j : Int) then 1 else 0)

/-! Steps of a walk. -/
theorem cell_of_heap {w w' : World} {b : Nat} (h : w'.heap[b]? = w.heap[b]?) (o : Nat) : w'.cell? ⟨b, o, none⟩ = w.cell? ⟨b, o, none⟩ := World.cell?_of_block (w := w) (a := ⟨b, o, none⟩) h
theorem frozen_of_heap {w w' : World} {b : Nat} (h : w'.heap[b]? = w.heap[b]?) (o : Nat) : w'.frozen? ⟨b, o, none⟩ = w.frozen? ⟨b, o, none⟩ := World.frozen?_of_block (w := w) (a := ⟨b, o, none⟩) h

def upd (F : Nat → Int) (j : Nat) (v : Int) : Nat → Int := fun i => if i = j then v else F i
theorem TallyAt.keep {w w' : World} {b : Nat} {F : Nat → Int} {g n : Nat} {T : Nat → Int} (h : TallyAt w b F g n T) (hs : w.heap.size ≤ w'.heap.size) (hb : w'.heap[b]? = w.heap[b]?) (hg : w'.heap[g]? = w.heap[g]?) : TallyAt w' b F g n T :=
  ⟨Nat.lt_of_lt_of_le h.lt hs, fun j hj => by rw [cell_of_heap hb]; exact h.cell j hj, by rw [cell_of_heap hb]; exact h.list, fun j => by rw [frozen_of_heap hb]; exact h.free j,
    Nat.lt_of_lt_of_le h.lt2 hs, fun j hj => by rw [cell_of_heap hg]; exact h.cell2 j hj, fun j => by rw [frozen_of_heap hg]; exact h.free2 j, h.ne⟩
theorem TallyAt.alloc {w : World} {b : Nat} {F : Nat → Int} {g n : Nat} {T : Nat → Int} (h : TallyAt w b F g n T) (o : Obj) : TallyAt (w.alloc o) b F g n T :=
  h.keep (by simp) (Below.heap_alloc _ _ _ h.lt) (Below.heap_alloc _ _ _ h.lt2)
theorem TallyAt.drewN {w : World} {b : Nat} {F : Nat → Int} {g n : Nat} {T : Nat → Int} (h : TallyAt w b F g n T) (k : Nat) : TallyAt (w.drewN k) b F g n T := h.keep (Nat.le_refl _) rfl rfl
theorem TallyAt.drew {w : World} {b : Nat} {F : Nat → Int} {g n : Nat} {T : Nat → Int} (h : TallyAt w b F g n T) : TallyAt w.drew b F g n T := h.keep (Nat.le_refl _) rfl rfl
theorem heap_setCell_ne (w : World) (a : Addr) (v : Value) (k : Nat) (h : k ≠ a.block) : (w.setCell a v).heap[k]? = w.heap[k]? := Below.heap_setCell w a v k h
theorem cell_set_ne {w : World} {b j i : Nat} {v : Value} (h : i ≠ j) : (w.setCell ⟨b, j, none⟩ v).cell? ⟨b, i, none⟩ = w.cell? ⟨b, i, none⟩ :=
  World.cell?_setCell_other _ _ _ _ (by intro e; cases e; exact h rfl)
theorem TallyAt.setF {w : World} {b : Nat} {F : Nat → Int} {g n : Nat} {T : Nat → Int} (h : TallyAt w b F g n T) (j : Nat) (v : Int) (hj : j < 9) : TallyAt (w.setCell ⟨b, j, none⟩ (.int .i64 v)) b (upd F j v) g n T :=
  ⟨by simpa using h.lt, fun i hi => by
      unfold upd
      by_cases e : i = j
      · subst e; rw [if_pos rfl, World.cell?_setCell_same _ _ _ (h.cell i hi)]
      · rw [if_neg e, cell_set_ne e]; exact h.cell i hi,
    by rw [cell_set_ne (by omega)]; exact h.list, fun i => by rw [World.frozen?_setCell]; exact h.free i, by simpa using h.lt2,
    fun i hi => by rw [cell_of_heap (heap_setCell_ne _ _ _ _ (Ne.symm h.ne))]; exact h.cell2 i hi, fun i => by rw [World.frozen?_setCell]; exact h.free2 i, h.ne⟩
theorem TallyAt.setT {w : World} {b : Nat} {F : Nat → Int} {g n : Nat} {T : Nat → Int} (h : TallyAt w b F g n T) (j : Nat) (v : Int) : TallyAt (w.setCell ⟨g, j, none⟩ (.int .i64 v)) b F g n (upd T j v) :=
  ⟨by simpa using h.lt, fun i hi => by rw [cell_of_heap (heap_setCell_ne _ _ _ _ h.ne)]; exact h.cell i hi,
    by rw [cell_of_heap (heap_setCell_ne _ _ _ _ h.ne)]; exact h.list, fun i => by rw [World.frozen?_setCell]; exact h.free i, by simpa using h.lt2,
    fun i hi => by
      unfold upd
      by_cases e : i = j
      · subst e; rw [if_pos rfl, World.cell?_setCell_same _ _ _ (h.cell2 i hi)]
      · rw [if_neg e, cell_set_ne e]; exact h.cell2 i hi,
    fun i => by rw [World.frozen?_setCell]; exact h.free2 i, h.ne⟩
theorem TallyAt.congr {w : World} {b : Nat} {F F' : Nat → Int} {g n : Nat} {T T' : Nat → Int} (h : TallyAt w b F g n T) (hF : ∀ j, j < 9 → F j = F' j) (hT : ∀ j, j < n → T j = T' j) : TallyAt w b F' g n T' :=
  ⟨h.lt, fun j hj => by rw [← hF j hj]; exact h.cell j hj, h.list, h.free, h.lt2, fun j hj => by rw [← hT j hj]; exact h.cell2 j hj, h.free2, h.ne⟩

theorem But.refl (b g : Nat) (w : World) : But b g w w := ⟨rfl, rfl, rfl, Nat.le_refl _, fun _ _ _ _ => rfl⟩
theorem But.alloc {b g : Nat} {a w : World} (h : But b g a w) (o : Obj) : But b g a (w.alloc o) :=
  ⟨h.os, h.tape, h.output, Nat.le_trans h.size (by simp), fun k hk hb hg => by rw [Below.heap_alloc _ _ _ (Nat.lt_of_lt_of_le hk h.size)]; exact h.block k hk hb hg⟩
theorem But.drewN {b g : Nat} {a w : World} (h : But b g a w) (k : Nat) : But b g a (w.drewN k) := ⟨h.os, h.tape, h.output, h.size, h.block⟩
theorem But.drew {b g : Nat} {a w : World} (h : But b g a w) : But b g a w.drew := ⟨h.os, h.tape, h.output, h.size, h.block⟩
theorem But.set1 {b g : Nat} {a w : World} (h : But b g a w) (j : Nat) (v : Value) : But b g a (w.setCell ⟨b, j, none⟩ v) :=
  ⟨h.os, h.tape, h.output, by simpa [World.setCell] using h.size, fun k hk hb hg => by rw [heap_setCell_ne _ _ _ _ hb]; exact h.block k hk hb hg⟩
theorem But.set2 {b g : Nat} {a w : World} (h : But b g a w) (j : Nat) (v : Value) : But b g a (w.setCell ⟨g, j, none⟩ v) :=
  ⟨h.os, h.tape, h.output, by simpa [World.setCell] using h.size, fun k hk hb hg => by rw [heap_setCell_ne _ _ _ _ hg]; exact h.block k hk hb hg⟩
theorem But.below {b g B : Nat} {a w w' : World} (h : Below B a w) (k : But b g w w') (hb : B ≤ b) (hg : B ≤ g) (hB : B ≤ w.heap.size) : Below B a w' :=
  ⟨k.os.trans h.os, k.tape.trans h.tape, k.output.trans h.output, Nat.le_trans h.size k.size, fun i hi => (k.block i (by omega) (by omega) (by omega)).trans (h.block i hi)⟩
end Go.Proofs.Ytfjddkjfkgdihaa
