/- Walk of wear.sums. -/
import Derived.Test.YtfjddkjfkgdihaaW1
import Derived.Deep.OwnRows
import Derived.Laws.Pointers
namespace Go.Proofs.Ytfjddkjfkgdihaa
open Go.RowKit Go.BigFrame
set_option linter.unusedVariables false

/-- A block of the call's own that holds numbers. -/
structure OwnInts (w : World) (g n : Nat) (T : Nat → Int) : Prop where
  lt : g < w.heap.size
  cell : ∀ j, j < n → w.cell? ⟨g, j, none⟩ = some (.int .i64 (T j))
  free : ∀ j, w.frozen? ⟨g, j, none⟩ = false
theorem OwnInts.keep {w w' : World} {g n : Nat} {T : Nat → Int} (h : OwnInts w g n T) (hs : w.heap.size ≤ w'.heap.size) (hg : w'.heap[g]? = w.heap[g]?) : OwnInts w' g n T :=
  ⟨Nat.lt_of_lt_of_le h.lt hs, fun j hj => by rw [cell_of_heap hg]; exact h.cell j hj, fun j => by rw [frozen_of_heap hg]; exact h.free j⟩
theorem OwnInts.alloc {w : World} {g n : Nat} {T : Nat → Int} (h : OwnInts w g n T) (o : Obj) : OwnInts (w.alloc o) g n T := h.keep (by simp) (Below.heap_alloc _ _ _ h.lt)
theorem OwnInts.below {w w' : World} {g n : Nat} {T : Nat → Int} (h : OwnInts w g n T) (hb : Below w.heap.size w w') : OwnInts w' g n T := h.keep hb.size (hb.block _ h.lt)
theorem OwnInts.set {w : World} {g n : Nat} {T : Nat → Int} (h : OwnInts w g n T) (j : Nat) (v : Int) : OwnInts (w.setCell ⟨g, j, none⟩ (.int .i64 v)) g n (upd T j v) :=
  ⟨by simpa using h.lt, fun i hi => by
      unfold upd
      by_cases e : i = j
      · subst e; rw [if_pos rfl, World.cell?_setCell_same _ _ _ (h.cell i hi)]
      · rw [if_neg e, cell_set_ne e]; exact h.cell i hi, fun i => by rw [World.frozen?_setCell]; exact h.free i⟩
theorem OwnInts.congr {w : World} {g n : Nat} {T T' : Nat → Int} (h : OwnInts w g n T) (hT : ∀ j, j < n → T j = T' j) : OwnInts w g n T' :=
  ⟨h.lt, fun j hj => by rw [← hT j hj]; exact h.cell j hj, h.free⟩
theorem OwnInts.made (w : World) (n : Nat) : OwnInts (w.alloc (.cells (madeCells #[.int .i64 0] n) 3)) w.heap.size n (fun _ => 0) := by
  have hG := heap_alloc_new w (.cells (madeCells #[.int .i64 0] n) 3)
  refine ⟨by simp, fun j hj => ?_, fun j => ?_⟩
  · rw [cell_of_row _ _ _ _ _ _ hG, ← Array.getElem?_toList, toList_madeCells_one]; simp [hj]
  · unfold World.frozen?; rw [hG]; simp

/-- What came in (or was made elsewhere) reads as numbers. -/
def ListAt (w : World) (a : Option Addr) (n : Nat) (T : Nat → Int) : Prop :=
  ∀ j, j < n → ∃ b off, a = some ⟨b, off, none⟩ ∧ b < w.heap.size ∧ w.cell? ⟨b, off + j, none⟩ = some (.int .i64 (T j))
theorem ListAt.below {w w' : World} {a : Option Addr} {n : Nat} {T : Nat → Int} (h : ListAt w a n T) (hb : Below w.heap.size w w') : ListAt w' a n T := fun j hj => by
  obtain ⟨b, off, e, hlt, hc⟩ := h j hj
  exact ⟨b, off, e, Nat.lt_of_lt_of_le hlt hb.size, by rw [hb.cell (p := ⟨b, off + j, none⟩) hlt]; exact hc⟩

theorem info3 : (Try.prog.info? 3).map (fun i => (i.zero, i.size, i.bytes)) = some (some (.int .i64 0), 1, 8) := by kernel_rfl

def SumsTo (n : Nat) (T : Nat → Int) (w : World) (e : Ending) (w' : World) : Prop :=
  ∃ g, e = .returned (.slice (some ⟨g, 0, none⟩) n n) ∧ Below w.heap.size w w' ∧ w.heap.size ≤ g ∧ OwnInts w' g n T

def acc (T1 T2 : Nat → Int) (k : Nat) (j : Nat) : Int := (if 0 < k then T1 j else 0) + (if 1 < k then T2 j else 0)
theorem acc_bd (T1 T2 : Nat → Int) (n k j : Nat) (hj : j < n) (b1 : ∀ j, j < n → 0 ≤ T1 j ∧ T1 j ≤ 1000) (b2 : ∀ j, j < n → 0 ≤ T2 j ∧ T2 j ≤ 1000) : 0 ≤ acc T1 T2 k j ∧ acc T1 T2 k j ≤ 2000 := by
  have h1 := b1 j hj; have h2 := b2 j hj
  unfold acc; split <;> split <;> omega
def PairAt (w : World) (p : Nat) (x y : Value) : Prop := w.cell? ⟨p, 0, none⟩ = some x ∧ w.cell? ⟨p, 1, none⟩ = some y ∧ p < w.heap.size
theorem PairAt.set {w : World} {p : Nat} {x y : Value} (h : PairAt w p x y) {g : Nat} (hg : p ≠ g) (j : Nat) (v : Value) : PairAt (w.setCell ⟨g, j, none⟩ v) p x y := by
  unfold PairAt
  rw [cell_of_heap (heap_setCell_ne _ _ _ _ hg), cell_of_heap (heap_setCell_ne _ _ _ _ hg)]
  exact ⟨h.1, h.2.1, by simpa using h.2.2⟩
theorem pair_made (w : World) (x y : Value) (p : Nat) (hp : p = w.heap.size) : PairAt (w.alloc (.cells #[x, y] 37)) p x y := by
  subst hp
  have hG := heap_alloc_new w (.cells #[x, y] 37)
  exact ⟨by rw [cell_of_row _ _ _ _ _ _ hG]; rfl, by rw [cell_of_row _ _ _ _ _ _ hG]; rfl, by simp⟩

set_option maxRecDepth 100000 in
set_option maxHeartbeats 4000000 in
theorem sums_any (a1 a2 : Option Addr) (n c1 c2 : Nat) (T1 T2 : Nat → Int) (w : World) (hn : n ≤ 64) (h1 : ListAt w a1 n T1) (h2 : ListAt w a2 n T2) (b1 : ∀ j, j < n → 0 ≤ T1 j ∧ T1 j ≤ 1000) (b2 : ∀ j, j < n → 0 ≤ T2 j ∧ T2 j ≤ 1000) :
    Calls Try.prog 58 #[.slice a1 n c1, .slice a2 n c2] w (SumsTo n (fun j => T1 j + T2 j) w) := by
  have hmk := fun w => run_make_row' (P := Try.prog) 37 3 (.int .i64 0) 8 Try.underlying37 info3 rfl .i64 .i64 n (by omega) (by omega) w
  obtain ⟨B, hB⟩ : ∃ B, B = w.heap.size := ⟨_, rfl⟩
  have HB := Lib.hid hB; clear hB
  have H1 := Lib.hid h1
  have H2 := Lib.hid h2
  have HB1 := Lib.hid b1
  have HB2 := Lib.hid b2
  clear h1 h2 b1 b2
  go_enter Try.func58, Try.ntmps58
  go_wp2_with fail
  have HO0 : Hid (OwnInts ((w.alloc (.cells (madeCells #[.int .i64 0] n) 3)).alloc (.cells #[.slice a1 n c1, .slice a2 n c2] 37)) w.heap.size n (acc T1 T2 0)) := Lib.hid ((OwnInts.made w n).alloc _)
  have HP0 : Hid (PairAt ((w.alloc (.cells (madeCells #[.int .i64 0] n) 3)).alloc (.cells #[.slice a1 n c1, .slice a2 n c2] 37)) (w.heap.size + 1) (.slice a1 n c1) (.slice a2 n c2)) := Lib.hid (pair_made _ _ _ _ (by simp))
  have HW0 : Hid (Below w.heap.size w ((w.alloc (.cells (madeCells #[.int .i64 0] n) 3)).alloc (.cells #[.slice a1 n c1, .slice a2 n c2] 37))) := Lib.hid (((Below.refl _ _).alloc (Nat.le_refl _) _).alloc (by simp) _)
  rw [← HB.out] at HO0 HP0 HW0 ⊢
  clear hmk
  go_loopw [20] (fun i wr => ∃ k : Nat, k ≤ 2 ∧ i = .int .i64 k ∧ Hid (OwnInts wr B n (acc T1 T2 k)) ∧ Hid (PairAt wr (B + 1) (.slice a1 n c1) (.slice a2 n c2)) ∧ Hid (Below B w wr)) (fun i _ => 2 - (intOf i).toNat)
  case atStart => exact ⟨0, by omega, rfl, HO0, HP0, HW0⟩
  case round =>
    clear HO0 HP0 HW0
    obtain ⟨k, hk, rfl, HO, HP, HBE⟩ := hrel
    by_cases hlt : k < 2
    · obtain ⟨aa, cc, TT, hcell, hlist, hbd, hacc⟩ : ∃ (aa : Option Addr) (cc : Nat) (TT : Nat → Int), wr.cell? ⟨B + 1, k, none⟩ = some (.slice aa n cc) ∧ ListAt w aa n TT ∧ (∀ j, j < n → 0 ≤ TT j ∧ TT j ≤ 1000) ∧ (∀ j, acc T1 T2 (k + 1) j = acc T1 T2 k j + TT j) := by
        rcases (show k = 0 ∨ k = 1 by omega) with rfl | rfl
        · exact ⟨a1, c1, T1, HP.out.1, H1.out, HB1.out, fun j => by simp [acc]⟩
        · exact ⟨a2, c2, T2, HP.out.2.1, H2.out, HB2.out, fun j => by simp [acc]⟩
      have HL := Lib.hid hlist
      have HBD := Lib.hid hbd
      have HAC := Lib.hid hacc
      clear hlist hbd hacc
      have k0 : (0 : Int) ≤ (k : Int) := by omega
      have k1 : (k : Int) < 2 := by omega
      go_wp2_with fail
      go_loopw [26] (fun i wr => ∃ j : Nat, j ≤ n ∧ i = .int .i64 j ∧ Hid (OwnInts wr B n (fun x => acc T1 T2 k x + if x < j then TT x else 0)) ∧ Hid (PairAt wr (B + 1) (.slice a1 n c1) (.slice a2 n c2)) ∧ Hid (Below B w wr)) (fun i _ => n - (intOf i).toNat)
      case atStart => exact ⟨0, Nat.zero_le _, rfl, Lib.hid (HO.out.congr fun j hj => by simp), HP, HBE⟩
      case round =>
        clear HO HP HBE hcell
        obtain ⟨j, hj, rfl, HO, HP, HBE⟩ := hrel
        by_cases hjn : j < n
        · obtain ⟨b, off, rfl, hb, hc⟩ := HL.out j hjn
          have hcw := (HBE.out.cell (p := ⟨b, off + j, none⟩) (by rw [HB.out]; exact hb)).trans hc
          have hco := HO.out.cell j hjn
          have hfo := HO.out.free j
          obtain ⟨t0, t1⟩ := HBD.out j hjn
          obtain ⟨q0, q1⟩ := acc_bd T1 T2 n k j hjn HB1.out HB2.out
          have HS := Lib.hid (HO.out.set j (acc T1 T2 k j + TT j))
          simp only [Nat.lt_irrefl, if_false, Int.add_zero] at hco
          clear hc
          generalize hA : acc T1 T2 k j = A at *
          generalize hT : TT j = D at *
          have HA := Lib.hid hA
          have HT := Lib.hid hT
          clear hA hT
          go_wp2_with fail
          go_roundw
          case rel => exact ⟨j + 1, by omega, by go_num, Lib.hid (HS.out.congr fun x hx => by
              unfold upd
              by_cases e : x = j
              · subst e; rw [if_pos rfl, if_pos (by omega), HA.out, HT.out]
              · rw [if_neg e]; show acc T1 T2 k x + (if x < j then TT x else 0) = _; by_cases e2 : x < j
                · rw [if_pos e2, if_pos (by omega)]
                · rw [if_neg e2, if_neg (by omega)]), Lib.hid (HP.out.set (by omega) _ _), Lib.hid (HBE.out.setCell (Nat.le_refl _) _)⟩
          case measure => simp [intOf]; omega
        · obtain rfl : j = n := by omega
          go_wp2_with fail
          go_roundw
          case rel => exact ⟨k + 1, by omega, by go_num, Lib.hid (HO.out.congr fun x hx => by rw [HAC.out, if_pos hx]), HP, HBE⟩
          case measure => simp [intOf]; omega
    · obtain rfl : k = 2 := by omega
      go_wp2_with fail
      go_ret
      exact ⟨B, rfl, by rw [← HB.out]; exact HBE.out, by rw [← HB.out]; exact Nat.le_refl _, HO.out.congr fun j hj => by simp [acc]⟩
end Go.Proofs.Ytfjddkjfkgdihaa
