/- Walk of trace.Read: its deferred closure; an access read or not. -/
import Derived.Test.YtfjddkjfkgdihaaE9e
import Derived.Defers
import Derived.Recover
import Derived.Deep.RegionLaw
namespace Go.Proofs.Ytfjddkjfkgdihaa
open Go.RowKit Go.BigFrame
set_option linter.unusedVariables false
set_option linter.unusedSimpArgs false

theorem catch_panicking (p q : Nat) (x y : Value) (u : TypeId) (pv : Value) (older : List PanicEntry) (w : World) (hpq : p ≠ q) (hc : w.cell? ⟨p, 0, none⟩ = some x) (hz : w.frozen? ⟨p, 0, none⟩ = false) (hc2 : w.cell? ⟨q, 0, none⟩ = some y) (hz2 : w.frozen? ⟨q, 0, none⟩ = false) :
    CallsD Try.prog 70 #[.pointer (some ⟨p, 0, none⟩), .pointer (some ⟨q, 0, none⟩)] (.panicking ({ v := .iface u pv, recovered := false } :: older)) w fun e u' w' =>
      e = .returned (.tuple #[]) ∧ u' = .panicking ({ v := .iface u pv, recovered := true } :: older) ∧ w' = (w.setCell ⟨p, 0, none⟩ (.slice none 0 0)).setCell ⟨q, 0, none⟩ (.int .i64 3) := by
  refine callsD_of_wpS Try.func70 rfl fun c₀ cs hu => ?_
  apply wpS_seq
  apply wpS_region
  simp [wpOpsS, go_sem, recoverD, hu, Try.ntmps70, Exit.thenS]
  apply wpS_seq
  apply wpS_region
  simp [wpOpsS, go_sem, recoverD, hu, Try.ntmps70, Exit.thenS]
  refine wpS_cond (t := true) (by simp [Act.eval, Array.replicate]) ?_
  simp only [if_true]
  apply wpS_region
  have h2 : (w.setCell ⟨p, 0, none⟩ (.slice none 0 0)).cell? ⟨q, 0, none⟩ = some y := by rw [cell_of_heap (heap_setCell_ne _ _ _ _ (Ne.symm hpq))]; exact hc2
  simp [wpOpsS, go_sem, hc, hz, h2, hz2, bodyPostS, results, Try.results70]

theorem catch_idle (p q : Addr) (w : World) :
    CallsD Try.prog 70 #[.pointer (some p), .pointer (some q)] .returning w fun e u' w' => e = .returned (.tuple #[]) ∧ u' = .returning ∧ w' = w := by
  refine callsD_of_wpS Try.func70 rfl fun c₀ cs hu => ?_
  apply wpS_seq
  apply wpS_region
  simp [wpOpsS, go_sem, recoverD, hu, Try.ntmps70, Exit.thenS]
  apply wpS_seq
  apply wpS_region
  simp [wpOpsS, go_sem, recoverD, hu, Try.ntmps70, Exit.thenS]
  refine wpS_cond (t := false) (by simp [Act.eval, Array.replicate]) ?_
  simp only [Bool.false_eq_true, if_false]
  refine wpS_of_wp (wp_skip ?_)
  cases c₀
  simp_all [bodyPostS, results, Try.results70]

def AccYes (B p : Nat) (x : AccD) (r : List Int) (last : Int) (w : World) (e : Ending) (w' : World) : Prop :=
  e = .returned (.agg x.cells) ∧ But p p w w' ∧ ∃ a len cap, RdrAt w' B p r (x.next last) a len cap
theorem access_yes (B p : Nat) (x : AccD) (hx : x.good) (r : List Int) (last : Int) (l0 : -1073741824 ≤ last) (l1 : last ≤ 1073741824) (a : Option Addr) (len cap : Nat) (w : World) (h : RdrAt w B p (x.enc last ++ r) last a len cap) :
    Calls Try.prog 72 #[.pointer (some ⟨p, 0, none⟩)] w (AccYes B p x r last w) := by
  refine (access_any B p _ last l0 l1 a len cap w h).mono ?_
  rintro e w' ⟨hb, ⟨y, s, hy, e1, rfl, hr⟩ | ⟨-, hno⟩⟩
  · obtain ⟨rfl, rfl⟩ := enc_pre hx hy e1
    exact ⟨rfl, hb, hr⟩
  · exact absurd rfl (hno x r hx)
theorem access_no (B p : Nat) (M : List Int) (last : Int) (hno : ∀ x r, AccD.good x → M ≠ x.enc last ++ r) (l0 : -1073741824 ≤ last) (l1 : last ≤ 1073741824) (a : Option Addr) (len cap : Nat) (w : World) (h : RdrAt w B p M last a len cap) :
    Calls Try.prog 72 #[.pointer (some ⟨p, 0, none⟩)] w (Falls p w) := by
  refine (access_any B p _ last l0 l1 a len cap w h).mono ?_
  rintro e w' ⟨hb, ⟨y, s, hy, e1, -⟩ | ⟨rfl, -⟩⟩
  · exact absurd e1 (hno y s hy)
  · exact ⟨rfl, hb⟩

theorem info50 : (Try.prog.info? 50).map (fun i => (i.zero, i.size, i.bytes)) = some (some (.agg #[.int .i64 0, .int .i64 0, .int .i64 0, .int .u64 0, .int .u64 0, .bool false]), 6, 48) := by kernel_rfl
def accCells (c : Nat → AccD) : Nat → List Value
  | 0 => []
  | n + 1 => accCells c n ++ (c n).cells.toList
theorem accCells_congr {c c' : Nat → AccD} {n : Nat} (h : ∀ i, i < n → c i = c' i) : accCells c n = accCells c' n := by
  induction n with
  | zero => rfl
  | succ n ih => unfold accCells; rw [ih (fun i hi => h i (by omega)), h n (by omega)]
/-- 'append(out, a)' of an access, as a step of a region that draws its order. -/
theorem step_acc {ops : Array Oper} {o : Oper} {a : Act} {K : Act → World → Prop} {Q : Exit → Act → World → Prop} {E : Prop} (hgd : o.guard = none) (s x : Operand)
    (ho : o.op = .call { callee := .builtin .append, args := #[s, x], argTypes := #[48, 48] }) (base : Nat) (wr : World) (hbase : base ≤ wr.heap.size) (v : Value) (n : Nat) (c : Nat → AccD) (y : AccD) (hs : a.eval s = v) (hown : wr.ownsRow base 50 6 v n (accCells c n))
    (hx : a.eval x = .slice (some ⟨wr.heap.size, 0, none⟩) 1 1) (hn : n ≤ 100000)
    (h : ∀ v' w', w'.ownsRow base 50 6 v' (n + 1) (accCells c n ++ y.cells.toList) → wr.grownBy w' v.ownBlock → (∀ B W, Below B W wr → B ≤ base → Below B W w') → K (a.put o.dst v') w') :
    if Region.wanted o (yielded ops a.tmps) = true then Oper.wp Try.prog o a (wr.alloc (.cells y.cells 50)) K Q else E := by
  have hw : Region.wanted o (yielded ops a.tmps) = true := by simp [Region.wanted, hgd]
  rw [if_pos hw]
  obtain ⟨i50, hi, hz0, hz1, hz2⟩ := info_parts info50
  refine wp_append_own _ s x 48 ho base 50 i50 _ 6 48 Try.underlying48 hi hz0 hz1 hz2 rfl (by decide) v n _ hs (hown.alloc _) ⟨wr.heap.size, 0, none⟩ 1 1 y.cells.toList hx (by simp [AccD.cells]) (fun j u hj => cell_alloc wr _ _ j u hj) (by simp [Value.oneCell', AccD.cells]) (by unfold maxLen; omega) (by omega) (by simp; omega) ?_
  intro v' w' ho' hg' hn'
  refine h v' w' ho' (grownBy_trans (World.grownBy_alloc wr _ _) hg') (fun B W hb hB => ?_)
  refine (hb.alloc (by omega) _).grown hg' (by simp; omega) (fun k hk => ?_)
  have := hown.lt k hk
  omega
end Go.Proofs.Ytfjddkjfkgdihaa
