/- The law HistoryTells, walked. -/
import Derived.Test.YtfjddkjfkgdihaaD2
import Derived.ChangeKeysEq
namespace Go.Proofs.Ytfjddkjfkgdihaa
open Go.RowKit Go.BigFrame
set_option linter.unusedVariables false

theorem neq71 (i k : Int) (w : World) : (binOp .neq 71 (.agg #[.int .i64 i, .int .i64 k]) (.agg #[.int .i64 i, .int .i64 k])).run Try.prog w = .ok (.bool false) w := by
  obtain ⟨i3, hi, -⟩ := info_parts info3
  have hc : Try.prog.cellsOf 3 = 1 := by kernel_rfl
  have hk : Try.prog.plainKey 3 = true := by kernel_rfl
  have hp : ∀ (xs : Array Value) (j : Nat) (v : Value) (w : World), xs[j]? = some v → (part 3 xs j).run Try.prog w = .ok v w := fun xs j v w h => run_part_plain w hk h
  have h0 := hp #[.int .i64 i, .int .i64 k] 0 _ w rfl
  have h1 := hp #[.int .i64 i, .int .i64 k] 1 _ w rfl
  have hr : List.range 2 = [0, 1] := rfl
  have he := fun a => run_equalIn_int (P := Try.prog) w 9998 3 .i64 .i64 a a Try.underlying3
  rw [run_neq_struct, run_equalIn_array w 9999 _ _ Try.underlying71 hi, hc, hr]
  simp [Op.eqItems, h0, h1, he]

theorem own_form2 {w : World} {base : Nat} {e : TypeId} {size : Nat} {v : Value} {n : Nat} {xs : List Value} (h : w.ownsRow base e size v n xs) :
    ∃ a cap, v = .slice a n cap ∧ (0 < n → ∃ g, a = some ⟨g, 0, none⟩ ∧ g < w.heap.size ∧ ∀ j, j < n * size → w.cell? ⟨g, j, none⟩ = xs[j]?) := by
  rcases own_slice h with ⟨rfl, a, cap, rfl⟩ | ⟨g, cap, rfl, -, -, -, hg, hc⟩
  · exact ⟨a, cap, rfl, fun h => absurd h (by omega)⟩
  · exact ⟨_, _, rfl, fun _ => ⟨g, rfl, hg, hc⟩⟩

/-- What a list begins with, it has there. -/
theorem idxTo_pre (p : CallD → Bool) (c : Nat → CallD) (n k : Nat) (h : k ≤ n) : ∃ r, idxTo p c n = idxTo p c k ++ r := by
  induction n with
  | zero => obtain rfl : k = 0 := by omega
            exact ⟨[], by simp⟩
  | succ n ih =>
    by_cases e : k = n + 1
    · subst e; exact ⟨[], by simp⟩
    · obtain ⟨r, hr⟩ := ih (by omega)
      exact ⟨_, by rw [idxTo, hr, List.append_assoc]⟩
theorem idxTo_at (p : CallD → Bool) (c : Nat → CallD) (n k : Nat) (h : k < n) (hp : p (c k) = true) : (idxTo p c n)[(idxTo p c k).length]? = some k := by
  obtain ⟨r, hr⟩ := idxTo_pre p c n (k + 1) h
  rw [hr, idxTo, if_pos hp]
  simp
theorem ovIn_pre (c : Nat → CallD) (i n k : Nat) (h : k ≤ n) : ∃ r, ovIn c i n = ovIn c i k ++ r := by
  induction n with
  | zero => obtain rfl : k = 0 := by omega
            exact ⟨[], by simp⟩
  | succ n ih =>
    by_cases e : k = n + 1
    · subst e; exact ⟨[], by simp⟩
    · obtain ⟨r, hr⟩ := ih (by omega)
      exact ⟨_, by rw [ovIn, hr, List.append_assoc]⟩
theorem ovTo_pre (c : Nat → CallD) (len n k : Nat) (h : k ≤ n) : ∃ r, ovTo c len n = ovTo c len k ++ r := by
  induction n with
  | zero => obtain rfl : k = 0 := by omega
            exact ⟨[], by simp⟩
  | succ n ih =>
    by_cases e : k = n + 1
    · subst e; exact ⟨[], by simp⟩
    · obtain ⟨r, hr⟩ := ih (by omega)
      exact ⟨_, by rw [ovTo, hr, List.append_assoc]⟩
theorem over_at (c : Nat → CallD) (len i k : Nat) (hi : i < k) (hk : k < len) (ho : overB c i k = true) : (ovTo c len len)[(ovTo c len i ++ ovIn c i k).length]? = some (i, k) := by
  obtain ⟨r, hr⟩ := ovTo_pre c len len (i + 1) (by omega)
  obtain ⟨s, hs⟩ := ovIn_pre c i len (k + 1) hk
  rw [hr, ovTo, hs, ovIn, if_pos ⟨hi, ho⟩]
  simp
theorem callsOf_at (l : List CallD) (k : Nat) (x : CallD) (h : l[k]? = some x) (j : Nat) (hj : j < 11) : (callsOf l)[k * 11 + j]? = x.cells[j]? := by
  induction l generalizing k with
  | nil => simp at h
  | cons q l ih =>
    have hq : q.cells.toList.length = 11 := rfl
    have e : callsOf (q :: l) = q.cells.toList ++ callsOf l := rfl
    cases k with
    | zero =>
      simp at h; subst h
      rw [e, List.getElem?_append_left (by omega)]
      simp
    | succ k =>
      simp at h
      rw [e, List.getElem?_append_right (by omega), hq, ← ih k h]
      congr 1
      omega
end Go.Proofs.Ytfjddkjfkgdihaa
