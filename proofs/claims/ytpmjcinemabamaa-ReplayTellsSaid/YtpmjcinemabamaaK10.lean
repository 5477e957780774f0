/- Layer 38: which words are named; whether each flush is fenced, by the document.
   A set of ints by a map that the call makes: stored into, deleted from, counted. No program here.
   Layer 38: whether each flush has a fence behind it, both ways.
   Layer 38: the two Sorted, walked.
   Layer 38: Sorted by a map.
   Layer 38: the accesses of each thread. No walk here.
   A region that draws, its last operation forced to be the last: walked without it. No program here.
   Layer 38: the closure of Split, walked.
   Layer 38: Split, walked. -/
import Derived.Test.YtpmjcinemabamaaK8
import Derived.WalkKit
import Derived.MapKept
import Derived.Lib.Hide
import Derived.Maps.OwnSet
import Derived.Test.YtpmjcinemabamaaK6
import Derived.Deep.RegionHeld3
import Derived.StillTail
namespace Go.Proofs.Ytpmjcinemabamaa
open Go.RowKit Go.BigFrame
set_option linter.unusedVariables false
set_option linter.unusedSimpArgs false

def hitB (x : Acc) (at_ : Int) : Bool := decide (1 ≤ x.ki) && decide (x.ki ≤ 3) && (x.pl == at_) && decide (0 ≤ at_)
def touchB (l : Nat → Acc) (at_ : Int) : Nat → Bool
  | 0 => false
  | k + 1 => touchB l at_ k || hitB (l k) at_
theorem AccsIn.pre {W : World} {a : Option Addr} {len n : Nat} {c : Nat → Acc} (h : AccsIn W a len c) (hn : n ≤ len) : AccsIn W a n c := fun i hi => h i (by omega)
theorem touchB_mono (l : Nat → Acc) (at_ : Int) (k n : Nat) (h : k ≤ n) (ht : touchB l at_ k = true) : touchB l at_ n = true := by
  induction n with
  | zero => rwa [Nat.le_zero.1 h] at ht
  | succ n ih =>
    by_cases e : k = n + 1
    · rwa [e] at ht
    · show (touchB l at_ n || hitB (l n) at_) = true
      rw [ih (by omega)]; rfl
set_option maxRecDepth 100000 in
set_option maxHeartbeats 1000000 in
theorem refTouched15 (a : Option Addr) (n cap : Nat) (at_ : Int) (l : Nat → Acc) (hn : n ≤ 1000000) (W : World) (hA : AccsIn W a n l) :
    Calls Try.prog 15 #[.slice a n cap, .int .i64 at_] W (Says (.bool (touchB l at_ n)) W) := by
  have HA := Lib.hid hA
  clear hA
  go_enter Try.func15, Try.ntmps15
  go_wp2_with fail
  go_loop [5] (fun i => ∃ k : Nat, k ≤ n ∧ i = .int .i64 k ∧ Hid (touchB l at_ k = false)) (fun i => n - (intOf i).toNat)
  case atStart => exact ⟨0, Nat.zero_le _, rfl, Lib.hid rfl⟩
  case round =>
    obtain ⟨k, hk, rfl, HT⟩ := hrel
    by_cases hlt : k < n
    · have e1 : decide ((k : Int) < (n : Int)) = true := bool_yes (by omega)
      have i0 : (0 : Int) ≤ (k : Int) := by omega
      have i1 : (k : Int) < (n : Int) := by omega
      obtain ⟨b, off, rfl, hbl, ⟨a0, a1, a2, a3, a4, a5⟩, -⟩ := HA.out k hlt
      have HS : Hid (touchB l at_ (k + 1) = hitB (l k) at_) := Lib.hid (by show (touchB l at_ k || hitB (l k) at_) = _; rw [HT.out]; rfl)
      have HF : Hid (hitB (l k) at_ = true → touchB l at_ n = true) := Lib.hid fun h => touchB_mono l at_ (k + 1) n (by omega) (by rw [HS.out]; exact h)
      obtain ⟨x, hx⟩ : ∃ x, x = l k := ⟨_, rfl⟩
      rw [← hx] at a0 a1 a2 a3 a4 a5 HS HF
      clear hx a1 a3 a4 a5
      by_cases h1 : 1 ≤ x.ki
      · have d1 : decide (1 ≤ x.ki) = true := bool_yes h1
        by_cases h2 : x.ki ≤ 3
        · have d2 : decide (x.ki ≤ 3) = true := bool_yes h2
          by_cases h3 : x.pl = at_
          · have d3 : (x.pl == at_) = true := by simp [h3]
            by_cases h4 : 0 ≤ at_
            · have d4 : decide (0 ≤ at_) = true := bool_yes h4
              have HT2 : Hid (touchB l at_ n = true) := Lib.hid (HF.out (by unfold hitB; rw [d1, d2, d3, d4]; rfl))
              clear h1 h2 h3 h4
              go_wp2_with fail
              go_ret
              exact ⟨by rw [HT2.out]; rfl, rfl⟩
            · have d4 : decide (0 ≤ at_) = false := bool_no h4
              have HN : Hid (touchB l at_ (k + 1) = false) := Lib.hid (by rw [HS.out]; unfold hitB; rw [d4]; simp)
              clear h1 h2 h3 h4
              go_wp2_with fail
              go_round
              case rel => exact ⟨k + 1, by omega, by go_num, HN⟩
              case measure => simp [intOf]; omega
          · have d3 : (x.pl == at_) = false := by simp [h3]
            have HN : Hid (touchB l at_ (k + 1) = false) := Lib.hid (by rw [HS.out]; unfold hitB; rw [d3]; simp)
            clear h1 h2 h3
            go_wp2_with fail
            go_round
            case rel => exact ⟨k + 1, by omega, by go_num, HN⟩
            case measure => simp [intOf]; omega
        · have d2 : decide (x.ki ≤ 3) = false := bool_no h2
          have HN : Hid (touchB l at_ (k + 1) = false) := Lib.hid (by rw [HS.out]; unfold hitB; rw [d2]; simp)
          clear h1 h2
          go_wp2_with fail
          go_round
          case rel => exact ⟨k + 1, by omega, by go_num, HN⟩
          case measure => simp [intOf]; omega
      · have d1 : decide (1 ≤ x.ki) = false := bool_no h1
        have HN : Hid (touchB l at_ (k + 1) = false) := Lib.hid (by rw [HS.out]; unfold hitB; rw [d1]; simp)
        clear h1
        go_wp2_with fail
        go_round
        case rel => exact ⟨k + 1, by omega, by go_num, HN⟩
        case measure => simp [intOf]; omega
    · obtain rfl : k = n := by omega
      have e1 : decide ((k : Int) < (k : Int)) = false := by simp
      go_wp2_with fail
      go_ret
      exact ⟨by rw [HT.out]; rfl, rfl⟩
/-- Does an access name a lasting word? -/
def nameB (x : Acc) : Bool := (x.ki == 1 || x.ki == 2 || x.ki == 3) && decide (0 ≤ x.pl)
end Go.Proofs.Ytpmjcinemabamaa

namespace Go.Proofs.Ytpmjcinemabamaa
open Go.RowKit
set_option linter.unusedSectionVars false

def entL (l : List (Int × Value × Nat)) : List MapEntry := l.map fun p => { key := .int .i64 p.1, val := p.2.1, born := p.2.2 }
/-- The place and the value of a key. -/
def findL (a : Int) : List (Int × Value × Nat) → Nat → Option (Nat × Value)
  | [], _ => none
  | p :: l, i => if a = p.1 then some (i, p.2.1) else findL a l (i + 1)
def lookL (a : Int) : List (Int × Value × Nat) → Option Value
  | [] => none
  | p :: l => if a = p.1 then some p.2.1 else lookL a l

theorem findL_none (a : Int) : ∀ (l : List (Int × Value × Nat)) (i : Nat), findL a l i = none → lookL a l = none ∧ ∀ p ∈ l, p.1 ≠ a
  | [], _, _ => ⟨rfl, fun _ h => by cases h⟩
  | p :: l, i, h => by
    unfold findL at h
    split at h
    · cases h
    · rename_i hne
      obtain ⟨h1, h2⟩ := findL_none a l (i + 1) h
      refine ⟨by rw [lookL, if_neg hne, h1], fun q hq => ?_⟩
      rcases List.mem_cons.1 hq with rfl | hq
      · exact fun e => hne e.symm
      · exact h2 q hq
theorem findL_some (a : Int) : ∀ (l : List (Int × Value × Nat)) (i j : Nat) (v : Value), findL a l i = some (j, v) → lookL a l = some v ∧ ∃ k b, j = i + k ∧ l[k]? = some (a, v, b) ∧ (∀ k', k' < k → ∀ p, l[k']? = some p → p.1 ≠ a)
  | [], _, _, _, h => by cases h
  | p :: l, i, j, v, h => by
    unfold findL at h
    split at h
    · rename_i he
      cases h
      exact ⟨by rw [lookL, if_pos he], 0, p.2.2, rfl, by simp [he], fun k' hk => absurd hk (Nat.not_lt_zero _)⟩
    · rename_i hne
      obtain ⟨h1, k, b, h2, h3, h4⟩ := findL_some a l (i + 1) j v h
      refine ⟨by rw [lookL, if_neg hne, h1], k + 1, b, by omega, by simpa using h3, fun k' hk q hq => ?_⟩
      cases k' with
      | zero => simp at hq; subst hq; exact fun e => hne e.symm
      | succ k' => exact h4 k' (by omega) q (by simpa using hq)

theorem findNow_entL (a : Int) : ∀ (l : List (Int × Value × Nat)) (i : Nat), Instr.findNow (.int .i64) (.int .i64 a) (entL l) i = some (findL a l i)
  | [], _ => rfl
  | p :: l, i => by
    by_cases h : a = p.1
    · simp [entL, Instr.findNow, Instr.sameNow, findL, h]
    · have := findNow_entL a l (i + 1)
      simp only [entL] at this
      have hb : (a == p.1) = false := by simp [h]
      simp [entL, Instr.findNow, Instr.sameNow, findL, h, hb, this]


/-- Block b is a map whose keys are the ints of f. -/
def SMap (w : World) (b : Nat) (f : Int → Bool) : Prop :=
  ∃ l clock, w.heap[b]? = some (.map (entL l).toArray clock) ∧ (l.map (·.1)).Nodup ∧ ∀ a, a ∈ l.map (·.1) ↔ f a = true
theorem SMap.lt {w : World} {b : Nat} {f : Int → Bool} (h : SMap w b f) : b < w.heap.size := by
  obtain ⟨l, c, hb, _⟩ := h; exact (Array.getElem?_eq_some_iff.1 hb).1
theorem SMap.of_block {w w' : World} {b : Nat} {f : Int → Bool} (h : SMap w b f) (hb : w'.heap[b]? = w.heap[b]?) : SMap w' b f := by
  obtain ⟨l, c, hc, hf⟩ := h; exact ⟨l, c, by rw [hb]; exact hc, hf⟩
theorem SMap.made (w : World) : SMap (w.alloc (.map #[] 0)) w.heap.size (fun _ => false) := ⟨[], 0, heap_alloc_new w _, by simp, fun _ => by simp⟩
theorem map_erase {α β : Type} (g : α → β) : ∀ (l : List α) (j : Nat), (l.eraseIdx j).map g = (l.map g).eraseIdx j
  | [], _ => rfl
  | _ :: _, 0 => rfl
  | p :: l, j + 1 => by simp [map_erase g l j]
theorem findL_key (a : Int) (l : List (Int × Value × Nat)) (j : Nat) (v : Value) (h : findL a l 0 = some (j, v)) : ∃ bn, l[j]? = some (a, v, bn) := by
  obtain ⟨_, k, bn, h2, h3, _⟩ := findL_some a l 0 j v h
  obtain rfl : j = k := by omega
  exact ⟨bn, h3⟩

section
variable {P : Program} {t k e : TypeId} (ht : P.underlying t = some (.map k e)) (hk : P.underlying k = some (.int .i64))
include ht hk

theorem SMap.update {w : World} {b : Nat} {f : Int → Bool} (h : SMap w b f) (a : Int) (v : Value) :
    ∃ w', (Instr.mapUpdate t (.map (some b)) (.int .i64 a) v).run P w = .ok () w' ∧ SMap w' b (fun x => decide (x = a) || f x) ∧ w.grownBy w' (some b) := by
  obtain ⟨l, c, hb, hn, hf⟩ := h
  have hlt : b < w.heap.size := (Array.getElem?_eq_some_iff.1 hb).1
  have hc : ∀ e, (Instr.checkKey e 10000 k (.int .i64 a)).run P w = .ok () w := fun e => MapKept.run_checkKey (k := .int .i64 a) hk (by simp [MapKept.IsKey]) e 9999
  have hfk := MapKept.run_findKey (w := w) (k := .int .i64 a) hk (findNow_entL a l 0)
  have hgrow : ∀ o : Obj, w.grownBy { w with heap := w.heap.setIfInBounds b o } (some b) := fun o =>
    ⟨rfl, rfl, rfl, by simp, fun i _ hi => by
      have : ¬ b = i := fun e => hi (by rw [e])
      simp [this]⟩
  cases hfl : findL a l 0 with
  | none =>
    rw [hfl] at hfk
    obtain ⟨h1, h2⟩ := findL_none a l 0 hfl
    refine ⟨{ w with heap := w.heap.setIfInBounds b (.map ((entL l).toArray.push { key := .int .i64 a, val := v, born := c }) (c + 1)) }, ?_, ⟨l ++ [(a, v, c)], c + 1, ?_, ?_, fun x => ?_⟩, hgrow _⟩
    · simp [Instr.mapUpdate, run_underlying ht, MapKept.run_getObj_map hb, hc, hfk, MapKept.run_setObj_map _ hb, Result.andThen]
    · simp [hlt, entL]
    · rw [List.map_append, List.nodup_append]
      refine ⟨hn, by simp, fun x hx y hy => ?_⟩
      simp only [List.map_cons, List.map_nil, List.mem_singleton] at hy
      subst hy
      obtain ⟨p, hp, rfl⟩ := List.mem_map.1 hx
      exact h2 p hp
    · rw [List.map_append, List.mem_append, hf x]
      simp [Bool.or_eq_true, or_comm]
  | some p =>
    obtain ⟨j, u⟩ := p
    rw [hfl] at hfk
    obtain ⟨bn, h3⟩ := findL_key a l j u hfl
    have hj : (entL l)[j]? = some { key := .int .i64 a, val := u, born := bn } := by simp [entL, h3]
    have hks : (l.modify j fun p => (a, v, p.2.2)).map (·.1) = l.map (·.1) := by
      apply List.ext_getElem?
      intro i
      simp only [List.getElem?_modify, List.getElem?_map]
      by_cases hij : j = i
      · subst hij; simp [h3]
      · simp [hij]
    refine ⟨{ w with heap := w.heap.setIfInBounds b (.map ((entL l).toArray.modify j fun e => { e with key := .int .i64 a, val := v }) c) }, ?_, ⟨l.modify j fun p => (a, v, p.2.2), c, ?_, by rw [hks]; exact hn, fun x => ?_⟩, hgrow _⟩
    · have hst : (Instr.keyThatStays (.int .i64 a) (.int .i64 a)).run P w = .ok (.int .i64 a) w := by simp [Instr.keyThatStays, Instr.sameBits]
      simp [Instr.mapUpdate, run_underlying ht, MapKept.run_getObj_map hb, hc, hfk, MapKept.run_setObj_map _ hb, Result.andThen, hj, hst]
    · have e1 : (entL l).toArray.modify j (fun e => { e with key := .int .i64 a, val := v }) = (entL (l.modify j fun p => (a, v, p.2.2))).toArray := by
        apply Array.ext'
        simp only [Array.toList_modify, entL]
        apply List.ext_getElem?
        intro i
        simp only [List.getElem?_modify, List.getElem?_map]
        by_cases hij : j = i
        · subst hij; simp [h3]
        · simp [hij]
      rw [e1]; simp [hlt]
    · rw [hks, hf x]
      by_cases hx : x = a
      · subst hx
        have : f x = true := (hf x).1 (List.mem_map.2 ⟨_, List.mem_of_getElem? h3, rfl⟩)
        simp [this]
      · simp [hx]

theorem SMap.drop {w : World} {b : Nat} {f : Int → Bool} (h : SMap w b f) (a : Int) (ty : TypeId) :
    ∃ w', (Builtin.delete_ #[t, k] ty #[.map (some b), .int .i64 a]).run P w = .ok (.tuple #[]) w' ∧ SMap w' b (fun x => !decide (x = a) && f x) ∧ w.grownBy w' (some b) := by
  obtain ⟨l, c, hb, hn, hf⟩ := h
  have hlt : b < w.heap.size := (Array.getElem?_eq_some_iff.1 hb).1
  have hc : ∀ e, (Instr.checkKey e 10000 k (.int .i64 a)).run P w = .ok () w := fun e => MapKept.run_checkKey (k := .int .i64 a) hk (by simp [MapKept.IsKey]) e 9999
  have hfk := MapKept.run_findKey (w := w) (k := .int .i64 a) hk (findNow_entL a l 0)
  have hgrow : ∀ o : Obj, w.grownBy { w with heap := w.heap.setIfInBounds b o } (some b) := fun o =>
    ⟨rfl, rfl, rfl, by simp, fun i _ hi => by
      have : ¬ b = i := fun e => hi (by rw [e])
      simp [this]⟩
  cases hfl : findL a l 0 with
  | none =>
    rw [hfl] at hfk
    obtain ⟨h1, h2⟩ := findL_none a l 0 hfl
    refine ⟨{ w with heap := w.heap.setIfInBounds b (.map (entL l).toArray c) }, ?_, ⟨l, c, by simp [hlt], hn, fun x => ?_⟩, hgrow _⟩
    · simp [Builtin.delete_, run_underlying ht, MapKept.run_getObj_map hb, hc, hfk, MapKept.run_setObj_map _ hb, Result.andThen]
    · rw [hf x]
      by_cases hx : x = a
      · subst hx
        have : f x ≠ true := fun hh => by
          obtain ⟨p, hp, e⟩ := List.mem_map.1 ((hf x).2 hh)
          exact h2 p hp e
        simp [this]
      · simp [hx]
  | some p =>
    obtain ⟨j, u⟩ := p
    rw [hfl] at hfk
    obtain ⟨bn, h3⟩ := findL_key a l j u hfl
    have hjl : j < l.length := (List.getElem?_eq_some_iff.1 h3).1
    have e1 : (entL l).toArray.eraseIdxIfInBounds j = (entL (l.eraseIdx j)).toArray := by
      apply Array.ext'
      unfold Array.eraseIdxIfInBounds
      rw [dif_pos (by simpa [entL] using hjl)]
      simp [entL, map_erase]
    have hks : (l.eraseIdx j).map (·.1) = (l.map (·.1)).eraseIdx j := map_erase _ _ _
    have hkj : (l.map (·.1))[j]? = some a := by simp [h3]
    refine ⟨{ w with heap := w.heap.setIfInBounds b (.map ((entL l).toArray.eraseIdxIfInBounds j) c) }, ?_, ⟨l.eraseIdx j, c, by rw [e1]; simp [hlt], by rw [hks]; exact (List.eraseIdx_sublist _ _).nodup hn, fun x => ?_⟩, hgrow _⟩
    · simp [Builtin.delete_, run_underlying ht, MapKept.run_getObj_map hb, hc, hfk, MapKept.run_setObj_map _ hb, Result.andThen]
    · have hje : (l.map (·.1)).idxOf a = j := by
        have hlj : j < (l.map (·.1)).length := by simpa using hjl
        have : (l.map (·.1))[j] = a := by rw [List.getElem?_eq_getElem hlj] at hkj; exact Option.some.inj hkj
        rw [← this]
        exact List.Nodup.idxOf_getElem hn j hlj
      have her : (l.map (·.1)).eraseIdx j = (l.map (·.1)).erase a := by rw [List.erase_eq_eraseIdx_of_idxOf hje]
      rw [hks, her, hn.mem_erase_iff, hf x]
      by_cases hx : x = a <;> simp [hx]

theorem SMap.len {w : World} {b : Nat} {f : Int → Bool} (h : SMap w b f) (ty : TypeId) :
    ∃ n : Nat, (Builtin.len_ #[t] ty #[.map (some b)]).run P w = .ok (.int .i64 n) w ∧ (n = 0 ↔ ∀ x, f x = false) := by
  obtain ⟨l, c, hb, hn, hf⟩ := h
  refine ⟨l.length, ?_, ?_⟩
  · simp [Builtin.len_, run_underlying ht, MapKept.run_getObj_map hb, goInt, Result.andThen, entL]
  · constructor
    · intro h0 x
      have : l = [] := List.length_eq_zero_iff.1 h0
      subst this
      cases hx : f x with
      | false => rfl
      | true => have := (hf x).2 hx; simp at this
    · intro h0
      cases l with
      | nil => rfl
      | cons p l => have := (hf p.1).1 (by simp); rw [h0] at this; cases this

/-- 'm[k] = v' at the operation. -/
theorem wpList_update_sm (w : World) {ops : Array Oper} {rest : List Oper} {o : Oper} {a : Act} {Q : Exit → Act → World → Prop}
    (hg : o.guard = none) (m x v : Operand) (hop : o.op = Op.mapUpdate t m x v) (b : Nat) (f : Int → Bool)
    (hm : a.eval m = .map (some b)) (h : SMap w b f) (key : Int) (val : Value) (hx : a.eval x = .int .i64 key) (hv : a.eval v = val)
    (hK : ∀ w', SMap w' b (fun y => decide (y = key) || f y) → w.grownBy w' (some b) → wpList P ops Q rest (a.put o.dst undef) w') :
    wpList P ops Q (o :: rest) a w := by
  refine wpList_plain hg fun K' hK' => ?_
  obtain ⟨w', hrun, r1, r2⟩ := h.update ht hk key val
  unfold Oper.wp
  simp [execOp, hop, hm, hx, hv, hrun, Result.andThen]
  exact hK' _ _ (hK w' r1 r2)
/-- 'delete(m, k)' at the operation. -/
theorem wpList_drop_sm (w : World) {ops : Array Oper} {rest : List Oper} {o : Oper} {a : Act} {Q : Exit → Act → World → Prop}
    (hg : o.guard = none) (m x : Operand) (hop : o.op = Op.call { callee := Callee.builtin Builtin.delete, args := #[m, x], argTypes := #[t, k] }) (b : Nat) (f : Int → Bool)
    (hm : a.eval m = .map (some b)) (h : SMap w b f) (key : Int) (hx : a.eval x = .int .i64 key)
    (hK : ∀ w', SMap w' b (fun y => !decide (y = key) && f y) → w.grownBy w' (some b) → wpList P ops Q rest (a.put o.dst (.tuple #[])) w') :
    wpList P ops Q (o :: rest) a w := by
  refine wpList_plain hg fun K' hK' => ?_
  obtain ⟨w', hrun, r1, r2⟩ := h.drop ht hk key o.type
  unfold Oper.wp
  simp [execOp, hop, resolve, invoke, builtin, hm, hx, hrun, Result.andThen]
  exact hK' _ _ (hK w' r1 r2)
/-- 'len(m)' at the operation. -/
theorem wpList_len_sm (w : World) {ops : Array Oper} {rest : List Oper} {o : Oper} {a : Act} {Q : Exit → Act → World → Prop}
    (hg : o.guard = none) (m : Operand) (hop : o.op = Op.call { callee := Callee.builtin Builtin.len, args := #[m], argTypes := #[t] }) (b : Nat) (f : Int → Bool)
    (hm : a.eval m = .map (some b)) (h : SMap w b f)
    (hK : ∀ n : Nat, (n = 0 ↔ ∀ x, f x = false) → wpList P ops Q rest (a.put o.dst (.int .i64 n)) w) :
    wpList P ops Q (o :: rest) a w := by
  refine wpList_plain hg fun K' hK' => ?_
  obtain ⟨n, hrun, r1⟩ := h.len ht hk o.type
  unfold Oper.wp
  simp [execOp, hop, resolve, invoke, builtin, hm, hrun, Result.andThen]
  exact hK' _ _ (hK n r1)
end
end Go.Proofs.Ytpmjcinemabamaa

namespace Go.Proofs.Ytpmjcinemabamaa
open Go.RowKit Go.BigFrame
set_option linter.unusedVariables false
set_option linter.unusedSimpArgs false

def fenceB (l : Nat → Acc) (i : Nat) : Nat → Bool
  | 0 => (l i).ki != 4
  | d + 1 => fenceB l i d || ((l (i + 1 + d)).ki == 5 && (l (i + 1 + d)).th == (l i).th)
def sortB (l : Nat → Acc) (n : Nat) : Nat → Bool
  | 0 => true
  | i + 1 => sortB l n i && fenceB l i (n - (i + 1))
def openF (l : Nat → Acc) : Nat → Int → Bool
  | 0 => fun _ => false
  | k + 1 => if (l k).ki = 4 then (fun y => decide (y = (l k).th) || openF l k y) else if (l k).ki = 5 then (fun y => !decide (y = (l k).th) && openF l k y) else openF l k
theorem fenceB_iff (l : Nat → Acc) (i d : Nat) : fenceB l i d = true ↔ ((l i).ki = 4 → ∃ j, i < j ∧ j < i + 1 + d ∧ (l j).ki = 5 ∧ (l j).th = (l i).th) := by
  induction d with
  | zero =>
    show ((l i).ki != 4) = true ↔ _
    constructor
    · intro h h4; simp [h4] at h
    · intro h
      by_cases h4 : (l i).ki = 4
      · obtain ⟨j, a, b, _⟩ := h h4; omega
      · simp [h4]
  | succ d ih =>
    show (fenceB l i d || ((l (i + 1 + d)).ki == 5 && (l (i + 1 + d)).th == (l i).th)) = true ↔ _
    rw [Bool.or_eq_true, ih]
    simp only [Bool.and_eq_true, beq_iff_eq]
    constructor
    · rintro (h | ⟨h5, ht⟩) h4
      · obtain ⟨j, a, b, c⟩ := h h4; exact ⟨j, a, by omega, c⟩
      · exact ⟨i + 1 + d, by omega, by omega, h5, ht⟩
    · intro h
      by_cases h4 : (l i).ki = 4
      · obtain ⟨j, a, b, c, e⟩ := h h4
        by_cases hj : j = i + 1 + d
        · subst hj; exact Or.inr ⟨c, e⟩
        · exact Or.inl fun _ => ⟨j, a, by omega, c, e⟩
      · exact Or.inl fun h => absurd h h4
theorem sortB_iff (l : Nat → Acc) (n k : Nat) (hk : k ≤ n) : sortB l n k = true ↔ ∀ i, i < k → (l i).ki = 4 → ∃ j, i < j ∧ j < n ∧ (l j).ki = 5 ∧ (l j).th = (l i).th := by
  induction k with
  | zero => exact ⟨fun _ i h => absurd h (by omega), fun _ => rfl⟩
  | succ k ih =>
    show (sortB l n k && fenceB l k (n - (k + 1))) = true ↔ _
    rw [Bool.and_eq_true, ih (by omega), fenceB_iff, show k + 1 + (n - (k + 1)) = n from by omega]
    constructor
    · rintro ⟨h1, h2⟩ i hi
      by_cases h : i = k
      · subst h; exact h2
      · exact h1 i (by omega)
    · intro h; exact ⟨fun i hi => h i (by omega), h k (by omega)⟩
theorem sortB_false (l : Nat → Acc) (n k m : Nat) (h : k ≤ m) (hf : sortB l n k = false) : sortB l n m = false := by
  induction m with
  | zero => rwa [Nat.le_zero.1 h] at hf
  | succ m ih =>
    by_cases e : k = m + 1
    · rwa [e] at hf
    · show (sortB l n m && _) = false
      rw [ih (by omega)]; rfl
theorem openF_iff (l : Nat → Acc) (k : Nat) (y : Int) : openF l k y = true ↔ ∃ i, i < k ∧ (l i).ki = 4 ∧ (l i).th = y ∧ ∀ j, i < j → j < k → ¬ ((l j).ki = 5 ∧ (l j).th = y) := by
  induction k with
  | zero => exact ⟨fun h => (by cases h), fun ⟨i, h, _⟩ => absurd h (by omega)⟩
  | succ k ih =>
    have keep : (¬ ((l k).ki = 4 ∧ (l k).th = y)) → (¬ ((l k).ki = 5 ∧ (l k).th = y)) → ((∃ i, i < k ∧ (l i).ki = 4 ∧ (l i).th = y ∧ ∀ j, i < j → j < k → ¬ ((l j).ki = 5 ∧ (l j).th = y)) ↔ ∃ i, i < k + 1 ∧ (l i).ki = 4 ∧ (l i).th = y ∧ ∀ j, i < j → j < k + 1 → ¬ ((l j).ki = 5 ∧ (l j).th = y)) := by
      intro n4 n5
      constructor
      · rintro ⟨i, a, b, c, d⟩
        refine ⟨i, by omega, b, c, fun j hj hj' => ?_⟩
        by_cases e : j = k
        · subst e; exact n5
        · exact d j hj (by omega)
      · rintro ⟨i, a, b, c, d⟩
        have : i ≠ k := fun e => n4 (by subst e; exact ⟨b, c⟩)
        exact ⟨i, by omega, b, c, fun j hj hj' => d j hj (by omega)⟩
    unfold openF
    by_cases h4 : (l k).ki = 4
    · rw [if_pos h4]
      simp only [Bool.or_eq_true, decide_eq_true_eq]
      by_cases hy : y = (l k).th
      · exact ⟨fun _ => ⟨k, by omega, h4, hy.symm, fun j a b => by omega⟩, fun _ => Or.inl hy⟩
      · rw [← keep (fun h => hy h.2.symm) (fun h => by omega), ← ih]
        simp [hy]
    · rw [if_neg h4]
      by_cases h5 : (l k).ki = 5
      · rw [if_pos h5]
        simp only [Bool.and_eq_true, Bool.not_eq_true', decide_eq_false_iff_not]
        by_cases hy : y = (l k).th
        · refine ⟨fun h => absurd hy h.1, ?_⟩
          rintro ⟨i, a, b, c, d⟩
          have hik : i ≠ k := fun e => by subst e; omega
          exact absurd ⟨h5, hy.symm⟩ (d k (by omega) (by omega))
        · rw [← keep (fun h => h4 h.1) (fun h => hy h.2.symm), ← ih]
          simp [hy]
      · rw [if_neg h5, ← keep (fun h => h4 h.1) (fun h => h5 h.1)]
        exact ih
theorem sorted_law (l : Nat → Acc) (n : Nat) : sortB l n n = true ↔ ∀ y, openF l n y = false := by
  rw [sortB_iff l n n (Nat.le_refl _)]
  constructor
  · intro h y
    cases ho : openF l n y with
    | false => rfl
    | true =>
      obtain ⟨i, a, b, c, d⟩ := (openF_iff l n y).1 ho
      obtain ⟨j, e, f, g, hh⟩ := h i a b
      exact absurd ⟨g, hh.trans c⟩ (d j e f)
  · intro h i hi h4
    have := h (l i).th
    have hn : ¬ openF l n (l i).th = true := by rw [this]; simp
    rw [openF_iff] at hn
    refine Classical.byContradiction fun hc => hn ⟨i, hi, h4, rfl, fun j a b hh => hc ⟨j, a, b, hh.1, hh.2⟩⟩
set_option maxRecDepth 100000 in
theorem named31 (x : Acc) (W : World) : Calls Try.prog 31 #[.agg x.cells] W (Gives (.bool (nameB x)) W) := by
  obtain ⟨r, hr⟩ : ∃ r, r = nameB x := ⟨_, rfl⟩
  have HR := Lib.hid hr
  rw [← hr]
  clear hr
  unfold nameB at HR
  simp only [Acc.cells]
  by_cases h1 : x.ki = 1
  · have e1 : (x.ki == 1) = true := by simp [h1]
    rw [e1] at HR
    clear h1
    go_enter Try.func31, Try.ntmps31
    go_wp2_with fail
    go_ret
    exact ⟨by rw [HR.out]; simp, (Below.refl _ _).alloc (Nat.le_refl _) _⟩
  · have e1 : (x.ki == 1) = false := by simp [h1]
    by_cases h2 : x.ki = 2
    · have e2 : (x.ki == 2) = true := by simp [h2]
      rw [e1, e2] at HR
      clear h1 h2
      go_enter Try.func31, Try.ntmps31
      go_wp2_with fail
      go_ret
      exact ⟨by rw [HR.out]; simp, (Below.refl _ _).alloc (Nat.le_refl _) _⟩
    · have e2 : (x.ki == 2) = false := by simp [h2]
      rw [e1, e2] at HR
      clear h1 h2
      go_enter Try.func31, Try.ntmps31
      by_cases h3 : x.ki = 3
      · have e3 : (x.ki == 3) = true := by simp [h3]
        rw [e3] at HR
        clear h3
        go_wp2_with fail
        go_ret
        exact ⟨by rw [HR.out]; simp, (Below.refl _ _).alloc (Nat.le_refl _) _⟩
      · have e3 : (x.ki == 3) = false := by simp [h3]
        rw [e3] at HR
        clear h3
        go_wp2_with fail
        go_ret
        exact ⟨by rw [HR.out]; simp, (Below.refl _ _).alloc (Nat.le_refl _) _⟩
end Go.Proofs.Ytpmjcinemabamaa

namespace Go.Proofs.Ytpmjcinemabamaa
open Go.RowKit Go.BigFrame
set_option linter.unusedVariables false
set_option linter.unusedSimpArgs false

theorem below_drewN {B : Nat} {a w : World} (h : Below B a w) (n : Nat) : Below B a (w.drewN n) := ⟨h.os, h.tape, h.output, h.size, h.block⟩
set_option maxRecDepth 100000 in
set_option maxHeartbeats 4000000 in
theorem refSorted17 (a : Option Addr) (n cap : Nat) (hn : n ≤ 1000000) (l : Nat → Acc) (W : World) (hA : AccsIn W a n l) :
    Calls Try.prog 17 #[.slice a n cap] W (Gives (.bool (sortB l n n)) W) := by
  have HA := Lib.hid hA
  clear hA
  go_enter Try.func17, Try.ntmps17
  go_wp2_with fail
  go_loopw [3] (fun i wr => ∃ k : Nat, k ≤ n ∧ i = .int .i64 k ∧ Hid (sortB l n k = true) ∧ Hid (Below W.heap.size W wr)) (fun i _ => n - (intOf i).toNat)
  case atStart => exact ⟨0, Nat.zero_le _, rfl, Lib.hid rfl, Lib.hid (Below.refl _ _)⟩
  case round =>
    obtain ⟨k, hk, rfl, HT, HB⟩ := hrel
    by_cases hlt : k < n
    · have e1 : decide ((k : Int) < (n : Int)) = true := bool_yes (by omega)
      have i0 : (0 : Int) ≤ (k : Int) := by omega
      have i1 : (k : Int) < (n : Int) := by omega
      obtain ⟨b, off, rfl, hbl, ⟨a0, a1, a2, a3, a4, a5⟩, -⟩ := (HA.out.below HB.out) k hlt
      clear a2 a3 a4 a5
      have HS : Hid (sortB l n (k + 1) = fenceB l k (n - (k + 1))) := Lib.hid (by show (sortB l n k && _) = _; rw [HT.out]; rfl)
      have HF : Hid (fenceB l k (n - (k + 1)) = false → sortB l n n = false) := Lib.hid fun h => sortB_false l n (k + 1) n (by omega) (by rw [HS.out]; exact h)
      have HF0 : Hid (((l k).ki != 4) = fenceB l k 0) := Lib.hid rfl
      have HFS : Hid (∀ d, fenceB l k (d + 1) = (fenceB l k d || ((l (k + 1 + d)).ki == 5 && (l (k + 1 + d)).th == (l k).th))) := Lib.hid fun _ => rfl
      obtain ⟨x, hx⟩ : ∃ x, x = l k := ⟨_, rfl⟩
      rw [← hx] at a0 a1 HF0 HFS
      obtain ⟨f0, hf0⟩ : ∃ f0, f0 = (x.ki != 4) := ⟨_, rfl⟩
      rw [← hf0] at HF0
      have q0 : (!decide (x.ki = 4)) = f0 := by rw [hf0]; by_cases h : x.ki = 4 <;> simp [h]
      have HX := Lib.hid hx
      clear hx
      go_wp2_with fail
      clear a0 a1
      go_loopw [4, 5] (fun fv j wr => ∃ (d jn : Nat) (f : Bool), jn = k + 1 + d ∧ jn ≤ n ∧ fv = .bool f ∧ j = .int .i64 jn ∧ Hid (f = fenceB l k d) ∧ Hid (Below W.heap.size W wr)) (fun _ j _ => n - (intOf j).toNat)
      case atStart => exact ⟨0, k + 1, _, rfl, by omega, rfl, by congr 1, Lib.hid (by rw [← HF0.out, hf0]), HB⟩
      case round =>
        obtain ⟨d, jn, f, hjn, hd, rfl, rfl, HFD, HB2⟩ := hrel
        by_cases hlt2 : jn < n
        · have e2 : decide ((jn : Int) < (n : Int)) = true := bool_yes (by omega)
          have j0 : (0 : Int) ≤ (jn : Int) := by omega
          have j1 : (jn : Int) < (n : Int) := by omega
          have HN : Hid (fenceB l k (d + 1) = (f || ((l jn).ki == 5 && (l jn).th == x.th))) := Lib.hid (by rw [HFS.out, ← HFD.out, hjn])
          have HJ : Hid (jn = k + 1 + d ∧ jn < n) := Lib.hid ⟨hjn, hlt2⟩
          obtain ⟨b', off', hoff, -, ⟨c0, c1, -, -, -, -⟩, -⟩ := (HA.out.below HB2.out) jn (by omega)
          obtain ⟨b'', off'', hoff', -, ⟨a0, a1, -, -, -, -⟩, -⟩ := (HA.out.below HB2.out) k (by omega)
          cases hoff
          cases hoff'
          rw [← HX.out] at a0 a1
          clear hjn hd hlt2
          cases f with
          | true =>
            go_wp2_with fail
            go_quiet (fail)
            have HB3 := Lib.hid (below_drewN HB2.out nq)
            go_wp2_with fail
            go_roundw
            case rel => exact ⟨d + 1, jn + 1, true, by have := HJ.out; omega, by have := HJ.out; omega, rfl, by go_num, Lib.hid (by rw [HN.out]; rfl), HB3⟩
            case measure => have := HJ.out; simp [intOf]; omega
          | false =>
            obtain ⟨y, hy⟩ : ∃ y, y = l jn := ⟨_, rfl⟩
            rw [← hy] at c0 c1 HN
            clear hy
            by_cases h5 : y.ki = 5
            · have q5 : (y.ki == 5) = true := by simp [h5]
              rw [q5] at HN
              clear h5
              obtain ⟨g, hg⟩ : ∃ g, g = (y.th == x.th) := ⟨_, rfl⟩
              have HG := Lib.hid hg
              rw [← hg] at HN
              clear hg
              go_wp2_with fail
              go_quiet (fail)
              have HB3 := Lib.hid (below_drewN HB2.out nq)
              go_wp2_with fail
              go_roundw
              case rel => exact ⟨d + 1, jn + 1, g, by have := HJ.out; omega, by have := HJ.out; omega, by rw [HG.out], by go_num, Lib.hid (by rw [HN.out]; rfl), HB3⟩
              case measure => have := HJ.out; simp [intOf]; omega
            · have q5 : (y.ki == 5) = false := by simp [h5]
              rw [q5] at HN
              clear h5
              go_wp2_with fail
              go_quiet (fail)
              have HB3 := Lib.hid (below_drewN HB2.out nq)
              go_wp2_with fail
              go_roundw
              case rel => exact ⟨d + 1, jn + 1, false, by have := HJ.out; omega, by have := HJ.out; omega, rfl, by go_num, Lib.hid (by rw [HN.out]; rfl), HB3⟩
              case measure => have := HJ.out; simp [intOf]; omega
        · have HFE : Hid (f = fenceB l k (n - (k + 1))) := Lib.hid (by rw [HFD.out]; congr 1; omega)
          have hjj : n = jn := by omega
          clear HFD hd hlt2 hjn
          subst hjj
          cases f with
          | true =>
            go_wp2_with fail
            go_roundw
            case rel => exact ⟨k + 1, by omega, by go_num, Lib.hid (by rw [HS.out, ← HFE.out]), HB2⟩
            case measure => simp [intOf]; omega
          | false =>
            have HZ : Hid (sortB l n n = false) := Lib.hid (HF.out HFE.out.symm)
            go_wp2_with fail
            go_ret
            exact ⟨by rw [HZ.out]; rfl, HB2.out⟩
    · obtain rfl : k = n := by omega
      have e1 : decide ((k : Int) < (k : Int)) = false := by simp
      go_wp2_with fail
      go_ret
      exact ⟨by rw [HT.out]; rfl, HB.out⟩
end Go.Proofs.Ytpmjcinemabamaa

namespace Go.Proofs.Ytpmjcinemabamaa
open Go.RowKit Go.BigFrame
set_option linter.unusedVariables false
set_option linter.unusedSimpArgs false

set_option maxRecDepth 100000 in
set_option maxHeartbeats 4000000 in
theorem sorted16 (a : Option Addr) (n cap : Nat) (hn : n ≤ 1000000) (l : Nat → Acc) (W : World) (hA : AccsIn W a n l) :
    Calls Try.prog 16 #[.slice a n cap] W (Gives (.bool (sortB l n n)) W) := by
  have hmm := @run_makeMap Try.prog
  have HA := Lib.hid hA
  clear hA
  have HLAW := Lib.hid (sorted_law l n)
  obtain ⟨r, hr⟩ : ∃ r, r = sortB l n n := ⟨_, rfl⟩
  rw [← hr] at HLAW ⊢
  clear hr
  have HM0 := Lib.hid (SMap.made W)
  have HB0 := Lib.hid ((Below.refl W.heap.size W).alloc (Nat.le_refl _) (.map #[] 0))
  obtain ⟨B, hB⟩ : ∃ B, B = W.heap.size := ⟨_, rfl⟩
  rw [← hB] at HM0 HB0
  have HB := Lib.hid hB; clear hB
  go_enter Try.func16, Try.ntmps16
  go_wp2_with fail
  rw [← HB.out]
  go_loopw [9] (fun i wr => ∃ k : Nat, k ≤ n ∧ i = .int .i64 k ∧ Hid (SMap wr B (openF l k)) ∧ Hid (Below B W wr)) (fun i _ => n - (intOf i).toNat)
  case atStart => exact ⟨0, Nat.zero_le _, rfl, HM0, HB0⟩
  case round =>
    obtain ⟨k, hk, rfl, HM, HBE⟩ := hrel
    by_cases hlt : k < n
    · have e1 : decide ((k : Int) < (n : Int)) = true := bool_yes (by omega)
      have i0 : (0 : Int) ≤ (k : Int) := by omega
      have i1 : (k : Int) < (n : Int) := by omega
      have hsz := HBE.out.size
      obtain ⟨b, off, rfl, hbl, ⟨a0, a1, a2, a3, a4, a5⟩, -⟩ := (HA.out.below (by rw [← HB.out]; exact HBE.out)) k hlt
      have HUP : Hid (openF l (k + 1) = if (l k).ki = 4 then (fun y => decide (y = (l k).th) || openF l k y) else if (l k).ki = 5 then (fun y => !decide (y = (l k).th) && openF l k y) else openF l k) := Lib.hid rfl
      obtain ⟨x, hx⟩ : ∃ x, x = l k := ⟨_, rfl⟩
      rw [← hx] at a0 a1 a2 a3 a4 a5 HUP
      clear hx
      have HM1 : Hid (∀ o, SMap (wr.alloc o) B (openF l k)) := Lib.hid fun o => HM.out.of_block (heap_alloc_old _ _ HM.out.lt)
      have HB1 : Hid (∀ o, Below B W (wr.alloc o)) := Lib.hid fun o => HBE.out.alloc (by rw [HB.out]; exact hsz) o
      have hbw : ∀ o, B < (wr.alloc o).heap.size := fun o => by have := HM.out.lt; simp; omega
      by_cases h4 : x.ki = 4
      · have q4 : (x.ki == 4) = true := by simp [h4]
        have q5 : (x.ki == 5) = false := by simp [h4]
        rw [if_pos h4] at HUP
        clear h4
        go_wp2_with (at_mapUpdate; refine wpList_update_sm Try.underlying71 Try.underlying3 _ rfl _ _ _ rfl B (openF l k) rfl (HM1.out _) x.th _ rfl rfl ?_; intro w3 hm3 hg3; have HM3 := Lib.hid hm3; have HB3 : Hid (Below B W w3) := Lib.hid ((HB1.out _).grown hg3 (by rw [HB.out]; exact (HB1.out _).size) (fun q hq => by cases hq; exact Nat.le_refl _)); clear hm3 hg3)
        go_roundw
        case rel => exact ⟨k + 1, by omega, by go_num, Lib.hid (by rw [HUP.out]; exact HM3.out), HB3⟩
        case measure => simp [intOf]; omega
      · have q4 : (x.ki == 4) = false := by simp [h4]
        rw [if_neg h4] at HUP
        by_cases h5 : x.ki = 5
        · have q5 : (x.ki == 5) = true := by simp [h5]
          rw [if_pos h5] at HUP
          clear h4 h5
          go_wp2_with (at_delete; refine wpList_drop_sm Try.underlying71 Try.underlying3 _ rfl _ _ rfl B (openF l k) rfl (HM1.out _) x.th rfl ?_; intro w3 hm3 hg3; have HM3 := Lib.hid hm3; have HB3 : Hid (Below B W w3) := Lib.hid ((HB1.out _).grown hg3 (by rw [HB.out]; exact (HB1.out _).size) (fun q hq => by cases hq; exact Nat.le_refl _)); clear hm3 hg3)
          go_roundw
          case rel => exact ⟨k + 1, by omega, by go_num, Lib.hid (by rw [HUP.out]; exact HM3.out), HB3⟩
          case measure => simp [intOf]; omega
        · have q5 : (x.ki == 5) = false := by simp [h5]
          rw [if_neg h5] at HUP
          clear h4 h5
          go_wp2_with fail
          go_roundw
          case rel => exact ⟨k + 1, by omega, by go_num, Lib.hid (by rw [HUP.out]; exact HM1.out _), HB1.out _⟩
          case measure => simp [intOf]; omega
    · obtain rfl : k = n := by omega
      go_wp2_with (at_len; refine wpList_len_sm Try.underlying71 Try.underlying3 _ rfl _ rfl B (openF l k) rfl HM.out ?_; intro q hq; have HQ := Lib.hid hq; clear hq)
      go_ret
      refine ⟨?_, by rw [← HB.out]; exact HBE.out⟩
      show Ending.returned (.bool ((q : Int) == 0)) = .returned (.bool r)
      congr 2
      rw [Bool.eq_iff_iff, HLAW.out, ← HQ.out]
      simp
end Go.Proofs.Ytpmjcinemabamaa

namespace Go.Proofs.Ytpmjcinemabamaa
open Go.RowKit Go.BigFrame
set_option linter.unusedVariables false
set_option linter.unusedSimpArgs false

def picks (l : Nat → Acc) (t : Nat) : Nat → List Acc
  | 0 => []
  | k + 1 => picks l t k ++ (if (l k).th = (t : Int) then [l k] else [])
def cellsL (xs : List Acc) : List Value := xs.flatMap fun x => x.cells.toList
theorem picks_yes {l : Nat → Acc} {t k : Nat} (h : (l k).th = (t : Int)) : picks l t (k + 1) = picks l t k ++ [l k] := by
  show _ ++ (if _ then _ else _) = _; rw [if_pos h]
theorem picks_no {l : Nat → Acc} {t k : Nat} (h : ¬ (l k).th = (t : Int)) : picks l t (k + 1) = picks l t k := by
  show _ ++ (if _ then _ else _) = _; rw [if_neg h, List.append_nil]
theorem picks_len (l : Nat → Acc) (t k : Nat) : (picks l t k).length ≤ k := by
  induction k with
  | zero => exact Nat.le_refl _
  | succ k ih =>
    by_cases h : (l k).th = (t : Int)
    · rw [picks_yes h, List.length_append]; simp; omega
    · rw [picks_no h]; omega
theorem cellsL_snoc (xs : List Acc) (x : Acc) : cellsL (xs ++ [x]) = cellsL xs ++ x.cells.toList := by
  unfold cellsL; rw [List.flatMap_append]; simp
/-- Accesses parted by threads, the first k of them. -/
structure SplitAt (W0 wr : World) (D G nt : Nat) (vs : Nat → Value) (l : Nat → Acc) (k : Nat) : Prop where
  cell : wr.heap[D]? = some (.cells #[.slice (some ⟨G, 0, none⟩) nt nt] 48 (0, 0))
  row : RowAt wr G nt vs
  own : ∀ t, t < nt → wr.ownsRow W0.heap.size 44 6 (vs t) (picks l t k).length (cellsL (picks l t k))
  n0 : D ≠ G
  n1 : ∀ t, t < nt → (vs t).ownBlock ≠ some D ∧ (vs t).ownBlock ≠ some G
  n2 : ∀ t, t < nt → ∀ t', t' < nt → t ≠ t' → ∀ g, (vs t).ownBlock = some g → (vs t').ownBlock ≠ some g
  base : W0.heap.size ≤ D ∧ W0.heap.size ≤ G
  below : Below W0.heap.size W0 wr
theorem SplitAt.keep {W0 wr w : World} {D G nt : Nat} {vs : Nat → Value} {l : Nat → Acc} {k : Nat} (h : SplitAt W0 wr D G nt vs l k) (hb : Below wr.heap.size wr w) : SplitAt W0 w D G nt vs l k :=
  ⟨(hb.block _ (Array.getElem?_eq_some_iff.1 h.cell).1).trans h.cell, h.row.keep (hb.block _ h.row.lt), fun t ht => own_keep1 (h.own t ht) fun g e => hb.block _ (own_lt (h.own t ht) e).2, h.n0, h.n1, h.n2, h.base, h.below.trans (hb.mono h.below.size)⟩
theorem SplitAt.pass {W0 wr : World} {D G nt : Nat} {vs : Nat → Value} {l : Nat → Acc} {k : Nat} (h : SplitAt W0 wr D G nt vs l k) (hn : ∀ t, t < nt → ¬ (l k).th = (t : Int)) : SplitAt W0 wr D G nt vs l (k + 1) :=
  ⟨h.cell, h.row, fun t ht => by rw [picks_no (hn t ht)]; exact h.own t ht, h.n0, h.n1, h.n2, h.base, h.below⟩
theorem SplitAt.add {W0 wr w w1 : World} {D G nt t : Nat} {vs : Nat → Value} {v' : Value} {l : Nat → Acc} {k : Nat} (h : SplitAt W0 wr D G nt vs l k) (ht : t < nt) (hx : (l k).th = (t : Int)) (hb : Below wr.heap.size wr w)
    (ho : w1.ownsRow W0.heap.size 44 6 v' ((picks l t k).length + 1) (cellsL (picks l t k) ++ (l k).cells.toList)) (hg : w.grownBy w1 (vs t).ownBlock) (hv : v'.ownBlock = (vs t).ownBlock ∨ v'.ownBlock = some w.heap.size) :
    SplitAt W0 (w1.setCell ⟨G, t, none⟩ v') D G nt (upd vs t v') l (k + 1) := by
  have hD := (Array.getElem?_eq_some_iff.1 h.cell).1
  have hG := h.row.lt
  have s0 := h.below.size
  have s1 := hb.size
  have s2 := hg.size
  have kA : ∀ g, g < wr.heap.size → (vs t).ownBlock ≠ some g → w1.heap[g]? = wr.heap[g]? := fun g hl e => (hg.block g (by omega) (Ne.symm e)).trans (hb.block g hl)
  have kB : ∀ g, g < wr.heap.size → (vs t).ownBlock ≠ some g → g ≠ G → (w1.setCell ⟨G, t, none⟩ v').heap[g]? = wr.heap[g]? := fun g hl e e2 => (heap_set_other e2).trans (kA g hl e)
  have nv : ∀ g, g < wr.heap.size → (vs t).ownBlock ≠ some g → v'.ownBlock ≠ some g := fun g hl e e2 => by
    rcases hv with r | r
    · exact e (by rw [← r]; exact e2)
    · rw [r] at e2; cases e2; omega
  refine ⟨(kB D hD (h.n1 t ht).1 h.n0).trans h.cell, (h.row.keep (kA G hG (h.n1 t ht).2)).set t v', ?_, h.n0, ?_, ?_, h.base, ?_⟩
  · intro t' ht'
    by_cases e : t' = t
    · subst e
      rw [upd_at, picks_yes hx, List.length_append, cellsL_snoc]
      exact own_keep1 ho fun g e => heap_set_other fun e2 => nv G hG (h.n1 t' ht).2 (e2 ▸ e)
    · rw [upd_ne _ _ e, picks_no (fun e2 => e (by omega))]
      exact own_keep1 (h.own t' ht') fun g e3 => kB g (own_lt (h.own t' ht') e3).2 (h.n2 t' ht' t ht e g e3) fun e4 => (h.n1 t' ht').2 (e4 ▸ e3)
  · intro t' ht'
    by_cases e : t' = t
    · subst e; rw [upd_at]; exact ⟨nv D hD (h.n1 t' ht).1, nv G hG (h.n1 t' ht).2⟩
    · rw [upd_ne _ _ e]; exact h.n1 t' ht'
  · intro a ha b hb' hab g hga
    by_cases e : a = t
    · subst e
      rw [upd_at] at hga
      rw [upd_ne _ _ (Ne.symm hab)]
      rcases hv with r | r
      · exact h.n2 a ha b hb' hab g (by rw [← r]; exact hga)
      · rw [r] at hga; cases hga
        intro e2; have := (own_lt (h.own b hb') e2).2; omega
    · rw [upd_ne _ _ e] at hga
      by_cases e2 : b = t
      · subst e2
        rw [upd_at]
        exact nv g (own_lt (h.own a ha) hga).2 (h.n2 a ha b hb' hab g hga)
      · rw [upd_ne _ _ e2]; exact h.n2 a ha b hb' hab g hga
  · exact ((h.below.trans (hb.mono s0)).grown hg (by omega) (fun q e => (own_lt (h.own t ht) e).1)).setCell h.base.2 _
theorem SplitAt.start (W : World) (l : Nat → Acc) (nt : Nat) (G D : Nat) (w : World) (hG : w.heap[G]? = some (.cells (madeCells #[.slice none 0 0] nt) 24 (0, 0))) (hD : w.heap[D]? = some (.cells #[.slice (some ⟨G, 0, none⟩) nt nt] 48 (0, 0))) (h0 : D ≠ G) (hb : W.heap.size ≤ D ∧ W.heap.size ≤ G) (hw : Below W.heap.size W w) : SplitAt W w D G nt (fun _ => .slice none 0 0) l 0 :=
  ⟨hD, ⟨_, 24, hG, fun k hk => made_get _ _ _ hk⟩, fun t _ => World.ownsRow_nil _ _ _ _, h0, fun t _ => ⟨(by intro e; cases e), (by intro e; cases e)⟩, fun t _ t' _ _ g e => (by cases e), hb, hw⟩
end Go.Proofs.Ytpmjcinemabamaa

namespace Go.Proofs.Ytpmjcinemabamaa
open Go.RowKit
set_option linter.unusedVariables false
set_option linter.unusedSimpArgs false

/-- What follows is the operation o, then Q. -/
def ThenOp (P : Program) (o : Oper) (Q : Exit → Act → World → Prop) : Exit → Act → World → Prop
  | .normal, a, w => o.wp P a w (fun a w => Q .normal a w) Q
  | e, a, w => Q e a w
section
variable {P : Program} {ops : Array Oper} {o : Oper} {Q : Exit → Act → World → Prop} {md : Region.Mode}
theorem wp_then {x : Oper} {a : Act} {w : World} {K K' : Act → World → Prop} (hout : LetsOut (ThenOp P o Q) → LetsOut Q) (h : ∀ a w, K a w → K' a w) (hh : x.wp P a w K (ThenOp P o Q)) : x.wp P a w K' Q := by
  unfold Oper.wp at *
  generalize (execOp a.eval x).run P w = r at *
  cases r with
  | ok n w' =>
    cases n <;> simp only [Oper.upon] at hh ⊢ <;>
      first
        | exact h _ _ hh
        | exact Calls.mono hh (fun e w'' he => by cases e <;> first | exact h _ _ he | exact he | exact hout he)
        | exact Rows.mono hh (fun _ _ he => h _ _ he)
  | halt x w' => cases x <;> simp only [Oper.upon] at hh ⊢ <;> exact hh
theorem getD_push (l : Array Bool) (j : Nat) (d : Bool) (h : j < l.size) : (l.push false).getD j d = l.getD j d := by
  simp [Array.getD, h, Array.getElem_push_lt, Nat.lt_succ_of_lt h]
theorem all_of_none {listed : Array Bool} (hs : listed.size = ops.size) (hback : ∀ i oi, ops[i]? = some oi → ∀ e ∈ oi.after, Region.binds md e = true → e.on < i)
    (hr : Region.ready md ops listed = []) : ∀ n i, i < n → i < ops.size → listed.getD i false = true := by
  intro n
  induction n with
  | zero => intro i h; omega
  | succ n ih =>
    intro i hi hlt
    by_cases hin : i < n
    · exact ih i hin hlt
    · cases hl : listed.getD i false with
      | true => rfl
      | false =>
        exfalso
        have hm : i ∈ Region.ready md ops listed := mem_ready.2 ⟨getD_in (by omega) hl, ops[i], by simp [hlt], fun e he hb => ih e.on (by have := hback i _ (by simp [hlt]) e he hb; omega) (by have := hback i _ (by simp [hlt]) e he hb; omega)⟩
        rw [hr] at hm; cases hm
theorem wpAny_last (hg : o.guard = none) (hin : ∀ e ∈ o.after, e.on < ops.size) {listed : Array Bool} (hs : listed.size = ops.size) (hall : ∀ i, i < ops.size → listed.getD i false = true) {a : Act} {w : World} (h : ThenOp P o Q .normal a w) :
    ∀ g, wpAny P md (ops.push o) Q (g + 1) (listed.push false) a w := by
  intro g
  have hn : ∀ j, j ∈ Region.ready md (ops.push o) (listed.push false) ↔ j = ops.size := by
    intro j
    rw [mem_ready]
    constructor
    · rintro ⟨h1, oj, h2, h3⟩
      have hj : j < ops.size + 1 := by have := (Array.getElem?_eq_some_iff.1 h2).1; simpa using this
      refine Classical.byContradiction fun hne => ?_
      have hj' : j < ops.size := by omega
      rw [getD_push _ _ _ (by omega)] at h1
      have := hall j hj'
      rw [getD_both h1] at this; cases this
    · rintro rfl
      refine ⟨by rw [← hs]; simp [Array.getD], o, by simp, fun e he hb => ?_⟩
      rw [getD_push _ _ _ (by have := hin e he; omega)]
      exact hall _ (hin e he)
  have hdone : Region.ready md (ops.push o) ((listed.push false).setIfInBounds ops.size true) = [] := by
    refine List.eq_nil_iff_forall_not_mem.2 fun j hj => ?_
    obtain ⟨h1, oj, h2, h3⟩ := mem_ready.1 hj
    have hj' : j < ops.size + 1 := by have := (Array.getElem?_eq_some_iff.1 h2).1; simpa using this
    by_cases e : j = ops.size
    · subst e
      simp [Array.getD, hs] at h1
    · rw [getD_set_ne true (Ne.symm e), getD_push _ _ _ (by omega)] at h1
      have := hall j (by omega)
      rw [getD_both h1] at this; cases this
  refine ⟨fun h0 => ?_, fun i hi => ?_⟩
  · have := (hn ops.size).2 rfl
    rw [h0] at this; cases this
  · obtain rfl := (hn i).1 hi
    unfold wpOp
    simp only [Array.getElem?_push_size]
    rw [if_pos (by simp [Region.wanted, hg])]
    exact Or.inl (Oper.wp_mono (fun a w hq => wpAny_done hdone hq g) h)
theorem wpAny_push (hg : o.guard = none) (hout : LetsOut (ThenOp P o Q) → LetsOut Q) (hin : ∀ e ∈ o.after, e.on < ops.size)
    (hla : ∀ i, i < ops.size → ∃ e ∈ o.after, Region.binds md e = true ∧ e.on = i) (hno : ∀ (i : Nat) (oi : Oper), ops[i]? = some oi → oi.guard = none) (hback : ∀ i oi, ops[i]? = some oi → ∀ e ∈ oi.after, Region.binds md e = true → e.on < i) :
    ∀ (g : Nat) (listed : Array Bool) (a : Act) (w : World), listed.size = ops.size → wpAny P md ops (ThenOp P o Q) g listed a w → wpAny P md (ops.push o) Q (g + 1) (listed.push false) a w
  | 0, listed, a, w, hs, h => wpAny_last hg hin hs (fun i hi => all_of_none hs hback h.1 ops.size i hi hi) h.2 0
  | g + 1, listed, a, w, hs, h => by
    by_cases hr : Region.ready md ops listed = []
    · exact wpAny_last hg hin hs (fun i hi => all_of_none hs hback hr ops.size i hi hi) (h.1 hr) (g + 1)
    · have hmem : ∀ j, j ∈ Region.ready md (ops.push o) (listed.push false) ↔ j ∈ Region.ready md ops listed := by
        intro j
        constructor
        · intro hj
          obtain ⟨h1, oj, h2, h3⟩ := mem_ready.1 hj
          have hj' : j < ops.size + 1 := by have := (Array.getElem?_eq_some_iff.1 h2).1; simpa using this
          by_cases e : j = ops.size
          · exfalso
            subst e
            rw [Array.getElem?_push_size] at h2
            cases h2
            refine hr (List.eq_nil_iff_forall_not_mem.2 fun i hi => ?_)
            obtain ⟨g1, oi, g2, g3⟩ := mem_ready.1 hi
            have hi' : i < ops.size := (Array.getElem?_eq_some_iff.1 g2).1
            obtain ⟨e, he, hb, rfl⟩ := hla i hi'
            have := h3 e he hb
            rw [getD_push _ _ _ (by omega), getD_both g1] at this
            cases this
          · have hjn : j < ops.size := by omega
            have h2' : ops[j]? = some oj := by rw [← h2, Array.getElem?_push_lt hjn]; simp [hjn]
            refine mem_ready.2 ⟨(getD_push _ _ _ (by omega)).symm.trans h1, oj, h2', fun e he hb => ?_⟩
            have := h3 e he hb
            have hlt := hback j oj h2' e he hb
            rw [getD_push _ _ _ (by omega)] at this
            exact this
        · intro hj
          obtain ⟨h1, oj, h2, h3⟩ := mem_ready.1 hj
          have hjn : j < ops.size := (Array.getElem?_eq_some_iff.1 h2).1
          refine mem_ready.2 ⟨(getD_push _ _ _ (by omega)).trans h1, oj, by rw [← h2, Array.getElem?_push_lt hjn]; simp [hjn], fun e he hb => ?_⟩
          have hlt := hback j oj h2 e he hb
          rw [getD_push _ _ _ (by omega)]
          exact h3 e he hb
      refine ⟨fun h0 => absurd (List.eq_nil_iff_forall_not_mem.2 fun j hj => by rw [← hmem, h0] at hj; cases hj) hr, fun i hi => ?_⟩
      have hi2 := (hmem i).1 hi
      obtain ⟨h1, oi, h2, h3⟩ := mem_ready.1 hi2
      have hin' : i < ops.size := (Array.getElem?_eq_some_iff.1 h2).1
      have hw := h.2 i hi2
      have e1 : (ops.push o)[i]? = some oi := by rw [← h2, Array.getElem?_push_lt hin']; simp [hin']
      have e2 : (listed.push false).setIfInBounds i true = (listed.setIfInBounds i true).push false := by
        apply Array.ext'
        simp only [Array.toList_setIfInBounds, Array.toList_push]
        rw [List.set_append_left _ _ (by simp; omega)]
      unfold wpOp at hw ⊢
      simp only [h2] at hw
      simp only [e1]
      rw [if_pos (by simp [Region.wanted, hno i oi h2])] at hw ⊢
      rw [e2]
      rcases hw with hw | hw
      · exact Or.inl (wp_then hout (fun a w hk => wpAny_push hg hout hin hla hno hback g _ a w (by simp [hs]) hk) hw)
      · exact Or.inr ⟨hw.1, hout hw.2⟩
/-- The last operation waits for all the others, none of which waits for one behind it; no guards. -/
def lastB (md : Region.Mode) (ops : Array Oper) (o : Oper) : Bool :=
  o.guard.isNone && ops.toList.all (·.guard.isNone) && o.after.toList.all (fun e => decide (e.on < ops.size)) && (List.range ops.size).all (fun i => o.after.toList.any fun e => Region.binds md e && e.on == i) &&
  (List.range ops.size).all fun i => match ops[i]? with | some oi => oi.after.toList.all (fun e => !Region.binds md e || decide (e.on < i)) | none => true
theorem region_last {id : Nat} {a : Act} {w : World} (S : World → Prop) (hm : P.follows .mixedOrders = true) (ho : ops.back? = some o) (hB : lastB .any ops.pop o = true)
    (h : wpAnyH P .any ops.pop (ThenOp P o Q) S ops.pop.size (Array.replicate ops.pop.size false) a w.drew) : (Code.region id ops true).wp P Q a w := by
  have hops : ops = ops.pop.push o := by
    have hne : 0 < ops.size := by
      refine Nat.pos_of_ne_zero fun h0 => ?_
      rw [Array.back?, Array.getElem?_eq_none (by omega)] at ho; cases ho
    apply Array.ext (by simp; omega)
    intro i h1 h2
    by_cases hi : i < ops.size - 1
    · rw [Array.getElem_push_lt (by simpa using hi)]; simp
    · have hi' : i = ops.size - 1 := by omega
      subst hi'
      rw [Array.back?, Array.getElem?_eq_getElem (by omega)] at ho
      have ho' := Option.some.inj ho
      have : (ops.pop.push o)[ops.size - 1] = o := by simp [Array.getElem_push]
      rw [this, ← ho']
  unfold lastB at hB
  simp only [Bool.and_eq_true, List.all_eq_true, List.any_eq_true, decide_eq_true_eq, beq_iff_eq, List.mem_range] at hB
  obtain ⟨⟨⟨⟨b1, b2⟩, b3⟩, b4⟩, b5⟩ := hB
  have key := wpAny_push (P := P) (Q := Q) (md := .any) (ops := ops.pop) (o := o) (Option.isNone_iff_eq_none.1 b1) (fun ⟨a, w, h⟩ => ⟨a, w, h⟩) (fun e he => b3 e (Array.mem_toList_iff.2 he))
    (fun i hi => by obtain ⟨e, he, h1, h2⟩ := b4 i hi; exact ⟨e, Array.mem_toList_iff.1 he, h1, h2⟩)
    (fun i oi hoi => Option.isNone_iff_eq_none.1 (b2 oi (Array.mem_toList_iff.2 (Array.mem_of_getElem? hoi))))
    (fun i oi hoi e he hb => by
      have h5 := b5 i (Array.getElem?_eq_some_iff.1 hoi).1
      rw [hoi] at h5
      simp only [List.all_eq_true, Bool.or_eq_true, Bool.not_eq_true', decide_eq_true_eq] at h5
      rcases h5 e (Array.mem_toList_iff.2 he) with h6 | h6
      · rw [hb] at h6; cases h6
      · exact h6)
    ops.pop.size (Array.replicate ops.pop.size false) a w.drew (by simp) (wpAny_of_held _ _ _ _ h)
  refine wp_region_any hm ?_
  have e1 : (Array.replicate ops.pop.size false).push false = Array.replicate (ops.pop.size + 1) false := by simp [Array.replicate_succ]
  rw [e1] at key
  rw [hops]
  simpa using key
/-- 'wpAnyH_take', its place written out. -/
theorem take_at {S : World → Prop} (i : Nat) (d : Option Tmp) (v : Value) {oi : Oper} {fuel : Nat} {listed : Array Bool} {a : Act} {w : World} (hi : ops[i]? = some oi) (hd : oi.dst = d)
    (hs : Region.noSelect ops = true) (hf : Region.free md ops listed i = true) (hr : (Region.ready md ops listed).contains i = true)
    (hQ : ∀ c a w, Q (.panic c) (a.put oi.dst v) w → Q (.panic c) a w) (hy : YieldsIf P ops S oi v a) (hS : S w)
    (h : wpAnyH P md ops Q S fuel (listed.setIfInBounds i true) (a.put d v) w) : wpAnyH P md ops Q S (fuel + 1) listed a w :=
  wpAnyH_take hi hs hf hr hQ hy hS (by rw [hd]; exact h)
end
end Go.Proofs.Ytpmjcinemabamaa

namespace Go.Proofs.Ytpmjcinemabamaa
open Go.RowKit Go.BigFrame
set_option linter.unusedVariables false
set_option linter.unusedSimpArgs false

theorem info44 : (Try.prog.info? 44).map (fun i => (i.zero, i.size, i.bytes)) = some (some (.agg #[.int .i64 0, .int .i64 0, .int .i64 0, .int .u64 0, .int .u64 0, .bool false]), 6, 48) := by kernel_rfl
def PutTo (W0 wr : World) (D G nt : Nat) (l : Nat → Acc) (k : Nat) (e : Ending) (w' : World) : Prop := e = .returned (.tuple #[]) ∧ (∃ vs, SplitAt W0 w' D G nt vs l (k + 1))
set_option maxRecDepth 100000 in
set_option maxHeartbeats 4000000 in
theorem put30_yes (W0 wr : World) (D G nt t : Nat) (vs : Nat → Value) (l : Nat → Acc) (k : Nat) (x : Acc) (hk : k ≤ 100) (hn : nt ≤ 64) (hl : l k = x) (h : SplitAt W0 wr D G nt vs l k) (ht : t < nt) (hx : x.th = (t : Int)) :
    Calls Try.prog 30 #[.agg x.cells, .pointer (some ⟨D, 0, none⟩)] wr (PutTo W0 wr D G nt l k) := by
  obtain ⟨i44, hi, hz0, hz1, hz2⟩ := info_parts info44
  obtain ⟨va, vm, vc, hv⟩ := own_slice (h.own t ht)
  have hlen := picks_len l t k
  have HS := Lib.hid h
  have HO : Hid (wr.ownsRow W0.heap.size 44 6 (.slice va vm vc) (picks l t k).length (cellsL (picks l t k))) := Lib.hid (by rw [← hv]; exact h.own t ht)
  have HV := Lib.hid hv
  have HNT := Lib.hid (And.intro ht hn)
  have HX : Hid (l k = x ∧ (l k).th = (t : Int)) := Lib.hid ⟨hl, by rw [hl]; exact hx⟩
  have HLEN : Hid ((picks l t k).length ≤ 100) := Lib.hid (by omega)
  obtain ⟨qn, hqn⟩ : ∃ qn, qn = (picks l t k).length := ⟨_, rfl⟩
  obtain ⟨qc, hqc⟩ : ∃ qc, qc = cellsL (picks l t k) := ⟨_, rfl⟩
  rw [← hqn, ← hqc] at HO
  rw [← hqn] at HLEN
  have HQ := Lib.hid (And.intro hqn hqc)
  have i0 : (0 : Int) ≤ (t : Int) := by omega
  have i1 : (t : Int) < (nt : Int) := by omega
  have HXC : Hid (x.cells = #[.int .i64 x.ki, .int .i64 (t : Int), .int .i64 x.pl, .int .u64 x.ol, .int .u64 x.ne, .bool x.dn]) := Lib.hid (by unfold Acc.cells; rw [hx])
  have y0 : wr.cell? ⟨D, 0, none⟩ = some (.slice (some ⟨G, 0, none⟩) nt nt) := by rw [cell_in h.cell]; rfl
  have HY0 := Lib.hid y0
  have HL : Hid (D < wr.heap.size ∧ G < wr.heap.size ∧ W0.heap.size ≤ wr.heap.size) := Lib.hid ⟨(Array.getElem?_eq_some_iff.1 h.cell).1, h.row.lt, h.below.size⟩
  have HG0 : Hid (wr.cell? ⟨G, t, none⟩ = some (.slice va vm vc)) := Lib.hid (by rw [← hv]; exact h.row.cell ht)
  have HGF := Lib.hid (h.row.free t)
  have HN1 := Lib.hid (h.n1 t ht)
  rw [hv] at HN1
  rw [HXC.out]
  generalize x.ki = ki at *
  generalize x.pl = pl at *
  generalize x.ol = ol at *
  generalize x.ne = ne at *
  generalize x.dn = dn at *
  have D0 : ∀ o, (wr.alloc o).cell? ⟨D, 0, none⟩ = some (.slice (some ⟨G, 0, none⟩) nt nt) := fun o => (cell_of_heap (Below.heap_alloc wr o D HL.out.1) 0).trans HY0.out
  clear h hv hlen hqn hqc ht hn hl hx y0
  go_enter Try.func30, Try.ntmps30
  go_wp2_with fail
  obtain ⟨E, hE⟩ : ∃ E, E = wr.heap.size := ⟨_, rfl⟩
  obtain ⟨WB, hWB⟩ : ∃ WB, WB = wr.alloc (.cells #[.int .i64 ki, .int .i64 (t : Int), .int .i64 pl, .int .u64 ol, .int .u64 ne, .bool dn] 44) := ⟨_, rfl⟩
  have q0 : WB.heap[E]? = some (.cells #[.int .i64 ki, .int .i64 (t : Int), .int .i64 pl, .int .u64 ol, .int .u64 ne, .bool dn] 44 (0, 0)) := by rw [hWB, hE]; exact heap_alloc_new _ _
  have kW : ∀ g, g < wr.heap.size → WB.heap[g]? = wr.heap[g]? := fun g hg => by rw [hWB]; exact Below.heap_alloc _ _ _ hg
  have hs : WB.heap.size = wr.heap.size + 1 := by rw [hWB]; simp
  have y1 : WB.cell? ⟨D, 0, none⟩ = some (.slice (some ⟨G, 0, none⟩) nt nt) := (cell_of_heap (kW D HL.out.1) 0).trans HY0.out
  have y2 : WB.cell? ⟨G, t, none⟩ = some (.slice va vm vc) := (cell_of_heap (kW G HL.out.2.1) t).trans HG0.out
  have y3 : WB.frozen? ⟨G, t, none⟩ = false := (frozen_of_heap (kW G HL.out.2.1) t).trans HGF.out
  have x0 : WB.cell? ⟨E, 0, none⟩ = some (.int .i64 ki) := by rw [cell_in q0]; rfl
  have x1 : WB.cell? ⟨E, 1, none⟩ = some (.int .i64 (t : Int)) := by rw [cell_in q0]; rfl
  have x2 : WB.cell? ⟨E, 2, none⟩ = some (.int .i64 pl) := by rw [cell_in q0]; rfl
  have x3 : WB.cell? ⟨E, 3, none⟩ = some (.int .u64 ol) := by rw [cell_in q0]; rfl
  have x4 : WB.cell? ⟨E, 4, none⟩ = some (.int .u64 ne) := by rw [cell_in q0]; rfl
  have x5 : WB.cell? ⟨E, 5, none⟩ = some (.bool dn) := by rw [cell_in q0]; rfl
  have HOW : Hid (WB.ownsRow W0.heap.size 44 6 (.slice va vm vc) qn qc) := Lib.hid (own_keep1 HO.out fun g e => kW g (own_lt HO.out e).2)
  have HWE : Hid (Below wr.heap.size wr WB) := Lib.hid (by rw [hWB]; exact (Below.refl _ _).alloc (Nat.le_refl _) _)
  have HSZ := Lib.hid (And.intro hE hs)
  have l1 : E < WB.heap.size := by omega
  have l2 : D < WB.heap.size := by have := HL.out.1; omega
  have l3 : G < WB.heap.size := by have := HL.out.2.1; omega
  have HLW := Lib.hid (And.intro l1 (And.intro l2 l3))
  have p1 : WB.heap.size ≠ E := by omega
  have p2 : E ≠ WB.heap.size := Ne.symm p1
  have p3 : WB.heap.size ≠ D := by omega
  have p4 : D ≠ WB.heap.size := Ne.symm p3
  have p5 : WB.heap.size ≠ G := by omega
  have p6 : G ≠ WB.heap.size := Ne.symm p5
  rw [← hWB, ← hE]
  clear hWB hE q0 kW hs l1 l2 l3 D0
  refine region_last (fun w' => w'.heap[D]? = WB.heap[D]? ∧ w'.heap[G]? = WB.heap[G]? ∧ w'.heap[E]? = WB.heap[E]?) (by kernel_rfl) rfl (by kernel_rfl) ?_
  simp only [List.pop_toArray, List.dropLast, List.size_toArray, List.length_cons, List.length_nil, Nat.reduceAdd]
  have HF : ∀ w' : World, w'.heap[D]? = WB.heap[D]? ∧ w'.heap[G]? = WB.heap[G]? ∧ w'.heap[E]? = WB.heap[E]? → w'.cell? ⟨D, 0, none⟩ = some (.slice (some ⟨G, 0, none⟩) nt nt) ∧ w'.cell? ⟨G, t, none⟩ = some (.slice va vm vc) ∧ w'.frozen? ⟨G, t, none⟩ = false ∧ w'.cell? ⟨E, 0, none⟩ = some (.int .i64 ki) ∧ w'.cell? ⟨E, 1, none⟩ = some (.int .i64 (t : Int)) ∧ w'.cell? ⟨E, 2, none⟩ = some (.int .i64 pl) ∧ w'.cell? ⟨E, 3, none⟩ = some (.int .u64 ol) ∧ w'.cell? ⟨E, 4, none⟩ = some (.int .u64 ne) ∧ w'.cell? ⟨E, 5, none⟩ = some (.bool dn) := fun w' ⟨h1, h2, h3⟩ => ⟨(cell_of_heap h1 0).trans y1, (cell_of_heap h2 t).trans y2, (frozen_of_heap h2 t).trans y3, (cell_of_heap h3 0).trans x0, (cell_of_heap h3 1).trans x1, (cell_of_heap h3 2).trans x2, (cell_of_heap h3 3).trans x3, (cell_of_heap h3 4).trans x4, (cell_of_heap h3 5).trans x5⟩
  have HFH := Lib.hid HF
  clear HF y1 y2 y3 x0 x1 x2 x3 x4 x5
  refine take_at 0 (some 13) (.slice (some ⟨G, 0, none⟩) nt nt) rfl rfl (by kernel_rfl) (by kernel_rfl) (by kernel_rfl) (fun _ _ _ h => h) (Or.inl ⟨by rfl, ?_⟩) ⟨rfl, rfl, rfl⟩ ?_
  · intro w hSw
    obtain ⟨f0, f1, f2, f3, f4, f5, f6, f7, f8⟩ := HFH.out w hSw
    clear hSw
    go_simp
  try simp only [Act.put, List.setIfInBounds_toArray, List.set_cons_zero, List.set_cons_succ]
  refine take_at 1 (some 14) (.pointer (some ⟨E, 1, none⟩)) rfl rfl (by kernel_rfl) (by kernel_rfl) (by kernel_rfl) (fun _ _ _ h => h) (Or.inl ⟨by rfl, ?_⟩) ⟨rfl, rfl, rfl⟩ ?_
  · intro w hSw
    obtain ⟨f0, f1, f2, f3, f4, f5, f6, f7, f8⟩ := HFH.out w hSw
    clear hSw
    go_simp
  try simp only [Act.put, List.setIfInBounds_toArray, List.set_cons_zero, List.set_cons_succ]
  refine take_at 2 (some 15) (.int .i64 (t : Int)) rfl rfl (by kernel_rfl) (by kernel_rfl) (by kernel_rfl) (fun _ _ _ h => h) (Or.inl ⟨by rfl, ?_⟩) ⟨rfl, rfl, rfl⟩ ?_
  · intro w hSw
    obtain ⟨f0, f1, f2, f3, f4, f5, f6, f7, f8⟩ := HFH.out w hSw
    clear hSw
    go_simp
  try simp only [Act.put, List.setIfInBounds_toArray, List.set_cons_zero, List.set_cons_succ]
  refine take_at 3 (some 16) (.slice (some ⟨G, 0, none⟩) nt nt) rfl rfl (by kernel_rfl) (by kernel_rfl) (by kernel_rfl) (fun _ _ _ h => h) (Or.inl ⟨by rfl, ?_⟩) ⟨rfl, rfl, rfl⟩ ?_
  · intro w hSw
    obtain ⟨f0, f1, f2, f3, f4, f5, f6, f7, f8⟩ := HFH.out w hSw
    clear hSw
    go_simp
  try simp only [Act.put, List.setIfInBounds_toArray, List.set_cons_zero, List.set_cons_succ]
  refine take_at 4 (some 17) (.pointer (some ⟨E, 1, none⟩)) rfl rfl (by kernel_rfl) (by kernel_rfl) (by kernel_rfl) (fun _ _ _ h => h) (Or.inl ⟨by rfl, ?_⟩) ⟨rfl, rfl, rfl⟩ ?_
  · intro w hSw
    obtain ⟨f0, f1, f2, f3, f4, f5, f6, f7, f8⟩ := HFH.out w hSw
    clear hSw
    go_simp
  try simp only [Act.put, List.setIfInBounds_toArray, List.set_cons_zero, List.set_cons_succ]
  refine take_at 5 (some 18) (.int .i64 (t : Int)) rfl rfl (by kernel_rfl) (by kernel_rfl) (by kernel_rfl) (fun _ _ _ h => h) (Or.inl ⟨by rfl, ?_⟩) ⟨rfl, rfl, rfl⟩ ?_
  · intro w hSw
    obtain ⟨f0, f1, f2, f3, f4, f5, f6, f7, f8⟩ := HFH.out w hSw
    clear hSw
    go_simp
  try simp only [Act.put, List.setIfInBounds_toArray, List.set_cons_zero, List.set_cons_succ]
  refine take_at 6 (some 19) (.pointer (some ⟨G, t, none⟩)) rfl rfl (by kernel_rfl) (by kernel_rfl) (by kernel_rfl) (fun _ _ _ h => h) (Or.inl ⟨by rfl, ?_⟩) ⟨rfl, rfl, rfl⟩ ?_
  · intro w hSw
    obtain ⟨f0, f1, f2, f3, f4, f5, f6, f7, f8⟩ := HFH.out w hSw
    clear hSw
    go_simp
  try simp only [Act.put, List.setIfInBounds_toArray, List.set_cons_zero, List.set_cons_succ]
  refine take_at 7 (some 20) (.slice va vm vc) rfl rfl (by kernel_rfl) (by kernel_rfl) (by kernel_rfl) (fun _ _ _ h => h) (Or.inl ⟨by rfl, ?_⟩) ⟨rfl, rfl, rfl⟩ ?_
  · intro w hSw
    obtain ⟨f0, f1, f2, f3, f4, f5, f6, f7, f8⟩ := HFH.out w hSw
    clear hSw
    go_simp
  try simp only [Act.put, List.setIfInBounds_toArray, List.set_cons_zero, List.set_cons_succ]
  refine take_at 8 (some 21) (.agg #[.int .i64 ki, .int .i64 (t : Int), .int .i64 pl, .int .u64 ol, .int .u64 ne, .bool dn]) rfl rfl (by kernel_rfl) (by kernel_rfl) (by kernel_rfl) (fun _ _ _ h => h) (Or.inl ⟨by rfl, ?_⟩) ⟨rfl, rfl, rfl⟩ ?_
  · intro w hSw
    obtain ⟨f0, f1, f2, f3, f4, f5, f6, f7, f8⟩ := HFH.out w hSw
    clear hSw
    go_simp
  try simp only [Act.put, List.setIfInBounds_toArray, List.set_cons_zero, List.set_cons_succ]
  have kS : ∀ o, (WB.drew.alloc o).heap[D]? = WB.heap[D]? ∧ (WB.drew.alloc o).heap[G]? = WB.heap[G]? ∧ (WB.drew.alloc o).heap[E]? = WB.heap[E]? := fun o => ⟨Below.heap_alloc WB.drew o D HLW.out.2.1, Below.heap_alloc WB.drew o G HLW.out.2.2, Below.heap_alloc WB.drew o E HLW.out.1⟩
  refine wpAnyH_ready (rs := [9]) (by kernel_rfl) (by simp) ?_
  refine AllReadyH.cons (i := 9) rfl (fun K hK => ?_) AllReadyH.nil
  go_simp
  refine hK.out _ _ (kS _) (fun _ => ?_)
  clear hK K
  try simp only [Act.put, List.setIfInBounds_toArray, List.set_cons_zero, List.set_cons_succ]
  refine wpAnyH_ready (rs := [10]) (by kernel_rfl) (by simp) ?_
  refine AllReadyH.cons (i := 10) rfl (fun K hK => ?_) AllReadyH.nil
  refine step_append_at rfl (.tmp 20) (.tmp 22) 24 rfl W0.heap.size 44 i44 _ 6 48 Try.underlying24 hi hz0 hz1 hz2 rfl (by decide) (.slice va vm vc) qn qc rfl (HOW.out.drew.alloc _) ⟨WB.heap.size, 0, none⟩ 1 1 [.int .i64 ki, .int .i64 (t : Int), .int .i64 pl, .int .u64 ol, .int .u64 ne, .bool dn] rfl rfl (fun j u hj => cell_alloc WB.drew _ 44 j u hj) (by simp [Value.oneCell']) (by have := HLEN.out; unfold maxLen; omega) (by have := HLEN.out; omega) (by have := HL.out.2.2; have := HSZ.out.2; simp; omega) ?_
  intro v' w1 ho hg hbl
  obtain ⟨ua, um, uc, rfl⟩ := own_slice ho
  have hkD : w1.heap[D]? = WB.heap[D]? := (hg.block D (by have := HLW.out.2.1; simp; omega) (Ne.symm HN1.out.1)).trans (kS _).1
  have hkG : w1.heap[G]? = WB.heap[G]? := (hg.block G (by have := HLW.out.2.2; simp; omega) (Ne.symm HN1.out.2)).trans (kS _).2.1
  have hkE : w1.heap[E]? = WB.heap[E]? := (hg.block E (by have := HLW.out.1; simp; omega) (fun e => by have := (own_lt HO.out e.symm).2; have := HSZ.out.1; omega)).trans (kS _).2.2
  refine hK.out _ _ ⟨hkD, hkG, hkE⟩ (fun _ => ?_)
  clear hK K
  obtain ⟨f0, f1, f2, f3, f4, f5, f6, f7, f8⟩ := HFH.out w1 ⟨hkD, hkG, hkE⟩
  have HO1 := Lib.hid ho
  have HG1 := Lib.hid hg
  have HBL := Lib.hid hbl
  clear ho hg hbl kS
  try simp only [Act.put, List.setIfInBounds_toArray, List.set_cons_zero, List.set_cons_succ]
  refine take_at 11 (some 24) (.pointer (some ⟨G, t, none⟩)) rfl rfl (by kernel_rfl) (by kernel_rfl) (by kernel_rfl) (fun _ _ _ h => h) (Or.inl ⟨by rfl, ?_⟩) ⟨hkD, hkG, hkE⟩ ?_
  · intro w hSw
    clear hSw
    go_simp
  try simp only [Act.put, List.setIfInBounds_toArray, List.set_cons_zero, List.set_cons_succ]
  refine wpAnyH_done (by kernel_rfl) ?_ _
  unfold ThenOp
  clear hkD hkG hkE
  dsimp only
  go_simp
  go_end0
  refine ⟨rfl, _, HS.out.add (w := WB.drew.alloc (.cells #[.int .i64 ki, .int .i64 (t : Int), .int .i64 pl, .int .u64 ol, .int .u64 ne, .bool dn] 44)) HNT.out.1 HX.out.2 (HWE.out.drew.alloc (by have := HSZ.out.2; simp; omega) _) ?_ (by rw [HV.out]; exact HG1.out) (by rw [HV.out]; exact HBL.out)⟩
  rw [HX.out.1, HXC.out, ← HQ.out.1, ← HQ.out.2]
  exact HO1.out
end Go.Proofs.Ytpmjcinemabamaa

namespace Go.Proofs.Ytpmjcinemabamaa
open Go.RowKit Go.BigFrame
set_option linter.unusedVariables false
set_option linter.unusedSimpArgs false

theorem put30_no (W0 wr : World) (D G nt : Nat) (vs : Nat → Value) (l : Nat → Acc) (k : Nat) (x : Acc) (hl : l k = x) (h : SplitAt W0 wr D G nt vs l k) (hx : ¬ (0 ≤ x.th ∧ x.th < (nt : Int))) :
    Calls Try.prog 30 #[.agg x.cells, .pointer (some ⟨D, 0, none⟩)] wr (PutTo W0 wr D G nt l k) := by
  have y0 : ∀ o, (wr.alloc o).cell? ⟨D, 0, none⟩ = some (.slice (some ⟨G, 0, none⟩) nt nt) := fun o => by rw [cell_in ((Below.heap_alloc wr o D (Array.getElem?_eq_some_iff.1 h.cell).1).trans h.cell)]; rfl
  have hp : wr.heap.size ≠ D := by have := (Array.getElem?_eq_some_iff.1 h.cell).1; omega
  have HE : Hid (∀ o, PutTo W0 wr D G nt l k (.returned (.tuple #[])) (wr.alloc o)) := Lib.hid fun o => ⟨rfl, vs, (h.keep ((Below.refl _ _).alloc (Nat.le_refl _) o)).pass fun t ht e => hx (by rw [hl] at e; omega)⟩
  simp only [Acc.cells]
  by_cases h0 : 0 ≤ x.th
  · have e1 : decide (x.th ≥ 0) = true := bool_yes h0
    have e2 : decide (x.th < (nt : Int)) = false := bool_no (by omega)
    clear h hl hx
    go_enter Try.func30, Try.ntmps30
    go_wp2_with fail
    go_end0
    exact HE.out _
  · have e1 : decide (x.th ≥ 0) = false := bool_no (by omega)
    clear h hl hx
    go_enter Try.func30, Try.ntmps30
    go_wp2_with fail
    go_end0
    exact HE.out _
theorem put30 (W0 wr : World) (D G nt : Nat) (vs : Nat → Value) (l : Nat → Acc) (k : Nat) (hk : k ≤ 100) (hn : nt ≤ 64) (h : SplitAt W0 wr D G nt vs l k) :
    Calls Try.prog 30 #[.agg (l k).cells, .pointer (some ⟨D, 0, none⟩)] wr (PutTo W0 wr D G nt l k) := by
  by_cases hx : 0 ≤ (l k).th ∧ (l k).th < (nt : Int)
  · obtain ⟨t, ht⟩ := Int.eq_ofNat_of_zero_le hx.1
    exact put30_yes W0 wr D G nt t vs l k _ hk hn rfl h (by omega) ht
  · exact put30_no W0 wr D G nt vs l k _ rfl h hx
def SplitTo (W : World) (nt : Nat) (l : Nat → Acc) (n : Nat) (e : Ending) (W' : World) : Prop := ∃ D G vs, e = .returned (.slice (some ⟨G, 0, none⟩) nt nt) ∧ SplitAt W W' D G nt vs l n
theorem info24 : (Try.prog.info? 24).map (fun i => (i.zero, i.size, i.bytes)) = some (some (.slice none 0 0), 1, 24) := by kernel_rfl
def partsN (t : Int) : Nat := if t < 0 then 0 else if 64 < t then 64 else t.toNat
set_option maxRecDepth 100000 in
set_option maxHeartbeats 4000000 in
theorem split13 (a : Option Addr) (n cap : Nat) (t : Int) (hn : n ≤ 100) (l : Nat → Acc) (W : World) (hA : AccsIn W a n l) :
    Calls Try.prog 13 #[.slice a n cap, .int .i64 t] W (SplitTo W (partsN t) l n) := by
  have hmf : ∀ (fn : Fn) (first cap : Array Value) (w : World), (Instr.makeFunc fn first cap).run Try.prog w = .ok (.func fn first cap) w := fun _ _ _ _ => rfl
  have eg : ∀ args w, (callFunc 30 args).run Try.prog w = .ok (.enter 30 args) w := enters_at Try.func30 (by kernel_rfl) rfl
  obtain ⟨nt, hnt⟩ : ∃ nt, nt = partsN t := ⟨_, rfl⟩
  rw [← hnt]
  have hm : min (max t 0) 64 = (nt : Int) := by
    rw [hnt]; unfold partsN
    split
    · omega
    · split <;> omega
  have hn64 : nt ≤ 64 := by omega
  have mk1 := mk_row 48 24 _ _ 24 Try.underlying48 info24 rfl nt (by omega) (by omega)
  have n0 : (0 : Int) ≤ (nt : Int) := by omega
  have HA := Lib.hid hA
  have HN := Lib.hid hn64
  clear hA hnt hn64
  go_enter Try.func13, Try.ntmps13
  go_wp2_with fail
  obtain ⟨G, hG⟩ : ∃ G, G = W.heap.size := ⟨_, rfl⟩
  obtain ⟨D, hD⟩ : ∃ D, D = W.heap.size + 1 := ⟨_, rfl⟩
  have HS0 : Hid (SplitAt W ((W.alloc (.cells (madeCells #[.slice none 0 0] nt) 24)).alloc (.cells #[.slice (some ⟨G, 0, none⟩) nt nt] 48)) D G nt (fun _ => .slice none 0 0) l 0) := Lib.hid (by
    refine SplitAt.start W l nt G D _ ?_ ?_ (by omega) (by omega) (((Below.refl _ _).alloc (Nat.le_refl _) _).alloc (by simp) _)
    · rw [hG, heap_alloc_old _ _ (by simp), heap_alloc_new]
    · have := heap_alloc_new (W.alloc (.cells (madeCells #[.slice none 0 0] nt) 24)) (.cells #[.slice (some ⟨G, 0, none⟩) nt nt] 48)
      rw [hD]; simpa using this)
  rw [← hD, ← hG]
  clear hG hD mk1
  go_loopw [16] (fun i wr => ∃ (k : Nat) (vs : Nat → Value), k ≤ n ∧ i = .int .i64 k ∧ Hid (SplitAt W wr D G nt vs l k)) (fun i _ => n - (intOf i).toNat)
  case atStart => exact ⟨0, _, Nat.zero_le _, rfl, HS0⟩
  case round =>
    obtain ⟨k, vs, hk, rfl, HS⟩ := hrel
    by_cases hlt : k < n
    · have e1 : decide ((k : Int) < (n : Int)) = true := bool_yes (by omega)
      have i0 : (0 : Int) ≤ (k : Int) := by omega
      have i1 : (k : Int) < (n : Int) := by omega
      obtain ⟨b, off, rfl, hbl, ⟨a0, a1, a2, a3, a4, a5⟩, -⟩ := (HA.out.below HS.out.below) k hlt
      have HP : Hid (∀ o, Calls Try.prog 30 #[.agg (l k).cells, .pointer (some ⟨D, 0, none⟩)] (wr.alloc o) (PutTo W (wr.alloc o) D G nt l k)) := Lib.hid fun o => put30 W _ D G nt vs l k (by omega) HN.out (HS.out.keep ((Below.refl _ _).alloc (Nat.le_refl _) o))
      unfold PutTo at HP
      obtain ⟨x, hx⟩ : ∃ x, x = l k := ⟨_, rfl⟩
      rw [← hx] at a0 a1 a2 a3 a4 a5 HP
      simp only [Acc.cells] at HP
      clear hx
      go_wp2_with (go_at_call 30; (with_reducible refine (HP.out _).mono ?_); rintro e w2 ⟨rfl, vs2, hs2⟩; have HS2 := Lib.hid hs2; clear hs2)
      go_roundw
      case rel => exact ⟨k + 1, _, by omega, by go_num, HS2⟩
      case measure => simp [intOf]; omega
    · obtain rfl : k = n := by omega
      have y0 : wr.cell? ⟨D, 0, none⟩ = some (.slice (some ⟨G, 0, none⟩) nt nt) := by rw [cell_in HS.out.cell]; rfl
      go_wp2_with fail
      go_ret
      exact ⟨D, G, vs, rfl, HS.out⟩
end Go.Proofs.Ytpmjcinemabamaa
