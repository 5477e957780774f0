/- Layer 38: the places that are named, sorted and once each. No program here.
   Layer 38: a row of ints sorted, and each kept once.
   Layer 38: Touched, walked.
   Layer 38: the law ReplayTells, its first loop's parts.
   Layer 38: the law ReplayTells, walked.
   Layer 38: the last parts joined. -/
import Derived.Test.YtpmjcinemabamaaK10
import Derived.Lib.SlicesCompact
import Derived.Test.YtpmjcinemabamaaK3
import Derived.Sort.OwnSortedInts
import Derived.Shelf.Slices.In.SortNone
import Derived.Lib.RowBridge
import Derived.Test.YtpmjcinemabamaaK9
namespace Go.Proofs.Ytpmjcinemabamaa
open Go.RowKit Go.BigFrame
set_option linter.unusedVariables false
set_option linter.unusedSimpArgs false

theorem len_le_of_mem {xs : List Int} (hn : xs.Nodup) : ∀ {ys : List Int}, (∀ x, x ∈ xs → x ∈ ys) → xs.length ≤ ys.length := by
  induction xs with
  | nil => intro ys _; exact Nat.zero_le _
  | cons a xs ih =>
    intro ys h
    rw [List.nodup_cons] at hn
    have ha := h a (List.mem_cons_self ..)
    have := ih hn.2 (ys := ys.erase a) (fun x hx => (List.mem_erase_of_ne (by intro e; subst e; exact hn.1 hx)).2 (h x (List.mem_cons_of_mem _ hx)))
    rw [List.length_erase_of_mem ha] at this
    have hp := List.length_pos_of_mem ha
    simp only [List.length_cons]; omega
theorem len_eq_of_mem {xs ys : List Int} (hx : xs.Nodup) (hy : ys.Nodup) (h : ∀ x, x ∈ xs ↔ x ∈ ys) : xs.length = ys.length :=
  Nat.le_antisymm (len_le_of_mem hx fun x a => (h x).1 a) (len_le_of_mem hy fun x a => (h x).2 a)
theorem compact_sorted (d : Array Int) (m : Nat) (hs : ∀ i j, i ≤ j → j < m → d[i]! ≤ d[j]!) :
    (Lib.compactUpTo d m).Pairwise (· < ·) ∧ ∀ x, x ∈ Lib.compactUpTo d m ↔ ∃ j, j < m ∧ d[j]! = x := by
  induction m with
  | zero => exact ⟨by simp [Lib.compactUpTo], fun x => by simp [Lib.compactUpTo]⟩
  | succ m ih =>
    obtain ⟨h1, h2⟩ := ih (fun i j a b => hs i j a (by omega))
    rw [Lib.compactUpTo_succ]
    by_cases hk : Lib.keeps d m = true
    · rw [if_pos hk]
      constructor
      · rw [List.pairwise_append]
        refine ⟨h1, by simp, fun a ha b hb => ?_⟩
        simp only [List.mem_singleton] at hb
        subst hb
        obtain ⟨j, hj, rfl⟩ := (h2 a).1 ha
        have hm : 0 < m := by omega
        have e1 := hs j (m - 1) (by omega) (by omega)
        have e2 := hs (m - 1) m (by omega) (by omega)
        by_cases e : d[m]! = d[m - 1]!
        · rw [Lib.keeps_neg hm e] at hk; cases hk
        · omega
      · intro x
        rw [List.mem_append, h2 x]
        constructor
        · rintro (⟨j, a, b⟩ | h)
          · exact ⟨j, by omega, b⟩
          · simp only [List.mem_singleton] at h; exact ⟨m, by omega, h.symm⟩
        · rintro ⟨j, a, b⟩
          by_cases e : j = m
          · subst e; exact Or.inr (by simp [b])
          · exact Or.inl ⟨j, by omega, b⟩
    · rw [if_neg hk, List.append_nil]
      refine ⟨h1, fun x => ?_⟩
      rw [h2 x]
      constructor
      · rintro ⟨j, a, b⟩; exact ⟨j, by omega, b⟩
      · rintro ⟨j, a, b⟩
        by_cases e : j = m
        · subst e
          by_cases e2 : d[j]! = d[j - 1]!
          · have hm : 0 < j := by
              refine Nat.pos_of_ne_zero fun h0 => hk ?_
              subst h0
              exact Lib.keeps_lt_one d 0 (by omega)
            exact ⟨j - 1, by omega, by rw [← e2]; exact b⟩
          · exact absurd (Lib.keeps_pos e2) hk
        · exact ⟨j, by omega, b⟩
def namesL (l : Nat → Acc) : Nat → List Int
  | 0 => []
  | k + 1 => namesL l k ++ (if nameB (l k) = true then [(l k).pl] else [])
def sortL (zs : List Int) : List Int := zs.mergeSort fun x y => decide (x ≤ y)
def touchL (l : Nat → Acc) (n : Nat) : List Int := Lib.compact (sortL (namesL l n))
theorem sortL_sorted (zs : List Int) : (sortL zs).Pairwise (· ≤ ·) := by
  have := List.pairwise_mergeSort (le := fun x y : Int => decide (x ≤ y)) (by intro a b c; simp; omega) (by intro a b; simp; omega) zs
  exact this.imp (by simp)
theorem sortL_mem (zs : List Int) (x : Int) : x ∈ sortL zs ↔ x ∈ zs := (List.mergeSort_perm zs _).mem_iff
theorem sortL_len (zs : List Int) : (sortL zs).length = zs.length := (List.mergeSort_perm zs _).length_eq
theorem hit_name (x : Acc) (at_ : Int) : hitB x at_ = true ↔ nameB x = true ∧ x.pl = at_ := by
  unfold hitB nameB
  simp only [Bool.and_eq_true, Bool.or_eq_true, decide_eq_true_eq, beq_iff_eq]
  omega
theorem touchB_iff (l : Nat → Acc) (at_ : Int) (k : Nat) : touchB l at_ k = true ↔ ∃ i, i < k ∧ hitB (l i) at_ = true := by
  induction k with
  | zero => exact ⟨fun h => (by cases h), fun ⟨i, h, _⟩ => absurd h (by omega)⟩
  | succ k ih =>
    show (touchB l at_ k || hitB (l k) at_) = true ↔ _
    rw [Bool.or_eq_true, ih]
    constructor
    · rintro (⟨i, a, b⟩ | h)
      · exact ⟨i, by omega, b⟩
      · exact ⟨k, by omega, h⟩
    · rintro ⟨i, a, b⟩
      by_cases e : i = k
      · subst e; exact Or.inr b
      · exact Or.inl ⟨i, by omega, b⟩
theorem names_mem (l : Nat → Acc) (k : Nat) (x : Int) : x ∈ namesL l k ↔ touchB l x k = true := by
  induction k with
  | zero => exact ⟨fun h => (by cases h), fun h => (by cases h)⟩
  | succ k ih =>
    show x ∈ namesL l k ++ (if _ then _ else _) ↔ (touchB l x k || hitB (l k) x) = true
    rw [List.mem_append, Bool.or_eq_true, ih, hit_name]
    by_cases h : nameB (l k) = true
    · rw [if_pos h]; simp only [List.mem_singleton, h, true_and]; exact or_congr_right eq_comm
    · rw [if_neg h]; simp [h]
theorem names_len (l : Nat → Acc) (k : Nat) : (namesL l k).length ≤ k := by
  induction k with
  | zero => exact Nat.le_refl _
  | succ k ih =>
    show (namesL l k ++ (if _ then _ else _)).length ≤ _
    rw [List.length_append]; split <;> simp <;> omega
theorem touchL_spec (l : Nat → Acc) (n : Nat) : (touchL l n).Pairwise (· < ·) ∧ ∀ x, x ∈ touchL l n ↔ touchB l x n = true := by
  obtain ⟨h1, h2⟩ := compact_sorted (sortL (namesL l n)).toArray (sortL (namesL l n)).length (fun i j a b => by
    have hp := sortL_sorted (namesL l n)
    by_cases e : i = j
    · subst e; exact Int.le_refl _
    · have := List.pairwise_iff_getElem.1 hp i j (by omega) b (by omega)
      rw [getElem!_pos _ i (by simp; omega), getElem!_pos _ j (by simpa using b)]
      simpa using this)
  refine ⟨h1, fun x => ?_⟩
  refine (h2 x).trans (Iff.trans ?_ ((sortL_mem (namesL l n) x).trans (names_mem l n x)))
  rw [List.mem_iff_getElem]
  constructor
  · rintro ⟨j, a, b⟩
    rw [getElem!_pos _ j (by simpa using a)] at b
    exact ⟨j, a, by simpa using b⟩
  · rintro ⟨j, a, b⟩
    refine ⟨j, a, ?_⟩
    rw [getElem!_pos _ j (by simpa using a)]
    simpa using b
/-- Is a place named at k for the first time, as the law asks it? -/
def firstB (l : Nat → Acc) (n k : Nat) : Bool := touchB l (l k).pl n && !touchB l (l k).pl k && touchB l (l k).pl (k + 1)
def firstsN (l : Nat → Acc) (n : Nat) : Nat → Nat
  | 0 => 0
  | k + 1 => firstsN l n k + (if firstB l n k = true then 1 else 0)
def firstsL (l : Nat → Acc) (n : Nat) : Nat → List Int
  | 0 => []
  | k + 1 => firstsL l n k ++ (if firstB l n k = true then [(l k).pl] else [])
theorem firsts_len (l : Nat → Acc) (n k : Nat) : (firstsL l n k).length = firstsN l n k := by
  induction k with
  | zero => rfl
  | succ k ih =>
    show (firstsL l n k ++ (if _ then _ else _)).length = _
    rw [List.length_append, ih]
    show _ = firstsN l n k + _
    split <;> rfl
theorem firsts_spec (l : Nat → Acc) (n k : Nat) (hk : k ≤ n) : (firstsL l n k).Nodup ∧ ∀ x, x ∈ firstsL l n k ↔ touchB l x k = true := by
  induction k with
  | zero => exact ⟨List.nodup_nil, fun x => ⟨fun h => (by cases h), fun h => (by cases h)⟩⟩
  | succ k ih =>
    obtain ⟨h1, h2⟩ := ih (by omega)
    have hstep : ∀ x, touchB l x (k + 1) = (touchB l x k || hitB (l k) x) := fun _ => rfl
    by_cases hf : firstB l n k = true
    · have e : firstsL l n (k + 1) = firstsL l n k ++ [(l k).pl] := by show _ ++ (if _ then _ else _) = _; rw [if_pos hf]
      unfold firstB at hf
      simp only [Bool.and_eq_true, Bool.not_eq_true'] at hf
      obtain ⟨⟨f1, f2⟩, f3⟩ := hf
      rw [hstep, f2, Bool.false_or] at f3
      rw [e]
      constructor
      · rw [List.nodup_append]
        refine ⟨h1, by simp, fun a ha b hb => ?_⟩
        simp only [List.mem_singleton] at hb
        subst hb
        intro e2
        have := (h2 a).1 ha
        rw [e2, f2] at this; cases this
      · intro x
        rw [List.mem_append, h2 x, hstep, Bool.or_eq_true, List.mem_singleton]
        refine or_congr_right ⟨fun e2 => by rw [e2]; exact f3, fun h => ((hit_name _ _).1 h).2.symm⟩
    · have e : firstsL l n (k + 1) = firstsL l n k := by show _ ++ (if _ then _ else _) = _; rw [if_neg hf, List.append_nil]
      rw [e]
      refine ⟨h1, fun x => ?_⟩
      rw [h2 x, hstep, Bool.or_eq_true]
      refine ⟨Or.inl, ?_⟩
      rintro (h | h)
      · exact h
      · obtain ⟨_, rfl⟩ := (hit_name _ _).1 h
        refine Classical.byContradiction fun hn => hf ?_
        have t1 : touchB l (l k).pl (k + 1) = true := by rw [hstep, h, Bool.or_true]
        unfold firstB
        rw [t1, touchB_mono l _ (k + 1) n (by omega) t1]
        simpa using hn
theorem firsts_touch (l : Nat → Acc) (n : Nat) : firstsN l n n = (touchL l n).length := by
  obtain ⟨a, b⟩ := firsts_spec l n n (Nat.le_refl _)
  obtain ⟨c, d⟩ := touchL_spec l n
  rw [← firsts_len]
  exact len_eq_of_mem a (c.imp (fun h => by omega)) fun x => (b x).trans (d x).symm
end Go.Proofs.Ytpmjcinemabamaa

namespace Go.Proofs.Ytpmjcinemabamaa
open Go.RowKit Go.BigFrame Go.Sort
set_option linter.unusedVariables false
set_option linter.unusedSimpArgs false

theorem grown_refl (w : World) (r : Option Nat) : w.grownBy w r := ⟨rfl, rfl, rfl, Nat.le_refl _, fun _ _ _ => rfl⟩
theorem sortL_nil : sortL [] = [] := List.length_eq_zero_iff.1 (sortL_len [])
/-- A row of ints that the call owns. -/
def IntsOwn (W : World) (base : Nat) (v : Value) (zs : List Int) : Prop := W.ownsRow base 3 1 v zs.length (zs.map (Value.int .i64))
theorem sort_own {W : World} {base : Nat} {v : Value} {zs : List Int} (h : IntsOwn W base v zs) (hl : zs.length ≤ 1000000) :
    Calls Try.prog 32 #[v] W fun e W' => e = .returned (.tuple #[]) ∧ IntsOwn W' base v (sortL zs) ∧ W.grownBy W' v.ownBlock := by
  rcases h.2 with ⟨rfl, h0⟩ | ⟨g, cap, cur, rfl, h1, h2, h3, h4, h5, h6⟩
  · refine (Any.slices_Sort_int_none Try.lays189 none 0 W).mono ?_
    rintro e w' ⟨rfl, rfl⟩
    obtain rfl : zs = [] := List.length_eq_zero_iff.1 h0
    exact ⟨rfl, by rw [sortL_nil]; exact h, grown_refl _ _⟩
  · refine (Try.slices_Sort_int g 0 cap zs W (holds_of_blockI h2 (by rw [Nat.mul_one] at h6; exact h6)) (Array.getElem?_eq_some_iff.1 h2).1 (by omega)).mono ?_
    rintro e w' ⟨rfl, n, os, rfl⟩
    refine ⟨rfl, ?_, grownBy_sortedI _⟩
    have := ownsRow_sortedI (n := n) (os := os) (ts := sortL zs) (sortL_len zs) h1 h2 h3 h4 h5
    unfold IntsOwn
    rw [sortL_len]
    exact this
theorem compact_own {W : World} {base : Nat} {v : Value} {zs : List Int} (h : IntsOwn W base v zs) (hl : zs.length ≤ 1000000) :
    Calls Try.prog 33 #[v] W fun e W' => ∃ v', e = .returned v' ∧ IntsOwn W' base v' (Lib.compact zs) ∧ W.grownBy W' v.ownBlock := by
  rcases h.2 with ⟨rfl, h0⟩ | ⟨g, cap, cur, rfl, h1, h2, h3, h4, h5, h6⟩
  · obtain rfl : zs = [] := List.length_eq_zero_iff.1 h0
    refine (Try.slices_Compact_int_empty none 0 W).mono ?_
    rintro e w' ⟨rfl, rfl⟩
    exact ⟨_, rfl, h, grown_refl _ _⟩
  · refine (Try.slices_Compact_int g 0 cap zs W (holds_of_blockI h2 (by rw [Nat.mul_one] at h6; exact h6)) (by omega) h3).mono ?_
    rintro e w' ⟨rfl, q, rfl⟩
    have hle := Lib.compact_length_le zs
    refine ⟨_, rfl, ⟨by simp, Or.inr ⟨g, cap, putCells (Value.int .i64) 0 (Lib.compact zs ++ List.replicate (zs.length - (Lib.compact zs).length) 0).toArray cur, rfl, h1, ?_, by omega, h4, by simp [putCells, h5], ?_⟩⟩, ?_⟩
    · simp [putRow, mapBlock, Sort.ahead, Array.getElem?_modify, h2, onCells]
    · have ht := take_putCellsI cur (Lib.compact zs ++ List.replicate (zs.length - (Lib.compact zs).length) 0) (by simp; omega)
      have h7 := congrArg (List.take (Lib.compact zs).length) ht
      rw [List.take_take, Nat.min_eq_left (by simp), List.map_append, List.take_append_of_le_length (by simp)] at h7
      rw [List.take_of_length_le (l := (Lib.compact zs).map (Value.int .i64)) (by simp)] at h7
      rw [Nat.mul_one]
      exact h7
    · refine ⟨rfl, rfl, rfl, by simp [putRow, mapBlock, Sort.ahead], fun k hk hne => ?_⟩
      have : g ≠ k := fun e => hne (by rw [e]; rfl)
      simp [putRow, mapBlock, Sort.ahead, Array.getElem?_modify, this]
end Go.Proofs.Ytpmjcinemabamaa

namespace Go.Proofs.Ytpmjcinemabamaa
open Go.RowKit Go.BigFrame Go.Sort
set_option linter.unusedVariables false
set_option linter.unusedSimpArgs false

def TouchTo (W : World) (l : Nat → Acc) (n : Nat) (e : Ending) (W' : World) : Prop := ∃ v, e = .returned v ∧ IntsOwn W' W.heap.size v (touchL l n) ∧ Below W.heap.size W W'
set_option maxRecDepth 100000 in
set_option maxHeartbeats 4000000 in
theorem touched14 (a : Option Addr) (n cap : Nat) (hn : n ≤ 100000) (l : Nat → Acc) (W : World) (hA : AccsIn W a n l) :
    Calls Try.prog 14 #[.slice a n cap] W (TouchTo W l n) := by
  obtain ⟨i3, hi, hz0, hz1, hz2⟩ := info_parts info3
  have HA := Lib.hid hA
  clear hA
  go_enter Try.func14, Try.ntmps14
  go_wp2_with fail
  go_loopw [3, 8] (fun v i wr => ∃ k : Nat, k ≤ n ∧ i = .int .i64 k ∧ Hid (IntsOwn wr W.heap.size v (namesL l k)) ∧ Hid (Below W.heap.size W wr)) (fun _ i _ => n - (intOf i).toNat)
  case atStart => exact ⟨0, Nat.zero_le _, rfl, Lib.hid (World.ownsRow_nil _ _ _ _), Lib.hid (Below.refl _ _)⟩
  case round =>
    obtain ⟨k, hk, rfl, HO, HB⟩ := hrel
    by_cases hlt : k < n
    · have e1 : decide ((k : Int) < (n : Int)) = true := bool_yes (by omega)
      have i0 : (0 : Int) ≤ (k : Int) := by omega
      have i1 : (k : Int) < (n : Int) := by omega
      have hsz := HB.out.size
      obtain ⟨b, off, rfl, hbl, ⟨a0, a1, a2, a3, a4, a5⟩, -⟩ := (HA.out.below HB.out) k hlt
      have HST : Hid (namesL l (k + 1) = namesL l k ++ (if nameB (l k) = true then [(l k).pl] else [])) := Lib.hid rfl
      have HLN : Hid ((namesL l k).length ≤ 100000) := Lib.hid (by have := names_len l k; omega)
      obtain ⟨x, hx⟩ : ∃ x, x = l k := ⟨_, rfl⟩
      rw [← hx] at a0 a1 a2 a3 a4 a5 HST
      clear hx
      obtain ⟨zs, hzs⟩ : ∃ zs, zs = namesL l k := ⟨_, rfl⟩
      rw [← hzs] at HST HLN HO
      clear hzs
      have HN : Hid (∀ w, Calls Try.prog 31 #[.agg #[.int .i64 x.ki, .int .i64 x.th, .int .i64 x.pl, .int .u64 x.ol, .int .u64 x.ne, .bool x.dn]] w (Gives (.bool (nameB x)) w)) := Lib.hid fun w => named31 x w
      obtain ⟨va, vm, vc, rfl⟩ := own_slice HO.out
      cases hnb : nameB x with
      | false =>
        rw [hnb] at HST HN
        clear hnb
        go_wp2_with (go_at_call 31; refine (HN.out _).mono ?_; rintro e w2 ⟨rfl, hb2⟩; have HB2 := Lib.hid hb2; clear hb2)
        have HB3 := Lib.hid ((Below.refl wr.heap.size wr).alloc (Nat.le_refl _) (.cells #[.int .i64 x.ki, .int .i64 x.th, .int .i64 x.pl, .int .u64 x.ol, .int .u64 x.ne, .bool x.dn] 44) |>.trans (HB2.out.mono (by simp)))
        go_roundw
        case rel => exact ⟨k + 1, by omega, by go_num, Lib.hid (by rw [HST.out]; simp only [Bool.false_eq_true, if_false, List.append_nil]; exact own_keep1 HO.out fun g e => HB3.out.block g (own_lt HO.out e).2), Lib.hid (HB.out.trans (HB3.out.mono hsz))⟩
        case measure => simp [intOf]; omega
      | true =>
        rw [hnb] at HST HN
        clear hnb
        go_wp2_with (first | (go_at_call 31; refine (HN.out _).mono ?_; rintro e w2 ⟨rfl, hb2⟩; have HB2 := Lib.hid hb2; have z2 : w2.cell? ⟨wr.heap.size, 2, none⟩ = some (.int .i64 x.pl) := (hb2.cell (p := ⟨wr.heap.size, 2, none⟩) (by simp)).trans (by rw [cell_in (heap_alloc_new wr _)]; rfl); have HB3 := Lib.hid ((Below.refl wr.heap.size wr).alloc (Nat.le_refl _) (.cells #[.int .i64 x.ki, .int .i64 x.th, .int .i64 x.pl, .int .u64 x.ol, .int .u64 x.ne, .bool x.dn] 44) |>.trans (hb2.mono (by simp))); clear hb2) | (at_builtin; refine wpList_push rfl _ _ 37 rfl W.heap.size 3 i3 (.int .i64 0) 1 8 Try.underlying37 hi hz0 hz1 hz2 rfl (by decide) w2 (by have := HB3.out.size; omega) (.slice va vm vc) zs.length (zs.map (Value.int .i64)) rfl (own_keep1 HO.out fun g e => HB3.out.block g (own_lt HO.out e).2) #[.int .i64 x.pl] 1 1 rfl rfl (by simp [Value.oneCell']) (by have := HLN.out; unfold maxLen; omega) (by have := HLN.out; omega) ?_; intro v' w3 ho hg hb3 hn3; have HO3 := Lib.hid ho; have HB4 : Hid (Below W.heap.size W w3) := Lib.hid (hb3 _ _ (HB.out.trans (HB3.out.mono hsz)) (Nat.le_refl _)); clear ho hg hb3 hn3))
        go_roundw
        case rel => exact ⟨k + 1, by omega, by go_num, Lib.hid (by rw [HST.out]; simp only [if_true]; unfold IntsOwn; rw [List.length_append, List.map_append]; exact HO3.out), HB4⟩
        case measure => simp [intOf]; omega
    · obtain rfl : k = n := by omega
      have HL : Hid ((namesL l k).length ≤ 1000000) := Lib.hid (by have := names_len l k; omega)
      have HSO := Lib.hid (sort_own HO.out HL.out)
      have HCO : Hid (∀ v w, IntsOwn w W.heap.size v (sortL (namesL l k)) → Calls Try.prog 33 #[v] w fun e W' => ∃ v', e = .returned v' ∧ IntsOwn W' W.heap.size v' (touchL l k) ∧ w.grownBy W' v.ownBlock) := Lib.hid fun v w h => compact_own h (by rw [sortL_len]; exact HL.out)
      obtain ⟨va, vm, vc, rfl⟩ := own_slice HO.out
      go_wp2_with (first | (go_at_call 32; (with_reducible refine HSO.out.mono ?_); rintro e w2 ⟨rfl, ho2, hg2⟩; have HC2 := Lib.hid (HCO.out _ _ ho2); have HB2 : Hid (Below W.heap.size W w2) := Lib.hid (HB.out.grown hg2 HB.out.size (fun q e => (own_lt HO.out e).1)); have HO2 := Lib.hid ho2; clear ho2 hg2) | (go_at_call 33; (with_reducible refine HC2.out.mono ?_); rintro e w3 ⟨v', rfl, ho3, hg3⟩; have HB3 : Hid (Below W.heap.size W w3) := Lib.hid (HB2.out.grown hg3 HB2.out.size (fun q e => (own_lt HO2.out e).1)); have HO3 := Lib.hid ho3; clear ho3 hg3))
      go_ret
      exact ⟨_, rfl, HO3.out, HB3.out⟩
end Go.Proofs.Ytpmjcinemabamaa

namespace Go.Proofs.Ytpmjcinemabamaa
open Go.RowKit Go.BigFrame
set_option linter.unusedVariables false
set_option linter.unusedSimpArgs false

theorem picks_at {l : Nat → Acc} {t i n : Nat} (hi : i < n) (hx : (l i).th = (t : Int)) : (picks l t n)[(picks l t i).length]? = some (l i) := by
  induction n with
  | zero => omega
  | succ n ih =>
    show (picks l t n ++ _)[_]? = _
    by_cases e : i = n
    · subst e
      rw [if_pos hx, List.getElem?_append_right (Nat.le_refl _), Nat.sub_self]; rfl
    · have h := ih (by omega)
      rw [List.getElem?_append_left (List.getElem?_eq_some_iff.1 h).1]; exact h
theorem cellsL_at : ∀ (xs : List Acc) (k j : Nat) (x : Acc), xs[k]? = some x → j < 6 → (cellsL xs)[k * 6 + j]? = x.cells.toList[j]?
  | [], k, j, x, h, _ => by simp at h
  | y :: xs, 0, j, x, h, hj => by
    simp at h; subst h
    show (y.cells.toList ++ cellsL xs)[_]? = _
    rw [List.getElem?_append_left (by simp [Acc.cells]; omega)]; simp
  | y :: xs, k + 1, j, x, h, hj => by
    show (y.cells.toList ++ cellsL xs)[_]? = _
    rw [List.getElem?_append_right (by simp [Acc.cells]; omega), show (k + 1) * 6 + j - y.cells.toList.length = k * 6 + j from by simp [Acc.cells]; omega]
    exact cellsL_at xs k j x (by simpa using h) hj
theorem split_elem {W w : World} {D G nt t i n : Nat} {vs : Nat → Value} {l : Nat → Acc} (h : SplitAt W w D G nt vs l n) (ht : t < nt) (hi : i < n) (hx : (l i).th = (t : Int)) :
    ∃ g cap, vs t = .slice (some ⟨g, 0, none⟩) (picks l t n).length cap ∧ (picks l t i).length < (picks l t n).length ∧ AccIn w g ((picks l t i).length * 6) (l i) := by
  have hp := picks_at hi hx
  have hl := (List.getElem?_eq_some_iff.1 hp).1
  obtain ⟨g, cap, c, e, _, hg, _, _, hc⟩ := own_row (h.own t ht) (by omega)
  have hj : ∀ j, j < 6 → w.cell? ⟨g, (picks l t i).length * 6 + j, none⟩ = (l i).cells.toList[j]? := fun j hj => by
    rw [cell_of_row _ _ _ _ _ _ hg, hc _ (by omega)]
    exact cellsL_at _ _ _ _ hp hj
  exact ⟨g, cap, e, hl, hj 0 (by omega), hj 1 (by omega), hj 2 (by omega), hj 3 (by omega), hj 4 (by omega), hj 5 (by omega)⟩
theorem accB_self (x : Acc) : accB x x = true := (accB_iff x x).2 rfl
theorem len_step {l : Nat → Acc} {t i : Nat} : (picks l t (i + 1)).length = (picks l t i).length + (if (l i).th = (t : Int) then 1 else 0) := by
  show (picks l t i ++ (if _ then _ else _)).length = _
  rw [List.length_append]; split <;> rfl
end Go.Proofs.Ytpmjcinemabamaa

namespace Go.Proofs.Ytpmjcinemabamaa
open Go.RowKit Go.BigFrame
set_option linter.unusedVariables false
set_option linter.unusedSimpArgs false

set_option maxRecDepth 100000 in
set_option maxHeartbeats 4000000 in
theorem law4_long (al : Option Addr) (len capl : Nat) (t : Int) (hl : 100 < len) (W : World) : Calls Try.prog 4 #[.slice al len capl, .int .i64 t] W (Gives (.bool true) W) := by
  have HAW := Lib.hid (awake5 W)
  have e1 : decide ((len : Int) > 100) = true := bool_yes (by omega)
  clear hl
  go_enter Try.func4, Try.ntmps4
  go_wp2_with (go_at_call 5; (with_reducible refine HAW.out.mono ?_); rintro e w1 ⟨rfl, hb⟩; have HB := Lib.hid hb; clear hb)
  go_ret
  exact ⟨rfl, HB.out⟩
theorem firsts_le (l : Nat → Acc) (n k : Nat) : firstsN l n k ≤ k := by
  induction k with
  | zero => exact Nat.le_refl _
  | succ k ih =>
    show firstsN l n k + (if _ then _ else _) ≤ _
    split <;> omega
set_option maxRecDepth 100000 in
set_option maxHeartbeats 4000000 in
theorem law4_short (al : Option Addr) (n capl : Nat) (t : Int) (hl : n ≤ 100) (hc : n ≤ capl) (l : Nat → Acc) (W : World) (hA : AccsIn W al n l) : Calls Try.prog 4 #[.slice al n capl, .int .i64 t] W (Gives (.bool true) W) := by
  have HA := Lib.hid hA
  have HSP := Lib.hid (split13 al n capl t hl l W hA)
  have HAW := Lib.hid fun w => awake5 w
  have HTO := Lib.hid fun w h => touched14 al n capl (by omega) l w h
  have HSO := Lib.hid fun w h => sorted16 al n capl (by omega) l w h
  have HRS := Lib.hid fun w h => refSorted17 al n capl (by omega) l w h
  have HRT : Hid (∀ (m : Nat) (at_ : Int) (w : World), m ≤ n → AccsIn w al n l → Calls Try.prog 15 #[.slice al m capl, .int .i64 at_] w (Says (.bool (touchB l at_ m)) w)) := Lib.hid fun m at_ w hm h => refTouched15 al m capl at_ l (by omega) w (h.pre hm)
  unfold SplitTo at HSP
  obtain ⟨nt, hnt⟩ : ∃ nt, nt = partsN t := ⟨_, rfl⟩
  rw [← hnt] at HSP
  have hm : min (max t 0) 64 = (nt : Int) := by
    rw [hnt]; unfold partsN
    split
    · omega
    · split <;> omega
  have e1 : decide ((n : Int) > 100) = false := bool_no (by omega)
  have hn64 : nt ≤ 64 := by omega
  have HNC := Lib.hid (And.intro hl (And.intro hc hn64))
  clear hA hnt hl hc
  go_enter Try.func4, Try.ntmps4
  go_wp2_with (go_at_call 13; (with_reducible refine HSP.out.mono ?_); rintro e w1 ⟨D, G, vs, rfl, hs⟩; have HS1 := Lib.hid hs; clear hs)
  go_loopw [6] (fun tv wr => ∃ k : Nat, k ≤ nt ∧ tv = .int .i64 k ∧ Hid (SplitAt W wr D G nt vs l n)) (fun i _ => nt - (intOf i).toNat)
  case atStart => exact ⟨0, Nat.zero_le _, rfl, HS1⟩
  case round =>
    obtain ⟨tt, htt, rfl, HS⟩ := hrel
    obtain ⟨hl, hc, hn64⟩ := HNC.out
    by_cases hlt : tt < nt
    · have d1 : decide ((tt : Int) < (nt : Int)) = true := bool_yes (by omega)
      have t0 : (0 : Int) ≤ (tt : Int) := by omega
      have t1 : (tt : Int) < (nt : Int) := by omega
      have HT : Hid (tt < nt) := Lib.hid hlt
      obtain ⟨va, vc, hv⟩ := own_slice_n (HS.out.own tt hlt)
      have HV := Lib.hid hv
      obtain ⟨cn, hcn⟩ : ∃ cn, cn = (picks l tt n).length := ⟨_, rfl⟩
      rw [← hcn] at HV
      have HCN := Lib.hid hcn
      clear hv hcn
      go_wp2_with fail
      go_loopw [7, 8] (fun kv iv wr => ∃ (i k : Nat), i ≤ n ∧ iv = .int .i64 i ∧ kv = .int .i64 k ∧ Hid (k = (picks l tt i).length) ∧ Hid (SplitAt W wr D G nt vs l n)) (fun _ i _ => n - (intOf i).toNat)
      case atStart => exact ⟨0, 0, Nat.zero_le _, rfl, rfl, Lib.hid rfl, HS⟩
      case round =>
        clear HS
        obtain ⟨i, k, hi, rfl, rfl, HK, HS⟩ := hrel
        have hkb : k ≤ 100 := by have := picks_len l tt i; have := HK.out; omega
        by_cases hlt2 : i < n
        · have d2 : decide ((i : Int) < (n : Int)) = true := bool_yes (by omega)
          have i0 : (0 : Int) ≤ (i : Int) := by omega
          have i1 : (i : Int) < (n : Int) := by omega
          obtain ⟨b, off, rfl, hbl, ⟨a0, a1, a2, a3, a4, a5⟩, -⟩ := (HA.out.below HS.out.below) i hlt2
          have HST : Hid ((picks l tt (i + 1)).length = k + (if (l i).th = (tt : Int) then 1 else 0)) := Lib.hid (by rw [HK.out]; exact len_step)
          by_cases hx : (l i).th = (tt : Int)
          · obtain ⟨g, cg, hvg, hkl, ⟨c0, c1, c2, c3, c4, c5⟩⟩ := split_elem HS.out HT.out hlt2 hx
            rw [if_pos hx] at HST
            rw [← HK.out] at hkl c0 c1 c2 c3 c4 c5
            rw [← HCN.out] at hkl hvg
            have y0 : wr.cell? ⟨G, tt, none⟩ = some (.slice (some ⟨g, 0, none⟩) cn cg) := by rw [← hvg]; exact HS.out.row.cell HT.out
            have HNE := Lib.hid fun w => neq44 (l i) (l i) w
            rw [accB_self] at HNE
            obtain ⟨x, hxx⟩ : ∃ x, x = l i := ⟨_, rfl⟩
            rw [← hxx] at a0 a1 a2 a3 a4 a5 c0 c1 c2 c3 c4 c5 hx HNE
            simp only [Acc.cells] at HNE
            rw [hx] at a1 c1 HNE
            have k0 : (0 : Int) ≤ (k : Int) := by omega
            have k1 : (k : Int) < (cn : Int) := by omega
            have d3 : decide ((k : Int) ≥ (cn : Int)) = false := bool_no (by omega)
            clear hxx hx hvg
            have hne := HNE.out
            clear HNE
            go_wp2_with fail
            go_quiet (fail)
            have HS2 := Lib.hid (HS.out.keep (below_drewN (Below.refl _ _) nq))
            go_wp2_with fail
            go_roundw
            case rel => exact ⟨i + 1, k + 1, by omega, by go_num, by go_num, Lib.hid HST.out.symm, HS2⟩
            case measure => simp [intOf]; omega
          · rw [if_neg hx] at HST
            have d4 : ((l i).th == (tt : Int)) = false := by simp [hx]
            obtain ⟨x, hxx⟩ : ∃ x, x = l i := ⟨_, rfl⟩
            rw [← hxx] at a0 a1 a2 a3 a4 a5 d4
            clear hxx hx
            go_wp2_with fail
            go_roundw
            case rel => exact ⟨i + 1, k, by omega, by go_num, rfl, Lib.hid HST.out.symm, HS⟩
            case measure => simp [intOf]; omega
        · obtain rfl : i = n := by omega
          obtain rfl : k = cn := by rw [HK.out, HCN.out]
          have y0 : wr.cell? ⟨G, tt, none⟩ = some (.slice va k vc) := by rw [← HV.out]; exact HS.out.row.cell HT.out
          go_wp2_with fail
          go_roundw
          case rel => exact ⟨tt + 1, by omega, by go_num, HS⟩
          case measure => simp [intOf]; omega
    · obtain rfl : tt = nt := by omega
      have HB1 := Lib.hid HS.out.below
      have HT1 := Lib.hid (HTO.out wr (HA.out.below HS.out.below))
      unfold TouchTo at HT1
      have HZ := Lib.hid (touchL_spec l n)
      have HF := Lib.hid (firsts_touch l n)
      obtain ⟨zs, hzs⟩ : ∃ zs, zs = touchL l n := ⟨_, rfl⟩
      rw [← hzs] at HT1 HZ HF
      have HZL : Hid (zs.length ≤ 100) := Lib.hid (by rw [← HF.out]; exact Nat.le_trans (firsts_le l n n) HNC.out.1)
      clear HTO HSP hzs hm HS
      obtain ⟨B0, hB0⟩ : ∃ B0, B0 = wr.heap.size := ⟨_, rfl⟩
      rw [← hB0] at HT1
      have HB0 := Lib.hid hB0
      clear hB0
      go_wp2_with (go_at_call 14; (with_reducible refine HT1.out.mono ?_); rintro e w2 ⟨v, rfl, ho, hb⟩; obtain ⟨va, vc, rfl⟩ := own_slice_n ho; have HO := Lib.hid ho; have HB2 : Hid (Below W.heap.size W w2) := Lib.hid (HB1.out.trans (hb.mono (by rw [HB0.out]; exact HB1.out.size))); clear ho hb)
      clear HT1
      go_loopw [11] (fun iv wr => ∃ i : Nat, i ≤ zs.length ∧ iv = .int .i64 i ∧ Hid (IntsOwn wr B0 (.slice va zs.length vc) zs) ∧ Hid (Below W.heap.size W wr)) (fun i _ => zs.length - (intOf i).toNat)
      case atStart => exact ⟨0, Nat.zero_le _, rfl, HO, HB2⟩
      case round =>
        clear HO HB2 HB1
        obtain ⟨i, hi, rfl, HO, HB⟩ := hrel
        have hzl := HZL.out
        by_cases hlt : i < zs.length
        · have d1 : decide ((i : Int) < (zs.length : Int)) = true := bool_yes (by omega)
          have i0 : (0 : Int) ≤ (i : Int) := by omega
          have i1 : (i : Int) < (zs.length : Int) := by omega
          obtain ⟨g, cap, c, hv, _, hg, _, _, hcc⟩ := own_row HO.out (by omega)
          have hcell : ∀ k, (hk : k < zs.length) → wr.cell? ⟨g, k, none⟩ = some (.int .i64 zs[k]) := fun k hk => by
            rw [cell_of_row _ _ _ _ _ _ hg, hcc k (by omega)]; simp [hk]
          cases hv
          obtain ⟨z, hz⟩ : ∃ z, z = zs[i] := ⟨_, rfl⟩
          have y0 : wr.cell? ⟨g, i, none⟩ = some (.int .i64 z) := by rw [hz]; exact hcell i hlt
          have htz : touchB l z n = true := (HZ.out.2 z).1 (by rw [hz]; exact List.getElem_mem hlt)
          have HRK : Hid (∀ k, Calls Try.prog 15 #[.slice al n capl, .int .i64 z] (wr.drewN k) fun e w' => e = .returned (.bool true) ∧ w' = wr.drewN k) := Lib.hid fun k => by
            have := HRT.out n z (wr.drewN k) (Nat.le_refl _) (HA.out.below (below_drewN HB.out k))
            rw [htz] at this; exact this
          have HWO : Hid (∀ k, IntsOwn (wr.drewN k) B0 (.slice (some ⟨g, 0, none⟩) zs.length vc) zs) := Lib.hid fun k => own_keep1 HO.out fun _ _ => rfl
          by_cases hi0 : i = 0
          · have d2 : decide ((0 : Int) < (i : Int)) = false := bool_no (by omega)
            have d2' : decide (0 < i) = false := bool_no (by omega)
            clear hcell hz htz hcc hg hi0
            go_wp2_with fail
            go_quiet (first | (go_at_call 15; refine Calls.quiet_of_same (HRK.out _)))
            go_wp2_with fail
            go_roundw
            case rel => exact ⟨i + 1, by omega, by go_num, Lib.hid (HWO.out nq), Lib.hid (below_drewN HB.out nq)⟩
            case measure => simp [intOf]; omega
          · have d2 : decide ((0 : Int) < (i : Int)) = true := bool_yes (by omega)
            have d2' : decide (0 < i) = true := bool_yes (by omega)
            obtain ⟨y, hy⟩ : ∃ y, y = zs[i - 1]'(by omega) := ⟨_, rfl⟩
            have y1 : wr.cell? ⟨g, i - 1, none⟩ = some (.int .i64 y) := by rw [hy]; exact hcell (i - 1) (by omega)
            have hlt3 : y < z := by rw [hy, hz]; exact List.pairwise_iff_getElem.1 HZ.out.1 (i - 1) i (by omega) hlt (by omega)
            have d3 : decide (z ≤ y) = false := bool_no (by omega)
            have j0 : (0 : Int) ≤ (i : Int) - 1 := by omega
            have j1 : (i : Int) - 1 < (zs.length : Int) := by omega
            have j2 : ((i : Int) - 1).toNat = i - 1 := by omega
            have j3 : (1 : Int) ≤ (i : Int) := by omega
            clear hcell hz hy htz hcc hg hi0 hlt3
            go_wp2_with fail
            go_quiet (first | (go_at_call 15; refine Calls.quiet_of_same (HRK.out _)))
            go_wp2_with fail
            go_roundw
            case rel => exact ⟨i + 1, by omega, by go_num, Lib.hid (HWO.out nq), Lib.hid (below_drewN HB.out nq)⟩
            case measure => simp [intOf]; omega
        · obtain rfl : i = zs.length := by omega
          have HFS : Hid (∀ k, firstsN l n (k + 1) = firstsN l n k + (if (touchB l (l k).pl n && !touchB l (l k).pl k && touchB l (l k).pl (k + 1)) = true then 1 else 0)) := Lib.hid fun _ => rfl
          go_wp2_with fail
          go_loopw [10, 12] (fun fv iv wr => ∃ i f : Nat, i ≤ n ∧ iv = .int .i64 i ∧ fv = .int .i64 f ∧ Hid (f = firstsN l n i ∧ f ≤ i) ∧ Hid (Below W.heap.size W wr)) (fun _ i _ => n - (intOf i).toNat)
          case atStart => exact ⟨0, 0, Nat.zero_le _, rfl, rfl, Lib.hid ⟨rfl, Nat.le_refl _⟩, HB⟩
          case round =>
            clear HO HB
            obtain ⟨i, f, hi, rfl, rfl, HFI, HB⟩ := hrel
            have hfb := HFI.out.2
            by_cases hlt : i < n
            · have d1 : decide ((i : Int) < (n : Int)) = true := bool_yes (by omega)
              have i0 : (0 : Int) ≤ (i : Int) := by omega
              have i1 : (i : Int) < (n : Int) := by omega
              have i2 : (i : Int) ≤ (capl : Int) := by have := HNC.out; omega
              have i3 : (0 : Int) ≤ (i : Int) + 1 := by omega
              have i4 : (i : Int) + 1 ≤ (capl : Int) := by have := HNC.out; omega
              have i5 : i ≤ capl := by omega
              have i6 : i + 1 ≤ capl := by omega
              have i7 : i < capl := by omega
              have i8 : (i : Int) < (capl : Int) := by omega
              have i9 : ((i : Int) + 1).toNat = i + 1 := by omega
              have i10 : ¬ ((i : Int) + 1 < 0) := by omega
              have i11 : ¬ ((capl : Int) < (i : Int) + 1) := by omega
              have i12 : ¬ (capl ≤ i) := by omega
              have iw : IntKind.i64.wrap ((i : Int) + 1) = (i : Int) + 1 := IntWalk.i64_in _ (by omega)
              obtain ⟨b, off, rfl, hbl, ⟨a0, a1, a2, a3, a4, a5⟩, -⟩ := (HA.out.below HB.out) i hlt
              have HST := Lib.hid (HFS.out i)
              rw [← HFI.out.1] at HST
              obtain ⟨p, hp⟩ : ∃ p, p = (l i).pl := ⟨_, rfl⟩
              rw [← hp] at a2 HST
              clear a0 a1 a3 a4 a5 hp
              obtain ⟨b1, hb1⟩ : ∃ b1, b1 = touchB l p n := ⟨_, rfl⟩
              obtain ⟨b2, hb2⟩ : ∃ b2, b2 = touchB l p i := ⟨_, rfl⟩
              obtain ⟨b3, hb3⟩ : ∃ b3, b3 = touchB l p (i + 1) := ⟨_, rfl⟩
              rw [← hb1, ← hb2, ← hb3] at HST
              have hrk : ∀ (m : Nat) (bb : Bool), m ≤ n → bb = touchB l p m → ∀ k, Calls Try.prog 15 #[.slice (some ⟨b, off, none⟩) m capl, .int .i64 p] (wr.drewN k) fun e w' => e = .returned (.bool bb) ∧ w' = wr.drewN k := fun m bb hm hb k => by
                have := HRT.out m p (wr.drewN k) hm (HA.out.below (below_drewN HB.out k))
                rw [← hb] at this; exact this
              have H1 := Lib.hid (hrk n b1 (Nat.le_refl _) hb1)
              have H2 := Lib.hid (hrk i b2 (by omega) hb2)
              have H3 := Lib.hid (hrk (i + 1) b3 (by omega) hb3)
              clear hrk hb1 hb2 hb3
              cases b1 with
              | false =>
                simp only [Bool.false_and, Bool.false_eq_true, if_false, Nat.add_zero] at HST
                go_wp2_with fail
                go_quiet (first | (go_at_call 15; (with_reducible refine Calls.quiet_of_same (H1.out _))))
                go_wp2_with fail
                go_quiet (fail)
                go_wp2_with fail
                go_roundw
                case rel => exact ⟨i + 1, f, by omega, by go_num, rfl, Lib.hid ⟨HST.out.symm, by omega⟩, Lib.hid (below_drewN HB.out _)⟩
                case measure => simp [intOf]; omega
              | true =>
                cases b2 with
                | true =>
                  simp only [Bool.not_true, Bool.and_false, Bool.false_and, Bool.false_eq_true, if_false, Nat.add_zero] at HST
                  go_wp2_with fail
                  go_quiet (first | (go_at_call 15; first | (with_reducible refine Calls.quiet_of_same (H1.out _)) | (with_reducible refine Calls.quiet_of_same (H2.out _))))
                  go_wp2_with fail
                  go_quiet (fail)
                  go_wp2_with fail
                  go_roundw
                  case rel => exact ⟨i + 1, f, by omega, by go_num, rfl, Lib.hid ⟨HST.out.symm, by omega⟩, Lib.hid (below_drewN HB.out _)⟩
                  case measure => simp [intOf]; omega
                | false =>
                  cases b3 with
                  | false =>
                    simp only [Bool.and_false, Bool.false_eq_true, if_false, Nat.add_zero] at HST
                    go_wp2_with fail
                    go_quiet (first | (go_at_call 15; first | (with_reducible refine Calls.quiet_of_same (H1.out _)) | (with_reducible refine Calls.quiet_of_same (H2.out _))))
                    obtain ⟨wq, hwq⟩ : ∃ wq, wq = wr.drewN nq := ⟨_, rfl⟩
                    rw [← hwq]
                    have H4 : Hid (∀ k, Calls Try.prog 15 #[.slice (some ⟨b, off, none⟩) (i + 1) capl, .int .i64 p] (wq.drewN k) fun e w' => e = .returned (.bool false) ∧ w' = wq.drewN k) := Lib.hid fun k => by rw [hwq, World.drewN_drewN]; exact H3.out _
                    have HBQ : Hid (Below W.heap.size W wq) := Lib.hid (by rw [hwq]; exact below_drewN HB.out _)
                    have c2 : wq.cell? ⟨b, off + i * 6 + 2, none⟩ = some (.int .i64 p) := by rw [hwq]; exact a2
                    clear hwq a2
                    go_wp2_with fail
                    go_quiet (first | (go_at_call 15; (with_reducible refine Calls.quiet_of_same (H4.out _))))
                    go_wp2_with fail
                    go_roundw
                    case rel => exact ⟨i + 1, f, by omega, by go_num, rfl, Lib.hid ⟨HST.out.symm, by omega⟩, Lib.hid (below_drewN HBQ.out _)⟩
                    case measure => simp [intOf]; omega
                  | true =>
                    simp only [Bool.not_false, Bool.and_true, if_true] at HST
                    go_wp2_with fail
                    go_quiet (first | (go_at_call 15; first | (with_reducible refine Calls.quiet_of_same (H1.out _)) | (with_reducible refine Calls.quiet_of_same (H2.out _))))
                    obtain ⟨wq, hwq⟩ : ∃ wq, wq = wr.drewN nq := ⟨_, rfl⟩
                    rw [← hwq]
                    have H4 : Hid (∀ k, Calls Try.prog 15 #[.slice (some ⟨b, off, none⟩) (i + 1) capl, .int .i64 p] (wq.drewN k) fun e w' => e = .returned (.bool true) ∧ w' = wq.drewN k) := Lib.hid fun k => by rw [hwq, World.drewN_drewN]; exact H3.out _
                    have HBQ : Hid (Below W.heap.size W wq) := Lib.hid (by rw [hwq]; exact below_drewN HB.out _)
                    have c2 : wq.cell? ⟨b, off + i * 6 + 2, none⟩ = some (.int .i64 p) := by rw [hwq]; exact a2
                    clear hwq a2
                    go_wp2_with fail
                    go_quiet (first | (go_at_call 15; (with_reducible refine Calls.quiet_of_same (H4.out _))))
                    go_wp2_with fail
                    go_roundw
                    case rel => exact ⟨i + 1, f + 1, by omega, by go_num, by go_num, Lib.hid ⟨HST.out.symm, by omega⟩, Lib.hid (below_drewN HBQ.out _)⟩
                    case measure => simp [intOf]; omega
            · obtain rfl : i = n := by omega
              have HFE : Hid (f = zs.length) := Lib.hid (HFI.out.1.trans HF.out)
              have hfe := HFE.out
              go_wp2_with (first | (go_at_call 5; (with_reducible refine (HAW.out _).mono ?_); rintro e w3 ⟨rfl, hb3⟩; have HB3 : Hid (Below W.heap.size W w3) := Lib.hid (HB.out.trans (hb3.mono HB.out.size)); have HSO3 := Lib.hid (HSO.out w3 (HA.out.below HB3.out)); clear hb3) | (go_at_call 16; (with_reducible refine HSO3.out.mono ?_); rintro e w4 ⟨rfl, hb4⟩; have HB4 : Hid (Below W.heap.size W w4) := Lib.hid (HB3.out.trans (hb4.mono HB3.out.size)); have HRS4 := Lib.hid (HRS.out w4 (HA.out.below HB4.out)); clear hb4) | (go_at_call 17; (with_reducible refine HRS4.out.mono ?_); rintro e w5 ⟨rfl, hb5⟩; have HB5 : Hid (Below W.heap.size W w5) := Lib.hid (HB4.out.trans (hb5.mono HB4.out.size)); clear hb5))
              go_ret
              exact ⟨by simp, HB5.out⟩
theorem law4 (al : Option Addr) (n capl : Nat) (t : Int) (l : Nat → Acc) (W : World) (hc : n ≤ capl) (hA : AccsIn W al n l) : Calls Try.prog 4 #[.slice al n capl, .int .i64 t] W (Gives (.bool true) W) := by
  by_cases h : 100 < n
  · exact law4_long al n capl t h W
  · exact law4_short al n capl t (by omega) hc l W hA
end Go.Proofs.Ytpmjcinemabamaa

namespace Go.Proofs.Ytpmjcinemabamaa
end Go.Proofs.Ytpmjcinemabamaa
