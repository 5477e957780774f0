/- DERIVED: THE SHELF's CONTRACTS AT THIS DUMP, IN PLAIN WORDS (tools/lay-plain.mjs out of 'TryShelf2.lean', which tools/lay-shelf.mjs wrote): THE SAME DECLARATIONS UNDER THE SAME NAMES: 'import', 'namespace', 'open', 'def', 'theorem' AND NOTHING ELSE: no command of the shelf's: FOR A HAND-IN. Each laying: the table of numbers ('.._ren') and one theorem, a field a fact of the dump's own or the kernel's comparison; each contract: ONE APPLICATION.
   A row of whole numbers: one is put in.
   Layer 4: a number is put into a set.
   Layers 4, 7: flush.
   Layers 4, 7: lines are written back; fence.
   Layers 4, 7: fence and flush as accesses.
   Layers 7, 38: flush and fence as accesses; an access done again.
   Layer 38: an access done again. -/
import Derived.Shelf.Sort.Plain
import Derived.Ground.Names2Prog
import Derived.Shelf.Slices.CompactI
import Derived.Shelf.Slices.SearchI
import Derived.Shelf.Slices.Empties
import Derived.Test.YtpmjcinemabamaaProg
import Derived.Test.YtpmjcinemabamaaK2
import Derived.Shelf.Spec.SlicesInsert
import Derived.Shelf.Spec.SlicesInsertGrow
namespace Go.Proofs
open Go.Shelf
def Try.lays189_ren : Go.Shelf.Ren := ⟨fun | 189 => 32 | 125 => 48 | 257 => 47 | 128 => 69 | 129 => 70 | 294 => 60 | 295 => 61 | 296 => 62 | 297 => 63 | 298 => 64 | 299 => 65 | 216 => 66 | 300 => 67 | 301 => 68 | 328 => 79 | 329 => 80 | 330 => 81 | 331 => 82 | 332 => 83 | 215 => 84 | 343 => 88 | n => n, fun | 28 => 37 | 3 => 3 | 46 => 96 | 0 => 0 | 51 => 117 | 53 => 42 | 4 => 4 | 183 => 110 | 182 => 109 | 131 => 92 | 5 => 5 | 9 => 9 | 218 => 125 | 222 => 129 | 228 => 135 | 229 => 136 | n => n, fun | n => n⟩
theorem Try.lays189 : Go.Proofs.Lays.n189 Try.prog Try.lays189_ren := {
  mixed := by kernel_rfl
  f125 := Try.func48.trans (congrArg some (by kernel_rfl))
  f128 := Try.func69.trans (congrArg some (by kernel_rfl))
  f129 := Try.func70.trans (congrArg some (by kernel_rfl))
  f189 := Try.func32.trans (congrArg some (by kernel_rfl))
  f215 := Try.func84.trans (congrArg some (by kernel_rfl))
  f216 := Try.func66.trans (congrArg some (by kernel_rfl))
  f257 := Try.func47.trans (congrArg some (by kernel_rfl))
  f294 := Try.func60.trans (congrArg some (by kernel_rfl))
  f295 := Try.func61.trans (congrArg some (by kernel_rfl))
  f296 := Try.func62.trans (congrArg some (by kernel_rfl))
  f297 := Try.func63.trans (congrArg some (by kernel_rfl))
  f298 := Try.func64.trans (congrArg some (by kernel_rfl))
  f299 := Try.func65.trans (congrArg some (by kernel_rfl))
  f300 := Try.func67.trans (congrArg some (by kernel_rfl))
  f301 := Try.func68.trans (congrArg some (by kernel_rfl))
  f328 := Try.func79.trans (congrArg some (by kernel_rfl))
  f329 := Try.func80.trans (congrArg some (by kernel_rfl))
  f330 := Try.func81.trans (congrArg some (by kernel_rfl))
  f331 := Try.func82.trans (congrArg some (by kernel_rfl))
  f332 := Try.func83.trans (congrArg some (by kernel_rfl))
  f343 := Try.func88.trans (congrArg some (by kernel_rfl))
  t0 := Try.underlying0
  a0 := Try.isAgg0
  z0 := Try.sizeOf0
  v0 := Try.zeroValue0
  t3 := Try.underlying3
  a3 := Try.isAgg3
  z3 := Try.sizeOf3
  v3 := Try.zeroValue3
  t4 := Try.underlying4
  a4 := Try.isAgg4
  z4 := Try.sizeOf4
  v4 := Try.zeroValue4
  t5 := Try.underlying5
  a5 := Try.isAgg5
  z5 := Try.sizeOf5
  v5 := Try.zeroValue5
  t9 := Try.underlying9
  a9 := Try.isAgg9
  z9 := Try.sizeOf9
  v9 := Try.zeroValue9
  t28 := Try.underlying37
  a28 := Try.isAgg37
  z28 := Try.sizeOf37
  v28 := Try.zeroValue37
  t46 := Try.underlying96
  a46 := Try.isAgg96
  z46 := Try.sizeOf96
  v46 := Try.zeroValue96
  t51 := Try.underlying117
  a51 := Try.isAgg117
  z51 := Try.sizeOf117
  v51 := Try.zeroValue117
  t53 := Try.underlying42
  a53 := Try.isAgg42
  z53 := Try.sizeOf42
  v53 := Try.zeroValue42
  t131 := Try.underlying92
  a131 := Try.isAgg92
  z131 := Try.sizeOf92
  v131 := Try.zeroValue92
  t182 := Try.underlying109
  a182 := Try.isAgg109
  z182 := Try.sizeOf109
  v182 := Try.zeroValue109
  t183 := Try.underlying110
  a183 := Try.isAgg110
  z183 := Try.sizeOf110
  v183 := Try.zeroValue110
  t218 := Try.underlying125
  a218 := Try.isAgg125
  z218 := Try.sizeOf125
  v218 := Try.zeroValue125
  t222 := Try.underlying129
  a222 := Try.isAgg129
  z222 := Try.sizeOf129
  v222 := Try.zeroValue129
  t228 := Try.underlying135
  a228 := Try.isAgg135
  z228 := Try.sizeOf135
  v228 := Try.zeroValue135
  t229 := Try.underlying136
  a229 := Try.isAgg136
  z229 := Try.sizeOf136
  v229 := Try.zeroValue136 }
open Go.Sort Go.RowKit in
theorem Try.slices_Sort_int (blk off cap : Nat) (zs : List Int) (w : World) (hH : Holds (Value.int .i64) w blk off zs.toArray) (hblk : blk < w.heap.size) (hsz : zs.length < 4611686018427387904) :
    Calls Try.prog 32 #[.slice (some ⟨blk, off, none⟩) zs.length cap] w fun e w' =>
      e = .returned (.tuple #[]) ∧ ∃ n os, w' = grow (putRow (Value.int .i64) (Sort.ahead w n) blk off (zs.mergeSort fun x y => decide (x ≤ y)).toArray) os := Any.slices_Sort_int Try.lays189 blk off cap zs w hH hblk hsz
def Try.laysNm220_ren : Go.Shelf.Ren := ⟨fun | 20 => 33 | n => n, fun | 22 => 37 | 3 => 3 | 4 => 4 | 0 => 0 | n => n, fun | n => n⟩
theorem Try.laysNm220 : Go.Proofs.Lays2.n20 Try.prog Try.laysNm220_ren := {
  mixed := by kernel_rfl
  f20 := Try.func33.trans (congrArg some (by kernel_rfl))
  t0 := Try.underlying0
  a0 := Try.isAgg0
  z0 := Try.sizeOf0
  v0 := Try.zeroValue0
  t3 := Try.underlying3
  a3 := Try.isAgg3
  z3 := Try.sizeOf3
  v3 := Try.zeroValue3
  t4 := Try.underlying4
  a4 := Try.isAgg4
  z4 := Try.sizeOf4
  v4 := Try.zeroValue4
  t22 := Try.underlying37
  a22 := Try.isAgg37
  z22 := Try.sizeOf37
  v22 := Try.zeroValue37
  i3 := by kernel_rfl }
open Go.RowKit Go.Lib Go.Sort in
theorem Try.slices_Compact_int (blk off cap : Nat) (zs : List Int) (w : World) (hH : Holds (Value.int .i64) w blk off zs.toArray) (hsz : zs.length ≤ 9223372036854775807) (hcap : zs.length ≤ cap) :
    Calls Try.prog 33 #[.slice (some ⟨blk, off, none⟩) zs.length cap] w fun e w' => e = .returned (.slice (some ⟨blk, off, none⟩) (Lib.compact zs).length cap) ∧ ∃ q, w' = putRow (Value.int .i64) (Sort.ahead w q) blk off (Lib.compact zs ++ List.replicate (zs.length - (Lib.compact zs).length) 0).toArray := Any.slices_Compact_int Try.laysNm220 blk off cap zs w hH hsz hcap
open Go.RowKit Go.Lib Go.Sort in
theorem Try.slices_Compact_int_empty (a : Option Addr) (cap : Nat) (w : World) :
    Calls Try.prog 33 #[.slice a 0 cap] w fun e w' => e = .returned (.slice a 0 cap) ∧ w' = w := Any.slices_Compact_int_empty Try.laysNm220 a cap w
def Try.laysNm225_ren : Go.Shelf.Ren := ⟨fun | 25 => 86 | 31 => 66 | 32 => 89 | 37 => 84 | n => n, fun | 22 => 37 | 3 => 3 | 4 => 4 | 40 => 96 | 0 => 0 | n => n, fun | n => n⟩
theorem Try.laysNm225 : Go.Proofs.Lays2.n25 Try.prog Try.laysNm225_ren := {
  mixed := by kernel_rfl
  f25 := Try.func86.trans (congrArg some (by kernel_rfl))
  f31 := Try.func66.trans (congrArg some (by kernel_rfl))
  f32 := Try.func89.trans (congrArg some (by kernel_rfl))
  f37 := Try.func84.trans (congrArg some (by kernel_rfl))
  t0 := Try.underlying0
  a0 := Try.isAgg0
  z0 := Try.sizeOf0
  v0 := Try.zeroValue0
  t3 := Try.underlying3
  a3 := Try.isAgg3
  z3 := Try.sizeOf3
  v3 := Try.zeroValue3
  t4 := Try.underlying4
  a4 := Try.isAgg4
  z4 := Try.sizeOf4
  v4 := Try.zeroValue4
  t22 := Try.underlying37
  a22 := Try.isAgg37
  z22 := Try.sizeOf37
  v22 := Try.zeroValue37
  t40 := Try.underlying96
  a40 := Try.isAgg96
  z40 := Try.sizeOf96
  v40 := Try.zeroValue96 }
open Go.RowKit Go.Lib in
theorem Try.slices_BinarySearch_int (b off n c : Nat) (zs : List Int) (x : Int) (w : World) (hz : n ≤ zs.length) (hbig : n < 4611686018427387904) (hc : ∀ j, j < zs.length → w.cell? ⟨b, off + j, none⟩ = some (.int .i64 (zs.getD j 0))) (hs : (zs.take n).Pairwise (· ≤ ·)) :
    Calls Try.prog 86 #[.slice (some ⟨b, off, none⟩) n c, .int .i64 x] w fun e w' => e = .returned (.tuple #[.int .i64 ((zs.take n).countP (· < x) : Nat), .bool ((zs.take n).contains x)]) ∧ ∃ q, w' = w.drewN q := Any.slices_BinarySearch_int Try.laysNm225 b off n c zs x w hz hbig hc hs
open Go.RowKit Go.Lib in
theorem Try.slices_BinarySearch_int_empty (a : Option Addr) (c : Nat) (x : Int) (w : World) :
    Calls Try.prog 86 #[.slice a 0 c, .int .i64 x] w fun e w' => e = .returned (.tuple #[.int .i64 0, .bool false]) ∧ w' = w := Any.slices_BinarySearch_int_empty Try.laysNm225 a c x w
def Try.laysIns_ren : Go.Shelf.Ren := ⟨fun | 21 => 87 | 27 => 90 | 28 => 91 | 35 => 92 | 39 => 93 | n => n, fun | 22 => 37 | 3 => 3 | 4 => 4 | 0 => 0 | n => n, fun | n => n⟩
theorem Try.laysIns : Go.Proofs.Lays2.n21 Try.prog Try.laysIns_ren := {
  mixed := by kernel_rfl
  f21 := Try.func87.trans (congrArg some (by kernel_rfl))
  f27 := Try.func90.trans (congrArg some (by kernel_rfl))
  f28 := Try.func91.trans (congrArg some (by kernel_rfl))
  f35 := Try.func92.trans (congrArg some (by kernel_rfl))
  f39 := Try.func93.trans (congrArg some (by kernel_rfl))
  t0 := Try.underlying0
  a0 := Try.isAgg0
  z0 := Try.sizeOf0
  v0 := Try.zeroValue0
  t3 := Try.underlying3
  a3 := Try.isAgg3
  z3 := Try.sizeOf3
  v3 := Try.zeroValue3
  t4 := Try.underlying4
  a4 := Try.isAgg4
  z4 := Try.sizeOf4
  v4 := Try.zeroValue4
  t22 := Try.underlying37
  a22 := Try.isAgg37
  z22 := Try.sizeOf37
  v22 := Try.zeroValue37
  i3 := by kernel_rfl }
end Go.Proofs

namespace Go.Proofs.Ytpmjcinemabamaa
open Go.RowKit Go.BigFrame
set_option linter.unusedVariables false
set_option linter.unusedSimpArgs false

def insAt (l : List Int) (i : Nat) (x : Int) : List Int := l.take i ++ x :: l.drop i
theorem insAt_len {l : List Int} {i : Nat} (h : i ≤ l.length) (x : Int) : (insAt l i x).length = l.length + 1 := by
  simp [insAt]; omega
theorem insAt_get {l : List Int} {i : Nat} (h : i ≤ l.length) (x : Int) (k : Nat) : (insAt l i x).getD k 0 = if k < i then l.getD k 0 else if k = i then x else l.getD (k - 1) 0 := by
  unfold insAt
  rw [List.getD_eq_getElem?_getD, List.getElem?_append]
  have hl : (l.take i).length = i := by simp; omega
  rw [hl]
  by_cases h1 : k < i
  · rw [if_pos h1, if_pos h1, List.getElem?_take, if_pos h1, List.getD_eq_getElem?_getD]
  · rw [if_neg h1, if_neg h1]
    by_cases h2 : k = i
    · subst h2; simp
    · rw [if_neg h2]
      obtain ⟨j, hj⟩ : ∃ j, k - i = j + 1 := ⟨k - i - 1, by omega⟩
      rw [hj, List.getElem?_cons_succ, List.getElem?_drop, List.getD_eq_getElem?_getD, show i + j = k - 1 by omega]
theorem heap_setCells_other (b : Nat) {g : Nat} (h : g ≠ b) : ∀ (vs : List Value) (o : Nat) (w : World), (w.setCells b o vs).heap[g]? = w.heap[g]?
  | [], _, _ => rfl
  | v :: r, o, w => by rw [World.setCells, heap_setCells_other b h r, heap_set_other h]
theorem heap_setCells (b : Nat) : ∀ (vs : List Value) (o : Nat) (w : World) (c : Array Value) (t : TypeId) (f : Nat × Nat), w.heap[b]? = some (.cells c t f) → ∃ c', (w.setCells b o vs).heap[b]? = some (.cells c' t f) ∧ c'.size = c.size
  | [], _, _, c, _, _, h => ⟨c, h, rfl⟩
  | v :: r, o, w, c, t, f, h => by
    obtain ⟨c', h1, h2⟩ := heap_setCells b r (o + 1) _ _ t f (heap_set (j := o) v h)
    exact ⟨c', h1, h2.trans (by simp)⟩
theorem Turn.setCells {F : Nat → Prop} {a : World} {b : Nat} (hb : b < a.heap.size → F b) : ∀ (vs : List Value) (o : Nat) (w : World), Turn F a w → Turn F a (w.setCells b o vs)
  | [], _, _, h => h
  | v :: r, o, w, h => Turn.setCells hb r (o + 1) _ (h.set hb o v)
theorem Turn.drew {F : Nat → Prop} {a w : World} (h : Turn F a w) : Turn F a w.drew := ⟨h.os, h.tape, h.output, h.size, h.block⟩
theorem Turn.drewN {F : Nat → Prop} {a w : World} (h : Turn F a w) (n : Nat) : Turn F a (w.drewN n) := ⟨h.os, h.tape, h.output, h.size, h.block⟩
theorem cell_in {w : World} {b j : Nat} {c : Array Value} {t : TypeId} {f : Nat × Nat} (h : w.heap[b]? = some (.cells c t f)) : w.cell? ⟨b, j, none⟩ = c[j]? := cell_of_row _ _ j _ _ _ h
/-- A number was put in at a place. -/
def InsTo (v : Value) (l : List Int) (W : World) (e : Ending) (W' : World) : Prop :=
  ∃ v', e = .returned v' ∧ LstAt W' v' l ∧ Turn (fun k => v.ownBlock = some k) W W' ∧ ∀ g, v'.ownBlock = some g → v.ownBlock = some g ∨ W.heap.size ≤ g
theorem vals_get (l : List Int) (j : Nat) (v : Value) (h : (l.map (Value.int .i64))[j]? = some v) : j < l.length ∧ v = .int .i64 (l.getD j 0) := by
  rw [List.getElem?_map] at h
  cases hj : l[j]? with
  | none => rw [hj] at h; cases h
  | some y =>
    rw [hj] at h; cases h
    exact ⟨(List.getElem?_eq_some_iff.1 hj).1, by rw [List.getD_eq_getElem?_getD, hj]; rfl⟩
theorem vals_get' (l : List Int) (j : Nat) (h : j < l.length) : (l.map (Value.int .i64))[j]? = some (.int .i64 (l.getD j 0)) := by
  rw [List.getElem?_map, List.getD_eq_getElem?_getD, List.getElem?_eq_getElem h]; rfl
theorem one_vals (l : List Int) : ∀ v ∈ l.map (Value.int .i64), v.oneCell' = true := by
  intro v hv
  obtain ⟨x, _, rfl⟩ := List.mem_map.1 hv
  rfl
theorem ins87_grow (v : Value) (l : List Int) (i : Nat) (hi : i ≤ l.length) (x : Int) (vb : Nat) (W : World) (hl : l.length ≤ 1000000) (a : Option Addr) (cap : Nat) (hv' : v = .slice a l.length cap) (hcap : l.length ≤ cap) (hroom : cap < l.length + 1)
    (ha : a = none ∧ l = [] ∨ ∃ g, a = some ⟨g, 0, none⟩ ∧ ∀ j, j < l.length → W.cell? ⟨g, j, none⟩ = some (.int .i64 (l.getD j 0)))
    (hv : W.cell? ⟨vb, 0, none⟩ = some (.int .i64 x)) :
    Calls Try.prog 87 #[v, .int .i64 i, .slice (some ⟨vb, 0, none⟩) 1 1] W (InsTo v (insAt l i x) W) := by
  subst hv'
  have hvs : ∀ j u, [Value.int .i64 x][j]? = some u → W.cell? ⟨vb, 0 + j, none⟩ = some u := by
    intro j u hj
    cases j with
    | zero => simp at hj; subst hj; exact hv
    | succ j => simp at hj
  have hov : ∀ u ∈ [Value.int .i64 x], u.oneCell' = true := by simp [Value.oneCell']
  by_cases hie : i = l.length
  · subst hie
    refine (Any2.slices_Insert_int_end_grow Try.laysIns a l.length cap vb 0 1 1 (l.map (Value.int .i64)) [.int .i64 x] W (by omega) hcap hroom (by omega) (by simp) rfl (fun e => by rcases ha with ⟨_, rfl⟩ | ⟨g, rfl, _⟩; rfl; cases e) ?_ hvs hov).mono ?_
    · intro b hb j u hj
      obtain ⟨h1, rfl⟩ := vals_get _ _ _ hj
      rcases ha with ⟨rfl, _⟩ | ⟨g, rfl, hc⟩
      · cases hb
      · cases hb
        have := hc j h1
        rw [Addr.add_lit, Nat.zero_add]; exact this
    · rintro e W' ⟨rfl, rfl⟩
      have hg := grownCap_ge W (l.length + 1) cap 3
      have hg2 := grownCap_le_maxLen W (l.length + 1) cap 3 (by unfold maxLen; omega)
      unfold maxLen at hg2
      obtain ⟨C, hC⟩ : ∃ C, C = grownCap W (l.length + 1) cap 3 := ⟨_, rfl⟩
      have e3 : Try.laysIns_ren.t 3 = 3 := rfl
      rw [e3, ← hC]
      rw [← hC] at hg hg2
      refine ⟨_, rfl, Or.inr ⟨W.heap.size, C, _, ?_, heap_alloc_new W.drew _, ?_, hg2, ?_, ?_, ?_⟩, ?_, ?_⟩
      · rw [insAt_len (Nat.le_refl _)]
      · rw [insAt_len (Nat.le_refl _)]; exact hg
      · simp [size_zeroCells, Value.cells]; omega
      · simp [size_zeroCells, Value.cells]; omega
      · intro k hk
        rw [insAt_len (Nat.le_refl _)] at hk
        rw [insAt_get (Nat.le_refl _)]
        rw [Array.getElem?_append_left (by simp; omega)]
        simp only [List.getElem?_toArray]
        rw [List.getElem?_append]
        by_cases h1 : k < l.length
        · rw [if_pos (by simpa using h1), if_pos h1]; exact vals_get' _ _ h1
        · have : k = l.length := by omega
          subst this
          simp
      · exact (Turn.refl _ W).drew.alloc _
      · intro g hg'; cases hg'; exact Or.inr (Nat.le_refl _)
  · rcases ha with ⟨_, rfl⟩ | ⟨g, rfl, hc⟩
    · simp at hi hie; omega
    refine (Any2.slices_Insert_int_grow Try.laysIns g 0 l.length cap i vb 0 1 1 (l.map (Value.int .i64)) [.int .i64 x] W (by omega) (by omega) hcap hroom (by omega) (by simp) rfl ?_ hvs (one_vals l) hov).mono ?_
    · intro j u hj
      obtain ⟨h1, rfl⟩ := vals_get _ _ _ hj
      rw [Nat.zero_add]; exact hc j h1
    · rintro e W' ⟨rfl, rfl⟩
      have hg := grownCap_ge W (l.length + 1) cap 3
      have hg2 := grownCap_le_maxLen W (l.length + 1) cap 3 (by unfold maxLen; omega)
      unfold maxLen at hg2
      obtain ⟨C, hC⟩ : ∃ C, C = grownCap W (l.length + 1) cap 3 := ⟨_, rfl⟩
      have e3 : Try.laysIns_ren.t 3 = 3 := rfl
      rw [e3, ← hC]
      rw [← hC] at hg hg2
      obtain ⟨c0, hc0⟩ : ∃ c0, c0 = (((l.map (Value.int .i64)).take i).toArray ++ Builtin.zeroCells (Value.int .i64 0).cells (l.length + 1 - i) ++ Builtin.zeroCells (Value.int .i64 0).cells (C - (l.length + 1))) := ⟨_, rfl⟩
      rw [← hc0]
      have s0 : c0.size = C := by rw [hc0]; simp [size_zeroCells, Value.cells]; omega
      have g0 : ∀ k, k < i → c0[k]? = some (.int .i64 (l.getD k 0)) := by
        intro k hk
        rw [hc0, Array.getElem?_append_left (by simp [size_zeroCells]; omega), Array.getElem?_append_left (by simp; omega)]
        simp only [List.getElem?_toArray]
        rw [List.getElem?_take, if_pos hk]; exact vals_get' _ _ (by omega)
      clear hc0
      have h0 : (W.alloc (.cells c0 3)).heap[W.heap.size]? = some (.cells c0 3 (0, 0)) := heap_alloc_new W _
      obtain ⟨c1, h1, s1⟩ := heap_setCells W.heap.size [.int .i64 x] i (W.alloc (.cells c0 3)).drew c0 3 (0, 0) h0
      obtain ⟨c2, h2, s2⟩ := heap_setCells W.heap.size ((l.map (Value.int .i64)).drop i) (i + 1) (((W.alloc (.cells c0 3)).drew.setCells W.heap.size i [.int .i64 x]).drew) c1 3 (0, 0) h1
      have r0 : ∀ j, j < C → ((W.alloc (.cells c0 3)).drew.cell? ⟨W.heap.size, j, none⟩).isSome = true := fun j hj => by
        rw [cell_in (w := (W.alloc (.cells c0 3)).drew) h0, Array.getElem?_eq_getElem (by omega)]; rfl
      have r1 : ∀ j, j < C → ((((W.alloc (.cells c0 3)).drew.setCells W.heap.size i [.int .i64 x]).drew).cell? ⟨W.heap.size, j, none⟩).isSome = true := fun j hj => by
        rw [cell_in (w := ((W.alloc (.cells c0 3)).drew.setCells W.heap.size i [.int .i64 x]).drew) h1, Array.getElem?_eq_getElem (by omega)]; rfl
      refine ⟨_, rfl, Or.inr ⟨W.heap.size, C, c2, ?_, h2, ?_, hg2, by omega, by omega, ?_⟩, ?_, ?_⟩
      · rw [insAt_len hi]
      · rw [insAt_len hi]; exact hg
      · intro k hk
        rw [insAt_len hi] at hk
        rw [insAt_get hi, ← cell_in h2]
        by_cases k1 : k < i
        · rw [if_pos k1, World.cell?_setCells_out _ _ _ _ _ (fun _ _ => Or.inl (by show k < i + 1; omega))]
          show (((W.alloc (.cells c0 3)).drew.setCells W.heap.size i [.int .i64 x]).cell? ⟨W.heap.size, k, none⟩) = _
          rw [World.cell?_setCells_out _ _ _ _ _ (fun _ _ => Or.inl (by show k < i; omega))]
          rw [cell_in (w := (W.alloc (.cells c0 3)).drew) h0]; exact g0 k k1
        · rw [if_neg k1]
          by_cases k2 : k = i
          · subst k2
            rw [if_pos rfl, World.cell?_setCells_out _ _ _ _ _ (fun _ _ => Or.inl (by show k < k + 1; omega))]
            show (((W.alloc (.cells c0 3)).drew.setCells W.heap.size k [.int .i64 x]).cell? ⟨W.heap.size, k, none⟩) = _
            have := World.cell?_setCells_in W.heap.size [.int .i64 x] k (W.alloc (.cells c0 3)).drew (fun j hj => r0 _ (by simp at hj; omega)) 0 (by simp)
            simpa using this
          · rw [if_neg k2]
            have hd : ((l.map (Value.int .i64)).drop i).length = l.length - i := by simp
            have := World.cell?_setCells_in W.heap.size ((l.map (Value.int .i64)).drop i) (i + 1) (((W.alloc (.cells c0 3)).drew.setCells W.heap.size i [.int .i64 x]).drew) (fun j hj => r1 _ (by omega)) (k - (i + 1)) (by omega)
            rw [show i + 1 + (k - (i + 1)) = k by omega] at this
            rw [this]
            have e1 : ((l.map (Value.int .i64)).drop i)[k - (i + 1)]? = some (.int .i64 (l.getD (k - 1) 0)) := by
              rw [List.getElem?_drop, show i + (k - (i + 1)) = k - 1 by omega]; exact vals_get' _ _ (by omega)
            rw [← e1, List.getElem?_eq_getElem]
      · exact Turn.setCells (fun e => absurd e (by omega)) _ _ _ (Turn.setCells (fun e => absurd e (by omega)) _ _ _ ((Turn.refl _ W).alloc _).drew).drew
      · intro g hg'; cases hg'; exact Or.inr (Nat.le_refl _)
theorem ins87_room (g cap : Nat) (c : Array Value) (l : List Int) (i : Nat) (hi : i ≤ l.length) (x : Int) (vb : Nat) (W : World) (hl : l.length ≤ 1000000) (h : W.heap[g]? = some (.cells c 3 (0, 0))) (hroom : l.length + 1 ≤ cap) (hc63 : cap ≤ 9223372036854775807) (hcs : cap ≤ c.size) (hc : ∀ k, k < l.length → c[k]? = some (.int .i64 (l.getD k 0)))
    (hv : W.heap[vb]? = some (.cells #[.int .i64 x] 3 (0, 0))) (hne : vb ≠ g) :
    Calls Try.prog 87 #[.slice (some ⟨g, 0, none⟩) l.length cap, .int .i64 i, .slice (some ⟨vb, 0, none⟩) 1 1] W (InsTo (.slice (some ⟨g, 0, none⟩) l.length cap) (insAt l i x) W) := by
  have hvs : ∀ j u, [Value.int .i64 x][j]? = some u → W.cell? ⟨vb, 0 + j, none⟩ = some u := by
    intro j u hj
    cases j with
    | zero => simp at hj; subst hj; rw [cell_in hv]; rfl
    | succ j => simp at hj
  have hov : ∀ u ∈ [Value.int .i64 x], u.oneCell' = true := by simp [Value.oneCell']
  have hfz : ∀ b (c : Array Value) (t : TypeId), W.heap[b]? = some (.cells c t (0, 0)) → ∀ j, W.frozen? ⟨b, j, none⟩ = false := fun b c t h j => by unfold World.frozen?; rw [h]; simp
  have r0 : ∀ j, j < cap → (W.cell? ⟨g, j, none⟩).isSome = true := fun j hj => by
    rw [cell_in h, Array.getElem?_eq_getElem (by omega)]; rfl
  by_cases hie : i = l.length
  · subst hie
    refine (Any2.slices_Insert_int_end_room Try.laysIns g 0 l.length cap vb 0 1 1 [.int .i64 x] W (by omega) hroom hc63 rfl (fun j hj => by rw [show 0 + l.length + j = l.length + j by omega]; exact r0 _ (by omega)) (fun j hj => hfz _ _ _ h _) hvs hov).mono ?_
    rintro e W' ⟨rfl, rfl⟩
    rw [Nat.zero_add]
    obtain ⟨c1, h1, s1⟩ := heap_setCells g [.int .i64 x] l.length W c 3 (0, 0) h
    refine ⟨_, rfl, Or.inr ⟨g, cap, c1, ?_, h1, ?_, hc63, by omega, by omega, ?_⟩, ?_, fun g' hg' => by cases hg'; exact Or.inl rfl⟩
    · rw [insAt_len (Nat.le_refl _)]
    · rw [insAt_len (Nat.le_refl _)]; exact hroom
    · intro k hk
      rw [insAt_len (Nat.le_refl _)] at hk
      rw [insAt_get (Nat.le_refl _), ← cell_in h1]
      by_cases k1 : k < l.length
      · rw [if_pos k1, World.cell?_setCells_out _ _ _ _ _ (fun _ _ => Or.inl (by show k < l.length; omega)), cell_in h]; exact hc k k1
      · obtain rfl : k = l.length := by omega
        rw [if_neg k1, if_pos rfl]
        have := World.cell?_setCells_in g [.int .i64 x] l.length W (fun j hj => r0 _ (by simp at hj; omega)) 0 (by simp)
        simpa using this
    · exact Turn.setCells (F := fun k => (Value.slice (some ⟨g, 0, none⟩) l.length cap).ownBlock = some k) (fun _ => rfl) _ _ _ (Turn.refl _ W)
  · have hsa : W.shape? vb = some (3, 1) := by unfold World.shape?; rw [hv]; rfl
    have hsb : W.shape? g = some (3, c.size) := by unfold World.shape?; rw [h]
    refine (Any2.slices_Insert_int_shift Try.laysIns g 0 l.length cap i vb 0 1 1 (l.map (Value.int .i64)) [.int .i64 x] W (by omega) (by omega) hroom hc63 hne (by simp) rfl ?_ (fun j hj => by rw [Nat.zero_add]; exact r0 _ (by omega)) (fun j hj => hfz _ _ _ h _) hvs (one_vals l) hov 3 3 1 c.size hsa hsb (by omega) (hfz _ _ _ hv _) (hfz _ _ _ hv _)).mono ?_
    · intro j u hj
      obtain ⟨h1, rfl⟩ := vals_get _ _ _ hj
      rw [Nat.zero_add, cell_in h]; exact hc j h1
    · rintro e W' ⟨rfl, rfl⟩
      rw [Nat.zero_add, Nat.zero_add]
      have h0 : W.drew.heap[g]? = some (.cells c 3 (0, 0)) := h
      obtain ⟨c1, h1, s1⟩ := heap_setCells g ((l.map (Value.int .i64)).drop i) (i + 1) W.drew c 3 (0, 0) h0
      obtain ⟨c2, h2, s2⟩ := heap_setCells g [.int .i64 x] i (W.drew.setCells g (i + 1) ((l.map (Value.int .i64)).drop i)) c1 3 (0, 0) h1
      have q0 : ∀ j, j < cap → (W.drew.cell? ⟨g, j, none⟩).isSome = true := r0
      have q1 : ∀ j, j < cap → ((W.drew.setCells g (i + 1) ((l.map (Value.int .i64)).drop i)).cell? ⟨g, j, none⟩).isSome = true := fun j hj => by
        rw [cell_in h1, Array.getElem?_eq_getElem (by omega)]; rfl
      refine ⟨_, rfl, Or.inr ⟨g, cap, c2, ?_, h2, ?_, hc63, by omega, by omega, ?_⟩, ?_, fun g' hg' => by cases hg'; exact Or.inl rfl⟩
      · rw [insAt_len hi]
      · rw [insAt_len hi]; exact hroom
      · intro k hk
        rw [insAt_len hi] at hk
        rw [insAt_get hi, ← cell_in h2]
        have hd : ((l.map (Value.int .i64)).drop i).length = l.length - i := by simp
        by_cases k1 : k < i
        · rw [if_pos k1, World.cell?_setCells_out _ _ _ _ _ (fun _ _ => Or.inl (by show k < i; omega)), World.cell?_setCells_out _ _ _ _ _ (fun _ _ => Or.inl (by show k < i + 1; omega))]
          rw [cell_in h0]; exact hc k (by omega)
        · rw [if_neg k1]
          by_cases k2 : k = i
          · subst k2
            rw [if_pos rfl]
            have := World.cell?_setCells_in g [.int .i64 x] k (W.drew.setCells g (k + 1) ((l.map (Value.int .i64)).drop k)) (fun j hj => q1 _ (by simp at hj; omega)) 0 (by simp)
            simpa using this
          · rw [if_neg k2, World.cell?_setCells_out _ _ _ _ _ (fun _ _ => Or.inr (by show i + 1 ≤ k; omega))]
            have := World.cell?_setCells_in g ((l.map (Value.int .i64)).drop i) (i + 1) W.drew (fun j hj => q0 _ (by omega)) (k - (i + 1)) (by omega)
            rw [show i + 1 + (k - (i + 1)) = k by omega] at this
            rw [this]
            have e1 : ((l.map (Value.int .i64)).drop i)[k - (i + 1)]? = some (.int .i64 (l.getD (k - 1) 0)) := by
              rw [List.getElem?_drop, show i + (k - (i + 1)) = k - 1 by omega]; exact vals_get' _ _ (by omega)
            rw [← e1, List.getElem?_eq_getElem]
      · exact Turn.setCells (F := fun k => (Value.slice (some ⟨g, 0, none⟩) l.length cap).ownBlock = some k) (fun _ => rfl) _ _ _ (Turn.setCells (F := fun k => (Value.slice (some ⟨g, 0, none⟩) l.length cap).ownBlock = some k) (fun _ => rfl) _ _ _ (Turn.refl _ W).drew)
theorem ins87 (v : Value) (l : List Int) (i : Nat) (hi : i ≤ l.length) (x : Int) (vb : Nat) (W : World) (hl : l.length ≤ 1000000) (h : LstAt W v l) (hv : W.heap[vb]? = some (.cells #[.int .i64 x] 3 (0, 0))) (hne : v.ownBlock ≠ some vb) :
    Calls Try.prog 87 #[v, .int .i64 i, .slice (some ⟨vb, 0, none⟩) 1 1] W (InsTo v (insAt l i x) W) := by
  have hv0 : W.cell? ⟨vb, 0, none⟩ = some (.int .i64 x) := by rw [cell_in hv]; rfl
  rcases h with ⟨rfl, rfl⟩ | ⟨g, cap, c, rfl, h1, h2, h3, h4, h5, h6⟩
  · exact ins87_grow _ [] i hi x vb W hl none 0 rfl (Nat.le_refl _) (by simp) (Or.inl ⟨rfl, rfl⟩) hv0
  · by_cases hr : l.length + 1 ≤ cap
    · exact ins87_room g cap c l i hi x vb W hl h1 hr h3 h4 h6 hv (fun e => hne (by rw [e]; rfl))
    · exact ins87_grow _ l i hi x vb W hl (some ⟨g, 0, none⟩) cap rfl h2 (by omega) (Or.inr ⟨g, rfl, fun j hj => by rw [cell_in h1]; exact h6 j hj⟩) hv0
end Go.Proofs.Ytpmjcinemabamaa

namespace Go.Proofs.Ytpmjcinemabamaa
open Go.RowKit Go.BigFrame
set_option linter.unusedVariables false
set_option linter.unusedSimpArgs false

/-- A number into a rising row. -/
def insS (l : List Int) (x : Int) : List Int := if l.contains x then l else insAt l (l.countP (· < x)) x
/-- What lies at one place of a block of rows is another one. -/
def SetTo (fb t : Nat) (v : Value) (l : List Int) (W : World) (e : Ending) (W' : World) : Prop :=
  (∃ u, e = .returned u) ∧ ∃ v' W1, Turn (fun k => v.ownBlock = some k) W W1 ∧ LstAt W1 v' l ∧ (∀ g, v'.ownBlock = some g → v.ownBlock = some g ∨ W.heap.size ≤ g) ∧ W' = W1.setCell ⟨fb, t, none⟩ v'
theorem LstAt.slice {W : World} {v : Value} {l : List Int} (h : LstAt W v l) : ∃ a n c, v = .slice a n c := by
  rcases h with ⟨rfl, _⟩ | ⟨g, cap, c, rfl, _⟩
  · exact ⟨_, _, _, rfl⟩
  · exact ⟨_, _, _, rfl⟩
theorem search86 (v : Value) (l : List Int) (x : Int) (W : World) (hl : l.length ≤ 1000000) (h : LstAt W v l) (hs : l.Pairwise (· < ·)) :
    Calls Try.prog 86 #[v, .int .i64 x] W fun e w' => e = .returned (.tuple #[.int .i64 (l.countP (· < x) : Nat), .bool (l.contains x)]) ∧ w'.heap = W.heap ∧ Below W.heap.size W w' := by
  rcases h with ⟨rfl, rfl⟩ | ⟨g, cap, c, rfl, h1, h2, h3, h4, h5, h6⟩
  · refine (Try.slices_BinarySearch_int_empty none 0 x W).mono ?_
    rintro e w' ⟨rfl, rfl⟩
    exact ⟨rfl, rfl, Below.refl _ _⟩
  · refine (Try.slices_BinarySearch_int g 0 l.length cap l x W (Nat.le_refl _) (by omega) (fun j hj => by rw [Nat.zero_add, cell_in h1]; exact h6 j hj) (by rw [List.take_length]; exact hs.imp fun h => Int.le_of_lt h)).mono ?_
    rintro e w' ⟨rfl, q, rfl⟩
    rw [List.take_length]
    exact ⟨rfl, rfl, rfl, rfl, rfl, Nat.le_refl _, fun _ _ => rfl⟩
set_option maxRecDepth 100000 in
theorem put76_in (fb t : Nat) (v : Value) (l : List Int) (x : Int) (W : World) (hl : l.length ≤ 1000000) (hc : W.cell? ⟨fb, t, none⟩ = some v) (h : LstAt W v l) (hs : l.Pairwise (· < ·)) (hx : l.contains x = true) :
    Calls Try.prog 76 #[.pointer (some ⟨fb, t, none⟩), .int .i64 x] W (fun e W' => (∃ u, e = .returned u) ∧ Below W.heap.size W W' ∧ W'.heap = W.heap) := by
  have HS := Lib.hid (search86 v l x W hl h hs)
  rw [hx] at HS
  generalize l.countP (· < x) = i at *
  clear h hs hx
  go_enter Try.func76, Try.ntmps76
  go_wp2_with fail
  refine HS.out.mono ?_
  rintro e w1 ⟨rfl, hh, hb⟩
  have HH := Lib.hid hh
  have HB := Lib.hid hb
  clear hh hb
  go_wp2_with fail
  go_end0
  exact ⟨⟨_, rfl⟩, HB.out, HH.out⟩
set_option maxRecDepth 100000 in
theorem put76_new (fb t : Nat) (v : Value) (l : List Int) (x : Int) (W : World) (hl : l.length ≤ 1000000) (hc : W.cell? ⟨fb, t, none⟩ = some v) (hf : W.frozen? ⟨fb, t, none⟩ = false) (hlt : fb < W.heap.size) (hfv : v.ownBlock ≠ some fb) (h : LstAt W v l) (hs : l.Pairwise (· < ·)) (hx : l.contains x = false) :
    Calls Try.prog 76 #[.pointer (some ⟨fb, t, none⟩), .int .i64 x] W (SetTo fb t v (insAt l (l.countP (· < x)) x) W) := by
  have HS := Lib.hid (search86 v l x W hl h hs)
  rw [hx] at HS
  have HL : Hid (∀ w : World, w.heap = W.heap → ∀ vb, w.heap.size = vb → Calls Try.prog 87 #[v, .int .i64 (l.countP (· < x) : Nat), .slice (some ⟨vb, 0, none⟩) 1 1] (w.alloc (.cells #[.int .i64 x] 3)) (InsTo v (insAt l (l.countP (· < x)) x) (w.alloc (.cells #[.int .i64 x] 3)))) := Lib.hid fun w hw vb hvb => by
    subst hvb
    refine ins87 v l (l.countP (· < x)) List.countP_le_length x w.heap.size _ hl ?_ (heap_alloc_new w _) (fun e => ?_)
    · refine h.keep fun g hg => ?_
      have := h.lt hg
      rw [Below.heap_alloc _ _ _ (by rw [hw]; exact this), hw]
    · have := h.lt e; rw [hw] at this; omega
  generalize l.countP (· < x) = i at *
  have HLT := Lib.hid hlt
  have HF := Lib.hid hf
  have HFV := Lib.hid hfv
  have HC := Lib.hid hc
  clear h hs hx hlt hf hfv
  go_enter Try.func76, Try.ntmps76
  go_wp2_with fail
  refine HS.out.mono ?_
  rintro e w1 ⟨rfl, hh, hb⟩
  have hc1 : w1.cell? ⟨fb, t, none⟩ = some v := (cell_same hh _).trans HC.out
  have HH := Lib.hid hh
  have HB := Lib.hid hb
  clear hh hb
  go_wp2_with fail
  refine (HL.out w1 HH.out _ rfl).mono ?_
  rintro e w2 ⟨v', rfl, hl', ht, hn⟩
  have hsz : W.heap.size < (w1.alloc (.cells #[.int .i64 x] 3)).heap.size := by simp [HH.out]
  have e2 : w2.heap[fb]? = W.heap[fb]? := by
    rw [ht.block fb (by have := HLT.out; omega) (fun e => HFV.out e), Below.heap_alloc _ _ _ (by rw [HH.out]; exact HLT.out), HH.out]
  have hc2 : w2.cell? ⟨fb, t, none⟩ = some v := (cell_of_heap e2 t).trans HC.out
  have hf2 : w2.frozen? ⟨fb, t, none⟩ = false := (frozen_of_heap e2 t).trans HF.out
  have HE : Hid (Turn (fun k => v.ownBlock = some k) W w2) := Lib.hid (((Turn.of_below HB.out).alloc _).trans ht (fun _ _ h => h))
  have HN : Hid (∀ g, v'.ownBlock = some g → v.ownBlock = some g ∨ W.heap.size ≤ g) := Lib.hid fun g hg => by
    rcases hn g hg with h | h
    · exact Or.inl h
    · exact Or.inr (by omega)
  have HL2 := Lib.hid hl'
  obtain ⟨a', n', k', rfl⟩ := hl'.slice
  clear ht hl' hn hsz e2 hc hc1
  go_wp2_with fail
  go_end0
  exact ⟨⟨_, rfl⟩, _, w2, HE.out, HL2.out, HN.out, rfl⟩
end Go.Proofs.Ytpmjcinemabamaa

namespace Go.Proofs.Ytpmjcinemabamaa
open Go.RowKit Go.BigFrame
set_option linter.unusedVariables false
set_option linter.unusedSimpArgs false

theorem insAt_mem {l : List Int} {i : Nat} {x y : Int} (h : y ∈ insAt l i x) : y = x ∨ y ∈ l := by
  unfold insAt at h
  rw [List.mem_append, List.mem_cons] at h
  rcases h with h | h | h
  · exact Or.inr (List.mem_of_mem_take h)
  · exact Or.inl h
  · exact Or.inr (List.mem_of_mem_drop h)
theorem mem_insAt {l : List Int} {i : Nat} {x y : Int} : y ∈ insAt l i x ↔ y = x ∨ y ∈ l := by
  constructor
  · exact insAt_mem
  · intro h
    unfold insAt
    rw [List.mem_append, List.mem_cons]
    rcases h with rfl | h
    · exact Or.inr (Or.inl rfl)
    · rw [← List.take_append_drop i l, List.mem_append] at h
      rcases h with h | h
      · exact Or.inl h
      · exact Or.inr (Or.inr h)
theorem countP_take (l : List Int) (x : Int) (hs : l.Pairwise (· < ·)) : (∀ y ∈ l.take (l.countP (· < x)), y < x) ∧ (∀ y ∈ l.drop (l.countP (· < x)), x ≤ y) := by
  induction l with
  | nil => simp
  | cons a l ih =>
    obtain ⟨h1, h2⟩ := List.pairwise_cons.1 hs
    obtain ⟨i1, i2⟩ := ih h2
    by_cases ha : a < x
    · rw [List.countP_cons_of_pos (by simpa using ha), List.take_succ_cons, List.drop_succ_cons]
      refine ⟨fun y hy => ?_, i2⟩
      rcases List.mem_cons.1 hy with rfl | hy
      · exact ha
      · exact i1 y hy
    · have : l.countP (· < x) = 0 := by
        rw [List.countP_eq_zero]
        intro y hy
        have := h1 y hy
        simp; omega
      rw [List.countP_cons_of_neg (by simpa using ha), this]
      refine ⟨by simp, fun y hy => ?_⟩
      simp at hy
      rcases hy with rfl | hy
      · omega
      · have := h1 y hy; omega
theorem insS_mem {l : List Int} {x y : Int} : y ∈ insS l x ↔ y = x ∨ y ∈ l := by
  unfold insS
  split
  · rename_i h
    have : x ∈ l := by simpa using h
    constructor
    · exact Or.inr
    · rintro (rfl | h)
      · exact this
      · exact h
  · exact mem_insAt
theorem insS_rise {l : List Int} {x : Int} (hs : l.Pairwise (· < ·)) : (insS l x).Pairwise (· < ·) := by
  unfold insS
  split
  · exact hs
  · rename_i h
    have hx : x ∉ l := by simpa using h
    obtain ⟨h1, h2⟩ := countP_take l x hs
    unfold insAt
    rw [List.pairwise_append]
    refine ⟨hs.sublist (List.take_sublist _ _), ?_, ?_⟩
    · rw [List.pairwise_cons]
      refine ⟨fun y hy => ?_, hs.sublist (List.drop_sublist _ _)⟩
      have := h2 y hy
      have : y ≠ x := fun e => hx (e ▸ List.mem_of_mem_drop hy)
      omega
    · intro y hy z hz
      have a := h1 y hy
      rcases List.mem_cons.1 hz with rfl | hz
      · exact a
      · have := h2 z hz; omega
/-- A rising row of numbers below n has at most n. -/
theorem rise_len : ∀ (l : List Int) (n : Nat) (a : Int), l.Pairwise (· < ·) → (∀ x ∈ l, a ≤ x ∧ x < n) → a ≤ n → (l.length : Int) ≤ n - a
  | [], n, a, _, _, h => by simp; omega
  | x :: l, n, a, hs, h, hn => by
    obtain ⟨h1, h2⟩ := List.pairwise_cons.1 hs
    have hx := h x (by simp)
    have := rise_len l n (x + 1) h2 (fun y hy => by have := h1 y hy; have := h y (by simp [hy]); omega) (by omega)
    simp; omega
theorem MemAt.fl_len {W : World} {M : Mv} (h : MemAt W M) {t : Nat} (ht : t < M.nt) : (M.fl t).length ≤ M.n := by
  have := rise_len (M.fl t) M.n 0 (h.rise t ht) (h.inn t ht) (by omega)
  omega
/-- What a thread flushes is another row now. -/
theorem MemAt.set_fl {W W1 : World} {M : Mv} (h : MemAt W M) {t : Nat} (ht : t < M.nt) {v' : Value} {l' : List Int} (hT : Turn (fun k => (M.fv t).ownBlock = some k) W W1) (hl : LstAt W1 v' l') (hv : ∀ g, v'.ownBlock = some g → (M.fv t).ownBlock = some g ∨ W.heap.size ≤ g)
    (hs : l'.Pairwise (· < ·)) (hi : ∀ x ∈ l', 0 ≤ x ∧ x < M.n) :
    MemAt (W1.setCell ⟨M.fb, t, none⟩ v') { M with fl := upd M.fl t l', fv := upd M.fv t v' } ∧ Turn M.own W (W1.setCell ⟨M.fb, t, none⟩ v') ∧ ∀ k, ({ M with fl := upd M.fl t l', fv := upd M.fv t v' } : Mv).own k → M.own k ∨ W.heap.size ≤ k := by
  have n := h.ne
  have o1 : ∀ k, k ∈ M.blocks → W1.heap[k]? = W.heap[k]? := fun k hk => hT.block k (h.lt (Or.inl hk)) fun e => h.alone t ht k e hk
  have o : ∀ k, k ∈ M.blocks → k ≠ M.fb → (W1.setCell ⟨M.fb, t, none⟩ v').heap[k]? = W.heap[k]? := fun k hk e => (heap_set_other e).trans (o1 k hk)
  have hfb : M.fb ∈ M.blocks := by simp [Mv.blocks]
  have hfl : M.fb < W.heap.size := h.lt (Or.inl hfb)
  refine ⟨?_, ?_, ?_⟩
  · exact { h with
      row := (o _ (by simp [Mv.blocks]) n.mf).trans h.row
      dev := (o _ (by simp [Mv.blocks]) n.df).trans h.dev
      kept := h.kept.keep (o _ (by simp [Mv.blocks]) n.kf)
      seen := h.seen.keep (o _ (by simp [Mv.blocks]) n.sf)
      wr := h.wr.keep (o _ (by simp [Mv.blocks]) n.wf)
      fb := (h.fb.keep (o1 _ hfb)).set t v'
      pass := h.pass.keep (o _ (by simp [Mv.blocks]) (Ne.symm n.fp))
      fl := fun t' ht' => by
        show LstAt _ (upd M.fv t v' t') (upd M.fl t l' t')
        by_cases e : t' = t
        · subst e
          rw [upd_at, upd_at]
          refine hl.keep fun g hg => heap_set_other fun e => ?_
          rcases hv g hg with h1 | h1
          · exact h.alone _ ht g h1 (e ▸ hfb)
          · omega
        · rw [upd_ne _ _ e, upd_ne _ _ e]
          refine (h.fl t' ht').keep fun g hg => ?_
          rw [heap_set_other (fun (e' : g = M.fb) => h.alone t' ht' g hg (e' ▸ hfb))]
          exact hT.block g ((h.fl t' ht').lt hg) fun e' => h.lone t ht t' ht' (Ne.symm e) g e' hg
      alone := fun t' ht' g hg hb => by
        have hg : (upd M.fv t v' t').ownBlock = some g := hg
        have hb : g ∈ M.blocks := hb
        by_cases e : t' = t
        · subst e
          rw [upd_at] at hg
          rcases hv g hg with h1 | h1
          · exact h.alone _ ht g h1 hb
          · have := h.lt (Or.inl hb); omega
        · rw [upd_ne _ _ e] at hg; exact h.alone t' ht' g hg hb
      lone := fun a ha b hb hab g hg0 hg1 => by
        have hg : (upd M.fv t v' a).ownBlock = some g := hg0
        have hg' : (upd M.fv t v' b).ownBlock = some g := hg1
        have ha : a < M.nt := ha
        have hb : b < M.nt := hb
        clear hg0 hg1
        by_cases e : a = t
        · rw [e, upd_at] at hg
          rw [upd_ne _ _ (fun e' => hab (e.trans e'.symm))] at hg'
          rcases hv g hg with h1 | h1
          · exact h.lone _ ht b hb (fun e' => hab (e.trans e')) g h1 hg'
          · have := (h.fl b hb).lt hg'; omega
        · rw [upd_ne _ _ e] at hg
          by_cases e' : b = t
          · rw [e', upd_at] at hg'
            rcases hv g hg' with h1 | h1
            · exact h.lone a ha _ ht e g hg h1
            · have := (h.fl a ha).lt hg; omega
          · rw [upd_ne _ _ e'] at hg'; exact h.lone a ha b hb hab g hg hg'
      rise := fun t' ht' => by
        show (upd M.fl t l' t').Pairwise (· < ·)
        by_cases e : t' = t
        · subst e; rw [upd_at]; exact hs
        · rw [upd_ne _ _ e]; exact h.rise t' ht'
      inn := fun t' ht' => by
        show ∀ x ∈ upd M.fl t l' t', 0 ≤ x ∧ x < M.n
        by_cases e : t' = t
        · subst e; rw [upd_at]; exact hi
        · rw [upd_ne _ _ e]; exact h.inn t' ht' }
  · exact (hT.mono fun k _ e => Or.inr ⟨t, ht, e⟩).set (fun _ => Or.inl hfb) _ _
  · rintro k (hk | ⟨t', ht', hk⟩)
    · exact Or.inl (Or.inl hk)
    · have hk : (upd M.fv t v' t').ownBlock = some k := hk
      by_cases e : t' = t
      · subst e
        rw [upd_at] at hk
        rcases hv k hk with h1 | h1
        · exact Or.inl (Or.inr ⟨_, ht, h1⟩)
        · exact Or.inr h1
      · rw [upd_ne _ _ e] at hk; exact Or.inl (Or.inr ⟨t', ht', hk⟩)
/-- The memory turned into another one that owns no more but new blocks. -/
def Into (M M' : Mv) (W W' : World) : Prop := MemAt W' M' ∧ Turn M.own W W' ∧ ∀ k, M'.own k → M.own k ∨ W.heap.size ≤ k
theorem Into.trans {M M' M'' : Mv} {W W' W'' : World} (h : Into M M' W W') (k : Into M' M'' W' W'') : Into M M'' W W'' := by
  have hs := h.2.1.size
  refine ⟨k.1, h.2.1.trans k.2.1 fun i hi e => ?_, fun i e => ?_⟩
  · rcases h.2.2 i e with h1 | h1
    · exact h1
    · omega
  · rcases k.2.2 i e with h1 | h1
    · exact h.2.2 i h1
    · exact Or.inr (by omega)
theorem Into.below {M M' : Mv} {W W' W'' : World} (h : Into M M' W W') (k : Below W'.heap.size W' W'') : Into M M' W W'' :=
  ⟨h.1.below k, h.2.1.trans (Turn.of_below k) (fun _ _ h => h), h.2.2⟩
theorem Into.of_below {M M' : Mv} {W W' W'' : World} (k : Below W.heap.size W W') (h : Into M M' W' W'') : Into M M' W W'' :=
  ⟨h.1, (Turn.of_below k).trans h.2.1 (fun _ _ h => h), fun i e => (h.2.2 i e).imp id fun h => by have := k.size; omega⟩
theorem Into.refl {M : Mv} {W : World} (h : MemAt W M) : Into M M W W := ⟨h, Turn.refl _ _, fun _ h => Or.inl h⟩
/-- A thread flushes a line: its error, and the memory behind it. -/
def Mv.flushE (M : Mv) (t l : Int) : Int := if threadE M.nt t = 0 then lineE M.n l else 1
def Mv.flushed (M : Mv) (t l : Int) (v : Value) : Mv := { M with fl := upd M.fl t.toNat (insS (M.fl t.toNat) l), fv := upd M.fv t.toNat v }
def FlushTo (M : Mv) (t l : Int) (W : World) (e : Ending) (W' : World) : Prop :=
  e = .returned (.int .i64 (M.flushE t l)) ∧ (M.flushE t l ≠ 0 ∧ Into M M W W' ∨ M.flushE t l = 0 ∧ ∃ v, Into M (M.flushed t l v) W W')
theorem flush57_no (M : Mv) (t l : Int) (W : World) (h : MemAt W M) (hn : M.flushE t l ≠ 0) :
    Calls Try.prog 57 #[.pointer (some ⟨M.d, 0, none⟩), .int .i64 t, .int .i64 l] W (FlushTo M t l W) := by
  have HT := Lib.hid (thread74 M.d (some ⟨M.fb, 0, none⟩) M.nt M.c3 t W (by rw [cell_in h.dev]; rfl))
  have HL := Lib.hid (line75 M.d (some ⟨M.sb, 0, none⟩) M.n M.c1 l W (by rw [cell_in h.dev]; rfl))
  have HM := Lib.hid h
  have HN := Lib.hid hn
  unfold Mv.flushE at hn
  by_cases h0 : threadE M.nt t = 0
  · rw [if_pos h0] at hn
    have e5 : lineE M.n l = 5 := by unfold lineE at *; split at hn <;> simp_all
    have eF : M.flushE t l = 5 := by unfold Mv.flushE; rw [if_pos h0]; exact e5
    have HE : Hid (M.flushE t l = 5) := Lib.hid eF
    rw [h0] at HT
    rw [e5] at HL
    clear h hn h0 e5 eF
    go_enter Try.func57, Try.ntmps57
    go_wp2_with fail
    refine HT.out.mono ?_
    rintro e w ⟨rfl, hw⟩
    cases hw
    go_wp2_with fail
    refine HL.out.mono ?_
    rintro e w ⟨rfl, hw⟩
    cases hw
    go_wp2_with fail
    go_ret
    exact ⟨by rw [HE.out]; rfl, Or.inl ⟨HN.out, Into.refl HM.out⟩⟩
  · have e1 : threadE M.nt t = 1 := by unfold threadE at *; split at h0 <;> simp_all
    have eF : M.flushE t l = 1 := by unfold Mv.flushE; rw [if_neg h0]
    have HE : Hid (M.flushE t l = 1) := Lib.hid eF
    rw [e1] at HT
    clear h hn h0 e1 eF
    go_enter Try.func57, Try.ntmps57
    go_wp2_with fail
    refine HT.out.mono ?_
    rintro e w ⟨rfl, hw⟩
    cases hw
    go_wp2_with fail
    go_ret
    exact ⟨by rw [HE.out]; rfl, Or.inl ⟨HN.out, Into.refl HM.out⟩⟩
/-- A line into what a thread flushes. -/
theorem put76 (M : Mv) (t : Nat) (ht : t < M.nt) (l : Int) (h0 : 0 ≤ l) (h1 : l < M.n) (W : World) (h : MemAt W M) :
    Calls Try.prog 76 #[.pointer (some ⟨M.fb, t, none⟩), .int .i64 l] W (fun e W' => (∃ u, e = .returned u) ∧ ∃ v, Into M (M.flushed t l v) W W') := by
  have hl := h.fl_len ht
  have hn := h.n1
  have hin : ∀ x ∈ insS (M.fl t) l, 0 ≤ x ∧ x < M.n := fun x hx => by
    rcases insS_mem.1 hx with rfl | hx
    · exact ⟨h0, h1⟩
    · exact h.inn t ht x hx
  have hr := insS_rise (x := l) (h.rise t ht)
  unfold Mv.flushed
  rw [Int.toNat_natCast]
  by_cases hx : (M.fl t).contains l = true
  · have e : insS (M.fl t) l = M.fl t := by unfold insS; rw [if_pos hx]
    refine (put76_in M.fb t (M.fv t) (M.fl t) l W (by omega) (h.fb.cell ht) (h.fl t ht) (h.rise t ht) hx).mono ?_
    rintro e' W' ⟨hu, hb, hh⟩
    refine ⟨hu, M.fv t, ?_⟩
    rw [e]
    have e1 : upd M.fl t (M.fl t) = M.fl := by funext k; unfold upd; split <;> simp_all
    have e2 : upd M.fv t (M.fv t) = M.fv := by funext k; unfold upd; split <;> simp_all
    rw [e1, e2]
    exact (Into.refl h).below hb
  · have hx' : (M.fl t).contains l = false := by simpa using hx
    have e : insS (M.fl t) l = insAt (M.fl t) ((M.fl t).countP (· < l)) l := by unfold insS; rw [if_neg hx]
    refine (put76_new M.fb t (M.fv t) (M.fl t) l W (by omega) (h.fb.cell ht) (h.fb.free t) h.fb.lt (fun e => h.alone t ht _ e (by simp [Mv.blocks])) (h.fl t ht) (h.rise t ht) hx').mono ?_
    rintro e' W' ⟨hu, v', W1, hT, hL, hv, rfl⟩
    rw [← e] at hL
    obtain ⟨a, b, c⟩ := h.set_fl ht hT hL hv hr hin
    exact ⟨hu, v', a, b, c⟩
set_option maxRecDepth 100000 in
theorem flush57_yes (M : Mv) (t l : Int) (W : World) (h : MemAt W M) (hn : M.flushE t l = 0) :
    Calls Try.prog 57 #[.pointer (some ⟨M.d, 0, none⟩), .int .i64 t, .int .i64 l] W (FlushTo M t l W) := by
  have HT := Lib.hid (thread74 M.d (some ⟨M.fb, 0, none⟩) M.nt M.c3 t W (by rw [cell_in h.dev]; rfl))
  have HL := Lib.hid (line75 M.d (some ⟨M.sb, 0, none⟩) M.n M.c1 l W (by rw [cell_in h.dev]; rfl))
  have HN := Lib.hid hn
  unfold Mv.flushE at hn
  have h0 : threadE M.nt t = 0 := by by_cases h0 : threadE M.nt t = 0; exact h0; rw [if_neg h0] at hn; cases hn
  rw [if_pos h0] at hn
  rw [h0] at HT
  rw [hn] at HL
  unfold threadE at h0
  unfold lineE at hn
  have a0 : 0 ≤ t ∧ t < M.nt := by split at h0; cases h0; omega
  have a1 : 0 ≤ l ∧ l < M.n := by split at hn; cases hn; omega
  obtain ⟨k, rfl⟩ := Int.eq_ofNat_of_zero_le a0.1
  have b0 : (0 : Int) ≤ (k : Int) := by omega
  have b1 : (k : Int) < (M.nt : Int) := a0.2
  have HP := Lib.hid (put76 M k (by omega) l a1.1 a1.2 W h)
  have hd : W.cell? ⟨M.d, 3, none⟩ = some (.slice (some ⟨M.fb, 0, none⟩) M.nt M.c3) := by rw [cell_in h.dev]; rfl
  clear h hn h0 a0 a1
  go_enter Try.func57, Try.ntmps57
  go_wp2_with fail
  refine HT.out.mono ?_
  rintro e w ⟨rfl, hw⟩
  cases hw
  go_wp2_with fail
  refine HL.out.mono ?_
  rintro e w ⟨rfl, hw⟩
  cases hw
  go_wp2_with fail
  refine HP.out.mono ?_
  rintro e w ⟨⟨u, rfl⟩, hv⟩
  have HV := Lib.hid hv
  clear hv
  go_wp2_with fail
  go_ret
  exact ⟨by rw [HN.out]; rfl, Or.inr ⟨HN.out, HV.out⟩⟩
theorem flush57 (M : Mv) (t l : Int) (W : World) (h : MemAt W M) :
    Calls Try.prog 57 #[.pointer (some ⟨M.d, 0, none⟩), .int .i64 t, .int .i64 l] W (FlushTo M t l W) := by
  by_cases hn : M.flushE t l = 0
  · exact flush57_yes M t l W h hn
  · exact flush57_no M t l W h hn
end Go.Proofs.Ytpmjcinemabamaa

namespace Go.Proofs.Ytpmjcinemabamaa
open Go.RowKit Go.BigFrame
set_option linter.unusedVariables false
set_option linter.unusedSimpArgs false

theorem RowAt.put8 {W : World} {b n : Nat} {f : Nat → Value} (h : RowAt W b n f) (o : Nat) (l : Nat → Int) : RowAt (put8 W b o l) b n (fun k => if o ≤ k ∧ k < o + 8 then .int .u64 (l (k - o)) else f k) := by
  refine ((((((((h.set o (.int .u64 (l 0))).set (o + 1) (.int .u64 (l 1))).set (o + 2) (.int .u64 (l 2))).set (o + 3) (.int .u64 (l 3))).set (o + 4) (.int .u64 (l 4))).set (o + 5) (.int .u64 (l 5))).set (o + 6) (.int .u64 (l 6))).set (o + 7) (.int .u64 (l 7))).congr fun k _ => ?_
  by_cases hk : o ≤ k ∧ k < o + 8
  · rw [if_pos hk]
    obtain ⟨j, rfl⟩ : ∃ j, k = o + j := ⟨k - o, by omega⟩
    have hj : j < 8 := by omega
    rw [show o + j - o = j by omega]
    have c : j = 0 ∨ j = 1 ∨ j = 2 ∨ j = 3 ∨ j = 4 ∨ j = 5 ∨ j = 6 ∨ j = 7 := by omega
    rcases c with rfl | rfl | rfl | rfl | rfl | rfl | rfl | rfl <;> simp [upd]
  · rw [if_neg hk]
    have : ∀ j, j < 8 → k ≠ o + j := fun j hj => by omega
    unfold upd
    rw [if_neg (this 7 (by omega)), if_neg (this 6 (by omega)), if_neg (this 5 (by omega)), if_neg (this 4 (by omega)), if_neg (this 3 (by omega)), if_neg (this 2 (by omega)), if_neg (this 1 (by omega)), if_neg (show k ≠ o by omega)]
theorem put8_turn {F : Nat → Prop} {a w : World} (h : Turn F a w) {b : Nat} (hb : b < a.heap.size → F b) (o : Nat) (l : Nat → Int) : Turn F a (put8 w b o l) := by
  unfold put8
  exact (((((((h.set hb _ _).set hb _ _).set hb _ _).set hb _ _).set hb _ _).set hb _ _).set hb _ _).set hb _ _
/-- A line is written back. -/
def Mv.back1 (M : Mv) (i : Nat) : Mv := { M with kept := fun k => if k / 8 = i then M.seen k else M.kept k, wr := upd M.wr i (M.wr i + 1) }
theorem back78M (M : Mv) (i : Nat) (hi : i < M.n) (W : World) (h : MemAt W M) (hw : M.wr i < M.wm) (hm : M.wm ≤ 1000000) :
    Calls Try.prog 78 #[.pointer (some ⟨M.d, 0, none⟩), .int .i64 i] W (Done M (M.back1 i) W) := by
  have n := h.ne
  have hw0 := h.wr0 i hi
  refine (back78 M.d M.kb M.sb M.wb M.n M.c0 M.c1 M.c2 h.n1 i hi (fun r => M.kept (i * 8 + r)) (fun r => M.seen (i * 8 + r)) (M.wr i) hw0.1 (by omega) W (by rw [cell_in h.dev]; rfl) (by rw [cell_in h.dev]; rfl) (by rw [cell_in h.dev]; rfl)
    (fun r hr => h.kept.cell (by omega)) (fun r hr => h.seen.cell (by omega)) (h.wr.cell hi) h.kept.free h.wr.free (Ne.symm n.dk) (Ne.symm n.kw) (Ne.symm n.dw) (Ne.symm n.ks)).mono ?_
  rintro e W' ⟨hx, w1, ⟨hh, hb⟩, rfl⟩
  have hT : Turn M.own W w1 := (put8_turn (Turn.refl _ W) (fun _ => Or.inl (by simp [Mv.blocks])) _ _).trans (Turn.of_below hb) (fun _ _ h => h)
  have o1 : ∀ k, k ≠ M.kb → w1.heap[k]? = W.heap[k]? := fun k hk => by rw [hh]; exact put8_heap hk
  have o : ∀ k, k ≠ M.kb → k ≠ M.wb → (w1.setCell ⟨M.wb, i, none⟩ (.int .i64 (M.wr i + 1))).heap[k]? = W.heap[k]? := fun k hk e => (heap_set_other e).trans (o1 k hk)
  refine ⟨hx, ?_, hT.set (fun _ => Or.inl (by simp [Mv.blocks])) _ _⟩
  exact { h with
    row := (o _ n.mkb n.mw).trans h.row
    dev := (o _ n.dk n.dw).trans h.dev
    kept := by
      refine RowAt.keep (W := w1) ?_ (heap_set_other n.kw)
      refine RowAt.congr (RowAt.keep (h.kept.put8 (i * 8) (fun r => M.seen (i * 8 + r))) (by rw [hh])) fun k hk => ?_
      show _ = Value.int .u64 (if k / 8 = i then M.seen k else M.kept k)
      by_cases c : i * 8 ≤ k ∧ k < i * 8 + 8
      · rw [if_pos c, if_pos (by omega), show i * 8 + (k - i * 8) = k by omega]
      · rw [if_neg c, if_neg (by omega)]
    seen := h.seen.keep (o _ (Ne.symm n.ks) n.sw)
    wr := by
      have := (h.wr.keep (o1 _ (Ne.symm n.kw))).set i (.int .i64 (M.wr i + 1))
      simp only [Mv.back1, upd_map]
      exact this
    fb := h.fb.keep (o _ (Ne.symm n.kf) (Ne.symm n.wf))
    pass := h.pass.keep (o _ (Ne.symm n.kp) (Ne.symm n.wp))
    fl := fun t ht => (h.fl t ht).keep fun g hg => o g (fun e => h.alone t ht g hg (by rw [e]; simp [Mv.blocks])) (fun e => h.alone t ht g hg (by rw [e]; simp [Mv.blocks]))
    wr0 := fun k hk => by
      show 0 ≤ upd M.wr i (M.wr i + 1) k ∧ upd M.wr i (M.wr i + 1) k ≤ M.wm
      by_cases e : k = i
      · rw [e, upd_at]; omega
      · rw [upd_ne _ _ e]; exact h.wr0 k hk }
/-- Lines are written back, each once. -/
def Mv.backs (M : Mv) (l : List Int) : Mv := { M with kept := fun i => if l.contains ((i / 8 : Nat) : Int) then M.seen i else M.kept i, wr := fun n => if l.contains (n : Int) then M.wr n + 1 else M.wr n, wm := M.wm + 1 }
theorem backs_nil {W : World} {M : Mv} (h : MemAt W M) : MemAt W (M.backs []) := by
  exact { h with
    kept := h.kept
    wr := h.wr
    wr0 := fun k hk => by
      have := h.wr0 k hk
      show 0 ≤ (if ([] : List Int).contains (k : Int) then M.wr k + 1 else M.wr k) ∧ (if ([] : List Int).contains (k : Int) then M.wr k + 1 else M.wr k) ≤ M.wm + 1
      simp; omega }
theorem backs_step (M : Mv) (l : List Int) (i : Nat) (hi : (i : Int) ∉ l) : (M.backs l).back1 i = M.backs (l ++ [(i : Int)]) := by
  unfold Mv.backs Mv.back1
  have e1 : (fun k => if k / 8 = i then M.seen k else if l.contains ((k / 8 : Nat) : Int) then M.seen k else M.kept k) = fun k => if (l ++ [(i : Int)]).contains ((k / 8 : Nat) : Int) then M.seen k else M.kept k := by
    funext k
    by_cases c : k / 8 = i
    · simp [c]
    · have : ¬ ((k / 8 : Nat) : Int) = (i : Int) := by omega
      simp [c]
      congr 1
      simp
      omega
  have e2 : upd (fun n : Nat => if l.contains (n : Int) then M.wr n + 1 else M.wr n) i ((if l.contains (i : Int) then M.wr i + 1 else M.wr i) + 1) = fun n : Nat => if (l ++ [(i : Int)]).contains (n : Int) then M.wr n + 1 else M.wr n := by
    funext k
    by_cases c : k = i
    · subst c
      rw [upd_at]; simp [hi]
    · rw [upd_ne _ _ c]
      have : ¬ ((k : Int) = (i : Int)) := by omega
      simp [this]
  simp only [e1, e2]
theorem Mv.backs_own (M : Mv) (l : List Int) : (M.backs l).own = M.own := rfl
end Go.Proofs.Ytpmjcinemabamaa

namespace Go.Proofs.Ytpmjcinemabamaa
open Go.RowKit Go.BigFrame
set_option linter.unusedVariables false
set_option linter.unusedSimpArgs false

def Mv.taken (M : Mv) (t : Nat) : Mv := { M with fl := upd M.fl t [], fv := upd M.fv t (.slice none 0 0) }
/-- A thread's lines are written back. -/
def Mv.fenced (M : Mv) (t : Int) : Mv := (M.taken t.toNat).backs (M.fl t.toNat)
def FenceTo (M : Mv) (t : Int) (W : World) (e : Ending) (W' : World) : Prop :=
  e = .returned (.int .i64 (threadE M.nt t)) ∧ (threadE M.nt t ≠ 0 ∧ Into M M W W' ∨ threadE M.nt t = 0 ∧ Into M (M.fenced t) W W')
theorem fence58_no (M : Mv) (t : Int) (W : World) (h : MemAt W M) (hn : threadE M.nt t ≠ 0) :
    Calls Try.prog 58 #[.pointer (some ⟨M.d, 0, none⟩), .int .i64 t] W (FenceTo M t W) := by
  have HT := Lib.hid (thread74 M.d (some ⟨M.fb, 0, none⟩) M.nt M.c3 t W (by rw [cell_in h.dev]; rfl))
  have HM := Lib.hid h
  have HN := Lib.hid hn
  have e1 : threadE M.nt t = 1 := by unfold threadE at *; split at hn <;> simp_all
  have HE := Lib.hid e1
  rw [e1] at HT
  clear h hn e1
  go_enter Try.func58, Try.ntmps58
  go_wp2_with fail
  refine HT.out.mono ?_
  rintro e w ⟨rfl, hw⟩
  cases hw
  go_wp2_with fail
  go_ret
  exact ⟨by rw [HE.out]; rfl, Or.inl ⟨HN.out, Into.refl HM.out⟩⟩
theorem take77M (M : Mv) (t : Nat) (ht : t < M.nt) (W : World) (h : MemAt W M) :
    Calls Try.prog 77 #[.pointer (some ⟨M.fb, t, none⟩)] W fun e W' => e = .returned (M.fv t) ∧ Into M (M.taken t) W W' ∧ LstAt W' (M.fv t) (M.fl t) := by
  obtain ⟨a, n, c, hv⟩ := (h.fl t ht).slice
  have hc := h.fb.cell ht
  rw [hv] at hc
  refine (take77 M.fb t a n c W hc (h.fb.free t)).mono ?_
  rintro e W' ⟨rfl, rfl⟩
  refine ⟨by rw [hv], h.set_fl ht (v' := .slice none 0 0) (l' := []) (Turn.refl _ _) (Or.inl ⟨rfl, rfl⟩) (fun g hg => by cases hg) List.Pairwise.nil (fun x hx => by cases hx), ?_⟩
  exact (h.fl t ht).keep fun g hg => heap_set_other fun (e : g = M.fb) => h.alone t ht g hg (by rw [e]; simp [Mv.blocks])
theorem taken_free {W : World} {M : Mv} (h : MemAt W M) {t : Nat} (ht : t < M.nt) {g : Nat} (hg : (M.fv t).ownBlock = some g) : ¬ (M.taken t).own g := by
  rintro (hb | ⟨t', ht', e⟩)
  · exact h.alone t ht g hg hb
  · have e : (upd M.fv t (.slice none 0 0) t').ownBlock = some g := e
    by_cases c : t' = t
    · rw [c, upd_at] at e; cases e
    · rw [upd_ne _ _ c] at e; exact h.lone t ht t' ht' (Ne.symm c) g hg e
theorem LstAt.at {W : World} {v : Value} {l : List Int} (h : LstAt W v l) {k : Nat} (hk : k < l.length) : ∃ g cap, v = .slice (some ⟨g, 0, none⟩) l.length cap ∧ v.ownBlock = some g ∧ W.cell? ⟨g, k, none⟩ = some (.int .i64 (l.getD k 0)) := by
  rcases h with ⟨rfl, rfl⟩ | ⟨g, cap, c, rfl, h1, h2, h3, h4, h5, h6⟩
  · simp at hk
  · exact ⟨g, cap, rfl, rfl, by rw [cell_in h1]; exact h6 k hk⟩
theorem LstAt.len {W : World} {v : Value} {l : List Int} (h : LstAt W v l) : ∃ a cap, v = .slice a l.length cap := by
  rcases h with ⟨rfl, rfl⟩ | ⟨g, cap, c, rfl, _⟩
  · exact ⟨_, _, rfl⟩
  · exact ⟨_, _, rfl⟩
theorem take_succ_getD (l : List Int) (k : Nat) (hk : k < l.length) : l.take (k + 1) = l.take k ++ [l.getD k 0] := by
  rw [List.take_succ_eq_append_getElem hk, List.getD_eq_getElem?_getD, List.getElem?_eq_getElem hk]; rfl
theorem not_before (l : List Int) (hs : l.Pairwise (· < ·)) (k : Nat) (hk : k < l.length) : l.getD k 0 ∉ l.take k := by
  intro hm
  have h := take_succ_getD l k hk
  have hp : (l.take (k + 1)).Pairwise (· < ·) := hs.sublist (List.take_sublist _ _)
  rw [h, List.pairwise_append] at hp
  have := hp.2.2 _ hm (l.getD k 0) (by simp)
  omega
set_option maxRecDepth 100000 in
set_option maxHeartbeats 1000000 in
theorem fence58_yes (M : Mv) (t : Int) (W : World) (h : MemAt W M) (hw : M.wm ≤ 999999) (hn : threadE M.nt t = 0) :
    Calls Try.prog 58 #[.pointer (some ⟨M.d, 0, none⟩), .int .i64 t] W (FenceTo M t W) := by
  have HT := Lib.hid (thread74 M.d (some ⟨M.fb, 0, none⟩) M.nt M.c3 t W (by rw [cell_in h.dev]; rfl))
  have HN := Lib.hid hn
  rw [hn] at HT
  have a0 : 0 ≤ t ∧ t < M.nt := by unfold threadE at hn; split at hn; cases hn; omega
  obtain ⟨k0, rfl⟩ := Int.eq_ofNat_of_zero_le a0.1
  have b0 : (0 : Int) ≤ (k0 : Int) := by omega
  have b1 : (k0 : Int) < (M.nt : Int) := a0.2
  have ht : k0 < M.nt := by omega
  have HP := Lib.hid (take77M M k0 ht W h)
  have hd : W.cell? ⟨M.d, 3, none⟩ = some (.slice (some ⟨M.fb, 0, none⟩) M.nt M.c3) := by rw [cell_in h.dev]; rfl
  have HF : Hid (∀ g, (M.fv k0).ownBlock = some g → ¬ (M.taken k0).own g) := Lib.hid fun g hg => taken_free h ht hg
  have HI := Lib.hid (h.inn k0 ht)
  have HR := Lib.hid (h.rise k0 ht)
  have hll := h.fl_len ht
  have hn1 := h.n1
  obtain ⟨L, hL⟩ : ∃ L, L = M.fl k0 := ⟨_, rfl⟩
  obtain ⟨v, hv⟩ : ∃ v, v = M.fv k0 := ⟨_, rfl⟩
  obtain ⟨M0, hM0⟩ : ∃ M0, M0 = M.taken k0 := ⟨_, rfl⟩
  have HE : Hid (M.fenced (k0 : Int) = M0.backs L) := Lib.hid (by rw [hM0, hL]; rfl)
  have HNN : Hid (M0.n = M.n) := Lib.hid (by rw [hM0]; rfl)
  have HDD : Hid (M0.d = M.d) := Lib.hid (by rw [hM0]; rfl)
  have HWM : Hid (M0.wm = M.wm) := Lib.hid (by rw [hM0]; rfl)
  have hll' : L.length ≤ 262144 := by rw [hL]; omega
  rw [← hL, ← hv, ← hM0] at HP
  rw [← hv, ← hM0] at HF
  rw [← hL] at HI HR
  have HWW := Lib.hid hw
  clear h hn a0 hL hv hM0 hll hn1 hw ht
  go_enter Try.func58, Try.ntmps58
  go_wp2_with fail
  refine HT.out.mono ?_
  rintro e w ⟨rfl, hw⟩
  cases hw
  go_wp2_with fail
  refine HP.out.mono ?_
  rintro e W1 ⟨rfl, hi, hl⟩
  obtain ⟨a, cap, hv⟩ := hl.len
  subst hv
  have HI1 := Lib.hid hi
  have HL1 := Lib.hid hl
  clear hi hl
  go_wp2_with fail
  go_loopw [7, 22] (fun u i wr => ∃ k : Nat, k ≤ L.length ∧ i = .int .i64 k ∧ Hid (MemAt wr (M0.backs (L.take k)) ∧ Turn M0.own W1 wr)) (fun _ i _ => L.length - (intOf i).toNat)
  case atStart => exact ⟨0, Nat.zero_le _, rfl, Lib.hid ⟨by rw [List.take_zero]; exact backs_nil HI1.out.1, Turn.refl _ _⟩⟩
  case round =>
    obtain ⟨k, hk, rfl, HB⟩ := hrel
    by_cases hlt : k < L.length
    · obtain ⟨g, cap', e1, e2, hc⟩ := HL1.out.at hlt
      cases e1
      have hc' : wr.cell? ⟨g, k, none⟩ = some (.int .i64 (L.getD k 0)) := by
        rw [cell_of_heap (HB.out.2.block g (HL1.out.lt e2) (HF.out g e2))]; exact hc
      have hmem : L.getD k 0 ∈ L := by rw [List.getD_eq_getElem?_getD, List.getElem?_eq_getElem hlt]; exact List.getElem_mem _
      have hin := HI.out _ hmem
      have hnb := not_before L HR.out k hlt
      have hts := take_succ_getD L k hlt
      obtain ⟨x, hx⟩ : ∃ x, x = L.getD k 0 := ⟨_, rfl⟩
      rw [← hx] at hc' hin hnb hts
      clear hx hmem hc
      obtain ⟨q, rfl⟩ := Int.eq_ofNat_of_zero_le hin.1
      have HC : Hid (Calls Try.prog 78 #[.pointer (some ⟨M.d, 0, none⟩), .int .i64 q] wr (Done (M0.backs (L.take k)) (M0.backs (L.take (k + 1))) wr)) := Lib.hid (by
        rw [hts, ← backs_step _ _ _ hnb]
        have := back78M (M0.backs (L.take k)) q (by show q < M0.n; rw [HNN.out]; omega) wr HB.out.1 (by
          have e : (M0.backs (L.take k)).wr q = M0.wr q := by
            show (if (L.take k).contains (q : Int) then M0.wr q + 1 else M0.wr q) = M0.wr q
            rw [if_neg (by simpa using hnb)]
          rw [e]
          have := HI1.out.1.wr0 q (by rw [HNN.out]; omega)
          show M0.wr q < M0.wm + 1
          omega) (by show M0.wm + 1 ≤ 1000000; have := HWW.out; rw [HWM.out]; omega)
        have e : (M0.backs (L.take k)).d = M.d := HDD.out
        rw [e] at this
        exact this)
      have HS : Hid (Turn M0.own W1 wr) := Lib.hid HB.out.2
      have i0 : (0 : Int) ≤ (k : Int) := by omega
      have i1 : (k : Int) < (L.length : Int) := by omega
      have i2 : decide ((k : Int) < (L.length : Int)) = true := bool_yes i1
      clear hin hnb hts
      go_wp2_with fail
      refine HC.out.mono ?_
      rintro e w2 ⟨⟨u, rfl⟩, hm, ht⟩
      have HM2 := Lib.hid hm
      have HT2 : Hid (Turn M0.own W1 w2) := Lib.hid (HS.out.trans ht (fun _ _ h => h))
      clear hm ht
      go_wp2_with fail
      go_roundw
      case rel => exact ⟨k + 1, by omega, by go_num, Lib.hid ⟨HM2.out, HT2.out⟩⟩
      case measure => simp [intOf]; omega
    · obtain rfl : k = L.length := by omega
      have i2 : decide ((L.length : Int) < (L.length : Int)) = false := by simp
      go_wp2_with fail
      go_ret
      refine ⟨by rw [HN.out]; rfl, Or.inr ⟨HN.out, HI1.out.trans ?_⟩⟩
      rw [HE.out]
      have := HB.out
      rw [List.take_length] at this
      exact ⟨this.1, this.2, fun k hk => Or.inl hk⟩
theorem fence58 (M : Mv) (t : Int) (W : World) (h : MemAt W M) (hw : M.wm ≤ 999999) :
    Calls Try.prog 58 #[.pointer (some ⟨M.d, 0, none⟩), .int .i64 t] W (FenceTo M t W) := by
  by_cases hn : threadE M.nt t = 0
  · exact fence58_yes M t W h hw hn
  · exact fence58_no M t W h hn
end Go.Proofs.Ytpmjcinemabamaa

namespace Go.Proofs.Ytpmjcinemabamaa
open Go.RowKit Go.BigFrame
set_option linter.unusedVariables false
set_option linter.unusedSimpArgs false

def Mv.flushM (M : Mv) (t at_ : Int) (v : Value) : Mv :=
  if 0 ≤ at_ ∧ M.flushE t (at_ / 8) = 0 then (M.flushed t (at_ / 8) v).note ⟨4, t, at_, 0, 0, true⟩ true else M.note ⟨4, t, at_, 0, 0, false⟩ false
def Mv.fenceM (M : Mv) (t : Int) : Mv := if threadE M.nt t = 0 then (M.fenced t).note ⟨5, t, 0, 0, 0, true⟩ true else M.note ⟨5, t, 0, 0, 0, false⟩ false
/-- It ends; the memory turned into one of a kind. -/
def Ends (M : Mv) (f : Value → Mv) (W : World) (e : Ending) (W' : World) : Prop := (∃ x, e = .returned x) ∧ ∃ v, Into M (f v) W W'
theorem Into.note {M M' : Mv} {W W1 W2 : World} {x : Acc} {is : Bool} {e : Ending} (h : Into M M' W W1) (k : Done M' (M'.note x is) W1 e W2) : Into M (M'.note x is) W W2 :=
  h.trans ⟨k.2.1, k.2.2, fun i hi => Or.inl hi⟩
set_option maxRecDepth 100000 in
theorem flush40 (M : Mv) (t at_ : Int) (q1 : at_ ≤ 9223372036854775807) (W : World) (h : MemAt W M) (hc : M.ck ≤ 1000000) :
    Calls Try.prog 40 #[.pointer (some ⟨M.m, 0, none⟩), .int .i64 t, .int .i64 at_] W (Ends M (M.flushM t at_) W) := by
  by_cases h0 : at_ < 0
  · have d0 : decide (at_ < 0) = true := bool_yes h0
    have HL := Lib.hid (lineM M ⟨4, t, at_, 0, 0, false⟩ 5 W h hc)
    have HE : Hid (∀ v, M.flushM t at_ v = M.note ⟨4, t, at_, 0, 0, false⟩ false) := Lib.hid fun v => by unfold Mv.flushM; rw [if_neg (by omega)]
    have HM := Lib.hid h
    simp only [Acc.cells] at HL
    clear h h0
    go_enter Try.func40, Try.ntmps40
    go_wp2_with fail
    refine HL.out.mono ?_
    rintro e w ⟨⟨x, rfl⟩, hm, ht⟩
    have HI : Hid (Into M (M.note ⟨4, t, at_, 0, 0, false⟩ false) W w) := Lib.hid ⟨hm, ht, fun k hk => Or.inl hk⟩
    clear hm ht
    go_wp2_with fail
    go_end0
    exact ⟨⟨_, rfl⟩, .slice none 0 0, by rw [HE.out]; exact HI.out⟩
  · have d0 : decide (at_ < 0) = false := bool_no h0
    have e8 : at_.tdiv 8 = at_ / 8 := Int.tdiv_eq_ediv_of_nonneg (by omega)
    have hd : W.cell? ⟨M.m, 0, none⟩ = some (.pointer (some ⟨M.d, 0, none⟩)) := (row10 h.row).1
    obtain ⟨E, hE⟩ : ∃ E, E = M.flushE t (at_ / 8) := ⟨_, rfl⟩
    have HF := Lib.hid (flush57 M t (at_ / 8) W h)
    unfold FlushTo at HF
    rw [← hE] at HF
    have HX : Hid (∀ W1, (E ≠ 0 ∧ Into M M W W1 ∨ E = 0 ∧ ∃ v, Into M (M.flushed t (at_ / 8) v) W W1) → Calls Try.prog 56 #[.pointer (some ⟨M.m, 0, none⟩), .agg (Acc.cells ⟨4, t, at_, 0, 0, false⟩), .int .i64 E] W1 (Ends M (M.flushM t at_) W)) := Lib.hid fun W1 hw => by
      rcases hw with ⟨h1, hi⟩ | ⟨h1, v, hi⟩
      · have e0 : (E == 0) = false := by simpa using h1
        have := lineM M ⟨4, t, at_, 0, 0, false⟩ E W1 hi.1 hc
        refine this.mono ?_
        rintro e w hd
        refine ⟨hd.1, .slice none 0 0, ?_⟩
        unfold Mv.flushM
        rw [if_neg (by rw [← hE]; omega)]
        rw [e0] at hd
        exact hi.note hd
      · subst h1
        have := lineM (M.flushed t (at_ / 8) v) ⟨4, t, at_, 0, 0, false⟩ 0 W1 hi.1 hc
        refine this.mono ?_
        rintro e w hd
        refine ⟨hd.1, v, ?_⟩
        unfold Mv.flushM
        rw [if_pos ⟨by omega, hE.symm⟩]
        exact hi.note hd
    simp only [Acc.cells] at HX
    have q0 : 0 ≤ at_ := by omega
    clear h h0 hE
    generalize Mv.flushM M t at_ = N at *
    go_enter Try.func40, Try.ntmps40
    go_wp2_with fail
    with_reducible refine HF.out.mono ?_
    rintro e w ⟨rfl, hw⟩
    have HC := Lib.hid (HX.out w hw)
    clear hw HX
    go_wp2_with fail
    with_reducible refine HC.out.mono ?_
    rintro e w' hp
    obtain ⟨x, rfl⟩ := hp.1
    have HP := Lib.hid hp.2
    clear hp
    go_wp2_with fail
    go_end0
    exact ⟨⟨_, rfl⟩, HP.out⟩
set_option maxRecDepth 100000 in
theorem fence41 (M : Mv) (t : Int) (W : World) (h : MemAt W M) (hc : M.ck ≤ 1000000) (hw : M.wm ≤ 999999) :
    Calls Try.prog 41 #[.pointer (some ⟨M.m, 0, none⟩), .int .i64 t] W (Ends M (fun _ => M.fenceM t) W) := by
  have hd : W.cell? ⟨M.m, 0, none⟩ = some (.pointer (some ⟨M.d, 0, none⟩)) := (row10 h.row).1
  obtain ⟨E, hE⟩ : ∃ E, E = threadE M.nt t := ⟨_, rfl⟩
  have HF := Lib.hid (fence58 M t W h hw)
  unfold FenceTo at HF
  rw [← hE] at HF
  have HX : Hid (∀ W1, (E ≠ 0 ∧ Into M M W W1 ∨ E = 0 ∧ Into M (M.fenced t) W W1) → Calls Try.prog 56 #[.pointer (some ⟨M.m, 0, none⟩), .agg (Acc.cells ⟨5, t, 0, 0, 0, false⟩), .int .i64 E] W1 (Ends M (fun _ => M.fenceM t) W)) := Lib.hid fun W1 hw => by
    rcases hw with ⟨h1, hi⟩ | ⟨h1, hi⟩
    · have e0 : (E == 0) = false := by simpa using h1
      refine (lineM M ⟨5, t, 0, 0, 0, false⟩ E W1 hi.1 hc).mono ?_
      rintro e w hd
      refine ⟨hd.1, .slice none 0 0, ?_⟩
      unfold Mv.fenceM
      rw [if_neg (by rw [← hE]; exact h1)]
      rw [e0] at hd
      exact hi.note hd
    · subst h1
      refine (lineM (M.fenced t) ⟨5, t, 0, 0, 0, false⟩ 0 W1 hi.1 hc).mono ?_
      rintro e w hd
      refine ⟨hd.1, .slice none 0 0, ?_⟩
      unfold Mv.fenceM
      rw [if_pos hE.symm]
      exact hi.note hd
  simp only [Acc.cells] at HX
  clear h hE
  generalize Mv.fenceM M t = N at *
  go_enter Try.func41, Try.ntmps41
  go_wp2_with fail
  with_reducible refine HF.out.mono ?_
  rintro e w ⟨rfl, hw⟩
  have HC := Lib.hid (HX.out w hw)
  clear hw HX
  go_wp2_with fail
  with_reducible refine HC.out.mono ?_
  rintro e w' hp
  obtain ⟨x, rfl⟩ := hp.1
  have HP := Lib.hid hp.2
  clear hp
  go_wp2_with fail
  go_end0
  exact ⟨⟨_, rfl⟩, HP.out⟩
end Go.Proofs.Ytpmjcinemabamaa

namespace Go.Proofs.Ytpmjcinemabamaa
open Go.RowKit Go.BigFrame
set_option linter.unusedVariables false
set_option linter.unusedSimpArgs false

/-- An access done again. -/
def Mv.acts (M : Mv) (a : Acc) (v : Value) : Mv :=
  if a.ki = 1 then M.load a.th a.pl
  else if a.ki = 2 then M.store a.th a.pl a.ne
  else if a.ki = 3 then M.swap a.th a.pl (if a.dn then a.ol else 18446744073709551615 - a.ol) a.ne
  else if a.ki = 4 then M.flushM a.th a.pl v
  else if a.ki = 5 then M.fenceM a.th
  else M
theorem DoneV.ends {M M' : Mv} {v : Value} {W W' : World} {e : Ending} (h : DoneV M M' v W e W') (ho : ∀ k, M'.own k → M.own k) (u : Value) : Ends M (fun _ => M') W e W' :=
  ⟨⟨_, h.1⟩, u, h.2.1, h.2.2, fun k hk => Or.inl (ho k hk)⟩
theorem Done.ends {M M' : Mv} {W W' : World} {e : Ending} (h : Done M M' W e W') (ho : ∀ k, M'.own k → M.own k) (u : Value) : Ends M (fun _ => M') W e W' :=
  ⟨h.1, u, h.2.1, h.2.2, fun k hk => Or.inl (ho k hk)⟩
theorem Ends.from {M : Mv} {f : Value → Mv} {W W1 W' : World} {e : Ending} (hb : Below W.heap.size W W1) (h : Ends M f W1 e W') : Ends M f W e W' :=
  ⟨h.1, h.2.imp fun v hv => hv.of_below hb⟩
theorem load_own (M : Mv) (t a : Int) (k : Nat) (h : (M.load t a).own k) : M.own k := by unfold Mv.load at h; rw [Mv.did_own] at h; exact h
theorem store_own (M : Mv) (t a v : Int) (k : Nat) (h : (M.store t a v).own k) : M.own k := by unfold Mv.store at h; rw [Mv.did_own] at h; exact h
theorem swap_own (M : Mv) (t a o v : Int) (k : Nat) (h : (M.swap t a o v).own k) : M.own k := by unfold Mv.swap at h; rw [Mv.did_own] at h; exact h
/-- An access whose numbers may be. -/
def Acc.May (a : Acc) : Prop := -9223372036854775808 ≤ a.pl ∧ a.pl ≤ 9223372036854775807 ∧ 0 ≤ a.ol ∧ a.ol ≤ 18446744073709551615
theorem xor_ones (o : Int) (h0 : 0 ≤ o) (h1 : o ≤ 18446744073709551615) : bits .xor .u64 IntKind.u64.max o = 18446744073709551615 - o := by
  have e1 : BitVec.ofInt 64 IntKind.u64.max = BitVec.allOnes 64 := by decide
  have e2 : (BitVec.ofInt 64 o).toNat = o.toNat := by
    rw [BitVec.toNat_ofInt]; omega
  have e3 : (BitVec.allOnes 64 ^^^ BitVec.ofInt 64 o).toNat = 18446744073709551615 - o.toNat := by
    rw [BitVec.allOnes_xor, BitVec.toNat_not, e2]
  show IntKind.u64.wrap ((BitVec.ofInt 64 IntKind.u64.max ^^^ BitVec.ofInt 64 o).toNat : Int) = _
  rw [e1, e3]
  unfold IntKind.wrap
  simp [IntKind.bits, IntKind.signed]
  omega
set_option maxRecDepth 100000 in
theorem do21 (M : Mv) (a : Acc) (ha : a.May) (W : World) (h : MemAt W M) (hc : M.ck ≤ 1000000) (hw : M.wm ≤ 999999) :
    Calls Try.prog 21 #[.pointer (some ⟨M.m, 0, none⟩), .agg a.cells] W (Ends M (M.acts a) W) := by
  obtain ⟨q0, q1, o0, o1⟩ := ha
  obtain ⟨ki, th, pl, ol, ne, dn⟩ := a
  simp only [Acc.cells] at *
  obtain ⟨B, hB⟩ : ∃ B : Obj, B = .cells #[.int .i64 ki, .int .i64 th, .int .i64 pl, .int .u64 ol, .int .u64 ne, .bool dn] 44 := ⟨_, rfl⟩
  have hb : Below W.heap.size W (W.alloc B) := (Below.refl _ _).alloc (Nat.le_refl _) _
  have hm := h.below hb
  by_cases k1 : ki = 1
  · subst k1
    have HC : Hid (Calls Try.prog 37 #[.pointer (some ⟨M.m, 0, none⟩), .int .i64 th, .int .i64 pl] (W.alloc B) (Ends M (M.acts ⟨1, th, pl, ol, ne, dn⟩) W)) := Lib.hid
      ((load37 M th pl q0 q1 _ hm hc).mono fun e w hd => (hd.ends (load_own M th pl) (.slice none 0 0)).from hb)
    subst hB
    generalize Mv.acts M ⟨1, th, pl, ol, ne, dn⟩ = N at *
    clear h hb hm
    go_enter Try.func21, Try.ntmps21
    go_wp2_with fail
    with_reducible refine HC.out.mono ?_
    rintro e w' hp
    obtain ⟨x, rfl⟩ := hp.1
    have HP := Lib.hid hp.2
    clear hp
    go_wp2_with fail
    go_end0
    exact ⟨⟨_, rfl⟩, HP.out⟩
  by_cases k2 : ki = 2
  · subst k2
    have HC : Hid (Calls Try.prog 38 #[.pointer (some ⟨M.m, 0, none⟩), .int .i64 th, .int .i64 pl, .int .u64 ne] (W.alloc B) (Ends M (M.acts ⟨2, th, pl, ol, ne, dn⟩) W)) := Lib.hid
      ((store38 M th pl ne q0 q1 _ hm hc).mono fun e w hd => (hd.ends (store_own M th pl ne) (.slice none 0 0)).from hb)
    subst hB
    generalize Mv.acts M ⟨2, th, pl, ol, ne, dn⟩ = N at *
    clear h hb hm
    go_enter Try.func21, Try.ntmps21
    go_wp2_with fail
    with_reducible refine HC.out.mono ?_
    rintro e w' hp
    obtain ⟨x, rfl⟩ := hp.1
    have HP := Lib.hid hp.2
    clear hp
    go_wp2_with fail
    go_end0
    exact ⟨⟨_, rfl⟩, HP.out⟩
  by_cases k3 : ki = 3
  · subst k3
    cases dn
    · have ex := xor_ones ol o0 o1
      have HC : Hid (Calls Try.prog 39 #[.pointer (some ⟨M.m, 0, none⟩), .int .i64 th, .int .i64 pl, .int .u64 (18446744073709551615 - ol), .int .u64 ne] (W.alloc B) (Ends M (M.acts ⟨3, th, pl, ol, ne, false⟩) W)) := Lib.hid
        ((swap39 M th pl (18446744073709551615 - ol) ne q0 q1 _ hm hc).mono fun e w hd => (hd.ends (swap_own M th pl _ ne) (.slice none 0 0)).from hb)
      subst hB
      generalize Mv.acts M ⟨3, th, pl, ol, ne, false⟩ = N at *
      clear h hb hm
      go_enter Try.func21, Try.ntmps21
      go_wp2_with fail
      with_reducible refine HC.out.mono ?_
      rintro e w' hp
      obtain ⟨x, rfl⟩ := hp.1
      have HP := Lib.hid hp.2
      clear hp
      go_wp2_with fail
      go_end0
      exact ⟨⟨_, rfl⟩, HP.out⟩
    · have HC : Hid (Calls Try.prog 39 #[.pointer (some ⟨M.m, 0, none⟩), .int .i64 th, .int .i64 pl, .int .u64 ol, .int .u64 ne] (W.alloc B) (Ends M (M.acts ⟨3, th, pl, ol, ne, true⟩) W)) := Lib.hid
        ((swap39 M th pl ol ne q0 q1 _ hm hc).mono fun e w hd => (hd.ends (swap_own M th pl _ ne) (.slice none 0 0)).from hb)
      subst hB
      generalize Mv.acts M ⟨3, th, pl, ol, ne, true⟩ = N at *
      clear h hb hm
      go_enter Try.func21, Try.ntmps21
      go_wp2_with fail
      with_reducible refine HC.out.mono ?_
      rintro e w' hp
      obtain ⟨x, rfl⟩ := hp.1
      have HP := Lib.hid hp.2
      clear hp
      go_wp2_with fail
      go_end0
      exact ⟨⟨_, rfl⟩, HP.out⟩
  by_cases k4 : ki = 4
  · subst k4
    have HC : Hid (Calls Try.prog 40 #[.pointer (some ⟨M.m, 0, none⟩), .int .i64 th, .int .i64 pl] (W.alloc B) (Ends M (M.acts ⟨4, th, pl, ol, ne, dn⟩) W)) := Lib.hid
      ((flush40 M th pl q1 _ hm hc).mono fun e w hd => hd.from hb)
    subst hB
    generalize Mv.acts M ⟨4, th, pl, ol, ne, dn⟩ = N at *
    clear h hb hm
    go_enter Try.func21, Try.ntmps21
    go_wp2_with fail
    with_reducible refine HC.out.mono ?_
    rintro e w' hp
    obtain ⟨x, rfl⟩ := hp.1
    have HP := Lib.hid hp.2
    clear hp
    go_wp2_with fail
    go_end0
    exact ⟨⟨_, rfl⟩, HP.out⟩
  by_cases k5 : ki = 5
  · subst k5
    have HC : Hid (Calls Try.prog 41 #[.pointer (some ⟨M.m, 0, none⟩), .int .i64 th] (W.alloc B) (Ends M (M.acts ⟨5, th, pl, ol, ne, dn⟩) W)) := Lib.hid
      ((fence41 M th _ hm hc hw).mono fun e w hd => hd.from hb)
    subst hB
    generalize Mv.acts M ⟨5, th, pl, ol, ne, dn⟩ = N at *
    clear h hb hm
    go_enter Try.func21, Try.ntmps21
    go_wp2_with fail
    with_reducible refine HC.out.mono ?_
    rintro e w' hp
    obtain ⟨x, rfl⟩ := hp.1
    have HP := Lib.hid hp.2
    clear hp
    go_wp2_with fail
    go_end0
    exact ⟨⟨_, rfl⟩, HP.out⟩
  have e1 : (ki == 1) = false := by simpa using k1
  have e2 : (ki == 2) = false := by simpa using k2
  have e3 : (ki == 3) = false := by simpa using k3
  have e4 : (ki == 4) = false := by simpa using k4
  have e5 : (ki == 5) = false := by simpa using k5
  have HE : Hid (∀ v, M.acts ⟨ki, th, pl, ol, ne, dn⟩ v = M) := Lib.hid fun v => by
    unfold Mv.acts; rw [if_neg k1, if_neg k2, if_neg k3, if_neg k4, if_neg k5]
  have HI := Lib.hid ((Into.refl h).below hb)
  subst hB
  generalize Mv.acts M ⟨ki, th, pl, ol, ne, dn⟩ = N at *
  clear h hb hm k1 k2 k3 k4 k5
  go_enter Try.func21, Try.ntmps21
  go_wp2_with fail
  go_end0
  exact ⟨⟨_, rfl⟩, .slice none 0 0, by rw [HE.out]; exact HI.out⟩
end Go.Proofs.Ytpmjcinemabamaa
