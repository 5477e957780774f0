/- A run reckoned in parts: function 41, whole.
   What a value that was read as data holds, cell by cell: structs, arrays, slices of them. No program here.
   Layer 36: numbers that came in, opened; the law, with the example reckoned. -/
import Derived.Test.YtkdcfijebgeajaaGreatJ25
import Derived.Test.YtkdcfijebgeajaaGreatJ27
import Derived.Test.YtkdcfijebgeajaaGreatJ28
import Derived.KernelRfl
import Derived.WalkKit
import Derived.ProofKit
import Derived.OpenShut
import Derived.Deep.Slices
import Derived.Lib.Hide
import Derived.Test.YtkdcfijebgeajaaGreatJ4
import Derived.Test.YtkdcfijebgeajaaGreatJ23
import Derived.Lib.SmallJoins
namespace Go.Proofs.YtkdcfijebgeajaaGreat
namespace Rk
set_option maxRecDepth 1000000
theorem said41 : boolOf (run env 100001 (.call 41 [] ⟨0, .nil⟩)) = true := begin_ok (by kernel_rfl) ((congrArg (saysB env 41) ((itF_ok part41_0).trans (itF_ok part41_1))).trans (lastB_ok part41_2))
end Rk
end Go.Proofs.YtkdcfijebgeajaaGreat

namespace Go.Proofs.YtkdcfijebgeajaaGreat
open Go.RowKit Go.ChangeShapes Go.WideShapes Go.Deep

/-- The kind of a type's j-th cell: an integer kind, or a bool (none). -/
def kindAt (P : Program) : Nat → TypeId → Nat → Option (Option IntKind)
  | 0, _, _ => none
  | d + 1, t, j =>
    match P.underlying t with
    | some (.int k) => if j = 0 then some (some k) else none
    | some .bool => if j = 0 then some none else none
    | some (.struct fs) =>
      match fs.toList.find? fun f => decide (f.offset ≤ j) && decide (j < f.offset + P.cellsOf f.type) with
      | some f => kindAt P d f.type (j - f.offset)
      | none => none
    | some (.array n e) => if 0 < P.cellsOf e ∧ j < n * P.cellsOf e then kindAt P d e (j % P.cellsOf e) else none
    | _ => none

/-- A cell of that kind. -/
def LeafOk (k : Option IntKind) (v : Value) : Prop :=
  match k with
  | some k => ∃ n, v = .int k n ∧ (Lit.int k n).wf = true
  | none => ∃ b, v = .bool b

section
variable {H : Type} {enc : TypeId × Value → H} {P : Program} {w : World} {base : Nat} {spare : Nat → Bool} {held : Bool}

theorem kindAt_ok : ∀ (d : Nat) (t : TypeId) (j : Nat) (k : Option IntKind) (fuel : Nat) (cs : List Value) (x : DataW H × List MemPlace),
    DataW.trod enc P w base spare held fuel t cs = some x → kindAt P d t j = some k → ∃ v, cs[j]? = some v ∧ LeafOk k v
  | 0, _, _, _, _, _, _, _, hk => by simp [kindAt] at hk
  | d + 1, t, j, k, fuel, cs, x, h, hk => by
    unfold kindAt at hk
    split at hk
    · rename_i q hu
      split at hk
      · rename_i hj
        simp only [Option.some.injEq] at hk
        subst hk hj
        obtain ⟨n, rfl, -, hw⟩ := DataW.trod_int hu h
        exact ⟨_, rfl, n, rfl, hw⟩
      · cases hk
    · rename_i hu
      split at hk
      · rename_i hj
        simp only [Option.some.injEq] at hk
        subst hk hj
        obtain ⟨b, rfl, -⟩ := DataW.trod_bool hu h
        exact ⟨_, rfl, b, rfl⟩
      · cases hk
    · rename_i fs hu
      split at hk
      · rename_i f hf
        obtain ⟨xs, n, -, -, hlen, hxs, hfield⟩ := DataW.trod_struct hu h
        have hmem := List.mem_of_find?_eq_some hf
        have hcond := List.find?_some hf
        simp only [Bool.and_eq_true, decide_eq_true_eq] at hcond
        obtain ⟨i, hi, rfl⟩ := List.mem_iff_getElem.1 hmem
        have hfi : fs[i]? = some (fs.toList[i]) := by
          rw [← Array.getElem?_toList]; exact List.getElem?_eq_getElem hi
        have h1 := hfield i _ hfi
        have hix : i < xs.length := by rw [hxs]; simpa using hi
        rw [List.getElem?_eq_getElem hix] at h1
        obtain ⟨v, hv, hl⟩ := kindAt_ok d _ _ k n _ _ h1 hk
        refine ⟨v, ?_, hl⟩
        rw [List.getElem?_take] at hv
        split at hv
        · rw [List.getElem?_drop] at hv
          rw [← hv]; congr 1; omega
        · cases hv
      · cases hk
    · rename_i n e hu
      split at hk
      · rename_i hc
        obtain ⟨xs, m, -, -, hlen, hxs, hel⟩ := DataW.trod_array hu h
        have hi : j / P.cellsOf e < n := Nat.div_lt_of_lt_mul (by rw [Nat.mul_comm]; exact hc.2)
        have h1 := hel _ hi
        rw [List.getElem?_eq_getElem (by omega)] at h1
        obtain ⟨v, hv, hl⟩ := kindAt_ok d _ _ k m _ _ h1 hk
        refine ⟨v, ?_, hl⟩
        rw [List.getElem?_take] at hv
        split at hv
        · rw [List.getElem?_drop] at hv
          rw [← hv]; congr 1
          have := Nat.div_add_mod j (P.cellsOf e)
          rw [Nat.mul_comm] at this
          omega
        · cases hv
      · cases hk
    · cases hk

/-- A slice that came in, cell by cell. -/
theorem open_slice_cells {t e : TypeId} {fuel : Nat} {cs : List Value} {x : DataW H × List MemPlace} (ht : P.underlying t = some (.slice e)) (hc0 : 0 < P.cellsOf e)
    (hk0 : ∃ d k, kindAt P d e 0 = some k) (h : DataW.trod enc P w base spare held fuel t cs = some x) (a : Option Addr) (len cap : Nat) (hcs : cs = [.slice a len cap]) :
    len ≤ cap ∧ cap ≤ maxLen ∧ (len = 0 ∨ ∃ b off, a = some ⟨b, off, none⟩ ∧ b < w.heap.size ∧ ∀ i, i < len → ∀ d j k, j < P.cellsOf e → kindAt P d e j = some k → ∃ v, w.cell? ⟨b, off + i * P.cellsOf e + j, none⟩ = some v ∧ LeafOk k v) := by
  rcases open_slice ht h with ⟨rfl, -⟩ | ⟨ad, len', cap', m, n, D, Pl, rfl, hb, hl, hm, hmm, hx, hi⟩
  · simp only [List.cons.injEq, Value.slice.injEq, and_true] at hcs
    obtain ⟨rfl, rfl, rfl⟩ := hcs
    exact ⟨Nat.le_refl _, Nat.zero_le _, .inl rfl⟩
  · simp only [List.cons.injEq, Value.slice.injEq, and_true] at hcs
    obtain ⟨rfl, rfl, rfl⟩ := hcs
    refine ⟨hl, hm, ?_⟩
    by_cases h0 : len' = 0
    · exact .inl h0
    refine .inr ?_
    have hlm : len' ≤ m := by rw [hmm]; split <;> omega
    have get : ∀ i, i < len' → ∀ d j k, j < P.cellsOf e → kindAt P d e j = some k → ∃ v, w.cell? ((ad.add (i * P.cellsOf e)).add j) = some v ∧ LeafOk k v := by
      intro i hil d j k hj hk
      obtain ⟨cs', hc, ht'⟩ := hi i (by omega)
      obtain ⟨_, hcl, hat⟩ := World.cells?_some hc
      obtain ⟨v, hv, hlf⟩ := kindAt_ok d e j k n cs' _ ht' hk
      exact ⟨v, by rw [hat j hj]; exact hv, hlf⟩
    obtain ⟨b, off, spot⟩ := ad
    obtain ⟨d, k, hk0⟩ := hk0
    obtain ⟨v0, hv0, -⟩ := get 0 (by omega) d 0 k hc0 hk0
    have hspot : spot = none := by
      have := World.cell?_spot hv0
      simpa [Addr.add] using this
    subst hspot
    have hv0' : w.cell? ⟨b, off, none⟩ = some v0 := by
      have := hv0
      rw [Addr.add_lit, Addr.add_lit] at this
      simpa using this
    refine ⟨b, off, rfl, World.block_lt_of_cell? w _ hv0', fun i hil d j k hj hk => ?_⟩
    have := get i hil d j k hj hk
    rwa [Addr.add_lit, Addr.add_lit] at this
end
end Go.Proofs.YtkdcfijebgeajaaGreat

namespace Go.Proofs.YtkdcfijebgeajaaGreat
open Go.RowKit Go.ChangeShapes Go.WideShapes Go.Deep
set_option linter.unusedVariables false
set_option linter.unusedSimpArgs false
theorem awake41 : Awake Tryz.prog 41 := fun w => Rk.reckoned_true Rk.envOk Rk.orcOk Rk.said41 w
theorem kind78_0 : kindAt Tryz.prog 4 78 0 = some (some .u32) := by kernel_rfl
theorem kind78_1 : kindAt Tryz.prog 4 78 1 = some (some .u32) := by kernel_rfl
theorem kind78_2 : kindAt Tryz.prog 4 78 2 = some (some .u32) := by kernel_rfl
theorem kind78_3 : kindAt Tryz.prog 4 78 3 = some (some .u32) := by kernel_rfl
theorem kind78_4 : kindAt Tryz.prog 4 78 4 = some (some .u32) := by kernel_rfl
theorem kind78_5 : kindAt Tryz.prog 4 78 5 = some (some .u32) := by kernel_rfl
theorem kind78_6 : kindAt Tryz.prog 4 78 6 = some (some .u32) := by kernel_rfl
theorem okWide_array {P : Program} {w : World} {r : Reach} {b0 : Nat} {T e : TypeId} {n : Nat} {v : Value} (ht : P.underlying T = some (.array n e)) (h : Value.okWide P w r b0 T v) : ∃ cs, v = .agg cs ∧ cs.size = P.cellsOf T := by
  simp only [Value.okWide, ht] at h
  obtain ⟨cs, h1, h2, _⟩ := h
  exact ⟨cs, h1, h2⟩
set_option maxRecDepth 100000 in
theorem seven_open {H : Type} {enc : TypeId × Value → H} {w : World} {r : Reach} {b0 base : Nat} {spare : Nat → Bool} {held : Bool} {v : Value} {d : DataW H} {p : List MemPlace}
    (hv : Value.okWide Tryz.prog w r b0 78 v) (h : DataW.Trod enc Tryz.prog w base spare held 78 v d p) : ∃ (a0 a1 a2 a3 a4 a5 a6 : Int), v = .agg #[.int .u32 a0, .int .u32 a1, .int .u32 a2, .int .u32 a3, .int .u32 a4, .int .u32 a5, .int .u32 a6] ∧ (0 ≤ a0 ∧ a0 ≤ 4294967295) ∧ (0 ≤ a1 ∧ a1 ≤ 4294967295) ∧ (0 ≤ a2 ∧ a2 ≤ 4294967295) ∧ (0 ≤ a3 ∧ a3 ≤ 4294967295) ∧ (0 ≤ a4 ∧ a4 ≤ 4294967295) ∧ (0 ≤ a5 ∧ a5 ≤ 4294967295) ∧ (0 ≤ a6 ∧ a6 ≤ 4294967295) := by
  obtain ⟨cs, rfl, hsz⟩ := okWide_array Tryz.underlying78 hv
  obtain ⟨fuel, hf⟩ := h
  have hc : Tryz.prog.cellsOf 78 = 7 := by kernel_rfl
  rw [hc] at hsz
  obtain ⟨_, g0, n0, rfl, f0⟩ := kindAt_ok 4 78 0 _ fuel _ _ hf kind78_0
  obtain ⟨_, g1, n1, rfl, f1⟩ := kindAt_ok 4 78 1 _ fuel _ _ hf kind78_1
  obtain ⟨_, g2, n2, rfl, f2⟩ := kindAt_ok 4 78 2 _ fuel _ _ hf kind78_2
  obtain ⟨_, g3, n3, rfl, f3⟩ := kindAt_ok 4 78 3 _ fuel _ _ hf kind78_3
  obtain ⟨_, g4, n4, rfl, f4⟩ := kindAt_ok 4 78 4 _ fuel _ _ hf kind78_4
  obtain ⟨_, g5, n5, rfl, f5⟩ := kindAt_ok 4 78 5 _ fuel _ _ hf kind78_5
  obtain ⟨_, g6, n6, rfl, f6⟩ := kindAt_ok 4 78 6 _ fuel _ _ hf kind78_6
  simp [Lit.wf, IntKind.min, IntKind.max, IntKind.signed, IntKind.bits] at f0 f1 f2 f3 f4 f5 f6
  simp only [Value.cells] at g0 g1 g2 g3 g4 g5 g6
  obtain ⟨l⟩ := cs
  match l, hsz with
  | [c0, c1, c2, c3, c4, c5, c6], _ =>
    simp at g0 g1 g2 g3 g4 g5 g6
    subst g0 g1 g2 g3 g4 g5 g6
    exact ⟨n0, n1, n2, n3, n4, n5, n6, rfl, by omega, by omega, by omega, by omega, by omega, by omega, by omega⟩
end Go.Proofs.YtkdcfijebgeajaaGreat
