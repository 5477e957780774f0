/- Slices of bytes that read as a list of numbers; what 'string(b)' makes of them. No program here. -/
import Derived.Test.YtfjddkjfkgdihaaRd
import Derived.Test.YtfjddkjfkgdihaaVoc
namespace Go.Proofs.Ytfjddkjfkgdihaa
open Go.RowKit

/-- The slice value reads, in w, as the numbers M, each of kind k; its cells lie in a block below B. -/
def RdB (k : IntKind) (B : Nat) (w : World) (a : Option Addr) (len cap : Nat) (M : List Int) : Prop :=
  M.length = len ∧ len ≤ cap ∧ cap ≤ maxLen ∧ B ≤ w.heap.size ∧ (len = 0 ∨ ∃ b off, a = some ⟨b, off, none⟩ ∧ b < B ∧ ∀ i, i < len → w.cell? ⟨b, off + i, none⟩ = some (.int k (M.getD i 0)))

theorem RdB.below {k : IntKind} {B : Nat} {w w' : World} {a : Option Addr} {len cap : Nat} {M : List Int} (h : RdB k B w a len cap M) (hb : Below B w w') : RdB k B w' a len cap M := by
  obtain ⟨h1, h2, h3, h4, h5⟩ := h
  refine ⟨h1, h2, h3, Nat.le_trans h4 hb.size, ?_⟩
  rcases h5 with h5 | ⟨b, off, e, hlt, hc⟩
  · exact .inl h5
  · exact .inr ⟨b, off, e, hlt, fun i hi => (hb.cell (p := ⟨b, off + i, none⟩) hlt).trans (hc i hi)⟩

theorem RdB.mono {k : IntKind} {B B' : Nat} {w : World} {a : Option Addr} {len cap : Nat} {M : List Int} (h : RdB k B w a len cap M) (hB : B ≤ B') (hB' : B' ≤ w.heap.size) : RdB k B' w a len cap M := by
  obtain ⟨h1, h2, h3, h4, h5⟩ := h
  refine ⟨h1, h2, h3, hB', ?_⟩
  rcases h5 with h5 | ⟨b, off, e, hlt, hc⟩
  · exact .inl h5
  · exact .inr ⟨b, off, e, Nat.lt_of_lt_of_le hlt hB, hc⟩

theorem rdB_of_ints {k : IntKind} {w : World} {a : Option Addr} {len cap : Nat} {z : Nat → Int} (h : IntsAt k w a len cap z) : RdB k w.heap.size w a len cap ((List.range len).map z) := by
  obtain ⟨h1, h2, h3⟩ := h
  refine ⟨by simp, h1, h2, Nat.le_refl _, ?_⟩
  by_cases h0 : len = 0
  · exact .inl h0
  · obtain ⟨b, off, e, hb, _, _⟩ := h3 0 (by omega)
    refine .inr ⟨b, off, e, hb, fun i hi => ?_⟩
    obtain ⟨b', off', e', _, hc, _⟩ := h3 i hi
    rw [e] at e'
    simp only [Option.some.injEq, Addr.mk.injEq] at e'
    obtain ⟨rfl, rfl, _⟩ := e'
    rw [hc]
    simp [List.getD_eq_getElem?_getD, hi]

/-- A slice that the call owns is written out. -/
theorem rdB_of_own {k : IntKind} {w : World} {base : Nat} {e : TypeId} {v : Value} {n : Nat} {M : List Int} (h : w.ownsRow base e 1 v n (M.map (Value.int k))) :
    ∃ a cap, v = .slice a n cap ∧ RdB k w.heap.size w a n cap M := by
  have hl : M.length = n := by simpa using h.1
  rcases h.2 with ⟨rfl, rfl⟩ | ⟨g, cap, cur, rfl, hb, hg, hnc, hcm, hcs, htake⟩
  · exact ⟨none, 0, rfl, hl, Nat.le_refl _, Nat.zero_le _, Nat.le_refl _, .inl rfl⟩
  · refine ⟨some ⟨g, 0, none⟩, cap, rfl, hl, hnc, hcm, Nat.le_refl _, .inr ⟨g, 0, rfl, (Array.getElem?_eq_some_iff.1 hg).1, fun i hi => ?_⟩⟩
    have hc := World.ownsRow.cellAt (h := ⟨h.1, .inr ⟨g, cap, cur, rfl, hb, hg, hnc, hcm, hcs, htake⟩⟩) i (by omega)
    rw [Nat.zero_add, hc]
    simp [List.getD_eq_getElem?_getD, show i < M.length by omega]

theorem run_convert_empty {P : Program} (w : World) (src dst e : TypeId) (hs : P.underlying src = some (.slice e)) (he : P.underlying e = some (.int .u8)) (hd : P.underlying dst = some .string) (a : Option Addr) (c : Nat) :
    (convert src dst (.slice a 0 c)).run P w = .ok (.string (strOfNums [])) w := by
  cases a with
  | none => rw [run_convert_bytes_nil w src e hs he 0 c dst hd]; rfl
  | some ad =>
    rw [run_convert_bytes_string w src dst e _ 0 c hs he hd]
    have := run_bytesToString (P := P) w ad 0 c [] (by
      have := run_loadCells_list (P := P) w ad [] (fun j v hj => by simp at hj)
      simpa using this)
    rw [this]; rfl

theorem RdB.conv {P : Program} {B : Nat} {w : World} {a : Option Addr} {len cap : Nat} {M : List Int} (h : RdB .u8 B w a len cap M) (src dst e : TypeId) (hs : P.underlying src = some (.slice e)) (he : P.underlying e = some (.int .u8)) (hd : P.underlying dst = some .string) :
    (convert src dst (.slice a len cap)).run P w = .ok (.string (strOfNums M)) w := by
  obtain ⟨h1, h2, h3, h4, h5⟩ := h
  rcases h5 with rfl | ⟨b, off, rfl, hlt, hc⟩
  · obtain rfl : M = [] := List.eq_nil_of_length_eq_zero h1
    exact run_convert_empty w src dst e hs he hd a cap
  · exact run_convert_bytes_arg w src e hs he b off len cap M h1 hc dst hd
end Go.Proofs.Ytfjddkjfkgdihaa
