/- Lists of accesses that came in read as accesses; the law TraceWrites for all of them. -/
import Derived.Test.YtfjddkjfkgdihaaE12
import Derived.Test.YtfjddkjfkgdihaaOpen
namespace Go.Proofs.Ytfjddkjfkgdihaa
open Go.RowKit

theorem cells50 : Try.prog.cellsOf 50 = 6 := by kernel_rfl
theorem kind50_0 : kindAt Try.prog 3 50 0 = some (some .i64) := by kernel_rfl
theorem kind50_1 : kindAt Try.prog 3 50 1 = some (some .i64) := by kernel_rfl
theorem kind50_2 : kindAt Try.prog 3 50 2 = some (some .i64) := by kernel_rfl
theorem kind50_3 : kindAt Try.prog 3 50 3 = some (some .u64) := by kernel_rfl
theorem kind50_4 : kindAt Try.prog 3 50 4 = some (some .u64) := by kernel_rfl
theorem kind50_5 : kindAt Try.prog 3 50 5 = some none := by kernel_rfl

/-- Its numbers are of their kinds. -/
def AccD.fit (x : AccD) : Prop := (Lit.int .i64 x.ki).wf = true ∧ (Lit.int .i64 x.th).wf = true ∧ (Lit.int .i64 x.pl).wf = true ∧ (Lit.int .u64 x.ol).wf = true ∧ (Lit.int .u64 x.ne).wf = true

theorem accs_of_trod {H : Type} {enc : TypeId × Value → H} {w : World} {base : Nat} {spare : Nat → Bool} {held : Bool} {fuel : Nat} {a : Option Addr} {len cap : Nat} {x : DataW H × List MemPlace}
    (h : DataW.trod enc Try.prog w base spare held fuel 48 (Value.cells (.slice a len cap)).toList = some x) : ∃ c, AccsAt w a len cap c ∧ ∀ i, i < len → (c i).fit := by
  obtain ⟨h1, h2, h3⟩ := open_slice_cells (P := Try.prog) Try.underlying48 (by rw [cells50]; decide) ⟨3, _, kind50_0⟩ h a len cap (by simp [Value.cells])
  rcases h3 with rfl | ⟨b, off, rfl, hb, hc⟩
  · exact ⟨fun _ => ⟨0, 0, 0, 0, 0, false⟩, ⟨h1, h2, fun i hi => absurd hi (by omega)⟩, fun i hi => absurd hi (by omega)⟩
  · rw [cells50] at hc
    have each : ∀ i, ∃ c : AccD, i < len → AccAt w b (off + i * 6) c ∧ c.fit := by
      intro i
      by_cases hi : i < len
      · obtain ⟨_, c0, n0, rfl, f0⟩ := hc i hi 3 0 _ (by decide) kind50_0
        obtain ⟨_, c1, n1, rfl, f1⟩ := hc i hi 3 1 _ (by decide) kind50_1
        obtain ⟨_, c2, n2, rfl, f2⟩ := hc i hi 3 2 _ (by decide) kind50_2
        obtain ⟨_, c3, n3, rfl, f3⟩ := hc i hi 3 3 _ (by decide) kind50_3
        obtain ⟨_, c4, n4, rfl, f4⟩ := hc i hi 3 4 _ (by decide) kind50_4
        obtain ⟨_, c5, n5, rfl⟩ := hc i hi 3 5 _ (by decide) kind50_5
        exact ⟨⟨n0, n1, n2, n3, n4, n5⟩, fun _ => ⟨⟨c0, c1, c2, c3, c4, c5⟩, f0, f1, f2, f3, f4⟩⟩
      · exact ⟨⟨0, 0, 0, 0, 0, false⟩, fun h => absurd h hi⟩
    exact ⟨fun i => Classical.choose (each i), ⟨h1, h2, fun i hi => ⟨b, off, rfl, hb, (Classical.choose_spec (each i) hi).1⟩⟩, fun i hi => (Classical.choose_spec (each i) hi).2⟩

theorem writes_law (a : Option Addr) (len cap : Nat) (c : Nat → AccD) (w : World) (h : AccsAt w a len cap c) (hf : ∀ i, i < len → (c i).fit) :
    Calls Try.prog 12 #[.slice a len cap] w (TrueOn w) := by
  by_cases hl : 100 < len
  · have e1 := h.1; have e2 := h.2.1
    unfold maxLen at e2
    exact writes_long a len cap w hl (by omega)
  · cases hb : badTo c len with
    | true => exact writes_bad a len cap c w h (by omega) hb
    | false =>
      have hm := badTo_false hb
      have hg : ∀ i, i < len → (c i).good := fun i hi => by
        refine ⟨hm i hi, ?_⟩
        obtain ⟨-, -, -, f3, f4⟩ := hf i hi
        simp [Lit.wf, IntKind.min, IntKind.max, IntKind.signed, IntKind.bits] at f3 f4
        unfold AccD.wide
        omega
      exact writes_good a len cap c w h (by omega) hg hb (encAll_len c len (by omega) hg)
end Go.Proofs.Ytfjddkjfkgdihaa
