/- Lists of accesses that came in read as accesses; the law WearCounts for all of them. -/
import Derived.Test.YtfjddkjfkgdihaaW8
namespace Go.Proofs.Ytfjddkjfkgdihaa
open Go.RowKit

theorem cells50 : Try.prog.cellsOf 50 = 6 := by kernel_rfl
theorem kind50_0 : kindAt Try.prog 3 50 0 = some (some .i64) := by kernel_rfl
theorem kind50_1 : kindAt Try.prog 3 50 1 = some (some .i64) := by kernel_rfl
theorem kind50_2 : kindAt Try.prog 3 50 2 = some (some .i64) := by kernel_rfl
theorem kind50_3 : kindAt Try.prog 3 50 3 = some (some .u64) := by kernel_rfl
theorem kind50_4 : kindAt Try.prog 3 50 4 = some (some .u64) := by kernel_rfl
theorem kind50_5 : kindAt Try.prog 3 50 5 = some none := by kernel_rfl

/-- Its numbers are of their kinds. -/
def AccD.fit (x : AccD) : Prop := (Lit.int .i64 x.ki).wf = true ∧ (Lit.int .i64 x.th).wf = true ∧ (Lit.int .i64 x.pl).wf = true ∧ (Lit.int .u64 x.ol).wf = true ∧ (Lit.int .u64 x.ne).wf = true

theorem accs_of_trod {H : Type} {enc : TypeId × Value → H} {w : World} {base : Nat} {spare : Nat → Bool} {held : Bool} {fuel : Nat} {a : Option Addr} {len cap : Nat} {x : DataW H × List MemPlace}
    (h : DataW.trod enc Try.prog w base spare held fuel 48 (Value.cells (.slice a len cap)).toList = some x) : ∃ c, AccsAt w a len cap c ∧ ∀ i, i < len → (c i).fit := by
  obtain ⟨h1, h2, h3⟩ := open_slice_cells (P := Try.prog) Try.underlying48 (by rw [cells50]; decide) ⟨3, _, kind50_0⟩ h a len cap (by simp [Value.cells])
  rcases h3 with rfl | ⟨b, off, rfl, hb, hc⟩
  · exact ⟨fun _ => ⟨0, 0, 0, 0, 0, false⟩, ⟨h1, h2, fun i hi => absurd hi (by omega)⟩, fun i hi => absurd hi (by omega)⟩
  · rw [cells50] at hc
    have each : ∀ i, ∃ c : AccD, i < len → AccAt w b (off + i * 6) c ∧ c.fit := by
      intro i
      by_cases hi : i < len
      · obtain ⟨_, c0, n0, rfl, f0⟩ := hc i hi 3 0 _ (by decide) kind50_0
        obtain ⟨_, c1, n1, rfl, f1⟩ := hc i hi 3 1 _ (by decide) kind50_1
        obtain ⟨_, c2, n2, rfl, f2⟩ := hc i hi 3 2 _ (by decide) kind50_2
        obtain ⟨_, c3, n3, rfl, f3⟩ := hc i hi 3 3 _ (by decide) kind50_3
        obtain ⟨_, c4, n4, rfl, f4⟩ := hc i hi 3 4 _ (by decide) kind50_4
        obtain ⟨_, c5, n5, rfl⟩ := hc i hi 3 5 _ (by decide) kind50_5
        exact ⟨⟨n0, n1, n2, n3, n4, n5⟩, fun _ => ⟨⟨c0, c1, c2, c3, c4, c5⟩, f0, f1, f2, f3, f4⟩⟩
      · exact ⟨⟨0, 0, 0, 0, 0, false⟩, fun h => absurd h hi⟩
    exact ⟨fun i => Classical.choose (each i), ⟨h1, h2, fun i hi => ⟨b, off, rfl, hb, (Classical.choose_spec (each i) hi).1⟩⟩, fun i hi => (Classical.choose_spec (each i) hi).2⟩

theorem wear_law (a1 a2 : Option Addr) (l1 k1 l2 k2 : Nat) (c1 c2 : Nat → AccD) (t : Int) (w : World) (h1 : AccsAt w a1 l1 k1 c1) (h2 : AccsAt w a2 l2 k2 c2) :
    Calls Try.prog 8 #[.slice a1 l1 k1, .slice a2 l2 k2, .int .i64 t] w (TrueOn w) := by
  by_cases h : 100 < l1 ∨ 100 < l2
  · have e1 := h1.1; have e2 := h1.2.1; have e3 := h2.1; have e4 := h2.2.1
    unfold maxLen at e2 e4
    exact wear_long a1 a2 l1 k1 l2 k2 t w h (by omega) (by omega)
  · exact wear_t a1 a2 l1 k1 l2 k2 c1 c2 t _ rfl w h1 h2 (by omega) (by omega)
end Go.Proofs.Ytfjddkjfkgdihaa
