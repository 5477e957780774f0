/- A list of calls that came in reads as calls. -/
import Derived.Test.YtfjddkjfkgdihaaC6
import Derived.Test.YtfjddkjfkgdihaaOpen
namespace Go.Proofs.Ytfjddkjfkgdihaa
open Go.RowKit

theorem cells65 : Try.prog.cellsOf 65 = 11 := by kernel_rfl
theorem kind65_0 : kindAt Try.prog 3 65 0 = some (some .i64) := by kernel_rfl
theorem kind65_1 : kindAt Try.prog 3 65 1 = some (some .i64) := by kernel_rfl
theorem kind65_2 : kindAt Try.prog 3 65 2 = some (some .u32) := by kernel_rfl
theorem kind65_3 : kindAt Try.prog 3 65 3 = some (some .u32) := by kernel_rfl
theorem kind65_4 : kindAt Try.prog 3 65 4 = some (some .i64) := by kernel_rfl
theorem kind65_5 : kindAt Try.prog 3 65 5 = some (some .u32) := by kernel_rfl
theorem kind65_6 : kindAt Try.prog 3 65 6 = some (some .i64) := by kernel_rfl
theorem kind65_7 : kindAt Try.prog 3 65 7 = some (some .i64) := by kernel_rfl
theorem kind65_8 : kindAt Try.prog 3 65 8 = some (some .i64) := by kernel_rfl
theorem kind65_9 : kindAt Try.prog 3 65 9 = some none := by kernel_rfl
theorem kind65_10 : kindAt Try.prog 3 65 10 = some none := by kernel_rfl

theorem calls_of_trod {H : Type} {enc : TypeId × Value → H} {w : World} {base : Nat} {spare : Nat → Bool} {held : Bool} {fuel : Nat} {a : Option Addr} {len cap : Nat} {x : DataW H × List MemPlace}
    (h : DataW.trod enc Try.prog w base spare held fuel 60 (Value.cells (.slice a len cap)).toList = some x) : ∃ c, CallsAt w a len cap c := by
  obtain ⟨h1, h2, h3⟩ := open_slice_cells (P := Try.prog) Try.underlying60 (by rw [cells65]; decide) ⟨3, _, kind65_0⟩ h a len cap (by simp [Value.cells])
  rcases h3 with rfl | ⟨b, off, rfl, hb, hc⟩
  · exact ⟨fun _ => ⟨0, 0, 0, 0, 0, 0, 0, 0, 0, false, false⟩, h1, h2, fun i hi => absurd hi (by omega)⟩
  · rw [cells65] at hc
    have each : ∀ i, ∃ c : CallD, i < len → CallAt w b (off + i * 11) c := by
      intro i
      by_cases hi : i < len
      · obtain ⟨_, c0, n0, rfl, -⟩ := hc i hi 3 0 _ (by decide) kind65_0
        obtain ⟨_, c1, n1, rfl, -⟩ := hc i hi 3 1 _ (by decide) kind65_1
        obtain ⟨_, c2, n2, rfl, -⟩ := hc i hi 3 2 _ (by decide) kind65_2
        obtain ⟨_, c3, n3, rfl, -⟩ := hc i hi 3 3 _ (by decide) kind65_3
        obtain ⟨_, c4, n4, rfl, -⟩ := hc i hi 3 4 _ (by decide) kind65_4
        obtain ⟨_, c5, n5, rfl, -⟩ := hc i hi 3 5 _ (by decide) kind65_5
        obtain ⟨_, c6, n6, rfl, -⟩ := hc i hi 3 6 _ (by decide) kind65_6
        obtain ⟨_, c7, n7, rfl, -⟩ := hc i hi 3 7 _ (by decide) kind65_7
        obtain ⟨_, c8, n8, rfl, -⟩ := hc i hi 3 8 _ (by decide) kind65_8
        obtain ⟨_, c9, n9, rfl⟩ := hc i hi 3 9 _ (by decide) kind65_9
        obtain ⟨_, c10, n10, rfl⟩ := hc i hi 3 10 _ (by decide) kind65_10
        exact ⟨⟨n0, n1, n2, n3, n4, n5, n6, n7, n8, n9, n10⟩, fun _ => ⟨c0, c1, c2, c3, c4, c5, c6, c7, c8, c9, c10⟩⟩
      · exact ⟨⟨0, 0, 0, 0, 0, 0, 0, 0, 0, false, false⟩, fun h => absurd h hi⟩
    exact ⟨fun i => Classical.choose (each i), h1, h2, fun i hi => ⟨b, off, rfl, hb, Classical.choose_spec (each i) hi⟩⟩
end Go.Proofs.Ytfjddkjfkgdihaa
