/- The law WearHot walked: which lines were written back most often. -/
import Derived.Test.YtfjddkjfkgdihaaF11
import Derived.OpenShut
namespace Go.Proofs.Ytfjddkjfkgdihaa
open Go.ChangeShapes Go.WideShapes Go.ChangeAt Go.RowKit Go.BigFrame
set_option linter.unusedVariables false
set_option linter.unusedSimpArgs false

theorem hot_long (a : Option Addr) (len cap : Nat) (k : Int) (w : World) (h : 300 < len) (hm : len ≤ 9223372036854775807) :
    Calls Try.prog 14 #[.slice a len cap, .int .i64 k] w (TrueOn w) := by
  have g0 : decide ((300 : Int) < (len : Int)) = true := by simp; omega
  go_enter Try.func14, Try.ntmps14
  go_wp2_with (go_at_call 32; refine (awake33_any _).mono ?_; rintro e w' ⟨rfl, hb⟩)
  go_ret
  exact ⟨rfl, hb⟩

set_option maxRecDepth 100000 in
set_option maxHeartbeats 4000000 in
theorem hot_few (a : Option Addr) (len cap : Nat) (z : Nat → Int) (k : Int) (w : World) (h : IntsAt .i64 w a len cap z) (hl : len ≤ 300) (hk : -9223372036854775808 ≤ k ∧ k ≤ 9223372036854775807) :
    Calls Try.prog 14 #[.slice a len cap, .int .i64 k] w (TrueOn w) := by
  have H53 := Lib.hid (hot53 a len cap z k w h hl hk)
  have H54 : Hid (∀ m R w', Below w.heap.size w w' → Best z len m R → m ≤ len → Calls Try.prog 54 #[.slice a len cap, .int .i64 k] w' (RefHotTo R m k w')) := Lib.hid fun m R w' hb hB hm => by
    refine refHot54 a len cap z k m R w' ⟨h.1, h.2.1, fun i hi => ?_⟩ hl hk hB hm
    obtain ⟨b, off, e, h1, h2, h3⟩ := h.2.2 i hi
    exact ⟨b, off, e, Nat.lt_of_lt_of_le h1 hb.size, (hb.cell (p := ⟨b, off + i, none⟩) h1).trans h2, h3⟩
  have hlc := h.1
  have hcm := h.2.1
  unfold maxLen at hcm
  have g0 : decide ((300 : Int) < (len : Int)) = false := by simp; omega
  clear h
  go_enter Try.func14, Try.ntmps14
  go_wp2_with fail
  refine H53.out.mono ?_
  rintro e w1 ⟨R, m, a1, c1, rfl, hb1, hB, hml, hL1⟩
  have HB1 := Lib.hid hb1
  have HL1 := Lib.hid hL1
  have HC := Lib.hid (H54.out m R w1 hb1 hB hml)
  clear hb1 hB H53 H54 hL1
  go_wp2_with fail
  refine HC.out.mono ?_
  rintro e w2 ⟨a2, c2, rfl, hb2, hL2⟩
  have HL2 := Lib.hid hL2
  have HL1' := Lib.hid (HL1.out.below hb2)
  have HB2 : Hid (Below w.heap.size w w2) := Lib.hid (HB1.out.trans (hb2.mono HB1.out.size))
  have hK : cutK k m ≤ 300 := by have := cutK_le k m; omega
  clear hb2 hL2 HC HL1 HB1
  generalize cutK k m = K at *
  go_wp2_with fail
  go_loopw [7] (fun i wr => ∃ n : Nat, n ≤ K ∧ i = .int .i64 n ∧ ∃ d, wr = w2.drewN d) (fun i _ => K - (intOf i).toNat)
  case atStart => exact ⟨0, Nat.zero_le _, rfl, 0, rfl⟩
  case round =>
    obtain ⟨n, hn, rfl, d, rfl⟩ := hrel
    by_cases hlt : n < K
    · obtain ⟨b1, rfl, h1, x1⟩ := HL1'.out.2.2 n hlt
      obtain ⟨b2, rfl, h2, x2⟩ := HL2.out.2.2 n hlt
      have i0 : (0 : Int) ≤ (n : Int) := by omega
      have i1 : (n : Int) < (K : Int) := by omega
      go_wp2_with fail
      go_quiet (fail)
      go_wp2_with fail
      go_roundw
      case rel => exact ⟨n + 1, by omega, by go_num, _, rfl⟩
      case measure => simp [intOf]; omega
    · obtain rfl : n = K := by omega
      go_wp2_with (go_at_call 32; refine (awake33_any _).mono ?_; rintro e w' ⟨rfl, hb⟩)
      go_ret
      have hd : Below w2.heap.size w2 (w2.drewN d) := ⟨rfl, rfl, rfl, Nat.le_refl _, fun _ _ => rfl⟩
      exact ⟨rfl, HB2.out.trans ((hd.trans hb).mono HB2.out.size)⟩

theorem hot_law (a : Option Addr) (len cap : Nat) (z : Nat → Int) (k : Int) (w : World) (h : IntsAt .i64 w a len cap z) (hk : (Lit.int .i64 k).wf = true) : Calls Try.prog 14 #[.slice a len cap, .int .i64 k] w (TrueOn w) := by
  by_cases hl : 300 < len
  · exact hot_long a len cap k w hl (by have := h.1; have := h.2.1; unfold maxLen at this; omega)
  · simp [Lit.wf, IntKind.min, IntKind.max, IntKind.signed, IntKind.bits] at hk
    exact hot_few a len cap z k w h (by omega) (by omega)

theorem lines_of_trod {H : Type} {enc : TypeId × Value → H} {w : World} {base : Nat} {held : Bool} {fuel : Nat} {a : Option Addr} {len cap : Nat} {x : DataW H × List MemPlace}
    (h : DataW.trod enc Try.prog w base (fun _ => true) held fuel 37 (Value.cells (.slice a len cap)).toList = some x) : ∃ z, IntsAt .i64 w a len cap z := by
  rcases open_ints Try.underlying37 Try.underlying3 (by kernel_rfl) h with ⟨hcs, _⟩ | ⟨x, l, c, zs, hcs, _, hl, hm, hz, _, hcell, hwz⟩
  · simp [Value.cells] at hcs
    obtain ⟨rfl, rfl, rfl⟩ := hcs
    exact ⟨_, intsAt_of_row (zs := []) (.inl ⟨rfl, rfl, rfl, rfl⟩)⟩
  · simp [Value.cells] at hcs
    obtain ⟨rfl, rfl, rfl⟩ := hcs
    exact ⟨_, intsAt_of_row (.inr ⟨_, rfl, hl, hm, by simpa using hz, hcell, hwz⟩)⟩
end Go.Proofs.Ytfjddkjfkgdihaa
