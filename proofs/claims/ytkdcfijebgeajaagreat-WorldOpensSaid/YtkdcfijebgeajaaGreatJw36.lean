/- A run reckoned in parts: function 16, whole.
   Layer 22: a config that came in, opened. No walk here.
   Layer 23 (world): the law WorldOpens, joined; words that came in, opened. -/
import Derived.Test.YtkdcfijebgeajaaGreatJw32
import Derived.Test.YtkdcfijebgeajaaGreatJw34
import Derived.Test.YtkdcfijebgeajaaGreatJw35
import Derived.KernelRfl
import Derived.Test.YtkdcfijebgeajaaGreatJw10
import Derived.Lib.SmallJoins
import Derived.Test.YtkdcfijebgeajaaGreatJw12
import Derived.Test.YtkdcfijebgeajaaGreatJw17
import Derived.Test.YtkdcfijebgeajaaGreatJw30
namespace Go.Proofs.YtkdcfijebgeajaaGreat
namespace Rk
set_option maxRecDepth 1000000
theorem said16 : boolOf (run env 100001 (.call 16 [] ⟨0, .nil⟩)) = true := begin_ok (by kernel_rfl) ((congrArg (saysB env 16) ((itF_ok part16_0).trans (itF_ok part16_1))).trans (lastB_ok part16_2))
end Rk
end Go.Proofs.YtkdcfijebgeajaaGreat

namespace Go.Proofs.YtkdcfijebgeajaaGreat
open Go.RowKit Go.ChangeShapes Go.WideShapes Go.Deep
set_option linter.unusedVariables false
set_option linter.unusedSimpArgs false
theorem kind23_0 : kindAt Tryz.prog 4 23 0 = some (some .i64) := by kernel_rfl
theorem kind23_1 : kindAt Tryz.prog 4 23 1 = some (some .i64) := by kernel_rfl
theorem kind23_2 : kindAt Tryz.prog 4 23 2 = some (some .i64) := by kernel_rfl
theorem kind23_3 : kindAt Tryz.prog 4 23 3 = some (some .i64) := by kernel_rfl
set_option maxRecDepth 100000 in
theorem cfg_open {H : Type} {enc : TypeId × Value → H} {w : World} {r : Reach} {b0 base : Nat} {spare : Nat → Bool} {held : Bool} {v : Value} {d : DataW H} {p : List MemPlace}
    (hv : Value.okWide Tryz.prog w r b0 23 v) (h : DataW.Trod enc Tryz.prog w base spare held 23 v d p) : ∃ (th sl lo' bu : Int), v = .agg #[.int .i64 th, .int .i64 sl, .int .i64 lo', .int .i64 bu] := by
  obtain ⟨cs, rfl, hsz⟩ := okWide_struct Tryz.underlying23 hv
  obtain ⟨fuel, hf⟩ := h
  have hc : Tryz.prog.cellsOf 23 = 4 := by kernel_rfl
  rw [hc] at hsz
  obtain ⟨_, g0, n0, rfl, -⟩ := kindAt_ok 4 23 0 _ fuel _ _ hf kind23_0
  obtain ⟨_, g1, n1, rfl, -⟩ := kindAt_ok 4 23 1 _ fuel _ _ hf kind23_1
  obtain ⟨_, g2, n2, rfl, -⟩ := kindAt_ok 4 23 2 _ fuel _ _ hf kind23_2
  obtain ⟨_, g3, n3, rfl, -⟩ := kindAt_ok 4 23 3 _ fuel _ _ hf kind23_3
  simp only [Value.cells] at g0 g1 g2 g3
  obtain ⟨l⟩ := cs
  match l, hsz with
  | [c0, c1, c2, c3], _ =>
    simp at g0 g1 g2 g3
    subst g0 g1 g2 g3
    exact ⟨_, _, _, _, rfl⟩
end Go.Proofs.YtkdcfijebgeajaaGreat

namespace Go.Proofs.YtkdcfijebgeajaaGreat
open Go.RowKit Go.BigFrame Go.ChangeShapes Go.WideShapes Go.Deep
set_option linter.unusedVariables false
set_option linter.unusedSimpArgs false
theorem awake16w : Awake Tryz.prog 16 := fun w => Rk.reckoned_true Rk.envOk Rk.orcOk Rk.said16 w
theorem law5_yes (th sl lo bu : Nat) (hf : (⟨th, sl, lo, bu⟩ : Cfg).few) (f : Nat → Nat) (a : Option Addr) (b off n cap : Nat) (hn : n ≤ 300) (W : World) (hw : WordsIn W f a b off n cap) : Calls Tryz.prog 5 #[.agg #[.int .i64 th, .int .i64 sl, .int .i64 lo, .int .i64 bu], .slice a n cap] W (Gives (.bool true) W) := by
  have hr := hf.1
  have hf' := hf
  obtain ⟨⟨f1, f2, f3, f4, f5, f6, f7, f8⟩, f9, f10, f11, f12⟩ := hf'
  simp only at f1 f2 f3 f4 f5 f6 f7 f8 f9 f10 f11 f12
  have hok : Ok4 th sl lo bu := by unfold Ok4; omega
  have hm : th * ((lo + 7) / 8) ≤ 6 * 1 := Nat.mul_le_mul (by omega) (by omega)
  have hq : 8 * linesN th sl lo bu ≤ 800 := by unfold linesN; omega
  have hq0 : 0 < 8 * linesN th sl lo bu := by unfold linesN; omega
  refine law5_go (Lib.hid awake16w) th sl lo bu (8 * linesN th sl lo bu) (fun j => (fmtN th sl lo bu j : Int)) (Lib.hid (by omega)) (Lib.hid fun w => ?_) (Lib.hid fun w => ?_) (Lib.hid fun w => ?_) (Lib.hid fun w => ?_) (Lib.hid fun w => ?_) f a b off n cap hn W hw
  · have h := refRight_any ⟨th, sl, lo, bu⟩ w
    rw [decide_eq_true hr] at h; exact h
  · have h := few57 ⟨th, sl, lo, bu⟩ w
    rw [decide_eq_true hf] at h; exact h
  · refine (format25_yes th sl lo bu hok w).mono ?_
    rintro e w' ⟨g, c, rfl, hb, -, hg, hcs, hc⟩
    exact ⟨g, rfl, hb, c, _, hg, fun k hk => by rw [hc k hk, fmtW_N]⟩
  · refine (format33_yes th sl lo bu hok w).mono ?_
    rintro e w' ⟨v, rfl, hb, ho⟩
    obtain ⟨g, cap', c, rfl, -, hg, hc1, hcs, hcc⟩ := own_row ho hq0
    have hl : (lastingL th sl lo bu).length = 8 * linesN th sl lo bu := by have := ho.1; simp at this; omega
    refine ⟨g, cap', rfl, hb, c, _, hg, fun k hk => ?_⟩
    rw [hcc k (by omega), formats_alike th sl lo bu _ (supWs th sl lo bu) (fun j hj => supWs_get _ _ _ _ j hj) k (by omega), fmtW_N]
  · exact fresh32_yes th sl lo bu hok hq w
theorem law5 (th sl lo bu : Int) (f : Nat → Nat) (a : Option Addr) (b off n cap : Nat) (W : World) (hw : WordsIn W f a b off n cap) : Calls Tryz.prog 5 #[.agg #[.int .i64 th, .int .i64 sl, .int .i64 lo, .int .i64 bu], .slice a n cap] W (Gives (.bool true) W) := by
  by_cases hr : (⟨th, sl, lo, bu⟩ : Cfg).right
  · by_cases hf : (⟨th, sl, lo, bu⟩ : Cfg).few
    · by_cases hn : 300 < n
      · exact law5_long (Lib.hid awake16w) th sl lo bu (fun h => h.2 hf) a n cap hn W
      · have hf' := hf
        obtain ⟨⟨f1, f2, f3, f4, f5, f6, f7, f8⟩, f9, f10, f11, f12⟩ := hf'
        simp only at f1 f2 f3 f4 f5 f6 f7 f8 f9 f10 f11 f12
        obtain ⟨th', rfl⟩ := Int.eq_ofNat_of_zero_le (show 0 ≤ th by omega)
        obtain ⟨sl', rfl⟩ := Int.eq_ofNat_of_zero_le (show 0 ≤ sl by omega)
        obtain ⟨lo', rfl⟩ := Int.eq_ofNat_of_zero_le (show 0 ≤ lo by omega)
        obtain ⟨bu', rfl⟩ := Int.eq_ofNat_of_zero_le (show 0 ≤ bu by omega)
        exact law5_yes th' sl' lo' bu' hf f a b off n cap (by omega) W hw
    · exact law5_many (Lib.hid awake16w) th sl lo bu hr hf a n cap W
  · by_cases hn : 300 < n
    · exact law5_long (Lib.hid awake16w) th sl lo bu (fun h => hr h.1) a n cap hn W
    · exact law5_no (Lib.hid awake16w) th sl lo bu hr f a b off n cap (by omega) W hw
theorem cells105 : Tryz.prog.cellsOf 105 = 1 := by kernel_rfl
theorem kind105_0 : kindAt Tryz.prog 3 105 0 = some (some .u64) := by kernel_rfl
theorem words_of_trod {H : Type} {enc : TypeId × Value → H} {w : World} {base : Nat} {spare : Nat → Bool} {held : Bool} {fuel : Nat} {a : Option Addr} {len cap : Nat} {x : DataW H × List MemPlace}
    (h : DataW.trod enc Tryz.prog w base spare held fuel 24 (Value.cells (.slice a len cap)).toList = some x) : ∃ f b off, WordsIn w f a b off len cap := by
  obtain ⟨h1, h2, h3⟩ := open_slice_cells (P := Tryz.prog) Tryz.underlying24 (by rw [cells105]; decide) ⟨3, _, kind105_0⟩ h a len cap (by simp [Value.cells])
  unfold maxLen at h2
  rcases h3 with rfl | ⟨b, off, rfl, hb, hc⟩
  · exact ⟨fun _ => 0, 0, 0, by omega, h1, h2, by omega, by omega⟩
  · rw [cells105] at hc
    have each : ∀ i, ∃ c : Nat, i < len → w.cell? ⟨b, off + i, none⟩ = some (.int .u64 c) := by
      intro i
      by_cases hi : i < len
      · obtain ⟨_, c0, n0, rfl, f0⟩ := hc i hi 3 0 _ (by decide) kind105_0
        rw [Nat.mul_one, Nat.add_zero] at c0
        have hw : 0 ≤ n0 := by
          have := f0
          simp [Lit.wf] at this
          have e1 : IntKind.u64.min = 0 := rfl
          omega
        exact ⟨n0.toNat, fun _ => by rw [Int.toNat_of_nonneg hw]; exact c0⟩
      · exact ⟨0, fun h => absurd h hi⟩
    exact ⟨fun i => Classical.choose (each i), b, off, fun _ => rfl, h1, h2, fun _ => hb, fun j hj => Classical.choose_spec (each j) hj⟩
end Go.Proofs.YtkdcfijebgeajaaGreat
