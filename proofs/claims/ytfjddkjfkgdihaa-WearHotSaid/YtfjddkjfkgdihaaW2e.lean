/- Walks of Tally.one, case by case (printed by w2.py). -/
import Derived.Test.YtfjddkjfkgdihaaW2a
import Derived.Test.YtfjddkjfkgdihaaW2b
import Derived.Test.YtfjddkjfkgdihaaW2c
import Derived.Test.YtfjddkjfkgdihaaW2d
import Derived.Laws.Pointers
import Derived.RegionTactic
import Derived.BigRegion
import Derived.ChangeAlike
import Derived.BigQuiet
namespace Go.Proofs.Ytfjddkjfkgdihaa
open Go.RowKit Go.BigFrame
set_option linter.unusedVariables false
set_option linter.unusedSimpArgs false

theorem one_any (b g n : Nat) (F T : Nat → Int) (x : AccD) (w : World) (H : TallyAt w b F g n T) (hn : n ≤ 64) (hF : ∀ j, j < 9 → 0 ≤ F j ∧ F j < 1000) (hT : ∀ j, j < n → 0 ≤ T j ∧ T j < 1000) :
    Calls Try.prog 57 #[.pointer (some ⟨b, 0, none⟩), .agg x.cells] w (OneTo b F g n T x w) := by
  obtain ⟨ki, th, pl, ol, ne, dn⟩ := x
  have ht : (0 ≤ th ∧ th < n) ∨ th < 0 ∨ (n : Int) ≤ th := by omega
  have hp : pl < 0 ∨ 0 ≤ pl := by omega
  have hk : ki < 0 ∨ ki = 0 ∨ ki = 1 ∨ ki = 2 ∨ ki = 3 ∨ ki = 4 ∨ ki = 5 ∨ 5 < ki := by omega
  rcases hk with hk | rfl | rfl | rfl | rfl | rfl | rfl | hk
  · skip
    rcases ht with ⟨h0, h1⟩ | h0 | h0
    · exact one_lo_in b g n F T ki th pl ol ne dn w H hn hF hT hk h0 h1
    · exact one_lo_lo b g n F T ki th pl ol ne dn w H hn hF hT hk h0
    · exact one_lo_hi b g n F T ki th pl ol ne dn w H hn hF hT hk h0 (by omega)
  · skip
    rcases ht with ⟨h0, h1⟩ | h0 | h0
    · exact one_0_in b g n F T th pl ol ne dn w H hn hF hT h0 h1
    · exact one_0_lo b g n F T th pl ol ne dn w H hn hF hT h0
    · exact one_0_hi b g n F T th pl ol ne dn w H hn hF hT h0 (by omega)
  · skip
    rcases hp with hp | hp
    · skip
      rcases ht with ⟨h0, h1⟩ | h0 | h0
      · exact one_1neg_in b g n F T th pl ol ne dn w H hn hF hT hp h0 h1
      · exact one_1neg_lo b g n F T th pl ol ne dn w H hn hF hT hp h0
      · exact one_1neg_hi b g n F T th pl ol ne dn w H hn hF hT hp h0 (by omega)
    · skip
      rcases ht with ⟨h0, h1⟩ | h0 | h0
      · exact one_1pos_in b g n F T th pl ol ne dn w H hn hF hT hp h0 h1
      · exact one_1pos_lo b g n F T th pl ol ne dn w H hn hF hT hp h0
      · exact one_1pos_hi b g n F T th pl ol ne dn w H hn hF hT hp h0 (by omega)
  · skip
    rcases hp with hp | hp
    · skip
      rcases ht with ⟨h0, h1⟩ | h0 | h0
      · exact one_2neg_in b g n F T th pl ol ne dn w H hn hF hT hp h0 h1
      · exact one_2neg_lo b g n F T th pl ol ne dn w H hn hF hT hp h0
      · exact one_2neg_hi b g n F T th pl ol ne dn w H hn hF hT hp h0 (by omega)
    · skip
      rcases ht with ⟨h0, h1⟩ | h0 | h0
      · exact one_2pos_in b g n F T th pl ol ne dn w H hn hF hT hp h0 h1
      · exact one_2pos_lo b g n F T th pl ol ne dn w H hn hF hT hp h0
      · exact one_2pos_hi b g n F T th pl ol ne dn w H hn hF hT hp h0 (by omega)
  · rcases dn with _ | _
    · skip
      rcases hp with hp | hp
      · skip
        rcases ht with ⟨h0, h1⟩ | h0 | h0
        · exact one_3fneg_in b g n F T th pl ol ne w H hn hF hT hp h0 h1
        · exact one_3fneg_lo b g n F T th pl ol ne w H hn hF hT hp h0
        · exact one_3fneg_hi b g n F T th pl ol ne w H hn hF hT hp h0 (by omega)
      · skip
        rcases ht with ⟨h0, h1⟩ | h0 | h0
        · exact one_3fpos_in b g n F T th pl ol ne w H hn hF hT hp h0 h1
        · exact one_3fpos_lo b g n F T th pl ol ne w H hn hF hT hp h0
        · exact one_3fpos_hi b g n F T th pl ol ne w H hn hF hT hp h0 (by omega)
    · skip
      rcases hp with hp | hp
      · skip
        rcases ht with ⟨h0, h1⟩ | h0 | h0
        · exact one_3tneg_in b g n F T th pl ol ne w H hn hF hT hp h0 h1
        · exact one_3tneg_lo b g n F T th pl ol ne w H hn hF hT hp h0
        · exact one_3tneg_hi b g n F T th pl ol ne w H hn hF hT hp h0 (by omega)
      · skip
        rcases ht with ⟨h0, h1⟩ | h0 | h0
        · exact one_3tpos_in b g n F T th pl ol ne w H hn hF hT hp h0 h1
        · exact one_3tpos_lo b g n F T th pl ol ne w H hn hF hT hp h0
        · exact one_3tpos_hi b g n F T th pl ol ne w H hn hF hT hp h0 (by omega)
  · skip
    rcases ht with ⟨h0, h1⟩ | h0 | h0
    · exact one_4_in b g n F T th pl ol ne dn w H hn hF hT h0 h1
    · exact one_4_lo b g n F T th pl ol ne dn w H hn hF hT h0
    · exact one_4_hi b g n F T th pl ol ne dn w H hn hF hT h0 (by omega)
  · skip
    rcases ht with ⟨h0, h1⟩ | h0 | h0
    · exact one_5_in b g n F T th pl ol ne dn w H hn hF hT h0 h1
    · exact one_5_lo b g n F T th pl ol ne dn w H hn hF hT h0
    · exact one_5_hi b g n F T th pl ol ne dn w H hn hF hT h0 (by omega)
  · skip
    rcases ht with ⟨h0, h1⟩ | h0 | h0
    · exact one_hi_in b g n F T ki th pl ol ne dn w H hn hF hT hk (by omega) h0 h1
    · exact one_hi_lo b g n F T ki th pl ol ne dn w H hn hF hT hk (by omega) h0
    · exact one_hi_hi b g n F T ki th pl ol ne dn w H hn hF hT hk (by omega) h0 (by omega)
end Go.Proofs.Ytfjddkjfkgdihaa