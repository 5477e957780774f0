/- Walk of the reference's Read (layer 37). -/
import Derived.Test.YtfjddkjfkgdihaaE15
import Derived.Test.YtfjddkjfkgdihaaE10
import Derived.Test.YtfjddkjfkgdihaaE11
import Derived.Test.YtfjddkjfkgdihaaE7
import Derived.Test.YtfjddkjfkgdihaaE6
import Derived.Deep.CutRange
import Derived.RegionTactic
namespace Go.Proofs.Ytfjddkjfkgdihaa
open Go.RowKit Go.BigFrame
set_option linter.unusedVariables false
set_option linter.unusedSimpArgs false

def RefRdTo (M : List Int) (w : World) (e : Ending) (w' : World) : Prop :=
  Below w.heap.size w w' ∧ ((∃ c n a cap, Says M c n ∧ e = .returned (.tuple #[.slice a n cap, .bool true]) ∧ AccsAt w' a n cap c) ∨
    (e = .returned (.tuple #[.slice none 0 0, .bool false]) ∧ ∀ c n, ¬ Says M c n))
/-- The access that is being read lies in block g, behind world wr. -/
structure AccW (wr wx : World) (g : Nat) (x : AccD) : Prop where
  blk : wx.heap[g]? = some (.cells x.cells 50 (0, 0))
  below : Below g wr wx

theorem vbool_no {p : Prop} [Decidable p] (h : ¬ p) : Value.bool false = Value.bool (decide p) := by simp [h]
theorem vbool_yes {p : Prop} [Decidable p] (h : p) : Value.bool true = Value.bool (decide p) := by simp [h]
def lenOf : Value → Nat
  | .slice _ n _ => n
  | _ => 0
theorem AccW.set {wr wx : World} {g : Nat} {x x' : AccD} (h : AccW wr wx g x) (j : Nat) (v : Value) (e : x'.cells = x.cells.setIfInBounds j v) : AccW wr (wx.setCell ⟨g, j, none⟩ v) g x' :=
  ⟨by rw [e]; exact heap_set v h.blk, h.below.setCell (Nat.le_refl _) _⟩
theorem AccW.cells {wr wx : World} {g : Nat} {x : AccD} (h : AccW wr wx g x) :
    wx.cell? ⟨g, 0, none⟩ = some (.int .i64 x.ki) ∧ wx.cell? ⟨g, 1, none⟩ = some (.int .i64 x.th) ∧ wx.cell? ⟨g, 2, none⟩ = some (.int .i64 x.pl) ∧ wx.cell? ⟨g, 3, none⟩ = some (.int .u64 x.ol) ∧ wx.cell? ⟨g, 4, none⟩ = some (.int .u64 x.ne) ∧ wx.cell? ⟨g, 5, none⟩ = some (.bool x.dn) := acc_cells' h.blk

set_option maxRecDepth 100000 in
set_option maxHeartbeats 4000000 in
theorem refRead_any (a : Option Addr) (len cap : Nat) (M : List Int) (hl : len ≤ 300) (w : World) (h : RdB .u8 w.heap.size w a len cap M) (hM : ∀ c ∈ M, 0 ≤ c ∧ c ≤ 255) :
    Calls Try.prog 52 #[.slice a len cap] w (RefRdTo M w) := by
  obtain ⟨B, hB⟩ : ∃ B, B = w.heap.size := ⟨_, rfl⟩
  rw [← hB] at h
  have HM := Lib.hid hM
  have HR := Lib.hid h
  have HML := Lib.hid h.1
  have hlc := h.2.1
  have hcm := h.2.2.1
  unfold maxLen at hcm
  have HB := Lib.hid hB
  have H74 : Hid (∀ (p : Nat) w', Below B w w' → p ≤ len → Calls Try.prog 74 #[.slice a len cap, .int .i64 p] w' (NumTo M p w')) := Lib.hid fun p w' hb hp => refNum_any a len cap p M B w' (h.below hb) hM (by omega) hp
  have H0 : Hid (Calls Try.prog 74 #[.slice a len cap, .int .i64 0] w (NumTo M 0 w)) := Lib.hid (by simpa using H74.out 0 w (Below.refl _ _) (Nat.zero_le _))
  clear h hM hB
  go_enter Try.func52, Try.ntmps52
  go_wp2_with fail
  refine H0.out.mono ?_
  rintro e w1 ⟨many, at0, rfl, rfl, hn0⟩
  have HS0 := Lib.hid (refSofar0 hn0 (by rw [HML.out]; omega) (fun _ => ⟨0, 0, 0, 0, 0, false⟩))
  have hmlo := hn0.lo
  have hmhi := hn0.hi
  clear hn0
  go_wp2_with fail
  go_loopw [5, 6, 7] (fun v5 v6 v7 wr => ∃ k d at_ last, v5 = .int .i64 at_ ∧ v7 = .int .i64 last ∧ Hid (wr.ownsRow B 50 6 v6 k (accCells d k)) ∧ Hid (RefSofar M many k d at_ last) ∧ Hid (Below B w1 wr)) (fun _ v6 _ _ => len - lenOf v6)
  case atStart => exact ⟨0, _, at0, 0, rfl, rfl, Lib.hid ⟨rfl, .inl ⟨rfl, rfl⟩⟩, HS0, Lib.hid (Below.refl _ _)⟩
  case round =>
    clear HS0 H0
    obtain ⟨k, d, at_, last, rfl, rfl, HO, HS, HBE⟩ := hrel
    obtain ⟨aa, cc, rfl⟩ := own_open HO.out
    have hBw : B ≤ wr.heap.size := by rw [HB.out]; exact HBE.out.size
    have hkf := HS.out.few
    have hpl := HS.out.place
    have hl0 := HS.out.l0
    have hl1 := HS.out.l1
    rw [HML.out] at hkf hpl
    have w1k : IntKind.u64.wrap (k : Int) = k := IntWalk.u64_in _ (by omega)
    go_upto_region 4 with fail
    go_cut [38] from 24 to 139 (fun v38 wx => wx = wr ∧ v38 = .bool (decide (0 ≤ at_ ∧ at_ < len ∧ (k : Int) < many)))
    case first =>
      by_cases g1 : 0 ≤ at_
      · have d1 : decide (0 ≤ at_) = true := by simp; omega
        by_cases g2 : at_ < len
        · have d2 : decide (at_ < (len : Int)) = true := by simp; omega
          by_cases g3 : (k : Int) < many
          · have d3 : decide ((k : Int) < many) = true := by simp; omega
            go_wp2_with fail
            go_meet
            case rel => exact ⟨rfl, by first | exact vbool_yes (by omega) | exact vbool_no (by omega)⟩
          · have d3 : decide ((k : Int) < many) = false := by simp; omega
            go_wp2_with fail
            go_meet
            case rel => exact ⟨rfl, by first | exact vbool_yes (by omega) | exact vbool_no (by omega)⟩
        · have d2 : decide (at_ < (len : Int)) = false := by simp; omega
          go_wp2_with fail
          go_meet
          case rel => exact ⟨rfl, by first | exact vbool_yes (by omega) | exact vbool_no (by omega)⟩
      · have d1 : decide (0 ≤ at_) = false := by simp; omega
        go_wp2_with fail
        go_meet
        case rel => exact ⟨rfl, by first | exact vbool_yes (by omega) | exact vbool_no (by omega)⟩
    case rest =>
      obtain ⟨rfl, rfl⟩ := hcut
      by_cases hg : 0 ≤ at_ ∧ at_ < len ∧ (k : Int) < many
      · have dg : decide (0 ≤ at_ ∧ at_ < len ∧ (k : Int) < many) = true := by simpa using hg
        obtain ⟨g1, g2, g3⟩ := hg
        obtain ⟨p, rfl⟩ := Int.eq_ofNat_of_zero_le g1
        rw [dg]
        have hf : ∃ b off, a = some ⟨b, off, none⟩ ∧ wc.cell? ⟨b, off + p, none⟩ = some (.int .u8 (M.getD p 0)) ∧ b < B := by
          rcases (HR.out.below HBE.out).2.2.2.2 with h | ⟨b, off, e, hb, hc⟩
          · omega
          · exact ⟨b, off, e, hc _ (by omega), hb⟩
        obtain ⟨b, off, rfl, hcell, hbB⟩ := hf
        have hby : 0 ≤ M.getD p 0 ∧ M.getD p 0 ≤ 255 := by
          have : p < M.length := by rw [HML.out]; omega
          rw [List.getD_eq_getElem?_getD, List.getElem?_eq_getElem this, Option.getD_some]
          exact HM.out _ (List.getElem_mem _)
        have HS1 : Hid (∀ t nx, NumAt M (p + 1) t nx → Sofar M p last 1 ⟨M.getD p 0 % 8, t % 64, 0, 0, 0, decide (M.getD p 0 / 8 % 2 = 1)⟩ nx last) := Lib.hid fun t nx h => sofar1 (by rw [HML.out]; omega) hby h
        generalize M.getD p 0 = f at *
        obtain ⟨f0, f1⟩ := hby
        have wf : IntKind.i64.wrap f = f := IntWalk.i64_in _ (by omega)
        have wf8 : IntKind.i64.wrap (f % 8) = f % 8 := IntWalk.i64_in _ (by omega)
        go_upto_region 5 with fail
        obtain ⟨wr, hW⟩ : ∃ W, W = wc := ⟨_, rfl⟩
        obtain ⟨g, hg⟩ : ∃ g, g = wc.heap.size := ⟨_, rfl⟩
        have HG := Lib.hid hg
        go_cut [8] from 24 to 139 (fun v8 wx => v8 = .pointer (some ⟨g, 0, none⟩) ∧ AccW wc wx g ⟨f % 8, 0, 0, 0, 0, decide (f / 8 % 2 = 1)⟩)
        case first =>
          have hcell2 : ∀ o, (wc.alloc o).cell? ⟨b, off + p, none⟩ = some (.int .u8 f) := fun o => by rw [cell_of_heap (Below.heap_alloc _ _ _ (by omega))]; exact hcell
          go_region
          all_goals
            go_wp2_with fail
            go_meet
            case rel =>
              refine ⟨by rw [hg], ?_, ?_⟩
              · rw [hg]
                have e : (f / 8 % 2 == 1) = decide (f / 8 % 2 = 1) := by rw [Bool.eq_iff_iff]; simp
                rw [e]
                exact heap_alloc_new _ _
              · rw [hg]; exact ((Below.refl _ _).alloc (Nat.le_refl _) _).drew
        case rest =>
          clear hcell hg
          subst hW
          obtain ⟨rfl, haw⟩ := hcut
          have HAW := Lib.hid haw
          clear haw
          have HBG : Hid (∀ w', Below g wr w' → Below B w1 w') := Lib.hid fun w' hb => HBE.out.trans (hb.mono (by rw [HG.out]; exact hBw))
          obtain ⟨x0, x1, x2, x3, x4, x5⟩ := HAW.out.cells
          have z1 := free_of HAW.out.blk 1
          have HT : Hid (Calls Try.prog 74 #[.slice (some ⟨b, off, none⟩) len cap, .int .i64 ((p : Int) + 1)] wc (NumTo M (p + 1) wc)) := Lib.hid (by
            rw [show ((p : Int) + 1) = ((p + 1 : Nat) : Int) from by omega]
            exact H74.out (p + 1) wc (HBG.out _ HAW.out.below) (by omega))
          go_wp2_with fail
          refine HT.out.mono ?_
          rintro e w2 ⟨t, at2, rfl, rfl, hn⟩
          have ht0 := hn.lo
          have ht1 := hn.hi
          have HS2 := Lib.hid (HS1.out t at2 hn)
          have wt : IntKind.i64.wrap (t % 64) = t % 64 := IntWalk.i64_in _ (by omega)
          have HAW1 : Hid (AccW wr (w2.setCell ⟨g, 1, none⟩ (.int .i64 (t % 64))) g ⟨f % 8, t % 64, 0, 0, 0, decide (f / 8 % 2 = 1)⟩) := Lib.hid (HAW.out.set 1 _ rfl)
          clear hn HS1
          have hp2 := HS2.out.place
          rw [HML.out] at hp2
          go_upto_region 9 with fail
          clear HAW HT x0 x1 x2 x3 x4 x5 z1
          generalize w2.setCell ⟨g, 1, none⟩ (.int .i64 (t % 64)) = W1 at *
          generalize t % 64 = th at *
          generalize hki : f % 8 = ki at *
          generalize hdn : decide (f / 8 % 2 = 1) = dn at *
          have hk0 : 0 ≤ ki ∧ ki ≤ 7 := by omega
          clear hki hdn f0 f1 wf wf8
          go_cut [71] from 24 to 139 (fun v71 wx => wx = W1 ∧ v71 = .bool (decide (0 ≤ at2 ∧ ki ≠ 5)))
          case first =>
            obtain ⟨x0, -⟩ := HAW1.out.cells
            by_cases g4 : 0 ≤ at2
            · have d4 : decide (0 ≤ at2) = true := by simp; omega
              by_cases g5 : ki = 5
              · have d5 : (ki != 5) = false := by simp; omega
                go_wp2_with fail
                go_meet
                case rel => exact ⟨rfl, by first | exact vbool_yes (by omega) | exact vbool_no (by omega)⟩
              · have d5 : (ki != 5) = true := by simp; omega
                go_wp2_with fail
                go_meet
                case rel => exact ⟨rfl, by first | exact vbool_yes (by omega) | exact vbool_no (by omega)⟩
            · have d4 : decide (0 ≤ at2) = false := by simp; omega
              go_wp2_with fail
              go_meet
              case rel => exact ⟨rfl, by first | exact vbool_yes (by omega) | exact vbool_no (by omega)⟩
          case rest =>
            obtain ⟨rfl, rfl⟩ := hcut
            go_upto_if 71 with fail
            go_cut [5, 7, 11, 12] from 24 to 139 (fun v5 v7 v11 v12 wx => ∃ at_ l2 pl, v5 = .int .i64 at_ ∧ v7 = .int .i64 l2 ∧ Hid (AccW wr wx g ⟨ki, th, pl, 0, 0, dn⟩) ∧ Hid (Sofar M p last 2 ⟨ki, th, pl, 0, 0, dn⟩ at_ l2))
            case first =>
              obtain ⟨x0, x1, x2, x3, x4, x5⟩ := HAW1.out.cells
              have z2 := free_of HAW1.out.blk 2
              by_cases gg : 0 ≤ at2 ∧ ki ≠ 5
              · have dgg : decide (0 ≤ at2 ∧ ki ≠ 5) = true := by simpa using gg
                obtain ⟨g4, g5⟩ := gg
                rw [dgg]
                obtain ⟨q, rfl⟩ := Int.eq_ofNat_of_zero_le g4
                have HT := Lib.hid (H74.out q wc (HBG.out _ HAW1.out.below) (by omega))
                go_wp2_with fail
                refine HT.out.mono ?_
                rintro e w2 ⟨n, nx, rfl, rfl, hn⟩
                have ht0 := hn.lo
                have ht1 := hn.hi
                have HN := Lib.hid hn
                clear hn
                by_cases g6 : n % 2 = 1
                · have d6 : (n % 2 == 1) = true := by simp; omega
                  go_wp2_with fail
                  go_meet
                  case rel => exact ⟨_, _, _, rfl, rfl, Lib.hid (HAW1.out.set 2 _ rfl), Lib.hid (sofar2 hl0 hl1 HS2.out rfl g5 HN.out (fun h => by rw [show uns n = -(n / 2) - 1 from if_pos g6]; unfold wrap64; omega))⟩
                · have d6 : (n % 2 == 1) = false := by simp; omega
                  go_wp2_with fail
                  go_meet
                  case rel => exact ⟨_, _, _, rfl, rfl, Lib.hid (HAW1.out.set 2 _ rfl), Lib.hid (sofar2 hl0 hl1 HS2.out rfl g5 HN.out (fun h => by rw [show uns n = n / 2 from if_neg g6]; unfold wrap64; omega))⟩
              · have dgg : decide (0 ≤ at2 ∧ ki ≠ 5) = false := by simpa using gg
                rw [dgg]
                go_wp2_with fail
                go_meet
                case rel => exact ⟨_, _, 0, rfl, rfl, HAW1, Lib.hid (sofar2_skip HS2.out rfl rfl (by simp only; omega))⟩
            case rest =>
              clear HAW1 HS2 hp2
              obtain ⟨at3, l2, pl, rfl, rfl, HAW1, HS2⟩ := hcut
              have hp2 := HS2.out.place
              rw [HML.out] at hp2
              go_upto_region 16 with fail
              obtain ⟨W1, hW1⟩ : ∃ W, W = wc := ⟨_, rfl⟩
              go_cut [102] from 24 to 139 (fun v102 wx => wx = W1 ∧ v102 = .bool (decide (0 ≤ at3 ∧ ki ≤ 3)))
              case first =>
                obtain ⟨x0, -⟩ := HAW1.out.cells
                by_cases g4 : 0 ≤ at3
                · have d4 : decide (0 ≤ at3) = true := by simp; omega
                  by_cases g5 : ki ≤ 3
                  · have d5 : decide (ki ≤ 3) = true := by simp; omega
                    go_wp2_with fail
                    go_meet
                    case rel => exact ⟨hW1.symm, by first | exact vbool_yes (by omega) | exact vbool_no (by omega)⟩
                  · have d5 : decide (ki ≤ 3) = false := by simp; omega
                    go_wp2_with fail
                    go_meet
                    case rel => exact ⟨hW1.symm, by first | exact vbool_yes (by omega) | exact vbool_no (by omega)⟩
                · have d4 : decide (0 ≤ at3) = false := by simp; omega
                  go_wp2_with fail
                  go_meet
                  case rel => exact ⟨hW1.symm, by first | exact vbool_yes (by omega) | exact vbool_no (by omega)⟩
              case rest =>
                subst hW1
                obtain ⟨rfl, rfl⟩ := hcut
                go_upto_if 102 with fail
                go_cut [5, 13, 14] from 24 to 139 (fun v5 v13 v14 wx => ∃ at_ ol, v5 = .int .i64 at_ ∧ Hid (AccW wr wx g ⟨ki, th, pl, ol, 0, dn⟩) ∧ Hid (Sofar M p last 3 ⟨ki, th, pl, ol, 0, dn⟩ at_ l2))
                case first =>
                  obtain ⟨x0, x1, x2, x3, x4, x5⟩ := HAW1.out.cells
                  have z3 := free_of HAW1.out.blk 3
                  by_cases gg : 0 ≤ at3 ∧ ki ≤ 3
                  · have dgg : decide (0 ≤ at3 ∧ ki ≤ 3) = true := by simpa using gg
                    obtain ⟨g4, g5⟩ := gg
                    rw [dgg]
                    obtain ⟨q, rfl⟩ := Int.eq_ofNat_of_zero_le g4
                    have HT := Lib.hid (H74.out q wc (HBG.out _ HAW1.out.below) (by omega))
                    go_wp2_with fail
                    refine HT.out.mono ?_
                    rintro e w2 ⟨n, nx, rfl, rfl, hn⟩
                    have ht0 := hn.lo
                    have ht1 := hn.hi
                    have HN := Lib.hid hn
                    clear hn
                    go_wp2_with fail
                    go_meet
                    case rel => exact ⟨_, _, rfl, Lib.hid (HAW1.out.set 3 _ rfl), Lib.hid (sofar3 HS2.out rfl g5 HN.out)⟩
                  · have dgg : decide (0 ≤ at3 ∧ ki ≤ 3) = false := by simpa using gg
                    rw [dgg]
                    go_wp2_with fail
                    go_meet
                    case rel => exact ⟨_, 0, rfl, HAW1, Lib.hid (sofar3_skip HS2.out rfl (by simp only; omega))⟩
                case rest =>
                  clear HAW1 HS2 hp2
                  obtain ⟨at4, ol, rfl, HAW1, HS2⟩ := hcut
                  have hp2 := HS2.out.place
                  rw [HML.out] at hp2
                  go_upto_region 20 with fail
                  obtain ⟨W1, hW1⟩ : ∃ W, W = wc := ⟨_, rfl⟩
                  go_cut [123] from 24 to 139 (fun v123 wx => wx = W1 ∧ v123 = .bool (decide (0 ≤ at4 ∧ (ki = 2 ∨ ki = 3))))
                  case first =>
                    obtain ⟨x0, -⟩ := HAW1.out.cells
                    by_cases g4 : 0 ≤ at4
                    · have d4 : decide (0 ≤ at4) = true := by simp; omega
                      by_cases g5 : ki = 2
                      · have d5 : (ki == 2) = true := by simp; omega
                        go_wp2_with fail
                        go_meet
                        case rel => exact ⟨hW1.symm, by first | exact vbool_yes (by omega) | exact vbool_no (by omega)⟩
                      · have d5 : (ki == 2) = false := by simp; omega
                        by_cases g6 : ki = 3
                        · have d6 : (ki == 3) = true := by simp; omega
                          go_wp2_with fail
                          go_meet
                          case rel => exact ⟨hW1.symm, by first | exact vbool_yes (by omega) | exact vbool_no (by omega)⟩
                        · have d6 : (ki == 3) = false := by simp; omega
                          go_wp2_with fail
                          go_meet
                          case rel => exact ⟨hW1.symm, by first | exact vbool_yes (by omega) | exact vbool_no (by omega)⟩
                    · have d4 : decide (0 ≤ at4) = false := by simp; omega
                      go_wp2_with fail
                      go_meet
                      case rel => exact ⟨hW1.symm, by first | exact vbool_yes (by omega) | exact vbool_no (by omega)⟩
                  case rest =>
                    subst hW1
                    obtain ⟨rfl, rfl⟩ := hcut
                    go_upto_if 123 with fail
                    go_cut [5, 15, 16] from 24 to 139 (fun v5 v15 v16 wx => ∃ at_ ne, v5 = .int .i64 at_ ∧ Hid (AccW wr wx g ⟨ki, th, pl, ol, ne, dn⟩) ∧ Hid (Sofar M p last 4 ⟨ki, th, pl, ol, ne, dn⟩ at_ l2))
                    case first =>
                      obtain ⟨x0, x1, x2, x3, x4, x5⟩ := HAW1.out.cells
                      have z4 := free_of HAW1.out.blk 4
                      by_cases gg : 0 ≤ at4 ∧ (ki = 2 ∨ ki = 3)
                      · have dgg : decide (0 ≤ at4 ∧ (ki = 2 ∨ ki = 3)) = true := by simpa using gg
                        obtain ⟨g4, g5⟩ := gg
                        rw [dgg]
                        obtain ⟨q, rfl⟩ := Int.eq_ofNat_of_zero_le g4
                        have HT := Lib.hid (H74.out q wc (HBG.out _ HAW1.out.below) (by omega))
                        clear dgg
                        go_wp2_with fail
                        refine HT.out.mono ?_
                        rintro e w2 ⟨n, nx, rfl, rfl, hn⟩
                        have ht0 := hn.lo
                        have ht1 := hn.hi
                        have HN := Lib.hid hn
                        clear hn
                        go_wp2_with fail
                        go_meet
                        case rel => exact ⟨_, _, rfl, Lib.hid (HAW1.out.set 4 _ rfl), Lib.hid (sofar4 HS2.out rfl g5 HN.out)⟩
                      · have dgg : decide (0 ≤ at4 ∧ (ki = 2 ∨ ki = 3)) = false := by simpa using gg
                        rw [dgg]
                        go_wp2_with fail
                        go_meet
                        case rel => exact ⟨_, 0, rfl, HAW1, Lib.hid (sofar4_skip HS2.out rfl (by simp only; omega))⟩
                    case rest =>
                      clear HAW1 HS2 hp2
                      obtain ⟨at5, ne, rfl, HAW1, HS2⟩ := hcut
                      obtain ⟨x, hx⟩ : ∃ x : AccD, x = ⟨ki, th, pl, ol, ne, dn⟩ := ⟨_, rfl⟩
                      rw [← hx] at HAW1 HS2
                      clear hx
                      have HMA := Lib.hid (may_acc x wc)
                      obtain ⟨x0, x1, x2, x3, x4, x5⟩ := HAW1.out.cells
                      by_cases hm : x.mayB = true
                      · have HNX := Lib.hid (HS.out.next (by omega) (by rw [HML.out]; omega) HS2.out hm)
                        rw [hm] at HMA
                        have hp5 := HS2.out.place
                        rw [HML.out] at hp5
                        simp only [AccD.cells] at HMA
                        go_wp2_with fail
                        refine HMA.out.mono ?_
                        rintro e w3 ⟨rfl, hb3⟩
                        have hgl : g < wc.heap.size := (Array.getElem?_eq_some_iff.1 HAW1.out.blk).1
                        have HAW3 : Hid (AccW wr w3 g x) := Lib.hid ⟨(hb3.block g hgl).trans HAW1.out.blk, HAW1.out.below.trans (hb3.mono (by omega))⟩
                        have hs3 := hb3.size
                        clear hb3 HMA
                        have HO3 : Hid (w3.ownsRow B 50 6 (.slice aa k cc) k (accCells d k)) := Lib.hid (own_keep HO.out fun j _ hj => HAW3.out.below.block j (by rw [HG.out]; exact hj))
                        obtain ⟨y0, y1, y2, y3, y4, y5⟩ := HAW3.out.cells
                        obtain ⟨i50, hi, hz0, hz1, hz2⟩ := info_parts info50
                        have hB3 : B ≤ w3.heap.size := by have := HG.out; omega
                        go_wp2_with (at_builtin; refine wpList_push rfl (.tmp 136) (.tmp 138) 48 rfl B 50 i50 _ 6 48 Try.underlying48 hi hz0 hz1 hz2 rfl (by decide) w3 hB3 (.slice aa k cc) k (accCells d k) rfl HO3.out x.cells 1 1 rfl rfl (by simp [Value.oneCell', AccD.cells]) (by unfold maxLen; omega) (by omega) ?_; intro v' w4 ho4 hg4 hb4 _; obtain ⟨aa', cc', rfl⟩ := own_open ho4; have HO4 := Lib.hid ho4; have HB4 : Hid (Below B w1 w4) := Lib.hid (hb4 B w1 (HBG.out _ HAW3.out.below) (Nat.le_refl _)); clear ho4 hg4 hb4)
                        go_roundw
                        case rel =>
                          have e := ext_cells d k x
                          refine ⟨k + 1, ext d k x, at5, l2, rfl, rfl, Lib.hid (by rw [e]; exact HO4.out), HNX, HB4⟩
                        case measure => have h1 := HNX.out.few; rw [HML.out] at h1; simp only [lenOf]; omega
                      · have hm' : x.mayB = false := by simpa using hm
                        have HNO : Hid (∀ c n, ¬ Says M c n) := Lib.hid fun c n hs => by
                          obtain ⟨e1, e2, -⟩ := HS.out.one (by omega) HS2.out hs
                          exact hm (by rw [e2]; exact (hs.good k e1).1)
                        rw [hm'] at HMA
                        simp only [AccD.cells] at HMA
                        go_wp2_with fail
                        refine HMA.out.mono ?_
                        rintro e w3 ⟨rfl, hb3⟩
                        have HB3 : Hid (Below B w1 w3) := Lib.hid ((HBG.out _ HAW1.out.below).trans (hb3.mono (HBG.out _ HAW1.out.below).size |>.mono (by rw [HB.out]; exact Nat.le_refl _)))
                        clear hb3 HMA
                        go_wp2_with fail
                        go_ret2
                        exact ⟨by rw [← HB.out]; exact HB3.out, .inr ⟨rfl, HNO.out⟩⟩
      · have dg : decide (0 ≤ at_ ∧ at_ < len ∧ (k : Int) < many) = false := by simpa using hg
        rw [dg]
        have HD := Lib.hid (show at_ < 0 ∨ (M.length : Int) ≤ at_ ∨ many ≤ k by rw [HML.out]; omega)
        have HW := Lib.hid (refWrite_ok aa k cc d wc (accs_of_own HO.out) (by omega) HS.out.good)
        go_wp2_with fail
        refine HW.out.mono ?_
        rintro e w3 ⟨a3, n3, c3, rfl, ho3, hb3⟩
        have hn3 : n3 = (encAll d k).length := by have := ho3.1; rw [u8s_len] at this; omega
        have HN3 := Lib.hid hn3
        obtain ⟨a3', c3', e3, hrd3⟩ := rdB_of_own (k := .u8) ho3
        cases e3
        have HR3 := Lib.hid hrd3
        have HB3 : Hid (Below B w1 w3) := Lib.hid (HBE.out.trans (hb3.mono (by rw [HB.out]; exact HBE.out.size)))
        have HAC3 : Hid (AccsAt w3 aa k cc d) := Lib.hid ((accs_of_own HO.out).below hb3)
        have HDONE : Hid (∀ c n, Says M c n → encAll d k = M) := Lib.hid fun c n hs => HS.out.done HD.out hs
        have HSAY : Hid (encAll d k = M → Says M d k) := Lib.hid fun e => ⟨HS.out.good, e.symm⟩
        have hr3 := HR3.out.2.1
        have hr4 := HR3.out.2.2.1
        unfold maxLen at hr4
        clear hb3 hrd3 hn3 ho3 HW HD HS HO
        generalize encAll d k = E at *
        by_cases hlen : n3 = len
        · have d1 : ((n3 : Int) != (len : Int)) = false := by simp; omega
          have HLEN := Lib.hid hlen
          clear hlen
          go_wp2_with fail
          go_loopw [18] (fun i wr => ∃ j : Nat, j ≤ len ∧ i = .int .i64 j ∧ Hid (∀ i, i < j → E.getD i 0 = M.getD i 0) ∧ Hid (Below w3.heap.size w3 wr)) (fun i _ => len - (intOf i).toNat)
          case atStart => exact ⟨0, Nat.zero_le _, rfl, Lib.hid (fun i hi => absurd hi (Nat.not_lt_zero _)), Lib.hid (Below.refl _ _)⟩
          case round =>
            obtain ⟨j, hj, rfl, HEQ, HBW⟩ := hrel
            have HBR : Hid (Below B w1 wr) := Lib.hid (HB3.out.trans (HBW.out.mono (by rw [HB.out]; exact HB3.out.size)))
            by_cases hlt : j < len
            · obtain ⟨q1, o1, rfl, hq1, c1⟩ : ∃ b off, a = some ⟨b, off, none⟩ ∧ b < B ∧ wr.cell? ⟨b, off + j, none⟩ = some (.int .u8 (M.getD j 0)) := by
                rcases (HR.out.below HBR.out).2.2.2.2 with h | ⟨b, off, e, hb, hc⟩
                · omega
                · exact ⟨b, off, e, hb, hc _ hlt⟩
              obtain ⟨q3, o3, rfl, hq3, c3'⟩ : ∃ b off, a3 = some ⟨b, off, none⟩ ∧ b < w3.heap.size ∧ wr.cell? ⟨b, off + j, none⟩ = some (.int .u8 (E.getD j 0)) := by
                rcases (HR3.out.below HBW.out).2.2.2.2 with h | ⟨b, off, e, hb, hc⟩
                · have := HLEN.out; omega
                · exact ⟨b, off, e, hb, hc _ (by rw [HLEN.out]; exact hlt)⟩
              have HGO : Hid (E.getD j 0 = M.getD j 0 → ∀ i, i < j + 1 → E.getD i 0 = M.getD i 0) := Lib.hid fun e i hi => by
                by_cases h : i < j
                · exact HEQ.out i h
                · obtain rfl : i = j := by omega
                  exact e
              have HNE : Hid (E.getD j 0 ≠ M.getD j 0 → ∀ c n, ¬ Says M c n) := Lib.hid fun e c n hs => e (by rw [HDONE.out c n hs])
              clear HEQ
              generalize E.getD j 0 = y at *
              generalize M.getD j 0 = z at *
              have j0 : (0 : Int) ≤ (j : Int) := by omega
              have j1 : (j : Int) < (len : Int) := by omega
              have j2 : (j : Int) < (n3 : Int) := by have := HLEN.out; omega
              by_cases hyz : y = z
              · have d2 : (y != z) = false := by simp [hyz]
                have HYZ := Lib.hid hyz; clear hyz
                go_wp2_with fail
                go_quiet (fail)
                go_wp2_with fail
                go_roundw
                case rel => exact ⟨j + 1, by omega, by go_num, Lib.hid (HGO.out HYZ.out), Lib.hid (HBW.out.trans ⟨rfl, rfl, rfl, Nat.le_refl _, fun _ _ => rfl⟩)⟩
                case measure => simp [intOf]; omega
              · have d2 : (y != z) = true := by simp [hyz]
                have HNO := Lib.hid (HNE.out hyz)
                clear hyz
                go_wp2_with fail
                go_quiet (fail)
                go_wp2_with fail
                go_ret2
                exact ⟨by rw [← HB.out]; exact HBR.out.trans ⟨rfl, rfl, rfl, Nat.le_refl _, fun _ _ => rfl⟩, .inr ⟨rfl, HNO.out⟩⟩
            · obtain rfl : j = len := by omega
              have HS := Lib.hid (HSAY.out (by
                apply List.ext_getElem?
                intro i
                have h1 := HN3.out; have h2 := HML.out; have h3 := HLEN.out
                by_cases hi : i < j
                · have := HEQ.out i hi
                  rw [List.getD_eq_getElem?_getD, List.getD_eq_getElem?_getD, List.getElem?_eq_getElem (by omega), List.getElem?_eq_getElem (by omega)] at this
                  rw [List.getElem?_eq_getElem (by omega), List.getElem?_eq_getElem (by omega)]
                  simpa using this
                · rw [List.getElem?_eq_none (by omega), List.getElem?_eq_none (by omega)]))
              have HAC4 := Lib.hid (HAC3.out.below HBW.out)
              go_wp2_with fail
              go_ret2
              exact ⟨by rw [← HB.out]; exact HBR.out, .inl ⟨d, k, aa, cc, HS.out, rfl, HAC4.out⟩⟩
        · have HNO : Hid (∀ c n, ¬ Says M c n) := Lib.hid fun c n hs => hlen (by rw [HN3.out, HDONE.out c n hs]; exact HML.out)
          have d1 : ((n3 : Int) != (len : Int)) = true := by simp; omega
          go_wp2_with fail
          go_ret2
          exact ⟨by rw [← HB.out]; exact HB3.out, .inr ⟨rfl, HNO.out⟩⟩
end Go.Proofs.Ytfjddkjfkgdihaa
