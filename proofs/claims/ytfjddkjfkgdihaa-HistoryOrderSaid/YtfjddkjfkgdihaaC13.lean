/- The law HistoryOrder: its three calls are taken out of the array, in whatever order. -/
import Derived.Test.YtfjddkjfkgdihaaC14
import Derived.Test.YtfjddkjfkgdihaaC10
import Derived.Deep.RegionHeld3
import Derived.Deep.CutRange
namespace Go.Proofs.Ytfjddkjfkgdihaa
open Go.RowKit Go.BigFrame
set_option linter.unusedVariables false

/-- Three calls, cell by cell. -/
def three (a b c : CallD) : Array Value := #[.int .i64 a.th, .int .i64 a.ki, .int .u32 a.ky, .int .u32 a.va, .int .i64 a.rk, .int .u32 a.rv, .int .i64 a.be, .int .i64 a.en, .int .i64 a.wh, .bool a.cr, .bool a.kp, .int .i64 b.th, .int .i64 b.ki, .int .u32 b.ky, .int .u32 b.va, .int .i64 b.rk, .int .u32 b.rv, .int .i64 b.be, .int .i64 b.en, .int .i64 b.wh, .bool b.cr, .bool b.kp, .int .i64 c.th, .int .i64 c.ki, .int .u32 c.ky, .int .u32 c.va, .int .i64 c.rk, .int .u32 c.rv, .int .i64 c.be, .int .i64 c.en, .int .i64 c.wh, .bool c.cr, .bool c.kp]

theorem blocks4 (w : World) (o0 o1 o2 o3 : Obj) :
    (((((w.alloc o0).alloc o1).alloc o2).alloc o3).drew).heap[w.heap.size + 1]? = some o1 ∧ (((((w.alloc o0).alloc o1).alloc o2).alloc o3).drew).heap[w.heap.size + 1 + 1]? = some o2 ∧
    (((((w.alloc o0).alloc o1).alloc o2).alloc o3).drew).heap[w.heap.size + 1 + 1 + 1]? = some o3 ∧ (((((w.alloc o0).alloc o1).alloc o2).alloc o3).drew).heap.size = w.heap.size + 4 ∧ Below w.heap.size w ((((w.alloc o0).alloc o1).alloc o2).alloc o3).drew := by
  have e : (((((w.alloc o0).alloc o1).alloc o2).alloc o3).drew).heap = (((w.heap.push o0).push o1).push o2).push o3 := rfl
  refine ⟨?_, ?_, ?_, ?_, ((((Below.refl _ _).alloc (Nat.le_refl _) _).alloc (by simp) _).alloc (by simp; omega) _).alloc (by simp; omega) _ |>.drew⟩
  all_goals rw [e]
  · rw [Array.getElem?_push, Array.getElem?_push, Array.getElem?_push]
    simp only [Array.size_push]
    rw [if_neg (by omega), if_neg (by omega), if_true]
  · rw [Array.getElem?_push, Array.getElem?_push]
    simp only [Array.size_push]
    rw [if_neg (by omega), if_true]
  · rw [Array.getElem?_push]
    simp only [Array.size_push]
    rw [if_true]
  · simp
theorem blocks2 (w : World) (o1 o2 : Obj) :
    (((w.alloc o1).alloc o2).drew).heap[w.heap.size]? = some o1 ∧ (((w.alloc o1).alloc o2).drew).heap[w.heap.size + 1]? = some o2 ∧ Below w.heap.size w ((w.alloc o1).alloc o2).drew := by
  have e : (((w.alloc o1).alloc o2).drew).heap = (w.heap.push o1).push o2 := rfl
  refine ⟨?_, ?_, ((Below.refl _ _).alloc (Nat.le_refl _) _).alloc (by simp) _ |>.drew⟩
  · rw [e, Array.getElem?_push, Array.getElem?_push]
    simp only [Array.size_push]
    rw [if_neg (by omega), if_true]
  · rw [e, Array.getElem?_push]
    simp only [Array.size_push]
    rw [if_true]
def Taken (B : Nat) (w : World) (a b c : CallD) (x y z : Value) (wr : World) : Prop :=
  ∃ g1 g2 g3, x = .pointer (some ⟨g1, 0, none⟩) ∧ y = .pointer (some ⟨g2, 0, none⟩) ∧ z = .pointer (some ⟨g3, 0, none⟩) ∧ CallAt wr g1 0 a ∧ CallAt wr g2 0 b ∧ CallAt wr g3 0 c ∧
    g1 < wr.heap.size ∧ g2 < wr.heap.size ∧ g3 < wr.heap.size ∧ Below B w wr

theorem step_of {p : Program} {f : Nat} {args : Array Value} {r : Bool} {B : Nat} (w0 w : World) (h : Calls p f args w (BoolOn r w)) (hB : B = w0.heap.size) (hb : Below B w0 w) :
    Calls p f args w (fun e w' => e = .returned (.bool r) ∧ Below B w0 w') :=
  h.mono fun e w' he => ⟨he.1, hb.trans (he.2.mono (by rw [hB]; exact hb.size))⟩

def TakenTwo (B : Nat) (w : World) (a b : CallD) (x y : Value) (wr : World) : Prop :=
  ∃ g1 g2, x = .pointer (some ⟨g1, 0, none⟩) ∧ y = .pointer (some ⟨g2, 0, none⟩) ∧ CallAt wr g1 0 a ∧ CallAt wr g2 0 b ∧ Below B w wr

set_option maxRecDepth 100000 in
set_option maxHeartbeats 4000000 in
theorem order_t (a b c : CallD) (y : Option Addr) (len cap : Nat) (w : World) (cs : Nat → CallD) (hcs : CallsAt w y len cap cs) :
    Calls Try.prog 10 #[.agg (three a b c), .slice y len cap] w (BoolOn true w) := by
  have HCS := Lib.hid hcs; clear hcs
  unfold three
  go_enter Try.func10, Try.ntmps10
  go_wp2_with fail
  go_cut [5, 6, 7] from 13 (fun v5 v6 v7 wr => Taken w.heap.size w a b c v5 v6 v7 wr)
  case first =>
    go_region_held3 (fun w' => w'.cell? ⟨w.heap.size, 0, none⟩ = some (.int .i64 a.th) ∧ w'.cell? ⟨w.heap.size, 1, none⟩ = some (.int .i64 a.ki) ∧ w'.cell? ⟨w.heap.size, 2, none⟩ = some (.int .u32 a.ky) ∧ w'.cell? ⟨w.heap.size, 3, none⟩ = some (.int .u32 a.va) ∧ w'.cell? ⟨w.heap.size, 4, none⟩ = some (.int .i64 a.rk) ∧ w'.cell? ⟨w.heap.size, 5, none⟩ = some (.int .u32 a.rv) ∧ w'.cell? ⟨w.heap.size, 6, none⟩ = some (.int .i64 a.be) ∧ w'.cell? ⟨w.heap.size, 7, none⟩ = some (.int .i64 a.en) ∧ w'.cell? ⟨w.heap.size, 8, none⟩ = some (.int .i64 a.wh) ∧ w'.cell? ⟨w.heap.size, 9, none⟩ = some (.bool a.cr) ∧ w'.cell? ⟨w.heap.size, 10, none⟩ = some (.bool a.kp) ∧ w'.cell? ⟨w.heap.size, 11, none⟩ = some (.int .i64 b.th) ∧ w'.cell? ⟨w.heap.size, 12, none⟩ = some (.int .i64 b.ki) ∧ w'.cell? ⟨w.heap.size, 13, none⟩ = some (.int .u32 b.ky) ∧ w'.cell? ⟨w.heap.size, 14, none⟩ = some (.int .u32 b.va) ∧ w'.cell? ⟨w.heap.size, 15, none⟩ = some (.int .i64 b.rk) ∧ w'.cell? ⟨w.heap.size, 16, none⟩ = some (.int .u32 b.rv) ∧ w'.cell? ⟨w.heap.size, 17, none⟩ = some (.int .i64 b.be) ∧ w'.cell? ⟨w.heap.size, 18, none⟩ = some (.int .i64 b.en) ∧ w'.cell? ⟨w.heap.size, 19, none⟩ = some (.int .i64 b.wh) ∧ w'.cell? ⟨w.heap.size, 20, none⟩ = some (.bool b.cr) ∧ w'.cell? ⟨w.heap.size, 21, none⟩ = some (.bool b.kp) ∧ w'.cell? ⟨w.heap.size, 22, none⟩ = some (.int .i64 c.th) ∧ w'.cell? ⟨w.heap.size, 23, none⟩ = some (.int .i64 c.ki) ∧ w'.cell? ⟨w.heap.size, 24, none⟩ = some (.int .u32 c.ky) ∧ w'.cell? ⟨w.heap.size, 25, none⟩ = some (.int .u32 c.va) ∧ w'.cell? ⟨w.heap.size, 26, none⟩ = some (.int .i64 c.rk) ∧ w'.cell? ⟨w.heap.size, 27, none⟩ = some (.int .u32 c.rv) ∧ w'.cell? ⟨w.heap.size, 28, none⟩ = some (.int .i64 c.be) ∧ w'.cell? ⟨w.heap.size, 29, none⟩ = some (.int .i64 c.en) ∧ w'.cell? ⟨w.heap.size, 30, none⟩ = some (.int .i64 c.wh) ∧ w'.cell? ⟨w.heap.size, 31, none⟩ = some (.bool c.cr) ∧ w'.cell? ⟨w.heap.size, 32, none⟩ = some (.bool c.kp)) (first | (simp [go_sem]; done)) (first | fail)
    all_goals
      go_wp2
      go_meet
      case rel =>
        refine ⟨_, _, _, rfl, rfl, rfl, callAt_of_block (t := 65) ?_, callAt_of_block (t := 65) ?_, callAt_of_block (t := 65) ?_, ?_, ?_, ?_, ?_⟩
        all_goals first | exact (blocks4 _ _ _ _ _).1 | exact (blocks4 _ _ _ _ _).2.1 | exact (blocks4 _ _ _ _ _).2.2.1 | exact (blocks4 _ _ _ _ _).2.2.2.2 | (rw [(blocks4 _ _ _ _ _).2.2.2.1]; omega)
  case rest =>
    obtain ⟨W1, rfl⟩ : ∃ x, x = wc := ⟨_, rfl⟩
    obtain ⟨g1, g2, g3, rfl, rfl, rfl, ha, hb, hc, hg1, hg2, hg3, hbel⟩ := hcut
    obtain ⟨B, hB⟩ : ∃ B, B = W1.heap.size := ⟨_, rfl⟩
    rw [← hB] at hg1 hg2 hg3
    have HA := Lib.hid ha
    have HBB := Lib.hid hb
    have HCC := Lib.hid hc
    have HG := Lib.hid (⟨hg1, hg2, hg3⟩ : g1 < B ∧ g2 < B ∧ g3 < B)
    have HB0 := Lib.hid hbel
    have HSZ := Lib.hid hB
    clear ha hb hc hg1 hg2 hg3 hbel hB
    go_upto_region 2 with fail
    go_cut [8] from 19 (fun v8 wr => v8 = .bool (a.mayB && b.mayB && c.mayB) ∧ Below B W1 wr)
    case first =>
      have MA := Lib.hid fun w h => step_of (B := B) W1 w (may_any a w) HSZ.out h
      have MB := Lib.hid fun w h => step_of (B := B) W1 w (may_any b w) HSZ.out h
      have MC := Lib.hid fun w h => step_of (B := B) W1 w (may_any c w) HSZ.out h
      simp only [CallD.cells] at MA MB MC
      obtain ⟨x0, x1, x2, x3, x4, x5, x6, x7, x8, x9, x10⟩ := HA.out
      obtain ⟨y0, y1, y2, y3, y4, y5, y6, y7, y8, y9, y10⟩ := HBB.out
      obtain ⟨z0, z1, z2, z3, z4, z5, z6, z7, z8, z9, z10⟩ := HCC.out
      simp only [Nat.zero_add] at x1 x2 x3 x4 x5 x6 x7 x8 x9 x10 y1 y2 y3 y4 y5 y6 y7 y8 y9 y10 z1 z2 z3 z4 z5 z6 z7 z8 z9 z10
      generalize a.mayB = ma at *
      generalize b.mayB = mb at *
      generalize c.mayB = mc at *
      have hnow : Hid (Below B W1 W1) := Lib.hid (Below.refl _ _)
      cases ma <;> cases mb
      all_goals
        go_wp2_with (go_at_call 38; (first | (with_reducible refine (MA.out _ hnow.out).mono ?_) | (with_reducible refine (MB.out _ hnow.out).mono ?_) | (with_reducible refine (MC.out _ hnow.out).mono ?_)); rintro e w2 ⟨rfl, hb2⟩; have l1 := fun o => hb2.cell (p := ⟨g1, o, none⟩) HG.out.1; have l2 := fun o => hb2.cell (p := ⟨g2, o, none⟩) HG.out.2.1; have l3 := fun o => hb2.cell (p := ⟨g3, o, none⟩) HG.out.2.2; have hnow := Lib.hid hb2; clear hb2)
        go_meet
        case rel => exact ⟨rfl, hnow.out⟩
    case rest =>
      obtain ⟨W2, rfl⟩ : ∃ x, x = wc := ⟨_, rfl⟩
      obtain ⟨rfl, hb1⟩ := hcut
      have HB1 := Lib.hid hb1; clear hb1
      go_upto_region 3 with fail
      go_cut [60] from 19 (fun v60 wr => v60 = .bool false ∧ Below B W1 wr)
      case first =>
        have AB := Lib.hid fun w h => step_of (B := B) W1 w (ahead_any a b w) HSZ.out h
        have BC := Lib.hid fun w h => step_of (B := B) W1 w (ahead_any b c w) HSZ.out h
        have AC := Lib.hid fun w h => step_of (B := B) W1 w (ahead_any a c w) HSZ.out h
        have BA := Lib.hid fun w h => step_of (B := B) W1 w (ahead_any b a w) HSZ.out h
        have AA := Lib.hid fun w h => step_of (B := B) W1 w (ahead_any a a w) HSZ.out h
        simp only [CallD.cells] at AB BC AC BA AA
        have f1 := ahead_irr a
        have f2 := ahead_anti a b
        have f3 := ahead_trans a b c
        obtain ⟨x0, x1, x2, x3, x4, x5, x6, x7, x8, x9, x10⟩ := HA.out
        obtain ⟨y0, y1, y2, y3, y4, y5, y6, y7, y8, y9, y10⟩ := HBB.out
        obtain ⟨z0, z1, z2, z3, z4, z5, z6, z7, z8, z9, z10⟩ := HCC.out
        simp only [Nat.zero_add] at x1 x2 x3 x4 x5 x6 x7 x8 x9 x10 y1 y2 y3 y4 y5 y6 y7 y8 y9 y10 z1 z2 z3 z4 z5 z6 z7 z8 z9 z10
        have hb2 := HB1.out
        have l1 := fun o => hb2.cell (p := ⟨g1, o, none⟩) HG.out.1; have l2 := fun o => hb2.cell (p := ⟨g2, o, none⟩) HG.out.2.1; have l3 := fun o => hb2.cell (p := ⟨g3, o, none⟩) HG.out.2.2
        clear hb2
        have hnow := HB1
        generalize a.aheadB b = ab at *
        generalize b.aheadB c = bc at *
        generalize a.aheadB c = ac at *
        generalize b.aheadB a = ba at *
        generalize a.aheadB a = aa at *
        generalize a.mayB = ma at *
        generalize b.mayB = mb at *
        generalize c.mayB = mc at *
        cases ma
        · go_wp2_with fail
          go_meet
          case rel => exact ⟨rfl, hnow.out⟩
        · cases mb
          · go_wp2_with fail
            go_meet
            case rel => exact ⟨rfl, hnow.out⟩
          · cases mc
            · go_wp2_with fail
              go_meet
              case rel => exact ⟨rfl, hnow.out⟩
            · obtain rfl := f1 rfl
              cases ab
              · clear f1 f2 f3
                go_wp2_with (go_at_call 42; (first | (with_reducible refine (AB.out _ hnow.out).mono ?_) | (with_reducible refine (BC.out _ hnow.out).mono ?_) | (with_reducible refine (AC.out _ hnow.out).mono ?_) | (with_reducible refine (BA.out _ hnow.out).mono ?_) | (with_reducible refine (AA.out _ hnow.out).mono ?_)); rintro e w2 ⟨rfl, hb2⟩; have l1 := fun o => hb2.cell (p := ⟨g1, o, none⟩) HG.out.1; have l2 := fun o => hb2.cell (p := ⟨g2, o, none⟩) HG.out.2.1; have l3 := fun o => hb2.cell (p := ⟨g3, o, none⟩) HG.out.2.2; have hnow := Lib.hid hb2; clear hb2)
                go_meet
                case rel => exact ⟨rfl, hnow.out⟩
              · obtain rfl := f2 rfl rfl rfl
                cases bc
                · clear f1 f2 f3
                  go_wp2_with (go_at_call 42; (first | (with_reducible refine (AB.out _ hnow.out).mono ?_) | (with_reducible refine (BC.out _ hnow.out).mono ?_) | (with_reducible refine (AC.out _ hnow.out).mono ?_) | (with_reducible refine (BA.out _ hnow.out).mono ?_) | (with_reducible refine (AA.out _ hnow.out).mono ?_)); rintro e w2 ⟨rfl, hb2⟩; have l1 := fun o => hb2.cell (p := ⟨g1, o, none⟩) HG.out.1; have l2 := fun o => hb2.cell (p := ⟨g2, o, none⟩) HG.out.2.1; have l3 := fun o => hb2.cell (p := ⟨g3, o, none⟩) HG.out.2.2; have hnow := Lib.hid hb2; clear hb2)
                  go_meet
                  case rel => exact ⟨rfl, hnow.out⟩
                · obtain rfl := f3 rfl rfl rfl
                  clear f1 f2 f3
                  go_wp2_with (go_at_call 42; (first | (with_reducible refine (AB.out _ hnow.out).mono ?_) | (with_reducible refine (BC.out _ hnow.out).mono ?_) | (with_reducible refine (AC.out _ hnow.out).mono ?_) | (with_reducible refine (BA.out _ hnow.out).mono ?_) | (with_reducible refine (AA.out _ hnow.out).mono ?_)); rintro e w2 ⟨rfl, hb2⟩; have l1 := fun o => hb2.cell (p := ⟨g1, o, none⟩) HG.out.1; have l2 := fun o => hb2.cell (p := ⟨g2, o, none⟩) HG.out.2.1; have l3 := fun o => hb2.cell (p := ⟨g3, o, none⟩) HG.out.2.2; have hnow := Lib.hid hb2; clear hb2)
                  go_meet
                  case rel => exact ⟨rfl, hnow.out⟩
      case rest =>
        obtain ⟨W3, rfl⟩ : ∃ x, x = wc := ⟨_, rfl⟩
        obtain ⟨rfl, hb3⟩ := hcut
        have HB3 : Hid (Below w.heap.size w W3) := Lib.hid (HB0.out.trans (hb3.mono (by rw [HSZ.out]; exact HB0.out.size)))
        have CS : Hid (CallsAt W3 y len cap cs) := Lib.hid (HCS.out.below HB3.out)
        clear hb3 HA HBB HCC HG HB1 HB0 HSZ HCS
        obtain ⟨S, hS⟩ : ∃ S, S = w.heap.size := ⟨_, rfl⟩
        rw [← hS] at HB3
        have HSW : Hid (S ≤ W3.heap.size) := Lib.hid (by rw [hS]; exact HB3.out.size)
        by_cases hl : 100 < len
        · go_wp2_with (go_at_call 37; refine (awake24_any _).mono ?_; rintro e w' ⟨rfl, hb⟩)
          go_ret
          exact ⟨rfl, hS ▸ HB3.out.trans (hb.mono HSW.out)⟩
        · have hl2 : len ≤ 100 := by omega
          have HR := Lib.hid (right_all y len cap cs W3 CS.out hl2)
          obtain ⟨r, hr⟩ : ∃ r, r = rightTo cs len := ⟨_, rfl⟩
          rw [← hr] at HR
          have HAP : Hid (r = true → ∀ p : Nat × Nat, p ∈ ovTo cs len len → (cs p.1).th = (cs p.2).th → (cs p.1).cr = true) := Lib.hid fun h => over_apart cs len (hr.symm.trans h)
          clear hr
          cases r
          · go_wp2_with (first | (go_at_call 40; refine (HR.out).mono ?_; rintro e w4 ⟨rfl, hb4⟩) | (go_at_call 37; refine (awake24_any _).mono ?_; rintro e w5 ⟨rfl, hb5⟩))
            go_ret
            exact ⟨rfl, hS ▸ HB3.out.trans ((hb4.trans (hb5.mono hb4.size)).mono HSW.out)⟩
          · have HAP2 := Lib.hid (HAP.out rfl)
            clear HAP
            go_wp2_with (go_at_call 40; refine (HR.out).mono ?_; rintro e w4 ⟨rfl, hb4⟩; have HB4 := Lib.hid (HB3.out.trans (hb4.mono HSW.out)); have HS4 : Hid (S ≤ w4.heap.size) := Lib.hid (Nat.le_trans HSW.out hb4.size); have CS4 := Lib.hid (CS.out.below hb4); clear hb4)
            refine (overlaps_all y len cap cs w4 CS4.out hl2).mono ?_
            rintro e w5 ⟨v, rfl, hb5, hown⟩
            have HB5 := Lib.hid (HB4.out.trans (hb5.mono HS4.out))
            have CS5 := Lib.hid (CS4.out.below hb5)
            have HS5 : Hid (S ≤ w5.heap.size) := Lib.hid (Nat.le_trans HS4.out hb5.size)
            clear hb5 HB4 CS4 HS4 HB3 CS HSW HR
            obtain ⟨T, hT⟩ : ∃ T, T = w5.heap.size := ⟨_, rfl⟩
            rw [← hT] at HS5
            rcases own_slice hown with ⟨-, a', cap', rfl⟩ | ⟨g, cap', rfl, hnc, hcm, -, hgs, hcell⟩
            · clear hown
              go_wp2_with fail
              go_loopw [10] (fun i wr => i = .int .i64 0 ∧ Hid (Below T w5 wr)) (fun _ _ => 0)
              case atStart => exact ⟨rfl, Below.refl _ _⟩
              case round =>
                obtain ⟨rfl, HBE⟩ := hrel
                go_wp2_with (go_at_call 37; refine (awake24_any _).mono ?_; rintro e w6 ⟨rfl, hb6⟩)
                go_ret
                exact ⟨rfl, hS ▸ HB5.out.trans ((HBE.out.trans (hb6.mono (by rw [hT]; exact HBE.out.size))).mono HS5.out)⟩
            · clear hown hcm hnc
              have HP : Hid (∀ k, k < (ovTo cs len len).length → ∃ i j : Nat, w5.cell? ⟨g, k * 2, none⟩ = some (.int .i64 i) ∧ w5.cell? ⟨g, k * 2 + 1, none⟩ = some (.int .i64 j) ∧ i < len ∧ j < len ∧ ((cs i).th = (cs j).th → (cs i).cr = true)) := Lib.hid (by
                intro k hk
                obtain ⟨p, hp⟩ : ∃ p, (ovTo cs len len)[k]? = some p := ⟨_, List.getElem?_eq_getElem hk⟩
                have hm := ovTo_mem cs len len p (List.mem_of_getElem? hp)
                have h2 := pairs_at _ _ _ hp
                exact ⟨p.1, p.2, by rw [hcell _ (by omega)]; exact h2.1, by rw [hcell _ (by omega)]; exact h2.2, hm.1, hm.2.2.1, HAP2.out p (List.mem_of_getElem? hp)⟩)
              have HGS : Hid (g < T) := Lib.hid (by rw [hT]; exact hgs)
              clear hcell hgs HAP2
              have HLN : Hid ((ovTo cs len len).length ≤ 10000) := Lib.hid (by have h1 := ovTo_len cs len len; have h3 : len * len ≤ 100 * 100 := Nat.mul_le_mul hl2 hl2; omega)
              generalize (ovTo cs len len).length = n at *
              go_wp2_with fail
              go_loopw [10] (fun i wr => ∃ k : Nat, k ≤ n ∧ i = .int .i64 k ∧ Hid (Below T w5 wr)) (fun i _ => n - (intOf i).toNat)
              case atStart => exact ⟨0, Nat.zero_le _, rfl, Below.refl _ _⟩
              case round =>
                obtain ⟨k, hk, rfl, HBE⟩ := hrel
                have HTW : Hid (T ≤ wr.heap.size) := Lib.hid (by rw [hT]; exact HBE.out.size)
                by_cases hlt : k < n
                · obtain ⟨i, j, hp1, hp2, hi, hj, hcr⟩ := HP.out k hlt
                  obtain ⟨bk, off, rfl, hbs, hcs⟩ := CS5.out.block (by omega)
                  have HCRR := Lib.hid hcr
                  have HBB5 : Hid (bk < T) := Lib.hid (by rw [hT]; exact hbs)
                  have HCI := Lib.hid ((hcs i hi).of (w' := wr) fun o => HBE.out.cell (p := ⟨bk, o, none⟩) HBB5.out)
                  have HCJ := Lib.hid ((hcs j hj).of (w' := wr) fun o => HBE.out.cell (p := ⟨bk, o, none⟩) HBB5.out)
                  have p1 : wr.cell? ⟨g, k * 2, none⟩ = some (.int .i64 i) := by rw [HBE.out.cell (p := ⟨g, k * 2, none⟩) HGS.out]; exact hp1
                  have p2 : wr.cell? ⟨g, k * 2 + 1, none⟩ = some (.int .i64 j) := by rw [HBE.out.cell (p := ⟨g, k * 2 + 1, none⟩) HGS.out]; exact hp2
                  clear hcr hbs hcs hp1 hp2
                  have i0 : (0 : Int) ≤ (k : Int) := by omega
                  have i1 : (k : Int) < (n : Int) := by omega
                  have i2 : (0 : Int) ≤ (i : Int) := by omega
                  have i3 : (i : Int) < (len : Int) := by omega
                  have i4 : (0 : Int) ≤ (j : Int) := by omega
                  have i5 : (j : Int) < (len : Int) := by omega
                  have HLN2 := HLN.out
                  go_upto_region 11 with fail
                  go_cut [11, 12] from 72 to 103 (fun v11 v12 w' => TakenTwo T w5 (cs i) (cs j) v11 v12 w')
                  case first =>
                    obtain ⟨x0, x1, x2, x3, x4, x5, x6, x7, x8, x9, x10⟩ := HCI.out
                    obtain ⟨y0, y1, y2, y3, y4, y5, y6, y7, y8, y9, y10⟩ := HCJ.out
                    have n1 : wr.heap.size ≠ g := by have := HGS.out; have := HTW.out; omega
                    have n2 : wr.heap.size + 1 ≠ g := by have := HGS.out; have := HTW.out; omega
                    have n3 : wr.heap.size ≠ bk := by have := HBB5.out; have := HTW.out; omega
                    have n4 : wr.heap.size + 1 ≠ bk := by have := HBB5.out; have := HTW.out; omega
                    go_region_held3 (fun w' => w'.cell? ⟨g, k * 2, none⟩ = some (.int .i64 i) ∧ w'.cell? ⟨g, k * 2 + 1, none⟩ = some (.int .i64 j) ∧ w'.cell? ⟨bk, off + i * 11, none⟩ = some (.int .i64 (cs i).th) ∧ w'.cell? ⟨bk, off + i * 11 + 1, none⟩ = some (.int .i64 (cs i).ki) ∧ w'.cell? ⟨bk, off + i * 11 + 2, none⟩ = some (.int .u32 (cs i).ky) ∧ w'.cell? ⟨bk, off + i * 11 + 3, none⟩ = some (.int .u32 (cs i).va) ∧ w'.cell? ⟨bk, off + i * 11 + 4, none⟩ = some (.int .i64 (cs i).rk) ∧ w'.cell? ⟨bk, off + i * 11 + 5, none⟩ = some (.int .u32 (cs i).rv) ∧ w'.cell? ⟨bk, off + i * 11 + 6, none⟩ = some (.int .i64 (cs i).be) ∧ w'.cell? ⟨bk, off + i * 11 + 7, none⟩ = some (.int .i64 (cs i).en) ∧ w'.cell? ⟨bk, off + i * 11 + 8, none⟩ = some (.int .i64 (cs i).wh) ∧ w'.cell? ⟨bk, off + i * 11 + 9, none⟩ = some (.bool (cs i).cr) ∧ w'.cell? ⟨bk, off + i * 11 + 10, none⟩ = some (.bool (cs i).kp) ∧ w'.cell? ⟨bk, off + j * 11, none⟩ = some (.int .i64 (cs j).th) ∧ w'.cell? ⟨bk, off + j * 11 + 1, none⟩ = some (.int .i64 (cs j).ki) ∧ w'.cell? ⟨bk, off + j * 11 + 2, none⟩ = some (.int .u32 (cs j).ky) ∧ w'.cell? ⟨bk, off + j * 11 + 3, none⟩ = some (.int .u32 (cs j).va) ∧ w'.cell? ⟨bk, off + j * 11 + 4, none⟩ = some (.int .i64 (cs j).rk) ∧ w'.cell? ⟨bk, off + j * 11 + 5, none⟩ = some (.int .u32 (cs j).rv) ∧ w'.cell? ⟨bk, off + j * 11 + 6, none⟩ = some (.int .i64 (cs j).be) ∧ w'.cell? ⟨bk, off + j * 11 + 7, none⟩ = some (.int .i64 (cs j).en) ∧ w'.cell? ⟨bk, off + j * 11 + 8, none⟩ = some (.int .i64 (cs j).wh) ∧ w'.cell? ⟨bk, off + j * 11 + 9, none⟩ = some (.bool (cs j).cr) ∧ w'.cell? ⟨bk, off + j * 11 + 10, none⟩ = some (.bool (cs j).kp)) (go_keep) (first | fail)
                    all_goals
                      go_wp2
                      go_meet
                      case rel =>
                        refine ⟨_, _, rfl, rfl, callAt_of_block (t := 65) ?_, callAt_of_block (t := 65) ?_, ?_⟩
                        all_goals first | exact (blocks2 _ _ _).1 | exact (blocks2 _ _ _).2.1 | exact HBE.out.trans ((blocks2 _ _ _).2.2.mono HTW.out)
                  case rest =>
                    obtain ⟨W6, rfl⟩ : ∃ x, x = wc := ⟨_, rfl⟩
                    obtain ⟨g4, g5, rfl, rfl, h4, h5, hb6⟩ := hcut
                    have HB6 := Lib.hid hb6
                    obtain ⟨x0, x1, x2, x3, x4, x5, x6, x7, x8, x9, x10⟩ := h4
                    obtain ⟨y0, y1, y2, y3, y4, y5, y6, y7, y8, y9, y10⟩ := h5
                    simp only [Nat.zero_add] at x1 x2 x3 x4 x5 x6 x7 x8 x9 x10 y1 y2 y3 y4 y5 y6 y7 y8 y9 y10
                    clear hb6 p1 p2 HBE
                    have hth := HCRR.out
                    by_cases he : (cs i).th = (cs j).th
                    · have hcr := hth he
                      rw [hcr] at x9
                      clear hth hcr
                      go_wp2_with fail
                      go_roundw
                      case rel => exact ⟨k + 1, by omega, by go_num, HB6⟩
                      case measure => simp [intOf]; omega
                    · clear hth
                      go_wp2_with fail
                      go_roundw
                      case rel => exact ⟨k + 1, by omega, by go_num, HB6⟩
                      case measure => simp [intOf]; omega
                · go_wp2_with (go_at_call 37; refine (awake24_any _).mono ?_; rintro e w6 ⟨rfl, hb6⟩)
                  go_ret
                  exact ⟨rfl, hS ▸ HB5.out.trans ((HBE.out.trans (hb6.mono HTW.out)).mono HS5.out)⟩
end Go.Proofs.Ytfjddkjfkgdihaa
