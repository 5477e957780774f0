/- Walks of the library's stable sort: two runs merged in place. -/
import Derived.Test.YtfjddkjfkgdihaaF5
import Derived.Deep.Cut
namespace Go.Proofs.Ytfjddkjfkgdihaa
open Go.RowKit Go.BigFrame
set_option linter.unusedVariables false
set_option linter.unusedSimpArgs false

/-- All merges of less than N elements. -/
def SymAll (g off n cap q : Nat) (z : Nat → Int) (lw : Nat) (W : World) (N : Nat) : Prop :=
  ∀ a m b D w, b - a < N → DataAt W w g off n D → (∀ t, t < n → D t < lw) → b ≤ n → a < m → m < b → Runs z D a m b →
    Calls Try.prog 92 #[.slice (some ⟨g, off, none⟩) n cap, .int .i64 a, .int .i64 m, .int .i64 b, .func (.func 76) #[] #[.pointer (some ⟨q, 0, none⟩)]] w (SrtTo W g off n z D a b)
theorem vb_no {p : Prop} [Decidable p] (h : ¬ p) : Value.bool false = Value.bool (decide p) := by simp [h]
theorem vb_yes {p : Prop} [Decidable p] (h : p) : Value.bool true = Value.bool (decide p) := by simp [h]
theorem same_lw {D D' : Nat → Nat} {a b n lw : Nat} (h : Same D D' a b) (hb : b ≤ n) (hl : ∀ t, t < n → D t < lw) : ∀ t, t < n → D' t < lw := fun t ht => by
  by_cases e : a ≤ t ∧ t < b
  · obtain ⟨r, h1, h2, e⟩ := h.into t e.1 e.2
    rw [e]; exact hl r (by omega)
  · rw [h.out t (by omega)]; exact hl t ht

set_option maxRecDepth 100000 in
set_option maxHeartbeats 4000000 in
theorem sym_many (g off n cap a m b q bw ow lw cw : Nat) (z : Nat → Int) (D : Nat → Nat) (W w : World) (h : DataAt W w g off n D) (he : EnvOut W g q bw ow lw cw z) (hl : ∀ t, t < n → D t < lw) (hn : n ≤ 1000000) (hb : b ≤ n) (ham : a + 1 < m) (hmb : m + 1 < b) (hr : Runs z D a m b)
    (ih : SymAll g off n cap q z lw W (b - a)) :
    Calls Try.prog 92 #[.slice (some ⟨g, off, none⟩) n cap, .int .i64 a, .int .i64 m, .int .i64 b, .func (.func 76) #[] #[.pointer (some ⟨q, 0, none⟩)]] w (SrtTo W g off n z D a b) := by
  have HE := Lib.hid he
  have HR := Lib.hid hr
  have HL := Lib.hid hl
  have IH := Lib.hid ih
  have w1 : IntKind.i64.wrap ((m : Int) - (a : Int)) = (m : Int) - a := IntWalk.i64_in _ (by omega)
  have b1 : ((m : Int) - (a : Int) == 1) = false := by simp; omega
  have w2 : IntKind.i64.wrap ((b : Int) - (m : Int)) = (b : Int) - m := IntWalk.i64_in _ (by omega)
  have b2 : ((b : Int) - (m : Int) == 1) = false := by simp; omega
  have w3 : IntKind.i64.wrap ((a : Int) + (b : Int)) = (a : Int) + b := IntWalk.i64_in _ (by omega)
  obtain ⟨mid, hmid⟩ : ∃ mid, mid = (a + b) / 2 := ⟨_, rfl⟩
  have e3 : ((a : Int) + (b : Int)) / 2 = (mid : Int) := by omega
  obtain ⟨lo, hlo⟩ : ∃ lo, lo = cutLo a m b := ⟨_, rfl⟩
  obtain ⟨hi, hhi⟩ : ∃ hi, hi = cutHi a m b := ⟨_, rfl⟩
  have hbd := cut_bd (a := a) (m := m) (b := b) (by omega) (by omega)
  rw [← hlo, ← hhi, ← hmid] at hbd
  obtain ⟨d1, d2, d3, d4, d5⟩ := hbd
  have HLO : Hid (lo = if mid < m then mid + m - b else a) := Lib.hid (by rw [hlo, hmid]; rfl)
  have HHI : Hid (hi = if mid < m then mid else m) := Lib.hid (by rw [hhi, hmid]; rfl)
  have HMO : Hid (∀ c k, lo ≤ c → c ≤ k → k < hi → z (D k) ≤ z (D c) ∧ z (D (mid + m - 1 - c)) ≤ z (D (mid + m - 1 - k))) := Lib.hid fun c k g0 g1 g2 => by
    rw [hlo] at g0; rw [hhi] at g2; rw [hmid]
    exact cut_mono hr (by omega) (by omega) g0 g1 g2
  have HDN : Hid (∀ s, Half z D (mid + m - 1) lo hi s s → CutAt z D a m b s (mid + m - s)) := Lib.hid fun s hh => by
    rw [hlo, hhi, hmid] at hh; rw [hmid]; exact half_done hr (by omega) (by omega) hh
  have hmid1 : a < mid := by omega
  have hmid2 : mid < b := by omega
  clear hlo hhi he hr hl ih hmid
  have w4 : IntKind.i64.wrap ((mid : Int) + (m : Int)) = (mid : Int) + m := IntWalk.i64_in _ (by omega)
  go_enter Try.func92, Try.ntmps92
  go_upto_region 27 with fail
  go_upto_if 140 with fail
  go_cut [20, 21] from 141 (fun v20 v21 wx => v20 = .int .i64 lo ∧ v21 = .int .i64 hi ∧ wx = w)
  case first =>
    by_cases hmm : mid < m
    · have g1 : decide ((mid : Int) < (m : Int)) = true := by simp; omega
      have w5 : IntKind.i64.wrap ((mid : Int) + (m : Int) - (b : Int)) = (mid : Int) + m - b := IntWalk.i64_in _ (by omega)
      have h1 := HLO.out
      have h2 := HHI.out
      rw [if_pos hmm] at h1 h2
      have HH := Lib.hid h1
      have HH2 := Lib.hid h2
      clear h1 h2 HLO HHI
      go_wp2_with fail
      go_meet
      case rel => exact ⟨by rw [HH.out]; congr 1; omega, by rw [HH2.out], rfl⟩
    · have g1 : decide ((mid : Int) < (m : Int)) = false := by simp; omega
      have h1 := HLO.out
      have h2 := HHI.out
      rw [if_neg hmm] at h1 h2
      have HH := Lib.hid h1
      have HH2 := Lib.hid h2
      clear h1 h2 HLO HHI
      go_wp2_with fail
      go_meet
      case rel => exact ⟨by rw [HH.out], by rw [HH2.out], rfl⟩
  case rest =>
    obtain ⟨rfl, rfl, rfl⟩ := hcut
    clear HLO HHI w1 w2 w3 w4 b1 b2 e3
    have w5 : IntKind.i64.wrap ((mid : Int) + (m : Int) - 1) = (mid : Int) + m - 1 := IntWalk.i64_in _ (by omega)
    go_wp2_with fail
    go_loopw [20, 21] (fun vi vj wr => ∃ i j : Nat, vi = .int .i64 i ∧ vj = .int .i64 j ∧ lo ≤ i ∧ i ≤ j ∧ j ≤ hi ∧ Hid (DataAt W wr g off n D) ∧ Hid (Half z D (mid + m - 1) lo hi i j)) (fun vi vj _ => (intOf vj - intOf vi).toNat)
    case atStart => exact ⟨lo, hi, rfl, rfl, Nat.le_refl _, d2, Nat.le_refl _, Lib.hid h, Lib.hid ⟨Nat.le_refl _, d2, Nat.le_refl _, fun c h1 h2 => by omega, fun c h1 h2 => by omega⟩⟩
    case round =>
      clear h w5
      obtain ⟨i, j, rfl, rfl, hli, hij, hjh, HD, HF⟩ := hrel
      by_cases hlt : i < j
      · have w2 : IntKind.i64.wrap ((i : Int) + (j : Int)) = (i : Int) + (j : Int) := IntWalk.i64_in _ (by omega)
        obtain ⟨h, hh⟩ : ∃ h, h = (i + j) / 2 := ⟨_, rfl⟩
        have eh : ((i : Int) + (j : Int)) / 2 = (h : Int) := by omega
        have h1 : i ≤ h := by omega
        have h2 : h < j := by omega
        clear hh
        obtain ⟨p, hp⟩ : ∃ p, p = mid + m - 1 - h := ⟨_, rfl⟩
        have w3 : IntKind.i64.wrap ((mid : Int) + (m : Int) - 1 - (h : Int)) = (p : Int) := by rw [IntWalk.i64_in _ (by omega)]; omega
        have hpn : p < n := by omega
        have HP := Lib.hid hp
        clear hp
        have hcell := HD.out.cell
        have c1 := HL.out p hpn
        have c2 := HL.out h (by omega)
        have j0 : (0 : Int) ≤ (h : Int) := by omega
        have j1 : (h : Int) < (n : Int) := by omega
        have j2 : (0 : Int) ≤ (p : Int) := by omega
        have j3 : (p : Int) < (n : Int) := by omega
        have HCMP : Hid (∀ k, Calls Try.prog 76 #[.int .i64 (D p), .int .i64 (D h), .pointer (some ⟨q, 0, none⟩)] (wr.drewN k) fun e w' => e = .returned (.int .i64 (cmpv (z (D h)) (z (D p)))) ∧ ∃ m, w' = (wr.drewN k).drewN m) := Lib.hid fun k => cmp76 _ _ q bw ow lw cw z _ (HE.out.at_ (HD.out.drewN k).but) c1 c2
        by_cases hc : z (D h) < z (D p)
        · have g1 : decide (cmpv (z (D h)) (z (D p)) < 0) = true := by rw [cmpv_neg]; simpa using hc
          have HF2 : Hid (Half z D (mid + m - 1) lo hi i h) := Lib.hid (HF.out.down h1 h2 (fun k g1 g2 => HMO.out h k (by omega) g1 g2) (by rw [← HP.out]; exact hc))
          clear hc
          go_wp2_with fail
          go_quiet (first | (go_at_call 76; refine Calls.quiet_of (HCMP.out _)))
          clear HCMP g1
          go_wp2_with fail
          go_roundw
          case rel => exact ⟨i, h, rfl, rfl, hli, by omega, by omega, Lib.hid (HD.out.drewN _), HF2⟩
          case measure => simp [intOf]; omega
        · have g1 : decide (cmpv (z (D h)) (z (D p)) < 0) = false := by rw [cmpv_neg]; simpa using hc
          have HF2 : Hid (Half z D (mid + m - 1) lo hi (h + 1) j) := Lib.hid (HF.out.up h1 h2 (fun k g1 g2 => HMO.out k h g1 g2 (by omega)) (by rw [← HP.out]; exact hc))
          clear hc
          go_wp2_with fail
          go_quiet (first | (go_at_call 76; refine Calls.quiet_of (HCMP.out _)))
          clear HCMP g1
          go_wp2_with fail
          go_roundw
          case rel => exact ⟨h + 1, j, by go_num, rfl, by omega, by omega, hjh, Lib.hid (HD.out.drewN _), HF2⟩
          case measure => simp [intOf]; omega
      · obtain rfl : i = j := by omega
        have HCA := Lib.hid (HDN.out i HF.out)
        obtain ⟨e, he⟩ : ∃ e, e = mid + m - i := ⟨_, rfl⟩
        rw [← he] at HCA
        have w6 : IntKind.i64.wrap ((mid : Int) + (m : Int) - (i : Int)) = (e : Int) := by rw [IntWalk.i64_in _ (by omega)]; omega
        have hs1 := HCA.out.s1
        have he0 := HCA.out.e0
        have he1 := HCA.out.e1
        obtain ⟨R1, R2, R3, R4⟩ := HCA.out.rot (mid := mid) (by omega)
        have HR1 := Lib.hid R1
        have HR2 := Lib.hid R2
        have HR3 := Lib.hid R3
        have HR4 := Lib.hid R4
        have hsa : a ≤ i := by omega
        have hem : mid ≤ e := by omega
        have him : i ≤ mid := by omega
        clear R1 R2 R3 R4 HF HDN HMO he
        obtain ⟨G, hG⟩ : ∃ G, G = rotF D i m e := ⟨_, rfl⟩
        rw [← hG] at HR1 HR2 HR3 HR4
        have HG := Lib.hid hG
        clear hG
        have HLG : Hid (∀ t, t < n → G t < lw) := Lib.hid (same_lw HR4.out hb HL.out)
        have HROT : Hid (i < m → m < e → Calls Try.prog 93 #[.slice (some ⟨g, off, none⟩) n cap, .int .i64 i, .int .i64 m, .int .i64 e, .func (.func 76) #[] #[.pointer (some ⟨q, 0, none⟩)]] wr (DataTo W g off n G)) := Lib.hid fun h1 h2 => by rw [HG.out]; exact rot93 g off n cap i m e D _ W wr HD.out hn h1 h2 (by omega)
        have HNO : Hid (¬ (i < m ∧ m < e) → DataAt W wr g off n G) := Lib.hid fun h1 => by rw [HG.out, rot_none D hs1 he0 (by omega)]; exact HD.out
        clear HCA HD HR
        go_upto_region 39 with fail
        go_cut [185] from 178 (fun v185 wx => v185 = .bool (decide (i < m ∧ m < e)) ∧ wx = wr)
        case first =>
          by_cases g1 : i < m
          · have h1 : decide ((i : Int) < (m : Int)) = true := by simp; omega
            by_cases g2 : m < e
            · have h2 : decide ((m : Int) < (e : Int)) = true := by simp; omega
              go_wp2_with fail
              go_meet
              case rel => exact ⟨vb_yes ⟨g1, g2⟩, rfl⟩
            · have h2 : decide ((m : Int) < (e : Int)) = false := by simp; omega
              go_wp2_with fail
              go_meet
              case rel => exact ⟨vb_no (fun h => g2 h.2), rfl⟩
          · have h1 : decide ((i : Int) < (m : Int)) = false := by simp; omega
            go_wp2_with fail
            go_meet
            case rel => exact ⟨vb_no (fun h => g1 h.1), rfl⟩
        case rest =>
          obtain ⟨rfl, rfl⟩ := hcut
          go_upto_if 185 with fail
          go_cut [191] from 178 (fun v191 wx => Hid (DataAt W wx g off n G))
          case first =>
            by_cases g1 : i < m ∧ m < e
            · have h1 : decide (i < m ∧ m < e) = true := by simpa using g1
              rw [h1]
              have HC := Lib.hid (HROT.out g1.1 g1.2)
              clear HROT HNO h1 g1
              go_wp2_with fail
              with_reducible refine HC.out.mono ?_
              rintro e w2 ⟨rfl, hd⟩
              have HD2 := Lib.hid hd
              clear hd
              go_wp2_with fail
              go_meet
              case rel => exact HD2
            · have h1 : decide (i < m ∧ m < e) = false := by simpa using g1
              rw [h1]
              have HD2 := Lib.hid (HNO.out g1)
              clear HROT HNO h1 g1
              go_wp2_with fail
              go_meet
              case rel => exact HD2
          case rest =>
            clear HROT HNO HG
            have HD := hcut
            clear hcut
            have HC1 : Hid (a < i → i < mid → Calls Try.prog 92 #[.slice (some ⟨g, off, none⟩) n cap, .int .i64 a, .int .i64 i, .int .i64 mid, .func (.func 76) #[] #[.pointer (some ⟨q, 0, none⟩)]] wc (SrtTo W g off n z G a mid)) := Lib.hid fun h1 h2 => IH.out a i mid G wc (by omega) HD.out HLG.out (by omega) h1 h2 HR1.out
            have HN1 : Hid (¬ (a < i ∧ i < mid) → Merged z G G a mid) := Lib.hid fun h1 => merge_none HR1.out h1 hsa him
            go_upto_region 41 with fail
            obtain ⟨W1, hW1⟩ : ∃ x, x = wc := ⟨_, rfl⟩
            go_cut [199] from 192 (fun v199 wx => v199 = .bool (decide (a < i ∧ i < mid)) ∧ wx = W1)
            case first =>
              by_cases g1 : a < i
              · have h1 : decide ((a : Int) < (i : Int)) = true := by simp; omega
                by_cases g2 : i < mid
                · have h2 : decide ((i : Int) < (mid : Int)) = true := by simp; omega
                  go_wp2_with fail
                  go_meet
                  case rel => exact ⟨vb_yes ⟨g1, g2⟩, hW1.symm⟩
                · have h2 : decide ((i : Int) < (mid : Int)) = false := by simp; omega
                  go_wp2_with fail
                  go_meet
                  case rel => exact ⟨vb_no (fun h => g2 h.2), hW1.symm⟩
              · have h1 : decide ((a : Int) < (i : Int)) = false := by simp; omega
                go_wp2_with fail
                go_meet
                case rel => exact ⟨vb_no (fun h => g1 h.1), hW1.symm⟩
            case rest =>
              subst hW1
              obtain ⟨rfl, rfl⟩ := hcut
              go_upto_if 199 with fail
              go_cut [205] from 192 (fun v205 wx => ∃ E, Hid (DataAt W wx g off n E) ∧ Hid (Merged z G E a mid))
              case first =>
                by_cases g1 : a < i ∧ i < mid
                · have h1 : decide (a < i ∧ i < mid) = true := by simpa using g1
                  rw [h1]
                  have HC := Lib.hid (HC1.out g1.1 g1.2)
                  clear HC1 HN1 h1 g1
                  go_wp2_with fail
                  with_reducible refine HC.out.mono ?_
                  rintro e w2 ⟨rfl, E, hd, hm⟩
                  have HD2 := Lib.hid hd
                  have HM2 := Lib.hid hm
                  clear hd hm
                  go_wp2_with fail
                  go_meet
                  case rel => exact ⟨E, HD2, HM2⟩
                · have h1 : decide (a < i ∧ i < mid) = false := by simpa using g1
                  rw [h1]
                  have HM2 := Lib.hid (HN1.out g1)
                  clear HC1 HN1 h1 g1
                  go_wp2_with fail
                  go_meet
                  case rel => exact ⟨G, HD, HM2⟩
              case rest =>
                clear HC1 HN1 HD
                obtain ⟨E, HD, HM⟩ := hcut
                have HLE : Hid (∀ t, t < n → E t < lw) := Lib.hid (same_lw (HM.out.2.wide (Nat.le_refl _) (show mid ≤ b by omega)) hb HLG.out)
                have HRE : Hid (Runs z E mid e b) := Lib.hid (by
                  have hq : ∀ t, mid ≤ t → E t = G t := fun t ht => HM.out.2.out t (.inr ht)
                  refine ⟨fun p q h1 h2 h3 => ?_, fun p q h1 h2 h3 => ?_, fun p q h1 h2 h3 h4 => ?_⟩
                  · rw [hq p h1, hq q (by omega)]; exact HR2.out.left p q h1 h2 h3
                  · rw [hq p (by omega), hq q (by omega)]; exact HR2.out.right p q h1 h2 h3
                  · rw [hq p h1, hq q (by omega)]; exact HR2.out.num p q h1 h2 h3 h4)
                have HALL : Hid (∀ F, Merged z E F mid b → Merged z D F a b) := Lib.hid fun F hf => merge_both HR4.out HR3.out ⟨by omega, by omega⟩ HM.out hf
                clear HR1 HR2 HR3 HR4 HM HLG
                by_cases g1 : mid < e
                · have h1 : decide ((mid : Int) < (e : Int)) = true := by simp; omega
                  by_cases g2 : e < b
                  · have h2 : decide ((e : Int) < (b : Int)) = true := by simp; omega
                    have HC := Lib.hid (IH.out mid e b E wc (by omega) HD.out HLE.out hb g1 g2 HRE.out)
                    go_wp2_with fail
                    with_reducible refine HC.out.mono ?_
                    rintro e w2 ⟨rfl, F, hd, hm⟩
                    have HD2 := Lib.hid hd
                    have HM2 := Lib.hid (HALL.out F hm)
                    clear hd hm
                    go_wp2_with fail
                    go_end0
                    exact ⟨rfl, F, HD2.out, HM2.out⟩
                  · have h2 : decide ((e : Int) < (b : Int)) = false := by simp; omega
                    have HM2 := Lib.hid (HALL.out E (merge_none HRE.out (fun h => g2 h.2) hem he1))
                    go_wp2_with fail
                    go_end0
                    exact ⟨rfl, E, HD.out, HM2.out⟩
                · have h1 : decide ((mid : Int) < (e : Int)) = false := by simp; omega
                  have HM2 := Lib.hid (HALL.out E (merge_none HRE.out (fun h => g1 h.1) hem he1))
                  go_wp2_with fail
                  go_end0
                  exact ⟨rfl, E, HD.out, HM2.out⟩

theorem sym92 (g off n cap q bw ow lw cw : Nat) (z : Nat → Int) (W : World) (he : EnvOut W g q bw ow lw cw z) (hn : n ≤ 1000000) : ∀ N, SymAll g off n cap q z lw W N := by
  intro N
  induction N with
  | zero => intro a m b D w h; omega
  | succ N ih =>
    intro a m b D w hN hd hl hb ham hmb hr
    by_cases h1 : m = a + 1
    · subst h1; exact sym_one g off n cap a b q bw ow lw cw z D W w hd he hl hn hb (by omega) hr
    · by_cases h2 : b = m + 1
      · subst h2; exact sym_last g off n cap a m q bw ow lw cw z D W w hd he hl hn hb (by omega) hr
      · exact sym_many g off n cap a m b q bw ow lw cw z D W w hd he hl hn hb (by omega) (by omega) hr fun a' m' b' D' w' h => ih a' m' b' D' w' (by omega)
end Go.Proofs.Ytfjddkjfkgdihaa
