/- Walk of the reference's Hot (layer 33). -/
import Derived.Test.YtfjddkjfkgdihaaF9
import Derived.Test.YtfjddkjfkgdihaaF10
namespace Go.Proofs.Ytfjddkjfkgdihaa
open Go.RowKit Go.BigFrame
set_option linter.unusedVariables false
set_option linter.unusedSimpArgs false

def lenV : Value → Nat
  | .slice _ n _ => n
  | _ => 0
theorem info4 : (Try.prog.info? 4).map (fun i => (i.zero, i.size, i.bytes)) = some (some (.bool false), 1, 1) := by kernel_rfl
def RefHotTo (R : Nat → Nat) (m : Nat) (k : Int) (w : World) (e : Ending) (w' : World) : Prop :=
  ∃ a cap, e = .returned (.slice a (cutK k m) cap) ∧ Below w.heap.size w w' ∧ LinesAt w' a (cutK k m) cap R
theorem own_keepF {w w' : World} {base : Nat} {e : TypeId} {size : Nat} {v : Value} {n : Nat} {xs : List Value} (h : w.ownsRow base e size v n xs) (hk : ∀ k, base ≤ k → k < w.heap.size → w'.heap[k]? = w.heap[k]?) : w'.ownsRow base e size v n xs := by
  refine ⟨h.1, ?_⟩
  rcases h.2 with hn | ⟨g, cap, cur, hv, hb, hg, rest⟩
  · exact .inl hn
  · exact .inr ⟨g, cap, cur, hv, hb, (hk g hb (Array.getElem?_eq_some_iff.1 hg).1).trans hg, rest⟩
theorem lines_of_own {w : World} {base j : Nat} {v : Value} {R : Nat → Nat} (h : w.ownsRow base 3 1 v j (lineVals (firstR R j))) : ∃ a cap, v = .slice a j cap ∧ LinesAt w a j cap R := by
  by_cases h0 : j = 0
  · subst h0
    rcases h.2 with ⟨rfl, -⟩ | ⟨g, cap, cur, rfl, hb, hg, hnc, hcm, hcs, htake⟩
    · exact ⟨none, 0, rfl, Nat.le_refl _, Nat.zero_le _, fun t ht => by omega⟩
    · exact ⟨_, cap, rfl, hnc, hcm, fun t ht => by omega⟩
  · have h' : w.ownsRow base 3 1 v (firstR R j).length (lineVals (firstR R j)) := by rw [firstR_len]; exact h
    obtain ⟨g, cap, rfl, h1, h2, h3, h4, h5, h6⟩ := line_own h' (by rw [firstR_len]; omega)
    rw [firstR_len] at h3 h5 ⊢
    refine ⟨_, cap, rfl, h3, h4, fun t ht => ⟨g, rfl, h2, ?_⟩⟩
    have := h5 t ht
    rw [Nat.zero_add] at this
    rw [this]
    simp [firstR, List.getD_eq_getElem?_getD, ht]

set_option maxRecDepth 100000 in
set_option maxHeartbeats 4000000 in
theorem refHot54 (a : Option Addr) (len cap : Nat) (z : Nat → Int) (k : Int) (m : Nat) (R : Nat → Nat) (w : World) (h : IntsAt .i64 w a len cap z) (hl : len ≤ 300) (hk : -9223372036854775808 ≤ k ∧ k ≤ 9223372036854775807) (hB : Best z len m R) (hml : m ≤ len) :
    Calls Try.prog 54 #[.slice a len cap, .int .i64 k] w (RefHotTo R m k w) := by
  obtain ⟨i3, hi, hz0, hz1, hz2⟩ := info_parts info3
  have hmk := fun w => run_make_row' (P := Try.prog) 110 4 (.bool false) 1 Try.underlying110 info4 rfl .i64 .i64 len (by omega) (by omega) w
  obtain ⟨hlc, hcm, hc⟩ := h
  unfold maxLen at hcm
  have HC := Lib.hid hc
  have HBB := Lib.hid hB
  clear hc hB
  obtain ⟨G, hG⟩ : ∃ G, G = w.heap.size := ⟨_, rfl⟩
  obtain ⟨W, hW⟩ : ∃ W, W = w.alloc (.cells (madeCells #[Value.bool false] len) 4) := ⟨_, rfl⟩
  have HG := Lib.hid hG
  have HBW : Hid (Below G w W) := Lib.hid (by rw [hW, hG]; exact (Below.refl _ _).alloc (Nat.le_refl _) _)
  have HGC : Hid (GoneAt W G len (goneB R 0)) := Lib.hid (by
    have hg : W.heap[G]? = some (.cells (madeCells #[Value.bool false] len) 4 (0, 0)) := by rw [hW, hG]; exact heap_alloc_new _ _
    refine ⟨(Array.getElem?_eq_some_iff.1 hg).1, fun t ht => ?_, fun t => by unfold World.frozen?; rw [hg]; simp⟩
    rw [cell_of_row _ _ _ _ _ _ hg, ← Array.getElem?_toList, toList_madeCells_one]
    simp [ht, goneB])
  have HGS : Hid (W.heap.size = G + 1) := Lib.hid (by rw [hW, hG]; simp)
  go_enter Try.func54, Try.ntmps54
  go_upto_region 3 with fail
  rw [← hW, ← hG]
  clear hW hG hmk
  go_loopw [5] (fun v wr => ∃ j : Nat, j ≤ m ∧ (j : Int) ≤ max k 0 ∧ Hid (wr.ownsRow (G + 1) 3 1 v j (lineVals (firstR R j))) ∧ Hid (GoneAt wr G len (goneB R j)) ∧ Hid (Below G w wr)) (fun v _ => len - lenV v)
  case atStart => exact ⟨0, Nat.zero_le _, by omega, World.ownsRow_nil _ _ _ _, HGC, HBW⟩
  case round =>
    clear HGC HBW HGS
    obtain ⟨w5, rfl⟩ : ∃ x, x = wr := ⟨_, rfl⟩
    obtain ⟨j, hj, hjk, HO, HGN, HBE⟩ := hrel
    obtain ⟨aa, cc, rfl, hla⟩ := lines_of_own HO.out
    have HLA := Lib.hid hla
    have hcc := hla.1
    have hcc2 := hla.2.1
    unfold maxLen at hcc2
    clear hla
    have hGw : G + 1 ≤ w5.heap.size := HGN.out.lt
    by_cases hjlt : (j : Int) < k
    · have b1 : decide ((j : Int) < k) = true := by simp; omega
      go_wp2_with fail
      go_loopw [7, 8] (fun vb vn wx => ∃ n : Nat, n ≤ len ∧ vn = .int .i64 n ∧ ∃ best : Int, vb = .int .i64 best ∧ Hid (PickTo z R len j n best) ∧ ∃ d, wx = w5.drewN d) (fun _ vn _ => len - (intOf vn).toNat)
      case atStart => exact ⟨0, Nat.zero_le _, rfl, -1, rfl, Lib.hid (.inl ⟨rfl, fun t ht => by omega⟩), 0, rfl⟩
      case round =>
        obtain ⟨n, hn, rfl, best, rfl, HP, d, hd⟩ := hrel
        by_cases hlt : n < len
        · obtain ⟨b, off, rfl, hb, hcell, -⟩ := HC.out n hlt
          have hcell : w5.cell? ⟨b, off + n, none⟩ = some (.int .i64 (z n)) := by
            rw [HBE.out.cell (p := ⟨b, off + n, none⟩) (by have := HG.out; show b < G; omega)]; exact hcell
          have hgone := HGN.out.cell n hlt
          have i0 : (0 : Int) ≤ (n : Int) := by omega
          have i1 : (n : Int) < (len : Int) := by omega
          have HSK : Hid (¬ Cand z R len j n → PickTo z R len j (n + 1) best) := Lib.hid fun h => HP.out.skip h
          have HTK : Hid (Cand z R len j n → (best = -1 ∨ ∃ x : Nat, best = x ∧ z x < z n) → PickTo z R len j (n + 1) n) := Lib.hid fun h h2 => HP.out.take h h2
          have HKP : Hid (∀ x : Nat, best = x → ¬ z x < z n → PickTo z R len j (n + 1) best) := Lib.hid fun x h h2 => by subst h; exact HP.out.keep h2
          have HCD : Hid (Cand z R len j n ↔ goneB R j n = false ∧ 0 < z n) := Lib.hid ⟨fun h => ⟨goneB_false.2 h.2.2, h.2.1⟩, fun h => ⟨hlt, h.2, goneB_false.1 h.1⟩⟩
          have hbest : best = -1 ∨ ∃ x : Nat, best = x ∧ x < n := by
            rcases HP.out with ⟨h, -⟩ | ⟨x, h, hx, -⟩
            · exact .inl h
            · exact .inr ⟨x, h, hx⟩
          clear HP
          cases hgv : goneB R j n with
          | true =>
            rw [hgv] at hgone
            have HN := Lib.hid (HSK.out (fun h => by have := (HCD.out.1 h).1; rw [hgv] at this; cases this))
            clear HSK HTK HKP HCD hgv hbest
            subst hd
            go_wp2_with fail
            go_quiet (fail)
            go_wp2_with fail
            go_roundw
            case rel => exact ⟨n + 1, by omega, by go_num, best, rfl, HN, _, rfl⟩
            case measure => simp [intOf]; omega
          | false =>
            rw [hgv] at hgone
            by_cases hz : 0 < z n
            · have d1 : decide (0 < z n) = true := by simpa using hz
              have HCN := Lib.hid (HCD.out.2 ⟨hgv, hz⟩)
              clear HSK HCD hgv
              rcases hbest with rfl | ⟨x, rfl, hx⟩
              · have HN := Lib.hid (HTK.out HCN.out (.inl rfl))
                clear HTK HKP
                subst hd
                go_wp2_with fail
                go_quiet (fail)
                go_wp2_with fail
                go_roundw
                case rel => exact ⟨n + 1, by omega, by go_num, n, rfl, HN, _, rfl⟩
                case measure => simp [intOf]; omega
              · obtain ⟨b', off', e, hb', hcellx, -⟩ := HC.out x (by omega)
                cases e
                have hcellx : w5.cell? ⟨b, off + x, none⟩ = some (.int .i64 (z x)) := by
                  rw [HBE.out.cell (p := ⟨b, off + x, none⟩) (by have := HG.out; show b < G; omega)]; exact hcellx
                have x0 : (0 : Int) ≤ (x : Int) := by omega
                have x1 : (x : Int) < (len : Int) := by omega
                have x2 : decide ((x : Int) < 0) = false := by simp
                by_cases hzx : z x < z n
                · have d2 : decide (z x < z n) = true := by simpa using hzx
                  have HN := Lib.hid (HTK.out HCN.out (.inr ⟨x, rfl, hzx⟩))
                  clear HTK HKP
                  subst hd
                  go_wp2_with fail
                  go_quiet (fail)
                  go_wp2_with fail
                  go_roundw
                  case rel => exact ⟨n + 1, by omega, by go_num, n, rfl, HN, _, rfl⟩
                  case measure => simp [intOf]; omega
                · have d2 : decide (z x < z n) = false := by simpa using hzx
                  have HN := Lib.hid (HKP.out x rfl hzx)
                  clear HTK HKP
                  subst hd
                  go_wp2_with fail
                  go_quiet (fail)
                  go_wp2_with fail
                  go_roundw
                  case rel => exact ⟨n + 1, by omega, by go_num, x, rfl, HN, _, rfl⟩
                  case measure => simp [intOf]; omega
            · have d1 : decide (0 < z n) = false := by simpa using hz
              have HN := Lib.hid (HSK.out (fun h => hz (HCD.out.1 h).2))
              clear HSK HTK HKP HCD hgv hbest hz
              subst hd
              go_wp2_with fail
              go_quiet (fail)
              go_wp2_with fail
              go_roundw
              case rel => exact ⟨n + 1, by omega, by go_num, best, rfl, HN, _, rfl⟩
              case measure => simp [intOf]; omega
        · obtain rfl : n = len := by omega
          subst hd
          rcases HP.out.end_ HBB.out hj with ⟨rfl, rfl⟩ | ⟨rfl, hjm⟩
          · go_wp2_with fail
            go_ret
            have hK : cutK k j = j := by unfold cutK; rw [if_neg (by omega), if_neg (by omega)]
            exact ⟨aa, cc, by rw [hK]; rfl, by rw [← HG.out]; exact HBE.out.trans ⟨rfl, rfl, rfl, Nat.le_refl _, fun _ _ => rfl⟩, by rw [hK]; exact HLA.out.below ⟨rfl, rfl, rfl, Nat.le_refl _, fun _ _ => rfl⟩⟩
          · have hrl := (HBB.out.into j hjm).1
            have hg0 := HGN.out.cell (R j) hrl
            have hgf := HGN.out.free (R j)
            have r0 : (0 : Int) ≤ ((R j : Nat) : Int) := by omega
            have r1 : ((R j : Nat) : Int) < (n : Int) := by omega
            have r2 : decide (((R j : Nat) : Int) < 0) = false := by simp
            have HG2 : Hid (GoneAt ((w5.drewN d).setCell ⟨G, R j, none⟩ (.bool true)) G n (goneB R (j + 1))) := Lib.hid (GoneAt.set (HGN.out.keep (Nat.le_refl _) rfl))
            have HF := Lib.hid (firstR_succ R j)
            clear HP
            generalize R j = x at *
            go_upto_region 13 with fail
            obtain ⟨w6, hw6⟩ : ∃ y, y = (w5.drewN d).setCell ⟨G, x, none⟩ (.bool true) := ⟨_, rfl⟩
            rw [← hw6] at HG2 ⊢
            have HO6 : Hid (w6.ownsRow (G + 1) 3 1 (.slice aa j cc) j (lineVals (firstR R j))) := Lib.hid (own_keepF HO.out fun t h1 _ => by rw [hw6]; exact heap_setCell_ne _ _ _ _ (by show t ≠ G; omega))
            have HB6 : Hid (Below G w w6) := Lib.hid (by rw [hw6]; have hd : Below G w (w5.drewN d) := HBE.out.trans ⟨rfl, rfl, rfl, Nat.le_refl _, fun _ _ => rfl⟩; exact hd.setCell (p := ⟨G, x, none⟩) (Nat.le_refl _) _)
            have hG6 : G + 1 ≤ w6.heap.size := HG2.out.lt
            clear hw6 HO HGN HBE HLA hg0 hgf
            go_wp2_with (at_builtin; refine wpList_push rfl (.tmp 56) (.tmp 58) 37 rfl (G + 1) 3 i3 (.int .i64 0) 1 8 Try.underlying37 hi hz0 hz1 hz2 rfl (by decide) w6 hG6 (.slice aa j cc) j (lineVals (firstR R j)) rfl HO6.out #[.int .i64 x] 1 1 rfl rfl (by simp [Value.oneCell']) (by unfold maxLen; omega) (by omega) ?_; intro v' w7 hown hgr hbel hne; have HO7 := Lib.hid hown; have HB7 := Lib.hid (hbel G w HB6.out (by omega)); have HB67 := Lib.hid (hbel (G + 1) w6 (Below.refl _ _) (Nat.le_refl _)); clear hown hgr hbel hne)
            obtain ⟨a7, c7, e7, -⟩ := lines_of_own (R := R) (j := j + 1) (by have := HO7.out; rw [HF.out, lineVals_append]; exact this)
            subst e7
            go_roundw
            case rel => exact ⟨j + 1, by omega, by omega, Lib.hid (by have := HO7.out; rw [HF.out, lineVals_append]; exact this), Lib.hid (HG2.out.keep HB67.out.size (HB67.out.block G (by omega))), HB7⟩
            case measure => simp only [lenV]; omega
    · have b1 : decide ((j : Int) < k) = false := by simp; omega
      go_wp2_with fail
      go_ret
      have hK : cutK k m = j := by unfold cutK; split; omega; split <;> omega
      exact ⟨aa, cc, by rw [hK]; rfl, by rw [← HG.out]; exact HBE.out, by rw [hK]; exact HLA.out⟩
end Go.Proofs.Ytfjddkjfkgdihaa
