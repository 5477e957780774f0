/- Layers 3, 4, 38: what is seen, kept; words that are alike.
   Layer 7's law: a memory as the document has it. -/
import Derived.Test.YtpmjcinemabamaaK6
import Derived.Deep.RegionHeld3
import Derived.IntWalk
namespace Go.Proofs.Ytpmjcinemabamaa
open Go.RowKit Go.BigFrame
set_option linter.unusedVariables false
set_option linter.unusedSimpArgs false

theorem row_of_own42 {w : World} {X n g cap : Nat} {f : Nat → Int} (h : w.ownsRow X 42 1 (.slice (some ⟨g, 0, none⟩) n cap) n (wordsL f n)) (hn : 0 < n) : RowAt w g n fun k => .int .u64 (f k) := by
  obtain ⟨g', cap', c, e1, hb, hg, hc1, hcs, hcc⟩ := own_row h hn
  cases e1
  exact ⟨c, 42, hg, fun k hk => by rw [hcc k (by omega)]; exact wordsL_get f _ k hk⟩
/-- New words, told by their row. -/
def WordsTo (f : Nat → Int) (n : Nat) (W : World) (e : Ending) (W' : World) : Prop := ∃ g c, e = .returned (.slice (some ⟨g, 0, none⟩) n c) ∧ Below W.heap.size W W' ∧ RowAt W' g n (fun k => .int .u64 (f k)) ∧ W.heap.size ≤ g
theorem NewWords.to {f : Nat → Int} {n : Nat} {W W' : World} {e : Ending} (h : NewWords f n W e W') (hn : 0 < n) : WordsTo f n W e W' := by
  obtain ⟨v, rfl, hb, ho⟩ := h
  obtain ⟨g, cap, c, rfl, hg, -⟩ := own_row ho hn
  exact ⟨g, cap, rfl, hb, row_of_own42 ho hn, hg⟩
theorem seen24M (M : Mv) (W : World) (h : MemAt W M) : Calls Try.prog 24 #[.pointer (some ⟨M.d, 0, none⟩)] W (WordsTo M.seen (8 * M.n) W) := by
  have hd := (dev_cells h.dev).2.1
  have HW := Lib.hid ((words42 M.sb M.n M.c1 h.n1 M.seen W h.seen).mono fun e w hw => hw.to (by have := h.n0; omega))
  clear h
  generalize 8 * M.n = N at *
  go_enter Try.func24, Try.ntmps24
  go_wp2_with fail
  with_reducible refine HW.out.mono ?_
  rintro e w ⟨g, c, rfl, hb, hr, hg⟩
  have H := Lib.hid (And.intro hb (And.intro hr hg))
  clear hb hr hg
  go_wp2_with fail
  go_ret
  exact ⟨g, c, rfl, H.out.1, H.out.2⟩
theorem kept28M (M : Mv) (W : World) (h : MemAt W M) : Calls Try.prog 28 #[.pointer (some ⟨M.d, 0, none⟩)] W (WordsTo M.kept (8 * M.n) W) := by
  have hd := (dev_cells h.dev).1
  have HW := Lib.hid ((words42 M.kb M.n M.c0 h.n1 M.kept W h.kept).mono fun e w hw => hw.to (by have := h.n0; omega))
  clear h
  generalize 8 * M.n = N at *
  go_enter Try.func28, Try.ntmps28
  go_wp2_with fail
  with_reducible refine HW.out.mono ?_
  rintro e w ⟨g, c, rfl, hb, hr, hg⟩
  have H := Lib.hid (And.intro hb (And.intro hr hg))
  clear hb hr hg
  go_wp2_with fail
  go_ret
  exact ⟨g, c, rfl, H.out.1, H.out.2⟩
theorem words8M (M : Mv) (W : World) (h : MemAt W M) : Calls Try.prog 8 #[.pointer (some ⟨M.m, 0, none⟩)] W (WordsTo M.seen (8 * M.n) W) := by
  have HD := Lib.hid (device23 M.m M.d W (row10 h.row).1)
  have HS := Lib.hid (seen24M M W h)
  clear h
  generalize 8 * M.n = N at *
  go_enter Try.func8, Try.ntmps8
  go_wp2_with fail
  with_reducible refine HD.out.mono ?_
  rintro e w' ⟨rfl, hw⟩
  cases hw
  go_wp2_with fail
  with_reducible refine HS.out.mono ?_
  rintro e w ⟨g, c, rfl, hb, hr, hg⟩
  have H := Lib.hid (And.intro hb (And.intro hr hg))
  clear hb hr hg
  go_wp2_with fail
  go_ret
  exact ⟨g, c, rfl, H.out.1, H.out.2⟩
theorem same12M (g h n ca cb : Nat) (hn : n ≤ 2097152) (f f' : Nat → Int) (W : World) (h1 : RowAt W g n fun k => .int .u64 (f k)) (h2 : RowAt W h n fun k => .int .u64 (f' k)) (e : ∀ k, k < n → f k = f' k) :
    Calls Try.prog 12 #[.slice (some ⟨g, 0, none⟩) n ca, .slice (some ⟨h, 0, none⟩) n cb] W (Gives (.bool true) W) := by
  exact same12 _ _ n ca cb hn f W fun _ => ⟨g, h, rfl, rfl, h1.lt, h2.lt, fun j hj => ⟨h1.cell hj, by rw [e j hj]; exact h2.cell hj⟩⟩
end Go.Proofs.Ytpmjcinemabamaa

namespace Go.Proofs.Ytpmjcinemabamaa
open Go.RowKit Go.BigFrame
set_option linter.unusedVariables false
set_option linter.unusedSimpArgs false

set_option maxRecDepth 100000 in
set_option maxHeartbeats 4000000 in
theorem same11 (M : Mv) (R : Rv) (W : World) (hM : MemAt W M) (hR : RefAt W R) (hA : Alike M R) :
    Calls Try.prog 11 #[.pointer (some ⟨M.m, 0, none⟩), .pointer (some ⟨R.m, 0, none⟩)] W (Gives (.bool true) W) := by
  obtain ⟨V, hV⟩ : ∃ V, V = W.heap.size := ⟨_, rfl⟩
  have le : ∀ {w : World}, Below V W w → V ≤ w.heap.size := fun h => by rw [hV]; exact h.size
  have M20 : Hid (∀ w, Below V W w → Calls Try.prog 20 #[.pointer (some ⟨M.m, 0, none⟩)] w (fun e w' => e = .returned (.int .i64 M.ck) ∧ Below V W w')) := Lib.hid fun w hw => (clock20M M w (hM.below (hV ▸ hw))).mono fun e w' ⟨h1, h2⟩ => ⟨h1, by rw [h2]; exact hw⟩
  have M27 : Hid (∀ w, Below V W w → Calls Try.prog 27 #[.pointer (some ⟨M.m, 0, none⟩)] w (fun e w' => e = .returned (.int .i64 M.bd) ∧ Below V W w')) := Lib.hid fun w hw => (bad27 M.m M.bd w (row10 (hM.below (hV ▸ hw)).row).2.2.2.1).mono fun e w' ⟨h1, h2⟩ => ⟨h1, by rw [h2]; exact hw⟩
  have M22 : Hid (∀ w, Below V W w → Calls Try.prog 22 #[.pointer (some ⟨M.m, 0, none⟩)] w (fun e w' => e = .returned (.agg M.la.cells) ∧ Below V W w')) := Lib.hid fun w hw => (last22M M w (hM.below (hV ▸ hw))).mono fun e w' ⟨h1, h2⟩ => ⟨h1, hw.trans (h2.mono (le hw))⟩
  have M23 : Hid (∀ w, Below V W w → Calls Try.prog 23 #[.pointer (some ⟨M.m, 0, none⟩)] w (fun e w' => e = .returned (.pointer (some ⟨M.d, 0, none⟩)) ∧ Below V W w')) := Lib.hid fun w hw => (device23 M.m M.d w (row10 (hM.below (hV ▸ hw)).row).1).mono fun e w' ⟨h1, h2⟩ => ⟨h1, by rw [h2]; exact hw⟩
  have M24 : Hid (∀ w, Below V W w → Calls Try.prog 24 #[.pointer (some ⟨M.d, 0, none⟩)] w (fun e w' => ∃ g c, e = .returned (.slice (some ⟨g, 0, none⟩) (8 * M.n) c) ∧ Below V W w' ∧ RowAt w' g (8 * M.n) (fun k => .int .u64 (M.seen k)))) := Lib.hid fun w hw => (seen24M M w (hM.below (hV ▸ hw))).mono fun e w' ⟨g, c, h1, h2, h3, _⟩ => ⟨g, c, h1, hw.trans (h2.mono (le hw)), h3⟩
  have M28 : Hid (∀ w, Below V W w → Calls Try.prog 28 #[.pointer (some ⟨M.d, 0, none⟩)] w (fun e w' => ∃ g c, e = .returned (.slice (some ⟨g, 0, none⟩) (8 * M.n) c) ∧ Below V W w' ∧ RowAt w' g (8 * M.n) (fun k => .int .u64 (M.kept k)))) := Lib.hid fun w hw => (kept28M M w (hM.below (hV ▸ hw))).mono fun e w' ⟨g, c, h1, h2, h3, _⟩ => ⟨g, c, h1, hw.trans (h2.mono (le hw)), h3⟩
  have M12s : Hid (∀ g c w, Below V W w → RowAt w g (8 * M.n) (fun k => .int .u64 (M.seen k)) → Calls Try.prog 12 #[.slice (some ⟨g, 0, none⟩) (8 * M.n) c, .slice (some ⟨R.sb, 0, none⟩) (8 * M.n) R.c1] w (fun e w' => e = .returned (.bool true) ∧ Below V W w')) := Lib.hid fun g c w hw h => by
    have hs := (hR.below (hV ▸ hw)).seen
    rw [← hA.n] at hs
    exact (same12M g R.sb _ c R.c1 (by have := hM.n1; omega) M.seen R.seen w h hs hA.seen).mono fun e w' ⟨h1, h2⟩ => ⟨h1, hw.trans (h2.mono (le hw))⟩
  have M12k : Hid (∀ g c w, Below V W w → RowAt w g (8 * M.n) (fun k => .int .u64 (M.kept k)) → Calls Try.prog 12 #[.slice (some ⟨g, 0, none⟩) (8 * M.n) c, .slice (some ⟨R.kb, 0, none⟩) (8 * M.n) R.c0] w (fun e w' => e = .returned (.bool true) ∧ Below V W w')) := Lib.hid fun g c w hw h => by
    have hs := (hR.below (hV ▸ hw)).kept
    rw [← hA.n] at hs
    exact (same12M g R.kb _ c R.c0 (by have := hM.n1; omega) M.kept R.kept w h hs hA.kept).mono fun e w' ⟨h1, h2⟩ => ⟨h1, hw.trans (h2.mono (le hw))⟩
  have M29 : Hid (∀ (i : Nat) w, i < M.np → Below V W w → Calls Try.prog 29 #[.pointer (some ⟨M.m, 0, none⟩), .int .i64 (-1 - (i : Int))] w (fun e w' => e = .returned (.tuple #[.int .u64 (R.pass i), .bool true]) ∧ Below V W w')) := Lib.hid fun i w hi hw => by
    have hp := hM.p1
    have := peekM M (-1 - (i : Int)) (by omega) (by omega) w (hM.below (hV ▸ hw))
    have e : M.peek (-1 - (i : Int)) = (R.pass i, true) := by
      unfold Mv.peek peekV
      rw [if_neg (by omega), if_pos (by omega), show (-1 - (-1 - (i : Int))).toNat = i by omega, hA.pass i hi]
    rw [e] at this
    exact this.mono fun e w' ⟨h1, h2, _⟩ => ⟨h1, hw.trans (h2.mono (le hw))⟩
  obtain ⟨x0, x1, x2, x3, x4, x5, x6, x7, x8, x9, -⟩ := row10 hR.row
  obtain ⟨y0, y1, -, -⟩ := dev_cells hR.dev
  rw [← hA.ck] at x2
  rw [← hA.bd] at x3
  rw [← hA.la] at x4 x5 x6 x7 x8 x9
  rw [← hA.n] at y0 y1
  rw [← hA.np] at x1
  have q44 := fun w => neq44 M.la M.la w
  have eA : accB M.la M.la = true := (accB_iff _ _).2 rfl
  rw [eA] at q44
  have HP : Hid (∀ i, i < M.np → W.cell? ⟨R.pb, i, none⟩ = some (.int .u64 (R.pass i)) ∧ R.pb < V) := Lib.hid fun i hi => ⟨hR.pass.cell (by rw [← hA.np]; exact hi), by rw [hV]; exact hR.pass.lt⟩
  have HRV : Hid (R.m < V ∧ R.d < V) := Lib.hid (by rw [hV]; exact ⟨hR.lt (Or.inl (by simp [Rv.blocks])), hR.lt (Or.inl (by simp [Rv.blocks]))⟩)
  have hp1 := hM.p1
  have hn1 := hM.n1
  have HV : Hid (Below V W W ∧ (∀ w, Below V W w → Below W.heap.size W w)) := Lib.hid ⟨Below.refl _ _, fun w h => hV ▸ h⟩
  clear hM hR hA hV eA le
  generalize M.la = la at *
  generalize M.ck = ck at *
  generalize M.bd = bd at *
  generalize M.seen = seen at *
  generalize M.kept = kept at *
  generalize R.pass = pass at *
  obtain ⟨N, hN⟩ : ∃ N, N = 8 * M.n := ⟨_, rfl⟩
  rw [← hN] at y0 y1 M24 M28 M12s M12k
  clear hN hn1
  obtain ⟨ki, th, pl, ol, ne, dn⟩ := la
  simp only [Acc.cells] at q44 M22
  generalize M.np = np at *
  generalize R.pb = pb at *
  generalize R.sb = sb at *
  generalize R.kb = kb at *
  generalize R.m = rm at *
  generalize R.d = rd at *
  generalize M.d = d at *
  generalize M.m = m at *
  go_enter Try.func11, Try.ntmps11
  go_wp2_with fail
  go_region_held3 (fun w' => w'.cell? ⟨rm, 0, none⟩ = some (.pointer (some ⟨rd, 0, none⟩)) ∧ w'.cell? ⟨rm, 2, none⟩ = some (.int .i64 ck) ∧ w'.cell? ⟨rm, 3, none⟩ = some (.int .i64 bd) ∧ w'.cell? ⟨rm, 4, none⟩ = some (.int .i64 ki) ∧ w'.cell? ⟨rm, 5, none⟩ = some (.int .i64 th) ∧ w'.cell? ⟨rm, 6, none⟩ = some (.int .i64 pl) ∧ w'.cell? ⟨rm, 7, none⟩ = some (.int .u64 ol) ∧ w'.cell? ⟨rm, 8, none⟩ = some (.int .u64 ne) ∧ w'.cell? ⟨rm, 9, none⟩ = some (.bool dn) ∧ w'.cell? ⟨rd, 0, none⟩ = some (.slice (some ⟨kb, 0, none⟩) N R.c0) ∧ w'.cell? ⟨rd, 1, none⟩ = some (.slice (some ⟨sb, 0, none⟩) N R.c1)) (go_keep) (first | (go_at_call 20; refine (M20.out _ (HV.out.1.drew)).mono ?_; rintro e w1 ⟨rfl, hb⟩; have q1 : ∀ o, w1.cell? ⟨rm, o, none⟩ = W.cell? ⟨rm, o, none⟩ := fun o => hb.cell (p := ⟨rm, o, none⟩) HRV.out.1; have q2 : ∀ o, w1.cell? ⟨rd, o, none⟩ = W.cell? ⟨rd, o, none⟩ := fun o => hb.cell (p := ⟨rd, o, none⟩) HRV.out.2; have HNOW := Lib.hid hb; clear hb) | (go_at_call 27; refine (M27.out _ HNOW.out).mono ?_; rintro e w2 ⟨rfl, hb⟩; have q1 : ∀ o, w2.cell? ⟨rm, o, none⟩ = W.cell? ⟨rm, o, none⟩ := fun o => hb.cell (p := ⟨rm, o, none⟩) HRV.out.1; have q2 : ∀ o, w2.cell? ⟨rd, o, none⟩ = W.cell? ⟨rd, o, none⟩ := fun o => hb.cell (p := ⟨rd, o, none⟩) HRV.out.2; have HNOW := Lib.hid hb; clear hb) | (go_at_call 22; refine (M22.out _ HNOW.out).mono ?_; rintro e w3 ⟨rfl, hb⟩; have q1 : ∀ o, w3.cell? ⟨rm, o, none⟩ = W.cell? ⟨rm, o, none⟩ := fun o => hb.cell (p := ⟨rm, o, none⟩) HRV.out.1; have q2 : ∀ o, w3.cell? ⟨rd, o, none⟩ = W.cell? ⟨rd, o, none⟩ := fun o => hb.cell (p := ⟨rd, o, none⟩) HRV.out.2; have HNOW := Lib.hid hb; clear hb) | (go_at_call 23; refine (M23.out _ HNOW.out).mono ?_; rintro e w4 ⟨rfl, hb⟩; have q1 : ∀ o, w4.cell? ⟨rm, o, none⟩ = W.cell? ⟨rm, o, none⟩ := fun o => hb.cell (p := ⟨rm, o, none⟩) HRV.out.1; have q2 : ∀ o, w4.cell? ⟨rd, o, none⟩ = W.cell? ⟨rd, o, none⟩ := fun o => hb.cell (p := ⟨rd, o, none⟩) HRV.out.2; have HNOW := Lib.hid hb; clear hb) | (go_at_call 24; refine (M24.out _ HNOW.out).mono ?_; rintro e w5 ⟨g, c, rfl, hb, hr⟩; have HRS := Lib.hid hr; clear hr; have q1 : ∀ o, w5.cell? ⟨rm, o, none⟩ = W.cell? ⟨rm, o, none⟩ := fun o => hb.cell (p := ⟨rm, o, none⟩) HRV.out.1; have q2 : ∀ o, w5.cell? ⟨rd, o, none⟩ = W.cell? ⟨rd, o, none⟩ := fun o => hb.cell (p := ⟨rd, o, none⟩) HRV.out.2; have HNOW := Lib.hid hb; clear hb) | (go_at_call 28; refine (M28.out _ HNOW.out).mono ?_; rintro e w6 ⟨g2, c2, rfl, hb, hr⟩; have HRK := Lib.hid hr; clear hr; have q1 : ∀ o, w6.cell? ⟨rm, o, none⟩ = W.cell? ⟨rm, o, none⟩ := fun o => hb.cell (p := ⟨rm, o, none⟩) HRV.out.1; have q2 : ∀ o, w6.cell? ⟨rd, o, none⟩ = W.cell? ⟨rd, o, none⟩ := fun o => hb.cell (p := ⟨rd, o, none⟩) HRV.out.2; have HNOW := Lib.hid hb; clear hb) | (go_at_call 12; (first | (with_reducible refine (M12s.out _ _ _ HNOW.out HRS.out).mono ?_) | (with_reducible refine (M12k.out _ _ _ HNOW.out HRK.out).mono ?_)); rintro e w7 ⟨rfl, hb⟩; have q1 : ∀ o, w7.cell? ⟨rm, o, none⟩ = W.cell? ⟨rm, o, none⟩ := fun o => hb.cell (p := ⟨rm, o, none⟩) HRV.out.1; have q2 : ∀ o, w7.cell? ⟨rd, o, none⟩ = W.cell? ⟨rd, o, none⟩ := fun o => hb.cell (p := ⟨rd, o, none⟩) HRV.out.2; have HNOW := Lib.hid hb; clear hb))
  go_wp2_with fail
  go_loopw [5] (fun i wr => ∃ k : Nat, k ≤ np ∧ i = .int .i64 k ∧ Hid (Below V W wr)) (fun i _ => np - (intOf i).toNat)
  case atStart => exact ⟨0, Nat.zero_le _, rfl, HNOW⟩
  case round =>
    obtain ⟨k, hk, rfl, HB⟩ := hrel
    have k0 : wr.cell? ⟨rm, 0, none⟩ = some (.pointer (some ⟨rd, 0, none⟩)) := (HB.out.cell (p := ⟨rm, 0, none⟩) HRV.out.1).trans x0
    have k1 : wr.cell? ⟨rm, 1, none⟩ = some (.slice (some ⟨pb, 0, none⟩) np R.c4) := (HB.out.cell (p := ⟨rm, 1, none⟩) HRV.out.1).trans x1
    by_cases hlt : k < np
    · have e1 : decide ((k : Int) < (np : Int)) = true := bool_yes (by omega)
      have i0 : (0 : Int) ≤ (k : Int) := by omega
      have i1 : (k : Int) < (np : Int) := by omega
      have i2 : wrap64 (-1 - (k : Int)) = -1 - (k : Int) := by unfold wrap64; omega
      have HC := Lib.hid (M29.out k wr hlt HB.out)
      have HPK := Lib.hid (HP.out k hlt)
      generalize pass k = v at *
      go_wp2_with fail
      with_reducible refine HC.out.mono ?_
      rintro e wq ⟨rfl, hb⟩
      have g1 : wq.cell? ⟨rm, 1, none⟩ = some (.slice (some ⟨pb, 0, none⟩) np R.c4) := (hb.cell (p := ⟨rm, 1, none⟩) HRV.out.1).trans x1
      have g2 : wq.cell? ⟨pb, k, none⟩ = some (.int .u64 v) := (hb.cell (p := ⟨pb, k, none⟩) HPK.out.2).trans HPK.out.1
      have HB2 := Lib.hid hb
      clear hb
      go_wp2_with fail
      go_roundw
      case rel => exact ⟨k + 1, by omega, by go_num, HB2⟩
      case measure => simp [intOf]; omega
    · obtain rfl : k = np := by omega
      have e1 : decide ((k : Int) < (k : Int)) = false := by simp
      go_wp2_with fail
      go_ret
      exact ⟨rfl, HV.out.2 _ HB.out⟩
end Go.Proofs.Ytpmjcinemabamaa
