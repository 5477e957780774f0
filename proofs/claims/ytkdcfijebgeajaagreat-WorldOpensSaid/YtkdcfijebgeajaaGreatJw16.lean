/- Layer 23 (world): the law WorldOpens, in parts (printed by w1.py).
   Layer 23 (world): the law WorldOpens, of no config (printed by w1.py). -/
import Derived.Test.YtkdcfijebgeajaaGreatJw14
import Derived.Test.YtkdcfijebgeajaaGreatJw11
import Derived.Test.YtkdcfijebgeajaaGreatJw12
import Derived.Test.YtkdcfijebgeajaaGreatJw10
import Derived.Test.YtkdcfijebgeajaaGreatJw15
import Derived.Deep.RegionHeld3
import Derived.Sort.CutIn
import Derived.WalkSmall
namespace Go.Proofs.YtkdcfijebgeajaaGreat
open Go.RowKit Go.BigFrame
set_option linter.unusedVariables false
set_option linter.unusedSimpArgs false
structure WordsIn (W : World) (f : Nat → Nat) (a : Option Addr) (b off n cap : Nat) : Prop where
  at_ : 8 ≤ n → a = some ⟨b, off, none⟩
  le : n ≤ cap
  cap : cap ≤ 9223372036854775807
  lt : 0 < n → b < W.heap.size
  cell : ∀ j, j < n → W.cell? ⟨b, off + j, none⟩ = some (.int .u64 (f j : Nat))
theorem WordsIn.below {W W' : World} {f : Nat → Nat} {a : Option Addr} {b off n cap : Nat} (h : WordsIn W f a b off n cap) (hb : Below W.heap.size W W') : WordsIn W' f a b off n cap :=
  ⟨h.at_, h.le, h.cap, fun k => Nat.lt_of_lt_of_le (h.lt k) hb.size, fun j hj => (hb.cell (p := ⟨b, off + j, none⟩) (h.lt (by omega))).trans (h.cell j hj)⟩
theorem may27_any (f : Nat → Nat) (a : Option Addr) (b off n cap : Nat) (hn : n ≤ 300) (w : World) (h : WordsIn w f a b off n cap) : Calls Tryz.prog 27 #[.slice a n cap] w (MayTo f n w) := by
  by_cases hno : n % 8 ≠ 0 ∨ n < 16
  · exact may27_no f a n cap hn hno w
  · rw [h.at_ (by omega)]
    exact may27_yes f b off n cap hn (by omega) (by omega) h.le w (h.lt (by omega)) h.cell
set_option maxRecDepth 100000 in
theorem law5_many (HA : Hid (Awake Tryz.prog 16)) (th sl lo bu : Int) (hr : (⟨th, sl, lo, bu⟩ : Cfg).right) (hf : ¬ (⟨th, sl, lo, bu⟩ : Cfg).few) (a : Option Addr) (n cap : Nat) (W : World) : Calls Tryz.prog 5 #[.agg #[.int .i64 th, .int .i64 sl, .int .i64 lo, .int .i64 bu], .slice a n cap] W (Gives (.bool true) W) := by
  have HR : Hid (∀ w, Calls Tryz.prog 24 #[.agg #[.int .i64 th, .int .i64 sl, .int .i64 lo, .int .i64 bu]] w (BoolOn true w)) := Lib.hid fun w => by
    have h := refRight_any ⟨th, sl, lo, bu⟩ w
    rw [decide_eq_true hr] at h; exact h
  have HF : Hid (∀ w, Calls Tryz.prog 8 #[.agg #[.int .i64 th, .int .i64 sl, .int .i64 lo, .int .i64 bu]] w (BoolOn false w)) := Lib.hid fun w => by
    have h := few57 ⟨th, sl, lo, bu⟩ w
    rw [decide_eq_false hf] at h; exact h
  clear hr hf
  have HB0 : Hid (Below W.heap.size W (W.alloc (.cells #[.int .i64 th, .int .i64 sl, .int .i64 lo, .int .i64 bu] 23))) := Lib.hid ((Below.refl _ _).alloc (Nat.le_refl _) _)
  go_enter Tryz.func5, Tryz.ntmps5
  go_wp2_with (first
    | (go_at_call 24; refine (HR.out _).mono ?_; rintro e w1 ⟨rfl, hb⟩; have HB1 := Lib.hid (HB0.out.trans (hb.mono HB0.out.size)); have q : ∀ j, w1.cell? ⟨W.heap.size, j, none⟩ = (W.alloc (.cells #[.int .i64 th, .int .i64 sl, .int .i64 lo, .int .i64 bu] 23)).cell? ⟨W.heap.size, j, none⟩ := (fun j => hb.cell (p := ⟨W.heap.size, j, none⟩) (by simp)); have q0 := (q 0).trans (cell_alloc W _ 23 0 _ rfl); have q1 := (q 1).trans (cell_alloc W _ 23 1 _ rfl); have q2 := (q 2).trans (cell_alloc W _ 23 2 _ rfl); have q3 := (q 3).trans (cell_alloc W _ 23 3 _ rfl); clear q hb)
    | (go_at_call 8; refine (HF.out _).mono ?_; rintro e w2 ⟨rfl, hb⟩; have HB2 := Lib.hid (HB1.out.trans (hb.mono HB1.out.size)); clear hb)
    | (go_at_call 16; refine (HA.out _).mono ?_; rintro e w3 ⟨rfl, hb⟩; have HB3 := Lib.hid (HB2.out.trans (hb.mono HB2.out.size)); clear hb))
  go_ret
  exact ⟨rfl, HB3.out⟩
set_option maxRecDepth 100000 in
theorem law5_long (HA : Hid (Awake Tryz.prog 16)) (th sl lo bu : Int) (hfr : ¬ ((⟨th, sl, lo, bu⟩ : Cfg).right ∧ ¬ (⟨th, sl, lo, bu⟩ : Cfg).few)) (a : Option Addr) (n cap : Nat) (hn : 300 < n) (W : World) : Calls Tryz.prog 5 #[.agg #[.int .i64 th, .int .i64 sl, .int .i64 lo, .int .i64 bu], .slice a n cap] W (Gives (.bool true) W) := by
  obtain ⟨rt, hrt⟩ : ∃ rt, rt = decide (⟨th, sl, lo, bu⟩ : Cfg).right := ⟨_, rfl⟩
  have HR : Hid (∀ w, Calls Tryz.prog 24 #[.agg #[.int .i64 th, .int .i64 sl, .int .i64 lo, .int .i64 bu]] w (BoolOn rt w)) := Lib.hid fun w => by
    have h := refRight_any ⟨th, sl, lo, bu⟩ w
    rw [← hrt] at h; exact h
  have HF : Hid (rt = true → ∀ w, Calls Tryz.prog 8 #[.agg #[.int .i64 th, .int .i64 sl, .int .i64 lo, .int .i64 bu]] w (BoolOn true w)) := Lib.hid fun k w => by
    have h := few57 ⟨th, sl, lo, bu⟩ w
    have hf : (⟨th, sl, lo, bu⟩ : Cfg).few := by
      have hr := of_decide_eq_true (hrt.symm.trans k)
      exact Classical.byContradiction fun h => hfr ⟨hr, h⟩
    rw [decide_eq_true hf] at h; exact h
  have d1 : decide ((300 : Int) < (n : Int)) = true := decide_eq_true (by omega)
  have d2 : decide (300 < n) = true := decide_eq_true hn
  have HB0 : Hid (Below W.heap.size W (W.alloc (.cells #[.int .i64 th, .int .i64 sl, .int .i64 lo, .int .i64 bu] 23))) := Lib.hid ((Below.refl _ _).alloc (Nat.le_refl _) _)
  clear hfr hrt hn
  cases rt
  case false =>
    clear HF
    go_enter Tryz.func5, Tryz.ntmps5
    go_wp2_with (first
      | (go_at_call 24; refine (HR.out _).mono ?_; rintro e w1 ⟨rfl, hb⟩; have HB1 := Lib.hid (HB0.out.trans (hb.mono HB0.out.size)); clear hb)
      | (go_at_call 16; refine (HA.out _).mono ?_; rintro e w3 ⟨rfl, hb⟩; have HB3 := Lib.hid (HB1.out.trans (hb.mono HB1.out.size)); clear hb))
    go_ret
    exact ⟨rfl, HB3.out⟩
  case true =>
    have HF2 := Lib.hid (HF.out rfl)
    clear HF
    go_enter Tryz.func5, Tryz.ntmps5
    go_wp2_with (first
      | (go_at_call 24; refine (HR.out _).mono ?_; rintro e w1 ⟨rfl, hb⟩; have HB1 := Lib.hid (HB0.out.trans (hb.mono HB0.out.size)); have q : ∀ j, w1.cell? ⟨W.heap.size, j, none⟩ = (W.alloc (.cells #[.int .i64 th, .int .i64 sl, .int .i64 lo, .int .i64 bu] 23)).cell? ⟨W.heap.size, j, none⟩ := (fun j => hb.cell (p := ⟨W.heap.size, j, none⟩) (by simp)); have q0 := (q 0).trans (cell_alloc W _ 23 0 _ rfl); have q1 := (q 1).trans (cell_alloc W _ 23 1 _ rfl); have q2 := (q 2).trans (cell_alloc W _ 23 2 _ rfl); have q3 := (q 3).trans (cell_alloc W _ 23 3 _ rfl); clear q hb)
      | (go_at_call 8; refine (HF2.out _).mono ?_; rintro e w2 ⟨rfl, hb⟩; have HB2 := Lib.hid (HB1.out.trans (hb.mono HB1.out.size)); clear hb)
      | (go_at_call 16; refine (HA.out _).mono ?_; rintro e w3 ⟨rfl, hb⟩; have HB3 := Lib.hid (HB2.out.trans (hb.mono HB2.out.size)); clear hb))
    go_ret
    exact ⟨rfl, HB3.out⟩
end Go.Proofs.YtkdcfijebgeajaaGreat

namespace Go.Proofs.YtkdcfijebgeajaaGreat
open Go.RowKit Go.BigFrame
set_option linter.unusedVariables false
set_option linter.unusedSimpArgs false
set_option maxRecDepth 100000 in
set_option maxHeartbeats 4000000 in
theorem law5_no (HA : Hid (Awake Tryz.prog 16)) (th sl lo bu : Int) (hr : ¬ (⟨th, sl, lo, bu⟩ : Cfg).right) (f : Nat → Nat) (a : Option Addr) (b off n cap : Nat) (hn : n ≤ 300) (W : World) (hw : WordsIn W f a b off n cap) : Calls Tryz.prog 5 #[.agg #[.int .i64 th, .int .i64 sl, .int .i64 lo, .int .i64 bu], .slice a n cap] W (Gives (.bool true) W) := by
  have HR : Hid (∀ w, Calls Tryz.prog 24 #[.agg #[.int .i64 th, .int .i64 sl, .int .i64 lo, .int .i64 bu]] w (BoolOn false w)) := Lib.hid fun w => by
    have h := refRight_any ⟨th, sl, lo, bu⟩ w
    rw [decide_eq_false hr] at h; exact h
  have HFM : Hid (∀ w, Calls Tryz.prog 25 #[.agg #[.int .i64 th, .int .i64 sl, .int .i64 lo, .int .i64 bu]] w (Gives (.tuple #[.slice none 0 0, .int .i64 1]) w)) := Lib.hid fun w => format25_no ⟨th, sl, lo, bu⟩ hr w
  obtain ⟨er, her⟩ : ∃ er, er = errP f n := ⟨_, rfl⟩
  obtain ⟨Wa, hWa⟩ : ∃ Wa, Wa = W.alloc (.cells #[.int .i64 th, .int .i64 sl, .int .i64 lo, .int .i64 bu] 23) := ⟨_, rfl⟩
  have HWA := Lib.hid hWa
  have HBA : Hid (Below W.heap.size W Wa) := Lib.hid (by rw [hWa]; exact (Below.refl _ _).alloc (Nat.le_refl _) _)
  have HBX : Hid (∀ w, Below Wa.heap.size Wa w → w.cell? ⟨W.heap.size, 0, none⟩ = some (.int .i64 th) ∧ w.cell? ⟨W.heap.size, 1, none⟩ = some (.int .i64 sl) ∧ w.cell? ⟨W.heap.size, 2, none⟩ = some (.int .i64 lo) ∧ w.cell? ⟨W.heap.size, 3, none⟩ = some (.int .i64 bu)) := Lib.hid fun w hb => by
    have h0 : Wa.heap[W.heap.size]? = some (.cells #[.int .i64 th, .int .i64 sl, .int .i64 lo, .int .i64 bu] 23 (0, 0)) := by rw [hWa]; exact heap_alloc_new _ _
    have h := (hb.block _ (lt_row h0)).trans h0
    exact ⟨cell_row h 0 _ rfl, cell_row h 1 _ rfl, cell_row h 2 _ rfl, cell_row h 3 _ rfl⟩
  have HSZ : Hid (W.heap.size < Wa.heap.size) := Lib.hid (by rw [hWa]; simp)
  have HWI : Hid (∀ w, Below Wa.heap.size Wa w → WordsIn w f a b off n cap) := Lib.hid fun w hb => (hw.below HBA.out).below hb
  have HOP : Hid (∀ w, Below Wa.heap.size Wa w → Calls Tryz.prog 26 #[.slice a n cap] w fun e w' => (er ≠ 0 ∧ e = .returned (.tuple #[.pointer none, .int .i64 er]) ∧ Below w.heap.size w w') ∨ (er = 0 ∧ ∃ x X l M, e = .returned (.tuple #[.pointer (some ⟨X, 0, none⟩), .int .i64 0]) ∧ Below w.heap.size w w' ∧ WorldRow w' X l M.m ∧ LayAt w' l (⟨(x 1 : Nat), (x 2 : Nat), (x 3 : Nat), (x 4 : Nat)⟩ : Cfg).lv ∧ MemAt w' M ∧ pickP f (next8 f) = some x ∧ 8 * M.n = n ∧ ∀ j, M.kept j = (f j : Int))) := Lib.hid fun w hb => by
    have h := HWI.out w hb
    refine (open26_any f a b off n cap h.at_ (by omega) h.le h.cap w h.lt h.cell).mono fun e w' hh => ?_
    rcases hh with ⟨h1, h2, h3⟩ | ⟨h0, x, hp, hl, X, l, mm, d, kb, sb, wb, fb, pb, c0, c1, h1, h2, h3, h4, h5, h6⟩
    · exact .inl ⟨by rw [her]; exact h1, by rw [her]; exact h2, h3⟩
    · have h8 := (errP_ok h0).1
      unfold wholeE at h8
      refine .inr ⟨by rw [her]; exact h0, x, X, l, _, h1, h2, h4, h5, h6, hp, ?_, fun _ => rfl⟩
      show 8 * (n / 8) = n
      split at h8
      · cases h8
      · omega
  have HMY : Hid (∀ w, Below Wa.heap.size Wa w → Calls Tryz.prog 27 #[.slice a n cap] w fun e w' => ∃ c0 c1 c2 c3 : Int, e = .returned (.tuple #[.agg #[.int .i64 c0, .int .i64 c1, .int .i64 c2, .int .i64 c3], .int .i64 er]) ∧ Below w.heap.size w w' ∧ ∀ x, er = 0 → pickP f (next8 f) = some x → c0 = (x 1 : Nat) ∧ c1 = (x 2 : Nat) ∧ c2 = (x 3 : Nat) ∧ c3 = (x 4 : Nat)) := Lib.hid fun w hb => by
    rw [her]
    exact may27_any f a b off n cap hn w (HWI.out w hb)
  have HNB : Hid (n ≤ 2097152) := Lib.hid (by omega)
  have dn1 : decide ((300 : Int) < (n : Int)) = false := decide_eq_false (by omega)
  have dn2 : decide (300 < n) = false := decide_eq_false (by omega)
  clear hr her hWa hw hn
  go_enter Tryz.func5, Tryz.ntmps5
  go_wp2_with (first
    | (go_at_call 24; first | rw [← HWA.out] | skip; refine (HR.out _).mono ?_; rintro e w1 ⟨rfl, hb⟩; have HB1 : Hid (Below Wa.heap.size Wa w1) := Lib.hid hb; clear hb; obtain ⟨q0, q1, q2, q3⟩ := HBX.out _ HB1.out)
    | (go_at_call 25; refine (HFM.out _).mono ?_; rintro e w2 ⟨rfl, hb⟩; have HB2 : Hid (Below Wa.heap.size Wa w2) := Lib.hid (HB1.out.trans (hb.mono HB1.out.size)); clear hb q0 q1 q2 q3))
  have HTA : Hid (∀ w, Below Wa.heap.size Wa w → Below Wa.heap.size Wa w) := Lib.hid fun w h => h
  refine (HOP.out _ (HTA.out _ HB2.out)).mono ?_
  rintro e w3 (⟨hne, rfl, hb⟩ | ⟨h0, x, X, l, M, rfl, hb, hrow, hlay, hmem, hp, hnn, hk⟩)
  · have HB3 : Hid (Below Wa.heap.size Wa w3) := Lib.hid (HB2.out.trans (hb.mono HB2.out.size))
    clear hb
    have d1 : (er != 0) = true := by simp [hne]
    have d2 : (er == 0) = false := by simp [hne]
    go_upto_region 8 with (first
      | (go_at_call 27; refine (HMY.out _ (HTA.out _ HB3.out)).mono ?_; rintro e w4 ⟨c0, c1, c2, c3, rfl, hb, -⟩; have HB4 : Hid (Below Wa.heap.size Wa w4) := Lib.hid (HB3.out.trans (hb.mono HB3.out.size)); clear hb))
    obtain ⟨w5, h5⟩ : ∃ w5, w5 = w4.alloc (.cells #[.int .i64 c0, .int .i64 c1, .int .i64 c2, .int .i64 c3] 23) := ⟨_, rfl⟩
    have HB5 : Hid (Below Wa.heap.size Wa w5) := Lib.hid (by rw [h5]; exact HB4.out.alloc HB4.out.size _)
    rw [← h5]
    clear h5
    go_quiet (fail)
    go_upto_region 10 with fail
    generalize hz : w5.drewN _ = wz
    have HBZ : Hid (Below Wa.heap.size Wa wz) := Lib.hid (by rw [← hz]; exact below_drewN HB5.out _)
    clear hz d1 d2
    obtain ⟨q0, q1, q2, q3⟩ := HBX.out _ (HTA.out _ HBZ.out)
    go_wp2_with (first
      | (go_at_call 24; refine (HR.out _).mono ?_; rintro e wy ⟨rfl, hb⟩; have HBY : Hid (Below Wa.heap.size Wa wy) := Lib.hid (HBZ.out.trans (hb.mono HBZ.out.size)); clear hb)
      | (go_at_call 16; refine (HA.out _).mono ?_; rintro e wv ⟨rfl, hb⟩; have HBV : Hid (Below Wa.heap.size Wa wv) := Lib.hid (HBY.out.trans (hb.mono HBY.out.size)); clear hb))
    go_ret
    exact ⟨rfl, HBA.out.trans ((HTA.out _ HBV.out).mono HBA.out.size)⟩
  · subst h0
    have HB3 : Hid (Below Wa.heap.size Wa w3) := Lib.hid (HB2.out.trans (hb.mono HB2.out.size))
    have H3 := Lib.hid (And.intro hrow (And.intro hlay (And.intro hmem hk)))
    have HP := Lib.hid hp
    have HNN := Lib.hid hnn
    clear hb hrow hlay hmem hk hp hnn
    go_upto_region 8 with (first
      | (go_at_call 27; refine (HMY.out _ (HTA.out _ HB3.out)).mono ?_; rintro e w4 ⟨c0, c1, c2, c3, rfl, hb, hc⟩; obtain ⟨rfl, rfl, rfl, rfl⟩ := hc x (by first | rfl | trivial) HP.out; have HB4 : Hid (Below w3.heap.size w3 w4) := Lib.hid hb; clear hb hc))
    obtain ⟨y1, hy1⟩ : ∃ y1 : Int, y1 = ((x 1 : Nat) : Int) := ⟨_, rfl⟩
    obtain ⟨y2, hy2⟩ : ∃ y2 : Int, y2 = ((x 2 : Nat) : Int) := ⟨_, rfl⟩
    obtain ⟨y3, hy3⟩ : ∃ y3 : Int, y3 = ((x 3 : Nat) : Int) := ⟨_, rfl⟩
    obtain ⟨y4, hy4⟩ : ∃ y4 : Int, y4 = ((x 4 : Nat) : Int) := ⟨_, rfl⟩
    have HLA : Hid (LayAt w3 l (⟨y1, y2, y3, y4⟩ : Cfg).lv) := Lib.hid (by rw [hy1, hy2, hy3, hy4]; exact H3.out.2.1)
    rw [← hy1, ← hy2, ← hy3, ← hy4]
    clear hy1 hy2 hy3 hy4
    obtain ⟨w5, h5⟩ : ∃ w5, w5 = w4.alloc (.cells #[.int .i64 y1, .int .i64 y2, .int .i64 y3, .int .i64 y4] 23) := ⟨_, rfl⟩
    obtain ⟨b9, h9⟩ : ∃ b9, b9 = w4.heap.size := ⟨_, rfl⟩
    have HB35 : Hid (Below w3.heap.size w3 w5) := Lib.hid (by rw [h5]; exact HB4.out.alloc HB4.out.size _)
    have HB5 : Hid (Below Wa.heap.size Wa w5) := Lib.hid (HB3.out.trans (HB35.out.mono HB3.out.size))
    have hbx : w5.heap[b9]? = some (.cells #[.int .i64 y1, .int .i64 y2, .int .i64 y3, .int .i64 y4] 23 (0, 0)) := by rw [h5, h9]; exact heap_alloc_new _ _
    have HRV : Hid (b9 < w5.heap.size) := Lib.hid (lt_row hbx)
    have x0 := cell_row hbx 0 _ rfl
    have x1 := cell_row hbx 1 _ rfl
    have x2 := cell_row hbx 2 _ rfl
    have x3 := cell_row hbx 3 _ rfl
    rw [← h5, ← h9]
    clear h5 h9 hbx HB4
    have HR5 : Hid (WorldRow w5 X l M.m ∧ LayAt w5 l (⟨y1, y2, y3, y4⟩ : Cfg).lv ∧ MemAt w5 M) := Lib.hid (by
      obtain ⟨v4, v6, hr⟩ := H3.out.1
      exact ⟨⟨v4, v6, (HB35.out.block X (lt_row hr)).trans hr⟩, HLA.out.below HB35.out HLA.out.lt, H3.out.2.2.1.below HB35.out⟩)
    have HKP : Hid (∀ j, M.kept j = (f j : Int)) := Lib.hid H3.out.2.2.2
    have HX5 : Hid (∀ w, Below w5.heap.size w5 w → ∃ v4 v6, w.heap[X]? = some (.cells #[.pointer (some ⟨l, 0, none⟩), .pointer (some ⟨M.m, 0, none⟩), .int .i64 0, .pointer none, v4, .slice none 0 0, v6] 137 (0, 0))) := Lib.hid fun w h => by
      obtain ⟨v4, v6, hr⟩ := HR5.out.1
      exact ⟨v4, v6, (h.block X (lt_row hr)).trans hr⟩
    have HTR : Hid (∀ w w', Below w5.heap.size w5 w → Below w.heap.size w w' → Below w5.heap.size w5 w') := Lib.hid fun w w' h1 h2 => h1.trans (h2.mono h1.size)
    have K22 : Hid (∀ w, Below w5.heap.size w5 w → Calls Tryz.prog 22 #[.pointer (some ⟨X, 0, none⟩)] w (fun e w' => e = .returned (.pointer (some ⟨l, 0, none⟩)) ∧ Below w5.heap.size w5 w')) := Lib.hid fun w h => by
      obtain ⟨v4, v6, hr⟩ := HX5.out w h
      exact (layout22w X _ w (cell_row hr 0 _ rfl)).mono fun e w' hh => ⟨hh.1, by rw [hh.2]; exact h⟩
    have K23 : Hid (∀ w, Below w5.heap.size w5 w → Calls Tryz.prog 23 #[.pointer (some ⟨X, 0, none⟩)] w (fun e w' => e = .returned (.pointer (some ⟨M.m, 0, none⟩)) ∧ Below w5.heap.size w5 w')) := Lib.hid fun w h => by
      obtain ⟨v4, v6, hr⟩ := HX5.out w h
      exact (memory23w X _ w (cell_row hr 1 _ rfl)).mono fun e w' hh => ⟨hh.1, by rw [hh.2]; exact h⟩
    have K18 : Hid (∀ w, Below w5.heap.size w5 w → Calls Tryz.prog 18 #[.pointer (some ⟨X, 0, none⟩)] w (fun e w' => e = .returned (.bool false) ∧ Below w5.heap.size w5 w')) := Lib.hid fun w h => by
      obtain ⟨v4, v6, hr⟩ := HX5.out w h
      exact (up18w X w (cell_row hr 2 _ rfl)).mono fun e w' hh => ⟨hh.1, by rw [hh.2]; exact h⟩
    have K19 : Hid (∀ w, Below w5.heap.size w5 w → Calls Tryz.prog 19 #[.pointer (some ⟨X, 0, none⟩)] w (fun e w' => e = .returned (.bool false) ∧ Below w5.heap.size w5 w')) := Lib.hid fun w h => by
      obtain ⟨v4, v6, hr⟩ := HX5.out w h
      exact (corrupt19w X w (cell_row hr 2 _ rfl)).mono fun e w' hh => ⟨hh.1, by rw [hh.2]; exact h⟩
    have K20 : Hid (∀ w, Below w5.heap.size w5 w → Calls Tryz.prog 20 #[.pointer (some ⟨X, 0, none⟩)] w (fun e w' => e = .returned (.slice none 0 0) ∧ Below w5.heap.size w5 w')) := Lib.hid fun w h => by
      obtain ⟨v4, v6, hr⟩ := HX5.out w h
      exact (calls20w X w (cell_row hr 5 _ rfl)).mono fun e w' hh => ⟨hh.1, by rw [hh.2]; exact h⟩
    have K28 : Hid (∀ w, Below w5.heap.size w5 w → Calls Tryz.prog 28 #[.pointer (some ⟨l, 0, none⟩)] w (fun e w' => e = .returned (.agg #[.int .i64 y1, .int .i64 y2, .int .i64 y3, .int .i64 y4]) ∧ Below w5.heap.size w5 w')) := Lib.hid fun w h =>
      (config70 l _ w (HR5.out.2.1.below h HR5.out.2.1.lt)).mono fun e w' hh => ⟨hh.1, HTR.out _ _ h hh.2⟩
    have K30 : Hid (∀ w, Below w5.heap.size w5 w → Calls Tryz.prog 30 #[.pointer (some ⟨M.m, 0, none⟩)] w (fun e w' => e = .returned (.pointer (some ⟨M.d, 0, none⟩)) ∧ Below w5.heap.size w5 w')) := Lib.hid fun w h =>
      (device11 M w (HR5.out.2.2.below h)).mono fun e w' hh => ⟨hh.1, by rw [hh.2]; exact h⟩
    have K31 : Hid (∀ w, Below w5.heap.size w5 w → Calls Tryz.prog 31 #[.pointer (some ⟨M.d, 0, none⟩)] w (fun e w' => ∃ g c, e = .returned (.slice (some ⟨g, 0, none⟩) n c) ∧ Below w5.heap.size w5 w' ∧ RowAt w' g n (fun j => .int .u64 (f j : Nat)))) := Lib.hid fun w h =>
      (kept28M M w (HR5.out.2.2.below h)).mono fun e w' hh => by
        obtain ⟨g, c, h1, h2, h3, -⟩ := hh
        rw [HNN.out] at h1 h3
        exact ⟨g, c, h1, HTR.out _ _ h h2, h3.congr fun j _ => by rw [HKP.out]⟩
    have K29 : Hid (∀ g c w, Below w5.heap.size w5 w → RowAt w g n (fun j => .int .u64 (f j : Nat)) → Calls Tryz.prog 29 #[.slice (some ⟨g, 0, none⟩) n c, .slice a n cap] w (fun e w' => e = .returned (.bool true) ∧ Below w5.heap.size w5 w')) := Lib.hid fun g c w h hr => by
      have hwi := HWI.out w (HTA.out _ (HB5.out.trans (h.mono HB5.out.size)))
      refine (same29_off _ _ n _ _ HNB.out (fun j => (f j : Int)) w fun h0 => ⟨g, b, off, rfl, hwi.at_ (by have := HNN.out; omega), hr.lt, hwi.lt h0, fun j hj => ⟨hr.cell hj, hwi.cell j hj⟩⟩).mono fun e w' hh => ⟨hh.1, HTR.out _ _ h hh.2⟩
    have HV1 : Hid (Below w5.heap.size w5 w5) := Lib.hid (Below.refl _ _)
    clear HX5 HR5 HTR HLA HB35 H3 HKP HP HNN
    generalize M.m = mm at *
    generalize M.d = md at *
    go_cut [81] from 50 (fun v81 wx => v81 = .bool false ∧ Hid (Below w5.heap.size w5 wx))
    case first =>
      clear HOP HMY HWI HBX HA HR HFM HTA
      go_region_held3 (fun w' => w'.cell? ⟨b9, 0, none⟩ = some (.int .i64 y1) ∧ w'.cell? ⟨b9, 1, none⟩ = some (.int .i64 y2) ∧ w'.cell? ⟨b9, 2, none⟩ = some (.int .i64 y3) ∧ w'.cell? ⟨b9, 3, none⟩ = some (.int .i64 y4)) (go_keep) (first
        | (go_at_call 22; refine (K22.out _ HV1.out.drew).mono ?_; rintro e w6 ⟨rfl, hb⟩; have q1 : ∀ o, w6.cell? ⟨b9, o, none⟩ = w5.cell? ⟨b9, o, none⟩ := fun o => hb.cell (p := ⟨b9, o, none⟩) HRV.out; have HNOW := Lib.hid hb; clear hb)
        | (go_at_call 28; refine (K28.out _ HNOW.out).mono ?_; rintro e w7 ⟨rfl, hb⟩; have q1 : ∀ o, w7.cell? ⟨b9, o, none⟩ = w5.cell? ⟨b9, o, none⟩ := fun o => hb.cell (p := ⟨b9, o, none⟩) HRV.out; have HNOW := Lib.hid hb; clear hb)
        | (go_at_call 18; refine (K18.out _ HNOW.out).mono ?_; rintro e w8 ⟨rfl, hb⟩; have q1 : ∀ o, w8.cell? ⟨b9, o, none⟩ = w5.cell? ⟨b9, o, none⟩ := fun o => hb.cell (p := ⟨b9, o, none⟩) HRV.out; have HNOW := Lib.hid hb; clear hb)
        | (go_at_call 19; refine (K19.out _ HNOW.out).mono ?_; rintro e w9 ⟨rfl, hb⟩; have q1 : ∀ o, w9.cell? ⟨b9, o, none⟩ = w5.cell? ⟨b9, o, none⟩ := fun o => hb.cell (p := ⟨b9, o, none⟩) HRV.out; have HNOW := Lib.hid hb; clear hb)
        | (go_at_call 20; refine (K20.out _ HNOW.out).mono ?_; rintro e w10 ⟨rfl, hb⟩; have q1 : ∀ o, w10.cell? ⟨b9, o, none⟩ = w5.cell? ⟨b9, o, none⟩ := fun o => hb.cell (p := ⟨b9, o, none⟩) HRV.out; have HNOW := Lib.hid hb; clear hb)
        | (go_at_call 23; refine (K23.out _ HNOW.out).mono ?_; rintro e w11 ⟨rfl, hb⟩; have q1 : ∀ o, w11.cell? ⟨b9, o, none⟩ = w5.cell? ⟨b9, o, none⟩ := fun o => hb.cell (p := ⟨b9, o, none⟩) HRV.out; have HNOW := Lib.hid hb; clear hb)
        | (go_at_call 30; refine (K30.out _ HNOW.out).mono ?_; rintro e w12 ⟨rfl, hb⟩; have q1 : ∀ o, w12.cell? ⟨b9, o, none⟩ = w5.cell? ⟨b9, o, none⟩ := fun o => hb.cell (p := ⟨b9, o, none⟩) HRV.out; have HNOW := Lib.hid hb; clear hb)
        | (go_at_call 31; refine (K31.out _ HNOW.out).mono ?_; rintro e w13 ⟨g13, c13, rfl, hb, hr⟩; have HRS := Lib.hid hr; clear hr; have q1 : ∀ o, w13.cell? ⟨b9, o, none⟩ = w5.cell? ⟨b9, o, none⟩ := fun o => hb.cell (p := ⟨b9, o, none⟩) HRV.out; have HNOW := Lib.hid hb; clear hb)
        | (go_at_call 29; refine (K29.out _ _ _ HNOW.out HRS.out).mono ?_; rintro e w14 ⟨rfl, hb⟩; have q1 : ∀ o, w14.cell? ⟨b9, o, none⟩ = w5.cell? ⟨b9, o, none⟩ := fun o => hb.cell (p := ⟨b9, o, none⟩) HRV.out; have HNOW := Lib.hid hb; clear hb))
      all_goals
        go_wp2_with fail
        go_meet
        exact ⟨rfl, HNOW⟩
    case rest =>
      obtain ⟨rfl, HBW⟩ := hcut
      have HBZ : Hid (Below Wa.heap.size Wa wc) := Lib.hid (HB5.out.trans (HBW.out.mono HB5.out.size))
      obtain ⟨q0, q1, q2, q3⟩ := HBX.out _ (HTA.out _ HBZ.out)
      clear K22 K23 K18 K19 K20 K28 K30 K31 K29 HV1 HBW x0 x1 x2 x3 HB5
      go_upto_region 10 with fail
      go_wp2_with (first
        | (go_at_call 24; refine (HR.out _).mono ?_; rintro e wy ⟨rfl, hb⟩; have HBY : Hid (Below Wa.heap.size Wa wy) := Lib.hid (HBZ.out.trans (hb.mono HBZ.out.size)); clear hb)
        | (go_at_call 16; refine (HA.out _).mono ?_; rintro e wv ⟨rfl, hb⟩; have HBV : Hid (Below Wa.heap.size Wa wv) := Lib.hid (HBY.out.trans (hb.mono HBY.out.size)); clear hb))
      go_ret
      exact ⟨rfl, HBA.out.trans ((HTA.out _ HBV.out).mono HBA.out.size)⟩
end Go.Proofs.YtkdcfijebgeajaaGreat
