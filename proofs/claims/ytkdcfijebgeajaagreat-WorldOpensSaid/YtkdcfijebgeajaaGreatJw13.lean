/- Layer 23 (world): words are opened: a config is found.
   Layer 24 (world): a world's accessors; Open whole.
   Layer 25 (world): the words of a config that is not right. -/
import Derived.Test.YtkdcfijebgeajaaGreatJw11
import Derived.Test.YtkdcfijebgeajaaGreatJw12
import Derived.Test.YtkdcfijebgeajaaGreatJw1
import Derived.Deep.RegionHeld3
import Derived.Test.YtkdcfijebgeajaaGreatJw10
namespace Go.Proofs.YtkdcfijebgeajaaGreat
open Go.RowKit Go.BigFrame
set_option linter.unusedVariables false
set_option linter.unusedSimpArgs false
def WorldRow (W : World) (X l m : Nat) : Prop := ∃ v4 v6, W.heap[X]? = some (.cells #[.pointer (some ⟨l, 0, none⟩), .pointer (some ⟨m, 0, none⟩), .int .i64 0, .pointer none, v4, .slice none 0 0, v6] 137 (0, 0))
def OpenedTo (th sl lo bu : Nat) (f : Nat → Nat) (n : Nat) (w : World) (e : Ending) (w' : World) : Prop :=
  ∃ X l mm d kb sb wb fb pb c0 c1, e = .returned (.tuple #[.pointer (some ⟨X, 0, none⟩), .int .i64 0]) ∧ Below w.heap.size w w' ∧ w.heap.size ≤ X ∧ WorldRow w' X l mm ∧ LayAt w' l (⟨th, sl, lo, bu⟩ : Cfg).lv ∧ MemAt w' (Mv.start mm d kb sb wb fb pb (n / 8) th (2 + th + sl) c0 c1 fun j => (f j : Int))
def PickedTo (x : Nat → Nat) (f : Nat → Nat) (n : Nat) (w : World) (e : Ending) (w' : World) : Prop :=
  (linesX x ≠ n / 8 ∧ NotOpened 3 w e w') ∨ (linesX x = n / 8 ∧ OpenedTo (x 1) (x 2) (x 3) (x 4) f n w e w')
set_option maxRecDepth 100000 in
set_option maxHeartbeats 4000000 in
theorem open26_pick (f : Nat → Nat) (x : Nat → Nat) (th sl lo bu : Nat) (x1 : x 1 = th) (x2 : x 2 = sl) (x3 : x 3 = lo) (x4 : x 4 = bu) (b off n cap : Nat) (hn : n ≤ 800) (h8 : n % 8 = 0) (h16 : 16 ≤ n) (hcap : n ≤ cap) (hc : cap ≤ 9223372036854775807) (w : World) (hb : b < w.heap.size) (hf : ∀ j, j < n → w.cell? ⟨b, off + j, none⟩ = some (.int .u64 (f j : Nat))) (hp : pickP f (next8 f) = some x) : Calls Tryz.prog 26 #[.slice (some ⟨b, off, none⟩) n cap] w (PickedTo x f n w) := by
  have hw : wholeE n = 0 := by unfold wholeE; rw [if_neg (by omega), if_neg (by omega)]
  have HC := Lib.hid (cut35 (some ⟨b, off, none⟩) b off n cap (fun _ => rfl) hcap hc hw (fun j => (f j : Int)) w (fun _ => hb) hf)
  have hq : 2 ≤ n / 8 := by omega
  have HBO : Hid (∀ w, Calls Tryz.prog 78 #[.agg #[.int .u64 (f 0 : Nat), .int .u64 (f 1 : Nat), .int .u64 (f 2 : Nat), .int .u64 (f 3 : Nat), .int .u64 (f 4 : Nat), .int .u64 (f 5 : Nat), .int .u64 (f 6 : Nat), .int .u64 (f 7 : Nat)], .agg #[.int .u64 (f (8 + 0) : Nat), .int .u64 (f (8 + 1) : Nat), .int .u64 (f (8 + 2) : Nat), .int .u64 (f (8 + 3) : Nat), .int .u64 (f (8 + 4) : Nat), .int .u64 (f (8 + 5) : Nat), .int .u64 (f (8 + 6) : Nat), .int .u64 (f (8 + 7) : Nat)]] w fun e w' => (∃ k : Int, e = .returned (.tuple #[.agg #[.int .i64 (th : Nat), .int .i64 (sl : Nat), .int .i64 (lo : Nat), .int .i64 (bu : Nat)], .int .i64 k, .int .i64 0])) ∧ Below w.heap.size w w') := Lib.hid fun w => by
    refine Calls.mono (both78_any f (next8 f) w) ?_
    rintro e w' ⟨hb, ⟨h, -⟩ | ⟨y, k, h, he⟩⟩
    · rw [hp] at h; cases h
    · rw [hp] at h; cases h; rw [x1, x2, x3, x4] at he; exact ⟨⟨k, he⟩, hb⟩
  have hok := (pickP_line hp).1
  rw [x1, x2, x3, x4] at hok
  have HRES : Hid (∀ e w', (linesN th sl lo bu ≠ n / 8 ∧ NotOpened 3 w e w') ∨ (linesN th sl lo bu = n / 8 ∧ OpenedTo th sl lo bu f n w e w') → PickedTo x f n w e w') := Lib.hid fun e w' h => by unfold PickedTo linesX; rw [x1, x2, x3, x4]; exact h
  have hok' := hok
  unfold Ok4 at hok'
  have HOB : Hid (Ok4 th sl lo bu) := Lib.hid hok
  have HOF := Lib.hid fun w => of58 ⟨th, sl, lo, bu⟩ hok.right w
  have hlv : (⟨th, sl, lo, bu⟩ : Cfg).lv.ln = (linesN th sl lo bu : Nat) := by
    have h1 := nw_ln th sl lo bu
    rw [nw_lines] at h1
    unfold linesN
    have : ((8 * (5 + (bu + 7) / 8 + th + th * ((lo + 7) / 8) + sl) : Nat) : Int) = (⟨th, sl, lo, bu⟩ : Cfg).lv.ln * 8 := h1
    omega
  obtain ⟨v, hv⟩ : ∃ v, v = (⟨th, sl, lo, bu⟩ : Cfg).lv := ⟨_, rfl⟩
  have HV : Hid (v.th = th ∧ v.sl = sl ∧ v.ln = (linesN th sl lo bu : Nat) ∧ v = (⟨th, sl, lo, bu⟩ : Cfg).lv) := Lib.hid ⟨by rw [hv]; rfl, by rw [hv]; rfl, by rw [hv]; exact hlv, hv⟩
  rw [← hv] at HOF
  have hop0 : mayOpenE n (th : Int) = 0 := by
    unfold mayOpenE
    rw [if_neg (by omega), if_neg (by rw [hw]; decide), if_neg (by omega)]
  have HOP : Hid (∀ (w' : World), (∀ j, j < n → w'.cell? ⟨b, off + j, none⟩ = some (.int .u64 (f j : Nat))) → b < w'.heap.size → Calls Tryz.prog 51 #[.slice (some ⟨b, off, none⟩) n cap, .int .i64 (th : Nat)] w' fun e w'' => Below w'.heap.size w' w'' ∧ ∃ d kb sb wb fb c0 c1, e = .returned (.tuple #[.pointer (some ⟨d, 0, none⟩), .int .i64 0]) ∧ DevAt w'' w'.heap.size d kb sb wb fb (n / 8) th c0 c1 (fun j => (f j : Int))) := Lib.hid fun w' hcl hlt => by
    have h := open18_yes (some ⟨b, off, none⟩) b off n cap (fun _ => rfl) hcap hc (th : Int) (fun j => (f j : Int)) w' hop0 hlt hcl
    refine h.mono fun e w'' hh => ?_
    obtain ⟨hb, ⟨h1, -⟩ | ⟨-, d, kb, sb, wb, fb, c0, c1, he, hd⟩⟩ := hh
    · exact absurd hop0 h1
    · rw [Int.toNat_natCast] at hd
      exact ⟨hb, d, kb, sb, wb, fb, c0, c1, he, hd⟩
  have HNW := Lib.hid fun d w => new19_yes d (2 + th + sl) (by omega) w
  have HMS : Hid (∀ d kb sb wb fb c0 c1 mm pb B (w7 w8 : World), DevAt w7 B d kb sb wb fb (n / 8) th c0 c1 (fun j => (f j : Int)) → Below w7.heap.size w7 w8 → w7.heap.size ≤ mm → w7.heap.size ≤ pb → mm ≠ pb → MemRow w8 mm (.pointer (some ⟨d, 0, none⟩)) (.slice (some ⟨pb, 0, none⟩) (2 + th + sl) (2 + th + sl)) 0 0 ⟨0, 0, 0, 0, 0, false⟩ → RowAt w8 pb (2 + th + sl) (fun _ => .int .u64 0) →
      MemAt w8 (Mv.start mm d kb sb wb fb pb (n / 8) th (2 + th + sl) c0 c1 fun j => (f j : Int))) := Lib.hid fun d kb sb wb fb c0 c1 mm pb B w7 w8 hd hb h1 h2 h3 h4 h5 =>
    (mem_start hd hb h1 h2 h3 h4 h5 (by omega) (by omega) (by omega) (by omega)).1
  have HPN : Hid ((2 + (th : Int) + (sl : Int)) = ((2 + th + sl : Nat) : Int)) := Lib.hid (by omega)
  have HTH : Hid (0 ≤ v.th ∧ v.th ≤ 64) := Lib.hid (by rw [HV.out.1]; omega)
  clear hop0
  have HNN : Hid (n ≤ 800 ∧ n % 8 = 0 ∧ 16 ≤ n ∧ n ≤ cap ∧ cap ≤ 9223372036854775807) := Lib.hid ⟨hn, h8, h16, hcap, hc⟩
  have HBL : Hid (b < w.heap.size) := Lib.hid hb
  have HFC : Hid (∀ j, j < n → w.cell? ⟨b, off + j, none⟩ = some (.int .u64 (f j : Nat))) := Lib.hid hf
  clear hlv hv hok hok' x1 x2 x3 x4
  unfold CutTo at HC
  have HFF : Hid (∀ (W : World) v, W.ownsRow w.heap.size 142 8 v (n / 8) (wordsL (fun j => (f j : Int)) (8 * (n / 8))) → ∃ bb c, v = .slice (some ⟨bb, 0, none⟩) (n / 8) c ∧ w.heap.size ≤ bb ∧ bb < W.heap.size ∧ ∀ j, j < 16 → W.cell? ⟨bb, j, none⟩ = some (.int .u64 (f j : Nat))) := Lib.hid fun W v h => by
    obtain ⟨bb, c, h1, h2, h3, h4⟩ := cut_lines h (by omega)
    exact ⟨bb, c, h1, h2, h3, fun j hj => h4 j (by omega)⟩
  obtain ⟨q, hqq⟩ : ∃ q, q = n / 8 := ⟨_, rfl⟩
  rw [← hqq] at HC HFF hq
  have d1 : decide ((q : Int) < 2) = false := bool_no (by omega)
  have q0 : (0 : Int) < (q : Int) := by omega
  have q1 : (1 : Int) < (q : Int) := by omega
  have q2 : 0 < q := by omega
  have q3 : 1 < q := by omega
  have HQ := Lib.hid hqq
  clear hf hb hp hw h8 h16 hn hcap hc hq hqq
  go_enter Tryz.func26, Tryz.ntmps26
  go_wp2_with fail
  refine HC.out.mono ?_
  rintro e w1 ⟨u, rfl, hb, ho⟩
  obtain ⟨bb, uc, rfl, hb1, hb2, hcell⟩ := HFF.out w1 u ho
  have x0 := hcell 0 (by omega)
  have x1 := hcell 1 (by omega)
  have x2 := hcell 2 (by omega)
  have x3 := hcell 3 (by omega)
  have x4 := hcell 4 (by omega)
  have x5 := hcell 5 (by omega)
  have x6 := hcell 6 (by omega)
  have x7 := hcell 7 (by omega)
  have x8 := hcell 8 (by omega)
  have x9 := hcell 9 (by omega)
  have x10 := hcell 10 (by omega)
  have x11 := hcell 11 (by omega)
  have x12 := hcell 12 (by omega)
  have x13 := hcell 13 (by omega)
  have x14 := hcell 14 (by omega)
  have x15 := hcell 15 (by omega)
  have HB1 := Lib.hid hb
  have HL1 : Hid (bb < w1.heap.size) := Lib.hid hb2
  clear hb ho hcell HC HFF hb1 hb2
  obtain ⟨i0, hi0⟩ : ∃ i : Int, i = (f 0 : Nat) := ⟨_, rfl⟩
  obtain ⟨i1, hi1⟩ : ∃ i : Int, i = (f 1 : Nat) := ⟨_, rfl⟩
  obtain ⟨i2, hi2⟩ : ∃ i : Int, i = (f 2 : Nat) := ⟨_, rfl⟩
  obtain ⟨i3, hi3⟩ : ∃ i : Int, i = (f 3 : Nat) := ⟨_, rfl⟩
  obtain ⟨i4, hi4⟩ : ∃ i : Int, i = (f 4 : Nat) := ⟨_, rfl⟩
  obtain ⟨i5, hi5⟩ : ∃ i : Int, i = (f 5 : Nat) := ⟨_, rfl⟩
  obtain ⟨i6, hi6⟩ : ∃ i : Int, i = (f 6 : Nat) := ⟨_, rfl⟩
  obtain ⟨i7, hi7⟩ : ∃ i : Int, i = (f 7 : Nat) := ⟨_, rfl⟩
  obtain ⟨i8, hi8⟩ : ∃ i : Int, i = (f 8 : Nat) := ⟨_, rfl⟩
  obtain ⟨i9, hi9⟩ : ∃ i : Int, i = (f 9 : Nat) := ⟨_, rfl⟩
  obtain ⟨i10, hi10⟩ : ∃ i : Int, i = (f 10 : Nat) := ⟨_, rfl⟩
  obtain ⟨i11, hi11⟩ : ∃ i : Int, i = (f 11 : Nat) := ⟨_, rfl⟩
  obtain ⟨i12, hi12⟩ : ∃ i : Int, i = (f 12 : Nat) := ⟨_, rfl⟩
  obtain ⟨i13, hi13⟩ : ∃ i : Int, i = (f 13 : Nat) := ⟨_, rfl⟩
  obtain ⟨i14, hi14⟩ : ∃ i : Int, i = (f 14 : Nat) := ⟨_, rfl⟩
  obtain ⟨i15, hi15⟩ : ∃ i : Int, i = (f 15 : Nat) := ⟨_, rfl⟩
  have HBO2 : Hid (∀ w, Calls Tryz.prog 78 #[.agg #[.int .u64 i0, .int .u64 i1, .int .u64 i2, .int .u64 i3, .int .u64 i4, .int .u64 i5, .int .u64 i6, .int .u64 i7], .agg #[.int .u64 i8, .int .u64 i9, .int .u64 i10, .int .u64 i11, .int .u64 i12, .int .u64 i13, .int .u64 i14, .int .u64 i15]] w fun e w' => (∃ k : Int, e = .returned (.tuple #[.agg #[.int .i64 (th : Nat), .int .i64 (sl : Nat), .int .i64 (lo : Nat), .int .i64 (bu : Nat)], .int .i64 k, .int .i64 0])) ∧ Below w.heap.size w w') := Lib.hid (by rw [hi0, hi1, hi2, hi3, hi4, hi5, hi6, hi7, hi8, hi9, hi10, hi11, hi12, hi13, hi14, hi15]; exact HBO.out)
  rw [← hi0] at x0
  rw [← hi1] at x1
  rw [← hi2] at x2
  rw [← hi3] at x3
  rw [← hi4] at x4
  rw [← hi5] at x5
  rw [← hi6] at x6
  rw [← hi7] at x7
  rw [← hi8] at x8
  rw [← hi9] at x9
  rw [← hi10] at x10
  rw [← hi11] at x11
  rw [← hi12] at x12
  rw [← hi13] at x13
  rw [← hi14] at x14
  rw [← hi15] at x15
  clear HBO hi0 hi1 hi2 hi3 hi4 hi5 hi6 hi7 hi8 hi9 hi10 hi11 hi12 hi13 hi14 hi15
  have HBO4 : Hid (∀ w' : World, bb < w'.heap.size → (w'.cell? ⟨bb, 0, none⟩ = some (.int .u64 i0) ∧ w'.cell? ⟨bb, 1, none⟩ = some (.int .u64 i1) ∧ w'.cell? ⟨bb, 2, none⟩ = some (.int .u64 i2) ∧ w'.cell? ⟨bb, 3, none⟩ = some (.int .u64 i3) ∧ w'.cell? ⟨bb, 4, none⟩ = some (.int .u64 i4) ∧ w'.cell? ⟨bb, 5, none⟩ = some (.int .u64 i5) ∧ w'.cell? ⟨bb, 6, none⟩ = some (.int .u64 i6) ∧ w'.cell? ⟨bb, 7, none⟩ = some (.int .u64 i7) ∧ w'.cell? ⟨bb, 8, none⟩ = some (.int .u64 i8) ∧ w'.cell? ⟨bb, 9, none⟩ = some (.int .u64 i9) ∧ w'.cell? ⟨bb, 10, none⟩ = some (.int .u64 i10) ∧ w'.cell? ⟨bb, 11, none⟩ = some (.int .u64 i11) ∧ w'.cell? ⟨bb, 12, none⟩ = some (.int .u64 i12) ∧ w'.cell? ⟨bb, 13, none⟩ = some (.int .u64 i13) ∧ w'.cell? ⟨bb, 14, none⟩ = some (.int .u64 i14) ∧ w'.cell? ⟨bb, 15, none⟩ = some (.int .u64 i15)) → Calls Tryz.prog 78 #[.agg #[.int .u64 i0, .int .u64 i1, .int .u64 i2, .int .u64 i3, .int .u64 i4, .int .u64 i5, .int .u64 i6, .int .u64 i7], .agg #[.int .u64 i8, .int .u64 i9, .int .u64 i10, .int .u64 i11, .int .u64 i12, .int .u64 i13, .int .u64 i14, .int .u64 i15]] w' fun e w'' => (∃ k : Int, e = .returned (.tuple #[.agg #[.int .i64 (th : Nat), .int .i64 (sl : Nat), .int .i64 (lo : Nat), .int .i64 (bu : Nat)], .int .i64 k, .int .i64 0])) ∧ Below w'.heap.size w' w'' ∧ (w''.cell? ⟨bb, 0, none⟩ = some (.int .u64 i0) ∧ w''.cell? ⟨bb, 1, none⟩ = some (.int .u64 i1) ∧ w''.cell? ⟨bb, 2, none⟩ = some (.int .u64 i2) ∧ w''.cell? ⟨bb, 3, none⟩ = some (.int .u64 i3) ∧ w''.cell? ⟨bb, 4, none⟩ = some (.int .u64 i4) ∧ w''.cell? ⟨bb, 5, none⟩ = some (.int .u64 i5) ∧ w''.cell? ⟨bb, 6, none⟩ = some (.int .u64 i6) ∧ w''.cell? ⟨bb, 7, none⟩ = some (.int .u64 i7) ∧ w''.cell? ⟨bb, 8, none⟩ = some (.int .u64 i8) ∧ w''.cell? ⟨bb, 9, none⟩ = some (.int .u64 i9) ∧ w''.cell? ⟨bb, 10, none⟩ = some (.int .u64 i10) ∧ w''.cell? ⟨bb, 11, none⟩ = some (.int .u64 i11) ∧ w''.cell? ⟨bb, 12, none⟩ = some (.int .u64 i12) ∧ w''.cell? ⟨bb, 13, none⟩ = some (.int .u64 i13) ∧ w''.cell? ⟨bb, 14, none⟩ = some (.int .u64 i14) ∧ w''.cell? ⟨bb, 15, none⟩ = some (.int .u64 i15))) := Lib.hid fun w' hlt h => (HBO2.out w').mono fun e w'' hh => ⟨hh.1, hh.2, by
    have q := fun j => cell_of_heap (hh.2.block bb hlt) j
    rw [q 0, q 1, q 2, q 3, q 4, q 5, q 6, q 7, q 8, q 9, q 10, q 11, q 12, q 13, q 14, q 15]
    exact h⟩
  have hne : bb ≠ w1.heap.size := by have := HL1.out; omega
  have hlt : bb < w1.heap.size := HL1.out
  have hne2 : w1.heap.size ≠ bb := by have := HL1.out; omega
  go_wp2_with fail
  go_region_held3 (fun w' => w'.cell? ⟨bb, 0, none⟩ = some (.int .u64 i0) ∧ w'.cell? ⟨bb, 1, none⟩ = some (.int .u64 i1) ∧ w'.cell? ⟨bb, 2, none⟩ = some (.int .u64 i2) ∧ w'.cell? ⟨bb, 3, none⟩ = some (.int .u64 i3) ∧ w'.cell? ⟨bb, 4, none⟩ = some (.int .u64 i4) ∧ w'.cell? ⟨bb, 5, none⟩ = some (.int .u64 i5) ∧ w'.cell? ⟨bb, 6, none⟩ = some (.int .u64 i6) ∧ w'.cell? ⟨bb, 7, none⟩ = some (.int .u64 i7) ∧ w'.cell? ⟨bb, 8, none⟩ = some (.int .u64 i8) ∧ w'.cell? ⟨bb, 9, none⟩ = some (.int .u64 i9) ∧ w'.cell? ⟨bb, 10, none⟩ = some (.int .u64 i10) ∧ w'.cell? ⟨bb, 11, none⟩ = some (.int .u64 i11) ∧ w'.cell? ⟨bb, 12, none⟩ = some (.int .u64 i12) ∧ w'.cell? ⟨bb, 13, none⟩ = some (.int .u64 i13) ∧ w'.cell? ⟨bb, 14, none⟩ = some (.int .u64 i14) ∧ w'.cell? ⟨bb, 15, none⟩ = some (.int .u64 i15)) (go_keep) ((go_at_call 78; (with_reducible refine (HBO4.out _ (by first | exact hlt | (simp; omega)) (by assumption)).mono ?_); rintro e w8 ⟨⟨kk, rfl⟩, hb8, s0, s1, s2, s3, s4, s5, s6, s7, s8, s9, s10, s11, s12, s13, s14, s15⟩; have HB8 : Hid (Below w.heap.size w w8) := Lib.hid (by first | exact (HB1.out.drew).trans (hb8.mono HB1.out.size) | exact (HB1.out.drew.alloc HB1.out.size _).trans (hb8.mono (by have := HB1.out.size; simp; omega))); (try (have za : w8.heap[w1.heap.size]? = some (.cells #[.int .i64 0, .int .i64 0, .int .i64 0, .int .i64 0] 23 (0, 0)) := (hb8.block _ (by simp)).trans (heap_alloc_new _ _); have z0 := cell_row za 0 _ rfl; have z1 := cell_row za 1 _ rfl; have z2 := cell_row za 2 _ rfl; have z3 := cell_row za 3 _ rfl; have zf := free_row za))))
  · obtain ⟨cb, hcb⟩ : ∃ c, c = w8.heap.size := ⟨_, rfl⟩
    obtain ⟨W9, hW9⟩ : ∃ W9, W9 = w8.alloc (.cells #[.int .i64 th, .int .i64 sl, .int .i64 lo, .int .i64 bu] 23) := ⟨_, rfl⟩
    have RC9 : Hid (W9.heap[cb]? = some (.cells #[.int .i64 th, .int .i64 sl, .int .i64 lo, .int .i64 bu] 23 (0, 0))) := Lib.hid (by rw [hW9, hcb]; exact heap_alloc_new w8 _)
    have B9 : Hid (Below w.heap.size w W9) := Lib.hid (by rw [hW9]; exact HB8.out.alloc HB8.out.size _)
    rw [← hW9, ← hcb]
    clear hW9 hcb
    clear s0 s1 s2 s3 s4 s5 s6 s7 s8 s9 s10 s11 s12 s13 s14 s15 x0 x1 x2 x3 x4 x5 x6 x7 x8 x9 x10 x11 x12 x13 x14 x15
    have q0 := cell_row RC9.out 0 _ rfl
    have q1 := cell_row RC9.out 1 _ rfl
    have q2 := cell_row RC9.out 2 _ rfl
    have q3 := cell_row RC9.out 3 _ rfl
    go_wp2_with fail
    refine (HOF.out _).mono ?_
    rintro e w10 ⟨l, rfl, hb, hl1, hlay⟩
    have RC10 := Lib.hid ((hb.block _ (lt_row RC9.out)).trans RC9.out)
    have B10 : Hid (Below w.heap.size w w10) := Lib.hid (B9.out.trans (hb.mono B9.out.size))
    have LY10 := Lib.hid hlay
    have HLL : Hid (w.heap.size ≤ l) := Lib.hid (Nat.le_trans B9.out.size hl1)
    clear hb hl1 hlay q0 q1 q2 q3 RC9 B9 HOF
    go_wp2_with fail
    refine (lines80 l v _ LY10.out).mono ?_
    rintro e w11 ⟨rfl, hw⟩
    cases hw
    rw [HV.out.2.2.1]
    by_cases hlq : linesN th sl lo bu = q
    rotate_left
    · have g1 : ¬ ((linesN th sl lo bu : Nat) : Int) = (q : Int) := by omega
      have HNQ : Hid (linesN th sl lo bu ≠ n / 8) := Lib.hid (by rw [← HQ.out]; exact hlq)
      generalize linesN th sl lo bu = ln at g1 HNQ HRES
      clear hlq
      go_wp2_with fail
      refine bodyPost_ret (v := .tuple #[.pointer none, .int .i64 3]) ?_ rfl (HRES.out _ _ (.inl ⟨HNQ.out, rfl, B10.out⟩))
      simp [results, Tryz.results26, go_sem]
    · have g1 : ((linesN th sl lo bu : Nat) : Int) = (q : Int) := by omega
      have HEQ : Hid (linesN th sl lo bu = n / 8) := Lib.hid (by rw [← HQ.out]; exact hlq)
      rw [g1]
      clear hlq g1
      have q0' := cell_row RC10.out 0 _ rfl
      go_wp2_with fail
      refine (HOP.out _ (fun j hj => (cell_of_heap (B10.out.block b HBL.out) _).trans (HFC.out j hj)) (Nat.lt_of_lt_of_le HBL.out B10.out.size)).mono ?_
      rintro e w11 ⟨hb, d, kb, sb, wb, fb, e0, e1, rfl, hd⟩
      have B11 : Hid (Below w.heap.size w w11) := Lib.hid (B10.out.trans (hb.mono B10.out.size))
      have D11 := Lib.hid hd
      have LY11 := Lib.hid (LY10.out.keep (hb.block _ LY10.out.lt))
      clear hb hd q0' B10 LY10 HOP
      go_wp2_with fail
      refine (passing79 l v _ LY11.out).mono ?_
      rintro e w12 ⟨rfl, hb⟩
      rw [HV.out.1, HV.out.2.1, HPN.out]
      have B12 : Hid (Below w.heap.size w w12) := Lib.hid (B11.out.trans (hb.mono B11.out.size))
      have Q12 := Lib.hid hb
      have LY12 := Lib.hid (LY11.out.keep (hb.block _ LY11.out.lt))
      clear hb LY11
      go_wp2_with fail
      refine (HNW.out d _).mono ?_
      rintro e w13 ⟨mm, pb, rfl, hb, m1, m2, m3, m4, m5⟩
      have B13 : Hid (Below w.heap.size w w13) := Lib.hid (B12.out.trans (hb.mono B12.out.size))
      have M13 := Lib.hid (HMS.out d kb sb wb fb e0 e1 mm pb _ _ _ D11.out (Q12.out.trans (hb.mono Q12.out.size)) (Nat.le_trans Q12.out.size m1) (Nat.le_trans Q12.out.size m2) m3 m4 m5)
      have LY13 := Lib.hid (LY12.out.keep (hb.block _ LY12.out.lt))
      clear hb m1 m2 m3 m4 m5 LY12 Q12 D11 HNW HMS
      go_wp2_with fail
      have hla := LY13.out.keep (Below.heap_alloc w13 (.cells #[.pointer (some ⟨l, 0, none⟩), .pointer (some ⟨mm, 0, none⟩), .int .i64 0, .pointer none, .slice none 0 0, .slice none 0 0, .slice none 0 0] 137) _ LY13.out.lt)
      refine (idle80 w13.heap.size l _ _ _ _ _ _ v _ HTH.out (heap_alloc_new _ _) hla (fun e => by have := LY13.out.lt; omega) (Lib.hid fun w' e => config70 l v w' (hla.keep e))).mono ?_
      rintro e w14 ⟨⟨u, rfl⟩, ⟨v4, v6, xs, ys, hrow, -, -⟩, hbut⟩
      have FB : Hid (Below w.heap.size w w14) := Lib.hid (But.below (B13.out.alloc B13.out.size _) hbut B13.out.size (by have := B13.out.size; simp; omega))
      have FM := Lib.hid (M13.out.keep fun k hk => (hbut.block k (by have := M13.out.lt hk; simp; omega) (fun e => by have := M13.out.lt hk; omega)).trans (Below.heap_alloc _ _ _ (M13.out.lt hk)))
      have FL := Lib.hid (LY13.out.keep ((hbut.block l (by have := LY13.out.lt; simp; omega) (fun e => by have := LY13.out.lt; omega)).trans (Below.heap_alloc _ _ _ LY13.out.lt)))
      have FR := Lib.hid hrow
      have FX := Lib.hid B13.out.size
      clear hrow hbut hla
      go_wp2_with fail
      refine bodyPost_ret (v := .tuple #[.pointer (some ⟨w13.heap.size, 0, none⟩), .int .i64 0]) ?_ rfl (HRES.out _ _ (.inr ⟨HEQ.out, w13.heap.size, l, mm, d, kb, sb, wb, fb, pb, e0, e1, rfl, FB.out, FX.out, ⟨_, _, FR.out⟩, HV.out.2.2.2 ▸ FL.out, FM.out⟩))
      simp [results, Tryz.results26, go_sem]
  · have RC9 : Hid (((((w8.setCell ⟨w1.heap.size, 0, none⟩ (.int .i64 th)).setCell ⟨w1.heap.size, 1, none⟩ (.int .i64 sl)).setCell ⟨w1.heap.size, 2, none⟩ (.int .i64 lo)).setCell ⟨w1.heap.size, 3, none⟩ (.int .i64 bu)).heap[w1.heap.size]? = some (.cells #[.int .i64 th, .int .i64 sl, .int .i64 lo, .int .i64 bu] 23 (0, 0))) := Lib.hid (heap_set _ (heap_set _ (heap_set _ (heap_set _ za))))
    have B9 : Hid (Below w.heap.size w ((((w8.setCell ⟨w1.heap.size, 0, none⟩ (.int .i64 th)).setCell ⟨w1.heap.size, 1, none⟩ (.int .i64 sl)).setCell ⟨w1.heap.size, 2, none⟩ (.int .i64 lo)).setCell ⟨w1.heap.size, 3, none⟩ (.int .i64 bu))) := Lib.hid ((((HB8.out.setCell (p := ⟨w1.heap.size, 0, none⟩) HB1.out.size _).setCell (p := ⟨w1.heap.size, 1, none⟩) HB1.out.size _).setCell (p := ⟨w1.heap.size, 2, none⟩) HB1.out.size _).setCell (p := ⟨w1.heap.size, 3, none⟩) HB1.out.size _)
    obtain ⟨W9, hW9⟩ : ∃ W9, W9 = (((w8.setCell ⟨w1.heap.size, 0, none⟩ (.int .i64 th)).setCell ⟨w1.heap.size, 1, none⟩ (.int .i64 sl)).setCell ⟨w1.heap.size, 2, none⟩ (.int .i64 lo)).setCell ⟨w1.heap.size, 3, none⟩ (.int .i64 bu) := ⟨_, rfl⟩
    rw [← hW9] at RC9 B9 ⊢
    obtain ⟨cb, hcb⟩ : ∃ c, c = w1.heap.size := ⟨_, rfl⟩
    rw [← hcb] at RC9 ⊢
    clear hW9 hcb
    clear s0 s1 s2 s3 s4 s5 s6 s7 s8 s9 s10 s11 s12 s13 s14 s15 x0 x1 x2 x3 x4 x5 x6 x7 x8 x9 x10 x11 x12 x13 x14 x15
    have q0 := cell_row RC9.out 0 _ rfl
    have q1 := cell_row RC9.out 1 _ rfl
    have q2 := cell_row RC9.out 2 _ rfl
    have q3 := cell_row RC9.out 3 _ rfl
    go_wp2_with fail
    refine (HOF.out _).mono ?_
    rintro e w10 ⟨l, rfl, hb, hl1, hlay⟩
    have RC10 := Lib.hid ((hb.block _ (lt_row RC9.out)).trans RC9.out)
    have B10 : Hid (Below w.heap.size w w10) := Lib.hid (B9.out.trans (hb.mono B9.out.size))
    have LY10 := Lib.hid hlay
    have HLL : Hid (w.heap.size ≤ l) := Lib.hid (Nat.le_trans B9.out.size hl1)
    clear hb hl1 hlay q0 q1 q2 q3 RC9 B9 HOF
    go_wp2_with fail
    refine (lines80 l v _ LY10.out).mono ?_
    rintro e w11 ⟨rfl, hw⟩
    cases hw
    rw [HV.out.2.2.1]
    by_cases hlq : linesN th sl lo bu = q
    rotate_left
    · have g1 : ¬ ((linesN th sl lo bu : Nat) : Int) = (q : Int) := by omega
      have HNQ : Hid (linesN th sl lo bu ≠ n / 8) := Lib.hid (by rw [← HQ.out]; exact hlq)
      generalize linesN th sl lo bu = ln at g1 HNQ HRES
      clear hlq
      go_wp2_with fail
      refine bodyPost_ret (v := .tuple #[.pointer none, .int .i64 3]) ?_ rfl (HRES.out _ _ (.inl ⟨HNQ.out, rfl, B10.out⟩))
      simp [results, Tryz.results26, go_sem]
    · have g1 : ((linesN th sl lo bu : Nat) : Int) = (q : Int) := by omega
      have HEQ : Hid (linesN th sl lo bu = n / 8) := Lib.hid (by rw [← HQ.out]; exact hlq)
      rw [g1]
      clear hlq g1
      have q0' := cell_row RC10.out 0 _ rfl
      go_wp2_with fail
      refine (HOP.out _ (fun j hj => (cell_of_heap (B10.out.block b HBL.out) _).trans (HFC.out j hj)) (Nat.lt_of_lt_of_le HBL.out B10.out.size)).mono ?_
      rintro e w11 ⟨hb, d, kb, sb, wb, fb, e0, e1, rfl, hd⟩
      have B11 : Hid (Below w.heap.size w w11) := Lib.hid (B10.out.trans (hb.mono B10.out.size))
      have D11 := Lib.hid hd
      have LY11 := Lib.hid (LY10.out.keep (hb.block _ LY10.out.lt))
      clear hb hd q0' B10 LY10 HOP
      go_wp2_with fail
      refine (passing79 l v _ LY11.out).mono ?_
      rintro e w12 ⟨rfl, hb⟩
      rw [HV.out.1, HV.out.2.1, HPN.out]
      have B12 : Hid (Below w.heap.size w w12) := Lib.hid (B11.out.trans (hb.mono B11.out.size))
      have Q12 := Lib.hid hb
      have LY12 := Lib.hid (LY11.out.keep (hb.block _ LY11.out.lt))
      clear hb LY11
      go_wp2_with fail
      refine (HNW.out d _).mono ?_
      rintro e w13 ⟨mm, pb, rfl, hb, m1, m2, m3, m4, m5⟩
      have B13 : Hid (Below w.heap.size w w13) := Lib.hid (B12.out.trans (hb.mono B12.out.size))
      have M13 := Lib.hid (HMS.out d kb sb wb fb e0 e1 mm pb _ _ _ D11.out (Q12.out.trans (hb.mono Q12.out.size)) (Nat.le_trans Q12.out.size m1) (Nat.le_trans Q12.out.size m2) m3 m4 m5)
      have LY13 := Lib.hid (LY12.out.keep (hb.block _ LY12.out.lt))
      clear hb m1 m2 m3 m4 m5 LY12 Q12 D11 HNW HMS
      go_wp2_with fail
      have hla := LY13.out.keep (Below.heap_alloc w13 (.cells #[.pointer (some ⟨l, 0, none⟩), .pointer (some ⟨mm, 0, none⟩), .int .i64 0, .pointer none, .slice none 0 0, .slice none 0 0, .slice none 0 0] 137) _ LY13.out.lt)
      refine (idle80 w13.heap.size l _ _ _ _ _ _ v _ HTH.out (heap_alloc_new _ _) hla (fun e => by have := LY13.out.lt; omega) (Lib.hid fun w' e => config70 l v w' (hla.keep e))).mono ?_
      rintro e w14 ⟨⟨u, rfl⟩, ⟨v4, v6, xs, ys, hrow, -, -⟩, hbut⟩
      have FB : Hid (Below w.heap.size w w14) := Lib.hid (But.below (B13.out.alloc B13.out.size _) hbut B13.out.size (by have := B13.out.size; simp; omega))
      have FM := Lib.hid (M13.out.keep fun k hk => (hbut.block k (by have := M13.out.lt hk; simp; omega) (fun e => by have := M13.out.lt hk; omega)).trans (Below.heap_alloc _ _ _ (M13.out.lt hk)))
      have FL := Lib.hid (LY13.out.keep ((hbut.block l (by have := LY13.out.lt; simp; omega) (fun e => by have := LY13.out.lt; omega)).trans (Below.heap_alloc _ _ _ LY13.out.lt)))
      have FR := Lib.hid hrow
      have FX := Lib.hid B13.out.size
      clear hrow hbut hla
      go_wp2_with fail
      refine bodyPost_ret (v := .tuple #[.pointer (some ⟨w13.heap.size, 0, none⟩), .int .i64 0]) ?_ rfl (HRES.out _ _ (.inr ⟨HEQ.out, w13.heap.size, l, mm, d, kb, sb, wb, fb, pb, e0, e1, rfl, FB.out, FX.out, ⟨_, _, FR.out⟩, HV.out.2.2.2 ▸ FL.out, FM.out⟩))
      simp [results, Tryz.results26, go_sem]
end Go.Proofs.YtkdcfijebgeajaaGreat

namespace Go.Proofs.YtkdcfijebgeajaaGreat
open Go.RowKit Go.BigFrame
set_option linter.unusedVariables false
set_option linter.unusedSimpArgs false
theorem up18w (X : Nat) (w : World) (h : w.cell? ⟨X, 2, none⟩ = some (.int .i64 0)) : Calls Tryz.prog 18 #[.pointer (some ⟨X, 0, none⟩)] w (Says (.bool false) w) := by
  go_enter Tryz.func18, Tryz.ntmps18
  go_wp2_with fail
  go_ret
  exact ⟨rfl, rfl⟩
theorem corrupt19w (X : Nat) (w : World) (h : w.cell? ⟨X, 2, none⟩ = some (.int .i64 0)) : Calls Tryz.prog 19 #[.pointer (some ⟨X, 0, none⟩)] w (Says (.bool false) w) := by
  go_enter Tryz.func19, Tryz.ntmps19
  go_wp2_with fail
  go_ret
  exact ⟨rfl, rfl⟩
theorem layout22w (X : Nat) (l : Value) (w : World) (h : w.cell? ⟨X, 0, none⟩ = some l) : Calls Tryz.prog 22 #[.pointer (some ⟨X, 0, none⟩)] w (Says l w) := by
  go_enter Tryz.func22, Tryz.ntmps22
  go_wp2_with fail
  go_ret
  exact ⟨rfl, rfl⟩
theorem memory23w (X : Nat) (m : Value) (w : World) (h : w.cell? ⟨X, 1, none⟩ = some m) : Calls Tryz.prog 23 #[.pointer (some ⟨X, 0, none⟩)] w (Says m w) := by
  go_enter Tryz.func23, Tryz.ntmps23
  go_wp2_with fail
  go_ret
  exact ⟨rfl, rfl⟩
set_option maxRecDepth 100000 in
theorem clone72_nil (w : World) : Calls Tryz.prog 72 #[.slice none 0 0] w (Says (.slice none 0 0) w) := by
  have hnil := fun w : World => Lib.run_eql_slice_nil (P := Tryz.prog) w 57 132 none 0 0 0 0 Tryz.underlying57
  go_enter Tryz.func72, Tryz.ntmps72
  go_wp2_with fail
  go_ret
  exact ⟨rfl, rfl⟩
set_option maxRecDepth 100000 in
theorem calls20w (X : Nat) (w : World) (h : w.cell? ⟨X, 5, none⟩ = some (.slice none 0 0)) : Calls Tryz.prog 20 #[.pointer (some ⟨X, 0, none⟩)] w (Says (.slice none 0 0) w) := by
  have HC := Lib.hid (clone72_nil w)
  go_enter Tryz.func20, Tryz.ntmps20
  go_wp2_with fail
  refine HC.out.mono ?_
  rintro e w' ⟨rfl, rfl⟩
  go_wp2_with fail
  go_ret
  exact ⟨rfl, rfl⟩
def OpenDone (f : Nat → Nat) (n : Nat) (w : World) (e : Ending) (w' : World) : Prop :=
  (errP f n ≠ 0 ∧ NotOpened (errP f n) w e w') ∨ (errP f n = 0 ∧ ∃ x, pickP f (next8 f) = some x ∧ linesX x = n / 8 ∧ OpenedTo (x 1) (x 2) (x 3) (x 4) f n w e w')
theorem open26_any (f : Nat → Nat) (a : Option Addr) (b off n cap : Nat) (ha : 8 ≤ n → a = some ⟨b, off, none⟩) (hn : n ≤ 800) (hcap : n ≤ cap) (hc : cap ≤ 9223372036854775807) (w : World) (hb : 0 < n → b < w.heap.size) (hf : ∀ j, j < n → w.cell? ⟨b, off + j, none⟩ = some (.int .u64 (f j : Nat))) : Calls Tryz.prog 26 #[.slice a n cap] w (OpenDone f n w) := by
  by_cases h8 : n % 8 = 0
  rotate_left
  · have he : errP f n = 3 := by
      unfold errP
      have hw : wholeE n = 3 := by unfold wholeE; rw [if_pos (by omega)]
      rw [hw, if_pos (by decide)]
    refine (open26_whole a n cap hn h8 w).mono fun e w' h => .inl ⟨by rw [he]; decide, by rw [he]; exact h⟩
  have hw : wholeE n = 0 := by unfold wholeE; rw [if_neg (by omega), if_neg (by omega)]
  by_cases h16 : 16 ≤ n
  rotate_left
  · have he : errP f n = 3 := by
      unfold errP
      rw [hw, if_neg (by decide), if_pos (by omega)]
    refine (open26_short a b off n cap ha (by omega) h8 hcap hc (fun j => (f j : Int)) w hb hf).mono fun e w' h => .inl ⟨by rw [he]; decide, by rw [he]; exact h⟩
  rw [ha (by omega)]
  cases hp : pickP f (next8 f) with
  | none =>
    have he : errP f n = 8 := by unfold errP; rw [hw, if_neg (by decide), if_neg (by omega), hp]
    refine (open26_bad f b off n cap hn h8 h16 hcap hc w (hb (by omega)) hf hp).mono fun e w' h => .inl ⟨by rw [he]; decide, by rw [he]; exact h⟩
  | some x =>
    refine (open26_pick f x _ _ _ _ rfl rfl rfl rfl b off n cap hn h8 h16 hcap hc w (hb (by omega)) hf hp).mono fun e w' h => ?_
    rcases h with ⟨hl, h⟩ | ⟨hl, h⟩
    · have he : errP f n = 3 := by unfold errP; rw [hw, if_neg (by decide), if_neg (by omega), hp]; exact if_pos hl
      exact .inl ⟨by rw [he]; decide, by rw [he]; exact h⟩
    · have he : errP f n = 0 := by unfold errP; rw [hw, if_neg (by decide), if_neg (by omega), hp]; exact if_neg (fun h => h hl)
      exact .inr ⟨he, x, hp, hl, h⟩
end Go.Proofs.YtkdcfijebgeajaaGreat

namespace Go.Proofs.YtkdcfijebgeajaaGreat
open Go.RowKit Go.BigFrame
set_option linter.unusedVariables false
set_option linter.unusedSimpArgs false
set_option maxRecDepth 100000 in
theorem of58_no (c : Cfg) (h : ¬ c.right) (w : World) : Calls Tryz.prog 49 #[.agg c.cells] w (Gives (.tuple #[.pointer none, .int .i64 1]) w) := by
  have HR := Lib.hid fun w => right_any c w
  have d : decide c.right = false := decide_eq_false h
  rw [d] at HR
  clear h d
  obtain ⟨th, sl, lo, bu⟩ := c
  simp only [Cfg.cells] at HR ⊢
  go_enter Tryz.func49, Tryz.ntmps49
  go_wp2_with fail
  refine (HR.out _).mono ?_
  rintro e w1 ⟨rfl, hb⟩
  have HB1 := Lib.hid hb
  clear hb
  go_wp2_with fail
  refine bodyPost_ret (v := .tuple #[.pointer none, .int .i64 1]) ?_ rfl ⟨rfl, (Below.refl _ _ |>.alloc (Nat.le_refl _) _).trans (HB1.out.mono (by simp))⟩
  simp [results, Tryz.results49, go_sem]
set_option maxRecDepth 100000 in
theorem format25_no (c : Cfg) (h : ¬ c.right) (w : World) : Calls Tryz.prog 25 #[.agg c.cells] w (Gives (.tuple #[.slice none 0 0, .int .i64 1]) w) := by
  have HO := Lib.hid fun w => of58_no c h w
  clear h
  obtain ⟨th, sl, lo, bu⟩ := c
  simp only [Cfg.cells] at HO ⊢
  go_enter Tryz.func25, Tryz.ntmps25
  go_wp2_with fail
  refine (HO.out _).mono ?_
  rintro e w1 ⟨rfl, hb⟩
  have HB1 := Lib.hid hb
  clear hb
  go_wp2_with fail
  refine bodyPost_ret (v := .tuple #[.slice none 0 0, .int .i64 1]) ?_ rfl ⟨rfl, (Below.refl _ _ |>.alloc (Nat.le_refl _) _).trans (HB1.out.mono (by simp))⟩
  simp [results, Tryz.results25, go_sem]
end Go.Proofs.YtkdcfijebgeajaaGreat
