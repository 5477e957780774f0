/- Layer 20 (mark): a mark gone through, step by step. No walk here.
   Layers 4, 7: a device opened, a memory made.
   The document's memory: what lies in it; what is at a word.
   The document's device: flush, and what may not be.
   The document's device: fence. -/
import Derived.Test.YtibelcmdfkgonaaGreatK15
import Derived.Test.YtibelcmdfkgonaaGreatK17
import Derived.Test.YtibelcmdfkgonaaGreatK8
namespace Go.Proofs.YtibelcmdfkgonaaGreat
open Go.RowKit Go.BigFrame
set_option linter.unusedVariables false
set_option linter.unusedSimpArgs false
/-- So many loads were done. -/
def cntN (g : Gd) (s : MS) : Nat → Nat
  | 0 => 0
  | k + 1 => cntN g s k + (if (MS.run g k s).pc = 4 then 0 else 1)
theorem cntN_le (g : Gd) (s : MS) : ∀ k, cntN g s k ≤ k
  | 0 => Nat.le_refl _
  | k + 1 => by
    have := cntN_le g s k
    unfold cntN
    split <;> omega
theorem run_back (g : Gd) (k : Nat) (s : MS) : MS.run g (k + 1) s = (MS.run g k s).step g := by rw [run_add]; rfl
structure MS.Bd (s : MS) (a b : Nat) : Prop where
  pc : s.pc ≤ 4
  heads : s.heads.length ≤ a
  nodes : s.nodes.length ≤ b
theorem MS.Bd.mono {s : MS} {a b a' b' : Nat} (h : s.Bd a b) (ha : a ≤ a') (hb : b ≤ b') : s.Bd a' b' := ⟨h.pc, Nat.le_trans h.heads ha, Nat.le_trans h.nodes hb⟩
theorem over_bd (g : Gd) (s : MS) (a b : Nat) (h : s.Bd a b) : (s.over g).Bd a b := by
  unfold MS.over
  split
  · exact ⟨by show 4 ≤ 4; omega, h.heads, h.nodes⟩
  · refine ⟨?_, h.heads, h.nodes⟩
    show (if _ then 4 else 0) ≤ 4
    split <;> omega
theorem goOn_bd (g : Gd) (s : MS) (x a b : Nat) (h : s.Bd a b) : (s.goOn g x).Bd a b := by
  unfold MS.goOn
  split
  · exact over_bd g _ a b ⟨h.pc, h.heads, h.nodes⟩
  · split
    · exact ⟨by show 4 ≤ 4; omega, h.heads, h.nodes⟩
    · refine ⟨?_, h.heads, h.nodes⟩
      show (if s.list ≠ 0 then 1 else if s.first = true then 3 else 2) ≤ 4
      split
      · omega
      · split <;> omega
theorem step_bd (g : Gd) (s : MS) (a b : Nat) (h : s.Bd a b) : (s.step g).Bd (a + 1) (b + 1) := by
  have h1 := h.heads
  have h2 := h.nodes
  unfold MS.step
  split
  · exact h.mono (by omega) (by omega)
  · split
    · unfold MS.head
      split
      · exact ⟨by show 4 ≤ 4; omega, by show (s.heads ++ [_]).length ≤ a + 1; simp; omega, by show s.nodes.length ≤ b + 1; omega⟩
      · exact goOn_bd g _ _ _ _ ⟨h.pc, by show (s.heads ++ [_]).length ≤ a + 1; simp; omega, by show s.nodes.length ≤ b + 1; omega⟩
    · split
      · unfold MS.keyed
        split
        · exact ⟨by show 4 ≤ 4; omega, by show s.heads.length ≤ a + 1; omega, by show s.nodes.length ≤ b + 1; omega⟩
        · exact ⟨by show 2 ≤ 4; omega, by show s.heads.length ≤ a + 1; omega, by show s.nodes.length ≤ b + 1; omega⟩
      · split
        · unfold MS.valued
          split
          · exact ⟨by show 4 ≤ 4; omega, by show s.heads.length ≤ a + 1; omega, by show s.nodes.length ≤ b + 1; omega⟩
          · exact ⟨by show 3 ≤ 4; omega, by show s.heads.length ≤ a + 1; omega, by show s.nodes.length ≤ b + 1; omega⟩
        · unfold MS.linked
          split
          · exact ⟨by show 4 ≤ 4; omega, by show s.heads.length ≤ a + 1; omega, by show s.nodes.length ≤ b + 1; omega⟩
          · exact goOn_bd g _ _ _ _ ⟨h.pc, by show s.heads.length ≤ a + 1; omega, by show (s.nodes ++ [_]).length ≤ b + 1; simp; omega⟩
theorem run_bd (g : Gd) : ∀ k, (MS.run g k MS.start).Bd k k
  | 0 => ⟨Nat.zero_le _, Nat.le_refl _, Nat.le_refl _⟩
  | k + 1 => by rw [run_back]; exact step_bd g _ k k (run_bd g k)
/-- A mark behind k steps. -/
def MkRun (g : Gd) (M0 : Mv) (x : Nat) (K0 : Mk) (B : Nat) (W0 Wz : World) (k : Nat) (W : World) : Prop :=
  ∃ (M : Mv) (K : Mk), MemAt W M ∧ MkAt W K ∧ Sees g M K ∧ K.s = MS.run g k MS.start ∧ K.x = x ∧ (K.S = K0.S ∧ K.l = K0.l ∧ K.v = K0.v) ∧ Moved M0 M (cntN g MS.start k) ∧ Below B W0 W ∧ (∀ q, (M.own q ∨ K.own q) → B ≤ q) ∧ (∀ q, K.own q → K0.own q ∨ Wz.heap.size ≤ q) ∧ Wz.heap.size ≤ W.heap.size ∧ ∀ q, q < Wz.heap.size → ¬ M0.own q → ¬ K0.own q → W.heap[q]? = Wz.heap[q]?
theorem MkRun.below {g : Gd} {M0 : Mv} {x : Nat} {K0 : Mk} {B : Nat} {W0 Wz W W' : World} {k : Nat} (h : MkRun g M0 x K0 B W0 Wz k W) (hb : Below W.heap.size W W') : MkRun g M0 x K0 B W0 Wz k W' := by
  obtain ⟨M, K, h1, h2, h3, h4, h5, h6, h7, h8, h9, z1, z2, z3⟩ := h
  refine ⟨M, K, h1.below hb, ?_, h3, h4, h5, h6, h7, h8.trans ⟨hb.os, hb.tape, hb.output, hb.size, fun q hq => ?_⟩, h9, z1, Nat.le_trans z2 hb.size, fun q hq hm hk => (hb.block q (by omega)).trans (z3 q hq hm hk)⟩
  · exact { h2 with
      row := (hb.block _ (lt_row h2.row)).trans h2.row
      lay := h2.lay.keep (hb.block _ h2.lay.lt)
      ways := h2.ways.keep (hb.block _ h2.ways.lt)
      met := h2.met.keep (hb.block _ h2.met.lt)
      heads := own_keep' h2.heads fun q hq => hb.block q (h2.heads.lt q hq).2
      nodes := own_keep' h2.nodes fun q hq => hb.block q (h2.nodes.lt q hq).2 }
  · have hx : B ≤ W.heap.size := by
      have h1' := h9 K.x (.inr (.inl rfl))
      have := lt_row h2.row
      omega
    exact hb.block q (by omega)
theorem MkRun.step {g : Gd} {M0 : Mv} {x : Nat} {K0 : Mk} {B : Nat} {W0 Wz W : World} {k : Nat} (h : MkRun g M0 x K0 B W0 Wz k W) (hS : K0.S ≤ 100000) (hk : k ≤ 900000) (hck : M0.ck ≤ 100000) :
    Calls Tryz.prog 15 #[.pointer (some ⟨x, 0, none⟩), .pointer (some ⟨M0.m, 0, none⟩)] W fun e W' => (∃ u, e = .returned u) ∧ MkRun g M0 x K0 B W0 Wz (k + 1) W' := by
  obtain ⟨M, K, h1, h2, h3, h4, h5, h6, h7, h8, h9, z1, z2, z3⟩ := h
  have hbd := run_bd g k
  rw [← h4] at hbd
  have hc := cntN_le g MS.start k
  have hs := step_at M K g h3 hbd.pc (by rw [h6.1]; exact hS) (by have := hbd.heads; omega) (by have := hbd.nodes; omega) (by rw [h7.ck]; omega) W h1 h2
  rw [h5, h7.m] at hs
  refine hs.mono ?_
  rintro e W' ⟨rfl, ht, ⟨M', hM', hmv⟩, hv, nv, hK', b1, b2⟩
  have hBs : B ≤ W.heap.size := by
    have h1' := h9 K.x (.inr (.inl rfl))
    have := lt_row h2.row
    omega
  have hown : ∀ q, ({ K with s := K.s.step g, hv := hv, nv := nv } : Mk).own q → K.own q ∨ W.heap.size ≤ q := fun q hq => by
    rcases hq with e | e | e | e | e
    · exact .inl (.inl e)
    · exact .inl (.inr (.inl e))
    · exact .inl (.inr (.inr (.inl e)))
    · rcases b1 q e with e | e
      · exact .inl (.inr (.inr (.inr (.inl e))))
      · exact .inr e
    · rcases b2 q e with e | e
      · exact .inl (.inr (.inr (.inr (.inr e))))
      · exact .inr e
  refine ⟨⟨_, rfl⟩, M', { K with s := K.s.step g, hv := hv, nv := nv }, hM', hK', ?_, by rw [run_back, ← h4], h5, h6, ?_, ?_, ?_, ?_, Nat.le_trans z2 ht.size, ?_⟩
  · refine ⟨⟨h3.fits.S, h3.fits.T, h3.fits.nh, h3.fits.bu1, h3.fits.bu⟩, fun q hq => ?_, fun i hi => ?_, h3.at_, fun s hs => ?_, fun q hq => ?_⟩
    · rw [hmv.seen]; exact h3.w q (by rw [← hmv.n]; exact hq)
    · have := h3.hd i hi
      exact ⟨by rw [hmv.n]; exact this.1, this.2⟩
    · have := h3.pl s hs
      rw [hmv.n]; exact this
    · rw [hmv.own] at hq
      have := h3.apart q hq
      refine ⟨fun ho => ?_, this.2⟩
      rcases hown q ho with e | e
      · exact this.1 e
      · have := h1.lt hq; omega
  · have := h7.trans hmv
    rw [h4] at this
    exact this
  · exact h8.trans (ht.below hBs fun q hq ho => by
      have := h9 q (by rcases ho with e | e; exact .inl e; exact .inr e)
      omega)
  · intro q hq
    rcases hq with e | e
    · rw [hmv.own] at e; exact h9 q (.inl e)
    · rcases hown q e with e | e
      · exact h9 q (.inr e)
      · omega
  · intro q hq
    rcases hown q hq with e | e
    · exact z1 q e
    · exact .inr (Nat.le_trans z2 e)
  · intro q hq hm hk
    refine (ht.block q (by omega) ?_).trans (z3 q hq hm hk)
    rintro (e | e)
    · exact hm (by rw [← h7.own]; exact e)
    · rcases z1 q e with e | e
      · exact hk e
      · omega
end Go.Proofs.YtibelcmdfkgonaaGreat

namespace Go.Proofs.YtibelcmdfkgonaaGreat
open Go.RowKit Go.BigFrame
set_option linter.unusedVariables false
set_option linter.unusedSimpArgs false
/-- Why words are no device. -/
def mayOpenE (n : Nat) (t : Int) : Int := if ¬ (1 ≤ t ∧ t ≤ 64) then 1 else if wholeE n ≠ 0 then wholeE n else if n = 0 then 3 else 0
theorem mayOpen_ok {n : Nat} {t : Int} (h : mayOpenE n t = 0) : (1 ≤ t ∧ t ≤ 64) ∧ wholeE n = 0 ∧ 0 < n := by
  unfold mayOpenE at h
  by_cases h1 : 1 ≤ t ∧ t ≤ 64
  · rw [if_neg (by simpa using h1)] at h
    by_cases h2 : wholeE n = 0
    · rw [if_neg (by simpa using h2)] at h
      by_cases h3 : n = 0
      · rw [if_pos h3] at h; omega
      · exact ⟨h1, h2, by omega⟩
    · rw [if_pos h2] at h; exact absurd h h2
  · rw [if_pos h1] at h; omega
theorem wholeE_eq {n : Nat} (h : wholeE n = 0) : 8 * (n / 8) = n ∧ n / 8 ≤ 262144 := by
  unfold wholeE at h
  split at h
  · omega
  · split at h <;> omega
/-- A device opened of words, or why not. -/
def OpenTo (f : Nat → Int) (n : Nat) (t : Int) (W : World) (e : Ending) (W' : World) : Prop :=
  Below W.heap.size W W' ∧ (mayOpenE n t ≠ 0 ∧ e = .returned (.tuple #[.pointer none, .int .i64 (mayOpenE n t)]) ∨
    mayOpenE n t = 0 ∧ ∃ d kb sb wb fb c0 c1, e = .returned (.tuple #[.pointer (some ⟨d, 0, none⟩), .int .i64 0]) ∧ DevAt W' W.heap.size d kb sb wb fb (n / 8) t.toNat c0 c1 f)
theorem open18_err (a : Option Addr) (n cap : Nat) (hn : n ≤ 9223372036854775807) (t : Int) (f : Nat → Int) (w : World) (h1 : 1 ≤ t ∧ t ≤ 64) (h2 : wholeE n ≠ 0) :
    Calls Tryz.prog 61 #[.slice a n cap, .int .i64 t] w (OpenTo f n t w) := by
  have HT := Lib.hid (threads34 t w)
  rw [bool_yes h1] at HT
  have HC := Lib.hid (cut35_no a n cap hn h2 w)
  have HE : Hid (mayOpenE n t = wholeE n ∧ mayOpenE n t ≠ 0) := Lib.hid (by unfold mayOpenE; rw [if_neg (by simpa using h1), if_pos h2]; exact ⟨rfl, h2⟩)
  generalize wholeE n = e at *
  have e1 : (e != 0) = true := by simpa using h2
  clear h1 h2
  go_enter Tryz.func61, Tryz.ntmps61
  go_wp2_with fail
  refine HT.out.mono ?_
  rintro e w' ⟨rfl, hw⟩
  cases hw
  go_wp2_with fail
  with_reducible refine HC.out.mono ?_
  rintro e w1 ⟨rfl, hb, hh⟩
  have HB := Lib.hid hb
  clear hb hh
  go_wp2_with fail
  go_ret2
  exact ⟨HB.out, Or.inl ⟨HE.out.2, by rw [HE.out.1]; rfl⟩⟩
theorem open18_none (a : Option Addr) (cap : Nat) (hc : cap ≤ 9223372036854775807) (t : Int) (f : Nat → Int) (w : World) (h1 : 1 ≤ t ∧ t ≤ 64) :
    Calls Tryz.prog 61 #[.slice a 0 cap, .int .i64 t] w (OpenTo f 0 t w) := by
  have HT := Lib.hid (threads34 t w)
  rw [bool_yes h1] at HT
  have HC : Hid (Calls Tryz.prog 124 #[.slice a 0 cap] w (CutTo f 0 w)) := Lib.hid (cut35 a 0 0 0 cap (fun h => by omega) (by omega) hc rfl f w (fun h => by omega) (fun j hj => by omega))
  have HE : Hid (mayOpenE 0 t = 3) := Lib.hid (by unfold mayOpenE; rw [if_neg (by simpa using h1)]; rfl)
  clear h1
  go_enter Tryz.func61, Tryz.ntmps61
  go_wp2_with fail
  refine HT.out.mono ?_
  rintro e w' ⟨rfl, hw⟩
  cases hw
  go_wp2_with fail
  with_reducible refine HC.out.mono ?_
  rintro e w1 ⟨v, rfl, hb, ho⟩
  obtain ⟨va, vc, rfl⟩ := own_slice_n ho
  have HB := Lib.hid hb
  clear hb ho
  go_wp2_with fail
  go_ret2
  exact ⟨HB.out, Or.inl ⟨by rw [HE.out]; omega, by rw [HE.out]; rfl⟩⟩
theorem open18_yes (a : Option Addr) (b off n cap : Nat) (ha : 0 < n → a = some ⟨b, off, none⟩) (hn : n ≤ cap) (hc : cap ≤ 9223372036854775807) (t : Int) (f : Nat → Int) (w : World) (h0 : mayOpenE n t = 0) (hb : b < w.heap.size) (hw : ∀ j, j < n → w.cell? ⟨b, off + j, none⟩ = some (.int .u64 (f j))) :
    Calls Tryz.prog 61 #[.slice a n cap, .int .i64 t] w (OpenTo f n t w) := by
  obtain ⟨h1, h2, h3⟩ := mayOpen_ok h0
  obtain ⟨h4, h5⟩ := wholeE_eq h2
  have HT := Lib.hid (threads34 t w)
  rw [bool_yes h1] at HT
  have HC := Lib.hid (cut35 a b off n cap (fun _ => ha h3) hn hc h2 f w (fun _ => hb) hw)
  unfold CutTo at HC
  obtain ⟨m, hm⟩ : ∃ m, m = n / 8 := ⟨_, rfl⟩
  rw [← hm] at HC
  have HM : Hid (n / 8 = m) := Lib.hid hm.symm
  obtain ⟨k, rfl⟩ := Int.eq_ofNat_of_zero_le (show 0 ≤ t by omega)
  have HD : Hid (∀ g c w1, w1.ownsRow w.heap.size 218 8 (.slice (some ⟨g, 0, none⟩) m c) m (wordsL f (8 * m)) → Calls Tryz.prog 125 #[.slice (some ⟨g, 0, none⟩) m c, .int .i64 k] w1 (MadeTo w.heap.size g m c k f w1)) := Lib.hid fun g c w1 h => made36 w.heap.size g m c k (by omega) (by omega) (by omega) f w1 h
  have HE := Lib.hid h0
  have hm0 : 0 < m := by omega
  have m1 : ((m : Int) == 0) = false := by simp; omega
  have m2 : (m == 0) = false := by simp; omega
  have HS : Hid (8 * m = n) := Lib.hid (by omega)
  clear h0 h1 h2 h3 h4 h5 hw ha hn hc hm hb
  go_enter Tryz.func61, Tryz.ntmps61
  go_wp2_with fail
  refine HT.out.mono ?_
  rintro e w' ⟨rfl, hw⟩
  cases hw
  go_wp2_with fail
  with_reducible refine HC.out.mono ?_
  rintro e w1 ⟨v, rfl, hb, ho⟩
  obtain ⟨g, c, cc, rfl, -⟩ := own_row ho hm0
  have HB := Lib.hid hb
  have HDD := Lib.hid (HD.out g c w1 ho)
  clear hb ho HD
  go_wp2_with fail
  with_reducible refine HDD.out.mono ?_
  rintro e w2 ⟨d, sb, wb, fb, c1, rfl, hb2, hd⟩
  have HB2 := Lib.hid hb2
  have HDV := Lib.hid hd
  clear hb2 hd
  go_wp2_with fail
  go_ret2
  exact ⟨HB.out.trans (HB2.out.mono HB.out.size), Or.inr ⟨HE.out, d, g, sb, wb, fb, c, c1, rfl, by rw [HM.out]; exact HDV.out⟩⟩
theorem info42' : (Tryz.prog.info? 48).map (fun i => (i.zero, i.size, i.bytes)) = some (some (.int .u64 0), 1, 8) := by kernel_rfl
/-- A memory made. -/
def NewTo (d np : Nat) (W : World) (e : Ending) (W' : World) : Prop :=
  ∃ m pb, e = .returned (.tuple #[.pointer (some ⟨m, 0, none⟩), .int .i64 0]) ∧ Below W.heap.size W W' ∧ W.heap.size ≤ m ∧ W.heap.size ≤ pb ∧ m ≠ pb ∧
    MemRow W' m (.pointer (some ⟨d, 0, none⟩)) (.slice (some ⟨pb, 0, none⟩) np np) 0 0 ⟨0, 0, 0, 0, 0, false⟩ ∧ RowAt W' pb np fun _ => .int .u64 0
theorem new19_yes (d np : Nat) (hp : np ≤ 262144) (w : World) : Calls Tryz.prog 62 #[.pointer (some ⟨d, 0, none⟩), .int .i64 np] w (NewTo d np w) := by
  have mk1 := mk_row 33 48 _ _ 8 Tryz.underlying33 info42' rfl np (by omega) (by omega)
  have d0 : decide ((np : Int) < 0) = false := bool_no (by omega)
  have d1 : decide (262144 < (np : Int)) = false := bool_no (by omega)
  have i0 : (0 : Int) ≤ (np : Int) := by omega
  go_enter Tryz.func62, Tryz.ntmps62
  go_wp2_with fail
  go_ret2
  refine ⟨w.heap.size + 1, w.heap.size, rfl, ((Below.refl _ _).alloc (Nat.le_refl _) _).alloc (by simp) _, by omega, by omega, by omega, (two_new w _ _).2, ⟨_, _, (two_new w _ _).1, fun k hk => made_get _ _ _ hk⟩⟩
end Go.Proofs.YtibelcmdfkgonaaGreat

namespace Go.Proofs.YtibelcmdfkgonaaGreat
open Go.RowKit Go.BigFrame
set_option linter.unusedVariables false
set_option linter.unusedSimpArgs false
/-- The document's memory. -/
structure Rv where
  m : Nat
  d : Nat
  kb : Nat
  sb : Nat
  wb : Nat
  fb : Nat
  pb : Nat
  n : Nat
  nt : Nat
  np : Nat
  c0 : Nat
  c1 : Nat
  c2 : Nat
  c3 : Nat
  c4 : Nat
  fg : Nat → Nat
  fc : Nat → Nat
  kept : Nat → Int
  seen : Nat → Int
  pass : Nat → Int
  wr : Nat → Int
  fl : Nat → Nat → Bool
  ck : Int
  bd : Int
  la : Acc
  wm : Int
def Rv.blocks (M : Rv) : List Nat := [M.m, M.d, M.kb, M.sb, M.wb, M.fb, M.pb]
def Rv.own (M : Rv) (k : Nat) : Prop := k ∈ M.blocks ∨ ∃ t, t < M.nt ∧ M.fg t = k
structure RefAt (W : World) (M : Rv) : Prop where
  row : W.heap[M.m]? = some (.cells #[.pointer (some ⟨M.d, 0, none⟩), .slice (some ⟨M.pb, 0, none⟩) M.np M.c4, .int .i64 M.ck, .int .i64 M.bd, .int .i64 M.la.ki, .int .i64 M.la.th, .int .i64 M.la.pl, .int .u64 M.la.ol, .int .u64 M.la.ne, .bool M.la.dn] 200 (0, 0))
  dev : W.heap[M.d]? = some (.cells #[.slice (some ⟨M.kb, 0, none⟩) (8 * M.n) M.c0, .slice (some ⟨M.sb, 0, none⟩) (8 * M.n) M.c1, .slice (some ⟨M.wb, 0, none⟩) M.n M.c2, .slice (some ⟨M.fb, 0, none⟩) M.nt M.c3] 205 (0, 0))
  kept : RowAt W M.kb (8 * M.n) fun k => .int .u64 (M.kept k)
  seen : RowAt W M.sb (8 * M.n) fun k => .int .u64 (M.seen k)
  wr : RowAt W M.wb M.n fun k => .int .i64 (M.wr k)
  fb : RowAt W M.fb M.nt fun t => .slice (some ⟨M.fg t, 0, none⟩) M.n (M.fc t)
  pass : RowAt W M.pb M.np fun k => .int .u64 (M.pass k)
  fl : ∀ t, t < M.nt → RowAt W (M.fg t) M.n fun k => .bool (M.fl t k)
  apart : M.blocks.Nodup
  alone : ∀ t, t < M.nt → M.fg t ∉ M.blocks
  lone : ∀ t, t < M.nt → ∀ t', t' < M.nt → t ≠ t' → M.fg t ≠ M.fg t'
  n0 : 0 < M.n
  n1 : M.n ≤ 262144
  t1 : M.nt ≤ 64
  p1 : M.np ≤ 262144
  ck0 : 0 ≤ M.ck
  bd0 : 0 ≤ M.bd
  bd1 : M.bd ≤ M.ck
  wr0 : ∀ k, k < M.n → 0 ≤ M.wr k ∧ M.wr k ≤ M.wm
structure Rv.Ne (M : Rv) : Prop where
  md : M.m ≠ M.d
  mkb : M.m ≠ M.kb
  ms : M.m ≠ M.sb
  mw : M.m ≠ M.wb
  mf : M.m ≠ M.fb
  mp : M.m ≠ M.pb
  dk : M.d ≠ M.kb
  ds : M.d ≠ M.sb
  dw : M.d ≠ M.wb
  df : M.d ≠ M.fb
  dp : M.d ≠ M.pb
  ks : M.kb ≠ M.sb
  kw : M.kb ≠ M.wb
  kf : M.kb ≠ M.fb
  kp : M.kb ≠ M.pb
  sw : M.sb ≠ M.wb
  sf : M.sb ≠ M.fb
  sp : M.sb ≠ M.pb
  wf : M.wb ≠ M.fb
  wp : M.wb ≠ M.pb
  fp : M.fb ≠ M.pb
theorem RefAt.ne {W : World} {M : Rv} (h : RefAt W M) : M.Ne := by
  have := h.apart
  simp only [Rv.blocks, List.nodup_cons, List.mem_cons, List.not_mem_nil, or_false, not_or, List.nodup_nil, and_true, not_false_eq_true] at this
  obtain ⟨⟨a1, a2, a3, a4, a5, a6⟩, ⟨b1, b2, b3, b4, b5⟩, ⟨c1, c2, c3, c4⟩, ⟨d1, d2, d3⟩, ⟨e1, e2⟩, f1⟩ := this
  exact ⟨a1, a2, a3, a4, a5, a6, b1, b2, b3, b4, b5, c1, c2, c3, c4, d1, d2, d3, e1, e2, f1⟩
theorem RefAt.lt {W : World} {M : Rv} (h : RefAt W M) {k : Nat} (hk : M.own k) : k < W.heap.size := by
  rcases hk with hk | ⟨t, ht, e⟩
  · simp only [Rv.blocks, List.mem_cons, List.not_mem_nil, or_false] at hk
    rcases hk with rfl | rfl | rfl | rfl | rfl | rfl | rfl
    · exact (Array.getElem?_eq_some_iff.1 h.row).1
    · exact (Array.getElem?_eq_some_iff.1 h.dev).1
    · exact h.kept.lt
    · exact h.seen.lt
    · exact h.wr.lt
    · exact h.fb.lt
    · exact h.pass.lt
  · rw [← e]; exact (h.fl t ht).lt
theorem RefAt.keep {W W' : World} {M : Rv} (h : RefAt W M) (e : ∀ k, M.own k → W'.heap[k]? = W.heap[k]?) : RefAt W' M := by
  have o : ∀ k, k ∈ M.blocks → W'.heap[k]? = W.heap[k]? := fun k hk => e k (Or.inl hk)
  exact { h with
    row := (o _ (by simp [Rv.blocks])).trans h.row
    dev := (o _ (by simp [Rv.blocks])).trans h.dev
    kept := h.kept.keep (o _ (by simp [Rv.blocks]))
    seen := h.seen.keep (o _ (by simp [Rv.blocks]))
    wr := h.wr.keep (o _ (by simp [Rv.blocks]))
    fb := h.fb.keep (o _ (by simp [Rv.blocks]))
    pass := h.pass.keep (o _ (by simp [Rv.blocks]))
    fl := fun t ht => (h.fl t ht).keep (e _ (Or.inr ⟨t, ht, rfl⟩)) }
theorem RefAt.turn {W W' : World} {M : Rv} {F : Nat → Prop} (h : RefAt W M) (t : Turn F W W') (hd : ∀ k, M.own k → ¬ F k) : RefAt W' M :=
  h.keep fun k hk => t.block k (h.lt hk) (hd k hk)
theorem RefAt.below {W W' : World} {M : Rv} (h : RefAt W M) (t : Below W.heap.size W W') : RefAt W' M :=
  h.keep fun k hk => t.block k (h.lt hk)
theorem RefAt.not_own {W : World} {M : Rv} (h : RefAt W M) {k : Nat} (hk : W.heap.size ≤ k) : ¬ M.own k := fun e => by have := h.lt e; omega
def Rv.peek (M : Rv) (at_ : Int) : Int × Bool := peekV M.n M.np M.seen M.pass at_
set_option maxRecDepth 100000 in
theorem refPeek43 (M : Rv) (at_ : Int) (q0 : -9223372036854775808 ≤ at_) (q1 : at_ ≤ 9223372036854775807) (W : World) (h : RefAt W M) :
    Calls Tryz.prog 129 #[.pointer (some ⟨M.m, 0, none⟩), .int .i64 at_] W (Tells (.tuple #[.int .u64 (M.peek at_).1, .bool (M.peek at_).2]) W) := by
  obtain ⟨x0, x1, -⟩ := row10 h.row
  have y1 : W.cell? ⟨M.d, 1, none⟩ = some (.slice (some ⟨M.sb, 0, none⟩) (8 * M.n) M.c1) := by rw [cell_in h.dev]; rfl
  have hn := h.n1
  have hp := h.p1
  have HH := Lib.hid h
  clear h
  unfold Rv.peek
  by_cases h0 : 0 ≤ at_
  · have d0 : decide (0 ≤ at_) = true := bool_yes h0
    have d2 : decide (at_ < 0) = false := bool_no (by omega)
    by_cases h1 : at_ / 8 < (M.n : Int)
    · rw [show peekV M.n M.np M.seen M.pass at_ = (M.seen at_.toNat, true) by rw [peekV, if_pos h0, if_pos h1]]
      obtain ⟨k, rfl⟩ := Int.eq_ofNat_of_zero_le h0
      have hc := HH.out.seen.cell (k := k) (by omega)
      rw [Int.toNat_natCast]
      generalize M.seen k = v at *
      have d1 : decide ((k : Int) < ((8 * M.n : Nat) : Int)) = true := bool_yes (by omega)
      have f2 : (k : Int) < ((8 * M.n : Nat) : Int) := by omega
      obtain ⟨N, hN⟩ : ∃ N, N = 8 * M.n := ⟨_, rfl⟩
      rw [← hN] at y1 d1 f2
      have hN2 : N ≤ 2097152 := by omega
      clear hN h1
      go_enter Tryz.func129, Tryz.ntmps129
      go_wp2_with fail
      go_ret2
      exact ⟨rfl, Below.refl _ _, rfl⟩
    · rw [show peekV M.n M.np M.seen M.pass at_ = (0, false) by rw [peekV, if_pos h0, if_neg h1]]
      have d1 : decide (at_ < ((8 * M.n : Nat) : Int)) = false := bool_no (by omega)
      obtain ⟨N, hN⟩ : ∃ N, N = 8 * M.n := ⟨_, rfl⟩
      rw [← hN] at y1 d1
      have hN2 : N ≤ 2097152 := by omega
      clear hN h1
      go_enter Tryz.func129, Tryz.ntmps129
      go_wp2_with fail
      go_ret2
      exact ⟨rfl, Below.refl _ _, rfl⟩
  · have d0 : decide (0 ≤ at_) = false := bool_no h0
    have d2 : decide (at_ < 0) = true := bool_yes (by omega)
    by_cases h1 : -1 - at_ < (M.np : Int)
    · rw [show peekV M.n M.np M.seen M.pass at_ = (M.pass (-1 - at_).toNat, true) by rw [peekV, if_neg h0, if_pos h1]]
      have hc := HH.out.pass.cell (k := (-1 - at_).toNat) (by omega)
      generalize M.pass (-1 - at_).toNat = v at *
      obtain ⟨k, hk⟩ := Int.eq_ofNat_of_zero_le (show 0 ≤ -1 - at_ by omega)
      rw [hk] at hc
      have hc2 : W.cell? ⟨M.pb, k, none⟩ = some (.int .u64 v) := hc
      obtain rfl : at_ = -1 - (k : Int) := by omega
      have f2 : (k : Int) < (M.np : Int) := by omega
      have d3 : decide (-(M.np : Int) ≤ -1 - (k : Int)) = true := bool_yes (by omega)
      have e3 : (-1 - (-1 - (k : Int)) : Int) = (k : Int) := by omega
      clear hc hk h1
      go_enter Tryz.func129, Tryz.ntmps129
      go_wp2_with fail
      go_ret2
      exact ⟨rfl, Below.refl _ _, rfl⟩
    · rw [show peekV M.n M.np M.seen M.pass at_ = (0, false) by rw [peekV, if_neg h0, if_neg h1]]
      have d3 : decide (-(M.np : Int) ≤ at_) = false := bool_no (by omega)
      clear h1
      go_enter Tryz.func129, Tryz.ntmps129
      go_wp2_with fail
      go_ret2
      exact ⟨rfl, Below.refl _ _, rfl⟩
end Go.Proofs.YtibelcmdfkgonaaGreat

namespace Go.Proofs.YtibelcmdfkgonaaGreat
open Go.RowKit Go.BigFrame
set_option linter.unusedVariables false
set_option linter.unusedSimpArgs false
def Rv.flushE (M : Rv) (t l : Int) : Int := if threadE M.nt t = 0 then lineE M.n l else 1
def Rv.flushed (M : Rv) (t l : Int) : Rv := { M with fl := upd M.fl t.toNat (upd (M.fl t.toNat) l.toNat true) }
/-- It answers; the document's memory is as told; nothing else has turned. -/
def RDone (M M' : Rv) (v : Value) (W : World) (e : Ending) (W' : World) : Prop := e = .returned v ∧ RefAt W' M' ∧ Turn M.own W W'
theorem RefAt.set_fl {W : World} {M : Rv} (h : RefAt W M) {t : Nat} (ht : t < M.nt) (j : Nat) (v : Bool) :
    RefAt (W.setCell ⟨M.fg t, j, none⟩ (.bool v)) { M with fl := upd M.fl t (upd (M.fl t) j v) } := by
  have o : ∀ k, k ∈ M.blocks → (W.setCell ⟨M.fg t, j, none⟩ (.bool v)).heap[k]? = W.heap[k]? := fun k hk => heap_set_other fun e => h.alone t ht (e ▸ hk)
  exact { h with
    row := (o _ (by simp [Rv.blocks])).trans h.row
    dev := (o _ (by simp [Rv.blocks])).trans h.dev
    kept := h.kept.keep (o _ (by simp [Rv.blocks]))
    seen := h.seen.keep (o _ (by simp [Rv.blocks]))
    wr := h.wr.keep (o _ (by simp [Rv.blocks]))
    fb := h.fb.keep (o _ (by simp [Rv.blocks]))
    pass := h.pass.keep (o _ (by simp [Rv.blocks]))
    fl := fun t' ht' => by
      show RowAt _ (M.fg t') M.n fun k => .bool (upd M.fl t (upd (M.fl t) j v) t' k)
      by_cases e : t' = t
      · subst e
        rw [upd_at]
        have := (h.fl _ ht).set j (.bool v)
        simp only [upd_map]
        exact this
      · rw [upd_ne _ _ e]
        exact (h.fl t' ht').keep (heap_set_other (h.lone t' ht' t ht e)) }
theorem dev_cells {W : World} {b : Nat} {k0 k1 k2 k3 : Value} {t : TypeId} (h : W.heap[b]? = some (.cells #[k0, k1, k2, k3] t (0, 0))) :
    W.cell? ⟨b, 0, none⟩ = some k0 ∧ W.cell? ⟨b, 1, none⟩ = some k1 ∧ W.cell? ⟨b, 2, none⟩ = some k2 ∧ W.cell? ⟨b, 3, none⟩ = some k3 := by
  refine ⟨?_, ?_, ?_, ?_⟩ <;> (rw [cell_of_row _ _ _ _ _ _ h]; rfl)
set_option maxRecDepth 100000 in
theorem refDo44_flush (M : Rv) (t l : Int) (W : World) (h : RefAt W M) :
    Calls Tryz.prog 116 #[.pointer (some ⟨M.d, 0, none⟩), .int .i64 0, .int .i64 t, .int .i64 l] W (RDone M (if M.flushE t l = 0 then M.flushed t l else M) (.int .i64 (M.flushE t l)) W) := by
  obtain ⟨y0, y1, y2, y3⟩ := dev_cells h.dev
  have hn := h.n1
  have ht1 := h.t1
  have HH := Lib.hid h
  clear h
  unfold Rv.flushE threadE lineE
  by_cases h0 : t < 0
  · have d0 : decide (t < 0) = true := bool_yes h0
    rw [if_pos (show t < 0 ∨ (M.nt : Int) ≤ t from Or.inl h0), if_neg (by omega : ¬ ((1 : Int) = 0)), if_neg (by omega : ¬ ((1 : Int) = 0))]
    clear h0
    go_enter Tryz.func116, Tryz.ntmps116
    go_wp2_with fail
    go_ret
    exact ⟨rfl, HH.out, Turn.refl _ _⟩
  · have d0 : decide (t < 0) = false := bool_no h0
    by_cases h1 : (M.nt : Int) ≤ t
    · have d1 : decide ((M.nt : Int) ≤ t) = true := bool_yes h1
      rw [if_pos (show t < 0 ∨ (M.nt : Int) ≤ t from Or.inr h1), if_neg (by omega : ¬ ((1 : Int) = 0)), if_neg (by omega : ¬ ((1 : Int) = 0))]
      clear h0 h1
      go_enter Tryz.func116, Tryz.ntmps116
      go_wp2_with fail
      go_ret
      exact ⟨rfl, HH.out, Turn.refl _ _⟩
    · have d1 : decide ((M.nt : Int) ≤ t) = false := bool_no h1
      rw [if_neg (show ¬ (t < 0 ∨ (M.nt : Int) ≤ t) by omega)]
      simp only [if_true]
      by_cases h2 : l < 0
      · have d2 : decide (l < 0) = true := bool_yes h2
        rw [if_pos (show l < 0 ∨ (M.n : Int) ≤ l from Or.inl h2), if_neg (by omega : ¬ ((5 : Int) = 0))]
        clear h0 h1 h2
        go_enter Tryz.func116, Tryz.ntmps116
        go_wp2_with fail
        go_ret
        exact ⟨rfl, HH.out, Turn.refl _ _⟩
      · have d2 : decide (l < 0) = false := bool_no h2
        by_cases h3 : (M.n : Int) ≤ l
        · have d3 : decide ((M.n : Int) ≤ l) = true := bool_yes h3
          rw [if_pos (show l < 0 ∨ (M.n : Int) ≤ l from Or.inr h3), if_neg (by omega : ¬ ((5 : Int) = 0))]
          clear h0 h1 h2 h3
          go_enter Tryz.func116, Tryz.ntmps116
          go_wp2_with fail
          go_ret
          exact ⟨rfl, HH.out, Turn.refl _ _⟩
        · have d3 : decide ((M.n : Int) ≤ l) = false := bool_no h3
          rw [if_neg (show ¬ (l < 0 ∨ (M.n : Int) ≤ l) by omega)]
          simp only [if_true]
          obtain ⟨a, rfl⟩ := Int.eq_ofNat_of_zero_le (show 0 ≤ t by omega)
          obtain ⟨b, rfl⟩ := Int.eq_ofNat_of_zero_le (show 0 ≤ l by omega)
          have ha : a < M.nt := by omega
          have hb : b < M.n := by omega
          have HS := Lib.hid (HH.out.set_fl ha b true)
          have HO : Hid (M.own (M.fg a)) := Lib.hid (Or.inr ⟨a, ha, rfl⟩)
          have g1 := HH.out.fb.cell ha
          have g2 := (HH.out.fl a ha).cell hb
          have g3 := (HH.out.fl a ha).free b
          have i0 : (0 : Int) ≤ (a : Int) := by omega
          have i1 : (a : Int) < (M.nt : Int) := by omega
          have i2 : (0 : Int) ≤ (b : Int) := by omega
          have i3 : (b : Int) < (M.n : Int) := by omega
          have HE : Hid (M.flushed (a : Int) (b : Int) = { M with fl := upd M.fl a (upd (M.fl a) b true) }) := Lib.hid rfl
          generalize M.fl a b = u at *
          generalize M.fg a = g at *
          generalize M.fc a = c at *
          obtain ⟨N, hN⟩ : ∃ N, N = M.flushed (a : Int) (b : Int) := ⟨_, rfl⟩
          rw [← hN] at HE ⊢
          have HS2 : Hid (RefAt (W.setCell ⟨g, b, none⟩ (.bool true)) N) := Lib.hid (by rw [HE.out]; exact HS.out)
          clear ha hb h0 h1 h2 h3
          go_enter Tryz.func116, Tryz.ntmps116
          go_wp2_with fail
          go_ret
          exact ⟨rfl, HS2.out, (Turn.refl _ _).set (fun _ => HO.out) _ _⟩
set_option maxRecDepth 100000 in
theorem refDo44_fence_no (M : Rv) (t l : Int) (W : World) (h : RefAt W M) (hn : threadE M.nt t ≠ 0) :
    Calls Tryz.prog 116 #[.pointer (some ⟨M.d, 0, none⟩), .int .i64 1, .int .i64 t, .int .i64 l] W (RDone M M (.int .i64 1) W) := by
  obtain ⟨y0, y1, y2, y3⟩ := dev_cells h.dev
  have ht1 := h.t1
  have HH := Lib.hid h
  clear h
  unfold threadE at hn
  by_cases h0 : t < 0
  · have d0 : decide (t < 0) = true := bool_yes h0
    clear h0 hn
    go_enter Tryz.func116, Tryz.ntmps116
    go_wp2_with fail
    go_ret
    exact ⟨rfl, HH.out, Turn.refl _ _⟩
  · have d0 : decide (t < 0) = false := bool_no h0
    have h1 : (M.nt : Int) ≤ t := by
      rcases Int.lt_or_le t (M.nt : Int) with h | h
      · rw [if_neg (by omega)] at hn; exact absurd rfl hn
      · exact h
    have d1 : decide ((M.nt : Int) ≤ t) = true := bool_yes h1
    clear h0 h1 hn
    go_enter Tryz.func116, Tryz.ntmps116
    go_wp2_with fail
    go_ret
    exact ⟨rfl, HH.out, Turn.refl _ _⟩
end Go.Proofs.YtibelcmdfkgonaaGreat

namespace Go.Proofs.YtibelcmdfkgonaaGreat
open Go.RowKit Go.BigFrame
set_option linter.unusedVariables false
set_option linter.unusedSimpArgs false
theorem RefAt.set_kept {W : World} {M : Rv} (h : RefAt W M) (k : Nat) (v : Int) : RefAt (W.setCell ⟨M.kb, k, none⟩ (.int .u64 v)) { M with kept := upd M.kept k v } := by
  have n := h.ne
  exact { h with
    row := (heap_set_other n.mkb).trans h.row
    dev := (heap_set_other n.dk).trans h.dev
    kept := by
      have := h.kept.set k (.int .u64 v)
      simp only [upd_map]; exact this
    seen := h.seen.keep (heap_set_other (Ne.symm n.ks))
    wr := h.wr.keep (heap_set_other (Ne.symm n.kw))
    fb := h.fb.keep (heap_set_other (Ne.symm n.kf))
    pass := h.pass.keep (heap_set_other (Ne.symm n.kp))
    fl := fun t ht => (h.fl t ht).keep (heap_set_other fun e => h.alone t ht (by rw [e]; simp [Rv.blocks])) }
theorem RefAt.set_wr {W : World} {M : Rv} (h : RefAt W M) (k : Nat) (v : Int) (h0 : 0 ≤ v) (h1 : v ≤ M.wm) : RefAt (W.setCell ⟨M.wb, k, none⟩ (.int .i64 v)) { M with wr := upd M.wr k v } := by
  have n := h.ne
  exact { h with
    row := (heap_set_other n.mw).trans h.row
    dev := (heap_set_other n.dw).trans h.dev
    kept := h.kept.keep (heap_set_other n.kw)
    seen := h.seen.keep (heap_set_other n.sw)
    wr := by
      have := h.wr.set k (.int .i64 v)
      simp only [upd_map]; exact this
    fb := h.fb.keep (heap_set_other (Ne.symm n.wf))
    pass := h.pass.keep (heap_set_other (Ne.symm n.wp))
    fl := fun t ht => (h.fl t ht).keep (heap_set_other fun e => h.alone t ht (by rw [e]; simp [Rv.blocks]))
    wr0 := fun j hj => by
      show 0 ≤ upd M.wr k v j ∧ upd M.wr k v j ≤ M.wm
      by_cases e : j = k
      · rw [e, upd_at]; exact ⟨h0, h1⟩
      · rw [upd_ne _ _ e]; exact h.wr0 j hj }
/-- The first k lines that a thread flushes are written back. -/
def Rv.upto (M : Rv) (t k : Nat) : Rv := { M with kept := fun i => if i / 8 < k ∧ M.fl t (i / 8) = true then M.seen i else M.kept i, wr := fun j => if j < k ∧ M.fl t j = true then M.wr j + 1 else M.wr j, wm := M.wm + 1 }
/-- .. and j words of the next one. -/
def Rv.upto2 (M : Rv) (t k j : Nat) : Rv := { M.upto t k with kept := fun i => if i / 8 = k ∧ i % 8 < j then M.seen i else (M.upto t k).kept i }
theorem upto_0 {W : World} {M : Rv} (h : RefAt W M) (t : Nat) : RefAt W (M.upto t 0) := by
  exact { h with
    kept := h.kept.congr fun k _ => by simp [Rv.upto]
    wr := h.wr.congr fun k _ => by simp [Rv.upto]
    wr0 := fun k hk => by have := h.wr0 k hk; simp [Rv.upto]; omega }
theorem upto2_0 (M : Rv) (t k : Nat) : M.upto2 t k 0 = M.upto t k := by
  unfold Rv.upto2
  have : (fun i => if i / 8 = k ∧ i % 8 < 0 then M.seen i else (M.upto t k).kept i) = (M.upto t k).kept := by funext i; rw [if_neg (by omega)]
  rw [this]
theorem upto2_step (M : Rv) (t k j : Nat) (hj : j < 8) : { M.upto2 t k j with kept := upd (M.upto2 t k j).kept (8 * k + j) (M.seen (8 * k + j)) } = M.upto2 t k (j + 1) := by
  have : upd (M.upto2 t k j).kept (8 * k + j) (M.seen (8 * k + j)) = (M.upto2 t k (j + 1)).kept := by
    funext i
    show upd (fun i => if i / 8 = k ∧ i % 8 < j then M.seen i else (M.upto t k).kept i) (8 * k + j) (M.seen (8 * k + j)) i = if i / 8 = k ∧ i % 8 < j + 1 then M.seen i else (M.upto t k).kept i
    by_cases e : i = 8 * k + j
    · rw [e, upd_at, if_pos (by omega)]
    · rw [upd_ne _ _ e]
      by_cases c : i / 8 = k ∧ i % 8 < j
      · rw [if_pos c, if_pos (by omega)]
      · rw [if_neg c, if_neg (by omega)]
  rw [this]; rfl
theorem upto_yes (M : Rv) (t k : Nat) (h : M.fl t k = true) : { M.upto2 t k 8 with wr := upd (M.upto2 t k 8).wr k (M.wr k + 1) } = M.upto t (k + 1) := by
  have e1 : upd (M.upto2 t k 8).wr k (M.wr k + 1) = (M.upto t (k + 1)).wr := by
    funext i
    show upd (fun j => if j < k ∧ M.fl t j = true then M.wr j + 1 else M.wr j) k (M.wr k + 1) i = if i < k + 1 ∧ M.fl t i = true then M.wr i + 1 else M.wr i
    by_cases e : i = k
    · rw [e, upd_at, if_pos ⟨by omega, h⟩]
    · rw [upd_ne _ _ e]
      by_cases c : i < k ∧ M.fl t i = true
      · rw [if_pos c, if_pos ⟨by omega, c.2⟩]
      · rw [if_neg c, if_neg (fun c' => c ⟨by omega, c'.2⟩)]
  have e2 : (M.upto2 t k 8).kept = (M.upto t (k + 1)).kept := by
    funext i
    show (if i / 8 = k ∧ i % 8 < 8 then M.seen i else if i / 8 < k ∧ M.fl t (i / 8) = true then M.seen i else M.kept i) = if i / 8 < k + 1 ∧ M.fl t (i / 8) = true then M.seen i else M.kept i
    by_cases e : i / 8 = k
    · rw [if_pos ⟨e, by omega⟩, if_pos ⟨by omega, by rw [e]; exact h⟩]
    · rw [if_neg (fun c => e c.1)]
      by_cases c : i / 8 < k ∧ M.fl t (i / 8) = true
      · rw [if_pos c, if_pos ⟨by omega, c.2⟩]
      · rw [if_neg c, if_neg (fun c' => c ⟨by omega, c'.2⟩)]
  rw [e1]
  show ({ M.upto t k with kept := (M.upto2 t k 8).kept, wr := (M.upto t (k + 1)).wr } : Rv) = _
  rw [e2]; rfl
theorem upto_no (M : Rv) (t k : Nat) (h : M.fl t k = false) : M.upto t (k + 1) = M.upto t k := by
  have e1 : (M.upto t (k + 1)).wr = (M.upto t k).wr := by
    funext i
    show (if i < k + 1 ∧ M.fl t i = true then M.wr i + 1 else M.wr i) = if i < k ∧ M.fl t i = true then M.wr i + 1 else M.wr i
    by_cases e : i = k
    · rw [e, h]; simp
    · by_cases c : i < k ∧ M.fl t i = true
      · rw [if_pos c, if_pos ⟨by omega, c.2⟩]
      · rw [if_neg c, if_neg (fun c' => c ⟨by omega, c'.2⟩)]
  have e2 : (M.upto t (k + 1)).kept = (M.upto t k).kept := by
    funext i
    show (if i / 8 < k + 1 ∧ M.fl t (i / 8) = true then M.seen i else M.kept i) = if i / 8 < k ∧ M.fl t (i / 8) = true then M.seen i else M.kept i
    by_cases e : i / 8 = k
    · rw [e, h]; simp
    · by_cases c : i / 8 < k ∧ M.fl t (i / 8) = true
      · rw [if_pos c, if_pos ⟨by omega, c.2⟩]
      · rw [if_neg c, if_neg (fun c' => c ⟨by omega, c'.2⟩)]
  show ({ M with kept := (M.upto t (k + 1)).kept, wr := (M.upto t (k + 1)).wr, wm := M.wm + 1 } : Rv) = _
  rw [e1, e2]; rfl
/-- Of the first threads, and of the next one's first lines, what a thread flushed is none now. -/
def Rv.clears (M : Rv) (t a b : Nat) : Rv := { M with fl := fun x y => if x = t ∧ y < M.n ∧ (x < a ∨ x = a ∧ y < b) then false else M.fl x y }
theorem clears_0 (M : Rv) (t : Nat) : M.clears t 0 0 = M := by
  unfold Rv.clears
  have : (fun x y => if x = t ∧ y < M.n ∧ (x < 0 ∨ x = 0 ∧ y < 0) then false else M.fl x y) = M.fl := by funext x y; rw [if_neg (by omega)]
  rw [this]
theorem clears_next (M : Rv) (t a : Nat) : M.clears t a M.n = M.clears t (a + 1) 0 := by
  unfold Rv.clears
  have : (fun x y => if x = t ∧ y < M.n ∧ (x < a ∨ x = a ∧ y < M.n) then false else M.fl x y) = fun x y => if x = t ∧ y < M.n ∧ (x < a + 1 ∨ x = a + 1 ∧ y < 0) then false else M.fl x y := by
    funext x y
    by_cases c : x = t ∧ y < M.n ∧ (x < a ∨ x = a ∧ y < M.n)
    · rw [if_pos c, if_pos (by omega)]
    · rw [if_neg c, if_neg (by omega)]
  rw [this]
theorem clears_other (M : Rv) (t a b : Nat) (h : a ≠ t) : M.clears t a (b + 1) = M.clears t a b := by
  unfold Rv.clears
  have : (fun x y => if x = t ∧ y < M.n ∧ (x < a ∨ x = a ∧ y < b + 1) then false else M.fl x y) = fun x y => if x = t ∧ y < M.n ∧ (x < a ∨ x = a ∧ y < b) then false else M.fl x y := by
    funext x y
    by_cases c : x = t ∧ y < M.n ∧ (x < a ∨ x = a ∧ y < b + 1)
    · rw [if_pos c, if_pos (by omega)]
    · rw [if_neg c, if_neg (by omega)]
  rw [this]
theorem clears_one (M : Rv) (t b : Nat) (h : b < M.n) : { M.clears t t b with fl := upd (M.clears t t b).fl t (upd ((M.clears t t b).fl t) b false) } = M.clears t t (b + 1) := by
  have : upd (M.clears t t b).fl t (upd ((M.clears t t b).fl t) b false) = (M.clears t t (b + 1)).fl := by
    funext x y
    show upd (M.clears t t b).fl t (upd ((M.clears t t b).fl t) b false) x y = if x = t ∧ y < M.n ∧ (x < t ∨ x = t ∧ y < b + 1) then false else M.fl x y
    by_cases e : x = t
    · rw [e, upd_at]
      by_cases e' : y = b
      · rw [e', upd_at, if_pos (by omega)]
      · rw [upd_ne _ _ e']
        show (if t = t ∧ y < M.n ∧ (t < t ∨ t = t ∧ y < b) then false else M.fl t y) = _
        by_cases c : y < M.n ∧ y < b
        · rw [if_pos (by omega), if_pos (by omega)]
        · rw [if_neg (by omega), if_neg (by omega)]
    · rw [upd_ne _ _ e]
      show (if x = t ∧ y < M.n ∧ (x < t ∨ x = t ∧ y < b) then false else M.fl x y) = _
      rw [if_neg (by omega), if_neg (by omega)]
  rw [this]; rfl
/-- What a fence leaves. -/
def Rv.fenced (M : Rv) (t : Nat) : Rv := (M.upto t M.n).clears t M.nt 0
end Go.Proofs.YtibelcmdfkgonaaGreat
