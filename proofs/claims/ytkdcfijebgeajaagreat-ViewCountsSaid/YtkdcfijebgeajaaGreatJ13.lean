/- Layer 9: a ground that came in, opened: its config and what is put. No walk here.
   Layer 9 (a ground laid): puts on a memory; how many words a layout has. No walk here.
   Layer 7: a memory's device.
   Layer 9: a ground laid (printed by l2.py).
   Layer 22: of no recovery nothing is told; the most steps.
   Layer 23: of no world nothing is told. -/
import Derived.Test.YtkdcfijebgeajaaGreatJ12
import Derived.Test.YtkdcfijebgeajaaGreatJ1
import Derived.Lib.SmallJoins
import Derived.Test.YtkdcfijebgeajaaGreatJ9
import Derived.Test.YtkdcfijebgeajaaGreatJ7
import Derived.Test.YtkdcfijebgeajaaGreatJ11
import Derived.Maps.AppendAt
import Derived.Test.YtkdcfijebgeajaaGreatJ10
import Derived.IntWalk
import Derived.Below
namespace Go.Proofs.YtkdcfijebgeajaaGreat
open Go.RowKit Go.ChangeShapes Go.WideShapes Go.Deep
set_option linter.unusedVariables false
set_option linter.unusedSimpArgs false
theorem cells66 : Tryz.prog.cellsOf 107 = 2 := by kernel_rfl
theorem kind66_0 : kindAt Tryz.prog 3 107 0 = some (some .i64) := by kernel_rfl
theorem kind66_1 : kindAt Tryz.prog 3 107 1 = some (some .u64) := by kernel_rfl
theorem kind26_0 : kindAt Tryz.prog 4 35 0 = some (some .i64) := by kernel_rfl
theorem kind26_1 : kindAt Tryz.prog 4 35 1 = some (some .i64) := by kernel_rfl
theorem kind26_2 : kindAt Tryz.prog 4 35 2 = some (some .i64) := by kernel_rfl
theorem kind26_3 : kindAt Tryz.prog 4 35 3 = some (some .i64) := by kernel_rfl
/-- What is put, in memory: places and words. -/
def PutsIn (W : World) (a : Option Addr) (len : Nat) (at_ wv : Nat → Int) : Prop :=
  ∀ i, i < len → ∃ b off, a = some ⟨b, off, none⟩ ∧ b < W.heap.size ∧ W.cell? ⟨b, off + i * 2, none⟩ = some (.int .i64 (at_ i)) ∧ W.cell? ⟨b, off + i * 2 + 1, none⟩ = some (.int .u64 (wv i)) ∧
    (-9223372036854775808 ≤ at_ i ∧ at_ i ≤ 9223372036854775807) ∧ 0 ≤ wv i ∧ wv i < 18446744073709551616
theorem PutsIn.below {W W' : World} {a : Option Addr} {len : Nat} {at_ wv : Nat → Int} (h : PutsIn W a len at_ wv) (hb : Below W.heap.size W W') : PutsIn W' a len at_ wv := fun i hi => by
  obtain ⟨b, off, e, hl, h1, h2, h3⟩ := h i hi
  exact ⟨b, off, e, Nat.lt_of_lt_of_le hl hb.size, (World.cell?_of_block (hb.block b hl)).trans h1, (World.cell?_of_block (hb.block b hl)).trans h2, h3⟩
theorem puts_of_trod {H : Type} {enc : TypeId × Value → H} {w : World} {base : Nat} {spare : Nat → Bool} {held : Bool} {fuel : Nat} {a : Option Addr} {len cap : Nat} {x : DataW H × List MemPlace}
    (h : DataW.trod enc Tryz.prog w base spare held fuel 33 [.slice a len cap] = some x) : len ≤ cap ∧ cap ≤ maxLen ∧ ∃ at_ wv, PutsIn w a len at_ wv := by
  obtain ⟨h1, h2, h3⟩ := open_slice_cells (P := Tryz.prog) Tryz.underlying33 (by rw [cells66]; decide) ⟨3, _, kind66_0⟩ h a len cap rfl
  refine ⟨h1, h2, ?_⟩
  rcases h3 with rfl | ⟨b, off, rfl, hb, hc⟩
  · exact ⟨fun _ => 0, fun _ => 0, fun i hi => by omega⟩
  · rw [cells66] at hc
    have each : ∀ i, ∃ c : Int × Int, i < len → w.cell? ⟨b, off + i * 2, none⟩ = some (.int .i64 c.1) ∧ w.cell? ⟨b, off + i * 2 + 1, none⟩ = some (.int .u64 c.2) ∧ (-9223372036854775808 ≤ c.1 ∧ c.1 ≤ 9223372036854775807) ∧ 0 ≤ c.2 ∧ c.2 < 18446744073709551616 := by
      intro i
      by_cases hi : i < len
      · obtain ⟨_, c0, n0, rfl, f0⟩ := hc i hi 3 0 _ (by decide) kind66_0
        obtain ⟨_, c1, n1, rfl, f1⟩ := hc i hi 3 1 _ (by decide) kind66_1
        refine ⟨(n0, n1), fun _ => ⟨c0, c1, ?_⟩⟩
        simp [Lit.wf, IntKind.min, IntKind.max, IntKind.signed, IntKind.bits] at f0 f1
        simp only
        omega
      · exact ⟨(0, 0), fun h => absurd h hi⟩
    exact ⟨fun i => (Classical.choose (each i)).1, fun i => (Classical.choose (each i)).2, fun i hi => ⟨b, off, rfl, hb, Classical.choose_spec (each i) hi⟩⟩
set_option maxRecDepth 100000 in
theorem ground_open {H : Type} {enc : TypeId × Value → H} {w : World} {r : Reach} {b0 base : Nat} {spare : Nat → Bool} {held : Bool} {v : Value} {d : DataW H} {p : List MemPlace}
    (hv : Value.okWide Tryz.prog w r b0 35 v) (h : DataW.Trod enc Tryz.prog w base spare held 35 v d p) :
    ∃ (th sl lo' bu : Int) (a : Option Addr) (len cap : Nat) (at_ wv : Nat → Int), v = .agg #[.int .i64 th, .int .i64 sl, .int .i64 lo', .int .i64 bu, .slice a len cap] ∧ len ≤ cap ∧ cap ≤ maxLen ∧ PutsIn w a len at_ wv := by
  obtain ⟨cs, rfl, hsz⟩ := okWide_struct Tryz.underlying35 hv
  obtain ⟨fuel, hf⟩ := h
  obtain ⟨y0, y1, n, -, -, -, h1⟩ := trod_struct2 Tryz.underlying35 hf
  have hc : Tryz.prog.cellsOf 35 = 5 := by kernel_rfl
  rw [hc] at hsz
  obtain ⟨_, g0, n0, rfl, -⟩ := kindAt_ok 4 35 0 _ fuel _ _ hf kind26_0
  obtain ⟨_, g1, n1, rfl, -⟩ := kindAt_ok 4 35 1 _ fuel _ _ hf kind26_1
  obtain ⟨_, g2, n2, rfl, -⟩ := kindAt_ok 4 35 2 _ fuel _ _ hf kind26_2
  obtain ⟨_, g3, n3, rfl, -⟩ := kindAt_ok 4 35 3 _ fuel _ _ hf kind26_3
  have hc24 : Tryz.prog.cellsOf 33 = 1 := by kernel_rfl
  simp only [Value.cells] at g0 g1 g2 g3 h1
  obtain ⟨l⟩ := cs
  match l, hsz with
  | [c0, c1, c2, c3, c4], _ =>
    simp at g0 g1 g2 g3
    subst g0 g1 g2 g3
    have h1' : DataW.trod enc Tryz.prog w base spare held n 33 [c4] = some y1 := by
      rw [hc24] at h1
      exact h1
    have hs : ∃ a len cap, c4 = .slice a len cap := by
      rcases open_slice Tryz.underlying33 h1' with ⟨e, -⟩ | ⟨ad, len', cap', m, n, D, Pl, e, -⟩
      · cases e; exact ⟨_, _, _, rfl⟩
      · cases e; exact ⟨_, _, _, rfl⟩
    obtain ⟨a, len, cap, rfl⟩ := hs
    obtain ⟨e1, e2, at_, wv, e3⟩ := puts_of_trod h1'
    exact ⟨n0, n1, n2, n3, a, len, cap, at_, wv, rfl, e1, e2, e3⟩
end Go.Proofs.YtkdcfijebgeajaaGreat

namespace Go.Proofs.YtkdcfijebgeajaaGreat
open Go.RowKit Go.BigFrame
set_option linter.unusedVariables false
set_option linter.unusedSimpArgs false
def putsM (M : Mv) (at_ wv : Nat → Int) : Nat → Mv
  | 0 => M
  | k + 1 => (putsM M at_ wv k).store 0 (at_ k) (wv k)
def putsR (R : Rv) (at_ wv : Nat → Int) : Nat → Rv
  | 0 => R
  | k + 1 => (putsR R at_ wv k).store 0 (at_ k) (wv k)
/-- The words behind so many puts. -/
def putW (N : Nat) (f : Nat → Int) (a w : Int) : Nat → Int := if 0 ≤ a ∧ a < (N : Int) then upd f a.toNat w else f
def wordsP (N : Nat) (at_ wv : Nat → Int) : Nat → Nat → Int
  | 0 => fun _ => 0
  | k + 1 => putW N (wordsP N at_ wv k) (at_ k) (wv k)
theorem store_all (M : Mv) (t a w : Int) : (M.store t a w).own = M.own ∧ (M.store t a w).n = M.n ∧ (M.store t a w).m = M.m ∧ (M.store t a w).d = M.d ∧ (M.store t a w).ck = M.ck + 1 ∧ (M.store t a w).seen = putW (8 * M.n) M.seen a w := by
  refine ⟨Mv.did_own _ _ _ _, ?_, ?_, ?_, ?_, ?_⟩
  · show (if ((M.peek a).2 && true) = true then M.put a w else M).n = M.n
    split
    · unfold Mv.put; split <;> rfl
    · rfl
  · show (if ((M.peek a).2 && true) = true then M.put a w else M).m = M.m
    split
    · exact Mv.put_m _ _ _
    · rfl
  · show (if ((M.peek a).2 && true) = true then M.put a w else M).d = M.d
    split
    · exact Mv.put_d _ _ _
    · rfl
  · show (if ((M.peek a).2 && true) = true then M.put a w else M).ck + 1 = M.ck + 1
    split
    · rw [Mv.put_ck]
    · rfl
  · show (if ((M.peek a).2 && true) = true then M.put a w else M).seen = putW (8 * M.n) M.seen a w
    unfold putW
    by_cases h0 : 0 ≤ a
    · by_cases h1 : a / 8 < (M.n : Int)
      · have hp : ((M.peek a).2 && true) = true := by unfold Mv.peek peekV; rw [if_pos h0, if_pos h1]; rfl
        rw [if_pos hp, if_pos (show 0 ≤ a ∧ a < ((8 * M.n : Nat) : Int) from ⟨h0, by omega⟩)]
        unfold Mv.put
        rw [if_pos h0]
      · have hp : ¬ ((M.peek a).2 && true) = true := by unfold Mv.peek peekV; rw [if_pos h0, if_neg h1]; decide
        rw [if_neg hp, if_neg (show ¬ (0 ≤ a ∧ a < ((8 * M.n : Nat) : Int)) by omega)]
    · rw [if_neg (show ¬ (0 ≤ a ∧ a < ((8 * M.n : Nat) : Int)) by omega)]
      split
      · unfold Mv.put
        rw [if_neg h0]
      · rfl
theorem putsM_all (M : Mv) (at_ wv : Nat → Int) : ∀ k, (putsM M at_ wv k).own = M.own ∧ (putsM M at_ wv k).n = M.n ∧ (putsM M at_ wv k).m = M.m ∧ (putsM M at_ wv k).d = M.d ∧ (putsM M at_ wv k).ck = M.ck + k
  | 0 => ⟨rfl, rfl, rfl, rfl, by show M.ck = M.ck + 0; omega⟩
  | k + 1 => by
    obtain ⟨h1, h2, h3, h4, h5⟩ := putsM_all M at_ wv k
    obtain ⟨s1, s2, s3, s4, s5, -⟩ := store_all (putsM M at_ wv k) 0 (at_ k) (wv k)
    exact ⟨s1.trans h1, s2.trans h2, s3.trans h3, s4.trans h4, by show ((putsM M at_ wv k).store 0 (at_ k) (wv k)).ck = _; rw [s5, h5]; omega⟩
theorem putsM_seen (M : Mv) (at_ wv : Nat → Int) (h0 : M.seen = fun _ => 0) : ∀ k, (putsM M at_ wv k).seen = wordsP (8 * M.n) at_ wv k
  | 0 => h0
  | k + 1 => by
    have h := (store_all (putsM M at_ wv k) 0 (at_ k) (wv k)).2.2.2.2.2
    rw [putsM_seen M at_ wv h0 k, (putsM_all M at_ wv k).2.1] at h
    exact h
theorem rstore_acts (R : Rv) (t a w : Int) : R.store t a w = R.acts ⟨2, t, a, 0, w, false⟩ := rfl
theorem putsR_all (R : Rv) (at_ wv : Nat → Int) : ∀ k : Nat, (putsR R at_ wv k).own = R.own ∧ (putsR R at_ wv k).m = R.m ∧ (putsR R at_ wv k).wm ≤ R.wm + k ∧ (putsR R at_ wv k).ck ≤ R.ck + k
  | 0 => ⟨rfl, rfl, by show R.wm ≤ R.wm + 0; omega, by show R.ck ≤ R.ck + 0; omega⟩
  | k + 1 => by
    obtain ⟨h1, h2, h3, h4⟩ := putsR_all R at_ wv k
    obtain ⟨s1, s2, s3, s4⟩ := racts_own (putsR R at_ wv k) ⟨2, 0, at_ k, 0, wv k, false⟩
    rw [← rstore_acts] at s1 s2 s3 s4
    exact ⟨s1.trans h1, s2.trans h2, by show ((putsR R at_ wv k).store 0 (at_ k) (wv k)).wm ≤ _; omega, by show ((putsR R at_ wv k).store 0 (at_ k) (wv k)).ck ≤ _; omega⟩
theorem puts_like {M : Mv} {R : Rv} (h : Alike M R) (at_ wv : Nat → Int) : ∀ k, Alike (putsM M at_ wv k) (putsR R at_ wv k)
  | 0 => h
  | k + 1 => (puts_like h at_ wv k).did _ _ _
theorem wordsP_u64 (N : Nat) (at_ wv : Nat → Int) (n : Nat) (h : ∀ i, i < n → 0 ≤ wv i ∧ wv i < 18446744073709551616) : ∀ k, k ≤ n → ∀ j, 0 ≤ wordsP N at_ wv k j ∧ wordsP N at_ wv k j < 18446744073709551616
  | 0, _, j => ⟨Int.le_refl _, by show (0 : Int) < 18446744073709551616; decide⟩
  | k + 1, hk, j => by
    have ih := wordsP_u64 N at_ wv n h k (by omega)
    show 0 ≤ putW N (wordsP N at_ wv k) (at_ k) (wv k) j ∧ putW N (wordsP N at_ wv k) (at_ k) (wv k) j < _
    unfold putW
    split
    · unfold upd
      split
      · exact h k (by omega)
      · exact ih j
    · exact ih j
/-- How many words last, how many pass. -/
def nwN (th sl lo' bu : Nat) : Nat := up8 (40 + bu) + 8 * th + up8 lo' * th + 8 * sl
theorem nw_lines (th sl lo' bu : Nat) : nwN th sl lo' bu = 8 * (5 + (bu + 7) / 8 + th + th * ((lo' + 7) / 8) + sl) := by
  unfold nwN up8
  have e : (lo' + 7) / 8 * 8 * th = 8 * (th * ((lo' + 7) / 8)) := by
    rw [Nat.mul_comm ((lo' + 7) / 8) 8, Nat.mul_assoc, Nat.mul_comm ((lo' + 7) / 8) th]
  rw [e]
  generalize th * ((lo' + 7) / 8) = x
  omega
theorem nw_ln (th sl lo' bu : Nat) : ((nwN th sl lo' bu : Nat) : Int) = (⟨th, sl, lo', bu⟩ : Cfg).lv.ln * 8 := by
  rw [nw_lines]
  show _ = (5 + linesI (bu : Int) + (th : Int) + (th : Int) * linesI (lo' : Int) + (sl : Int)) * 8
  have e1 : linesI (bu : Int) = (((bu + 7) / 8 : Nat) : Int) := by unfold linesI; omega
  have e2 : linesI (lo' : Int) = (((lo' + 7) / 8 : Nat) : Int) := by unfold linesI; omega
  rw [e1, e2, ← Int.natCast_mul]
  generalize th * ((lo' + 7) / 8) = x
  generalize (bu + 7) / 8 = y
  omega
theorem nw_bd (th sl lo' bu : Nat) (h1 : th ≤ 6) (h2 : sl ≤ 30) (h3 : lo' ≤ 8) (h4 : bu ≤ 8) : nwN th sl lo' bu ≤ 400 := by
  rw [nw_lines]
  have : th * ((lo' + 7) / 8) ≤ 6 * 1 := Nat.mul_le_mul h1 (by omega)
  omega
/-- A ground as it is laid, while puts go on. -/
structure LyAt (W0 : World) (G : Array Value) (c : Cfg) (M : Mv) (R : Rv) (l : Nat) (wr : World) : Prop where
  below : Below W0.heap.size W0 wr
  box : wr.heap[W0.heap.size]? = some (.cells G 35 (0, 0))
  lay : LayAt wr l c.lv
  mem : MemAt wr M
  ref : RefAt wr R
  like : Alike M R
  lo : W0.heap.size + 1 ≤ l ∧ (∀ k, M.own k → W0.heap.size + 1 ≤ k ∧ k ≠ l ∧ ¬ R.own k) ∧ ∀ k, R.own k → W0.heap.size + 1 ≤ k ∧ k ≠ l
theorem LyAt.grow {W0 : World} {G : Array Value} {c : Cfg} {M : Mv} {R : Rv} {l : Nat} {wr w' : World} (h : LyAt W0 G c M R l wr) (hb : Below wr.heap.size wr w') : LyAt W0 G c M R l w' :=
  ⟨h.below.trans (hb.mono h.below.size), (hb.block _ (lt_row h.box)).trans h.box, h.lay.keep (hb.block _ h.lay.lt), h.mem.below hb, h.ref.below hb, h.like, h.lo⟩
theorem LyAt.storeM {W0 : World} {G : Array Value} {c : Cfg} {M M' : Mv} {R : Rv} {l : Nat} {wr w' : World} (h : LyAt W0 G c M R l wr) (hm : MemAt w' M') (ht : Turn M.own wr w') (ho : M'.own = M.own) : Below W0.heap.size W0 w' ∧ w'.heap[W0.heap.size]? = some (.cells G 35 (0, 0)) ∧ LayAt w' l c.lv ∧ RefAt w' R := by
  have hs := h.below.size
  refine ⟨h.below.trans (ht.below hs fun k hk ho => by have := (h.lo.2.1 k ho).1; omega), ?_, ?_, ?_⟩
  · exact (ht.block _ (lt_row h.box) fun ho => by have := (h.lo.2.1 _ ho).1; omega).trans h.box
  · exact h.lay.keep (ht.block _ h.lay.lt fun ho => (h.lo.2.1 _ ho).2.1 rfl)
  · exact h.ref.turn ht fun k hr ho => (h.lo.2.1 k ho).2.2 hr
theorem LyAt.both {W0 : World} {G : Array Value} {c : Cfg} {M M' : Mv} {R R' : Rv} {l : Nat} {wr w1 w2 : World} (h : LyAt W0 G c M R l wr) (hm : MemAt w1 M') (ht : Turn M.own wr w1) (ho : M'.own = M.own) {w1' : World} (hb : Below w1.heap.size w1 w1') (hr : RefAt w2 R') (ht2 : Turn R.own w1' w2) (ho2 : R'.own = R.own) (hl : Alike M' R') : LyAt W0 G c M' R' l w2 := by
  obtain ⟨b1, b2, b3, b4⟩ := h.storeM hm ht ho
  have hm' := hm.below hb
  have b1' := b1.trans (hb.mono b1.size)
  have b2' := (hb.block _ (lt_row b2)).trans b2
  have b3' := b3.keep (hb.block _ b3.lt)
  refine ⟨b1'.trans (ht2.below b1'.size fun k hk ho => by have := (h.lo.2.2 k ho).1; omega), ?_, ?_, ?_, hr, hl, ?_⟩
  · exact (ht2.block _ (lt_row b2') fun ho => by have := (h.lo.2.2 _ ho).1; omega).trans b2'
  · exact b3'.keep (ht2.block _ b3'.lt fun ho => (h.lo.2.2 _ ho).2 rfl)
  · exact hm'.turn ht2 fun k hk hr => (h.lo.2.1 k (by rw [← ho]; exact hk)).2.2 hr
  · rw [ho, ho2]; exact h.lo
/-- What Lay answers of a ground that may be. -/
structure Laid (c : Cfg) (at_ wv : Nat → Int) (len : Nat) (W W' : World) (l : Nat) (M : Mv) (R : Rv) : Prop where
  below : Below W.heap.size W W'
  lay : LayAt W' l c.lv
  mem : MemAt W' M
  ref : RefAt W' R
  like : Alike M R
  lo : W.heap.size + 1 ≤ l ∧ (∀ k, M.own k → W.heap.size + 1 ≤ k ∧ k ≠ l ∧ ¬ R.own k) ∧ ∀ k, R.own k → W.heap.size + 1 ≤ k ∧ k ≠ l
  n : ((8 * M.n : Nat) : Int) = c.lv.ln * 8
  ck : M.ck = len
  seen : M.seen = wordsP (8 * M.n) at_ wv len
def LayTo (c : Cfg) (at_ wv : Nat → Int) (len : Nat) (W : World) (e : Ending) (W' : World) : Prop :=
  (¬ (c.few ∧ len ≤ 100) ∧ e = .returned (.tuple #[.pointer none, .pointer none, .pointer none, .bool false]) ∧ Below W.heap.size W W') ∨
  ((c.few ∧ len ≤ 100) ∧ ∃ l M R, e = .returned (.tuple #[.pointer (some ⟨l, 0, none⟩), .pointer (some ⟨M.m, 0, none⟩), .pointer (some ⟨R.m, 0, none⟩), .bool true]) ∧ Laid c at_ wv len W W' l M R)
end Go.Proofs.YtkdcfijebgeajaaGreat

namespace Go.Proofs.YtkdcfijebgeajaaGreat
open Go.RowKit Go.BigFrame
set_option linter.unusedVariables false
set_option linter.unusedSimpArgs false
theorem device11 (M : Mv) (W : World) (h : MemAt W M) : Calls Tryz.prog 30 #[.pointer (some ⟨M.m, 0, none⟩)] W (Says (.pointer (some ⟨M.d, 0, none⟩)) W) := by
  have q0 := cell_row h.row 0 _ rfl
  clear h
  go_enter Tryz.func30, Tryz.ntmps30
  go_wp2_with fail
  go_ret
  exact ⟨rfl, rfl⟩
end Go.Proofs.YtkdcfijebgeajaaGreat

namespace Go.Proofs.YtkdcfijebgeajaaGreat
open Go.RowKit Go.BigFrame
set_option linter.unusedVariables false
set_option linter.unusedSimpArgs false
def gCells (c : Cfg) (a : Option Addr) (len cap : Nat) : Array Value := #[.int .i64 c.th, .int .i64 c.sl, .int .i64 c.lo, .int .i64 c.bu, .slice a len cap]
theorem results_tmp4 {fn : Func} {t u v x : Tmp} (h : fn.results = #[.tmp t, .tmp u, .tmp v, .tmp x]) (tmps : Array Value) (P : Program) (w : World) :
    (results fn tmps).run P w = .ok (.tuple #[tmps.getD t undef, tmps.getD u undef, tmps.getD v undef, tmps.getD x undef]) w := by
  simp [results, h]
set_option maxRecDepth 100000 in
theorem lay9_no (c : Cfg) (a : Option Addr) (len cap : Nat) (hl : len ≤ 9223372036854775807) (at_ wv : Nat → Int) (W : World) (hno : ¬ (c.few ∧ len ≤ 100)) : Calls Tryz.prog 11 #[.agg (gCells c a len cap)] W (LayTo c at_ wv len W) := by
  have HFW := Lib.hid fun w => few57 c w
  have HNO := Lib.hid hno
  have HFIN : Hid (∀ w', Below W.heap.size W w' → LayTo c at_ wv len W (.returned (.tuple #[.pointer none, .pointer none, .pointer none, .bool false])) w') := Lib.hid fun w' hb => .inl ⟨HNO.out, rfl, hb⟩
  have HLT : Hid (c.few → 100 < len) := Lib.hid fun h => by
    have := HNO.out
    exact Nat.lt_of_not_le fun h2 => this ⟨h, h2⟩
  obtain ⟨th, sl, lo', bu⟩ := c
  unfold gCells
  simp only
  obtain ⟨W1, hW1⟩ : ∃ W1, W1 = (W.alloc (.cells #[.int .i64 th, .int .i64 sl, .int .i64 lo', .int .i64 bu, .slice a len cap] 35)).alloc (.cells #[.int .i64 th, .int .i64 sl, .int .i64 lo', .int .i64 bu] 23) := ⟨_, rfl⟩
  have HW1 := Lib.hid hW1
  have HB1 : Hid (Below W.heap.size W W1) := Lib.hid (by rw [hW1]; exact ((Below.refl _ _).alloc (Nat.le_refl _) _).alloc (by simp) _)
  have HG1 : Hid (W1.heap[W.heap.size]? = some (.cells #[.int .i64 th, .int .i64 sl, .int .i64 lo', .int .i64 bu, .slice a len cap] 35 (0, 0))) := Lib.hid (by rw [hW1, Below.heap_alloc _ _ _ (by simp)]; exact heap_alloc_new _ _)
  have HC1 : Hid (W1.heap[W.heap.size + 1]? = some (.cells #[.int .i64 th, .int .i64 sl, .int .i64 lo', .int .i64 bu] 23 (0, 0))) := Lib.hid (by
    have := heap_alloc_new (W.alloc (.cells #[.int .i64 th, .int .i64 sl, .int .i64 lo', .int .i64 bu, .slice a len cap] 35)) (.cells #[.int .i64 th, .int .i64 sl, .int .i64 lo', .int .i64 bu] 23)
    rw [World.size_alloc] at this
    rw [hW1]; exact this)
  clear hW1
  by_cases hf : (⟨th, sl, lo', bu⟩ : Cfg).few
  · have h100 := HLT.out hf
    rw [bool_yes hf] at HFW
    have d1 : decide (100 < (len : Int)) = true := bool_yes (by omega)
    have d2 : decide (100 < len) = true := bool_yes h100
    unfold Cfg.cells at HFW
    clear hno HNO HLT hf h100
    go_enter Tryz.func11, Tryz.ntmps11
    go_wp2_with (go_at_call 8; refine (HFW.out _).mono ?_; rintro e w2 ⟨rfl, hb⟩; rw [← HW1.out] at hb; have H2 := Lib.hid (HB1.out.trans (hb.mono HB1.out.size)); have q4 : w2.cell? ⟨W.heap.size, 4, none⟩ = some (.slice a len cap) := cell_row ((hb.block _ (lt_row HG1.out)).trans HG1.out) 4 _ rfl; clear hb)
    (try simp only [Exit.inBlock, Exit.then])
    refine bodyPost_ret (results_tmp4 rfl _ _ _) rfl ?_
    exact HFIN.out _ H2.out
  · rw [bool_no hf] at HFW
    unfold Cfg.cells at HFW
    clear hno HNO HLT hf
    go_enter Tryz.func11, Tryz.ntmps11
    go_wp2_with (go_at_call 8; refine (HFW.out _).mono ?_; rintro e w2 ⟨rfl, hb⟩; rw [← HW1.out] at hb; have H2 := Lib.hid (HB1.out.trans (hb.mono HB1.out.size)); have q4 : w2.cell? ⟨W.heap.size, 4, none⟩ = some (.slice a len cap) := cell_row ((hb.block _ (lt_row HG1.out)).trans HG1.out) 4 _ rfl; clear hb)
    (try simp only [Exit.inBlock, Exit.then])
    refine bodyPost_ret (results_tmp4 rfl _ _ _) rfl ?_
    exact HFIN.out _ H2.out
set_option maxRecDepth 100000 in
set_option maxHeartbeats 4000000 in
theorem lay9_yes (th sl lo' bu : Nat) (hf : (⟨th, sl, lo', bu⟩ : Cfg).few) (a : Option Addr) (len cap : Nat) (hl : len ≤ 100) (at_ wv : Nat → Int) (W : World) (hP : PutsIn W a len at_ wv) : Calls Tryz.prog 11 #[.agg (gCells ⟨th, sl, lo', bu⟩ a len cap)] W (LayTo ⟨th, sl, lo', bu⟩ at_ wv len W) := by
  have HFW := Lib.hid fun w => few57 ⟨th, sl, lo', bu⟩ w
  rw [bool_yes hf] at HFW
  have HF := Lib.hid hf
  obtain ⟨⟨f1, f2, f3, f4, f5, f6, f7, f8⟩, f9, f10, f11, f12⟩ := hf
  simp only at f1 f2 f3 f4 f5 f6 f7 f8 f9 f10 f11 f12
  have HOF := Lib.hid fun w => of58 ⟨th, sl, lo', bu⟩ HF.out.1 w
  have HLA := Lib.hid fun w => lasting59 th sl lo' bu (by omega) (by omega) (by omega) (by omega) w
  have HPA := Lib.hid fun w => passing60 th sl lo' bu (by omega) (by omega) w
  have HNL : Hid (((nwN th sl lo' bu : Nat) : Int) = (⟨th, sl, lo', bu⟩ : Cfg).lv.ln * 8) := Lib.hid (nw_ln th sl lo' bu)
  have hnl := nw_lines th sl lo' bu
  have hnb := nw_bd th sl lo' bu (by omega) (by omega) (by omega) (by omega)
  obtain ⟨m, hm⟩ : ∃ m, m = 5 + (bu + 7) / 8 + th + th * ((lo' + 7) / 8) + sl := ⟨_, rfl⟩
  rw [← hm] at hnl
  have m0 : 5 ≤ m := by omega
  change Hid (∀ w, Calls Tryz.prog 9 _ w (WordsOf (nwN th sl lo' bu) _ w)) at HLA
  obtain ⟨nw, hnw⟩ : ∃ nw, nw = nwN th sl lo' bu := ⟨_, rfl⟩
  rw [← hnw] at HLA HNL hnl hnb
  obtain ⟨np, hnp⟩ : ∃ np, np = 2 + th + sl := ⟨_, rfl⟩
  rw [← hnp] at HPA
  have HM : Hid (nw = 8 * m ∧ nw ≤ 400 ∧ 5 ≤ m ∧ np ≤ 100 ∧ 1 ≤ th ∧ th ≤ 64) := Lib.hid ⟨hnl, hnb, m0, by omega, by omega, by omega⟩
  have hop0 : mayOpenE nw (th : Int) = 0 := by
    unfold mayOpenE
    have hw : wholeE nw = 0 := by unfold wholeE; rw [if_neg (by omega), if_neg (by omega)]
    rw [if_neg (by omega), if_neg (by rw [hw]; decide), if_neg (by omega)]
  have HOP : Hid (∀ (w : World) (b : Nat), w.heap[b]? = some (.cells (madeCells #[.int .u64 0] nw) 105 (0, 0)) → Calls Tryz.prog 51 #[.slice (some ⟨b, 0, none⟩) nw nw, .int .i64 (th : Int)] w fun e w' => Below w.heap.size w w' ∧ ∃ d kb sb wb fb c0 c1, e = .returned (.tuple #[.pointer (some ⟨d, 0, none⟩), .int .i64 0]) ∧ DevAt w' w.heap.size d kb sb wb fb m th c0 c1 (fun _ => 0)) := Lib.hid fun w b hw => by
    have h := open18_yes (some ⟨b, 0, none⟩) b 0 nw nw (fun _ => rfl) (Nat.le_refl _) (by omega) (th : Int) (fun _ => 0) w hop0 (lt_row hw) (fun j hj => by rw [Nat.zero_add, cell_in hw]; exact made_get _ _ _ hj)
    refine h.mono fun e w' hh => ?_
    obtain ⟨hb, ⟨h1, -⟩ | ⟨-, d, kb, sb, wb, fb, c0, c1, he, hd⟩⟩ := hh
    · exact absurd hop0 h1
    · rw [show nw / 8 = m by omega, Int.toNat_natCast] at hd
      exact ⟨hb, d, kb, sb, wb, fb, c0, c1, he, hd⟩
  have HNW := Lib.hid fun d w => new19_yes d np (by have := HM.out; omega) w
  have HMS : Hid (∀ d kb sb wb fb c0 c1 mm pb (w6 w7 w8 : World), DevAt w7 w6.heap.size d kb sb wb fb m th c0 c1 (fun _ => 0) → Below w7.heap.size w7 w8 → w7.heap.size ≤ mm → w7.heap.size ≤ pb → mm ≠ pb → MemRow w8 mm (.pointer (some ⟨d, 0, none⟩)) (.slice (some ⟨pb, 0, none⟩) np np) 0 0 ⟨0, 0, 0, 0, 0, false⟩ → RowAt w8 pb np (fun _ => .int .u64 0) →
      MemAt w8 (Mv.start mm d kb sb wb fb pb m th np c0 c1 fun _ => 0) ∧ ∀ k, (Mv.start mm d kb sb wb fb pb m th np c0 c1 fun _ => 0).own k → w6.heap.size ≤ k ∨ w7.heap.size ≤ k) := Lib.hid fun d kb sb wb fb c0 c1 mm pb w6 w7 w8 hd hb h1 h2 h3 h4 h5 =>
    mem_start hd hb h1 h2 h3 h4 h5 (by have := HM.out; omega) (by have := HM.out; omega) HM.out.2.2.2.2.2 (by have := HM.out; omega)
  have HRN : Hid (∀ (w : World) (b : Nat), w.heap[b]? = some (.cells (madeCells #[.int .u64 0] nw) 105 (0, 0)) → Calls Tryz.prog 53 #[.slice (some ⟨b, 0, none⟩) nw nw, .int .i64 (th : Int), .int .i64 (np : Int)] w (RNew (fun _ => 0) m th np w)) := Lib.hid fun w b hw => by
    have h := refNew9 b 0 m nw th np (by omega) (by omega) (by omega) (by omega) (by omega) (fun _ => 0) w (lt_row hw) (fun j hj => by rw [Nat.zero_add, cell_in hw]; exact made_get _ _ _ (by omega))
    rw [← hnl] at h
    exact h
  have mk1 := mk_row 24 105 _ _ 8 Tryz.underlying24 info42' rfl nw (by omega) (by omega)
  have HPU := Lib.hid hP
  have HLEN := Lib.hid hl
  unfold gCells
  simp only
  obtain ⟨W1, hW1⟩ : ∃ W1, W1 = (W.alloc (.cells #[.int .i64 (th : Int), .int .i64 (sl : Int), .int .i64 (lo' : Int), .int .i64 (bu : Int), .slice a len cap] 35)).alloc (.cells #[.int .i64 (th : Int), .int .i64 (sl : Int), .int .i64 (lo' : Int), .int .i64 (bu : Int)] 23) := ⟨_, rfl⟩
  have HW1 := Lib.hid hW1
  have HB1 : Hid (Below W.heap.size W W1) := Lib.hid (by rw [hW1]; exact ((Below.refl _ _).alloc (Nat.le_refl _) _).alloc (by simp) _)
  have HG1 : Hid (W1.heap[W.heap.size]? = some (.cells #[.int .i64 (th : Int), .int .i64 (sl : Int), .int .i64 (lo' : Int), .int .i64 (bu : Int), .slice a len cap] 35 (0, 0))) := Lib.hid (by rw [hW1, Below.heap_alloc _ _ _ (by simp)]; exact heap_alloc_new _ _)
  have HC1 : Hid (W1.heap[W.heap.size + 1]? = some (.cells #[.int .i64 (th : Int), .int .i64 (sl : Int), .int .i64 (lo' : Int), .int .i64 (bu : Int)] 23 (0, 0))) := Lib.hid (by
    have := heap_alloc_new (W.alloc (.cells #[.int .i64 (th : Int), .int .i64 (sl : Int), .int .i64 (lo' : Int), .int .i64 (bu : Int), .slice a len cap] 35)) (.cells #[.int .i64 (th : Int), .int .i64 (sl : Int), .int .i64 (lo' : Int), .int .i64 (bu : Int)] 23)
    rw [World.size_alloc] at this
    rw [hW1]; exact this)
  clear hW1
  have HQ : Hid (∀ w, Below W1.heap.size W1 w → w.cell? ⟨W.heap.size + 1, 0, none⟩ = some (.int .i64 (th : Int)) ∧ w.cell? ⟨W.heap.size + 1, 1, none⟩ = some (.int .i64 (sl : Int)) ∧ w.cell? ⟨W.heap.size + 1, 2, none⟩ = some (.int .i64 (lo' : Int)) ∧ w.cell? ⟨W.heap.size + 1, 3, none⟩ = some (.int .i64 (bu : Int))) := Lib.hid fun w hb => by
    have h := (hb.block _ (lt_row HC1.out)).trans HC1.out
    exact ⟨cell_row h 0 _ rfl, cell_row h 1 _ rfl, cell_row h 2 _ rfl, cell_row h 3 _ rfl⟩
  have d1 : decide (100 < (len : Int)) = false := bool_no (by omega)
  have d2 : decide (100 < len) = false := bool_no (by omega)
  unfold Cfg.cells at HFW HOF
  clear hP hl f1 f2 f3 f4 f5 f6 f7 f8 f9 f10 f11 f12 hnl hnb hm m0 hnw hnp hop0
  go_enter Tryz.func11, Tryz.ntmps11
  go_wp2_with (first | (go_at_call 8; refine (HFW.out _).mono ?_; rintro e w2 ⟨rfl, hb⟩; rw [← HW1.out] at hb; have B2 := Lib.hid hb; have q4 : w2.cell? ⟨W.heap.size, 4, none⟩ = some (.slice a len cap) := cell_row ((hb.block _ (lt_row HG1.out)).trans HG1.out) 4 _ rfl; obtain ⟨q0, q1, q2, q3⟩ := HQ.out _ B2.out; clear hb) | (go_at_call 49; refine (HOF.out _).mono ?_; rintro e w3 ⟨l, rfl, hb, hl, hlay⟩; have B3 := Lib.hid (B2.out.trans (hb.mono B2.out.size)); have L3 := Lib.hid (And.intro (Nat.le_trans B2.out.size hl) hlay); clear q4; clear q0 q1 q2 q3; obtain ⟨q0, q1, q2, q3⟩ := HQ.out _ B3.out; clear hb hl hlay) | (go_at_call 9; refine (HLA.out _).mono ?_; rintro e w4 ⟨v4, rfl, hb, ho⟩; obtain ⟨va, vc, rfl⟩ := own_slice_n ho; have B4 := Lib.hid (B3.out.trans (hb.mono B3.out.size)); have L4 := Lib.hid (L3.out.2.keep (hb.block _ L3.out.2.lt)); have B5 := Lib.hid (B4.out.alloc B4.out.size (.cells (madeCells #[.int .u64 0] nw) 105)); clear q0 q1 q2 q3; have HQ4 := Lib.hid (HQ.out _ B4.out); obtain ⟨q0, q1, q2, q3⟩ := HQ.out _ B5.out; clear hb ho) | (go_at_call 50; refine (HPA.out _).mono ?_; rintro e w6 ⟨v6, rfl, hb, ho⟩; obtain ⟨vd, ve, rfl⟩ := own_slice_n ho; have Z6 := Lib.hid hb.size; have B6 := Lib.hid (B5.out.trans (hb.mono B5.out.size)); have R6 := Lib.hid ((hb.block w4.heap.size (by simp)).trans (heap_alloc_new _ _)); have L6 := Lib.hid ((L4.out.keep (Below.heap_alloc _ _ _ L4.out.lt)).keep (hb.block _ (by have := L4.out.lt; simp; omega))); clear q0 q1 q2 q3; obtain ⟨q0, q1, q2, q3⟩ := HQ.out _ B6.out; clear hb ho) | (go_at_call 51; refine (HOP.out w6 w4.heap.size R6.out).mono ?_; rintro e w7 ⟨hb, d, kb, sb, wb, fb, e0, e1, rfl, hd⟩; have Z7 := Lib.hid hb.size; have B7 := Lib.hid (B6.out.trans (hb.mono B6.out.size)); have D7 := Lib.hid hd; have R7 := Lib.hid ((hb.block w4.heap.size (lt_row R6.out)).trans R6.out); have L7 := Lib.hid (L6.out.keep (hb.block _ L6.out.lt)); clear q0 q1 q2 q3; obtain ⟨q0, q1, q2, q3⟩ := HQ.out _ B7.out; clear hb hd) | (go_at_call 52; refine (HNW.out d _).mono ?_; rintro e w8 ⟨mm, pb, rfl, hb, m1, m2, m3, m4, m5⟩; have Z8 := Lib.hid hb.size; have B8 := Lib.hid (B7.out.trans (hb.mono B7.out.size)); have M8 := Lib.hid (HMS.out d kb sb wb fb e0 e1 mm pb w6 w7 w8 D7.out hb m1 m2 m3 m4 m5); have R8 := Lib.hid ((hb.block w4.heap.size (lt_row R7.out)).trans R7.out); have L8 := Lib.hid (L7.out.keep (hb.block _ L7.out.lt)); clear q0 q1 q2 q3; obtain ⟨q0, q1, q2, q3⟩ := HQ.out _ B8.out; clear hb m1 m2 m3 m4 m5) | (go_at_call 53; refine (HRN.out w8 w4.heap.size R8.out).mono ?_; rintro e w9 ⟨R, rfl, r1, r2, r3, hb, r4⟩; have B9 := Lib.hid (B8.out.trans (hb.mono B8.out.size)); have M9 := Lib.hid (M8.out.1.below hb); have L9 := Lib.hid (L8.out.keep (hb.block _ L8.out.lt)); have R9 := Lib.hid (And.intro r1 (And.intro r2 (And.intro r3 r4))); clear hb r1 r2 r3 r4))
  have HLY : Hid (∃ M0 : Mv, LyAt W #[.int .i64 (th : Int), .int .i64 (sl : Int), .int .i64 (lo' : Int), .int .i64 (bu : Int), .slice a len cap] ⟨th, sl, lo', bu⟩ (putsM M0 at_ wv 0) (putsR R at_ wv 0) l w9 ∧ M0.m = mm ∧ M0.n = m ∧ M0.ck = 0 ∧ M0.seen = (fun _ => 0) ∧ R.ck = 0 ∧ R.wm = 0) := Lib.hid (by
    have hs1 : W1.heap.size = W.heap.size + 1 + 1 := by rw [HW1.out]; simp
    have hl1 := L3.out.1
    have hl2 := L4.out.lt
    have z4 := B4.out.size
    have hs5 : (w4.alloc (.cells (madeCells #[.int .u64 0] nw) 105)).heap.size = w4.heap.size + 1 := by simp
    have z6 : w4.heap.size ≤ w6.heap.size := by have := Z6.out; rw [hs5] at this; omega
    have z7 := Z7.out
    have z8 := Z8.out
    refine ⟨Mv.start mm d kb sb wb fb pb m th np e0 e1 fun _ => 0, ⟨?_, (B9.out.block _ (lt_row HG1.out)).trans HG1.out, L9.out, M9.out, R9.out.1, ?_, ?_⟩, rfl, rfl, rfl, rfl, R9.out.2.1.hck, R9.out.2.2.2⟩
    · exact HB1.out.trans (B9.out.mono HB1.out.size)
    · exact (run_start mm d kb sb wb fb pb m th np e0 e1 (fun _ => 0) (fun _ => ⟨0, 0, 0, 0, 0, false⟩) R R9.out.2.1).1
    · refine ⟨by omega, fun k hk => ?_, fun k hk => ?_⟩
      · have h1 := M8.out.1.lt hk
        have h2 := M8.out.2 k hk
        refine ⟨by omega, by omega, fun hr => ?_⟩
        have := R9.out.2.2.1 k hr
        omega
      · have := R9.out.2.2.1 k hk
        omega)
  obtain ⟨M0, hly, hm1, hm2, hm3, hm4, hr1, hr2⟩ := HLY.out
  have HLY0 := Lib.hid hly
  have HM0 := Lib.hid (And.intro hm1 (And.intro hm2 (And.intro hm3 (And.intro hm4 (And.intro hr1 hr2)))))
  have hck := fun k => (putsM_all M0 at_ wv k).2.2.2.2
  have HCK : Hid (∀ k : Nat, k ≤ 100 → (putsM M0 at_ wv k).ck ≤ 1000000 ∧ (putsR R at_ wv k).ck ≤ 1000000) := Lib.hid fun k hk => ⟨by rw [hck k, hm3]; omega, by have := (putsR_all R at_ wv k).2.2.2; omega⟩
  have HMM : Hid (∀ k, (putsM M0 at_ wv k).m = mm ∧ (putsR R at_ wv k).m = R.m) := Lib.hid fun k => ⟨(putsM_all M0 at_ wv k).2.2.1.trans hm1, (putsR_all R at_ wv k).2.1⟩
  have HST : Hid (∀ (k : Nat) (w : World), k < len → MemAt w (putsM M0 at_ wv k) → Calls Tryz.prog 54 #[.pointer (some ⟨mm, 0, none⟩), .int .i64 0, .int .i64 (at_ k), .int .u64 (wv k)] w (Done (putsM M0 at_ wv k) (putsM M0 at_ wv (k + 1)) w)) := Lib.hid fun k w hk hm => by
    obtain ⟨b, off, -, -, -, -, hb, -⟩ := HPU.out k hk
    have h := store38 (putsM M0 at_ wv k) 0 (at_ k) (wv k) hb.1 hb.2 w hm (HCK.out k (by have := HLEN.out; omega)).1
    rw [(HMM.out k).1] at h
    exact h
  have HRS : Hid (∀ (k : Nat) (w : World), k < len → RefAt w (putsR R at_ wv k) → Calls Tryz.prog 55 #[.pointer (some ⟨R.m, 0, none⟩), .int .i64 2, .int .i64 0, .int .i64 (at_ k), .int .u64 0, .int .u64 (wv k)] w (RAcc (putsR R at_ wv k) (putsR R at_ wv (k + 1)) w)) := Lib.hid fun k w hk hm => by
    obtain ⟨b, off, -, -, -, -, hb, -⟩ := HPU.out k hk
    have h := refDo26_store (putsR R at_ wv k) 0 (at_ k) 0 (wv k) hb.1 hb.2 w hm (HCK.out k (by have := HLEN.out; omega)).2
    rw [(HMM.out k).2] at h
    exact h
  have HML : Hid (∀ k, (putsM M0 at_ wv (k + 1)).own = (putsM M0 at_ wv k).own ∧ (putsR R at_ wv (k + 1)).own = (putsR R at_ wv k).own) := Lib.hid fun k => ⟨(putsM_all M0 at_ wv (k + 1)).1.trans (putsM_all M0 at_ wv k).1.symm, (putsR_all R at_ wv (k + 1)).1.trans (putsR_all R at_ wv k).1.symm⟩
  have HLK : Hid (∀ k, Alike (putsM M0 at_ wv k) (putsR R at_ wv k)) := Lib.hid fun k => puts_like hly.like at_ wv k
  clear hly hm1 hm2 hm3 hm4 hr1 hr2 hck HLY HFW HOF HLA HPA HOP HNW HMS HRN mk1 d1 d2 HB1 HG1 HC1 HQ B2 B3 L3 B4 L4 B5 HQ4 B6 R6 L6 B7 D7 R7 L7 B8 M8 R8 L8 B9 M9 L9 R9 HW1 Z6 Z7 Z8 q0 q1 q2 q3
  go_loopw [16] (fun i wr => ∃ k : Nat, k ≤ len ∧ i = .int .i64 k ∧ Hid (LyAt W #[.int .i64 (th : Int), .int .i64 (sl : Int), .int .i64 (lo' : Int), .int .i64 (bu : Int), .slice a len cap] ⟨th, sl, lo', bu⟩ (putsM M0 at_ wv k) (putsR R at_ wv k) l wr)) (fun i _ => len - (intOf i).toNat)
  case atStart => exact ⟨0, Nat.zero_le _, rfl, HLY0⟩
  case round =>
    obtain ⟨k, hk, rfl, HK⟩ := hrel
    have q4 : wr.cell? ⟨W.heap.size, 4, none⟩ = some (.slice a len cap) := cell_row HK.out.box 4 _ rfl
    by_cases hlt : k < len
    · have d1 : decide ((k : Int) < (len : Int)) = true := bool_yes (by omega)
      have d2 : decide (k < len) = true := bool_yes hlt
      obtain ⟨b, off, ha, hb, c1, c2, hbd⟩ := HPU.out k hlt
      have x1 := (HK.out.below.cell (p := ⟨b, off + k * 2, none⟩) hb).trans c1
      have x2 := (HK.out.below.cell (p := ⟨b, off + k * 2 + 1, none⟩) hb).trans c2
      rw [ha] at q4
      have HA := Lib.hid ha
      have HC12 := Lib.hid (And.intro hb (And.intro c1 c2))
      have HLT := Lib.hid hlt
      have i0 : (0 : Int) ≤ (k : Int) := by omega
      have i1 : (k : Int) < (len : Int) := by omega
      clear ha hb c1 c2 hbd hlt
      go_wp2_with fail
      refine region_qd 0 13 (by kernel_rfl) (by kernel_rfl) (fun _ _ d _ _ h => by cases d <;> exact h) ?_
      simp only [List.take_succ_cons, List.take_zero, List.drop_succ_cons, List.drop_zero, Nat.reduceAdd]
      refine wpQuiet_nil ?_
      repeat (first | go_big_quiet_skip | (go_big_quiet_want; go_big_quiet_op; go_big_quiet_on))
      refine wpQuiet_nil ?_
      rintro _ ⟨q, rfl⟩
      have HK1 := Lib.hid (HK.out.grow (drewN_below (Below.refl _ wr) q))
      clear q4 x1 x2
      generalize wr.drewN q = wr1 at *
      go_wp2_with fail
      refine (HST.out k _ HLT.out HK1.out.mem).mono ?_
      rintro e wa ⟨⟨xv, rfl⟩, hm, ht⟩
      have HMA := Lib.hid (And.intro hm ht)
      have hA := HK1.out.storeM hm ht (HML.out k).1
      have q4 : wa.cell? ⟨W.heap.size, 4, none⟩ = some (.slice (some ⟨b, off, none⟩) len cap) := by rw [← HA.out]; exact cell_row hA.2.1 4 _ rfl
      have x1 := (hA.1.cell (p := ⟨b, off + k * 2, none⟩) HC12.out.1).trans HC12.out.2.1
      have x2 := (hA.1.cell (p := ⟨b, off + k * 2 + 1, none⟩) HC12.out.1).trans HC12.out.2.2
      clear hm ht hA
      go_wp2_with fail
      refine region_qd 0 13 (by kernel_rfl) (by kernel_rfl) (fun _ _ d _ _ h => by cases d <;> exact h) ?_
      simp only [List.take_succ_cons, List.take_zero, List.drop_succ_cons, List.drop_zero, Nat.reduceAdd]
      refine wpQuiet_nil ?_
      repeat (first | go_big_quiet_skip | (go_big_quiet_want; go_big_quiet_op; go_big_quiet_on))
      refine wpQuiet_nil ?_
      rintro _ ⟨q2, rfl⟩
      have HBA := Lib.hid (drewN_below (Below.refl wa.heap.size wa) q2)
      have HRA := Lib.hid ((HK1.out.storeM HMA.out.1 HMA.out.2 (HML.out k).1).2.2.2.below HBA.out)
      clear q4 x1 x2
      generalize wa.drewN q2 = wa1 at *
      go_wp2_with fail
      refine (HRS.out k _ HLT.out HRA.out).mono ?_
      rintro e wb ⟨he, hr, ht2⟩
      obtain ⟨xr, hxr⟩ : ∃ xr, xr = Value.agg (putsR R at_ wv (k + 1)).la.cells := ⟨_, rfl⟩
      rw [← hxr] at he
      subst he
      clear hxr
      have HKB := Lib.hid (HK1.out.both HMA.out.1 HMA.out.2 (HML.out k).1 HBA.out hr ht2 (HML.out k).2 (HLK.out (k + 1)))
      clear hr ht2
      go_wp2_with fail
      go_roundw
      case rel =>
        have hw : wrap64 ((k : Int) + 1) = (k : Int) + 1 := by have := HLT.out; have := HLEN.out; unfold wrap64; omega
        exact ⟨k + 1, by have := HLT.out; omega, by rw [hw]; go_num, HKB⟩
      case measure =>
        have hw : wrap64 ((k : Int) + 1) = (k : Int) + 1 := by have := HLT.out; have := HLEN.out; unfold wrap64; omega
        rw [hw]
        have h := HLT.out
        have e1 : (intOf (.int .i64 ((k : Int) + 1))).toNat = k + 1 := by show ((k : Int) + 1).toNat = k + 1; omega
        have e2 : (intOf (.int .i64 (k : Int))).toNat = k := by show ((k : Int)).toNat = k; omega
        rw [e1, e2]
        exact Nat.sub_lt_sub_left h (Nat.lt_succ_self k)
    · obtain rfl : k = len := by omega
      have d1 : decide ((k : Int) < (k : Int)) = false := by simp
      have d2 : decide (k < k) = false := by simp
      have HDV := Lib.hid (device11 (putsM M0 at_ wv k) wr HK.out.mem)
      have HSE := Lib.hid (seen24M (putsM M0 at_ wv k) wr HK.out.mem)
      have HPM := Lib.hid (putsM_all M0 at_ wv k)
      rw [HPM.out.2.2.1, HM0.out.1] at HDV
      rw [HPM.out.2.1, HM0.out.2.1, ← HM.out.1] at HSE
      have HFIN : Hid (∀ w', Below wr.heap.size wr w' → LayTo ⟨th, sl, lo', bu⟩ at_ wv k W (.returned (.tuple #[.pointer (some ⟨l, 0, none⟩), .pointer (some ⟨mm, 0, none⟩), .pointer (some ⟨R.m, 0, none⟩), .bool true])) w') := Lib.hid fun w' hb => by
        have hg := HK.out.grow hb
        refine .inr ⟨⟨HF.out, HLEN.out⟩, l, putsM M0 at_ wv k, putsR R at_ wv k, by rw [(HMM.out k).1, (HMM.out k).2], ?_⟩
        exact ⟨hg.below, hg.lay, hg.mem, hg.ref, hg.like, hg.lo, by rw [HPM.out.2.1, HM0.out.2.1, ← HM.out.1]; exact HNL.out, by rw [HPM.out.2.2.2.2, HM0.out.2.2.1]; omega, by rw [putsM_seen M0 at_ wv HM0.out.2.2.2.1 k, HPM.out.2.1]⟩
      generalize (putsM M0 at_ wv k).d = dv at *
      unfold WordsTo at HSE
      clear HK HST HRS HML HLK HPU HPM HCK HLY0 hlt hk
      go_wp2_with (first | (go_at_call 30; refine HDV.out.mono ?_; rintro e w' ⟨rfl, rfl⟩) | (go_at_call 48; refine HSE.out.mono ?_; rintro e wz ⟨sg, sc, rfl, hb, -, -⟩; have HZ := Lib.hid (HFIN.out _ hb); clear hb))
      (try simp only [Exit.inBlock, Exit.then])
      refine bodyPost_ret (results_tmp4 rfl _ _ _) rfl ?_
      exact HZ.out
end Go.Proofs.YtkdcfijebgeajaaGreat

namespace Go.Proofs.YtkdcfijebgeajaaGreat
open Go.RowKit Go.BigFrame
set_option linter.unusedVariables false
set_option linter.unusedSimpArgs false
theorem ret_intA {k : IntKind} {a b : Int} (h : a = b) : Ending.returned (.int k a) = .returned (.int k b) := by rw [h]
theorem cell_of_heapA {W W' : World} {b : Nat} (h : W'.heap[b]? = W.heap[b]?) (j : Nat) : W'.cell? ⟨b, j, none⟩ = W.cell? ⟨b, j, none⟩ := by simp [World.cell?, h]
theorem done24_nil (w : World) : Calls Tryz.prog 192 #[.pointer none] w (Says (.bool true) w) := by
  go_enter Tryz.func192, Tryz.ntmps192
  go_wp2_with fail
  go_ret
  exact ⟨rfl, rfl⟩
theorem up25_nil (w : World) : Calls Tryz.prog 140 #[.pointer none] w (Says (.bool false) w) := by
  go_enter Tryz.func140, Tryz.ntmps140
  go_wp2_with fail
  go_ret
  exact ⟨rfl, rfl⟩
theorem corrupt26_nil (w : World) : Calls Tryz.prog 141 #[.pointer none] w (Says (.bool false) w) := by
  go_enter Tryz.func141, Tryz.ntmps141
  go_wp2_with fail
  go_ret
  exact ⟨rfl, rfl⟩
theorem step27_nil (m : Value) (w : World) : Calls Tryz.prog 139 #[.pointer none, m] w (Says (.bool true) w) := by
  have HD := Lib.hid (done24_nil w)
  go_enter Tryz.func139, Tryz.ntmps139
  go_wp2_with fail
  refine HD.out.mono ?_
  rintro e w1 ⟨rfl, hw⟩
  cases hw
  go_wp2_with fail
  refine HD.out.mono ?_
  rintro e w1 ⟨rfl, hw⟩
  cases hw
  go_wp2_with fail
  go_ret
  exact ⟨rfl, rfl⟩
theorem most23_no (c : Cfg) (w : World) (h : ¬ c.right) : Calls Tryz.prog 37 #[.agg c.cells] w fun e w' => e = .returned (.int .i64 0) ∧ Below w.heap.size w w' := by
  have HR := Lib.hid fun w => right_any c w
  have d : decide c.right = false := decide_eq_false h
  rw [d] at HR
  clear h d
  obtain ⟨th, sl, lo, bu⟩ := c
  simp only [Cfg.cells] at HR ⊢
  have HB := Lib.hid (Below.refl w.heap.size w)
  go_enter Tryz.func37, Tryz.ntmps37
  go_wp2_with fail
  refine (HR.out _).mono ?_
  rintro e w1 ⟨rfl, hb⟩
  have HB1 := Lib.hid hb
  clear hb
  go_wp2_with fail
  go_ret
  exact ⟨rfl, (Below.refl _ _ |>.alloc (Nat.le_refl _) _).trans (HB1.out.mono (by simp))⟩
theorem wrap_small (x : Int) (h0 : -1000000000 ≤ x) (h1 : x ≤ 1000000000) : wrap64 x = x := by unfold wrap64; omega
theorem most23_yes (th sl lo bu : Int) (w : World) (h : Cfg.right ⟨th, sl, lo, bu⟩) : Calls Tryz.prog 37 #[.agg (Cfg.cells ⟨th, sl, lo, bu⟩)] w fun e w' => e = .returned (.int .i64 (12 * sl + 4 * th * lo + 8 * th + 4 * bu + 40)) ∧ Below w.heap.size w w' := by
  have HR := Lib.hid fun w => right_any ⟨th, sl, lo, bu⟩ w
  have d : decide (Cfg.right ⟨th, sl, lo, bu⟩) = true := decide_eq_true h
  rw [d] at HR
  have h' : 1 ≤ th ∧ th ≤ 64 ∧ 1 ≤ sl ∧ sl ≤ 65536 ∧ 1 ≤ lo ∧ lo ≤ 64 ∧ 1 ≤ bu ∧ bu ≤ 64 := h
  obtain ⟨a1, a2, a3, a4, a5, a6, a7, a8⟩ := h'
  obtain ⟨z, hz⟩ : ∃ z, z = 4 * th * lo := ⟨_, rfl⟩
  have z0 : 0 ≤ z := by rw [hz]; exact Int.mul_nonneg (by omega) (by omega)
  have z1 : z ≤ 4 * 64 * 64 := by rw [hz]; exact Int.mul_le_mul (by omega) (by omega) (by omega) (by omega)
  have e1 : wrap64 (12 * sl) = 12 * sl := wrap_small _ (by omega) (by omega)
  have e2 : wrap64 (4 * th) = 4 * th := wrap_small _ (by omega) (by omega)
  have e3 : wrap64 (4 * th * lo) = 4 * th * lo := wrap_small _ (by omega) (by omega)
  have e4 : wrap64 (12 * sl + 4 * th * lo) = 12 * sl + 4 * th * lo := wrap_small _ (by omega) (by omega)
  have e5 : wrap64 (8 * th) = 8 * th := wrap_small _ (by omega) (by omega)
  have e6 : wrap64 (12 * sl + 4 * th * lo + 8 * th) = 12 * sl + 4 * th * lo + 8 * th := wrap_small _ (by omega) (by omega)
  have e7 : wrap64 (4 * bu) = 4 * bu := wrap_small _ (by omega) (by omega)
  have e8 : wrap64 (12 * sl + 4 * th * lo + 8 * th + 4 * bu) = 12 * sl + 4 * th * lo + 8 * th + 4 * bu := wrap_small _ (by omega) (by omega)
  have e9 : wrap64 (12 * sl + 4 * th * lo + 8 * th + 4 * bu + 40) = 12 * sl + 4 * th * lo + 8 * th + 4 * bu + 40 := wrap_small _ (by omega) (by omega)
  have HE : Hid ((wrap64 (wrap64 (wrap64 (wrap64 (wrap64 (12 * sl) + wrap64 (wrap64 (4 * th) * lo)) + wrap64 (8 * th)) + wrap64 (4 * bu)) + 40)) = 12 * sl + 4 * th * lo + 8 * th + 4 * bu + 40) := Lib.hid (by rw [e2, e1, e3, e4, e5, e6, e7, e8, e9])
  clear h d hz z0 z1 a1 a2 a3 a4 a5 a6 a7 a8 e1 e2 e3 e4 e5 e6 e7 e8 e9
  simp only [Cfg.cells] at HR ⊢
  have HB := Lib.hid (Below.refl w.heap.size w)
  go_enter Tryz.func37, Tryz.ntmps37
  go_wp2_with fail
  refine (HR.out _).mono ?_
  rintro e w1 ⟨rfl, hb⟩
  have q : ∀ j, w1.cell? ⟨w.heap.size, j, none⟩ = (w.alloc (.cells #[.int .i64 th, .int .i64 sl, .int .i64 lo, .int .i64 bu] 23)).cell? ⟨w.heap.size, j, none⟩ := fun j => cell_of_heapA (hb.block w.heap.size (by simp)) j
  have q0 := (q 0).trans (cell_alloc w _ 23 0 _ rfl)
  have q1 := (q 1).trans (cell_alloc w _ 23 1 _ rfl)
  have q2 := (q 2).trans (cell_alloc w _ 23 2 _ rfl)
  have q3 := (q 3).trans (cell_alloc w _ 23 3 _ rfl)
  have HB1 := Lib.hid hb
  clear hb q
  go_wp2_with fail
  go_ret
  refine ⟨?_, (Below.refl _ _ |>.alloc (Nat.le_refl _) _).trans (HB1.out.mono (by simp))⟩
  exact ret_intA HE.out
end Go.Proofs.YtkdcfijebgeajaaGreat

namespace Go.Proofs.YtkdcfijebgeajaaGreat
open Go.RowKit Go.BigFrame
set_option linter.unusedVariables false
set_option linter.unusedSimpArgs false
/-- What a call of an example leaves. -/
def Awake (P : Program) (f : FuncId) : Prop := ∀ w, Calls P f #[] w fun e w' => e = .returned (.bool true) ∧ Below w.heap.size w w'
def ActC (k t l o : Int) (x y : Int) : Array Value := #[.int .i64 k, .int .i64 t, .int .i64 l, .int .i64 o, .int .u32 x, .int .u32 y]
theorem do17_nil (k t l o x y : Int) (w : World) : Calls Tryz.prog 17 #[.pointer none, .agg #[.int .i64 k, .int .i64 t, .int .i64 l, .int .i64 o, .int .u32 x, .int .u32 y]] w fun e w' => e = .returned (.int .i64 1) ∧ Below w.heap.size w w' := by
  have HB := Lib.hid (Below.refl w.heap.size w)
  go_enter Tryz.func17, Tryz.ntmps17
  go_wp2_with fail
  go_ret
  exact ⟨rfl, by first | exact Below.refl _ _ | exact (Below.refl _ _).alloc (Nat.le_refl _) _⟩
theorem up18_nil (w : World) : Calls Tryz.prog 18 #[.pointer none] w (Says (.bool false) w) := by
  go_enter Tryz.func18, Tryz.ntmps18
  go_wp2_with fail
  go_ret
  exact ⟨rfl, rfl⟩
theorem corrupt19_nil (w : World) : Calls Tryz.prog 19 #[.pointer none] w (Says (.bool false) w) := by
  go_enter Tryz.func19, Tryz.ntmps19
  go_wp2_with fail
  go_ret
  exact ⟨rfl, rfl⟩
theorem calls20_nil (w : World) : Calls Tryz.prog 20 #[.pointer none] w (Says (.slice none 0 0) w) := by
  go_enter Tryz.func20, Tryz.ntmps20
  go_wp2_with fail
  go_ret
  exact ⟨rfl, rfl⟩
theorem thread21_nil (t : Int) (w : World) : Calls Tryz.prog 21 #[.pointer none, .int .i64 t] w (Says (.pointer none) w) := by
  go_enter Tryz.func21, Tryz.ntmps21
  go_wp2_with fail
  go_ret
  exact ⟨rfl, rfl⟩
theorem layout22_nil (w : World) : Calls Tryz.prog 22 #[.pointer none] w (Says (.pointer none) w) := by
  go_enter Tryz.func22, Tryz.ntmps22
  go_wp2_with fail
  go_ret
  exact ⟨rfl, rfl⟩
theorem memory23_nil (w : World) : Calls Tryz.prog 23 #[.pointer none] w (Says (.pointer none) w) := by
  go_enter Tryz.func23, Tryz.ntmps23
  go_wp2_with fail
  go_ret
  exact ⟨rfl, rfl⟩
set_option maxHeartbeats 4000000 in
theorem law4_with (HA : Hid (Awake Tryz.prog 16)) (k t l o x y : Int) (w : World) : Calls Tryz.prog 4 #[.agg #[.int .i64 k, .int .i64 t, .int .i64 l, .int .i64 o, .int .u32 x, .int .u32 y]] w fun e w' => e = .returned (.bool true) ∧ Below w.heap.size w w' := by
  go_enter Tryz.func4, Tryz.ntmps4
  go_wp2_with fail
  refine (HA.out _).mono ?_
  rintro e w1 ⟨rfl, hb⟩
  have q : ∀ j, w1.cell? ⟨w.heap.size, j, none⟩ = (w.alloc (.cells #[.int .i64 k, .int .i64 t, .int .i64 l, .int .i64 o, .int .u32 x, .int .u32 y] 54)).cell? ⟨w.heap.size, j, none⟩ := fun j => cell_of_heapA (hb.block w.heap.size (by simp)) j
  have q0 := (q 0).trans (cell_alloc w _ 54 0 _ rfl)
  have q1 := (q 1).trans (cell_alloc w _ 54 1 _ rfl)
  have q2 := (q 2).trans (cell_alloc w _ 54 2 _ rfl)
  have q3 := (q 3).trans (cell_alloc w _ 54 3 _ rfl)
  have q4 := (q 4).trans (cell_alloc w _ 54 4 _ rfl)
  have q5 := (q 5).trans (cell_alloc w _ 54 5 _ rfl)
  have hb1 : Below w.heap.size w w1 := ((Below.refl _ _).alloc (Nat.le_refl _) _).trans (hb.mono (by simp))
  have hz1 : w.heap.size < w1.heap.size := by have := hb.size; simp at this; omega
  clear hb q
  have HB1 := Lib.hid hb1
  clear hb1
  go_wp2_with fail
  refine (do17_nil _ _ _ _ _ _ _).mono ?_
  rintro e w2 ⟨rfl, hb2⟩
  have p1 := (cell_of_heapA (hb2.block w.heap.size hz1) 1).trans q1
  have HB2 : Hid (Below w.heap.size w w2) := Lib.hid (HB1.out.trans (hb2.mono (by omega)))
  clear hb2 q0 q1 q2 q3 q4 q5 HB1
  go_wp2_with fail
  refine (up18_nil _).mono ?_
  rintro e w4 ⟨rfl, hw⟩
  cases hw
  go_wp2_with fail
  refine (corrupt19_nil _).mono ?_
  rintro e w4 ⟨rfl, hw⟩
  cases hw
  go_wp2_with fail
  refine (calls20_nil _).mono ?_
  rintro e w4 ⟨rfl, hw⟩
  cases hw
  go_wp2_with fail
  refine (thread21_nil _ _).mono ?_
  rintro e w4 ⟨rfl, hw⟩
  cases hw
  go_wp2_with fail
  refine (layout22_nil _).mono ?_
  rintro e w4 ⟨rfl, hw⟩
  cases hw
  go_wp2_with fail
  refine (memory23_nil _).mono ?_
  rintro e w4 ⟨rfl, hw⟩
  cases hw
  go_wp2_with fail
  go_ret
  exact ⟨rfl, HB2.out⟩
end Go.Proofs.YtkdcfijebgeajaaGreat
