/- What a value that was read as data holds, cell by cell: structs, arrays, slices of them. No program here.
   Layer 9: a ground that came in, opened: its config and what is put. No walk here.
   Layer 9 (a ground laid): puts on a memory; how many words a layout has. No walk here.
   Layer 20 (mark): the nodes, copied; a memory's device. -/
import Derived.WalkKit
import Derived.ProofKit
import Derived.OpenShut
import Derived.Deep.Slices
import Derived.Lib.Hide
import Derived.Test.YtibelcmdfkgonaaGreatK1
import Derived.Lib.SmallJoins
import Derived.Test.YtibelcmdfkgonaaGreatK25
import Derived.Test.YtibelcmdfkgonaaGreatK20
import Derived.Test.YtibelcmdfkgonaaGreatK26
import Derived.Test.YtibelcmdfkgonaaGreatK15
namespace Go.Proofs.YtibelcmdfkgonaaGreat
open Go.RowKit Go.ChangeShapes Go.WideShapes Go.Deep

/-- The kind of a type's j-th cell: an integer kind, or a bool (none). -/
def kindAt (P : Program) : Nat → TypeId → Nat → Option (Option IntKind)
  | 0, _, _ => none
  | d + 1, t, j =>
    match P.underlying t with
    | some (.int k) => if j = 0 then some (some k) else none
    | some .bool => if j = 0 then some none else none
    | some (.struct fs) =>
      match fs.toList.find? fun f => decide (f.offset ≤ j) && decide (j < f.offset + P.cellsOf f.type) with
      | some f => kindAt P d f.type (j - f.offset)
      | none => none
    | some (.array n e) => if 0 < P.cellsOf e ∧ j < n * P.cellsOf e then kindAt P d e (j % P.cellsOf e) else none
    | _ => none

/-- A cell of that kind. -/
def LeafOk (k : Option IntKind) (v : Value) : Prop :=
  match k with
  | some k => ∃ n, v = .int k n ∧ (Lit.int k n).wf = true
  | none => ∃ b, v = .bool b

section
variable {H : Type} {enc : TypeId × Value → H} {P : Program} {w : World} {base : Nat} {spare : Nat → Bool} {held : Bool}

theorem kindAt_ok : ∀ (d : Nat) (t : TypeId) (j : Nat) (k : Option IntKind) (fuel : Nat) (cs : List Value) (x : DataW H × List MemPlace),
    DataW.trod enc P w base spare held fuel t cs = some x → kindAt P d t j = some k → ∃ v, cs[j]? = some v ∧ LeafOk k v
  | 0, _, _, _, _, _, _, _, hk => by simp [kindAt] at hk
  | d + 1, t, j, k, fuel, cs, x, h, hk => by
    unfold kindAt at hk
    split at hk
    · rename_i q hu
      split at hk
      · rename_i hj
        simp only [Option.some.injEq] at hk
        subst hk hj
        obtain ⟨n, rfl, -, hw⟩ := DataW.trod_int hu h
        exact ⟨_, rfl, n, rfl, hw⟩
      · cases hk
    · rename_i hu
      split at hk
      · rename_i hj
        simp only [Option.some.injEq] at hk
        subst hk hj
        obtain ⟨b, rfl, -⟩ := DataW.trod_bool hu h
        exact ⟨_, rfl, b, rfl⟩
      · cases hk
    · rename_i fs hu
      split at hk
      · rename_i f hf
        obtain ⟨xs, n, -, -, hlen, hxs, hfield⟩ := DataW.trod_struct hu h
        have hmem := List.mem_of_find?_eq_some hf
        have hcond := List.find?_some hf
        simp only [Bool.and_eq_true, decide_eq_true_eq] at hcond
        obtain ⟨i, hi, rfl⟩ := List.mem_iff_getElem.1 hmem
        have hfi : fs[i]? = some (fs.toList[i]) := by
          rw [← Array.getElem?_toList]; exact List.getElem?_eq_getElem hi
        have h1 := hfield i _ hfi
        have hix : i < xs.length := by rw [hxs]; simpa using hi
        rw [List.getElem?_eq_getElem hix] at h1
        obtain ⟨v, hv, hl⟩ := kindAt_ok d _ _ k n _ _ h1 hk
        refine ⟨v, ?_, hl⟩
        rw [List.getElem?_take] at hv
        split at hv
        · rw [List.getElem?_drop] at hv
          rw [← hv]; congr 1; omega
        · cases hv
      · cases hk
    · rename_i n e hu
      split at hk
      · rename_i hc
        obtain ⟨xs, m, -, -, hlen, hxs, hel⟩ := DataW.trod_array hu h
        have hi : j / P.cellsOf e < n := Nat.div_lt_of_lt_mul (by rw [Nat.mul_comm]; exact hc.2)
        have h1 := hel _ hi
        rw [List.getElem?_eq_getElem (by omega)] at h1
        obtain ⟨v, hv, hl⟩ := kindAt_ok d _ _ k m _ _ h1 hk
        refine ⟨v, ?_, hl⟩
        rw [List.getElem?_take] at hv
        split at hv
        · rw [List.getElem?_drop] at hv
          rw [← hv]; congr 1
          have := Nat.div_add_mod j (P.cellsOf e)
          rw [Nat.mul_comm] at this
          omega
        · cases hv
      · cases hk
    · cases hk

/-- A slice that came in, cell by cell. -/
theorem open_slice_cells {t e : TypeId} {fuel : Nat} {cs : List Value} {x : DataW H × List MemPlace} (ht : P.underlying t = some (.slice e)) (hc0 : 0 < P.cellsOf e)
    (hk0 : ∃ d k, kindAt P d e 0 = some k) (h : DataW.trod enc P w base spare held fuel t cs = some x) (a : Option Addr) (len cap : Nat) (hcs : cs = [.slice a len cap]) :
    len ≤ cap ∧ cap ≤ maxLen ∧ (len = 0 ∨ ∃ b off, a = some ⟨b, off, none⟩ ∧ b < w.heap.size ∧ ∀ i, i < len → ∀ d j k, j < P.cellsOf e → kindAt P d e j = some k → ∃ v, w.cell? ⟨b, off + i * P.cellsOf e + j, none⟩ = some v ∧ LeafOk k v) := by
  rcases open_slice ht h with ⟨rfl, -⟩ | ⟨ad, len', cap', m, n, D, Pl, rfl, hb, hl, hm, hmm, hx, hi⟩
  · simp only [List.cons.injEq, Value.slice.injEq, and_true] at hcs
    obtain ⟨rfl, rfl, rfl⟩ := hcs
    exact ⟨Nat.le_refl _, Nat.zero_le _, .inl rfl⟩
  · simp only [List.cons.injEq, Value.slice.injEq, and_true] at hcs
    obtain ⟨rfl, rfl, rfl⟩ := hcs
    refine ⟨hl, hm, ?_⟩
    by_cases h0 : len' = 0
    · exact .inl h0
    refine .inr ?_
    have hlm : len' ≤ m := by rw [hmm]; split <;> omega
    have get : ∀ i, i < len' → ∀ d j k, j < P.cellsOf e → kindAt P d e j = some k → ∃ v, w.cell? ((ad.add (i * P.cellsOf e)).add j) = some v ∧ LeafOk k v := by
      intro i hil d j k hj hk
      obtain ⟨cs', hc, ht'⟩ := hi i (by omega)
      obtain ⟨_, hcl, hat⟩ := World.cells?_some hc
      obtain ⟨v, hv, hlf⟩ := kindAt_ok d e j k n cs' _ ht' hk
      exact ⟨v, by rw [hat j hj]; exact hv, hlf⟩
    obtain ⟨b, off, spot⟩ := ad
    obtain ⟨d, k, hk0⟩ := hk0
    obtain ⟨v0, hv0, -⟩ := get 0 (by omega) d 0 k hc0 hk0
    have hspot : spot = none := by
      have := World.cell?_spot hv0
      simpa [Addr.add] using this
    subst hspot
    have hv0' : w.cell? ⟨b, off, none⟩ = some v0 := by
      have := hv0
      rw [Addr.add_lit, Addr.add_lit] at this
      simpa using this
    refine ⟨b, off, rfl, World.block_lt_of_cell? w _ hv0', fun i hil d j k hj hk => ?_⟩
    have := get i hil d j k hj hk
    rwa [Addr.add_lit, Addr.add_lit] at this
end
end Go.Proofs.YtibelcmdfkgonaaGreat

namespace Go.Proofs.YtibelcmdfkgonaaGreat
open Go.RowKit Go.ChangeShapes Go.WideShapes Go.Deep
set_option linter.unusedVariables false
set_option linter.unusedSimpArgs false
theorem cells66 : Tryz.prog.cellsOf 66 = 2 := by kernel_rfl
theorem kind66_0 : kindAt Tryz.prog 3 66 0 = some (some .i64) := by kernel_rfl
theorem kind66_1 : kindAt Tryz.prog 3 66 1 = some (some .u64) := by kernel_rfl
theorem kind26_0 : kindAt Tryz.prog 4 26 0 = some (some .i64) := by kernel_rfl
theorem kind26_1 : kindAt Tryz.prog 4 26 1 = some (some .i64) := by kernel_rfl
theorem kind26_2 : kindAt Tryz.prog 4 26 2 = some (some .i64) := by kernel_rfl
theorem kind26_3 : kindAt Tryz.prog 4 26 3 = some (some .i64) := by kernel_rfl
/-- What is put, in memory: places and words. -/
def PutsIn (W : World) (a : Option Addr) (len : Nat) (at_ wv : Nat → Int) : Prop :=
  ∀ i, i < len → ∃ b off, a = some ⟨b, off, none⟩ ∧ b < W.heap.size ∧ W.cell? ⟨b, off + i * 2, none⟩ = some (.int .i64 (at_ i)) ∧ W.cell? ⟨b, off + i * 2 + 1, none⟩ = some (.int .u64 (wv i)) ∧
    (-9223372036854775808 ≤ at_ i ∧ at_ i ≤ 9223372036854775807) ∧ 0 ≤ wv i ∧ wv i < 18446744073709551616
theorem PutsIn.below {W W' : World} {a : Option Addr} {len : Nat} {at_ wv : Nat → Int} (h : PutsIn W a len at_ wv) (hb : Below W.heap.size W W') : PutsIn W' a len at_ wv := fun i hi => by
  obtain ⟨b, off, e, hl, h1, h2, h3⟩ := h i hi
  exact ⟨b, off, e, Nat.lt_of_lt_of_le hl hb.size, (World.cell?_of_block (hb.block b hl)).trans h1, (World.cell?_of_block (hb.block b hl)).trans h2, h3⟩
theorem puts_of_trod {H : Type} {enc : TypeId × Value → H} {w : World} {base : Nat} {spare : Nat → Bool} {held : Bool} {fuel : Nat} {a : Option Addr} {len cap : Nat} {x : DataW H × List MemPlace}
    (h : DataW.trod enc Tryz.prog w base spare held fuel 24 [.slice a len cap] = some x) : len ≤ cap ∧ cap ≤ maxLen ∧ ∃ at_ wv, PutsIn w a len at_ wv := by
  obtain ⟨h1, h2, h3⟩ := open_slice_cells (P := Tryz.prog) Tryz.underlying24 (by rw [cells66]; decide) ⟨3, _, kind66_0⟩ h a len cap rfl
  refine ⟨h1, h2, ?_⟩
  rcases h3 with rfl | ⟨b, off, rfl, hb, hc⟩
  · exact ⟨fun _ => 0, fun _ => 0, fun i hi => by omega⟩
  · rw [cells66] at hc
    have each : ∀ i, ∃ c : Int × Int, i < len → w.cell? ⟨b, off + i * 2, none⟩ = some (.int .i64 c.1) ∧ w.cell? ⟨b, off + i * 2 + 1, none⟩ = some (.int .u64 c.2) ∧ (-9223372036854775808 ≤ c.1 ∧ c.1 ≤ 9223372036854775807) ∧ 0 ≤ c.2 ∧ c.2 < 18446744073709551616 := by
      intro i
      by_cases hi : i < len
      · obtain ⟨_, c0, n0, rfl, f0⟩ := hc i hi 3 0 _ (by decide) kind66_0
        obtain ⟨_, c1, n1, rfl, f1⟩ := hc i hi 3 1 _ (by decide) kind66_1
        refine ⟨(n0, n1), fun _ => ⟨c0, c1, ?_⟩⟩
        simp [Lit.wf, IntKind.min, IntKind.max, IntKind.signed, IntKind.bits] at f0 f1
        simp only
        omega
      · exact ⟨(0, 0), fun h => absurd h hi⟩
    exact ⟨fun i => (Classical.choose (each i)).1, fun i => (Classical.choose (each i)).2, fun i hi => ⟨b, off, rfl, hb, Classical.choose_spec (each i) hi⟩⟩
set_option maxRecDepth 100000 in
theorem ground_open {H : Type} {enc : TypeId × Value → H} {w : World} {r : Reach} {b0 base : Nat} {spare : Nat → Bool} {held : Bool} {v : Value} {d : DataW H} {p : List MemPlace}
    (hv : Value.okWide Tryz.prog w r b0 26 v) (h : DataW.Trod enc Tryz.prog w base spare held 26 v d p) :
    ∃ (th sl lo' bu : Int) (a : Option Addr) (len cap : Nat) (at_ wv : Nat → Int), v = .agg #[.int .i64 th, .int .i64 sl, .int .i64 lo', .int .i64 bu, .slice a len cap] ∧ len ≤ cap ∧ cap ≤ maxLen ∧ PutsIn w a len at_ wv := by
  obtain ⟨cs, rfl, hsz⟩ := okWide_struct Tryz.underlying26 hv
  obtain ⟨fuel, hf⟩ := h
  obtain ⟨y0, y1, n, -, -, -, h1⟩ := trod_struct2 Tryz.underlying26 hf
  have hc : Tryz.prog.cellsOf 26 = 5 := by kernel_rfl
  rw [hc] at hsz
  obtain ⟨_, g0, n0, rfl, -⟩ := kindAt_ok 4 26 0 _ fuel _ _ hf kind26_0
  obtain ⟨_, g1, n1, rfl, -⟩ := kindAt_ok 4 26 1 _ fuel _ _ hf kind26_1
  obtain ⟨_, g2, n2, rfl, -⟩ := kindAt_ok 4 26 2 _ fuel _ _ hf kind26_2
  obtain ⟨_, g3, n3, rfl, -⟩ := kindAt_ok 4 26 3 _ fuel _ _ hf kind26_3
  have hc24 : Tryz.prog.cellsOf 24 = 1 := by kernel_rfl
  simp only [Value.cells] at g0 g1 g2 g3 h1
  obtain ⟨l⟩ := cs
  match l, hsz with
  | [c0, c1, c2, c3, c4], _ =>
    simp at g0 g1 g2 g3
    subst g0 g1 g2 g3
    have h1' : DataW.trod enc Tryz.prog w base spare held n 24 [c4] = some y1 := by
      rw [hc24] at h1
      exact h1
    have hs : ∃ a len cap, c4 = .slice a len cap := by
      rcases open_slice Tryz.underlying24 h1' with ⟨e, -⟩ | ⟨ad, len', cap', m, n, D, Pl, e, -⟩
      · cases e; exact ⟨_, _, _, rfl⟩
      · cases e; exact ⟨_, _, _, rfl⟩
    obtain ⟨a, len, cap, rfl⟩ := hs
    obtain ⟨e1, e2, at_, wv, e3⟩ := puts_of_trod h1'
    exact ⟨n0, n1, n2, n3, a, len, cap, at_, wv, rfl, e1, e2, e3⟩
end Go.Proofs.YtibelcmdfkgonaaGreat

namespace Go.Proofs.YtibelcmdfkgonaaGreat
open Go.RowKit Go.BigFrame
set_option linter.unusedVariables false
set_option linter.unusedSimpArgs false
def putsM (M : Mv) (at_ wv : Nat → Int) : Nat → Mv
  | 0 => M
  | k + 1 => (putsM M at_ wv k).store 0 (at_ k) (wv k)
def putsR (R : Rv) (at_ wv : Nat → Int) : Nat → Rv
  | 0 => R
  | k + 1 => (putsR R at_ wv k).store 0 (at_ k) (wv k)
/-- The words behind so many puts. -/
def putW (N : Nat) (f : Nat → Int) (a w : Int) : Nat → Int := if 0 ≤ a ∧ a < (N : Int) then upd f a.toNat w else f
def wordsP (N : Nat) (at_ wv : Nat → Int) : Nat → Nat → Int
  | 0 => fun _ => 0
  | k + 1 => putW N (wordsP N at_ wv k) (at_ k) (wv k)
theorem store_all (M : Mv) (t a w : Int) : (M.store t a w).own = M.own ∧ (M.store t a w).n = M.n ∧ (M.store t a w).m = M.m ∧ (M.store t a w).d = M.d ∧ (M.store t a w).ck = M.ck + 1 ∧ (M.store t a w).seen = putW (8 * M.n) M.seen a w := by
  refine ⟨Mv.did_own _ _ _ _, ?_, ?_, ?_, ?_, ?_⟩
  · show (if ((M.peek a).2 && true) = true then M.put a w else M).n = M.n
    split
    · unfold Mv.put; split <;> rfl
    · rfl
  · show (if ((M.peek a).2 && true) = true then M.put a w else M).m = M.m
    split
    · exact Mv.put_m _ _ _
    · rfl
  · show (if ((M.peek a).2 && true) = true then M.put a w else M).d = M.d
    split
    · exact Mv.put_d _ _ _
    · rfl
  · show (if ((M.peek a).2 && true) = true then M.put a w else M).ck + 1 = M.ck + 1
    split
    · rw [Mv.put_ck]
    · rfl
  · show (if ((M.peek a).2 && true) = true then M.put a w else M).seen = putW (8 * M.n) M.seen a w
    unfold putW
    by_cases h0 : 0 ≤ a
    · by_cases h1 : a / 8 < (M.n : Int)
      · have hp : ((M.peek a).2 && true) = true := by unfold Mv.peek peekV; rw [if_pos h0, if_pos h1]; rfl
        rw [if_pos hp, if_pos (show 0 ≤ a ∧ a < ((8 * M.n : Nat) : Int) from ⟨h0, by omega⟩)]
        unfold Mv.put
        rw [if_pos h0]
      · have hp : ¬ ((M.peek a).2 && true) = true := by unfold Mv.peek peekV; rw [if_pos h0, if_neg h1]; decide
        rw [if_neg hp, if_neg (show ¬ (0 ≤ a ∧ a < ((8 * M.n : Nat) : Int)) by omega)]
    · rw [if_neg (show ¬ (0 ≤ a ∧ a < ((8 * M.n : Nat) : Int)) by omega)]
      split
      · unfold Mv.put
        rw [if_neg h0]
      · rfl
theorem putsM_all (M : Mv) (at_ wv : Nat → Int) : ∀ k, (putsM M at_ wv k).own = M.own ∧ (putsM M at_ wv k).n = M.n ∧ (putsM M at_ wv k).m = M.m ∧ (putsM M at_ wv k).d = M.d ∧ (putsM M at_ wv k).ck = M.ck + k
  | 0 => ⟨rfl, rfl, rfl, rfl, by show M.ck = M.ck + 0; omega⟩
  | k + 1 => by
    obtain ⟨h1, h2, h3, h4, h5⟩ := putsM_all M at_ wv k
    obtain ⟨s1, s2, s3, s4, s5, -⟩ := store_all (putsM M at_ wv k) 0 (at_ k) (wv k)
    exact ⟨s1.trans h1, s2.trans h2, s3.trans h3, s4.trans h4, by show ((putsM M at_ wv k).store 0 (at_ k) (wv k)).ck = _; rw [s5, h5]; omega⟩
theorem putsM_seen (M : Mv) (at_ wv : Nat → Int) (h0 : M.seen = fun _ => 0) : ∀ k, (putsM M at_ wv k).seen = wordsP (8 * M.n) at_ wv k
  | 0 => h0
  | k + 1 => by
    have h := (store_all (putsM M at_ wv k) 0 (at_ k) (wv k)).2.2.2.2.2
    rw [putsM_seen M at_ wv h0 k, (putsM_all M at_ wv k).2.1] at h
    exact h
theorem rstore_acts (R : Rv) (t a w : Int) : R.store t a w = R.acts ⟨2, t, a, 0, w, false⟩ := rfl
theorem putsR_all (R : Rv) (at_ wv : Nat → Int) : ∀ k : Nat, (putsR R at_ wv k).own = R.own ∧ (putsR R at_ wv k).m = R.m ∧ (putsR R at_ wv k).wm ≤ R.wm + k ∧ (putsR R at_ wv k).ck ≤ R.ck + k
  | 0 => ⟨rfl, rfl, by show R.wm ≤ R.wm + 0; omega, by show R.ck ≤ R.ck + 0; omega⟩
  | k + 1 => by
    obtain ⟨h1, h2, h3, h4⟩ := putsR_all R at_ wv k
    obtain ⟨s1, s2, s3, s4⟩ := racts_own (putsR R at_ wv k) ⟨2, 0, at_ k, 0, wv k, false⟩
    rw [← rstore_acts] at s1 s2 s3 s4
    exact ⟨s1.trans h1, s2.trans h2, by show ((putsR R at_ wv k).store 0 (at_ k) (wv k)).wm ≤ _; omega, by show ((putsR R at_ wv k).store 0 (at_ k) (wv k)).ck ≤ _; omega⟩
theorem puts_like {M : Mv} {R : Rv} (h : Alike M R) (at_ wv : Nat → Int) : ∀ k, Alike (putsM M at_ wv k) (putsR R at_ wv k)
  | 0 => h
  | k + 1 => (puts_like h at_ wv k).did _ _ _
theorem wordsP_u64 (N : Nat) (at_ wv : Nat → Int) (n : Nat) (h : ∀ i, i < n → 0 ≤ wv i ∧ wv i < 18446744073709551616) : ∀ k, k ≤ n → ∀ j, 0 ≤ wordsP N at_ wv k j ∧ wordsP N at_ wv k j < 18446744073709551616
  | 0, _, j => ⟨Int.le_refl _, by show (0 : Int) < 18446744073709551616; decide⟩
  | k + 1, hk, j => by
    have ih := wordsP_u64 N at_ wv n h k (by omega)
    show 0 ≤ putW N (wordsP N at_ wv k) (at_ k) (wv k) j ∧ putW N (wordsP N at_ wv k) (at_ k) (wv k) j < _
    unfold putW
    split
    · unfold upd
      split
      · exact h k (by omega)
      · exact ih j
    · exact ih j
/-- How many words last, how many pass. -/
def nwN (th sl lo' bu : Nat) : Nat := up8 (40 + bu) + 8 * th + up8 lo' * th + 8 * sl
theorem nw_lines (th sl lo' bu : Nat) : nwN th sl lo' bu = 8 * (5 + (bu + 7) / 8 + th + th * ((lo' + 7) / 8) + sl) := by
  unfold nwN up8
  have e : (lo' + 7) / 8 * 8 * th = 8 * (th * ((lo' + 7) / 8)) := by
    rw [Nat.mul_comm ((lo' + 7) / 8) 8, Nat.mul_assoc, Nat.mul_comm ((lo' + 7) / 8) th]
  rw [e]
  generalize th * ((lo' + 7) / 8) = x
  omega
theorem nw_ln (th sl lo' bu : Nat) : ((nwN th sl lo' bu : Nat) : Int) = (⟨th, sl, lo', bu⟩ : Cfg).lv.ln * 8 := by
  rw [nw_lines]
  show _ = (5 + linesI (bu : Int) + (th : Int) + (th : Int) * linesI (lo' : Int) + (sl : Int)) * 8
  have e1 : linesI (bu : Int) = (((bu + 7) / 8 : Nat) : Int) := by unfold linesI; omega
  have e2 : linesI (lo' : Int) = (((lo' + 7) / 8 : Nat) : Int) := by unfold linesI; omega
  rw [e1, e2, ← Int.natCast_mul]
  generalize th * ((lo' + 7) / 8) = x
  generalize (bu + 7) / 8 = y
  omega
theorem nw_bd (th sl lo' bu : Nat) (h1 : th ≤ 6) (h2 : sl ≤ 30) (h3 : lo' ≤ 8) (h4 : bu ≤ 8) : nwN th sl lo' bu ≤ 400 := by
  rw [nw_lines]
  have : th * ((lo' + 7) / 8) ≤ 6 * 1 := Nat.mul_le_mul h1 (by omega)
  omega
/-- A ground as it is laid, while puts go on. -/
structure LyAt (W0 : World) (G : Array Value) (c : Cfg) (M : Mv) (R : Rv) (l : Nat) (wr : World) : Prop where
  below : Below W0.heap.size W0 wr
  box : wr.heap[W0.heap.size]? = some (.cells G 26 (0, 0))
  lay : LayAt wr l c.lv
  mem : MemAt wr M
  ref : RefAt wr R
  like : Alike M R
  lo : W0.heap.size + 1 ≤ l ∧ (∀ k, M.own k → W0.heap.size + 1 ≤ k ∧ k ≠ l ∧ ¬ R.own k) ∧ ∀ k, R.own k → W0.heap.size + 1 ≤ k ∧ k ≠ l
theorem LyAt.grow {W0 : World} {G : Array Value} {c : Cfg} {M : Mv} {R : Rv} {l : Nat} {wr w' : World} (h : LyAt W0 G c M R l wr) (hb : Below wr.heap.size wr w') : LyAt W0 G c M R l w' :=
  ⟨h.below.trans (hb.mono h.below.size), (hb.block _ (lt_row h.box)).trans h.box, h.lay.keep (hb.block _ h.lay.lt), h.mem.below hb, h.ref.below hb, h.like, h.lo⟩
theorem LyAt.storeM {W0 : World} {G : Array Value} {c : Cfg} {M M' : Mv} {R : Rv} {l : Nat} {wr w' : World} (h : LyAt W0 G c M R l wr) (hm : MemAt w' M') (ht : Turn M.own wr w') (ho : M'.own = M.own) : Below W0.heap.size W0 w' ∧ w'.heap[W0.heap.size]? = some (.cells G 26 (0, 0)) ∧ LayAt w' l c.lv ∧ RefAt w' R := by
  have hs := h.below.size
  refine ⟨h.below.trans (ht.below hs fun k hk ho => by have := (h.lo.2.1 k ho).1; omega), ?_, ?_, ?_⟩
  · exact (ht.block _ (lt_row h.box) fun ho => by have := (h.lo.2.1 _ ho).1; omega).trans h.box
  · exact h.lay.keep (ht.block _ h.lay.lt fun ho => (h.lo.2.1 _ ho).2.1 rfl)
  · exact h.ref.turn ht fun k hr ho => (h.lo.2.1 k ho).2.2 hr
theorem LyAt.both {W0 : World} {G : Array Value} {c : Cfg} {M M' : Mv} {R R' : Rv} {l : Nat} {wr w1 w2 : World} (h : LyAt W0 G c M R l wr) (hm : MemAt w1 M') (ht : Turn M.own wr w1) (ho : M'.own = M.own) {w1' : World} (hb : Below w1.heap.size w1 w1') (hr : RefAt w2 R') (ht2 : Turn R.own w1' w2) (ho2 : R'.own = R.own) (hl : Alike M' R') : LyAt W0 G c M' R' l w2 := by
  obtain ⟨b1, b2, b3, b4⟩ := h.storeM hm ht ho
  have hm' := hm.below hb
  have b1' := b1.trans (hb.mono b1.size)
  have b2' := (hb.block _ (lt_row b2)).trans b2
  have b3' := b3.keep (hb.block _ b3.lt)
  refine ⟨b1'.trans (ht2.below b1'.size fun k hk ho => by have := (h.lo.2.2 k ho).1; omega), ?_, ?_, ?_, hr, hl, ?_⟩
  · exact (ht2.block _ (lt_row b2') fun ho => by have := (h.lo.2.2 _ ho).1; omega).trans b2'
  · exact b3'.keep (ht2.block _ b3'.lt fun ho => (h.lo.2.2 _ ho).2 rfl)
  · exact hm'.turn ht2 fun k hk hr => (h.lo.2.1 k (by rw [← ho]; exact hk)).2.2 hr
  · rw [ho, ho2]; exact h.lo
/-- What Lay answers of a ground that may be. -/
structure Laid (c : Cfg) (at_ wv : Nat → Int) (len : Nat) (W W' : World) (l : Nat) (M : Mv) (R : Rv) : Prop where
  below : Below W.heap.size W W'
  lay : LayAt W' l c.lv
  mem : MemAt W' M
  ref : RefAt W' R
  like : Alike M R
  lo : W.heap.size + 1 ≤ l ∧ (∀ k, M.own k → W.heap.size + 1 ≤ k ∧ k ≠ l ∧ ¬ R.own k) ∧ ∀ k, R.own k → W.heap.size + 1 ≤ k ∧ k ≠ l
  n : ((8 * M.n : Nat) : Int) = c.lv.ln * 8
  ck : M.ck = len
  seen : M.seen = wordsP (8 * M.n) at_ wv len
def LayTo (c : Cfg) (at_ wv : Nat → Int) (len : Nat) (W : World) (e : Ending) (W' : World) : Prop :=
  (¬ (c.few ∧ len ≤ 100) ∧ e = .returned (.tuple #[.pointer none, .pointer none, .pointer none, .bool false]) ∧ Below W.heap.size W W') ∨
  ((c.few ∧ len ≤ 100) ∧ ∃ l M R, e = .returned (.tuple #[.pointer (some ⟨l, 0, none⟩), .pointer (some ⟨M.m, 0, none⟩), .pointer (some ⟨R.m, 0, none⟩), .bool true]) ∧ Laid c at_ wv len W W' l M R)
end Go.Proofs.YtibelcmdfkgonaaGreat

namespace Go.Proofs.YtibelcmdfkgonaaGreat
open Go.RowKit Go.BigFrame
set_option linter.unusedVariables false
set_option linter.unusedSimpArgs false
theorem info50' : (Tryz.prog.info? 50).map (fun i => (i.zero, i.size, i.bytes)) = some (some (.agg #[.int .i64 0, .int .i64 0, .int .u64 0, .int .u64 0]), 4, 32) := by kernel_rfl
theorem nodesV_one (ns : List Node) : ∀ u ∈ nodesV ns, u.oneCell' = true := by
  induction ns with
  | nil => intro u hu; cases hu
  | cons a t ih =>
    intro u hu
    simp only [nodesV, List.flatMap_cons, List.mem_append, List.mem_cons, List.not_mem_nil, or_false] at hu ih
    rcases hu with (rfl | rfl | rfl | rfl) | hu
    · rfl
    · rfl
    · rfl
    · rfl
    · exact ih u hu
/-- A copy of nodes. -/
def NodesTo (n : Nat) (xs : List Value) (W : World) (e : Ending) (W' : World) : Prop := ∃ v, e = .returned v ∧ Below W.heap.size W W' ∧ W'.ownsRow W.heap.size 50 4 v n xs
theorem clone83_nil (W : World) : Calls Tryz.prog 83 #[.slice none 0 0] W (NodesTo 0 [] W) := by
  unfold NodesTo
  have hnil := fun w : World => Lib.run_eql_slice_nil (P := Tryz.prog) w 45 50 none 0 0 0 0 Tryz.underlying45
  go_enter Tryz.func83, Tryz.ntmps83
  go_wp2_with fail
  go_ret
  exact ⟨_, rfl, Below.refl _ _, World.ownsRow_nil _ _ _ _⟩
set_option maxRecDepth 100000 in
theorem clone83 (g n cap : Nat) (c : Array Value) (h1 : n ≤ 1000000) (xs : List Value) (W : World) (hg : W.heap[g]? = some (.cells c 50 (0, 0))) (hxs : xs.length = n * 4) (hc : ∀ j, j < n * 4 → c[j]? = xs[j]?) (h1c : ∀ u ∈ xs, u.oneCell' = true) :
    Calls Tryz.prog 83 #[.slice (some ⟨g, 0, none⟩) n cap] W (NodesTo n xs W) := by
  obtain ⟨i102, hi, hz0, hz1, hz2⟩ := info_parts info50'
  have HG := Lib.hid hg
  have HC := Lib.hid hc
  have HX := Lib.hid hxs
  have H1 := Lib.hid h1c
  clear hg hc hxs h1c
  obtain ⟨B, hB⟩ : ∃ B, B = W.heap.size := ⟨_, rfl⟩
  unfold NodesTo
  rw [← hB]
  have HB := Lib.hid hB
  clear hB
  have hnil := fun w : World => Lib.run_eql_slice_nil (P := Tryz.prog) w 45 50 (some ⟨g, 0, none⟩) n cap 0 0 Tryz.underlying45
  go_enter Tryz.func83, Tryz.ntmps83
  have hgl : g < W.heap.size := (Array.getElem?_eq_some_iff.1 HG.out).1
  go_wp2_with (at_builtin; refine wpList_append_own _ rfl (.tmp 5) (.tmp 6) 45 rfl B 50 i102 _ 4 32 Tryz.underlying45 hi hz0 hz1 hz2 rfl (by decide) (.slice (some ⟨W.heap.size, 0, none⟩) 0 0) 0 [] rfl (World.ownsRow_made W #[] 0 (by have := HB.out; omega) (by unfold maxLen; omega) rfl) ⟨g, 0, none⟩ n cap xs rfl HX.out (fun j u hj => by rw [Addr.add_lit, Nat.zero_add, cell_in ((Below.heap_alloc W _ g hgl).trans HG.out), HC.out j (by rw [← HX.out]; exact (List.getElem?_eq_some_iff.1 hj).1)]; exact hj) H1.out (by unfold maxLen; omega) (by omega) (by have := HB.out; simp; omega) ?_; intro v' w' hown hgr hne; have HO' := Lib.hid hown; have HG' := Lib.hid hgr; clear hown hgr hne)
  go_wp2_with fail
  go_ret
  refine ⟨_, rfl, ?_, ?_⟩
  · exact ((Below.refl _ _).alloc (by have := HB.out; omega) _).grown HG'.out (by have := HB.out; rw [World.size_alloc]; omega) (fun q e => by cases e; show B ≤ W.heap.size; have := HB.out; omega)
  · have := HO'.out
    rw [Nat.zero_add, List.nil_append] at this
    exact this
/-- The nodes told. -/
def NodesOf (s : MS) : List Node := if s.corrupt = true then [] else s.nodes
def NodesTold (s : MS) (W : World) (e : Ending) (W' : World) : Prop := (s.corrupt = true ∧ e = .returned (.slice none 0 0) ∧ W' = W) ∨ (s.corrupt = false ∧ NodesTo s.nodes.length (nodesV s.nodes) W e W')
theorem cloneN (K : Mk) (W : World) (h : MkAt W K) (hn : K.s.nodes.length ≤ 1000000) : Calls Tryz.prog 83 #[K.nv] W (NodesTo K.s.nodes.length (nodesV K.s.nodes) W) := by
  rcases h.nodes.2 with ⟨hv, h0⟩ | ⟨g, cap, cur, hv, -, hg, h1, h2, h3, h4⟩
  · rw [hv]
    have e : K.s.nodes = [] := List.length_eq_zero_iff.1 h0
    rw [e]
    exact clone83_nil W
  · rw [hv]
    refine clone83 g _ cap cur hn _ W hg (nodesV_len _) (fun j hj => ?_) (nodesV_one _)
    rw [← h4, List.getElem?_take, if_pos hj]; simp
theorem nodes17 (K : Mk) (W : World) (h : MkAt W K) (hn : K.s.nodes.length ≤ 1000000) : Calls Tryz.prog 17 #[.pointer (some ⟨K.x, 0, none⟩)] W (NodesTold K.s W) := by
  have HC := Lib.hid (cloneN K W h hn)
  have q6 := cell_row h.row 6 _ rfl
  have q8 := cell_row h.row 8 _ rfl
  clear h hn
  unfold NodesTold
  generalize K.s.corrupt = co at *
  generalize K.nv = nv at *
  cases co
  · go_enter Tryz.func17, Tryz.ntmps17
    go_wp2_with fail
    with_reducible refine HC.out.mono ?_
    rintro e w' h
    have h' := h
    obtain ⟨v, rfl, h2⟩ := h
    have H := Lib.hid h'
    clear h' h2 HC
    go_wp2_with fail
    go_ret
    exact .inr ⟨trivial, H.out⟩
  · go_enter Tryz.func17, Tryz.ntmps17
    go_wp2_with fail
    go_ret
    exact .inl ⟨trivial, rfl, rfl⟩
theorem device11 (M : Mv) (W : World) (h : MemAt W M) : Calls Tryz.prog 11 #[.pointer (some ⟨M.m, 0, none⟩)] W (Says (.pointer (some ⟨M.d, 0, none⟩)) W) := by
  have q0 := cell_row h.row 0 _ rfl
  clear h
  go_enter Tryz.func11, Tryz.ntmps11
  go_wp2_with fail
  go_ret
  exact ⟨rfl, rfl⟩
end Go.Proofs.YtibelcmdfkgonaaGreat
