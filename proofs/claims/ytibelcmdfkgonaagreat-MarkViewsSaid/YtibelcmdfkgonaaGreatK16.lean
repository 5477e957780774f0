/- A region that draws, its last operation forced to be the last: walked without it. No program here.
   Layers 4, 7: why there is no memory.
   Layer 3: words cut into lines. -/
import Derived.Test.YtibelcmdfkgonaaGreatK13
import Derived.Deep.RegionHeld3
import Derived.StillTail
import Derived.Test.YtibelcmdfkgonaaGreatK4
import Derived.Test.YtibelcmdfkgonaaGreatK15
namespace Go.Proofs.YtibelcmdfkgonaaGreat
open Go.RowKit
set_option linter.unusedVariables false
set_option linter.unusedSimpArgs false

/-- What follows is the operation o, then Q. -/
def ThenOp (P : Program) (o : Oper) (Q : Exit → Act → World → Prop) : Exit → Act → World → Prop
  | .normal, a, w => o.wp P a w (fun a w => Q .normal a w) Q
  | e, a, w => Q e a w
section
variable {P : Program} {ops : Array Oper} {o : Oper} {Q : Exit → Act → World → Prop} {md : Region.Mode}
theorem wp_then {x : Oper} {a : Act} {w : World} {K K' : Act → World → Prop} (hout : LetsOut (ThenOp P o Q) → LetsOut Q) (h : ∀ a w, K a w → K' a w) (hh : x.wp P a w K (ThenOp P o Q)) : x.wp P a w K' Q := by
  unfold Oper.wp at *
  generalize (execOp a.eval x).run P w = r at *
  cases r with
  | ok n w' =>
    cases n <;> simp only [Oper.upon] at hh ⊢ <;>
      first
        | exact h _ _ hh
        | exact Calls.mono hh (fun e w'' he => by cases e <;> first | exact h _ _ he | exact he | exact hout he)
        | exact Rows.mono hh (fun _ _ he => h _ _ he)
  | halt x w' => cases x <;> simp only [Oper.upon] at hh ⊢ <;> exact hh
theorem getD_push (l : Array Bool) (j : Nat) (d : Bool) (h : j < l.size) : (l.push false).getD j d = l.getD j d := by
  simp [Array.getD, h, Array.getElem_push_lt, Nat.lt_succ_of_lt h]
theorem all_of_none {listed : Array Bool} (hs : listed.size = ops.size) (hback : ∀ i oi, ops[i]? = some oi → ∀ e ∈ oi.after, Region.binds md e = true → e.on < i)
    (hr : Region.ready md ops listed = []) : ∀ n i, i < n → i < ops.size → listed.getD i false = true := by
  intro n
  induction n with
  | zero => intro i h; omega
  | succ n ih =>
    intro i hi hlt
    by_cases hin : i < n
    · exact ih i hin hlt
    · cases hl : listed.getD i false with
      | true => rfl
      | false =>
        exfalso
        have hm : i ∈ Region.ready md ops listed := mem_ready.2 ⟨getD_in (by omega) hl, ops[i], by simp [hlt], fun e he hb => ih e.on (by have := hback i _ (by simp [hlt]) e he hb; omega) (by have := hback i _ (by simp [hlt]) e he hb; omega)⟩
        rw [hr] at hm; cases hm
theorem wpAny_last (hg : o.guard = none) (hin : ∀ e ∈ o.after, e.on < ops.size) {listed : Array Bool} (hs : listed.size = ops.size) (hall : ∀ i, i < ops.size → listed.getD i false = true) {a : Act} {w : World} (h : ThenOp P o Q .normal a w) :
    ∀ g, wpAny P md (ops.push o) Q (g + 1) (listed.push false) a w := by
  intro g
  have hn : ∀ j, j ∈ Region.ready md (ops.push o) (listed.push false) ↔ j = ops.size := by
    intro j
    rw [mem_ready]
    constructor
    · rintro ⟨h1, oj, h2, h3⟩
      have hj : j < ops.size + 1 := by have := (Array.getElem?_eq_some_iff.1 h2).1; simpa using this
      refine Classical.byContradiction fun hne => ?_
      have hj' : j < ops.size := by omega
      rw [getD_push _ _ _ (by omega)] at h1
      have := hall j hj'
      rw [getD_both h1] at this; cases this
    · rintro rfl
      refine ⟨by rw [← hs]; simp [Array.getD], o, by simp, fun e he hb => ?_⟩
      rw [getD_push _ _ _ (by have := hin e he; omega)]
      exact hall _ (hin e he)
  have hdone : Region.ready md (ops.push o) ((listed.push false).setIfInBounds ops.size true) = [] := by
    refine List.eq_nil_iff_forall_not_mem.2 fun j hj => ?_
    obtain ⟨h1, oj, h2, h3⟩ := mem_ready.1 hj
    have hj' : j < ops.size + 1 := by have := (Array.getElem?_eq_some_iff.1 h2).1; simpa using this
    by_cases e : j = ops.size
    · subst e
      simp [Array.getD, hs] at h1
    · rw [getD_set_ne true (Ne.symm e), getD_push _ _ _ (by omega)] at h1
      have := hall j (by omega)
      rw [getD_both h1] at this; cases this
  refine ⟨fun h0 => ?_, fun i hi => ?_⟩
  · have := (hn ops.size).2 rfl
    rw [h0] at this; cases this
  · obtain rfl := (hn i).1 hi
    unfold wpOp
    simp only [Array.getElem?_push_size]
    rw [if_pos (by simp [Region.wanted, hg])]
    exact Or.inl (Oper.wp_mono (fun a w hq => wpAny_done hdone hq g) h)
theorem wpAny_push (hg : o.guard = none) (hout : LetsOut (ThenOp P o Q) → LetsOut Q) (hin : ∀ e ∈ o.after, e.on < ops.size)
    (hla : ∀ i, i < ops.size → (∃ e ∈ o.after, Region.binds md e = true ∧ e.on = i) ∨ ∃ j oj, ops[j]? = some oj ∧ (∃ e ∈ o.after, Region.binds md e = true ∧ e.on = j) ∧ ∃ e ∈ oj.after, Region.binds md e = true ∧ e.on = i) (hno : ∀ (i : Nat) (oi : Oper), ops[i]? = some oi → oi.guard = none) (hback : ∀ i oi, ops[i]? = some oi → ∀ e ∈ oi.after, Region.binds md e = true → e.on < i) :
    ∀ (g : Nat) (listed : Array Bool) (a : Act) (w : World), Closed md ops listed → wpAny P md ops (ThenOp P o Q) g listed a w → wpAny P md (ops.push o) Q (g + 1) (listed.push false) a w
  | 0, listed, a, w, hc, h => wpAny_last hg hin hc.1 (fun i hi => all_of_none hc.1 hback h.1 ops.size i hi hi) h.2 0
  | g + 1, listed, a, w, hc, h => by
    have hs := hc.1
    by_cases hr : Region.ready md ops listed = []
    · exact wpAny_last hg hin hs (fun i hi => all_of_none hs hback hr ops.size i hi hi) (h.1 hr) (g + 1)
    · have hmem : ∀ j, j ∈ Region.ready md (ops.push o) (listed.push false) ↔ j ∈ Region.ready md ops listed := by
        intro j
        constructor
        · intro hj
          obtain ⟨h1, oj, h2, h3⟩ := mem_ready.1 hj
          have hj' : j < ops.size + 1 := by have := (Array.getElem?_eq_some_iff.1 h2).1; simpa using this
          by_cases e : j = ops.size
          · exfalso
            subst e
            rw [Array.getElem?_push_size] at h2
            cases h2
            refine hr (List.eq_nil_iff_forall_not_mem.2 fun i hi => ?_)
            obtain ⟨g1, oi, g2, g3⟩ := mem_ready.1 hi
            have hi' : i < ops.size := (Array.getElem?_eq_some_iff.1 g2).1
            rcases hla i hi' with ⟨e, he, hb, rfl⟩ | ⟨j, oj, hoj, ⟨e, he, hb, rfl⟩, e2, he2, hb2, rfl⟩
            · have := h3 e he hb
              rw [getD_push _ _ _ (by omega), getD_both g1] at this
              cases this
            · have h4 := h3 e he hb
              rw [getD_push _ _ _ (by have := (Array.getElem?_eq_some_iff.1 hoj).1; omega)] at h4
              have := hc.2 e.on oj hoj h4 e2 he2 hb2
              rw [getD_both g1] at this
              cases this
          · have hjn : j < ops.size := by omega
            have h2' : ops[j]? = some oj := by rw [← h2, Array.getElem?_push_lt hjn]; simp [hjn]
            refine mem_ready.2 ⟨(getD_push _ _ _ (by omega)).symm.trans h1, oj, h2', fun e he hb => ?_⟩
            have := h3 e he hb
            have hlt := hback j oj h2' e he hb
            rw [getD_push _ _ _ (by omega)] at this
            exact this
        · intro hj
          obtain ⟨h1, oj, h2, h3⟩ := mem_ready.1 hj
          have hjn : j < ops.size := (Array.getElem?_eq_some_iff.1 h2).1
          refine mem_ready.2 ⟨(getD_push _ _ _ (by omega)).trans h1, oj, by rw [← h2, Array.getElem?_push_lt hjn]; simp [hjn], fun e he hb => ?_⟩
          have hlt := hback j oj h2 e he hb
          rw [getD_push _ _ _ (by omega)]
          exact h3 e he hb
      refine ⟨fun h0 => absurd (List.eq_nil_iff_forall_not_mem.2 fun j hj => by rw [← hmem, h0] at hj; cases hj) hr, fun i hi => ?_⟩
      have hi2 := (hmem i).1 hi
      obtain ⟨h1, oi, h2, h3⟩ := mem_ready.1 hi2
      have hin' : i < ops.size := (Array.getElem?_eq_some_iff.1 h2).1
      have hw := h.2 i hi2
      have e1 : (ops.push o)[i]? = some oi := by rw [← h2, Array.getElem?_push_lt hin']; simp [hin']
      have e2 : (listed.push false).setIfInBounds i true = (listed.setIfInBounds i true).push false := by
        apply Array.ext'
        simp only [Array.toList_setIfInBounds, Array.toList_push]
        rw [List.set_append_left _ _ (by simp; omega)]
      unfold wpOp at hw ⊢
      simp only [h2] at hw
      simp only [e1]
      rw [if_pos (by simp [Region.wanted, hno i oi h2])] at hw ⊢
      rw [e2]
      rcases hw with hw | hw
      · exact Or.inl (wp_then hout (fun a w hk => wpAny_push hg hout hin hla hno hback g _ a w (hc.set hi2) hk) hw)
      · exact Or.inr ⟨hw.1, hout hw.2⟩
/-- The last operation waits for all the others, none of which waits for one behind it; no guards. -/
def lastB (md : Region.Mode) (ops : Array Oper) (o : Oper) : Bool :=
  o.guard.isNone && ops.toList.all (·.guard.isNone) && o.after.toList.all (fun e => decide (e.on < ops.size)) && (List.range ops.size).all (fun i => (o.after.toList.any fun e => Region.binds md e && e.on == i) || ((List.range ops.size).any fun j => (o.after.toList.any fun e => Region.binds md e && e.on == j) && (match ops[j]? with | some oj => oj.after.toList.any fun e => Region.binds md e && e.on == i | none => false))) &&
  (List.range ops.size).all fun i => match ops[i]? with | some oi => oi.after.toList.all (fun e => !Region.binds md e || decide (e.on < i)) | none => true
theorem any_last {a : Act} {w : World} (S : World → Prop) (ho : ops.back? = some o) (hB : lastB .any ops.pop o = true)
    (h : wpAnyH P .any ops.pop (ThenOp P o Q) S ops.pop.size (Array.replicate ops.pop.size false) a w) : wpAny P .any ops Q ops.size (Array.replicate ops.size false) a w := by
  have hops : ops = ops.pop.push o := by
    have hne : 0 < ops.size := by
      refine Nat.pos_of_ne_zero fun h0 => ?_
      rw [Array.back?, Array.getElem?_eq_none (by omega)] at ho; cases ho
    apply Array.ext (by simp; omega)
    intro i h1 h2
    by_cases hi : i < ops.size - 1
    · rw [Array.getElem_push_lt (by simpa using hi)]; simp
    · have hi' : i = ops.size - 1 := by omega
      subst hi'
      rw [Array.back?, Array.getElem?_eq_getElem (by omega)] at ho
      have ho' := Option.some.inj ho
      have : (ops.pop.push o)[ops.size - 1] = o := by simp [Array.getElem_push]
      rw [this, ← ho']
  unfold lastB at hB
  simp only [Bool.and_eq_true, Bool.or_eq_true, List.all_eq_true, List.any_eq_true, decide_eq_true_eq, beq_iff_eq, List.mem_range] at hB
  obtain ⟨⟨⟨⟨b1, b2⟩, b3⟩, b4⟩, b5⟩ := hB
  have key := wpAny_push (P := P) (Q := Q) (md := .any) (ops := ops.pop) (o := o) (Option.isNone_iff_eq_none.1 b1) (fun ⟨a, w, h⟩ => ⟨a, w, h⟩) (fun e he => b3 e (Array.mem_toList_iff.2 he))
    (fun i hi => by
      rcases b4 i hi with ⟨e, he, h1, h2⟩ | ⟨j, hj, ⟨e, he, h1, h2⟩, hm⟩
      · exact .inl ⟨e, Array.mem_toList_iff.1 he, h1, h2⟩
      · cases hoj : ops.pop[j]? with
        | none => rw [hoj] at hm; cases hm
        | some oj =>
          rw [hoj] at hm
          simp only [List.any_eq_true, Bool.and_eq_true, beq_iff_eq] at hm
          obtain ⟨e2, he2, h3, h4⟩ := hm
          exact .inr ⟨j, oj, hoj, ⟨e, Array.mem_toList_iff.1 he, h1, h2⟩, e2, Array.mem_toList_iff.1 he2, h3, h4⟩)
    (fun i oi hoi => Option.isNone_iff_eq_none.1 (b2 oi (Array.mem_toList_iff.2 (Array.mem_of_getElem? hoi))))
    (fun i oi hoi e he hb => by
      have h5 := b5 i (Array.getElem?_eq_some_iff.1 hoi).1
      rw [hoi] at h5
      simp only [List.all_eq_true, Bool.or_eq_true, Bool.not_eq_true', decide_eq_true_eq] at h5
      rcases h5 e (Array.mem_toList_iff.2 he) with h6 | h6
      · rw [hb] at h6; cases h6
      · exact h6)
    ops.pop.size (Array.replicate ops.pop.size false) a w ⟨by simp, fun j oj _ hl => (by rw [getD_replicate_false] at hl; cases hl)⟩ (wpAny_of_held _ _ _ _ h)
  have e1 : (Array.replicate ops.pop.size false).push false = Array.replicate (ops.pop.size + 1) false := by simp [Array.replicate_succ]
  rw [e1] at key
  rw [hops]
  simpa using key
theorem region_last {id : Nat} {a : Act} {w : World} (S : World → Prop) (hm : P.follows .mixedOrders = true) (ho : ops.back? = some o) (hB : lastB .any ops.pop o = true)
    (h : wpAnyH P .any ops.pop (ThenOp P o Q) S ops.pop.size (Array.replicate ops.pop.size false) a w.drew) : (Code.region id ops true).wp P Q a w :=
  wp_region_any hm (any_last S ho hB h)
/-- 'wpAnyH_take', its place written out. -/
theorem take_at {S : World → Prop} (i : Nat) (d : Option Tmp) (v : Value) {oi : Oper} {fuel : Nat} {listed : Array Bool} {a : Act} {w : World} (hi : ops[i]? = some oi) (hd : oi.dst = d)
    (hs : Region.noSelect ops = true) (hf : Region.free md ops listed i = true) (hr : (Region.ready md ops listed).contains i = true)
    (hQ : ∀ c a w, Q (.panic c) (a.put oi.dst v) w → Q (.panic c) a w) (hy : YieldsIf P ops S oi v a) (hS : S w)
    (h : wpAnyH P md ops Q S fuel (listed.setIfInBounds i true) (a.put d v) w) : wpAnyH P md ops Q S (fuel + 1) listed a w :=
  wpAnyH_take hi hs hf hr hQ hy hS (by rw [hd]; exact h)
end
end Go.Proofs.YtibelcmdfkgonaaGreat

namespace Go.Proofs.YtibelcmdfkgonaaGreat
open Go.RowKit Go.BigFrame
set_option linter.unusedVariables false
set_option linter.unusedSimpArgs false
theorem new19_no (d : Nat) (np : Int) (h : np < 0 ∨ 262144 < np) (w : World) : Calls Tryz.prog 62 #[.pointer (some ⟨d, 0, none⟩), .int .i64 np] w (Tells (.tuple #[.pointer none, .int .i64 1]) w) := by
  by_cases h0 : np < 0
  · have d0 : decide (np < 0) = true := bool_yes h0
    go_enter Tryz.func62, Tryz.ntmps62
    go_wp2_with fail
    go_ret2
    exact ⟨rfl, Below.refl _ _, rfl⟩
  · have d0 : decide (np < 0) = false := bool_no h0
    have d1 : decide (262144 < np) = true := bool_yes (by omega)
    go_enter Tryz.func62, Tryz.ntmps62
    go_wp2_with fail
    go_ret2
    exact ⟨rfl, Below.refl _ _, rfl⟩
theorem open18_no (a : Option Addr) (n cap : Nat) (t : Int) (h : ¬ (1 ≤ t ∧ t ≤ 64)) (w : World) : Calls Tryz.prog 61 #[.slice a n cap, .int .i64 t] w (Tells (.tuple #[.pointer none, .int .i64 1]) w) := by
  have HT := Lib.hid (threads34 t w)
  rw [bool_no h] at HT
  clear h
  go_enter Tryz.func61, Tryz.ntmps61
  go_wp2_with fail
  refine HT.out.mono ?_
  rintro e w' ⟨rfl, hw⟩
  cases hw
  go_wp2_with fail
  go_ret2
  exact ⟨rfl, Below.refl _ _, rfl⟩
end Go.Proofs.YtibelcmdfkgonaaGreat

namespace Go.Proofs.YtibelcmdfkgonaaGreat
open Go.RowKit Go.BigFrame
set_option linter.unusedVariables false
set_option linter.unusedSimpArgs false
theorem info102 : (Tryz.prog.info? 218).map (fun i => (i.zero, i.size, i.bytes)) = some (some (.agg #[.int .u64 0, .int .u64 0, .int .u64 0, .int .u64 0, .int .u64 0, .int .u64 0, .int .u64 0, .int .u64 0]), 8, 64) := by kernel_rfl
theorem step_line {ops : Array Oper} {o : Oper} {a : Act} {w : World} {K : Act → World → Prop} {Q : Exit → Act → World → Prop} {E : Prop} (hgd : o.guard = none) (t : Nat) (ho : o.op = .buildSlice 140 1 #[(0, .tmp t)]) (v0 v1 v2 v3 v4 v5 v6 v7 : Int)
    (hs : a.tmps[t]?.getD undef = .agg #[.int .u64 v0, .int .u64 v1, .int .u64 v2, .int .u64 v3, .int .u64 v4, .int .u64 v5, .int .u64 v6, .int .u64 v7])
    (h : K (a.put o.dst (.slice (some ⟨w.heap.size, 0, none⟩) 1 1)) (w.alloc (.cells #[.int .u64 v0, .int .u64 v1, .int .u64 v2, .int .u64 v3, .int .u64 v4, .int .u64 v5, .int .u64 v6, .int .u64 v7] 218))) :
    if Region.wanted o (yielded ops a.tmps) = true then Oper.wp Tryz.prog o a w K Q else E := by
  have hw : Region.wanted o (yielded ops a.tmps) = true := by simp [Region.wanted, hgd]
  rw [if_pos hw]
  obtain ⟨o1, o2, o3, o4, o5, o6⟩ := o
  subst ho
  simp [Oper.wp, go_sem, hs]
  exact h
/-- Words were cut into lines, or not. -/
def CutTo (f : Nat → Int) (n : Nat) (w : World) (e : Ending) (w' : World) : Prop :=
  ∃ v, e = .returned (.tuple #[v, .int .i64 0]) ∧ Below w.heap.size w w' ∧ w'.ownsRow w.heap.size 218 8 v (n / 8) (wordsL f (8 * (n / 8)))
def wholeE (n : Nat) : Int := if (n : Int) % 8 ≠ 0 then 3 else if 262144 < (n : Int) / 8 then 2 else 0
theorem cut35_no (a : Option Addr) (n cap : Nat) (hn : n ≤ 9223372036854775807) (he : wholeE n ≠ 0) (w : World) : Calls Tryz.prog 124 #[.slice a n cap] w (Tells (.tuple #[.slice none 0 0, .int .i64 (wholeE n)]) w) := by
  have HW := Lib.hid (whole49 n hn w)
  rw [show (if (n : Int) % 8 ≠ 0 then (3 : Int) else if 262144 < (n : Int) / 8 then 2 else 0) = wholeE n from rfl] at HW
  generalize wholeE n = e at *
  have e1 : (e != 0) = true := by simpa using he
  clear he
  go_enter Tryz.func124, Tryz.ntmps124
  go_wp2_with fail
  with_reducible refine HW.out.mono ?_
  rintro e w' ⟨rfl, hw⟩
  cases hw
  go_wp2_with fail
  go_ret2
  exact ⟨rfl, Below.refl _ _, rfl⟩
/-- Left by its end or by ret alone. -/
def OnlyRet (Q : Exit → Act → World → Prop) : Exit → Act → World → Prop
  | .ret, a, w => Q .ret a w
  | .normal, a, w => Q .normal a w
  | _, _, _ => False
theorem OnlyRet.out {Q : Exit → Act → World → Prop} (e : Exit) (a : Act) (w : World) (h : OnlyRet Q e a w) : Q e a w := by
  cases e <;> first | exact h | exact h.elim
set_option maxRecDepth 100000 in
set_option maxHeartbeats 4000000 in
theorem cut35 (a0 : Option Addr) (b off n cap : Nat) (ha : 8 ≤ n → a0 = some ⟨b, off, none⟩) (hn : n ≤ cap) (hc : cap ≤ 9223372036854775807) (he : wholeE n = 0) (f : Nat → Int) (w0 : World) (hb : 0 < n → b < w0.heap.size) (hw : ∀ j, j < n → w0.cell? ⟨b, off + j, none⟩ = some (.int .u64 (f j))) :
    Calls Tryz.prog 124 #[.slice a0 n cap] w0 (CutTo f n w0) := by
  have HW := Lib.hid (whole49 n (by omega) w0)
  rw [show (if (n : Int) % 8 ≠ 0 then (3 : Int) else if 262144 < (n : Int) / 8 then 2 else 0) = 0 from he] at HW
  have HN : Hid (n % 8 = 0 ∧ n / 8 ≤ 262144) := Lib.hid (by unfold wholeE at he; split at he; omega; split at he; omega; omega)
  have HB := Lib.hid hb
  have HA := Lib.hid ha
  have HD := Lib.hid hw
  have HC := Lib.hid (And.intro hn hc)
  clear hb hw hn hc he ha
  refine (callsIn_wide (n := 9)).1 (callsIn_of_wp_marks Tryz.func124 rfl trivial ?_ rfl)
  refine wpIn_wide.2 ?_
  simp only [Tryz.ntmps124, List.size_toArray, List.length_cons, List.length_nil, Nat.reduceAdd, Nat.reduceSub, Array.replicate_succ, Array.replicate_zero, List.push_toArray, List.append_toArray, List.nil_append, List.cons_append]
  go_wp2_with fail
  with_reducible refine HW.out.mono ?_
  rintro e w' ⟨rfl, hw⟩
  cases hw
  go_wp2_with (go_at_call 219; refine (parts50 _ ⟨_, _, _, rfl⟩ _ _).mono ?_; rintro e w3 ⟨rfl, hw3⟩; have HW3 := Lib.hid hw3; clear hw3)
  obtain ⟨i102, hi, hz0, hz1, hz2⟩ := info_parts info102
  obtain ⟨po, hpo⟩ : ∃ po, po = w0.heap.size := ⟨_, rfl⟩
  have n1 : po ≠ po + 1 := by omega
  have n2 : po + 1 ≠ po + 1 + 1 := by omega
  have n3 : po ≠ po + 1 + 1 := by omega
  have HST : Hid (CutAt w0 w3 po (po + 1) (po + 1 + 1) b off n cap f 0 0) := Lib.hid (by
    have h3 := HW3.out
    have k0 : w3.heap[po]? = some (.cells #[.slice none 0 0] 140 (0, 0)) := by
      rw [h3, Below.heap_alloc _ _ _ (by simp; omega), Below.heap_alloc _ _ _ (by simp; omega), hpo, heap_alloc_new]
    have k1 : w3.heap[po + 1]? = some (.cells #[.slice a0 n cap] 33 (0, 0)) := by
      have := heap_alloc_new (w0.alloc (.cells #[.slice none 0 0] 140)) (.cells #[.slice a0 n cap] 33)
      rw [World.size_alloc] at this
      rw [h3, Below.heap_alloc _ _ _ (by simp; omega), hpo]; exact this
    have k2 : w3.heap[po + 1 + 1]? = some (.cells #[.int .i64 8] 3 (0, 0)) := by
      have := heap_alloc_new ((w0.alloc (.cells #[.slice none 0 0] 140)).alloc (.cells #[.slice a0 n cap] 33)) (.cells #[.int .i64 8] 3)
      rw [World.size_alloc, World.size_alloc] at this
      rw [h3, hpo]; exact this
    have l2 := (Array.getElem?_eq_some_iff.1 k2).1
    refine ⟨?_, ⟨a0, fun h => HA.out (by omega), by rw [cell_in k1]; rfl, by rw [cell_in k2]; rfl, by unfold World.frozen?; rw [k1]; simp⟩, ⟨_, by rw [cell_in k0]; rfl, World.ownsRow_nil _ _ _ _, (by intro e; cases e), (by intro e; cases e), (by intro e; cases e)⟩, by unfold World.frozen?; rw [k0]; simp, ⟨by omega, by omega⟩, ⟨by omega, by omega⟩, ⟨by omega, by omega⟩⟩
    rw [h3]
    exact ((((Below.refl _ _).alloc (Nat.le_refl _) _).alloc (by simp) _).alloc (by simp; omega) _))
  rw [← hpo]
  clear hpo
  refine (wpIn_wide (n := 9)).1 (range71 (w0 := w0) (f := f) HC.out.1 HC.out.2 n1 n2 rfl HST.out ?_ ?_ ?_)
  · intro l v W K hK
    simp only [List.setIfInBounds_toArray, List.set_cons_succ, List.set_cons_zero] at hK ⊢
    gi_wp2
    exact hK
  · intro l k W hk h
    have HK : Hid (k + 1 ≤ 262144) := Lib.hid (by have := HN.out; omega)
    have HPD : Hid (CutAt w0 W.drew po (po + 1) (po + 1 + 1) b off n cap f k k) := Lib.hid (h.grow ((Below.refl _ W).drew))
    have HSD : Hid (Stays W W.drew) := Lib.hid (fun _ _ h _ => h)
    have HW8 := Lib.hid (wordsL_8 f k)
    have h8 : Eight W.drew b (off + 8 * k) (fun r => f (k * 8 + r)) := fun r hr => by
      have := HD.out (8 * k + r) (by omega)
      show W.drew.cell? ⟨b, off + 8 * k + r, none⟩ = some (.int .u64 (f (k * 8 + r)))
      rw [show off + 8 * k + r = off + (8 * k + r) by omega, show k * 8 + r = 8 * k + r by omega]
      exact (HPD.out.below.cell (p := ⟨b, off + (8 * k + r), none⟩) (HB.out (by omega))).trans this
    obtain ⟨c0, c1, c2, c3, c4, c5, c6, c7⟩ := h8.cells
    rw [Nat.add_zero] at c0
    clear h h8 hk
    refine wpIn_block (region_in (by kernel_rfl) ?_ ?_ ?_)
    · intro i o ho cc hc
      have hi : i < 7 := (Array.getElem?_eq_some_iff.1 ho).1
      rcases i with _ | _ | _ | _ | _ | _ | _ | i <;> first | (cases ho; cases hc) | omega
    · rintro ⟨a, w, h⟩; exact h
    simp only [List.setIfInBounds_toArray, List.set_cons_succ, List.set_cons_zero]
    generalize W.drew = Wd at *
    obtain ⟨vo, hvo, hown, u1, u2, u3⟩ := HPD.out.out
    obtain ⟨oa, om, oc, rfl⟩ := own_slice hown
    have co := hvo
    have fo := HPD.out.fpo
    have HO := Lib.hid hown
    have HPO : Hid (some po ≠ (Value.slice oa om oc).ownBlock) := Lib.hid (Ne.symm u1)
    have p1 : po ≠ Wd.heap.size := by have := HPD.out.h1.2; omega
    have p2 : Wd.heap.size ≠ po := Ne.symm p1
    have p3 : po < Wd.heap.size := HPD.out.h1.2
    clear hvo hown u1 u2 u3
    generalize off + 8 * k = o at *
    generalize f (k * 8) = v0 at *
    generalize f (k * 8 + 1) = v1 at *
    generalize f (k * 8 + 2) = v2 at *
    generalize f (k * 8 + 3) = v3 at *
    generalize f (k * 8 + 4) = v4 at *
    generalize f (k * 8 + 5) = v5 at *
    generalize f (k * 8 + 6) = v6 at *
    generalize f (k * 8 + 7) = v7 at *
    refine wpAny_take (i := 1) (v := .slice (some ⟨b, o, none⟩) 8 8) rfl (by kernel_rfl) (by kernel_rfl) (by kernel_rfl) (fun _ _ _ h => h) (Or.inl ⟨by rfl, by intro w; go_simp; try with_reducible rfl⟩) ?_
    refine wpAny_ready (rs := [0, 2]) (by kernel_rfl) (by simp) (AllReady.cons rfl (fun K hK => ?_) (AllReady.cons rfl (fun K hK => ?_) AllReady.nil))
    · skip
      go_simp
      refine hK _ _ ?_
      clear hK
      refine wpAny_ready (rs := [2]) (by kernel_rfl) (by simp) (AllReady.cons rfl (fun K hK => ?_) AllReady.nil)
      go_simp
      refine hK _ _ ?_
      clear hK
      refine wpAny_ready (rs := [3]) (by kernel_rfl) (by simp) (AllReady.cons rfl (fun K hK => ?_) AllReady.nil)
      go_simp
      refine hK _ _ ?_
      clear hK
      refine wpAny_ready (rs := [4]) (by kernel_rfl) (by simp) (AllReady.cons rfl (fun K hK => ?_) AllReady.nil)
      refine step_line rfl 19 rfl v0 v1 v2 v3 v4 v5 v6 v7 rfl ?_
      refine hK _ _ ?_
      clear hK
      refine wpAny_ready (rs := [5]) (by kernel_rfl) (by simp) (AllReady.cons rfl (fun K hK => ?_) AllReady.nil)
      have HBW : Hid (Below Wd.heap.size Wd (Wd.alloc (.cells #[.int .u64 v0, .int .u64 v1, .int .u64 v2, .int .u64 v3, .int .u64 v4, .int .u64 v5, .int .u64 v6, .int .u64 v7] 218))) := Lib.hid ((Below.refl _ _).alloc (Nat.le_refl _) _)
      refine step_append_at rfl (.tmp 16) (.tmp 20) 140 rfl w0.heap.size 218 i102 _ 8 64 Tryz.underlying140 hi hz0 hz1 hz2 rfl (by decide) (.slice oa om oc) k _ rfl (HO.out.alloc _) ⟨Wd.heap.size, 0, none⟩ 1 1 [.int .u64 v0, .int .u64 v1, .int .u64 v2, .int .u64 v3, .int .u64 v4, .int .u64 v5, .int .u64 v6, .int .u64 v7] rfl rfl (fun j u hj => cell_alloc Wd _ _ j u hj) (by simp [Value.oneCell']) (by have := HK.out; unfold maxLen; omega) (by have := HK.out; omega) (by have := HPD.out.below.size; simp; omega) ?_
      intro v' w4 ho4 hg4 hb4
      obtain ⟨na, nm, nc, rfl⟩ := own_slice ho4
      have HO4 := Lib.hid ho4
      have HG4 := Lib.hid hg4
      have HB4 := Lib.hid hb4
      have hk4 : w4.heap[po]? = Wd.heap[po]? := (hg4.block po (by have := HPD.out.h1.2; simp; omega) HPO.out).trans (Below.heap_alloc _ _ _ HPD.out.h1.2)
      have co4 : w4.cell? ⟨po, 0, none⟩ = some (.slice oa om oc) := by rw [cell_of_heap hk4]; exact co
      have fo4 : w4.frozen? ⟨po, 0, none⟩ = false := by rw [frozen_of_heap hk4]; exact fo
      clear ho4 hg4 hb4 hk4
      refine hK _ _ ?_
      clear hK
      refine wpAny_ready (rs := [6]) (by kernel_rfl) (by simp) (AllReady.cons rfl (fun K hK => ?_) AllReady.nil)
      go_simp
      refine hK _ _ ?_
      clear hK
      refine wpAny_done (by kernel_rfl) ?_ _
      have hfin := HPD.out.add n1 n2 n3 co HBW.out (by rw [HW8.out]; exact HO4.out) HG4.out HB4.out
      exact ⟨hfin.1, HSD.out.trans hfin.2⟩
    · skip
      go_simp
      refine hK _ _ ?_
      clear hK
      refine wpAny_ready (rs := [0, 3]) (by kernel_rfl) (by simp) (AllReady.cons rfl (fun K hK => ?_) (AllReady.cons rfl (fun K hK => ?_) AllReady.nil))
      · skip
        go_simp
        refine hK _ _ ?_
        clear hK
        refine wpAny_ready (rs := [3]) (by kernel_rfl) (by simp) (AllReady.cons rfl (fun K hK => ?_) AllReady.nil)
        go_simp
        refine hK _ _ ?_
        clear hK
        refine wpAny_ready (rs := [4]) (by kernel_rfl) (by simp) (AllReady.cons rfl (fun K hK => ?_) AllReady.nil)
        refine step_line rfl 19 rfl v0 v1 v2 v3 v4 v5 v6 v7 rfl ?_
        refine hK _ _ ?_
        clear hK
        refine wpAny_ready (rs := [5]) (by kernel_rfl) (by simp) (AllReady.cons rfl (fun K hK => ?_) AllReady.nil)
        have HBW : Hid (Below Wd.heap.size Wd (Wd.alloc (.cells #[.int .u64 v0, .int .u64 v1, .int .u64 v2, .int .u64 v3, .int .u64 v4, .int .u64 v5, .int .u64 v6, .int .u64 v7] 218))) := Lib.hid ((Below.refl _ _).alloc (Nat.le_refl _) _)
        refine step_append_at rfl (.tmp 16) (.tmp 20) 140 rfl w0.heap.size 218 i102 _ 8 64 Tryz.underlying140 hi hz0 hz1 hz2 rfl (by decide) (.slice oa om oc) k _ rfl (HO.out.alloc _) ⟨Wd.heap.size, 0, none⟩ 1 1 [.int .u64 v0, .int .u64 v1, .int .u64 v2, .int .u64 v3, .int .u64 v4, .int .u64 v5, .int .u64 v6, .int .u64 v7] rfl rfl (fun j u hj => cell_alloc Wd _ _ j u hj) (by simp [Value.oneCell']) (by have := HK.out; unfold maxLen; omega) (by have := HK.out; omega) (by have := HPD.out.below.size; simp; omega) ?_
        intro v' w4 ho4 hg4 hb4
        obtain ⟨na, nm, nc, rfl⟩ := own_slice ho4
        have HO4 := Lib.hid ho4
        have HG4 := Lib.hid hg4
        have HB4 := Lib.hid hb4
        have hk4 : w4.heap[po]? = Wd.heap[po]? := (hg4.block po (by have := HPD.out.h1.2; simp; omega) HPO.out).trans (Below.heap_alloc _ _ _ HPD.out.h1.2)
        have co4 : w4.cell? ⟨po, 0, none⟩ = some (.slice oa om oc) := by rw [cell_of_heap hk4]; exact co
        have fo4 : w4.frozen? ⟨po, 0, none⟩ = false := by rw [frozen_of_heap hk4]; exact fo
        clear ho4 hg4 hb4 hk4
        refine hK _ _ ?_
        clear hK
        refine wpAny_ready (rs := [6]) (by kernel_rfl) (by simp) (AllReady.cons rfl (fun K hK => ?_) AllReady.nil)
        go_simp
        refine hK _ _ ?_
        clear hK
        refine wpAny_done (by kernel_rfl) ?_ _
        have hfin := HPD.out.add n1 n2 n3 co HBW.out (by rw [HW8.out]; exact HO4.out) HG4.out HB4.out
        exact ⟨hfin.1, HSD.out.trans hfin.2⟩
      · skip
        go_simp
        refine hK _ _ ?_
        clear hK
        refine wpAny_ready (rs := [0, 4]) (by kernel_rfl) (by simp) (AllReady.cons rfl (fun K hK => ?_) (AllReady.cons rfl (fun K hK => ?_) AllReady.nil))
        · skip
          go_simp
          refine hK _ _ ?_
          clear hK
          refine wpAny_ready (rs := [4]) (by kernel_rfl) (by simp) (AllReady.cons rfl (fun K hK => ?_) AllReady.nil)
          refine step_line rfl 19 rfl v0 v1 v2 v3 v4 v5 v6 v7 rfl ?_
          refine hK _ _ ?_
          clear hK
          refine wpAny_ready (rs := [5]) (by kernel_rfl) (by simp) (AllReady.cons rfl (fun K hK => ?_) AllReady.nil)
          have HBW : Hid (Below Wd.heap.size Wd (Wd.alloc (.cells #[.int .u64 v0, .int .u64 v1, .int .u64 v2, .int .u64 v3, .int .u64 v4, .int .u64 v5, .int .u64 v6, .int .u64 v7] 218))) := Lib.hid ((Below.refl _ _).alloc (Nat.le_refl _) _)
          refine step_append_at rfl (.tmp 16) (.tmp 20) 140 rfl w0.heap.size 218 i102 _ 8 64 Tryz.underlying140 hi hz0 hz1 hz2 rfl (by decide) (.slice oa om oc) k _ rfl (HO.out.alloc _) ⟨Wd.heap.size, 0, none⟩ 1 1 [.int .u64 v0, .int .u64 v1, .int .u64 v2, .int .u64 v3, .int .u64 v4, .int .u64 v5, .int .u64 v6, .int .u64 v7] rfl rfl (fun j u hj => cell_alloc Wd _ _ j u hj) (by simp [Value.oneCell']) (by have := HK.out; unfold maxLen; omega) (by have := HK.out; omega) (by have := HPD.out.below.size; simp; omega) ?_
          intro v' w4 ho4 hg4 hb4
          obtain ⟨na, nm, nc, rfl⟩ := own_slice ho4
          have HO4 := Lib.hid ho4
          have HG4 := Lib.hid hg4
          have HB4 := Lib.hid hb4
          have hk4 : w4.heap[po]? = Wd.heap[po]? := (hg4.block po (by have := HPD.out.h1.2; simp; omega) HPO.out).trans (Below.heap_alloc _ _ _ HPD.out.h1.2)
          have co4 : w4.cell? ⟨po, 0, none⟩ = some (.slice oa om oc) := by rw [cell_of_heap hk4]; exact co
          have fo4 : w4.frozen? ⟨po, 0, none⟩ = false := by rw [frozen_of_heap hk4]; exact fo
          clear ho4 hg4 hb4 hk4
          refine hK _ _ ?_
          clear hK
          refine wpAny_ready (rs := [6]) (by kernel_rfl) (by simp) (AllReady.cons rfl (fun K hK => ?_) AllReady.nil)
          go_simp
          refine hK _ _ ?_
          clear hK
          refine wpAny_done (by kernel_rfl) ?_ _
          have hfin := HPD.out.add n1 n2 n3 co HBW.out (by rw [HW8.out]; exact HO4.out) HG4.out HB4.out
          exact ⟨hfin.1, HSD.out.trans hfin.2⟩
        · skip
          refine step_line rfl 19 rfl v0 v1 v2 v3 v4 v5 v6 v7 rfl ?_
          refine hK _ _ ?_
          clear hK
          refine wpAny_ready (rs := [0]) (by kernel_rfl) (by simp) (AllReady.cons rfl (fun K hK => ?_) AllReady.nil)
          go_simp
          refine hK _ _ ?_
          clear hK
          refine wpAny_ready (rs := [5]) (by kernel_rfl) (by simp) (AllReady.cons rfl (fun K hK => ?_) AllReady.nil)
          have HBW : Hid (Below Wd.heap.size Wd (Wd.alloc (.cells #[.int .u64 v0, .int .u64 v1, .int .u64 v2, .int .u64 v3, .int .u64 v4, .int .u64 v5, .int .u64 v6, .int .u64 v7] 218))) := Lib.hid ((Below.refl _ _).alloc (Nat.le_refl _) _)
          refine step_append_at rfl (.tmp 16) (.tmp 20) 140 rfl w0.heap.size 218 i102 _ 8 64 Tryz.underlying140 hi hz0 hz1 hz2 rfl (by decide) (.slice oa om oc) k _ rfl (HO.out.alloc _) ⟨Wd.heap.size, 0, none⟩ 1 1 [.int .u64 v0, .int .u64 v1, .int .u64 v2, .int .u64 v3, .int .u64 v4, .int .u64 v5, .int .u64 v6, .int .u64 v7] rfl rfl (fun j u hj => cell_alloc Wd _ _ j u hj) (by simp [Value.oneCell']) (by have := HK.out; unfold maxLen; omega) (by have := HK.out; omega) (by have := HPD.out.below.size; simp; omega) ?_
          intro v' w4 ho4 hg4 hb4
          obtain ⟨na, nm, nc, rfl⟩ := own_slice ho4
          have HO4 := Lib.hid ho4
          have HG4 := Lib.hid hg4
          have HB4 := Lib.hid hb4
          have hk4 : w4.heap[po]? = Wd.heap[po]? := (hg4.block po (by have := HPD.out.h1.2; simp; omega) HPO.out).trans (Below.heap_alloc _ _ _ HPD.out.h1.2)
          have co4 : w4.cell? ⟨po, 0, none⟩ = some (.slice oa om oc) := by rw [cell_of_heap hk4]; exact co
          have fo4 : w4.frozen? ⟨po, 0, none⟩ = false := by rw [frozen_of_heap hk4]; exact fo
          clear ho4 hg4 hb4 hk4
          refine hK _ _ ?_
          clear hK
          refine wpAny_ready (rs := [6]) (by kernel_rfl) (by simp) (AllReady.cons rfl (fun K hK => ?_) AllReady.nil)
          go_simp
          refine hK _ _ ?_
          clear hK
          refine wpAny_done (by kernel_rfl) ?_ _
          have hfin := HPD.out.add n1 n2 n3 co HBW.out (by rw [HW8.out]; exact HO4.out) HG4.out HB4.out
          exact ⟨hfin.1, HSD.out.trans hfin.2⟩
  · intro D W hD h hK
    dsimp only
    obtain ⟨vo, hvo, hown, u1, u2, u3⟩ := h.out
    obtain ⟨oa, om, oc, rfl⟩ := own_slice hown
    have HH := Lib.hid h
    have HO := Lib.hid hown
    have HKK := Lib.hid hK
    clear h hown hK u1 u2 u3
    go_wp2_with fail
    show LeavesInM Fence.wide 9 Tryz.prog Tryz.f124 _ (CutTo f n w0) [{ target := .collected D, args := #[] }] .returning W
    unfold LeavesInM
    refine ⟨by simp, .inl ⟨_, _, rfl, run_takeDeferred HKK.out, ?_⟩⟩
    exact ⟨_, results_tmp2 rfl _ _ _, _, rfl, (HH.out.put HKK.out rfl hD _).below, ownsRow_putObj HO.out _ HKK.out rfl⟩
end Go.Proofs.YtibelcmdfkgonaaGreat
