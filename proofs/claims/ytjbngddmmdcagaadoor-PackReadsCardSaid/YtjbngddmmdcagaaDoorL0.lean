/- A region that draws, its last operation forced to be the last: walked without it. No program here. -/
import Derived.Test.YtjbngddmmdcagaaDoorC34
import Derived.Deep.RegionHeld3
import Derived.StillTail
import Derived.BigQuiet
namespace Go.Proofs.YtjbngddmmdcagaaDoor
open Go.RowKit
set_option linter.unusedVariables false
set_option linter.unusedSimpArgs false

/-- What follows is the operation o, then Q. -/
def ThenOp (P : Program) (o : Oper) (Q : Exit → Act → World → Prop) : Exit → Act → World → Prop
  | .normal, a, w => o.wp P a w (fun a w => Q .normal a w) Q
  | e, a, w => Q e a w
section
variable {P : Program} {ops : Array Oper} {o : Oper} {Q : Exit → Act → World → Prop} {md : Region.Mode}
theorem wp_then {x : Oper} {a : Act} {w : World} {K K' : Act → World → Prop} (hout : LetsOut (ThenOp P o Q) → LetsOut Q) (h : ∀ a w, K a w → K' a w) (hh : x.wp P a w K (ThenOp P o Q)) : x.wp P a w K' Q := by
  unfold Oper.wp at *
  generalize (execOp a.eval x).run P w = r at *
  cases r with
  | ok n w' =>
    cases n <;> simp only [Oper.upon] at hh ⊢ <;>
      first
        | exact h _ _ hh
        | exact Calls.mono hh (fun e w'' he => by cases e <;> first | exact h _ _ he | exact he | exact hout he)
        | exact Rows.mono hh (fun _ _ he => h _ _ he)
  | halt x w' => cases x <;> simp only [Oper.upon] at hh ⊢ <;> exact hh
theorem getD_push (l : Array Bool) (j : Nat) (d : Bool) (h : j < l.size) : (l.push false).getD j d = l.getD j d := by
  simp [Array.getD, h, Array.getElem_push_lt, Nat.lt_succ_of_lt h]
theorem all_of_none {listed : Array Bool} (hs : listed.size = ops.size) (hback : ∀ i oi, ops[i]? = some oi → ∀ e ∈ oi.after, Region.binds md e = true → e.on < i)
    (hr : Region.ready md ops listed = []) : ∀ n i, i < n → i < ops.size → listed.getD i false = true := by
  intro n
  induction n with
  | zero => intro i h; omega
  | succ n ih =>
    intro i hi hlt
    by_cases hin : i < n
    · exact ih i hin hlt
    · cases hl : listed.getD i false with
      | true => rfl
      | false =>
        exfalso
        have hm : i ∈ Region.ready md ops listed := mem_ready.2 ⟨getD_in (by omega) hl, ops[i], by simp [hlt], fun e he hb => ih e.on (by have := hback i _ (by simp [hlt]) e he hb; omega) (by have := hback i _ (by simp [hlt]) e he hb; omega)⟩
        rw [hr] at hm; cases hm
theorem wpAny_last (hg : o.guard = none) (hin : ∀ e ∈ o.after, e.on < ops.size) {listed : Array Bool} (hs : listed.size = ops.size) (hall : ∀ i, i < ops.size → listed.getD i false = true) {a : Act} {w : World} (h : ThenOp P o Q .normal a w) :
    ∀ g, wpAny P md (ops.push o) Q (g + 1) (listed.push false) a w := by
  intro g
  have hn : ∀ j, j ∈ Region.ready md (ops.push o) (listed.push false) ↔ j = ops.size := by
    intro j
    rw [mem_ready]
    constructor
    · rintro ⟨h1, oj, h2, h3⟩
      have hj : j < ops.size + 1 := by have := (Array.getElem?_eq_some_iff.1 h2).1; simpa using this
      refine Classical.byContradiction fun hne => ?_
      have hj' : j < ops.size := by omega
      rw [getD_push _ _ _ (by omega)] at h1
      have := hall j hj'
      rw [getD_both h1] at this; cases this
    · rintro rfl
      refine ⟨by rw [← hs]; simp [Array.getD], o, by simp, fun e he hb => ?_⟩
      rw [getD_push _ _ _ (by have := hin e he; omega)]
      exact hall _ (hin e he)
  have hdone : Region.ready md (ops.push o) ((listed.push false).setIfInBounds ops.size true) = [] := by
    refine List.eq_nil_iff_forall_not_mem.2 fun j hj => ?_
    obtain ⟨h1, oj, h2, h3⟩ := mem_ready.1 hj
    have hj' : j < ops.size + 1 := by have := (Array.getElem?_eq_some_iff.1 h2).1; simpa using this
    by_cases e : j = ops.size
    · subst e
      simp [Array.getD, hs] at h1
    · rw [getD_set_ne true (Ne.symm e), getD_push _ _ _ (by omega)] at h1
      have := hall j (by omega)
      rw [getD_both h1] at this; cases this
  refine ⟨fun h0 => ?_, fun i hi => ?_⟩
  · have := (hn ops.size).2 rfl
    rw [h0] at this; cases this
  · obtain rfl := (hn i).1 hi
    unfold wpOp
    simp only [Array.getElem?_push_size]
    rw [if_pos (by simp [Region.wanted, hg])]
    exact Or.inl (Oper.wp_mono (fun a w hq => wpAny_done hdone hq g) h)
theorem wpAny_push (hg : o.guard = none) (hout : LetsOut (ThenOp P o Q) → LetsOut Q) (hin : ∀ e ∈ o.after, e.on < ops.size)
    (hla : ∀ i, i < ops.size → ∃ e ∈ o.after, Region.binds md e = true ∧ e.on = i) (hno : ∀ (i : Nat) (oi : Oper), ops[i]? = some oi → oi.guard = none) (hback : ∀ i oi, ops[i]? = some oi → ∀ e ∈ oi.after, Region.binds md e = true → e.on < i) :
    ∀ (g : Nat) (listed : Array Bool) (a : Act) (w : World), listed.size = ops.size → wpAny P md ops (ThenOp P o Q) g listed a w → wpAny P md (ops.push o) Q (g + 1) (listed.push false) a w
  | 0, listed, a, w, hs, h => wpAny_last hg hin hs (fun i hi => all_of_none hs hback h.1 ops.size i hi hi) h.2 0
  | g + 1, listed, a, w, hs, h => by
    by_cases hr : Region.ready md ops listed = []
    · exact wpAny_last hg hin hs (fun i hi => all_of_none hs hback hr ops.size i hi hi) (h.1 hr) (g + 1)
    · have hmem : ∀ j, j ∈ Region.ready md (ops.push o) (listed.push false) ↔ j ∈ Region.ready md ops listed := by
        intro j
        constructor
        · intro hj
          obtain ⟨h1, oj, h2, h3⟩ := mem_ready.1 hj
          have hj' : j < ops.size + 1 := by have := (Array.getElem?_eq_some_iff.1 h2).1; simpa using this
          by_cases e : j = ops.size
          · exfalso
            subst e
            rw [Array.getElem?_push_size] at h2
            cases h2
            refine hr (List.eq_nil_iff_forall_not_mem.2 fun i hi => ?_)
            obtain ⟨g1, oi, g2, g3⟩ := mem_ready.1 hi
            have hi' : i < ops.size := (Array.getElem?_eq_some_iff.1 g2).1
            obtain ⟨e, he, hb, rfl⟩ := hla i hi'
            have := h3 e he hb
            rw [getD_push _ _ _ (by omega), getD_both g1] at this
            cases this
          · have hjn : j < ops.size := by omega
            have h2' : ops[j]? = some oj := by rw [← h2, Array.getElem?_push_lt hjn]; simp [hjn]
            refine mem_ready.2 ⟨(getD_push _ _ _ (by omega)).symm.trans h1, oj, h2', fun e he hb => ?_⟩
            have := h3 e he hb
            have hlt := hback j oj h2' e he hb
            rw [getD_push _ _ _ (by omega)] at this
            exact this
        · intro hj
          obtain ⟨h1, oj, h2, h3⟩ := mem_ready.1 hj
          have hjn : j < ops.size := (Array.getElem?_eq_some_iff.1 h2).1
          refine mem_ready.2 ⟨(getD_push _ _ _ (by omega)).trans h1, oj, by rw [← h2, Array.getElem?_push_lt hjn]; simp [hjn], fun e he hb => ?_⟩
          have hlt := hback j oj h2 e he hb
          rw [getD_push _ _ _ (by omega)]
          exact h3 e he hb
      refine ⟨fun h0 => absurd (List.eq_nil_iff_forall_not_mem.2 fun j hj => by rw [← hmem, h0] at hj; cases hj) hr, fun i hi => ?_⟩
      have hi2 := (hmem i).1 hi
      obtain ⟨h1, oi, h2, h3⟩ := mem_ready.1 hi2
      have hin' : i < ops.size := (Array.getElem?_eq_some_iff.1 h2).1
      have hw := h.2 i hi2
      have e1 : (ops.push o)[i]? = some oi := by rw [← h2, Array.getElem?_push_lt hin']; simp [hin']
      have e2 : (listed.push false).setIfInBounds i true = (listed.setIfInBounds i true).push false := by
        apply Array.ext'
        simp only [Array.toList_setIfInBounds, Array.toList_push]
        rw [List.set_append_left _ _ (by simp; omega)]
      unfold wpOp at hw ⊢
      simp only [h2] at hw
      simp only [e1]
      rw [if_pos (by simp [Region.wanted, hno i oi h2])] at hw ⊢
      rw [e2]
      rcases hw with hw | hw
      · exact Or.inl (wp_then hout (fun a w hk => wpAny_push hg hout hin hla hno hback g _ a w (by simp [hs]) hk) hw)
      · exact Or.inr ⟨hw.1, hout hw.2⟩
/-- The last operation waits for all the others, none of which waits for one behind it; no guards. -/
def lastB (md : Region.Mode) (ops : Array Oper) (o : Oper) : Bool :=
  o.guard.isNone && ops.toList.all (·.guard.isNone) && o.after.toList.all (fun e => decide (e.on < ops.size)) && (List.range ops.size).all (fun i => o.after.toList.any fun e => Region.binds md e && e.on == i) &&
  (List.range ops.size).all fun i => match ops[i]? with | some oi => oi.after.toList.all (fun e => !Region.binds md e || decide (e.on < i)) | none => true
theorem region_last {id : Nat} {a : Act} {w : World} (S : World → Prop) (hm : P.follows .mixedOrders = true) (ho : ops.back? = some o) (hB : lastB .any ops.pop o = true)
    (h : wpAnyH P .any ops.pop (ThenOp P o Q) S ops.pop.size (Array.replicate ops.pop.size false) a w.drew) : (Code.region id ops true).wp P Q a w := by
  have hops : ops = ops.pop.push o := by
    have hne : 0 < ops.size := by
      refine Nat.pos_of_ne_zero fun h0 => ?_
      rw [Array.back?, Array.getElem?_eq_none (by omega)] at ho; cases ho
    apply Array.ext (by simp; omega)
    intro i h1 h2
    by_cases hi : i < ops.size - 1
    · rw [Array.getElem_push_lt (by simpa using hi)]; simp
    · have hi' : i = ops.size - 1 := by omega
      subst hi'
      rw [Array.back?, Array.getElem?_eq_getElem (by omega)] at ho
      have ho' := Option.some.inj ho
      have : (ops.pop.push o)[ops.size - 1] = o := by simp [Array.getElem_push]
      rw [this, ← ho']
  unfold lastB at hB
  simp only [Bool.and_eq_true, List.all_eq_true, List.any_eq_true, decide_eq_true_eq, beq_iff_eq, List.mem_range] at hB
  obtain ⟨⟨⟨⟨b1, b2⟩, b3⟩, b4⟩, b5⟩ := hB
  have key := wpAny_push (P := P) (Q := Q) (md := .any) (ops := ops.pop) (o := o) (Option.isNone_iff_eq_none.1 b1) (fun ⟨a, w, h⟩ => ⟨a, w, h⟩) (fun e he => b3 e (Array.mem_toList_iff.2 he))
    (fun i hi => by obtain ⟨e, he, h1, h2⟩ := b4 i hi; exact ⟨e, Array.mem_toList_iff.1 he, h1, h2⟩)
    (fun i oi hoi => Option.isNone_iff_eq_none.1 (b2 oi (Array.mem_toList_iff.2 (Array.mem_of_getElem? hoi))))
    (fun i oi hoi e he hb => by
      have h5 := b5 i (Array.getElem?_eq_some_iff.1 hoi).1
      rw [hoi] at h5
      simp only [List.all_eq_true, Bool.or_eq_true, Bool.not_eq_true', decide_eq_true_eq] at h5
      rcases h5 e (Array.mem_toList_iff.2 he) with h6 | h6
      · rw [hb] at h6; cases h6
      · exact h6)
    ops.pop.size (Array.replicate ops.pop.size false) a w.drew (by simp) (wpAny_of_held _ _ _ _ h)
  refine wp_region_any hm ?_
  have e1 : (Array.replicate ops.pop.size false).push false = Array.replicate (ops.pop.size + 1) false := by simp [Array.replicate_succ]
  rw [e1] at key
  rw [hops]
  simpa using key
theorem region_last_any {id : Nat} {a : Act} {w : World} (hm : P.follows .mixedOrders = true) (ho : ops.back? = some o) (hB : lastB .any ops.pop o = true)
    (h : wpAny P .any ops.pop (ThenOp P o Q) ops.pop.size (Array.replicate ops.pop.size false) a w.drew) : (Code.region id ops true).wp P Q a w := by
  have hops : ops = ops.pop.push o := by
    have hne : 0 < ops.size := by
      refine Nat.pos_of_ne_zero fun h0 => ?_
      rw [Array.back?, Array.getElem?_eq_none (by omega)] at ho; cases ho
    apply Array.ext (by simp; omega)
    intro i h1 h2
    by_cases hi : i < ops.size - 1
    · rw [Array.getElem_push_lt (by simpa using hi)]; simp
    · have hi' : i = ops.size - 1 := by omega
      subst hi'
      rw [Array.back?, Array.getElem?_eq_getElem (by omega)] at ho
      have ho' := Option.some.inj ho
      have : (ops.pop.push o)[ops.size - 1] = o := by simp [Array.getElem_push]
      rw [this, ← ho']
  unfold lastB at hB
  simp only [Bool.and_eq_true, List.all_eq_true, List.any_eq_true, decide_eq_true_eq, beq_iff_eq, List.mem_range] at hB
  obtain ⟨⟨⟨⟨b1, b2⟩, b3⟩, b4⟩, b5⟩ := hB
  have key := wpAny_push (P := P) (Q := Q) (md := .any) (ops := ops.pop) (o := o) (Option.isNone_iff_eq_none.1 b1) (fun ⟨a, w, h⟩ => ⟨a, w, h⟩) (fun e he => b3 e (Array.mem_toList_iff.2 he))
    (fun i hi => by obtain ⟨e, he, h1, h2⟩ := b4 i hi; exact ⟨e, Array.mem_toList_iff.1 he, h1, h2⟩)
    (fun i oi hoi => Option.isNone_iff_eq_none.1 (b2 oi (Array.mem_toList_iff.2 (Array.mem_of_getElem? hoi))))
    (fun i oi hoi e he hb => by
      have h5 := b5 i (Array.getElem?_eq_some_iff.1 hoi).1
      rw [hoi] at h5
      simp only [List.all_eq_true, Bool.or_eq_true, Bool.not_eq_true', decide_eq_true_eq] at h5
      rcases h5 e (Array.mem_toList_iff.2 he) with h6 | h6
      · rw [hb] at h6; cases h6
      · exact h6)
    ops.pop.size (Array.replicate ops.pop.size false) a w.drew (by simp) h
  refine wp_region_any hm ?_
  have e1 : (Array.replicate ops.pop.size false).push false = Array.replicate (ops.pop.size + 1) false := by simp [Array.replicate_succ]
  rw [e1] at key
  rw [hops]
  simpa using key
/-- A region all of whose operations but the last one, which is forced to be the last, only read: ONE walk. -/
theorem region_quiet_last {id : Nat} {a : Act} {w : World} (hm : P.follows .mixedOrders = true) (ho : ops.back? = some o) (hB : lastB .any ops.pop o = true) (hL : Region.lexB .any ops.pop = true)
    (h : wpQuiet P ops.pop (fun w' => ∃ n, w' = w.drewN n) (fun a' => ∀ w', (∃ n, w' = w.drewN n) → ThenOp P o Q .normal a' w') ops.pop.toList a) : (Code.region id ops true).wp P Q a w := by
  refine region_last_any hm ho hB ?_
  simp only [Region.lexB, Bool.and_eq_true] at hL
  refine wpAny_of_quiet (C := fun w' => ∃ n, w' = w.drewN n) (Q := fun a' => ∀ w', (∃ n, w' = w.drewN n) → ThenOp P o Q .normal a' w') (fun _ w' hw' h => h w' hw') _ _ _ _ ⟨1, rfl⟩ ?_
  have := wpAnyQ_lex (C := fun w' => ∃ n, w' = w.drewN n) (md := .any) hL.1 ops.pop.toList 0 (Array.replicate ops.pop.size false) a (fun j => by rw [Nat.zero_add, Array.getElem?_toList]) (by simpa using hL.2) h
  simpa using this
/-- 'wpAnyH_take', its place written out. -/
theorem take_at {S : World → Prop} (i : Nat) (d : Option Tmp) (v : Value) {oi : Oper} {fuel : Nat} {listed : Array Bool} {a : Act} {w : World} (hi : ops[i]? = some oi) (hd : oi.dst = d)
    (hs : Region.noSelect ops = true) (hf : Region.free md ops listed i = true) (hr : (Region.ready md ops listed).contains i = true)
    (hQ : ∀ c a w, Q (.panic c) (a.put oi.dst v) w → Q (.panic c) a w) (hy : YieldsIf P ops S oi v a) (hS : S w)
    (h : wpAnyH P md ops Q S fuel (listed.setIfInBounds i true) (a.put d v) w) : wpAnyH P md ops Q S (fuel + 1) listed a w :=
  wpAnyH_take hi hs hf hr hQ hy hS (by rw [hd]; exact h)
end
end Go.Proofs.YtjbngddmmdcagaaDoor
