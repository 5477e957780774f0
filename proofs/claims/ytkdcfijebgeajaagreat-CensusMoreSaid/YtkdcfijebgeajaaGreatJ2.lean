/- A region that draws its order: moves that may come late, a head whose operations are quiet in a class of worlds, and a tail in one order. No program here.
   Small words for the walks: a region that reads and then does one thing; rows of cells. No program here.
   Layers 4, 7: a memory's block; an access is noted.
   Layer 36: what one census has more than another one: its numbers' places, and the change of one of them. -/
import Derived.Test.YtkdcfijebgeajaaGreatJ1
import Derived.StillTailTactics
import Derived.Deep.Quiet
import Derived.OrdersHeld
import Derived.Deep.RegionHeld3
import Derived.BigQuiet
import Derived.Deep.QuietTactic
namespace Go.Proofs.YtkdcfijebgeajaaGreat
set_option linter.unusedVariables false
section
variable {P : Program} {ops : Array Oper} {md : Region.Mode} {C : World → Prop}
/-- Each operation of the head that is no mere move is waited for by a later one, at the latest by the tail's first. -/
def sinkF (md : Region.Mode) (ops : Array Oper) (fl : List Nat) (n : Nat) : Bool :=
  (List.range n).all fun i => fl.contains i || (List.range (n + 1)).any fun j => decide (i < j) && Region.waitsFor md ops j i
theorem tail_waitsF {fl : List Nat} {n : Nat} {listed : Array Bool} (hs : sinkF md ops fl n = true) (hc : Region.chainB md ops n = true) (hn : n < ops.size) (inv : HeadInv md ops n listed) (hf : ∀ i ∈ fl, listed.getD i true = true) :
    ∀ (d i : Nat), n - i = d → i < n → listed.getD i true = false → ∀ t, n ≤ t → t ∉ Region.ready md ops listed := by
  intro d
  induction d using Nat.strongRecOn with
  | _ d ih =>
    intro i hd hi hun t ht hr
    obtain ⟨_, ot, hot, hall⟩ := mem_ready.1 hr
    have htlt : t < ops.size := (Array.getElem?_eq_some_iff.1 hot).1
    by_cases htn : t = n
    · subst htn
      have h1 := List.all_eq_true.1 hs i (List.mem_range.2 hi)
      simp only [Bool.or_eq_true] at h1
      rcases h1 with h1 | h1
      · have := hf i (by simpa using h1)
        rw [hun] at this; cases this
      obtain ⟨j, hj, hj2⟩ := List.any_eq_true.1 h1
      simp only [Bool.and_eq_true, decide_eq_true_eq] at hj2
      obtain ⟨oj, hoj, e, he, hb, hon⟩ := Region.waitsFor_spec hj2.2
      have hjle : j ≤ t := by have := List.mem_range.1 hj; omega
      by_cases hjt : j = t
      · subst hjt
        obtain rfl : oj = ot := Option.some.inj (hoj.symm.trans hot)
        have h2 := hall e he hb
        rw [hon, getD_both hun] at h2
        cases h2
      · cases hl : listed.getD j false with
        | true =>
          have h2 := inv.closed j oj hoj hl e he hb
          rw [hon, getD_both hun] at h2
          cases h2
        | false => exact ih (t - j) (by omega) j rfl (by omega) (getD_in (by rw [inv.size]; omega) hl) t (Nat.le_refl _) hr
    · have h1 := List.all_eq_true.1 hc t (List.mem_range.2 htlt)
      simp only [Bool.or_eq_true, decide_eq_true_eq] at h1
      rcases h1 with h1 | h1
      · omega
      · obtain ⟨o', ho', e, he, hb, hon⟩ := Region.waitsFor_spec h1
        obtain rfl : o' = ot := Option.some.inj (ho'.symm.trans hot)
        have h2 := hall e he hb
        rw [hon, getD_both (inv.tail (t - 1) (by omega) (by omega))] at h2
        cases h2
/-- The head, in whatever order; then L. -/
def headAny (P : Program) (md : Region.Mode) (ops : Array Oper) (C : World → Prop) (n : Nat) (L : Array Bool → Act → Prop) : Nat → Array Bool → Act → Prop
  | 0, listed, a => L listed a
  | f + 1, listed, a => Region.ready md ops listed ≠ [] ∧ ∀ i ∈ Region.ready md ops listed, i < n ∧ qOp P ops C i (headAny P md ops C n L f (listed.setIfInBounds i true)) a
theorem any_of_head {n g : Nat} {L : Array Bool → Act → Prop} {Q' : Exit → Act → World → Prop} (hL : ∀ listed a w, C w → L listed a → wpAny P md ops Q' g listed a w) :
    ∀ (f : Nat) (listed : Array Bool) (a : Act) (w : World), C w → headAny P md ops C n L f listed a → wpAny P md ops Q' (f + g) listed a w
  | 0, listed, a, w, hw, h => by rw [Nat.zero_add]; exact hL _ _ _ hw h
  | f + 1, listed, a, w, hw, h => by
    rw [show f + 1 + g = (f + g) + 1 by omega]
    exact ⟨fun h0 => absurd h0 h.1, fun i hi => wpOp_of_qOp hw (fun a' w' hw' h' => any_of_head hL f _ a' w' hw' h') (h.2 i hi).2⟩
theorem set_keeps {listed : Array Bool} {fl : List Nat} (hf : ∀ i ∈ fl, listed.getD i true = true) (j : Nat) : ∀ i ∈ fl, (listed.setIfInBounds j true).getD i true = true := fun i hi => by
  by_cases h : j = i
  · subst h
    rcases Nat.lt_or_ge j listed.size with h' | h'
    · simp [h']
    · simp [h']
  · rw [getD_set_ne true h]; exact hf i hi
theorem head_first {fl : List Nat} {n i : Nat} {oi : Oper} {v : Value} {L : Array Bool → Act → Prop} (hi : ops[i]? = some oi) (hsel : ∀ (j : Nat) (o : Oper) cs b, ops[j]? = some o → o.op ≠ .select cs b)
    (hs : sinkF md ops fl n = true) (hc : Region.chainB md ops n = true) (hn : n < ops.size) (hin : i < n)
    (hdone : ∀ listed a, L listed a → ∀ j ∈ Region.ready md ops listed, n ≤ j) :
    ∀ (f : Nat) (listed : Array Bool) (a : Act), HeadInv md ops n listed → (∀ i ∈ fl, listed.getD i true = true) →
      (∀ j oj, ops[j]? = some oj → j ≠ i → listed.getD j true = false → (∀ e ∈ oj.after, Region.binds md e = true → e.on ≠ i) → oi.apart ops oj = true) →
      i ∈ Region.ready md ops listed → YieldsIn P ops C oi v a →
      headAny P md ops C n L f (listed.setIfInBounds i true) (a.put oi.dst v) → headAny P md ops C n L (f + 1) listed a := by
  intro f
  induction f with
  | zero =>
    intro listed a inv hfl _ hr hy H
    have hun := (mem_ready.1 hr).1
    refine ⟨fun h => (by rw [h] at hr; cases hr), fun j hj => ?_⟩
    have hjn : j < n := by
      rcases Nat.lt_or_ge j n with h | h
      · exact h
      · exact absurd hj (tail_waitsF hs hc hn inv hfl _ i rfl hin hun j h)
    refine ⟨hjn, ?_⟩
    by_cases hji : j = i
    · subst hji; exact hy.qOp hi H
    · have := hdone _ _ H j (ready_mono hj hji)
      omega
  | succ f ih =>
    intro listed a inv hfl hfree hr hy H
    have hun := (mem_ready.1 hr).1
    refine ⟨fun h => (by rw [h] at hr; cases hr), fun j hj => ?_⟩
    have hjn : j < n := by
      rcases Nat.lt_or_ge j n with h | h
      · exact h
      · exact absurd hj (tail_waitsF hs hc hn inv hfl _ i rfl hin hun j h)
    refine ⟨hjn, ?_⟩
    by_cases hji : j = i
    · subst hji; exact hy.qOp hi H
    · have h1 := (H.2 j (ready_mono hj hji)).2
      obtain ⟨hjun, oj, hoj, hall⟩ := mem_ready.1 hj
      have hnot : ∀ e ∈ oj.after, Region.binds md e = true → e.on ≠ i := fun e he hb heq => by
        have h1 := hall e he hb
        rw [heq, getD_both hun] at h1
        cases h1
      have h2 := qOp_put hoj (hfree j oj hoj hji hjun hnot) (fun cs b => hsel i oi cs b hi) (fun cs b => hsel j oj cs b hoj) hy h1
      have hfree' : ∀ k ok, ops[k]? = some ok → k ≠ i → (listed.setIfInBounds j true).getD k true = false →
          (∀ e ∈ ok.after, Region.binds md e = true → e.on ≠ i) → oi.apart ops ok = true := fun k ok hk hki hun hno => by
        refine hfree k ok hk hki ?_ hno
        by_cases hjk : j = k
        · subst hjk; exact hjun
        · rw [getD_set_ne true hjk] at hun; exact hun
      refine qOp_mono (fun a' h3 => ih (listed.setIfInBounds j true) a' (inv.set hj hjn) (set_keeps hfl j) hfree' (ready_mono hr (Ne.symm hji)) h3.1 ?_) h2
      rw [Array.setIfInBounds_comm _ _ hji]
      exact h3.2
/-- The head's operations in their order, then the tail's. -/
def headB (md : Region.Mode) (ops : Array Oper) (g n : Nat) : List Nat → Array Bool → Bool
  | [], listed => Region.seqB md ops g n listed
  | k :: ks, listed => (Region.ready md ops listed).contains k && Region.free md ops listed k && decide (k < n) && headB md ops g n ks (listed.setIfInBounds k true)
theorem head_lex {fl : List Nat} {n g : Nat} {Lq : Act → Prop} (hsel : Region.noSelect ops = true) (hs : sinkF md ops fl n = true) (hc : Region.chainB md ops n = true) (hn : n < ops.size) :
    ∀ (ix : List Nat) (listed : Array Bool) (a : Act), HeadInv md ops n listed → (∀ i ∈ fl, listed.getD i true = true) →
    headB md ops g n ix listed = true → wpQuiet P ops C Lq (ix.filterMap fun i => ops[i]?) a →
    headAny P md ops C n (fun listed' a' => Region.seqB md ops g n listed' = true ∧ Lq a') ix.length listed a
  | [], listed, a, inv, hfl, hB, h => ⟨hB, h⟩
  | k :: ks, listed, a, inv, hfl, hB, h => by
    simp only [headB, Bool.and_eq_true, decide_eq_true_eq] at hB
    obtain ⟨⟨⟨hr, hf⟩, hkn⟩, hB'⟩ := hB
    have hr' : k ∈ Region.ready md ops listed := by simpa using hr
    obtain ⟨_, o, h0, _⟩ := mem_ready.1 hr'
    rw [List.filterMap_cons, h0] at h
    have hst : qOp P ops C k (wpQuiet P ops C Lq (ks.filterMap fun i => ops[i]?)) a := by unfold qOp; simp only [h0]; exact h
    obtain ⟨v, hy, hK⟩ := yieldsIn_of_qOp h0 hst
    exact head_first h0 (Region.noSelect_spec hsel) hs hc hn hkn (fun listed' a' hL => seqB_ready hL.1) ks.length listed a inv hfl (Region.free_spec h0 hf) hr' hy
      (head_lex hsel hs hc hn ks _ _ (inv.set hr' hkn) (set_keeps hfl k) hB' hK)
/-- The moves, each in its turn. -/
def floatB (md : Region.Mode) (ops : Array Oper) (n : Nat) (K : Array Bool → Bool) : List Nat → Array Bool → Bool
  | [], listed => K listed
  | k :: ks, listed => (Region.ready md ops listed).contains k && Region.free md ops listed k && decide (k < n) &&
    (match ops[k]? with | some o => (match o.op with | .move _ => o.guard.isNone | _ => false) | none => false) && floatB md ops n K ks (listed.setIfInBounds k true)
def floatPut (ops : Array Oper) : List Nat → Act → Act
  | [], a => a
  | k :: ks, a => floatPut ops ks (match ops[k]? with | some o => (match o.op with | .move x => a.put o.dst (a.eval x) | _ => a) | none => a)
theorem held_true {Q : Exit → Act → World → Prop} : ∀ (fuel : Nat) (listed : Array Bool) (a : Act) (w : World), wpAny P md ops Q fuel listed a w → wpAnyH P md ops Q (fun _ => True) fuel listed a w
  | 0, _, _, _, h => h
  | fuel + 1, _, _, _, h => ⟨h.1, fun i hi => wpOp_mono (fun a' w' h' => ⟨trivial, held_true fuel _ a' w' h'⟩) (h.2 i hi)⟩
theorem floats_first {Q : Exit → Act → World → Prop} {n : Nat} {K : Array Bool → Bool} (hsel : Region.noSelect ops = true) (hQ : ∀ c a d v w, Q (.panic c) (Act.put a d v) w → Q (.panic c) a w) (fuel : Nat) :
    ∀ (fl done : List Nat) (listed : Array Bool) (a : Act) (w : World), HeadInv md ops n listed → (∀ i ∈ done, listed.getD i true = true) → floatB md ops n K fl listed = true →
      (∀ listed', HeadInv md ops n listed' → (∀ i ∈ done ++ fl, listed'.getD i true = true) → K listed' = true → wpAny P md ops Q fuel listed' (floatPut ops fl a) w) →
      wpAnyH P md ops Q (fun _ => True) (fl.length + fuel) listed a w
  | [], done, listed, a, w, inv, hd, hB, h => by
    rw [List.length_nil, Nat.zero_add]
    exact held_true _ _ _ _ (h listed inv (by simpa using hd) hB)
  | k :: ks, done, listed, a, w, inv, hd, hB, h => by
    simp only [floatB, Bool.and_eq_true, decide_eq_true_eq] at hB
    obtain ⟨⟨⟨⟨hr, hf⟩, hkn⟩, hmv⟩, hB'⟩ := hB
    have hr' : k ∈ Region.ready md ops listed := by simpa using hr
    obtain ⟨hun, o, h0, _⟩ := mem_ready.1 hr'
    rw [h0] at hmv
    simp only [floatPut, h0] at h
    cases hop : o.op with
    | move x =>
      simp only [hop] at hmv h
      have hg : o.guard = none := by simpa using hmv
      have hy : YieldsIf P ops (fun _ => True) o (a.eval x) a := .inl ⟨by simp [Region.wanted, hg], fun w _ => by simp [execOp, hop, Sem.run_pure]⟩
      rw [show (k :: ks).length + fuel = (ks.length + fuel) + 1 by simp; omega]
      refine wpAnyH_take h0 hsel hf hr (fun c a w => hQ c a _ _ w) hy trivial ?_
      refine floats_first hsel hQ fuel ks (done ++ [k]) _ _ w (inv.set hr' hkn) (fun i hi => ?_) hB' (fun listed' i1 i2 i3 => h listed' i1 (by simpa using i2) i3)
      rw [List.mem_append] at hi
      rcases hi with hi | hi
      · exact set_keeps hd k i hi
      · obtain rfl : i = k := by simpa using hi
        rcases Nat.lt_or_ge i listed.size with h' | h'
        · simp [h']
        · simp [h']
    | _ => simp [hop] at hmv
def qtB (md : Region.Mode) (ops : Array Oper) (fl ix : List Nat) (n : Nat) : Bool :=
  Region.noSelect ops && decide (n < ops.size) && decide (fl.length + ix.length = n) && sinkF md ops fl n && Region.chainB md ops n &&
    floatB md ops n (fun listed => headB md ops (ops.size - n) n ix listed) fl (Array.replicate ops.size false)
end
/-- A REGION THAT DRAWS ITS ORDER: moves (fl) that may come at any time, a head (ix) quiet in a class of worlds, a tail from n on, in its one order. -/
theorem any_qt {P : Program} {Q : Exit → Act → World → Prop} {a : Act} {w : World} {l : List Oper} (C : World → Prop) (fl ix : List Nat) (n : Nat)
    (hB : qtB .any l.toArray fl ix n = true) (hQ : ∀ c a d v w, Q (.panic c) (Act.put a d v) w → Q (.panic c) a w) (hC : C w)
    (h : wpQuiet P l.toArray C (fun a' => ∀ w', C w' → wpList P l.toArray Q (l.drop n) a' w') (ix.filterMap fun i => l[i]?) (floatPut l.toArray fl a)) : wpAny P .any l.toArray Q l.toArray.size (Array.replicate l.toArray.size false) a w := by
  simp only [qtB, Bool.and_eq_true, decide_eq_true_eq] at hB
  obtain ⟨⟨⟨⟨⟨hsel, hn⟩, hlen⟩, hs⟩, hc⟩, hfl⟩ := hB
  have hn' : n < l.length := by simpa using hn
  have hdl : (l.drop n).length = l.toArray.size - n := by simp
  have inv0 : HeadInv .any l.toArray n (Array.replicate l.toArray.size false) :=
    ⟨by simp, fun j oj _ hl => (by rw [getD_replicate_false] at hl; cases hl), fun t _ ht => getD_in (by simpa using ht) (getD_replicate_false _ _)⟩
  have hsz : l.toArray.size = fl.length + (ix.length + (l.toArray.size - n)) := by omega
  have key := floats_first (P := P) (Q := Q) hsel hQ (ix.length + (l.toArray.size - n)) fl [] _ a w inv0 (fun i hi => by cases hi) hfl (fun listed' i1 i2 i3 => by
    have H := head_lex (P := P) (C := C) (md := .any) (g := l.toArray.size - n) hsel hs hc hn ix listed' (floatPut l.toArray fl a) i1 (by simpa using i2) i3 (by simpa using h)
    exact any_of_head (Q' := Q) (g := l.toArray.size - n) (fun listed a' w' hw' hL => by
      have := wpAny_of_seq (md := .any) (Q' := Q) (l.drop n) n listed a' w' (fun j => by simp [List.getElem?_drop]) (by rw [hdl]; exact hL.1) (hL.2 w' hw')
      rwa [hdl] at this) _ _ _ _ hC H)
  rw [← hsz] at key
  exact wpAny_of_held _ _ _ _ key
theorem region_qt {P : Program} {id : Nat} {Q : Exit → Act → World → Prop} {a : Act} {w : World} {l : List Oper} (C : World → Prop) (fl ix : List Nat) (n : Nat) (hm : P.follows .mixedOrders = true)
    (hB : qtB .any l.toArray fl ix n = true) (hQ : ∀ c a d v w, Q (.panic c) (Act.put a d v) w → Q (.panic c) a w) (hC : C w.drew)
    (h : wpQuiet P l.toArray C (fun a' => ∀ w', C w' → wpList P l.toArray Q (l.drop n) a' w') (ix.filterMap fun i => l[i]?) (floatPut l.toArray fl a)) : (Code.region id l.toArray true).wp P Q a w :=
  wp_region_any hm (any_qt C fl ix n hB hQ hC h)
def movesB (ops : Array Oper) (fl : List Nat) : Bool := fl.all fun k => match ops[k]? with | some o => (match o.op with | .move _ => o.guard.isNone | _ => false) | none => false
theorem quiet_float {P : Program} {ops : Array Oper} {K : Act → Prop} : ∀ (fl : List Nat) (a : Act), movesB ops fl = true → wpQuiet P ops (fun _ => True) K (fl.filterMap fun i => ops[i]?) a → K (floatPut ops fl a)
  | [], a, _, h => h
  | k :: ks, a, hm, h => by
    simp only [movesB, List.all_cons, Bool.and_eq_true] at hm
    obtain ⟨hk, hks⟩ := hm
    cases h0 : ops[k]? with
    | none => simp [h0] at hk
    | some o =>
      simp only [h0] at hk
      rw [List.filterMap_cons, h0] at h
      simp only [floatPut, h0]
      cases hop : o.op with
      | move x =>
        simp only [hop] at hk
        have hg : o.guard = none := by simpa using hk
        have hw : Region.wanted o (yielded ops a.tmps) = true := by simp [Region.wanted, hg]
        have h' : (if Region.wanted o (yielded ops a.tmps) = true then o.quiet P a (fun _ => True) (wpQuiet P ops (fun _ => True) K (ks.filterMap fun i => ops[i]?)) else wpQuiet P ops (fun _ => True) K (ks.filterMap fun i => ops[i]?) (a.put o.dst undef)) := h
        rw [if_pos hw] at h'
        obtain ⟨v, h1, h2⟩ := h'
        have h3 := h1 default trivial
        have hr : (execOp a.eval o).run P default = .ok (.value (a.eval x)) default := by simp [execOp, hop, Sem.run_pure]
        unfold Oper.quietAt at h3
        rw [hr] at h3
        obtain ⟨_, he⟩ : (default : World) = default ∧ a.eval x = v := h3
        show K (floatPut ops ks (a.put o.dst (a.eval x)))
        rw [he]
        exact quiet_float ks _ (by simpa [movesB] using hks) h2
      | _ => simp [hop] at hk
theorem any_qf {P : Program} {Q : Exit → Act → World → Prop} {a : Act} {w : World} {l : List Oper} (C : World → Prop) (fl ix : List Nat) (n : Nat)
    (hB : (movesB l.toArray fl && qtB .any l.toArray fl ix n) = true) (hQ : ∀ c a d v w, Q (.panic c) (Act.put a d v) w → Q (.panic c) a w) (hC : C w)
    (h : wpQuiet P l.toArray (fun _ => True) (fun a' => wpQuiet P l.toArray C (fun a' => ∀ w', C w' → wpList P l.toArray Q (l.drop n) a' w') (ix.filterMap fun i => l[i]?) a') (fl.filterMap fun i => l[i]?) a) : wpAny P .any l.toArray Q l.toArray.size (Array.replicate l.toArray.size false) a w := by
  rw [Bool.and_eq_true] at hB
  refine any_qt C fl ix n hB.2 hQ hC ?_
  exact quiet_float (K := fun a' => wpQuiet P l.toArray C (fun a' => ∀ w', C w' → wpList P l.toArray Q (l.drop n) a' w') (ix.filterMap fun i => l[i]?) a') fl a hB.1 (by simpa using h)
theorem pick_range {α : Type} (l : List α) : ∀ (m k : Nat), (List.range' k m).filterMap (fun i => l[i]?) = (l.drop k).take m
  | 0, k => by simp
  | m + 1, k => by
    rw [List.range'_succ, List.filterMap_cons]
    by_cases h : k < l.length
    · rw [List.getElem?_eq_getElem h, List.drop_eq_getElem_cons h, List.take_succ_cons]
      simp only
      rw [pick_range l m (k + 1)]
    · rw [List.getElem?_eq_none (by omega)]
      simp only
      rw [pick_range l m (k + 1), List.drop_eq_nil_of_le (by omega), List.drop_eq_nil_of_le (by omega)]
      simp
/-- THE REGION, its first k operations moves that may come late, the next m the head; the head's class: the world behind some draws. -/
theorem region_qd {P : Program} {id : Nat} {Q : Exit → Act → World → Prop} {a : Act} {w : World} {l : List Oper} (k m : Nat) (hm : P.follows .mixedOrders = true)
    (hB : (movesB l.toArray (List.range' 0 k) && qtB .any l.toArray (List.range' 0 k) (List.range' k m) (k + m)) = true) (hQ : ∀ c a d v w, Q (.panic c) (Act.put a d v) w → Q (.panic c) a w)
    (h : wpQuiet P l.toArray (fun _ => True) (fun a' => wpQuiet P l.toArray (fun w' => ∃ n, w' = w.drewN n) (fun a' => ∀ w', (∃ n, w' = w.drewN n) → wpList P l.toArray Q (l.drop (k + m)) a' w') ((l.drop k).take m) a') (l.take k) a) : (Code.region id l.toArray true).wp P Q a w :=
  wp_region_any hm (any_qf (fun w' => ∃ n, w' = w.drewN n) _ _ (k + m) hB hQ ⟨1, rfl⟩ (by rw [pick_range, pick_range]; exact h))
/-- The same, the head's class: the worlds f x. -/
theorem region_qo {P : Program} {id : Nat} {Q : Exit → Act → World → Prop} {a : Act} {w : World} {l : List Oper} {T : Type} (f : T → World) (k m : Nat) (hm : P.follows .mixedOrders = true)
    (hB : (movesB l.toArray (List.range' 0 k) && qtB .any l.toArray (List.range' 0 k) (List.range' k m) (k + m)) = true) (hQ : ∀ c a d v w, Q (.panic c) (Act.put a d v) w → Q (.panic c) a w) (x0 : T) (h0 : f x0 = { w with drawn := w.drawn + 1 })
    (h : wpQuiet P l.toArray (fun _ => True) (fun a' => wpQuiet P l.toArray (fun w' => ∃ x, w' = f x) (fun a' => ∀ w', (∃ x, w' = f x) → wpList P l.toArray Q (l.drop (k + m)) a' w') ((l.drop k).take m) a') (l.take k) a) : (Code.region id l.toArray true).wp P Q a w :=
  wp_region_any hm (any_qf (fun w' => ∃ x, w' = f x) _ _ (k + m) hB hQ ⟨x0, h0.symm⟩ (by rw [pick_range, pick_range]; exact h))
/-- As region_qd, region_qo, for the bare orders (a region in a round: region_in). -/
theorem any_qd {P : Program} {Q : Exit → Act → World → Prop} {a : Act} {w : World} {l : List Oper} (k m : Nat)
    (hB : (movesB l.toArray (List.range' 0 k) && qtB .any l.toArray (List.range' 0 k) (List.range' k m) (k + m)) = true) (hQ : ∀ c a d v w, Q (.panic c) (Act.put a d v) w → Q (.panic c) a w)
    (h : wpQuiet P l.toArray (fun _ => True) (fun a' => wpQuiet P l.toArray (fun w' => ∃ n, w' = w.drewN n) (fun a' => ∀ w', (∃ n, w' = w.drewN n) → wpList P l.toArray Q (l.drop (k + m)) a' w') ((l.drop k).take m) a') (l.take k) a) : wpAny P .any l.toArray Q l.toArray.size (Array.replicate l.toArray.size false) a w :=
  any_qf (fun w' => ∃ n, w' = w.drewN n) _ _ (k + m) hB hQ ⟨0, rfl⟩ (by rw [pick_range, pick_range]; exact h)
theorem any_qo {P : Program} {Q : Exit → Act → World → Prop} {a : Act} {w : World} {l : List Oper} {T : Type} (f : T → World) (k m : Nat)
    (hB : (movesB l.toArray (List.range' 0 k) && qtB .any l.toArray (List.range' 0 k) (List.range' k m) (k + m)) = true) (hQ : ∀ c a d v w, Q (.panic c) (Act.put a d v) w → Q (.panic c) a w) (x0 : T) (h0 : f x0 = w)
    (h : wpQuiet P l.toArray (fun _ => True) (fun a' => wpQuiet P l.toArray (fun w' => ∃ x, w' = f x) (fun a' => ∀ w', (∃ x, w' = f x) → wpList P l.toArray Q (l.drop (k + m)) a' w') ((l.drop k).take m) a') (l.take k) a) : wpAny P .any l.toArray Q l.toArray.size (Array.replicate l.toArray.size false) a w :=
  any_qf (fun w' => ∃ x, w' = f x) _ _ (k + m) hB hQ ⟨x0, h0.symm⟩ (by rw [pick_range, pick_range]; exact h)
end Go.Proofs.YtkdcfijebgeajaaGreat

namespace Go.Proofs.YtkdcfijebgeajaaGreat
open Go.RowKit Go.BigFrame
/-- A region that draws: n operations that read, and a tail in one order. -/
theorem region_tail {P : Program} {id : Nat} {Q : Exit → Act → World → Prop} {a : Act} {w : World} {l : List Oper} (n : Nat) (hm : P.follows .mixedOrders = true) (hB : Region.lexTailB .any l.toArray n = true)
    (h : wpStill P l.toArray w.drew (fun a' => wpList P l.toArray Q (l.drop n) a' w.drew) (l.take n) a) : (Code.region id l.toArray true).wp P Q a w :=
  wp_region_still_tail n hm hB h
/-- A block's cells, each by its place. -/
theorem cell_row {W : World} {b : Nat} {c : Array Value} {t : TypeId} {f : Nat × Nat} (h : W.heap[b]? = some (.cells c t f)) (k : Nat) (v : Value) (hv : c.toList[k]? = some v) : W.cell? ⟨b, k, none⟩ = some v := by
  rw [cell_of_row _ _ k _ _ _ h]; simpa using hv
theorem free_row {W : World} {b : Nat} {c : Array Value} {t : TypeId} (h : W.heap[b]? = some (.cells c t (0, 0))) (j : Nat) : W.frozen? ⟨b, j, none⟩ = false := by
  unfold World.frozen?; rw [h]; simp
theorem lt_row {W : World} {b : Nat} {o : Obj} (h : W.heap[b]? = some o) : b < W.heap.size := (Array.getElem?_eq_some_iff.1 h).1
theorem row_4 {W : World} {b : Nat} {k0 k1 k2 k3 : Value} {t : TypeId} (h : W.heap[b]? = some (.cells #[k0, k1, k2, k3] t (0, 0))) :
    W.cell? ⟨b, 0, none⟩ = some k0 ∧ W.cell? ⟨b, 1, none⟩ = some k1 ∧ W.cell? ⟨b, 2, none⟩ = some k2 ∧ W.cell? ⟨b, 3, none⟩ = some k3 ∧ ∀ j, W.frozen? ⟨b, j, none⟩ = false :=
  ⟨cell_row h 0 _ rfl, cell_row h 1 _ rfl, cell_row h 2 _ rfl, cell_row h 3 _ rfl, free_row h⟩
theorem row_9 {W : World} {b : Nat} {k0 k1 k2 k3 k4 k5 k6 k7 k8 : Value} {t : TypeId} (h : W.heap[b]? = some (.cells #[k0, k1, k2, k3, k4, k5, k6, k7, k8] t (0, 0))) :
    W.cell? ⟨b, 0, none⟩ = some k0 ∧ W.cell? ⟨b, 1, none⟩ = some k1 ∧ W.cell? ⟨b, 2, none⟩ = some k2 ∧ W.cell? ⟨b, 3, none⟩ = some k3 ∧ W.cell? ⟨b, 4, none⟩ = some k4 ∧ W.cell? ⟨b, 5, none⟩ = some k5 ∧ W.cell? ⟨b, 6, none⟩ = some k6 ∧ W.cell? ⟨b, 7, none⟩ = some k7 ∧ W.cell? ⟨b, 8, none⟩ = some k8 ∧ ∀ j, W.frozen? ⟨b, j, none⟩ = false :=
  ⟨cell_row h 0 _ rfl, cell_row h 1 _ rfl, cell_row h 2 _ rfl, cell_row h 3 _ rfl, cell_row h 4 _ rfl, cell_row h 5 _ rfl, cell_row h 6 _ rfl, cell_row h 7 _ rfl, cell_row h 8 _ rfl, free_row h⟩
end Go.Proofs.YtkdcfijebgeajaaGreat

namespace Go.Proofs.YtkdcfijebgeajaaGreat
open Go.RowKit Go.BigFrame
set_option linter.unusedVariables false
set_option linter.unusedSimpArgs false
theorem heap_set_other {W : World} {b j g : Nat} {v : Value} (h : g ≠ b) : (W.setCell ⟨b, j, none⟩ v).heap[g]? = W.heap[g]? := Below.heap_setCell W _ v g h
theorem heap_set {w : World} {g j : Nat} {c : Array Value} {t : TypeId} {f : Nat × Nat} (v : Value) (h : w.heap[g]? = some (.cells c t f)) : (w.setCell ⟨g, j, none⟩ v).heap[g]? = some (.cells (c.setIfInBounds j v) t f) := by
  simp [World.setCell, Array.getElem?_modify, h]
theorem cell_of_heap {w w' : World} {b : Nat} (h : w'.heap[b]? = w.heap[b]?) (o : Nat) : w'.cell? ⟨b, o, none⟩ = w.cell? ⟨b, o, none⟩ := World.cell?_of_block (w := w) (a := ⟨b, o, none⟩) h
theorem frozen_of_heap {w w' : World} {b : Nat} (h : w'.heap[b]? = w.heap[b]?) (o : Nat) : w'.frozen? ⟨b, o, none⟩ = w.frozen? ⟨b, o, none⟩ := World.frozen?_of_block (w := w) (a := ⟨b, o, none⟩) h
/-- Nothing but block p has turned. -/
structure But (p : Nat) (w w' : World) : Prop where
  os : w'.os = w.os
  tape : w'.tape = w.tape
  output : w'.output = w.output
  size : w.heap.size ≤ w'.heap.size
  block : ∀ k, k < w.heap.size → k ≠ p → w'.heap[k]? = w.heap[k]?
theorem But.refl (p : Nat) (w : World) : But p w w := ⟨rfl, rfl, rfl, Nat.le_refl _, fun _ _ _ => rfl⟩
theorem But.trans {p : Nat} {x y z : World} (h : But p x y) (k : But p y z) : But p x z :=
  ⟨k.os.trans h.os, k.tape.trans h.tape, k.output.trans h.output, Nat.le_trans h.size k.size, fun i hi h1 => (k.block i (Nat.lt_of_lt_of_le hi h.size) h1).trans (h.block i hi h1)⟩
theorem But.of_below {p : Nat} {w w' : World} (h : Below w.heap.size w w') : But p w w' := ⟨h.os, h.tape, h.output, h.size, fun k hk _ => h.block k hk⟩
theorem But.alloc {p : Nat} {a w : World} (h : But p a w) (o : Obj) : But p a (w.alloc o) :=
  ⟨h.os, h.tape, h.output, Nat.le_trans h.size (by simp), fun k hk hb => by rw [Below.heap_alloc _ _ _ (Nat.lt_of_lt_of_le hk h.size)]; exact h.block k hk hb⟩
theorem But.set {p : Nat} {a w : World} (h : But p a w) (j : Nat) (v : Value) : But p a (w.setCell ⟨p, j, none⟩ v) :=
  ⟨h.os, h.tape, h.output, by simpa [World.setCell] using h.size, fun k hk hb => by rw [heap_set_other hb]; exact h.block k hk hb⟩
theorem But.setNew {p : Nat} {a w : World} (h : But p a w) {g : Nat} (hg : a.heap.size ≤ g) (j : Nat) (v : Value) : But p a (w.setCell ⟨g, j, none⟩ v) :=
  ⟨h.os, h.tape, h.output, by simpa [World.setCell] using h.size, fun k hk hb => by rw [heap_set_other (by omega)]; exact h.block k hk hb⟩
theorem But.below {p B : Nat} {a w w' : World} (h : Below B a w) (k : But p w w') (hb : B ≤ p) (hB : B ≤ w.heap.size) : Below B a w' :=
  ⟨k.os.trans h.os, k.tape.trans h.tape, k.output.trans h.output, Nat.le_trans h.size k.size, fun i hi => (k.block i (by omega) (by omega)).trans (h.block i hi)⟩
/-- An access. -/
structure Acc where
  ki : Int
  th : Int
  pl : Int
  ol : Int
  ne : Int
  dn : Bool
def Acc.cells (x : Acc) : Array Value := #[.int .i64 x.ki, .int .i64 x.th, .int .i64 x.pl, .int .u64 x.ol, .int .u64 x.ne, .bool x.dn]
/-- A memory's block: the device, the passing words, the clock, how many were bad, the last access. -/
def MemRow (W : World) (m : Nat) (dv pv : Value) (ck bd : Int) (x : Acc) : Prop :=
  W.heap[m]? = some (.cells #[dv, pv, .int .i64 ck, .int .i64 bd, .int .i64 x.ki, .int .i64 x.th, .int .i64 x.pl, .int .u64 x.ol, .int .u64 x.ne, .bool x.dn] 156 (0, 0))
theorem row10 {W : World} {b : Nat} {k0 k1 k2 k3 k4 k5 k6 k7 k8 k9 : Value} {t : TypeId} (h : W.heap[b]? = some (.cells #[k0, k1, k2, k3, k4, k5, k6, k7, k8, k9] t (0, 0))) :
    W.cell? ⟨b, 0, none⟩ = some k0 ∧ W.cell? ⟨b, 1, none⟩ = some k1 ∧ W.cell? ⟨b, 2, none⟩ = some k2 ∧ W.cell? ⟨b, 3, none⟩ = some k3 ∧ W.cell? ⟨b, 4, none⟩ = some k4 ∧ W.cell? ⟨b, 5, none⟩ = some k5 ∧ W.cell? ⟨b, 6, none⟩ = some k6 ∧ W.cell? ⟨b, 7, none⟩ = some k7 ∧ W.cell? ⟨b, 8, none⟩ = some k8 ∧ W.cell? ⟨b, 9, none⟩ = some k9 ∧ ∀ j, W.frozen? ⟨b, j, none⟩ = false := by
  refine ⟨?_, ?_, ?_, ?_, ?_, ?_, ?_, ?_, ?_, ?_, fun j => ?_⟩
  all_goals first | (rw [cell_of_row _ _ _ _ _ _ h]; rfl) | (unfold World.frozen?; rw [h]; simp)
theorem row_note {W : World} {m : Nat} {k0 k1 k2 k3 k4 k5 k6 k7 k8 k9 a2 a4 a5 a6 a7 a8 a9 : Value} {t : TypeId} {f : Nat × Nat} (h : W.heap[m]? = some (.cells #[k0, k1, k2, k3, k4, k5, k6, k7, k8, k9] t f)) :
    (((((((W.setCell ⟨m, 2, none⟩ a2).setCell ⟨m, 4, none⟩ a4).setCell ⟨m, 5, none⟩ a5).setCell ⟨m, 6, none⟩ a6).setCell ⟨m, 7, none⟩ a7).setCell ⟨m, 8, none⟩ a8).setCell ⟨m, 9, none⟩ a9).heap[m]? = some (.cells #[k0, k1, a2, k3, a4, a5, a6, a7, a8, a9] t f) := by
  have h2 := heap_set (j := 2) a2 h
  have h4 := heap_set (j := 4) a4 h2
  have h5 := heap_set (j := 5) a5 h4
  have h6 := heap_set (j := 6) a6 h5
  have h7 := heap_set (j := 7) a7 h6
  have h8 := heap_set (j := 8) a8 h7
  have h9 := heap_set (j := 9) a9 h8
  rw [h9]
  rfl
/-- An access is noted. -/
def Noted (W : World) (m : Nat) (dv pv : Value) (ck bd : Int) (x : Acc) (e : Ending) (W' : World) : Prop :=
  (∃ v, e = .returned v) ∧ MemRow W' m dv pv (ck + 1) bd x ∧ But m W W'
set_option maxRecDepth 100000 in
theorem count73 (m : Nat) (dv pv : Value) (ck bd : Int) (c0 : 0 ≤ ck) (c1 : ck ≤ 1000000) (b0 : 0 ≤ bd) (b1 : bd ≤ 1000000) (x0 x : Acc) (is : Bool) (W : World) (h : MemRow W m dv pv ck bd x0) :
    Calls Tryz.prog 171 #[.pointer (some ⟨m, 0, none⟩), .agg x.cells, .bool is] W (Noted W m dv pv ck (if is then bd else bd + 1) x) := by
  obtain ⟨y0, y1, y2, y3, y4, y5, y6, y7, y8, y9, yf⟩ := row10 h
  have hlt : m < W.heap.size := (Array.getElem?_eq_some_iff.1 h).1
  have hne : m ≠ W.heap.size := by omega
  have hne2 : W.heap.size ≠ m := by omega
  have HH := Lib.hid h
  clear h
  simp only [Acc.cells]
  cases is with
  | true =>
    go_enter Tryz.func171, Tryz.ntmps171
    go_wp2_with fail
    go_end0
    refine ⟨⟨_, rfl⟩, ?_, ?_⟩
    · unfold MemRow
      rw [Below.heap_alloc _ _ _ (by simpa using hlt)]
      exact row_note HH.out
    · exact ((((((((But.refl m W).set 2 _).set 4 _).set 5 _).set 6 _).set 7 _).set 8 _).set 9 _).alloc _
  | false =>
    go_enter Tryz.func171, Tryz.ntmps171
    go_wp2_with fail
    go_end0
    refine ⟨⟨_, rfl⟩, ?_, ?_⟩
    · unfold MemRow
      rw [Below.heap_alloc _ _ _ (by simpa using hlt)]
      have h3 := heap_set (j := 3) (.int .i64 (bd + 1)) (row_note (a2 := .int .i64 (ck + 1)) (a4 := .int .i64 x.ki) (a5 := .int .i64 x.th) (a6 := .int .i64 x.pl) (a7 := .int .u64 x.ol) (a8 := .int .u64 x.ne) (a9 := .bool x.dn) HH.out)
      rw [h3]
      rfl
    · exact (((((((((But.refl m W).set 2 _).set 4 _).set 5 _).set 6 _).set 7 _).set 8 _).set 9 _).set 3 _).alloc _
end Go.Proofs.YtkdcfijebgeajaaGreat

namespace Go.Proofs.YtkdcfijebgeajaaGreat
open Go.RowKit Go.BigFrame
set_option linter.unusedVariables false
set_option linter.unusedSimpArgs false
/-- A census's cells. -/
def cenC (f : Nat → Int) : Array Value := #[.int .i64 (f 0), .int .i64 (f 1), .int .i64 (f 2), .int .i64 (f 3), .int .i64 (f 4), .int .i64 (f 5), .int .i64 (f 6), .int .i64 (f 7), .int .i64 (f 8), .int .i64 (f 9), .int .i64 (f 10), .int .i64 (f 11), .int .i64 (f 12)]
/-- The places of its numbers. -/
def ptrC (x : Nat) : Array Value := #[.pointer (some ⟨x, 0, none⟩), .pointer (some ⟨x, 1, none⟩), .pointer (some ⟨x, 2, none⟩), .pointer (some ⟨x, 3, none⟩), .pointer (some ⟨x, 4, none⟩), .pointer (some ⟨x, 5, none⟩), .pointer (some ⟨x, 6, none⟩), .pointer (some ⟨x, 7, none⟩), .pointer (some ⟨x, 8, none⟩), .pointer (some ⟨x, 9, none⟩), .pointer (some ⟨x, 10, none⟩), .pointer (some ⟨x, 11, none⟩), .pointer (some ⟨x, 12, none⟩)]
def PtrsTo (x : Nat) (w : World) (e : Ending) (w' : World) : Prop :=
  ∃ s, e = .returned (.slice (some ⟨s, 0, none⟩) 13 13) ∧ Below w.heap.size w w' ∧ w.heap.size ≤ s ∧ w'.heap[s]? = some (.cells (ptrC x) 169 (0, 0))
set_option maxRecDepth 100000 in
theorem numbers154 (x : Nat) (w : World) : Calls Tryz.prog 154 #[.pointer (some ⟨x, 0, none⟩)] w (PtrsTo x w) := by
  go_enter Tryz.func154, Tryz.ntmps154
  go_upto_region 1 with fail
  refine region_qd 0 39 (by kernel_rfl) (by kernel_rfl) (fun _ _ d _ _ h => by cases d <;> exact h) ?_
  simp only [List.take_succ_cons, List.take_zero, List.drop_succ_cons, List.drop_zero, Nat.reduceAdd]
  refine wpQuiet_nil ?_
  repeat (first | go_big_quiet_skip | (go_big_quiet_want; go_big_quiet_op; go_big_quiet_on))
  refine wpQuiet_nil ?_
  rintro _ ⟨k, rfl⟩
  go_wp2_with fail
  go_ret
  refine ⟨w.heap.size, rfl, ?_, Nat.le_refl _, ?_⟩
  · exact (show Below w.heap.size w (w.drewN k) from ⟨rfl, rfl, rfl, Nat.le_refl _, fun _ _ => rfl⟩).alloc (Nat.le_refl _) _
  · exact heap_alloc_new (w.drewN k) _
theorem cenC_get (f : Nat → Int) (k : Nat) (hk : k < 13) : (cenC f).toList[k]? = some (.int .i64 (f k)) := by
  match k, hk with
  | 0, _ | 1, _ | 2, _ | 3, _ | 4, _ | 5, _ | 6, _ | 7, _ | 8, _ | 9, _ | 10, _ | 11, _ | 12, _ => rfl
theorem ptrC_get (x k : Nat) (hk : k < 13) : (ptrC x).toList[k]? = some (.pointer (some ⟨x, k, none⟩)) := by
  match k, hk with
  | 0, _ | 1, _ | 2, _ | 3, _ | 4, _ | 5, _ | 6, _ | 7, _ | 8, _ | 9, _ | 10, _ | 11, _ | 12, _ => rfl
theorem cenC_set (f : Nat → Int) (k : Nat) (hk : k < 13) (v : Int) : (cenC f).setIfInBounds k (.int .i64 v) = cenC fun i => if i = k then v else f i := by
  match k, hk with
  | 0, _ | 1, _ | 2, _ | 3, _ | 4, _ | 5, _ | 6, _ | 7, _ | 8, _ | 9, _ | 10, _ | 11, _ | 12, _ => rfl
set_option maxRecDepth 100000 in
theorem sub91 (X Y k : Nat) (a b : Int) (c : Array Value) (w : World) (hX : w.cell? ⟨X, k, none⟩ = some (.int .i64 a)) (hY : w.heap[Y]? = some (.cells c 80 (0, 0))) (hb : c.toList[k]? = some (.int .i64 b)) :
    Calls Tryz.prog 91 #[.pointer (some ⟨X, k, none⟩), .pointer (some ⟨Y, k, none⟩)] w fun e w' => (∃ u, e = .returned u) ∧ ∃ n, w' = (w.drewN n).setCell ⟨Y, k, none⟩ (.int .i64 (wrap64 (b - a))) := by
  have q1 := cell_row hY k _ hb
  have qf := free_row hY k
  clear hY hb
  go_enter Tryz.func91, Tryz.ntmps91
  go_upto_region 0 with fail
  refine region_qd 0 8 (by kernel_rfl) (by kernel_rfl) (fun _ _ d _ _ h => by cases d <;> exact h) ?_
  simp only [List.take_succ_cons, List.take_zero, List.drop_succ_cons, List.drop_zero, Nat.reduceAdd]
  refine wpQuiet_nil ?_
  repeat (first | go_big_quiet_skip | (go_big_quiet_want; go_big_quiet_op; go_big_quiet_on))
  refine wpQuiet_nil ?_
  rintro _ ⟨n, rfl⟩
  go_wp2_with fail
  go_end0
  exact ⟨⟨_, rfl⟩, n, rfl⟩
/-- The census that is the later one's, so far less that of the other. -/
def lessC (f g : Nat → Int) (k : Nat) (i : Nat) : Int := if i < k then wrap64 (g i - f i) else g i
theorem lessC_next (f g : Nat → Int) (k : Nat) : (fun i => if i = k then wrap64 (lessC f g k k - f k) else lessC f g k i) = lessC f g (k + 1) := by
  funext i
  unfold lessC
  by_cases h : i = k
  · subst h; rw [if_pos rfl, if_neg (Nat.lt_irrefl i), if_pos (Nat.lt_succ_self i)]
  · rw [if_neg h]
    by_cases h2 : i < k
    · rw [if_pos h2, if_pos (by omega)]
    · rw [if_neg h2, if_neg (by omega)]
def Lessened (Y : Nat) (h : Nat → Int) (w : World) (e : Ending) (w' : World) : Prop := (∃ u, e = .returned u) ∧ w'.heap[Y]? = some (.cells (cenC h) 80 (0, 0)) ∧ But Y w w'
set_option maxRecDepth 100000 in
set_option maxHeartbeats 4000000 in
theorem each90 (X Y : Nat) (f g : Nat → Int) (w : World) (hXY : X ≠ Y) (hX : w.heap[X]? = some (.cells (cenC f) 80 (0, 0))) (hY : w.heap[Y]? = some (.cells (cenC g) 80 (0, 0))) :
    Calls Tryz.prog 90 #[.pointer (some ⟨X, 0, none⟩), .pointer (some ⟨Y, 0, none⟩), .func (.func 91) #[] #[]] w (Lessened Y (lessC f g 13) w) := by
  have HX := Lib.hid hX
  have HY := Lib.hid hY
  have HE := Lib.hid hXY
  clear hX hY hXY
  go_enter Tryz.func90, Tryz.ntmps90
  go_wp2_with fail
  refine (numbers154 X _).mono ?_
  rintro e w1 ⟨s1, rfl, hb1, hs1, hr1⟩
  go_wp2_with fail
  refine (numbers154 Y _).mono ?_
  rintro e w2 ⟨s2, rfl, hb2, hs2, hr2⟩
  have HB : Hid (Below w.heap.size w w2) := Lib.hid (hb1.trans (hb2.mono hb1.size))
  have HR1 : Hid (w2.heap[s1]? = some (.cells (ptrC X) 169 (0, 0))) := Lib.hid ((hb2.block s1 (lt_row hr1)).trans hr1)
  have HR2 := Lib.hid hr2
  have HS1 : Hid (w.heap.size ≤ s1) := Lib.hid hs1
  have HS2 : Hid (w.heap.size ≤ s2) := Lib.hid (Nat.le_trans hb1.size hs2)
  clear hb1 hb2 hs1 hs2 hr1 hr2
  go_wp2_with fail
  go_loopw [15] (fun i wr => ∃ k : Nat, k ≤ 13 ∧ i = .int .i64 k ∧ Hid (wr.heap[Y]? = some (.cells (cenC (lessC f g k)) 80 (0, 0))) ∧ Hid (But Y w2 wr)) (fun i _ => 13 - (intOf i).toNat)
  case atStart =>
    refine ⟨0, by omega, rfl, Lib.hid ?_, Lib.hid (But.refl _ _)⟩
    rw [HB.out.block Y (lt_row HY.out), HY.out]
    rfl
  case round =>
    obtain ⟨k, hk, rfl, HRY, HBT⟩ := hrel
    by_cases hlt : k < 13
    · have d1 : decide ((k : Int) < (13 : Int)) = true := bool_yes (by omega)
      have yX : Y ≠ s1 := by have := lt_row HY.out; have := HS1.out; omega
      have y2 : Y ≠ s2 := by have := lt_row HY.out; have := HS2.out; omega
      have p1 : wr.cell? ⟨s1, k, none⟩ = some (.pointer (some ⟨X, k, none⟩)) := cell_row ((HBT.out.block s1 (lt_row HR1.out) (Ne.symm yX)).trans HR1.out) k _ (ptrC_get X k hlt)
      have p2 : wr.cell? ⟨s2, k, none⟩ = some (.pointer (some ⟨Y, k, none⟩)) := cell_row ((HBT.out.block s2 (lt_row HR2.out) (Ne.symm y2)).trans HR2.out) k _ (ptrC_get Y k hlt)
      have p3 : wr.cell? ⟨X, k, none⟩ = some (.int .i64 (f k)) := cell_row ((HBT.out.block X (Nat.lt_of_lt_of_le (lt_row HX.out) HB.out.size) HE.out).trans ((HB.out.block X (lt_row HX.out)).trans HX.out)) k _ (cenC_get f k hlt)
      have HP3 := Lib.hid p3
      have i0 : (0 : Int) ≤ (k : Int) := by omega
      have i1 : (k : Int) < (13 : Int) := by omega
      clear yX y2 p3
      go_wp2_with fail
      refine region_qd 0 9 (by kernel_rfl) (by kernel_rfl) (fun _ _ d _ _ h => by cases d <;> exact h) ?_
      simp only [List.take_succ_cons, List.take_zero, List.drop_succ_cons, List.drop_zero, Nat.reduceAdd]
      refine wpQuiet_nil ?_
      repeat (first | go_big_quiet_skip | (go_big_quiet_want; go_big_quiet_op; go_big_quiet_on))
      refine wpQuiet_nil ?_
      rintro _ ⟨n, rfl⟩
      go_wp2_with fail
      refine (sub91 X Y k (f k) (lessC f g k k) _ (wr.drewN n) HP3.out HRY.out (cenC_get _ k hlt)).mono ?_
      rintro e w3 ⟨⟨u, rfl⟩, n3, rfl⟩
      go_wp2_with fail
      go_roundw
      case rel =>
        refine ⟨k + 1, by omega, by go_num, Lib.hid ?_, Lib.hid ?_⟩
        · rw [← lessC_next, ← cenC_set _ k hlt]
          exact heap_set _ HRY.out
        · exact HBT.out.trans ((show But Y wr (wr.drewN (n + n3)) from ⟨rfl, rfl, rfl, Nat.le_refl _, fun _ _ _ => rfl⟩).set k _)
      case measure => simp [intOf]; omega
    · obtain rfl : k = 13 := by omega
      go_wp2_with fail
      go_end0
      exact ⟨⟨_, rfl⟩, HRY.out, (But.of_below HB.out).trans HBT.out⟩
end Go.Proofs.YtkdcfijebgeajaaGreat
