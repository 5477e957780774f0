/- A region that draws its order: moves that may come late, a head whose operations are quiet in a class of worlds, and a tail in one order. No program here.
   Small words for the walks: a region that reads and then does one thing; rows of cells. No program here.
   Layer 6 (layout): where everything lies.
   Layer 6 (layout): a config's layout; the head of a bucket. -/
import Derived.Test.YtkdcfijebgeajaaGreatJ1
import Derived.StillTailTactics
import Derived.Deep.Quiet
import Derived.OrdersHeld
import Derived.Deep.RegionHeld3
import Derived.BigQuiet
import Derived.Deep.QuietTactic
import Derived.Test.YtkdcfijebgeajaaGreatJ10
import Derived.Test.YtkdcfijebgeajaaGreatJ2
import Derived.Test.YtkdcfijebgeajaaGreatJ3
import Derived.IntWalk
namespace Go.Proofs.YtkdcfijebgeajaaGreat
set_option linter.unusedVariables false
section
variable {P : Program} {ops : Array Oper} {md : Region.Mode} {C : World → Prop}
/-- Each operation of the head that is no mere move is waited for by a later one, at the latest by the tail's first. -/
def sinkF (md : Region.Mode) (ops : Array Oper) (fl : List Nat) (n : Nat) : Bool :=
  (List.range n).all fun i => fl.contains i || (List.range (n + 1)).any fun j => decide (i < j) && Region.waitsFor md ops j i
theorem tail_waitsF {fl : List Nat} {n : Nat} {listed : Array Bool} (hs : sinkF md ops fl n = true) (hc : Region.chainB md ops n = true) (hn : n < ops.size) (inv : HeadInv md ops n listed) (hf : ∀ i ∈ fl, listed.getD i true = true) :
    ∀ (d i : Nat), n - i = d → i < n → listed.getD i true = false → ∀ t, n ≤ t → t ∉ Region.ready md ops listed := by
  intro d
  induction d using Nat.strongRecOn with
  | _ d ih =>
    intro i hd hi hun t ht hr
    obtain ⟨_, ot, hot, hall⟩ := mem_ready.1 hr
    have htlt : t < ops.size := (Array.getElem?_eq_some_iff.1 hot).1
    by_cases htn : t = n
    · subst htn
      have h1 := List.all_eq_true.1 hs i (List.mem_range.2 hi)
      simp only [Bool.or_eq_true] at h1
      rcases h1 with h1 | h1
      · have := hf i (by simpa using h1)
        rw [hun] at this; cases this
      obtain ⟨j, hj, hj2⟩ := List.any_eq_true.1 h1
      simp only [Bool.and_eq_true, decide_eq_true_eq] at hj2
      obtain ⟨oj, hoj, e, he, hb, hon⟩ := Region.waitsFor_spec hj2.2
      have hjle : j ≤ t := by have := List.mem_range.1 hj; omega
      by_cases hjt : j = t
      · subst hjt
        obtain rfl : oj = ot := Option.some.inj (hoj.symm.trans hot)
        have h2 := hall e he hb
        rw [hon, getD_both hun] at h2
        cases h2
      · cases hl : listed.getD j false with
        | true =>
          have h2 := inv.closed j oj hoj hl e he hb
          rw [hon, getD_both hun] at h2
          cases h2
        | false => exact ih (t - j) (by omega) j rfl (by omega) (getD_in (by rw [inv.size]; omega) hl) t (Nat.le_refl _) hr
    · have h1 := List.all_eq_true.1 hc t (List.mem_range.2 htlt)
      simp only [Bool.or_eq_true, decide_eq_true_eq] at h1
      rcases h1 with h1 | h1
      · omega
      · obtain ⟨o', ho', e, he, hb, hon⟩ := Region.waitsFor_spec h1
        obtain rfl : o' = ot := Option.some.inj (ho'.symm.trans hot)
        have h2 := hall e he hb
        rw [hon, getD_both (inv.tail (t - 1) (by omega) (by omega))] at h2
        cases h2
/-- The head, in whatever order; then L. -/
def headAny (P : Program) (md : Region.Mode) (ops : Array Oper) (C : World → Prop) (n : Nat) (L : Array Bool → Act → Prop) : Nat → Array Bool → Act → Prop
  | 0, listed, a => L listed a
  | f + 1, listed, a => Region.ready md ops listed ≠ [] ∧ ∀ i ∈ Region.ready md ops listed, i < n ∧ qOp P ops C i (headAny P md ops C n L f (listed.setIfInBounds i true)) a
theorem any_of_head {n g : Nat} {L : Array Bool → Act → Prop} {Q' : Exit → Act → World → Prop} (hL : ∀ listed a w, C w → L listed a → wpAny P md ops Q' g listed a w) :
    ∀ (f : Nat) (listed : Array Bool) (a : Act) (w : World), C w → headAny P md ops C n L f listed a → wpAny P md ops Q' (f + g) listed a w
  | 0, listed, a, w, hw, h => by rw [Nat.zero_add]; exact hL _ _ _ hw h
  | f + 1, listed, a, w, hw, h => by
    rw [show f + 1 + g = (f + g) + 1 by omega]
    exact ⟨fun h0 => absurd h0 h.1, fun i hi => wpOp_of_qOp hw (fun a' w' hw' h' => any_of_head hL f _ a' w' hw' h') (h.2 i hi).2⟩
theorem set_keeps {listed : Array Bool} {fl : List Nat} (hf : ∀ i ∈ fl, listed.getD i true = true) (j : Nat) : ∀ i ∈ fl, (listed.setIfInBounds j true).getD i true = true := fun i hi => by
  by_cases h : j = i
  · subst h
    rcases Nat.lt_or_ge j listed.size with h' | h'
    · simp [h']
    · simp [h']
  · rw [getD_set_ne true h]; exact hf i hi
theorem head_first {fl : List Nat} {n i : Nat} {oi : Oper} {v : Value} {L : Array Bool → Act → Prop} (hi : ops[i]? = some oi) (hsel : ∀ (j : Nat) (o : Oper) cs b, ops[j]? = some o → o.op ≠ .select cs b)
    (hs : sinkF md ops fl n = true) (hc : Region.chainB md ops n = true) (hn : n < ops.size) (hin : i < n)
    (hdone : ∀ listed a, L listed a → ∀ j ∈ Region.ready md ops listed, n ≤ j) :
    ∀ (f : Nat) (listed : Array Bool) (a : Act), HeadInv md ops n listed → (∀ i ∈ fl, listed.getD i true = true) →
      (∀ j oj, ops[j]? = some oj → j ≠ i → listed.getD j true = false → (∀ e ∈ oj.after, Region.binds md e = true → e.on ≠ i) → oi.apart ops oj = true) →
      i ∈ Region.ready md ops listed → YieldsIn P ops C oi v a →
      headAny P md ops C n L f (listed.setIfInBounds i true) (a.put oi.dst v) → headAny P md ops C n L (f + 1) listed a := by
  intro f
  induction f with
  | zero =>
    intro listed a inv hfl _ hr hy H
    have hun := (mem_ready.1 hr).1
    refine ⟨fun h => (by rw [h] at hr; cases hr), fun j hj => ?_⟩
    have hjn : j < n := by
      rcases Nat.lt_or_ge j n with h | h
      · exact h
      · exact absurd hj (tail_waitsF hs hc hn inv hfl _ i rfl hin hun j h)
    refine ⟨hjn, ?_⟩
    by_cases hji : j = i
    · subst hji; exact hy.qOp hi H
    · have := hdone _ _ H j (ready_mono hj hji)
      omega
  | succ f ih =>
    intro listed a inv hfl hfree hr hy H
    have hun := (mem_ready.1 hr).1
    refine ⟨fun h => (by rw [h] at hr; cases hr), fun j hj => ?_⟩
    have hjn : j < n := by
      rcases Nat.lt_or_ge j n with h | h
      · exact h
      · exact absurd hj (tail_waitsF hs hc hn inv hfl _ i rfl hin hun j h)
    refine ⟨hjn, ?_⟩
    by_cases hji : j = i
    · subst hji; exact hy.qOp hi H
    · have h1 := (H.2 j (ready_mono hj hji)).2
      obtain ⟨hjun, oj, hoj, hall⟩ := mem_ready.1 hj
      have hnot : ∀ e ∈ oj.after, Region.binds md e = true → e.on ≠ i := fun e he hb heq => by
        have h1 := hall e he hb
        rw [heq, getD_both hun] at h1
        cases h1
      have h2 := qOp_put hoj (hfree j oj hoj hji hjun hnot) (fun cs b => hsel i oi cs b hi) (fun cs b => hsel j oj cs b hoj) hy h1
      have hfree' : ∀ k ok, ops[k]? = some ok → k ≠ i → (listed.setIfInBounds j true).getD k true = false →
          (∀ e ∈ ok.after, Region.binds md e = true → e.on ≠ i) → oi.apart ops ok = true := fun k ok hk hki hun hno => by
        refine hfree k ok hk hki ?_ hno
        by_cases hjk : j = k
        · subst hjk; exact hjun
        · rw [getD_set_ne true hjk] at hun; exact hun
      refine qOp_mono (fun a' h3 => ih (listed.setIfInBounds j true) a' (inv.set hj hjn) (set_keeps hfl j) hfree' (ready_mono hr (Ne.symm hji)) h3.1 ?_) h2
      rw [Array.setIfInBounds_comm _ _ hji]
      exact h3.2
/-- The head's operations in their order, then the tail's. -/
def headB (md : Region.Mode) (ops : Array Oper) (g n : Nat) : List Nat → Array Bool → Bool
  | [], listed => Region.seqB md ops g n listed
  | k :: ks, listed => (Region.ready md ops listed).contains k && Region.free md ops listed k && decide (k < n) && headB md ops g n ks (listed.setIfInBounds k true)
theorem head_lex {fl : List Nat} {n g : Nat} {Lq : Act → Prop} (hsel : Region.noSelect ops = true) (hs : sinkF md ops fl n = true) (hc : Region.chainB md ops n = true) (hn : n < ops.size) :
    ∀ (ix : List Nat) (listed : Array Bool) (a : Act), HeadInv md ops n listed → (∀ i ∈ fl, listed.getD i true = true) →
    headB md ops g n ix listed = true → wpQuiet P ops C Lq (ix.filterMap fun i => ops[i]?) a →
    headAny P md ops C n (fun listed' a' => Region.seqB md ops g n listed' = true ∧ Lq a') ix.length listed a
  | [], listed, a, inv, hfl, hB, h => ⟨hB, h⟩
  | k :: ks, listed, a, inv, hfl, hB, h => by
    simp only [headB, Bool.and_eq_true, decide_eq_true_eq] at hB
    obtain ⟨⟨⟨hr, hf⟩, hkn⟩, hB'⟩ := hB
    have hr' : k ∈ Region.ready md ops listed := by simpa using hr
    obtain ⟨_, o, h0, _⟩ := mem_ready.1 hr'
    rw [List.filterMap_cons, h0] at h
    have hst : qOp P ops C k (wpQuiet P ops C Lq (ks.filterMap fun i => ops[i]?)) a := by unfold qOp; simp only [h0]; exact h
    obtain ⟨v, hy, hK⟩ := yieldsIn_of_qOp h0 hst
    exact head_first h0 (Region.noSelect_spec hsel) hs hc hn hkn (fun listed' a' hL => seqB_ready hL.1) ks.length listed a inv hfl (Region.free_spec h0 hf) hr' hy
      (head_lex hsel hs hc hn ks _ _ (inv.set hr' hkn) (set_keeps hfl k) hB' hK)
/-- The moves, each in its turn. -/
def floatB (md : Region.Mode) (ops : Array Oper) (n : Nat) (K : Array Bool → Bool) : List Nat → Array Bool → Bool
  | [], listed => K listed
  | k :: ks, listed => (Region.ready md ops listed).contains k && Region.free md ops listed k && decide (k < n) &&
    (match ops[k]? with | some o => (match o.op with | .move _ => o.guard.isNone | _ => false) | none => false) && floatB md ops n K ks (listed.setIfInBounds k true)
def floatPut (ops : Array Oper) : List Nat → Act → Act
  | [], a => a
  | k :: ks, a => floatPut ops ks (match ops[k]? with | some o => (match o.op with | .move x => a.put o.dst (a.eval x) | _ => a) | none => a)
theorem held_true {Q : Exit → Act → World → Prop} : ∀ (fuel : Nat) (listed : Array Bool) (a : Act) (w : World), wpAny P md ops Q fuel listed a w → wpAnyH P md ops Q (fun _ => True) fuel listed a w
  | 0, _, _, _, h => h
  | fuel + 1, _, _, _, h => ⟨h.1, fun i hi => wpOp_mono (fun a' w' h' => ⟨trivial, held_true fuel _ a' w' h'⟩) (h.2 i hi)⟩
theorem floats_first {Q : Exit → Act → World → Prop} {n : Nat} {K : Array Bool → Bool} (hsel : Region.noSelect ops = true) (hQ : ∀ c a d v w, Q (.panic c) (Act.put a d v) w → Q (.panic c) a w) (fuel : Nat) :
    ∀ (fl done : List Nat) (listed : Array Bool) (a : Act) (w : World), HeadInv md ops n listed → (∀ i ∈ done, listed.getD i true = true) → floatB md ops n K fl listed = true →
      (∀ listed', HeadInv md ops n listed' → (∀ i ∈ done ++ fl, listed'.getD i true = true) → K listed' = true → wpAny P md ops Q fuel listed' (floatPut ops fl a) w) →
      wpAnyH P md ops Q (fun _ => True) (fl.length + fuel) listed a w
  | [], done, listed, a, w, inv, hd, hB, h => by
    rw [List.length_nil, Nat.zero_add]
    exact held_true _ _ _ _ (h listed inv (by simpa using hd) hB)
  | k :: ks, done, listed, a, w, inv, hd, hB, h => by
    simp only [floatB, Bool.and_eq_true, decide_eq_true_eq] at hB
    obtain ⟨⟨⟨⟨hr, hf⟩, hkn⟩, hmv⟩, hB'⟩ := hB
    have hr' : k ∈ Region.ready md ops listed := by simpa using hr
    obtain ⟨hun, o, h0, _⟩ := mem_ready.1 hr'
    rw [h0] at hmv
    simp only [floatPut, h0] at h
    cases hop : o.op with
    | move x =>
      simp only [hop] at hmv h
      have hg : o.guard = none := by simpa using hmv
      have hy : YieldsIf P ops (fun _ => True) o (a.eval x) a := .inl ⟨by simp [Region.wanted, hg], fun w _ => by simp [execOp, hop, Sem.run_pure]⟩
      rw [show (k :: ks).length + fuel = (ks.length + fuel) + 1 by simp; omega]
      refine wpAnyH_take h0 hsel hf hr (fun c a w => hQ c a _ _ w) hy trivial ?_
      refine floats_first hsel hQ fuel ks (done ++ [k]) _ _ w (inv.set hr' hkn) (fun i hi => ?_) hB' (fun listed' i1 i2 i3 => h listed' i1 (by simpa using i2) i3)
      rw [List.mem_append] at hi
      rcases hi with hi | hi
      · exact set_keeps hd k i hi
      · obtain rfl : i = k := by simpa using hi
        rcases Nat.lt_or_ge i listed.size with h' | h'
        · simp [h']
        · simp [h']
    | _ => simp [hop] at hmv
def qtB (md : Region.Mode) (ops : Array Oper) (fl ix : List Nat) (n : Nat) : Bool :=
  Region.noSelect ops && decide (n < ops.size) && decide (fl.length + ix.length = n) && sinkF md ops fl n && Region.chainB md ops n &&
    floatB md ops n (fun listed => headB md ops (ops.size - n) n ix listed) fl (Array.replicate ops.size false)
end
/-- A REGION THAT DRAWS ITS ORDER: moves (fl) that may come at any time, a head (ix) quiet in a class of worlds, a tail from n on, in its one order. -/
theorem any_qt {P : Program} {Q : Exit → Act → World → Prop} {a : Act} {w : World} {l : List Oper} (C : World → Prop) (fl ix : List Nat) (n : Nat)
    (hB : qtB .any l.toArray fl ix n = true) (hQ : ∀ c a d v w, Q (.panic c) (Act.put a d v) w → Q (.panic c) a w) (hC : C w)
    (h : wpQuiet P l.toArray C (fun a' => ∀ w', C w' → wpList P l.toArray Q (l.drop n) a' w') (ix.filterMap fun i => l[i]?) (floatPut l.toArray fl a)) : wpAny P .any l.toArray Q l.toArray.size (Array.replicate l.toArray.size false) a w := by
  simp only [qtB, Bool.and_eq_true, decide_eq_true_eq] at hB
  obtain ⟨⟨⟨⟨⟨hsel, hn⟩, hlen⟩, hs⟩, hc⟩, hfl⟩ := hB
  have hn' : n < l.length := by simpa using hn
  have hdl : (l.drop n).length = l.toArray.size - n := by simp
  have inv0 : HeadInv .any l.toArray n (Array.replicate l.toArray.size false) :=
    ⟨by simp, fun j oj _ hl => (by rw [getD_replicate_false] at hl; cases hl), fun t _ ht => getD_in (by simpa using ht) (getD_replicate_false _ _)⟩
  have hsz : l.toArray.size = fl.length + (ix.length + (l.toArray.size - n)) := by omega
  have key := floats_first (P := P) (Q := Q) hsel hQ (ix.length + (l.toArray.size - n)) fl [] _ a w inv0 (fun i hi => by cases hi) hfl (fun listed' i1 i2 i3 => by
    have H := head_lex (P := P) (C := C) (md := .any) (g := l.toArray.size - n) hsel hs hc hn ix listed' (floatPut l.toArray fl a) i1 (by simpa using i2) i3 (by simpa using h)
    exact any_of_head (Q' := Q) (g := l.toArray.size - n) (fun listed a' w' hw' hL => by
      have := wpAny_of_seq (md := .any) (Q' := Q) (l.drop n) n listed a' w' (fun j => by simp [List.getElem?_drop]) (by rw [hdl]; exact hL.1) (hL.2 w' hw')
      rwa [hdl] at this) _ _ _ _ hC H)
  rw [← hsz] at key
  exact wpAny_of_held _ _ _ _ key
theorem region_qt {P : Program} {id : Nat} {Q : Exit → Act → World → Prop} {a : Act} {w : World} {l : List Oper} (C : World → Prop) (fl ix : List Nat) (n : Nat) (hm : P.follows .mixedOrders = true)
    (hB : qtB .any l.toArray fl ix n = true) (hQ : ∀ c a d v w, Q (.panic c) (Act.put a d v) w → Q (.panic c) a w) (hC : C w.drew)
    (h : wpQuiet P l.toArray C (fun a' => ∀ w', C w' → wpList P l.toArray Q (l.drop n) a' w') (ix.filterMap fun i => l[i]?) (floatPut l.toArray fl a)) : (Code.region id l.toArray true).wp P Q a w :=
  wp_region_any hm (any_qt C fl ix n hB hQ hC h)
def movesB (ops : Array Oper) (fl : List Nat) : Bool := fl.all fun k => match ops[k]? with | some o => (match o.op with | .move _ => o.guard.isNone | _ => false) | none => false
theorem quiet_float {P : Program} {ops : Array Oper} {K : Act → Prop} : ∀ (fl : List Nat) (a : Act), movesB ops fl = true → wpQuiet P ops (fun _ => True) K (fl.filterMap fun i => ops[i]?) a → K (floatPut ops fl a)
  | [], a, _, h => h
  | k :: ks, a, hm, h => by
    simp only [movesB, List.all_cons, Bool.and_eq_true] at hm
    obtain ⟨hk, hks⟩ := hm
    cases h0 : ops[k]? with
    | none => simp [h0] at hk
    | some o =>
      simp only [h0] at hk
      rw [List.filterMap_cons, h0] at h
      simp only [floatPut, h0]
      cases hop : o.op with
      | move x =>
        simp only [hop] at hk
        have hg : o.guard = none := by simpa using hk
        have hw : Region.wanted o (yielded ops a.tmps) = true := by simp [Region.wanted, hg]
        have h' : (if Region.wanted o (yielded ops a.tmps) = true then o.quiet P a (fun _ => True) (wpQuiet P ops (fun _ => True) K (ks.filterMap fun i => ops[i]?)) else wpQuiet P ops (fun _ => True) K (ks.filterMap fun i => ops[i]?) (a.put o.dst undef)) := h
        rw [if_pos hw] at h'
        obtain ⟨v, h1, h2⟩ := h'
        have h3 := h1 default trivial
        have hr : (execOp a.eval o).run P default = .ok (.value (a.eval x)) default := by simp [execOp, hop, Sem.run_pure]
        unfold Oper.quietAt at h3
        rw [hr] at h3
        obtain ⟨_, he⟩ : (default : World) = default ∧ a.eval x = v := h3
        show K (floatPut ops ks (a.put o.dst (a.eval x)))
        rw [he]
        exact quiet_float ks _ (by simpa [movesB] using hks) h2
      | _ => simp [hop] at hk
theorem any_qf {P : Program} {Q : Exit → Act → World → Prop} {a : Act} {w : World} {l : List Oper} (C : World → Prop) (fl ix : List Nat) (n : Nat)
    (hB : (movesB l.toArray fl && qtB .any l.toArray fl ix n) = true) (hQ : ∀ c a d v w, Q (.panic c) (Act.put a d v) w → Q (.panic c) a w) (hC : C w)
    (h : wpQuiet P l.toArray (fun _ => True) (fun a' => wpQuiet P l.toArray C (fun a' => ∀ w', C w' → wpList P l.toArray Q (l.drop n) a' w') (ix.filterMap fun i => l[i]?) a') (fl.filterMap fun i => l[i]?) a) : wpAny P .any l.toArray Q l.toArray.size (Array.replicate l.toArray.size false) a w := by
  rw [Bool.and_eq_true] at hB
  refine any_qt C fl ix n hB.2 hQ hC ?_
  exact quiet_float (K := fun a' => wpQuiet P l.toArray C (fun a' => ∀ w', C w' → wpList P l.toArray Q (l.drop n) a' w') (ix.filterMap fun i => l[i]?) a') fl a hB.1 (by simpa using h)
theorem pick_range {α : Type} (l : List α) : ∀ (m k : Nat), (List.range' k m).filterMap (fun i => l[i]?) = (l.drop k).take m
  | 0, k => by simp
  | m + 1, k => by
    rw [List.range'_succ, List.filterMap_cons]
    by_cases h : k < l.length
    · rw [List.getElem?_eq_getElem h, List.drop_eq_getElem_cons h, List.take_succ_cons]
      simp only
      rw [pick_range l m (k + 1)]
    · rw [List.getElem?_eq_none (by omega)]
      simp only
      rw [pick_range l m (k + 1), List.drop_eq_nil_of_le (by omega), List.drop_eq_nil_of_le (by omega)]
      simp
/-- THE REGION, its first k operations moves that may come late, the next m the head; the head's class: the world behind some draws. -/
theorem region_qd {P : Program} {id : Nat} {Q : Exit → Act → World → Prop} {a : Act} {w : World} {l : List Oper} (k m : Nat) (hm : P.follows .mixedOrders = true)
    (hB : (movesB l.toArray (List.range' 0 k) && qtB .any l.toArray (List.range' 0 k) (List.range' k m) (k + m)) = true) (hQ : ∀ c a d v w, Q (.panic c) (Act.put a d v) w → Q (.panic c) a w)
    (h : wpQuiet P l.toArray (fun _ => True) (fun a' => wpQuiet P l.toArray (fun w' => ∃ n, w' = w.drewN n) (fun a' => ∀ w', (∃ n, w' = w.drewN n) → wpList P l.toArray Q (l.drop (k + m)) a' w') ((l.drop k).take m) a') (l.take k) a) : (Code.region id l.toArray true).wp P Q a w :=
  wp_region_any hm (any_qf (fun w' => ∃ n, w' = w.drewN n) _ _ (k + m) hB hQ ⟨1, rfl⟩ (by rw [pick_range, pick_range]; exact h))
/-- The same, the head's class: the worlds f x. -/
theorem region_qo {P : Program} {id : Nat} {Q : Exit → Act → World → Prop} {a : Act} {w : World} {l : List Oper} {T : Type} (f : T → World) (k m : Nat) (hm : P.follows .mixedOrders = true)
    (hB : (movesB l.toArray (List.range' 0 k) && qtB .any l.toArray (List.range' 0 k) (List.range' k m) (k + m)) = true) (hQ : ∀ c a d v w, Q (.panic c) (Act.put a d v) w → Q (.panic c) a w) (x0 : T) (h0 : f x0 = { w with drawn := w.drawn + 1 })
    (h : wpQuiet P l.toArray (fun _ => True) (fun a' => wpQuiet P l.toArray (fun w' => ∃ x, w' = f x) (fun a' => ∀ w', (∃ x, w' = f x) → wpList P l.toArray Q (l.drop (k + m)) a' w') ((l.drop k).take m) a') (l.take k) a) : (Code.region id l.toArray true).wp P Q a w :=
  wp_region_any hm (any_qf (fun w' => ∃ x, w' = f x) _ _ (k + m) hB hQ ⟨x0, h0.symm⟩ (by rw [pick_range, pick_range]; exact h))
/-- As region_qd, region_qo, for the bare orders (a region in a round: region_in). -/
theorem any_qd {P : Program} {Q : Exit → Act → World → Prop} {a : Act} {w : World} {l : List Oper} (k m : Nat)
    (hB : (movesB l.toArray (List.range' 0 k) && qtB .any l.toArray (List.range' 0 k) (List.range' k m) (k + m)) = true) (hQ : ∀ c a d v w, Q (.panic c) (Act.put a d v) w → Q (.panic c) a w)
    (h : wpQuiet P l.toArray (fun _ => True) (fun a' => wpQuiet P l.toArray (fun w' => ∃ n, w' = w.drewN n) (fun a' => ∀ w', (∃ n, w' = w.drewN n) → wpList P l.toArray Q (l.drop (k + m)) a' w') ((l.drop k).take m) a') (l.take k) a) : wpAny P .any l.toArray Q l.toArray.size (Array.replicate l.toArray.size false) a w :=
  any_qf (fun w' => ∃ n, w' = w.drewN n) _ _ (k + m) hB hQ ⟨0, rfl⟩ (by rw [pick_range, pick_range]; exact h)
theorem any_qo {P : Program} {Q : Exit → Act → World → Prop} {a : Act} {w : World} {l : List Oper} {T : Type} (f : T → World) (k m : Nat)
    (hB : (movesB l.toArray (List.range' 0 k) && qtB .any l.toArray (List.range' 0 k) (List.range' k m) (k + m)) = true) (hQ : ∀ c a d v w, Q (.panic c) (Act.put a d v) w → Q (.panic c) a w) (x0 : T) (h0 : f x0 = w)
    (h : wpQuiet P l.toArray (fun _ => True) (fun a' => wpQuiet P l.toArray (fun w' => ∃ x, w' = f x) (fun a' => ∀ w', (∃ x, w' = f x) → wpList P l.toArray Q (l.drop (k + m)) a' w') ((l.drop k).take m) a') (l.take k) a) : wpAny P .any l.toArray Q l.toArray.size (Array.replicate l.toArray.size false) a w :=
  any_qf (fun w' => ∃ x, w' = f x) _ _ (k + m) hB hQ ⟨x0, h0.symm⟩ (by rw [pick_range, pick_range]; exact h)
end Go.Proofs.YtkdcfijebgeajaaGreat

namespace Go.Proofs.YtkdcfijebgeajaaGreat
open Go.RowKit Go.BigFrame
/-- A region that draws: n operations that read, and a tail in one order. -/
theorem region_tail {P : Program} {id : Nat} {Q : Exit → Act → World → Prop} {a : Act} {w : World} {l : List Oper} (n : Nat) (hm : P.follows .mixedOrders = true) (hB : Region.lexTailB .any l.toArray n = true)
    (h : wpStill P l.toArray w.drew (fun a' => wpList P l.toArray Q (l.drop n) a' w.drew) (l.take n) a) : (Code.region id l.toArray true).wp P Q a w :=
  wp_region_still_tail n hm hB h
/-- A block's cells, each by its place. -/
theorem cell_row {W : World} {b : Nat} {c : Array Value} {t : TypeId} {f : Nat × Nat} (h : W.heap[b]? = some (.cells c t f)) (k : Nat) (v : Value) (hv : c.toList[k]? = some v) : W.cell? ⟨b, k, none⟩ = some v := by
  rw [cell_of_row _ _ k _ _ _ h]; simpa using hv
theorem free_row {W : World} {b : Nat} {c : Array Value} {t : TypeId} (h : W.heap[b]? = some (.cells c t (0, 0))) (j : Nat) : W.frozen? ⟨b, j, none⟩ = false := by
  unfold World.frozen?; rw [h]; simp
theorem lt_row {W : World} {b : Nat} {o : Obj} (h : W.heap[b]? = some o) : b < W.heap.size := (Array.getElem?_eq_some_iff.1 h).1
theorem row_4 {W : World} {b : Nat} {k0 k1 k2 k3 : Value} {t : TypeId} (h : W.heap[b]? = some (.cells #[k0, k1, k2, k3] t (0, 0))) :
    W.cell? ⟨b, 0, none⟩ = some k0 ∧ W.cell? ⟨b, 1, none⟩ = some k1 ∧ W.cell? ⟨b, 2, none⟩ = some k2 ∧ W.cell? ⟨b, 3, none⟩ = some k3 ∧ ∀ j, W.frozen? ⟨b, j, none⟩ = false :=
  ⟨cell_row h 0 _ rfl, cell_row h 1 _ rfl, cell_row h 2 _ rfl, cell_row h 3 _ rfl, free_row h⟩
theorem row_9 {W : World} {b : Nat} {k0 k1 k2 k3 k4 k5 k6 k7 k8 : Value} {t : TypeId} (h : W.heap[b]? = some (.cells #[k0, k1, k2, k3, k4, k5, k6, k7, k8] t (0, 0))) :
    W.cell? ⟨b, 0, none⟩ = some k0 ∧ W.cell? ⟨b, 1, none⟩ = some k1 ∧ W.cell? ⟨b, 2, none⟩ = some k2 ∧ W.cell? ⟨b, 3, none⟩ = some k3 ∧ W.cell? ⟨b, 4, none⟩ = some k4 ∧ W.cell? ⟨b, 5, none⟩ = some k5 ∧ W.cell? ⟨b, 6, none⟩ = some k6 ∧ W.cell? ⟨b, 7, none⟩ = some k7 ∧ W.cell? ⟨b, 8, none⟩ = some k8 ∧ ∀ j, W.frozen? ⟨b, j, none⟩ = false :=
  ⟨cell_row h 0 _ rfl, cell_row h 1 _ rfl, cell_row h 2 _ rfl, cell_row h 3 _ rfl, cell_row h 4 _ rfl, cell_row h 5 _ rfl, cell_row h 6 _ rfl, cell_row h 7 _ rfl, cell_row h 8 _ rfl, free_row h⟩
end Go.Proofs.YtkdcfijebgeajaaGreat

namespace Go.Proofs.YtkdcfijebgeajaaGreat
open Go.RowKit Go.BigFrame
set_option linter.unusedVariables false
set_option linter.unusedSimpArgs false
/-- A layout's numbers. -/
structure Lv where
  th : Int
  sl : Int
  lo : Int
  bu : Int
  pt : Int
  pl : Int
  ls : Int
  ps : Int
  ln : Int
structure Lv.Ok (v : Lv) : Prop where
  th0 : 0 ≤ v.th
  th1 : v.th ≤ 64
  sl0 : 0 ≤ v.sl
  sl1 : v.sl ≤ 65536
  lo0 : 0 ≤ v.lo
  lo1 : v.lo ≤ 64
  bu0 : 0 ≤ v.bu
  bu1 : v.bu ≤ 64
  pt0 : 0 ≤ v.pt
  pt1 : v.pt ≤ 100
  pl0 : 0 ≤ v.pl
  pl1 : v.pl ≤ 200
  ls0 : 0 ≤ v.ls
  ls1 : v.ls ≤ 8
  ps0 : 0 ≤ v.ps
  ps1 : v.ps ≤ 1000
  ln0 : 0 ≤ v.ln
  ln1 : v.ln ≤ 100000
/-- A layout in memory. -/
structure LayAt (W : World) (l : Nat) (v : Lv) : Prop where
  row : W.heap[l]? = some (.cells #[.int .i64 v.th, .int .i64 v.sl, .int .i64 v.lo, .int .i64 v.bu, .int .i64 v.pt, .int .i64 v.pl, .int .i64 v.ls, .int .i64 v.ps, .int .i64 v.ln] 154 (0, 0))
  ok : v.Ok
theorem LayAt.lt {W : World} {l : Nat} {v : Lv} (h : LayAt W l v) : l < W.heap.size := (Array.getElem?_eq_some_iff.1 h.row).1
theorem LayAt.keep {W W' : World} {l : Nat} {v : Lv} (h : LayAt W l v) (e : W'.heap[l]? = W.heap[l]?) : LayAt W' l v := ⟨e.trans h.row, h.ok⟩
theorem LayAt.below {W W' : World} {l B : Nat} {v : Lv} (h : LayAt W l v) (hb : Below B W W') (hB : l < B) : LayAt W' l v := h.keep (hb.block l hB)

theorem config70 (l : Nat) (v : Lv) (w : World) (h : LayAt w l v) : Calls Tryz.prog 28 #[.pointer (some ⟨l, 0, none⟩)] w (Gives (.agg #[.int .i64 v.th, .int .i64 v.sl, .int .i64 v.lo, .int .i64 v.bu]) w) := by
  have hl := h.lt
  have hne : l ≠ w.heap.size := by omega
  have hne2 : w.heap.size ≠ l := by omega
  obtain ⟨l0, l1, l2, l3, l4, l5, l6, l7, l8, lf⟩ := row_9 h.row
  obtain ⟨th, sl, lo, bu, pt, pl, ls, ps, ln⟩ := v
  obtain ⟨th0, th1, sl0, sl1, lo0, lo1, bu0, bu1, pt0, pt1, pl0, pl1, ls0, ls1, ps0, ps1, ln0, ln1⟩ := h.ok
  simp only at *
  clear h
  go_enter Tryz.func28, Tryz.ntmps28
  go_wp2_with fail
  have hh := heap_alloc_new w (.cells #[.int .i64 th, .int .i64 sl, .int .i64 lo, .int .i64 bu] 23)
  have z0 := cell_of_row _ _ 0 _ _ _ hh
  have z1 := cell_of_row _ _ 1 _ _ _ hh
  have z2 := cell_of_row _ _ 2 _ _ _ hh
  have z3 := cell_of_row _ _ 3 _ _ _ hh
  refine bodyPost_ret (v := .agg #[.int .i64 th, .int .i64 sl, .int .i64 lo, .int .i64 bu]) (by simp [results, Tryz.results28, go_sem, z0, z1, z2, z3]) rfl ⟨rfl, (Below.refl _ _).alloc (Nat.le_refl _) _⟩
theorem lines80 (l : Nat) (v : Lv) (w : World) (h : LayAt w l v) : Calls Tryz.prog 56 #[.pointer (some ⟨l, 0, none⟩)] w (Says (.int .i64 v.ln) w) := by
  have hl := h.lt
  have hne : l ≠ w.heap.size := by omega
  have hne2 : w.heap.size ≠ l := by omega
  obtain ⟨l0, l1, l2, l3, l4, l5, l6, l7, l8, lf⟩ := row_9 h.row
  obtain ⟨th, sl, lo, bu, pt, pl, ls, ps, ln⟩ := v
  obtain ⟨th0, th1, sl0, sl1, lo0, lo1, bu0, bu1, pt0, pt1, pl0, pl1, ls0, ls1, ps0, ps1, ln0, ln1⟩ := h.ok
  simp only at *
  clear h
  go_enter Tryz.func56, Tryz.ntmps56
  go_wp2_with fail
  go_ret
  exact ⟨rfl, rfl⟩
theorem line131 (l : Nat) (n : Int) (h0 : 0 ≤ n) (h1 : n ≤ 1000000) (w : World) : Calls Tryz.prog 145 #[.pointer (some ⟨l, 0, none⟩), .int .i64 n] w (Says (.int .i64 (n * 8)) w) := by
  go_enter Tryz.func145, Tryz.ntmps145
  go_wp2_with fail
  go_ret
  exact ⟨rfl, rfl⟩

theorem head69 (l : Nat) (w : World) : Calls Tryz.prog 75 #[.pointer (some ⟨l, 0, none⟩)] w (Says (.int .i64 16) w) := by
  have HL := Lib.hid fun w => line131 l 2 (by omega) (by omega) w
  go_enter Tryz.func75, Tryz.ntmps75
  go_wp2_with fail
  refine (HL.out _).mono ?_
  rintro e w1 ⟨rfl, rfl⟩
  go_wp2_with fail
  go_ret
  exact ⟨rfl, rfl⟩
theorem set133 (l : Nat) (w : World) : Calls Tryz.prog 120 #[.pointer (some ⟨l, 0, none⟩)] w (Says (.int .i64 32) w) := by
  have HL := Lib.hid fun w => line131 l 4 (by omega) (by omega) w
  go_enter Tryz.func120, Tryz.ntmps120
  go_wp2_with fail
  refine (HL.out _).mono ?_
  rintro e w1 ⟨rfl, rfl⟩
  go_wp2_with fail
  go_ret
  exact ⟨rfl, rfl⟩
theorem tail160 (l : Nat) (w : World) : Calls Tryz.prog 76 #[.pointer (some ⟨l, 0, none⟩)] w (Says (.int .i64 24) w) := by
  have HL := Lib.hid fun w => line131 l 3 (by omega) (by omega) w
  go_enter Tryz.func76, Tryz.ntmps76
  go_wp2_with fail
  refine (HL.out _).mono ?_
  rintro e w1 ⟨rfl, rfl⟩
  go_wp2_with fail
  go_ret
  exact ⟨rfl, rfl⟩
def hasB (n m : Int) : Bool := decide (0 ≤ n ∧ n < m)
theorem has223 (n m : Int) (w : World) : Calls Tryz.prog 175 #[.int .i64 n, .int .i64 m] w (Says (.bool (hasB n m)) w) := by
  by_cases h : 0 ≤ n
  · have d1 : decide (0 ≤ n) = true := bool_yes h
    have e : hasB n m = decide (n < m) := by simp [hasB, h]
    rw [e]
    go_enter Tryz.func175, Tryz.ntmps175
    go_wp2_with fail
    go_ret
    exact ⟨rfl, rfl⟩
  · have d1 : decide (0 ≤ n) = false := bool_no h
    have e : hasB n m = false := by simp [hasB, h]
    rw [e]
    go_enter Tryz.func175, Tryz.ntmps175
    go_wp2_with fail
    go_ret
    exact ⟨rfl, rfl⟩
/-- A line's word, or that behind all. -/
def Lv.word (v : Lv) (n many first size at_ : Int) : Int := if hasB n many then (first + size * n) * 8 + at_ else v.ln * 8
theorem word229_yes (l : Nat) (v : Lv) (n many first size at_ : Int) (hh : hasB n many = true) (hm : many ≤ 100000) (f0 : 0 ≤ first) (f1 : first ≤ 100000) (s0 : 0 ≤ size) (s1 : size ≤ 8) (a0 : 0 ≤ at_) (a1 : at_ ≤ 100) (w : World) (h : LayAt w l v) :
    Calls Tryz.prog 177 #[.pointer (some ⟨l, 0, none⟩), .int .i64 n, .int .i64 many, .int .i64 first, .int .i64 size, .int .i64 at_] w (Says (.int .i64 ((first + size * n) * 8 + at_)) w) := by
  have HH : Hid (∀ w, Calls Tryz.prog 175 #[.int .i64 n, .int .i64 many] w (Says (.bool true) w)) := Lib.hid fun w => by rw [← hh]; exact has223 n many w
  have hn : 0 ≤ n ∧ n < many := by simpa [hasB] using hh
  obtain ⟨n0, n1⟩ := hn
  have m0 : 0 ≤ size * n := Int.mul_nonneg s0 n0
  have m1 : size * n ≤ 800000 := by
    have := Int.mul_le_mul s1 (show n ≤ 100000 by omega) n0 (by omega)
    omega
  clear hh h
  go_enter Tryz.func177, Tryz.ntmps177
  go_wp2_with fail
  refine (HH.out _).mono ?_
  rintro e w1 ⟨rfl, rfl⟩
  go_wp2_with fail
  go_ret
  exact ⟨rfl, rfl⟩
theorem word229_no (l : Nat) (v : Lv) (n many first size at_ : Int) (hh : hasB n many = false) (w : World) (h : LayAt w l v) :
    Calls Tryz.prog 177 #[.pointer (some ⟨l, 0, none⟩), .int .i64 n, .int .i64 many, .int .i64 first, .int .i64 size, .int .i64 at_] w (Says (.int .i64 (v.ln * 8)) w) := by
  have HH : Hid (∀ w, Calls Tryz.prog 175 #[.int .i64 n, .int .i64 many] w (Says (.bool false) w)) := Lib.hid fun w => by rw [← hh]; exact has223 n many w
  have HL := Lib.hid (lines80 l v w h)
  obtain ⟨n0, n1⟩ := (show 0 ≤ v.ln ∧ v.ln ≤ 100000 from ⟨h.ok.ln0, h.ok.ln1⟩)
  clear hh h
  generalize v.ln = ln at *
  go_enter Tryz.func177, Tryz.ntmps177
  go_wp2_with fail
  refine (HH.out _).mono ?_
  rintro e w1 ⟨rfl, rfl⟩
  go_wp2_with fail
  refine (HL.out).mono ?_
  rintro e w1 ⟨rfl, rfl⟩
  go_wp2_with fail
  go_ret
  exact ⟨rfl, rfl⟩
theorem word229 (l : Nat) (v : Lv) (n many first size at_ : Int) (hm : many ≤ 100000) (f0 : 0 ≤ first) (f1 : first ≤ 100000) (s0 : 0 ≤ size) (s1 : size ≤ 8) (a0 : 0 ≤ at_) (a1 : at_ ≤ 100) (w : World) (h : LayAt w l v) :
    Calls Tryz.prog 177 #[.pointer (some ⟨l, 0, none⟩), .int .i64 n, .int .i64 many, .int .i64 first, .int .i64 size, .int .i64 at_] w (Says (.int .i64 (v.word n many first size at_)) w) := by
  unfold Lv.word
  cases hh : hasB n many with
  | true => exact word229_yes l v n many first size at_ hh hm f0 f1 s0 s1 a0 a1 w h
  | false => exact word229_no l v n many first size at_ hh w h
def Lv.slot (v : Lv) (s at_ : Int) : Int := v.word s v.sl v.ps 1 at_
theorem slot141 (l : Nat) (v : Lv) (s at_ : Int) (a0 : 0 ≤ at_) (a1 : at_ ≤ 100) (w : World) (h : LayAt w l v) :
    Calls Tryz.prog 123 #[.pointer (some ⟨l, 0, none⟩), .int .i64 s, .int .i64 at_] w (Drew (.int .i64 (v.slot s at_)) w) := by
  have HW : Hid (∀ w, LayAt w l v → Calls Tryz.prog 177 #[.pointer (some ⟨l, 0, none⟩), .int .i64 s, .int .i64 v.sl, .int .i64 v.ps, .int .i64 1, .int .i64 at_] w (Says (.int .i64 (v.slot s at_)) w)) := Lib.hid fun w h =>
    word229 l v s v.sl v.ps 1 at_ (by have := h.ok.sl1; omega) h.ok.ps0 (by have := h.ok.ps1; omega) (by omega) (by omega) a0 a1 w h
  have HL := Lib.hid h
  obtain ⟨l0, l1, l2, l3, l4, l5, l6, l7, l8, lf⟩ := row_9 h.row
  clear h
  generalize v.slot s at_ = r at *
  generalize v.sl = sl at *
  generalize v.ps = ps at *
  go_enter Tryz.func123, Tryz.ntmps123
  go_wp2_with fail
  go_quiet ((go_at_call 177; exact Calls.quiet_of_same (HW.out _ (HL.out.keep rfl))))
  go_wp2_with fail
  go_ret
  exact ⟨rfl, _, rfl⟩

theorem key75 (l : Nat) (v : Lv) (s : Int) (w : World) (h : LayAt w l v) : Calls Tryz.prog 60 #[.pointer (some ⟨l, 0, none⟩), .int .i64 s] w (Drew (.int .i64 (v.slot s 1)) w) := by
  have HS := Lib.hid (slot141 l v s 1 (by omega) (by omega) w h)
  clear h
  go_enter Tryz.func60, Tryz.ntmps60
  go_wp2_with fail
  refine HS.out.mono ?_
  rintro e w1 ⟨rfl, n, rfl⟩
  go_wp2_with fail
  go_ret
  exact ⟨rfl, n, rfl⟩
theorem val77 (l : Nat) (v : Lv) (s : Int) (w : World) (h : LayAt w l v) : Calls Tryz.prog 61 #[.pointer (some ⟨l, 0, none⟩), .int .i64 s] w (Drew (.int .i64 (v.slot s 2)) w) := by
  have HS := Lib.hid (slot141 l v s 2 (by omega) (by omega) w h)
  clear h
  go_enter Tryz.func61, Tryz.ntmps61
  go_wp2_with fail
  refine HS.out.mono ?_
  rintro e w1 ⟨rfl, n, rfl⟩
  go_wp2_with fail
  go_ret
  exact ⟨rfl, n, rfl⟩
theorem next79 (l : Nat) (v : Lv) (s : Int) (w : World) (h : LayAt w l v) : Calls Tryz.prog 174 #[.pointer (some ⟨l, 0, none⟩), .int .i64 s] w (Drew (.int .i64 (v.slot s 3)) w) := by
  have HS := Lib.hid (slot141 l v s 3 (by omega) (by omega) w h)
  clear h
  go_enter Tryz.func174, Tryz.ntmps174
  go_wp2_with fail
  refine HS.out.mono ?_
  rintro e w1 ⟨rfl, n, rfl⟩
  go_wp2_with fail
  go_ret
  exact ⟨rfl, n, rfl⟩
theorem tag245 (l : Nat) (v : Lv) (s : Int) (w : World) (h : LayAt w l v) : Calls Tryz.prog 412 #[.pointer (some ⟨l, 0, none⟩), .int .i64 s] w (Drew (.int .i64 (v.slot s 4)) w) := by
  have HS := Lib.hid (slot141 l v s 4 (by omega) (by omega) w h)
  clear h
  go_enter Tryz.func412, Tryz.ntmps412
  go_wp2_with fail
  refine HS.out.mono ?_
  rintro e w1 ⟨rfl, n, rfl⟩
  go_wp2_with fail
  go_ret
  exact ⟨rfl, n, rfl⟩
theorem gen370 (l : Nat) (v : Lv) (s : Int) (w : World) (h : LayAt w l v) : Calls Tryz.prog 403 #[.pointer (some ⟨l, 0, none⟩), .int .i64 s] w (Drew (.int .i64 (v.slot s 0)) w) := by
  have HS := Lib.hid (slot141 l v s 0 (by omega) (by omega) w h)
  clear h
  go_enter Tryz.func403, Tryz.ntmps403
  go_wp2_with fail
  refine HS.out.mono ?_
  rintro e w1 ⟨rfl, n, rfl⟩
  go_wp2_with fail
  go_ret
  exact ⟨rfl, n, rfl⟩
end Go.Proofs.YtkdcfijebgeajaaGreat

namespace Go.Proofs.YtkdcfijebgeajaaGreat
open Go.RowKit Go.BigFrame
set_option linter.unusedVariables false
set_option linter.unusedSimpArgs false
/-- How many lines so many words take. -/
def linesI (n : Int) : Int := (n + 7) / 8
theorem linesOf121 (n : Int) (h0 : 0 ≤ n) (h1 : n ≤ 1000000) (w : World) : Calls Tryz.prog 105 #[.int .i64 n] w (Says (.int .i64 (linesI n)) w) := by
  have HC : Hid ((n + 8 - 1) / 8 = linesI n) := Lib.hid (by unfold linesI; omega)
  have HD : Hid ((n + 7) / 8 = linesI n) := Lib.hid rfl
  go_enter Tryz.func105, Tryz.ntmps105
  go_wp2_with fail
  go_ret
  exact ⟨ret_int (by first | exact HC.out | exact HD.out), rfl⟩
theorem cut120 (a n : Int) (b : Nat) (a0 : 0 ≤ a) (a1 : a ≤ 10000000) (n0 : 0 ≤ n) (n1 : n ≤ 10000000) (w : World) (h : w.cell? ⟨b, 0, none⟩ = some (.int .i64 a)) (hf : w.frozen? ⟨b, 0, none⟩ = false) :
    Calls Tryz.prog 104 #[.int .i64 n, .pointer (some ⟨b, 0, none⟩)] w fun e w' => e = .returned (.int .i64 a) ∧ w' = w.setCell ⟨b, 0, none⟩ (.int .i64 (a + n)) := by
  have HE : Hid (a + n - n = a) := Lib.hid (by omega)
  have hc := cell_set_at (.int .i64 (a + n)) h
  go_enter Tryz.func104, Tryz.ntmps104
  go_wp2_with fail
  go_ret
  exact ⟨ret_int (by first | rfl | exact HE.out | omega), rfl⟩
theorem But.below2 {p B : Nat} {w w' : World} (h : But p w w') (hp : B ≤ p) (hs : B ≤ w.heap.size) : Below B w w' := ⟨h.os, h.tape, h.output, h.size, fun k hk => h.block k (by omega) (by omega)⟩
theorem cut120p (a n : Int) (b : Nat) (a0 : 0 ≤ a) (a1 : a ≤ 10000000) (n0 : 0 ≤ n) (n1 : n ≤ 10000000) (w : World) (h : w.heap[b]? = some (.cells #[.int .i64 a] 3 (0, 0))) :
    Calls Tryz.prog 104 #[.int .i64 n, .pointer (some ⟨b, 0, none⟩)] w fun e w' => e = .returned (.int .i64 a) ∧ w'.heap[b]? = some (.cells #[.int .i64 (a + n)] 3 (0, 0)) ∧ But b w w' := by
  refine (cut120 a n b a0 a1 n0 n1 w (cell_row h 0 _ rfl) (free_row h 0)).mono ?_
  rintro e w' ⟨rfl, rfl⟩
  exact ⟨rfl, heap_set _ h, ⟨rfl, rfl, rfl, by simp [World.setCell], fun k _ hk => heap_set_other hk⟩⟩
def Cfg.lv (c : Cfg) : Lv :=
  { th := c.th, sl := c.sl, lo := c.lo, bu := c.bu, pt := 5 + linesI c.bu, pl := 5 + linesI c.bu + c.th, ls := linesI c.lo,
    ps := 5 + linesI c.bu + c.th + c.th * linesI c.lo, ln := 5 + linesI c.bu + c.th + c.th * linesI c.lo + c.sl }
theorem mul_bd (a b m n : Int) (a0 : 0 ≤ a) (a1 : a ≤ m) (b0 : 0 ≤ b) (b1 : b ≤ n) : 0 ≤ a * b ∧ a * b ≤ m * n :=
  ⟨Int.mul_nonneg a0 b0, Int.le_trans (Int.mul_le_mul_of_nonneg_right a1 b0) (Int.mul_le_mul_of_nonneg_left b1 (by omega))⟩
theorem Cfg.lv_ok (c : Cfg) (h : c.right) : c.lv.Ok := by
  obtain ⟨h1, h2, h3, h4, h5, h6, h7, h8⟩ := h
  have b0 : 0 ≤ linesI c.bu ∧ linesI c.bu ≤ 8 := by unfold linesI; omega
  have l0 : 0 ≤ linesI c.lo ∧ linesI c.lo ≤ 8 := by unfold linesI; omega
  have m := mul_bd c.th (linesI c.lo) 64 8 (by omega) h2 l0.1 l0.2
  unfold Cfg.lv
  constructor <;> simp only <;> omega
def OfTo (v : Lv) (W : World) (e : Ending) (W' : World) : Prop := ∃ l, e = .returned (.tuple #[.pointer (some ⟨l, 0, none⟩), .int .i64 0]) ∧ Below W.heap.size W W' ∧ W.heap.size ≤ l ∧ LayAt W' l v
set_option maxRecDepth 100000 in
set_option maxHeartbeats 1000000 in
theorem of58 (c : Cfg) (h : c.right) (w : World) : Calls Tryz.prog 49 #[.agg c.cells] w (OfTo c.lv w) := by
  have HR : Hid (∀ w, Calls Tryz.prog 85 #[.agg c.cells] w (BoolOn true w)) := Lib.hid fun w => by have := right_any c w; rw [bool_yes h] at this; exact this
  have HOK := Lib.hid (c.lv_ok h)
  obtain ⟨h1, h2, h3, h4, h5, h6, h7, h8⟩ := h
  have b0 : 0 ≤ linesI c.bu ∧ linesI c.bu ≤ 8 := by unfold linesI; omega
  have l0 : 0 ≤ linesI c.lo ∧ linesI c.lo ≤ 8 := by unfold linesI; omega
  have m := mul_bd c.th (linesI c.lo) 64 8 (by omega) h2 l0.1 l0.2
  have HB := Lib.hid fun w => linesOf121 c.bu (by omega) (by omega) w
  have HL := Lib.hid fun w => linesOf121 c.lo (by omega) (by omega) w
  unfold Cfg.lv at *
  obtain ⟨th, sl, lo, bu⟩ := c
  simp only [Cfg.cells] at *
  generalize linesI bu = nb at *
  generalize linesI lo = nl at *
  obtain ⟨b0, b1⟩ := b0
  obtain ⟨l0, l1⟩ := l0
  obtain ⟨m0, m1⟩ := m
  go_enter Tryz.func49, Tryz.ntmps49
  go_wp2_with fail
  refine (HR.out _).mono ?_
  rintro e w1 ⟨rfl, hb⟩
  have HB1 : Hid (Below w.heap.size w w1) := Lib.hid (((Below.refl _ _).alloc (Nat.le_refl _) _).trans (hb.mono (by simp)))
  have HS : Hid (w.heap.size < w1.heap.size) := Lib.hid (by have := hb.size; simp at this; omega)
  have HC : Hid (w1.heap[w.heap.size]? = some (.cells #[.int .i64 th, .int .i64 sl, .int .i64 lo, .int .i64 bu] 23)) := Lib.hid ((hb.block _ (by simp)).trans (heap_alloc_new w _))
  obtain ⟨c0, c1, c2, c3, cf⟩ := row_4 HC.out
  have hs := HS.out
  clear hb
  go_wp2_with fail
  refine (HB.out _).mono ?_
  rintro e w2 ⟨rfl, rfl⟩
  go_wp2_with fail
  refine (cut120 5 nb w1.heap.size (by omega) (by omega) b0 (by omega) _ (by simp) (by simp)).mono ?_
  rintro e w2 ⟨rfl, rfl⟩
  go_wp2_with fail
  refine region_tail 5 (by kernel_rfl) (by kernel_rfl) ?_
  simp only [List.take_succ_cons, List.take_zero, List.drop_succ_cons, List.drop_zero]
  still_step
  still_step
  still_step
  still_call (HL.out _)
  still_step
  refine wpStill_nil ?_
  go_wp2_with fail
  refine (cut120 (5 + nb) th w1.heap.size (by omega) (by omega) (by omega) (by omega) _ (by simp) (by simp)).mono ?_
  rintro e w2 ⟨rfl, rfl⟩
  go_wp2_with fail
  obtain ⟨W3, h3⟩ : ∃ W3, W3 = World.drew ((w1.alloc (.cells #[.int .i64 (5 + nb + th)] 3)).alloc (.cells #[.int .i64 th, .int .i64 sl, .int .i64 lo, .int .i64 bu, .int .i64 (5 + nb), .int .i64 0, .int .i64 nl, .int .i64 0, .int .i64 0] 154)) := ⟨_, rfl⟩
  rw [← h3]
  have e3 : W3.heap = ((w1.alloc (.cells #[.int .i64 (5 + nb + th)] 3)).alloc (.cells #[.int .i64 th, .int .i64 sl, .int .i64 lo, .int .i64 bu, .int .i64 (5 + nb), .int .i64 0, .int .i64 nl, .int .i64 0, .int .i64 0] 154)).heap := by rw [h3]; rfl
  have HA : Hid (W3.heap[w1.heap.size]? = some (.cells #[.int .i64 (5 + nb + th)] 3)) := Lib.hid (by rw [e3]; exact (two_new w1 _ _).1)
  have HL3 : Hid (W3.heap[w1.heap.size + 1]? = some (.cells #[.int .i64 th, .int .i64 sl, .int .i64 lo, .int .i64 bu, .int .i64 (5 + nb), .int .i64 0, .int .i64 nl, .int .i64 0, .int .i64 0] 154)) := Lib.hid (by rw [e3]; exact (two_new w1 _ _).2)
  have HC3 : Hid (W3.heap[w.heap.size]? = some (.cells #[.int .i64 th, .int .i64 sl, .int .i64 lo, .int .i64 bu] 23)) := Lib.hid (by rw [e3, Below.heap_alloc _ _ _ (by simp; omega), Below.heap_alloc _ _ _ hs]; exact HC.out)
  have HB3 : Hid (Below w.heap.size w W3) := Lib.hid (by rw [h3]; exact ((HB1.out.alloc HB1.out.size _).alloc (by have := HB1.out.size; simp; omega) _).drew)
  obtain ⟨A, hA⟩ : ∃ A, A = w1.heap.size := ⟨_, rfl⟩
  rw [← hA] at HA HL3 hs ⊢
  have hw : w.heap.size ≤ A := by omega
  have HWA : Hid (w.heap.size ≤ A) := Lib.hid hw
  clear h3 e3 c0 c1 c2 c3 cf HC HB1 HS hA
  obtain ⟨C, hC⟩ : ∃ C, C = w.heap.size := ⟨_, rfl⟩
  rw [← hC] at HC3 hs ⊢
  clear hC hw
  have q0 := cell_row HC3.out 0 _ rfl
  have q1 := cell_row HC3.out 1 _ rfl
  have q2 := cell_row HL3.out 2 _ rfl
  have q4 := cell_row HL3.out 4 _ rfl
  have q6 := cell_row HL3.out 6 _ rfl
  have q7 := cell_row HL3.out 7 _ rfl
  have q8 := cell_row HL3.out 8 _ rfl
  have qf := free_row HL3.out
  have hw2 : IntKind.i64.wrap (th * nl) = th * nl := IntWalk.i64_in _ (by omega)
  have hne : C ≠ A := by omega
  have hne2 : A ≠ C := by omega
  have HCUT := Lib.hid fun w h => cut120p (5 + nb + th) (th * nl) A (by omega) (by omega) m0 (by omega) w h
  have HAS : Hid (A + 1 < W3.heap.size) := Lib.hid (lt_row HL3.out)
  refine region_qd 1 8 (by kernel_rfl) (by kernel_rfl) (fun _ _ d _ _ h => by cases d <;> exact h) ?_
  simp only [List.take_succ_cons, List.take_zero, List.drop_succ_cons, List.drop_zero, Nat.reduceAdd]
  repeat (first | go_big_quiet_skip | (go_big_quiet_want; go_big_quiet_op; go_big_quiet_on))
  refine wpQuiet_nil ?_
  repeat (first | go_big_quiet_skip | (go_big_quiet_want; go_big_quiet_op; go_big_quiet_on))
  refine wpQuiet_nil ?_
  rintro _ ⟨k, rfl⟩
  go_wp2_with fail
  refine (HCUT.out _ (by exact HA.out)).mono ?_
  rintro e w2 ⟨rfl, ha2, hb2⟩
  have HA2 := Lib.hid ha2
  have HL4 := Lib.hid ((hb2.block (A + 1) HAS.out (by omega)).trans HL3.out)
  have HC4 := Lib.hid ((hb2.block C (by have := HAS.out; show C < W3.heap.size; omega) hne).trans HC3.out)
  have HB4 := Lib.hid ((drewN_below HB3.out k).trans (But.below2 hb2 HWA.out HB3.out.size))
  clear ha2 hb2 q0 q1 q2 q4 q6 q7 q8 qf hw2 HCUT HB3 HL3 HC3 HA
  have q1 := cell_row HC4.out 1 _ rfl
  have q2 := cell_row HL4.out 5 _ rfl
  have qf := free_row HL4.out
  go_wp2_with fail
  obtain ⟨W5, h5⟩ : ∃ W5, W5 = w2.setCell ⟨A + 1, 5, none⟩ (.int .i64 (5 + nb + th)) := ⟨_, rfl⟩
  rw [← h5]
  have HA5 : Hid (W5.heap[A]? = some (.cells #[.int .i64 (5 + nb + th + th * nl)] 3)) := Lib.hid (by rw [h5]; exact (heap_set_other (by omega)).trans HA2.out)
  have HL5 : Hid (W5.heap[A + 1]? = some (.cells #[.int .i64 th, .int .i64 sl, .int .i64 lo, .int .i64 bu, .int .i64 (5 + nb), .int .i64 (5 + nb + th), .int .i64 nl, .int .i64 0, .int .i64 0] 154)) := Lib.hid (by rw [h5]; exact heap_set _ HL4.out)
  have HB5 : Hid (Below w.heap.size w W5) := Lib.hid (by rw [h5]; exact HB4.out.setCell (by have := HWA.out; simp; omega) _)
  clear h5 q1 q2 qf HB4 HL4 HA2
  refine (cut120p (5 + nb + th + th * nl) sl A (by omega) (by omega) (by omega) (by omega) W5 HA5.out).mono ?_
  rintro e w6 ⟨rfl, ha6, hb6⟩
  have HA6 := Lib.hid ha6
  have HL6 := Lib.hid ((hb6.block (A + 1) (lt_row HL5.out) (by omega)).trans HL5.out)
  have HB6 := Lib.hid (HB5.out.trans (But.below2 hb6 HWA.out HB5.out.size))
  clear ha6 hb6 HB5 HL5 HA5
  have q0 := cell_row HA6.out 0 _ rfl
  have q7 := cell_row HL6.out 7 _ rfl
  have q8 := cell_row HL6.out 8 _ rfl
  have qf := free_row HL6.out
  go_wp2_with fail
  go_ret2
  refine ⟨A + 1, rfl, ?_, by have := HWA.out; omega, ⟨?_, HOK.out⟩⟩
  · exact (HB6.out.setCell (by have := HWA.out; simp; omega) _).setCell (by have := HWA.out; simp; omega) _
  · exact heap_set _ (heap_set _ HL6.out)

end Go.Proofs.YtkdcfijebgeajaaGreat
