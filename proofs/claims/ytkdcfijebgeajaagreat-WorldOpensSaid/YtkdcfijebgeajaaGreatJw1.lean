/- Small laws for walks that append to slices of their own. No program here.
   A region that draws its order: moves that may come late, a head whose operations are quiet in a class of worlds, and a tail in one order. No program here.
   A region that draws its order: as in G00, and loads that may come late: they wait for the operation behind one that makes memory. No program here.
   A region that draws, its last operation forced to be the last: walked without it. No program here.
   Layers 4, 7 (the device, the memory): the small functions.
   Layer 1 (bits): fields of words. -/
import Derived.WalkKit
import Derived.Lib.Hide
import Derived.BigQuiet
import Derived.StillTailTactics
import Derived.Deep.Quiet
import Derived.OrdersHeld
import Derived.Deep.RegionHeld3
import Derived.StillTail
import Derived.Test.YtkdcfijebgeajaaGreatProg
import Derived.ProofKit
import Derived.OpenShut
import Derived.Laws.Pointers
import Derived.RegionTactic
import Derived.BigRegion
import Derived.ChangeAlike
import Derived.Deep.RegionWith
import Derived.Deep.Cut
import Derived.Deep.CutRange
import Derived.Laws.BitsLemmas
import Derived.Laws.Bits64b
namespace Go.Proofs.YtkdcfijebgeajaaGreat
open Go.RowKit
theorem cell_alloc (w : World) (cs : Array Value) (e : TypeId) (j : Nat) (u : Value) (h : cs.toList[j]? = some u) : (w.alloc (.cells cs e)).cell? ((⟨w.heap.size, 0, none⟩ : Addr).add j) = some u := by
  have e1 : (⟨w.heap.size, 0, none⟩ : Addr).add j = ⟨w.heap.size, j, none⟩ := by rw [Addr.add_lit, Nat.zero_add]
  rw [e1, cell_of_row _ _ j cs e (0, 0) (heap_alloc_new w _)]
  simpa using h
theorem grownBy_trans {a b c : World} {r : Option Nat} (h : a.grownBy b r) (k : b.grownBy c r) : a.grownBy c r :=
  ⟨k.os.trans h.os, k.tape.trans h.tape, k.output.trans h.output, Nat.le_trans h.size k.size,
    fun i hi hr => (k.block i (Nat.lt_of_lt_of_le hi h.size) hr).trans (h.block i hi hr)⟩
theorem wpList_push {P : Program} {ops : Array Oper} {rest : List Oper} {o : Oper} {a : Act} {Q : Exit → Act → World → Prop} (hgd : o.guard = none) (s x : Operand) (t : TypeId)
    (ho : o.op = .call { callee := .builtin .append, args := #[s, x], argTypes := #[t, t] })
    (base : Nat) (e : TypeId) (i : TypeInfo) (z : Value) (size bytes : Nat) (ht : P.underlying t = some (.slice e)) (hi : P.info? e = some i) (hz : i.zero = some z)
    (hsize : i.size = size) (hby : i.bytes = bytes) (hzs : z.cells.size = size) (hsz : 0 < size)
    (wr : World) (hbase : base ≤ wr.heap.size) (v : Value) (n : Nat) (xs : List Value) (hs : a.eval s = v) (hown : wr.ownsRow base e size v n xs)
    (cs : Array Value) (m c : Nat) (hx : a.eval x = .slice (some ⟨wr.heap.size, 0, none⟩) m c) (hl : cs.size = m * size) (h1 : ∀ u ∈ cs.toList, u.oneCell' = true)
    (h63 : n + m ≤ maxLen) (hbytes : (n + m) * bytes ≤ 140737488355328)
    (h : ∀ v' w', w'.ownsRow base e size v' (n + m) (xs ++ cs.toList) → wr.grownBy w' v.ownBlock → (∀ B W, Below B W wr → B ≤ base → Below B W w') → (v' = .slice none 0 0 ↔ v = .slice none 0 0 ∧ m = 0) → wpList P ops Q rest (a.put o.dst v') w') :
    wpList P ops Q (o :: rest) a (wr.alloc (.cells cs e)) := by
  refine wpList_append_own _ hgd s x t ho base e i z size bytes ht hi hz hsize hby hzs hsz v n xs hs (hown.alloc _) ⟨wr.heap.size, 0, none⟩ m c cs.toList hx (by simpa using hl) (fun j u hj => cell_alloc wr cs e j u hj) h1 h63 hbytes (by simp; omega) ?_
  intro v' w' ho' hg' hn'
  refine h v' w' ho' (grownBy_trans (World.grownBy_alloc wr _ _) hg') (fun B W hb hB => ?_) hn'
  refine (hb.alloc (by omega) _).grown hg' (by simp; omega) (fun k hk => ?_)
  have := hown.lt k hk
  omega
end Go.Proofs.YtkdcfijebgeajaaGreat

namespace Go.Proofs.YtkdcfijebgeajaaGreat
set_option linter.unusedVariables false
section
variable {P : Program} {ops : Array Oper} {md : Region.Mode} {C : World → Prop}
def sinkF (md : Region.Mode) (ops : Array Oper) (fl : List Nat) (n : Nat) : Bool :=
  (List.range n).all fun i => fl.contains i || (List.range (n + 1)).any fun j => decide (i < j) && Region.waitsFor md ops j i
theorem tail_waitsF {fl : List Nat} {n : Nat} {listed : Array Bool} (hs : sinkF md ops fl n = true) (hc : Region.chainB md ops n = true) (hn : n < ops.size) (inv : HeadInv md ops n listed) (hf : ∀ i ∈ fl, listed.getD i true = true) :
    ∀ (d i : Nat), n - i = d → i < n → listed.getD i true = false → ∀ t, n ≤ t → t ∉ Region.ready md ops listed := by
  intro d
  induction d using Nat.strongRecOn with
  | _ d ih =>
    intro i hd hi hun t ht hr
    obtain ⟨_, ot, hot, hall⟩ := mem_ready.1 hr
    have htlt : t < ops.size := (Array.getElem?_eq_some_iff.1 hot).1
    by_cases htn : t = n
    · subst htn
      have h1 := List.all_eq_true.1 hs i (List.mem_range.2 hi)
      simp only [Bool.or_eq_true] at h1
      rcases h1 with h1 | h1
      · have := hf i (by simpa using h1)
        rw [hun] at this; cases this
      obtain ⟨j, hj, hj2⟩ := List.any_eq_true.1 h1
      simp only [Bool.and_eq_true, decide_eq_true_eq] at hj2
      obtain ⟨oj, hoj, e, he, hb, hon⟩ := Region.waitsFor_spec hj2.2
      have hjle : j ≤ t := by have := List.mem_range.1 hj; omega
      by_cases hjt : j = t
      · subst hjt
        obtain rfl : oj = ot := Option.some.inj (hoj.symm.trans hot)
        have h2 := hall e he hb
        rw [hon, getD_both hun] at h2
        cases h2
      · cases hl : listed.getD j false with
        | true =>
          have h2 := inv.closed j oj hoj hl e he hb
          rw [hon, getD_both hun] at h2
          cases h2
        | false => exact ih (t - j) (by omega) j rfl (by omega) (getD_in (by rw [inv.size]; omega) hl) t (Nat.le_refl _) hr
    · have h1 := List.all_eq_true.1 hc t (List.mem_range.2 htlt)
      simp only [Bool.or_eq_true, decide_eq_true_eq] at h1
      rcases h1 with h1 | h1
      · omega
      · obtain ⟨o', ho', e, he, hb, hon⟩ := Region.waitsFor_spec h1
        obtain rfl : o' = ot := Option.some.inj (ho'.symm.trans hot)
        have h2 := hall e he hb
        rw [hon, getD_both (inv.tail (t - 1) (by omega) (by omega))] at h2
        cases h2
def headAny (P : Program) (md : Region.Mode) (ops : Array Oper) (C : World → Prop) (n : Nat) (L : Array Bool → Act → Prop) : Nat → Array Bool → Act → Prop
  | 0, listed, a => L listed a
  | f + 1, listed, a => Region.ready md ops listed ≠ [] ∧ ∀ i ∈ Region.ready md ops listed, i < n ∧ qOp P ops C i (headAny P md ops C n L f (listed.setIfInBounds i true)) a
theorem any_of_head {n g : Nat} {L : Array Bool → Act → Prop} {Q' : Exit → Act → World → Prop} (hL : ∀ listed a w, C w → L listed a → wpAny P md ops Q' g listed a w) :
    ∀ (f : Nat) (listed : Array Bool) (a : Act) (w : World), C w → headAny P md ops C n L f listed a → wpAny P md ops Q' (f + g) listed a w
  | 0, listed, a, w, hw, h => by rw [Nat.zero_add]; exact hL _ _ _ hw h
  | f + 1, listed, a, w, hw, h => by
    rw [show f + 1 + g = (f + g) + 1 by omega]
    exact ⟨fun h0 => absurd h0 h.1, fun i hi => wpOp_of_qOp hw (fun a' w' hw' h' => any_of_head hL f _ a' w' hw' h') (h.2 i hi).2⟩
theorem set_keeps {listed : Array Bool} {fl : List Nat} (hf : ∀ i ∈ fl, listed.getD i true = true) (j : Nat) : ∀ i ∈ fl, (listed.setIfInBounds j true).getD i true = true := fun i hi => by
  by_cases h : j = i
  · subst h
    rcases Nat.lt_or_ge j listed.size with h' | h'
    · simp [h']
    · simp [h']
  · rw [getD_set_ne true h]; exact hf i hi
theorem head_first {fl : List Nat} {n i : Nat} {oi : Oper} {v : Value} {L : Array Bool → Act → Prop} (hi : ops[i]? = some oi) (hsel : ∀ (j : Nat) (o : Oper) cs b, ops[j]? = some o → o.op ≠ .select cs b)
    (hs : sinkF md ops fl n = true) (hc : Region.chainB md ops n = true) (hn : n < ops.size) (hin : i < n)
    (hdone : ∀ listed a, L listed a → ∀ j ∈ Region.ready md ops listed, n ≤ j) :
    ∀ (f : Nat) (listed : Array Bool) (a : Act), HeadInv md ops n listed → (∀ i ∈ fl, listed.getD i true = true) →
      (∀ j oj, ops[j]? = some oj → j ≠ i → listed.getD j true = false → (∀ e ∈ oj.after, Region.binds md e = true → e.on ≠ i) → oi.apart ops oj = true) →
      i ∈ Region.ready md ops listed → YieldsIn P ops C oi v a →
      headAny P md ops C n L f (listed.setIfInBounds i true) (a.put oi.dst v) → headAny P md ops C n L (f + 1) listed a := by
  intro f
  induction f with
  | zero =>
    intro listed a inv hfl _ hr hy H
    have hun := (mem_ready.1 hr).1
    refine ⟨fun h => (by rw [h] at hr; cases hr), fun j hj => ?_⟩
    have hjn : j < n := by
      rcases Nat.lt_or_ge j n with h | h
      · exact h
      · exact absurd hj (tail_waitsF hs hc hn inv hfl _ i rfl hin hun j h)
    refine ⟨hjn, ?_⟩
    by_cases hji : j = i
    · subst hji; exact hy.qOp hi H
    · have := hdone _ _ H j (ready_mono hj hji)
      omega
  | succ f ih =>
    intro listed a inv hfl hfree hr hy H
    have hun := (mem_ready.1 hr).1
    refine ⟨fun h => (by rw [h] at hr; cases hr), fun j hj => ?_⟩
    have hjn : j < n := by
      rcases Nat.lt_or_ge j n with h | h
      · exact h
      · exact absurd hj (tail_waitsF hs hc hn inv hfl _ i rfl hin hun j h)
    refine ⟨hjn, ?_⟩
    by_cases hji : j = i
    · subst hji; exact hy.qOp hi H
    · have h1 := (H.2 j (ready_mono hj hji)).2
      obtain ⟨hjun, oj, hoj, hall⟩ := mem_ready.1 hj
      have hnot : ∀ e ∈ oj.after, Region.binds md e = true → e.on ≠ i := fun e he hb heq => by
        have h1 := hall e he hb
        rw [heq, getD_both hun] at h1
        cases h1
      have h2 := qOp_put hoj (hfree j oj hoj hji hjun hnot) (fun cs b => hsel i oi cs b hi) (fun cs b => hsel j oj cs b hoj) hy h1
      have hfree' : ∀ k ok, ops[k]? = some ok → k ≠ i → (listed.setIfInBounds j true).getD k true = false →
          (∀ e ∈ ok.after, Region.binds md e = true → e.on ≠ i) → oi.apart ops ok = true := fun k ok hk hki hun hno => by
        refine hfree k ok hk hki ?_ hno
        by_cases hjk : j = k
        · subst hjk; exact hjun
        · rw [getD_set_ne true hjk] at hun; exact hun
      refine qOp_mono (fun a' h3 => ih (listed.setIfInBounds j true) a' (inv.set hj hjn) (set_keeps hfl j) hfree' (ready_mono hr (Ne.symm hji)) h3.1 ?_) h2
      rw [Array.setIfInBounds_comm _ _ hji]
      exact h3.2
def headB (md : Region.Mode) (ops : Array Oper) (g n : Nat) : List Nat → Array Bool → Bool
  | [], listed => Region.seqB md ops g n listed
  | k :: ks, listed => (Region.ready md ops listed).contains k && Region.free md ops listed k && decide (k < n) && headB md ops g n ks (listed.setIfInBounds k true)
theorem head_lex {fl : List Nat} {n g : Nat} {Lq : Act → Prop} (hsel : Region.noSelect ops = true) (hs : sinkF md ops fl n = true) (hc : Region.chainB md ops n = true) (hn : n < ops.size) :
    ∀ (ix : List Nat) (listed : Array Bool) (a : Act), HeadInv md ops n listed → (∀ i ∈ fl, listed.getD i true = true) →
    headB md ops g n ix listed = true → wpQuiet P ops C Lq (ix.filterMap fun i => ops[i]?) a →
    headAny P md ops C n (fun listed' a' => Region.seqB md ops g n listed' = true ∧ Lq a') ix.length listed a
  | [], listed, a, inv, hfl, hB, h => ⟨hB, h⟩
  | k :: ks, listed, a, inv, hfl, hB, h => by
    simp only [headB, Bool.and_eq_true, decide_eq_true_eq] at hB
    obtain ⟨⟨⟨hr, hf⟩, hkn⟩, hB'⟩ := hB
    have hr' : k ∈ Region.ready md ops listed := by simpa using hr
    obtain ⟨_, o, h0, _⟩ := mem_ready.1 hr'
    rw [List.filterMap_cons, h0] at h
    have hst : qOp P ops C k (wpQuiet P ops C Lq (ks.filterMap fun i => ops[i]?)) a := by unfold qOp; simp only [h0]; exact h
    obtain ⟨v, hy, hK⟩ := yieldsIn_of_qOp h0 hst
    exact head_first h0 (Region.noSelect_spec hsel) hs hc hn hkn (fun listed' a' hL => seqB_ready hL.1) ks.length listed a inv hfl (Region.free_spec h0 hf) hr' hy
      (head_lex hsel hs hc hn ks _ _ (inv.set hr' hkn) (set_keeps hfl k) hB' hK)
def floatB (md : Region.Mode) (ops : Array Oper) (n : Nat) (K : Array Bool → Bool) : List Nat → Array Bool → Bool
  | [], listed => K listed
  | k :: ks, listed => (Region.ready md ops listed).contains k && Region.free md ops listed k && decide (k < n) &&
    (match ops[k]? with | some o => (match o.op with | .move _ => o.guard.isNone | _ => false) | none => false) && floatB md ops n K ks (listed.setIfInBounds k true)
def floatPut (ops : Array Oper) : List Nat → Act → Act
  | [], a => a
  | k :: ks, a => floatPut ops ks (match ops[k]? with | some o => (match o.op with | .move x => a.put o.dst (a.eval x) | _ => a) | none => a)
theorem held_true {Q : Exit → Act → World → Prop} : ∀ (fuel : Nat) (listed : Array Bool) (a : Act) (w : World), wpAny P md ops Q fuel listed a w → wpAnyH P md ops Q (fun _ => True) fuel listed a w
  | 0, _, _, _, h => h
  | fuel + 1, _, _, _, h => ⟨h.1, fun i hi => wpOp_mono (fun a' w' h' => ⟨trivial, held_true fuel _ a' w' h'⟩) (h.2 i hi)⟩
theorem floats_first {Q : Exit → Act → World → Prop} {n : Nat} {K : Array Bool → Bool} (hsel : Region.noSelect ops = true) (hQ : ∀ c a d v w, Q (.panic c) (Act.put a d v) w → Q (.panic c) a w) (fuel : Nat) :
    ∀ (fl done : List Nat) (listed : Array Bool) (a : Act) (w : World), HeadInv md ops n listed → (∀ i ∈ done, listed.getD i true = true) → floatB md ops n K fl listed = true →
      (∀ listed', HeadInv md ops n listed' → (∀ i ∈ done ++ fl, listed'.getD i true = true) → K listed' = true → wpAny P md ops Q fuel listed' (floatPut ops fl a) w) →
      wpAnyH P md ops Q (fun _ => True) (fl.length + fuel) listed a w
  | [], done, listed, a, w, inv, hd, hB, h => by
    rw [List.length_nil, Nat.zero_add]
    exact held_true _ _ _ _ (h listed inv (by simpa using hd) hB)
  | k :: ks, done, listed, a, w, inv, hd, hB, h => by
    simp only [floatB, Bool.and_eq_true, decide_eq_true_eq] at hB
    obtain ⟨⟨⟨⟨hr, hf⟩, hkn⟩, hmv⟩, hB'⟩ := hB
    have hr' : k ∈ Region.ready md ops listed := by simpa using hr
    obtain ⟨hun, o, h0, _⟩ := mem_ready.1 hr'
    rw [h0] at hmv
    simp only [floatPut, h0] at h
    cases hop : o.op with
    | move x =>
      simp only [hop] at hmv h
      have hg : o.guard = none := by simpa using hmv
      have hy : YieldsIf P ops (fun _ => True) o (a.eval x) a := .inl ⟨by simp [Region.wanted, hg], fun w _ => by simp [execOp, hop, Sem.run_pure]⟩
      rw [show (k :: ks).length + fuel = (ks.length + fuel) + 1 by simp; omega]
      refine wpAnyH_take h0 hsel hf hr (fun c a w => hQ c a _ _ w) hy trivial ?_
      refine floats_first hsel hQ fuel ks (done ++ [k]) _ _ w (inv.set hr' hkn) (fun i hi => ?_) hB' (fun listed' i1 i2 i3 => h listed' i1 (by simpa using i2) i3)
      rw [List.mem_append] at hi
      rcases hi with hi | hi
      · exact set_keeps hd k i hi
      · obtain rfl : i = k := by simpa using hi
        rcases Nat.lt_or_ge i listed.size with h' | h'
        · simp [h']
        · simp [h']
    | _ => simp [hop] at hmv
def qtB (md : Region.Mode) (ops : Array Oper) (fl ix : List Nat) (n : Nat) : Bool :=
  Region.noSelect ops && decide (n < ops.size) && decide (fl.length + ix.length = n) && sinkF md ops fl n && Region.chainB md ops n &&
    floatB md ops n (fun listed => headB md ops (ops.size - n) n ix listed) fl (Array.replicate ops.size false)
end
theorem any_qt {P : Program} {Q : Exit → Act → World → Prop} {a : Act} {w : World} {l : List Oper} (C : World → Prop) (fl ix : List Nat) (n : Nat)
    (hB : qtB .any l.toArray fl ix n = true) (hQ : ∀ c a d v w, Q (.panic c) (Act.put a d v) w → Q (.panic c) a w) (hC : C w)
    (h : wpQuiet P l.toArray C (fun a' => ∀ w', C w' → wpList P l.toArray Q (l.drop n) a' w') (ix.filterMap fun i => l[i]?) (floatPut l.toArray fl a)) : wpAny P .any l.toArray Q l.toArray.size (Array.replicate l.toArray.size false) a w := by
  simp only [qtB, Bool.and_eq_true, decide_eq_true_eq] at hB
  obtain ⟨⟨⟨⟨⟨hsel, hn⟩, hlen⟩, hs⟩, hc⟩, hfl⟩ := hB
  have hn' : n < l.length := by simpa using hn
  have hdl : (l.drop n).length = l.toArray.size - n := by simp
  have inv0 : HeadInv .any l.toArray n (Array.replicate l.toArray.size false) :=
    ⟨by simp, fun j oj _ hl => (by rw [getD_replicate_false] at hl; cases hl), fun t _ ht => getD_in (by simpa using ht) (getD_replicate_false _ _)⟩
  have hsz : l.toArray.size = fl.length + (ix.length + (l.toArray.size - n)) := by omega
  have key := floats_first (P := P) (Q := Q) hsel hQ (ix.length + (l.toArray.size - n)) fl [] _ a w inv0 (fun i hi => by cases hi) hfl (fun listed' i1 i2 i3 => by
    have H := head_lex (P := P) (C := C) (md := .any) (g := l.toArray.size - n) hsel hs hc hn ix listed' (floatPut l.toArray fl a) i1 (by simpa using i2) i3 (by simpa using h)
    exact any_of_head (Q' := Q) (g := l.toArray.size - n) (fun listed a' w' hw' hL => by
      have := wpAny_of_seq (md := .any) (Q' := Q) (l.drop n) n listed a' w' (fun j => by simp [List.getElem?_drop]) (by rw [hdl]; exact hL.1) (hL.2 w' hw')
      rwa [hdl] at this) _ _ _ _ hC H)
  rw [← hsz] at key
  exact wpAny_of_held _ _ _ _ key
def movesB (ops : Array Oper) (fl : List Nat) : Bool := fl.all fun k => match ops[k]? with | some o => (match o.op with | .move _ => o.guard.isNone | _ => false) | none => false
theorem quiet_float {P : Program} {ops : Array Oper} {K : Act → Prop} : ∀ (fl : List Nat) (a : Act), movesB ops fl = true → wpQuiet P ops (fun _ => True) K (fl.filterMap fun i => ops[i]?) a → K (floatPut ops fl a)
  | [], a, _, h => h
  | k :: ks, a, hm, h => by
    simp only [movesB, List.all_cons, Bool.and_eq_true] at hm
    obtain ⟨hk, hks⟩ := hm
    cases h0 : ops[k]? with
    | none => simp [h0] at hk
    | some o =>
      simp only [h0] at hk
      rw [List.filterMap_cons, h0] at h
      simp only [floatPut, h0]
      cases hop : o.op with
      | move x =>
        simp only [hop] at hk
        have hg : o.guard = none := by simpa using hk
        have hw : Region.wanted o (yielded ops a.tmps) = true := by simp [Region.wanted, hg]
        have h' : (if Region.wanted o (yielded ops a.tmps) = true then o.quiet P a (fun _ => True) (wpQuiet P ops (fun _ => True) K (ks.filterMap fun i => ops[i]?)) else wpQuiet P ops (fun _ => True) K (ks.filterMap fun i => ops[i]?) (a.put o.dst undef)) := h
        rw [if_pos hw] at h'
        obtain ⟨v, h1, h2⟩ := h'
        have h3 := h1 default trivial
        have hr : (execOp a.eval o).run P default = .ok (.value (a.eval x)) default := by simp [execOp, hop, Sem.run_pure]
        unfold Oper.quietAt at h3
        rw [hr] at h3
        obtain ⟨_, he⟩ : (default : World) = default ∧ a.eval x = v := h3
        show K (floatPut ops ks (a.put o.dst (a.eval x)))
        rw [he]
        exact quiet_float ks _ (by simpa [movesB] using hks) h2
      | _ => simp [hop] at hk
theorem any_qf {P : Program} {Q : Exit → Act → World → Prop} {a : Act} {w : World} {l : List Oper} (C : World → Prop) (fl ix : List Nat) (n : Nat)
    (hB : (movesB l.toArray fl && qtB .any l.toArray fl ix n) = true) (hQ : ∀ c a d v w, Q (.panic c) (Act.put a d v) w → Q (.panic c) a w) (hC : C w)
    (h : wpQuiet P l.toArray (fun _ => True) (fun a' => wpQuiet P l.toArray C (fun a' => ∀ w', C w' → wpList P l.toArray Q (l.drop n) a' w') (ix.filterMap fun i => l[i]?) a') (fl.filterMap fun i => l[i]?) a) : wpAny P .any l.toArray Q l.toArray.size (Array.replicate l.toArray.size false) a w := by
  rw [Bool.and_eq_true] at hB
  refine any_qt C fl ix n hB.2 hQ hC ?_
  exact quiet_float (K := fun a' => wpQuiet P l.toArray C (fun a' => ∀ w', C w' → wpList P l.toArray Q (l.drop n) a' w') (ix.filterMap fun i => l[i]?) a') fl a hB.1 (by simpa using h)
theorem pick_range {α : Type} (l : List α) : ∀ (m k : Nat), (List.range' k m).filterMap (fun i => l[i]?) = (l.drop k).take m
  | 0, k => by simp
  | m + 1, k => by
    rw [List.range'_succ, List.filterMap_cons]
    by_cases h : k < l.length
    · rw [List.getElem?_eq_getElem h, List.drop_eq_getElem_cons h, List.take_succ_cons]
      simp only
      rw [pick_range l m (k + 1)]
    · rw [List.getElem?_eq_none (by omega)]
      simp only
      rw [pick_range l m (k + 1), List.drop_eq_nil_of_le (by omega), List.drop_eq_nil_of_le (by omega)]
      simp
theorem region_qd {P : Program} {id : Nat} {Q : Exit → Act → World → Prop} {a : Act} {w : World} {l : List Oper} (k m : Nat) (hm : P.follows .mixedOrders = true)
    (hB : (movesB l.toArray (List.range' 0 k) && qtB .any l.toArray (List.range' 0 k) (List.range' k m) (k + m)) = true) (hQ : ∀ c a d v w, Q (.panic c) (Act.put a d v) w → Q (.panic c) a w)
    (h : wpQuiet P l.toArray (fun _ => True) (fun a' => wpQuiet P l.toArray (fun w' => ∃ n, w' = w.drewN n) (fun a' => ∀ w', (∃ n, w' = w.drewN n) → wpList P l.toArray Q (l.drop (k + m)) a' w') ((l.drop k).take m) a') (l.take k) a) : (Code.region id l.toArray true).wp P Q a w :=
  wp_region_any hm (any_qf (fun w' => ∃ n, w' = w.drewN n) _ _ (k + m) hB hQ ⟨1, rfl⟩ (by rw [pick_range, pick_range]; exact h))
end Go.Proofs.YtkdcfijebgeajaaGreat

namespace Go.Proofs.YtkdcfijebgeajaaGreat
open Go.RowKit Go.BigFrame
set_option linter.unusedVariables false
section
variable {P : Program} {ops : Array Oper} {md : Region.Mode} {C : World → Prop} {Q : Exit → Act → World → Prop} {d : Nat}
def Closed (md : Region.Mode) (ops : Array Oper) (listed : Array Bool) : Prop :=
  listed.size = ops.size ∧ ∀ j oj, ops[j]? = some oj → listed.getD j false = true → ∀ e ∈ oj.after, Region.binds md e = true → listed.getD e.on false = true
theorem getD_set_keeps {listed : Array Bool} {i j : Nat} (h : listed.getD j false = true) : (listed.setIfInBounds i true).getD j false = true := by
  by_cases e : i = j
  · subst e; exact getD_set_true h
  · rw [getD_set_ne false e]; exact h
theorem Closed.set {listed : Array Bool} {i : Nat} (h : Closed md ops listed) (hi : i ∈ Region.ready md ops listed) : Closed md ops (listed.setIfInBounds i true) := by
  obtain ⟨_, oi, hoi, hall⟩ := mem_ready.1 hi
  refine ⟨by simp [h.1], fun j oj hj hl e he hb => ?_⟩
  by_cases hij : i = j
  · subst hij
    obtain rfl : oj = oi := Option.some.inj (hj.symm.trans hoi)
    exact getD_set_keeps (hall e he hb)
  · rw [getD_set_ne false hij] at hl
    exact getD_set_keeps (h.2 j oj hj hl e he hb)
end
end Go.Proofs.YtkdcfijebgeajaaGreat

namespace Go.Proofs.YtkdcfijebgeajaaGreat
open Go.RowKit
set_option linter.unusedVariables false
set_option linter.unusedSimpArgs false
def ThenOp (P : Program) (o : Oper) (Q : Exit → Act → World → Prop) : Exit → Act → World → Prop
  | .normal, a, w => o.wp P a w (fun a w => Q .normal a w) Q
  | e, a, w => Q e a w
section
variable {P : Program} {ops : Array Oper} {o : Oper} {Q : Exit → Act → World → Prop} {md : Region.Mode}
theorem wp_then {x : Oper} {a : Act} {w : World} {K K' : Act → World → Prop} (hout : LetsOut (ThenOp P o Q) → LetsOut Q) (h : ∀ a w, K a w → K' a w) (hh : x.wp P a w K (ThenOp P o Q)) : x.wp P a w K' Q := by
  unfold Oper.wp at *
  generalize (execOp a.eval x).run P w = r at *
  cases r with
  | ok n w' =>
    cases n <;> simp only [Oper.upon] at hh ⊢ <;>
      first
        | exact h _ _ hh
        | exact Calls.mono hh (fun e w'' he => by cases e <;> first | exact h _ _ he | exact he | exact hout he)
        | exact Rows.mono hh (fun _ _ he => h _ _ he)
  | halt x w' => cases x <;> simp only [Oper.upon] at hh ⊢ <;> exact hh
theorem getD_push (l : Array Bool) (j : Nat) (d : Bool) (h : j < l.size) : (l.push false).getD j d = l.getD j d := by
  simp [Array.getD, h, Array.getElem_push_lt, Nat.lt_succ_of_lt h]
theorem all_of_none {listed : Array Bool} (hs : listed.size = ops.size) (hback : ∀ i oi, ops[i]? = some oi → ∀ e ∈ oi.after, Region.binds md e = true → e.on < i)
    (hr : Region.ready md ops listed = []) : ∀ n i, i < n → i < ops.size → listed.getD i false = true := by
  intro n
  induction n with
  | zero => intro i h; omega
  | succ n ih =>
    intro i hi hlt
    by_cases hin : i < n
    · exact ih i hin hlt
    · cases hl : listed.getD i false with
      | true => rfl
      | false =>
        exfalso
        have hm : i ∈ Region.ready md ops listed := mem_ready.2 ⟨getD_in (by omega) hl, ops[i], by simp [hlt], fun e he hb => ih e.on (by have := hback i _ (by simp [hlt]) e he hb; omega) (by have := hback i _ (by simp [hlt]) e he hb; omega)⟩
        rw [hr] at hm; cases hm
theorem wpAny_last (hg : o.guard = none) (hin : ∀ e ∈ o.after, e.on < ops.size) {listed : Array Bool} (hs : listed.size = ops.size) (hall : ∀ i, i < ops.size → listed.getD i false = true) {a : Act} {w : World} (h : ThenOp P o Q .normal a w) :
    ∀ g, wpAny P md (ops.push o) Q (g + 1) (listed.push false) a w := by
  intro g
  have hn : ∀ j, j ∈ Region.ready md (ops.push o) (listed.push false) ↔ j = ops.size := by
    intro j
    rw [mem_ready]
    constructor
    · rintro ⟨h1, oj, h2, h3⟩
      have hj : j < ops.size + 1 := by have := (Array.getElem?_eq_some_iff.1 h2).1; simpa using this
      refine Classical.byContradiction fun hne => ?_
      have hj' : j < ops.size := by omega
      rw [getD_push _ _ _ (by omega)] at h1
      have := hall j hj'
      rw [getD_both h1] at this; cases this
    · rintro rfl
      refine ⟨by rw [← hs]; simp [Array.getD], o, by simp, fun e he hb => ?_⟩
      rw [getD_push _ _ _ (by have := hin e he; omega)]
      exact hall _ (hin e he)
  have hdone : Region.ready md (ops.push o) ((listed.push false).setIfInBounds ops.size true) = [] := by
    refine List.eq_nil_iff_forall_not_mem.2 fun j hj => ?_
    obtain ⟨h1, oj, h2, h3⟩ := mem_ready.1 hj
    have hj' : j < ops.size + 1 := by have := (Array.getElem?_eq_some_iff.1 h2).1; simpa using this
    by_cases e : j = ops.size
    · subst e
      simp [Array.getD, hs] at h1
    · rw [getD_set_ne true (Ne.symm e), getD_push _ _ _ (by omega)] at h1
      have := hall j (by omega)
      rw [getD_both h1] at this; cases this
  refine ⟨fun h0 => ?_, fun i hi => ?_⟩
  · have := (hn ops.size).2 rfl
    rw [h0] at this; cases this
  · obtain rfl := (hn i).1 hi
    unfold wpOp
    simp only [Array.getElem?_push_size]
    rw [if_pos (by simp [Region.wanted, hg])]
    exact Or.inl (Oper.wp_mono (fun a w hq => wpAny_done hdone hq g) h)
theorem wpAny_push (hg : o.guard = none) (hout : LetsOut (ThenOp P o Q) → LetsOut Q) (hin : ∀ e ∈ o.after, e.on < ops.size)
    (hla : ∀ i, i < ops.size → (∃ e ∈ o.after, Region.binds md e = true ∧ e.on = i) ∨ ∃ j oj, ops[j]? = some oj ∧ (∃ e ∈ o.after, Region.binds md e = true ∧ e.on = j) ∧ ∃ e ∈ oj.after, Region.binds md e = true ∧ e.on = i) (hno : ∀ (i : Nat) (oi : Oper), ops[i]? = some oi → oi.guard = none) (hback : ∀ i oi, ops[i]? = some oi → ∀ e ∈ oi.after, Region.binds md e = true → e.on < i) :
    ∀ (g : Nat) (listed : Array Bool) (a : Act) (w : World), Closed md ops listed → wpAny P md ops (ThenOp P o Q) g listed a w → wpAny P md (ops.push o) Q (g + 1) (listed.push false) a w
  | 0, listed, a, w, hc, h => wpAny_last hg hin hc.1 (fun i hi => all_of_none hc.1 hback h.1 ops.size i hi hi) h.2 0
  | g + 1, listed, a, w, hc, h => by
    have hs := hc.1
    by_cases hr : Region.ready md ops listed = []
    · exact wpAny_last hg hin hs (fun i hi => all_of_none hs hback hr ops.size i hi hi) (h.1 hr) (g + 1)
    · have hmem : ∀ j, j ∈ Region.ready md (ops.push o) (listed.push false) ↔ j ∈ Region.ready md ops listed := by
        intro j
        constructor
        · intro hj
          obtain ⟨h1, oj, h2, h3⟩ := mem_ready.1 hj
          have hj' : j < ops.size + 1 := by have := (Array.getElem?_eq_some_iff.1 h2).1; simpa using this
          by_cases e : j = ops.size
          · exfalso
            subst e
            rw [Array.getElem?_push_size] at h2
            cases h2
            refine hr (List.eq_nil_iff_forall_not_mem.2 fun i hi => ?_)
            obtain ⟨g1, oi, g2, g3⟩ := mem_ready.1 hi
            have hi' : i < ops.size := (Array.getElem?_eq_some_iff.1 g2).1
            rcases hla i hi' with ⟨e, he, hb, rfl⟩ | ⟨j, oj, hoj, ⟨e, he, hb, rfl⟩, e2, he2, hb2, rfl⟩
            · have := h3 e he hb
              rw [getD_push _ _ _ (by omega), getD_both g1] at this
              cases this
            · have h4 := h3 e he hb
              rw [getD_push _ _ _ (by have := (Array.getElem?_eq_some_iff.1 hoj).1; omega)] at h4
              have := hc.2 e.on oj hoj h4 e2 he2 hb2
              rw [getD_both g1] at this
              cases this
          · have hjn : j < ops.size := by omega
            have h2' : ops[j]? = some oj := by rw [← h2, Array.getElem?_push_lt hjn]; simp [hjn]
            refine mem_ready.2 ⟨(getD_push _ _ _ (by omega)).symm.trans h1, oj, h2', fun e he hb => ?_⟩
            have := h3 e he hb
            have hlt := hback j oj h2' e he hb
            rw [getD_push _ _ _ (by omega)] at this
            exact this
        · intro hj
          obtain ⟨h1, oj, h2, h3⟩ := mem_ready.1 hj
          have hjn : j < ops.size := (Array.getElem?_eq_some_iff.1 h2).1
          refine mem_ready.2 ⟨(getD_push _ _ _ (by omega)).trans h1, oj, by rw [← h2, Array.getElem?_push_lt hjn]; simp [hjn], fun e he hb => ?_⟩
          have hlt := hback j oj h2 e he hb
          rw [getD_push _ _ _ (by omega)]
          exact h3 e he hb
      refine ⟨fun h0 => absurd (List.eq_nil_iff_forall_not_mem.2 fun j hj => by rw [← hmem, h0] at hj; cases hj) hr, fun i hi => ?_⟩
      have hi2 := (hmem i).1 hi
      obtain ⟨h1, oi, h2, h3⟩ := mem_ready.1 hi2
      have hin' : i < ops.size := (Array.getElem?_eq_some_iff.1 h2).1
      have hw := h.2 i hi2
      have e1 : (ops.push o)[i]? = some oi := by rw [← h2, Array.getElem?_push_lt hin']; simp [hin']
      have e2 : (listed.push false).setIfInBounds i true = (listed.setIfInBounds i true).push false := by
        apply Array.ext'
        simp only [Array.toList_setIfInBounds, Array.toList_push]
        rw [List.set_append_left _ _ (by simp; omega)]
      unfold wpOp at hw ⊢
      simp only [h2] at hw
      simp only [e1]
      rw [if_pos (by simp [Region.wanted, hno i oi h2])] at hw ⊢
      rw [e2]
      rcases hw with hw | hw
      · exact Or.inl (wp_then hout (fun a w hk => wpAny_push hg hout hin hla hno hback g _ a w (hc.set hi2) hk) hw)
      · exact Or.inr ⟨hw.1, hout hw.2⟩
def lastB (md : Region.Mode) (ops : Array Oper) (o : Oper) : Bool :=
  o.guard.isNone && ops.toList.all (·.guard.isNone) && o.after.toList.all (fun e => decide (e.on < ops.size)) && (List.range ops.size).all (fun i => (o.after.toList.any fun e => Region.binds md e && e.on == i) || ((List.range ops.size).any fun j => (o.after.toList.any fun e => Region.binds md e && e.on == j) && (match ops[j]? with | some oj => oj.after.toList.any fun e => Region.binds md e && e.on == i | none => false))) &&
  (List.range ops.size).all fun i => match ops[i]? with | some oi => oi.after.toList.all (fun e => !Region.binds md e || decide (e.on < i)) | none => true
theorem any_last {a : Act} {w : World} (S : World → Prop) (ho : ops.back? = some o) (hB : lastB .any ops.pop o = true)
    (h : wpAnyH P .any ops.pop (ThenOp P o Q) S ops.pop.size (Array.replicate ops.pop.size false) a w) : wpAny P .any ops Q ops.size (Array.replicate ops.size false) a w := by
  have hops : ops = ops.pop.push o := by
    have hne : 0 < ops.size := by
      refine Nat.pos_of_ne_zero fun h0 => ?_
      rw [Array.back?, Array.getElem?_eq_none (by omega)] at ho; cases ho
    apply Array.ext (by simp; omega)
    intro i h1 h2
    by_cases hi : i < ops.size - 1
    · rw [Array.getElem_push_lt (by simpa using hi)]; simp
    · have hi' : i = ops.size - 1 := by omega
      subst hi'
      rw [Array.back?, Array.getElem?_eq_getElem (by omega)] at ho
      have ho' := Option.some.inj ho
      have : (ops.pop.push o)[ops.size - 1] = o := by simp [Array.getElem_push]
      rw [this, ← ho']
  unfold lastB at hB
  simp only [Bool.and_eq_true, Bool.or_eq_true, List.all_eq_true, List.any_eq_true, decide_eq_true_eq, beq_iff_eq, List.mem_range] at hB
  obtain ⟨⟨⟨⟨b1, b2⟩, b3⟩, b4⟩, b5⟩ := hB
  have key := wpAny_push (P := P) (Q := Q) (md := .any) (ops := ops.pop) (o := o) (Option.isNone_iff_eq_none.1 b1) (fun ⟨a, w, h⟩ => ⟨a, w, h⟩) (fun e he => b3 e (Array.mem_toList_iff.2 he))
    (fun i hi => by
      rcases b4 i hi with ⟨e, he, h1, h2⟩ | ⟨j, hj, ⟨e, he, h1, h2⟩, hm⟩
      · exact .inl ⟨e, Array.mem_toList_iff.1 he, h1, h2⟩
      · cases hoj : ops.pop[j]? with
        | none => rw [hoj] at hm; cases hm
        | some oj =>
          rw [hoj] at hm
          simp only [List.any_eq_true, Bool.and_eq_true, beq_iff_eq] at hm
          obtain ⟨e2, he2, h3, h4⟩ := hm
          exact .inr ⟨j, oj, hoj, ⟨e, Array.mem_toList_iff.1 he, h1, h2⟩, e2, Array.mem_toList_iff.1 he2, h3, h4⟩)
    (fun i oi hoi => Option.isNone_iff_eq_none.1 (b2 oi (Array.mem_toList_iff.2 (Array.mem_of_getElem? hoi))))
    (fun i oi hoi e he hb => by
      have h5 := b5 i (Array.getElem?_eq_some_iff.1 hoi).1
      rw [hoi] at h5
      simp only [List.all_eq_true, Bool.or_eq_true, Bool.not_eq_true', decide_eq_true_eq] at h5
      rcases h5 e (Array.mem_toList_iff.2 he) with h6 | h6
      · rw [hb] at h6; cases h6
      · exact h6)
    ops.pop.size (Array.replicate ops.pop.size false) a w ⟨by simp, fun j oj _ hl => (by rw [getD_replicate_false] at hl; cases hl)⟩ (wpAny_of_held _ _ _ _ h)
  have e1 : (Array.replicate ops.pop.size false).push false = Array.replicate (ops.pop.size + 1) false := by simp [Array.replicate_succ]
  rw [e1] at key
  rw [hops]
  simpa using key
theorem region_last {id : Nat} {a : Act} {w : World} (S : World → Prop) (hm : P.follows .mixedOrders = true) (ho : ops.back? = some o) (hB : lastB .any ops.pop o = true)
    (h : wpAnyH P .any ops.pop (ThenOp P o Q) S ops.pop.size (Array.replicate ops.pop.size false) a w.drew) : (Code.region id ops true).wp P Q a w :=
  wp_region_any hm (any_last S ho hB h)
theorem take_at {S : World → Prop} (i : Nat) (d : Option Tmp) (v : Value) {oi : Oper} {fuel : Nat} {listed : Array Bool} {a : Act} {w : World} (hi : ops[i]? = some oi) (hd : oi.dst = d)
    (hs : Region.noSelect ops = true) (hf : Region.free md ops listed i = true) (hr : (Region.ready md ops listed).contains i = true)
    (hQ : ∀ c a w, Q (.panic c) (a.put oi.dst v) w → Q (.panic c) a w) (hy : YieldsIf P ops S oi v a) (hS : S w)
    (h : wpAnyH P md ops Q S fuel (listed.setIfInBounds i true) (a.put d v) w) : wpAnyH P md ops Q S (fuel + 1) listed a w :=
  wpAnyH_take hi hs hf hr hQ hy hS (by rw [hd]; exact h)
end
end Go.Proofs.YtkdcfijebgeajaaGreat

namespace Go.Proofs.YtkdcfijebgeajaaGreat
open Go.RowKit Go.BigFrame
set_option linter.unusedVariables false
set_option linter.unusedSimpArgs false
theorem bool_no {p : Prop} [Decidable p] (h : ¬ p) : decide p = false := by simp [h]
theorem bool_yes {p : Prop} [Decidable p] (h : p) : decide p = true := by simp [h]
def Says (v : Value) (w : World) (e : Ending) (w' : World) : Prop := e = .returned v ∧ w' = w
def Gives (v : Value) (w : World) (e : Ending) (w' : World) : Prop := e = .returned v ∧ Below w.heap.size w w'
theorem threads34 (n : Int) (w : World) : Calls Tryz.prog 106 #[.int .i64 n] w (Says (.bool (decide (1 ≤ n ∧ n ≤ 64))) w) := by
  by_cases h : 1 ≤ n
  · have d1 : decide (1 ≤ n) = true := bool_yes h
    have e : decide (1 ≤ n ∧ n ≤ 64) = decide (n ≤ 64) := by simp [h]
    rw [e]
    go_enter Tryz.func106, Tryz.ntmps106
    go_wp2_with fail
    go_ret
    exact ⟨rfl, rfl⟩
  · have d1 : decide (1 ≤ n) = false := bool_no h
    have e : decide (1 ≤ n ∧ n ≤ 64) = false := by simp [h]
    rw [e]
    go_enter Tryz.func106, Tryz.ntmps106
    go_wp2_with fail
    go_ret
    exact ⟨rfl, rfl⟩
end Go.Proofs.YtkdcfijebgeajaaGreat

namespace Go.Proofs.YtkdcfijebgeajaaGreat
open Go.RowKit Go.BigFrame
set_option linter.unusedVariables false
set_option linter.unusedSimpArgs false
def U64 (x : Int) : Prop := 0 ≤ x ∧ x < 18446744073709551616
def putF (at_ n : Nat) (x : Int) : Int := x % 2 ^ n * 2 ^ at_
def moreW (n : Int) : Int := (n + 1) % 18446744073709551616
def linkW (t b : Int) : Int := putF 0 32 (moreW t) + putF 32 7 (moreW b)
theorem wraps_u64 (n : Int) (h₀ : 0 ≤ n) (h₁ : n < 2 ^ 64) : IntKind.u64.wrap n = n := by rw [IntKind.wrap_u64]; omega
theorem and_mask (i : Nat) (hi : i ≤ 64) (x : Int) (h : U64 x) : bits .and .u64 x (2 ^ i - 1) = x % 2 ^ i :=
  bits_mask .u64 64 (by decide) wraps_u64 i hi x h.1 h.2
theorem moreW_u64 (n : Int) : U64 (moreW n) := by unfold moreW U64; omega
theorem more_walk (n : Int) : IntKind.u64.wrap (IntKind.u64.wrap n + 1) = moreW n := by rw [IntKind.wrap_u64, IntKind.wrap_u64]; unfold moreW; omega
theorem join_u64 (i : Nat) (x y : Int) (hx : x % 2 ^ i = 0) (ux : U64 x) (hy₀ : 0 ≤ y) (hy : y < 2 ^ i) (uy : U64 y) : bits .or .u64 x y = x + y :=
  bits_join .u64 64 (by decide) wraps_u64 i x y ux.1 hx ux.2 hy₀ hy uy.2
theorem or_comm_u64 (x y : Int) (ux : U64 x) (uy : U64 y) : bits .or .u64 x y = bits .or .u64 y x := by
  obtain ⟨a, rfl⟩ := Int.eq_ofNat_of_zero_le ux.1
  obtain ⟨b, rfl⟩ := Int.eq_ofNat_of_zero_le uy.1
  have ha := ux.2; have hb := uy.2
  rw [bits_or_u64_nat a b (by omega) (by omega), bits_or_u64_nat b a (by omega) (by omega), Nat.or_comm]
theorem put_low_u64 (n : Nat) (hn : n = 32) (x : Int) : U64 (putF 0 n x) ∧ putF 0 n x < 4294967296 := by
  subst hn; unfold putF U64; omega
theorem or_low (x y : Int) (ux : U64 x) (h : x < 4294967296) (uy : U64 y) (hy : y % 4294967296 = 0) : bits .or .u64 x y = x + y := by
  rw [or_comm_u64 _ _ ux uy, join_u64 32 y x hy uy ux.1 h ux, Int.add_comm]
theorem link_or (t b : Int) : bits .or .u64 (putF 0 32 (moreW t)) (putF 32 7 (moreW b)) = linkW t b :=
  or_low _ _ (put_low_u64 32 rfl _).1 (put_low_u64 32 rfl _).2 (by unfold putF U64; omega) (by unfold putF; omega)
theorem ret_int {k : IntKind} {a b : Int} (h : a = b) : Ending.returned (.int k a) = .returned (.int k b) := by rw [h]
def Drew (v : Value) (w : World) (e : Ending) (w' : World) : Prop := e = .returned v ∧ ∃ n, w' = w.drewN n
theorem mask190_32 (w : World) : Calls Tryz.prog 195 #[.int .i64 32] w (Says (.int .u64 4294967295) w) := by
  go_enter Tryz.func195, Tryz.ntmps195
  go_wp2_with fail
  go_ret
  exact ⟨rfl, rfl⟩
theorem mask190_7 (w : World) : Calls Tryz.prog 195 #[.int .i64 7] w (Says (.int .u64 127) w) := by
  go_enter Tryz.func195, Tryz.ntmps195
  go_wp2_with fail
  go_ret
  exact ⟨rfl, rfl⟩
theorem put191_0_32 (x : Int) (h : U64 x) (b c : Nat) (w : World) (hb : w.cell? ⟨b, 0, none⟩ = some (.int .i64 0)) (hc : w.cell? ⟨c, 0, none⟩ = some (.int .i64 32)) :
    Calls Tryz.prog 196 #[.int .u64 x, .pointer (some ⟨c, 0, none⟩), .pointer (some ⟨b, 0, none⟩)] w (Drew (.int .u64 (putF 0 32 x)) w) := by
  have HM := Lib.hid fun w => mask190_32 w
  have HC : Hid (IntKind.u64.wrap (bits .and .u64 x 4294967295) = putF 0 32 x) := Lib.hid (by
    have := and_mask 32 (by decide) x h
    rw [show bits .and .u64 x 4294967295 = x % 2 ^ 32 from this]
    unfold putF; try rw [IntKind.wrap_u64]
    omega)
  clear h
  go_enter Tryz.func196, Tryz.ntmps196
  go_wp2_with fail
  go_quiet ((go_at_call 195; exact Calls.quiet_of_same (HM.out _)))
  go_wp2_with fail
  go_ret
  exact ⟨ret_int HC.out, _, rfl⟩
theorem put191_32_7 (x : Int) (h : U64 x) (b c : Nat) (w : World) (hb : w.cell? ⟨b, 0, none⟩ = some (.int .i64 32)) (hc : w.cell? ⟨c, 0, none⟩ = some (.int .i64 7)) :
    Calls Tryz.prog 196 #[.int .u64 x, .pointer (some ⟨c, 0, none⟩), .pointer (some ⟨b, 0, none⟩)] w (Drew (.int .u64 (putF 32 7 x)) w) := by
  have HM := Lib.hid fun w => mask190_7 w
  have HC : Hid (IntKind.u64.wrap (bits .and .u64 x 127 * 4294967296) = putF 32 7 x) := Lib.hid (by
    have := and_mask 7 (by decide) x h
    rw [show bits .and .u64 x 127 = x % 2 ^ 7 from this]
    unfold putF; try rw [IntKind.wrap_u64]
    omega)
  clear h
  go_enter Tryz.func196, Tryz.ntmps196
  go_wp2_with fail
  go_quiet ((go_at_call 195; exact Calls.quiet_of_same (HM.out _)))
  go_wp2_with fail
  go_ret
  exact ⟨ret_int HC.out, _, rfl⟩
theorem field105 (a n : Int) (w : World) : Calls Tryz.prog 143 #[.int .i64 a, .int .i64 n] w fun e w' =>
    e = .returned (.tuple #[.func (.func 194) #[] #[.pointer (some ⟨w.heap.size, 0, none⟩), .pointer (some ⟨w.heap.size + 1, 0, none⟩)], .func (.func 196) #[] #[.pointer (some ⟨w.heap.size + 1, 0, none⟩), .pointer (some ⟨w.heap.size, 0, none⟩)]]) ∧ w' = (w.alloc (.cells #[.int .i64 a] 3)).alloc (.cells #[.int .i64 n] 3) := by
  have hmf : ∀ (fn : Fn) (first cap : Array Value) (w : World), (Instr.makeFunc fn first cap).run Tryz.prog w = .ok (.func fn first cap) w := fun _ _ _ _ => rfl
  go_enter Tryz.func143, Tryz.ntmps143
  go_wp2_with fail
  go_ret2
  exact ⟨rfl, rfl⟩
theorem two_cells (w : World) (a n : Value) : ((w.alloc (.cells #[a] 3)).alloc (.cells #[n] 3)).cell? ⟨w.heap.size, 0, none⟩ = some a ∧ ((w.alloc (.cells #[a] 3)).alloc (.cells #[n] 3)).cell? ⟨w.heap.size + 1, 0, none⟩ = some n := by
  have h1 : ((w.alloc (.cells #[a] 3)).alloc (.cells #[n] 3)).heap[w.heap.size]? = some (.cells #[a] 3) := by
    rw [Below.heap_alloc _ _ _ (by simp)]; exact heap_alloc_new w _
  have h2 : ((w.alloc (.cells #[a] 3)).alloc (.cells #[n] 3)).heap[w.heap.size + 1]? = some (.cells #[n] 3) := by
    have := heap_alloc_new (w.alloc (.cells #[a] 3)) (.cells #[n] 3); simpa using this
  exact ⟨cell_of_row _ _ 0 _ _ _ h1, cell_of_row _ _ 0 _ _ _ h2⟩
theorem drewN_below {B : Nat} {W w : World} (h : Below B W w) (n : Nat) : Below B W (w.drewN n) := ⟨h.os, h.tape, h.output, h.size, h.block⟩
theorem below_4 (w : World) (a b c d : Obj) : Below w.heap.size w ((((w.alloc a).alloc b).alloc c).alloc d) := ((((Below.refl _ _).alloc (Nat.le_refl _) _).alloc (by simp) _).alloc (by simp; omega) _).alloc (by simp; omega) _
theorem four_cells (w : World) (a n b m : Value) : let W := ((((w.alloc (.cells #[a] 3)).alloc (.cells #[n] 3)).alloc (.cells #[b] 3)).alloc (.cells #[m] 3))
    W.cell? ⟨w.heap.size, 0, none⟩ = some a ∧ W.cell? ⟨w.heap.size + 1, 0, none⟩ = some n ∧ W.cell? ⟨w.heap.size + 1 + 1, 0, none⟩ = some b ∧ W.cell? ⟨w.heap.size + 1 + 1 + 1, 0, none⟩ = some m := by
  intro W
  have h1 := two_cells w a n
  have h2 := two_cells ((w.alloc (.cells #[a] 3)).alloc (.cells #[n] 3)) b m
  have hb : Below (w.heap.size + 1 + 1) ((w.alloc (.cells #[a] 3)).alloc (.cells #[n] 3)) W := ((Below.refl _ _).alloc (by simp) _).alloc (by simp) _
  have s2 : ((w.alloc (.cells #[a] 3)).alloc (.cells #[n] 3)).heap.size = w.heap.size + 1 + 1 := by simp
  rw [s2] at h2
  exact ⟨(hb.cell (p := ⟨w.heap.size, 0, none⟩) (by simp; omega)).trans h1.1, (hb.cell (p := ⟨w.heap.size + 1, 0, none⟩) (by simp)).trans h1.2, h2.1, h2.2⟩
theorem more154 (n : Int) (w : World) : Calls Tryz.prog 144 #[.int .i64 n] w (Says (.int .u64 (moreW n)) w) := by
  have HC := Lib.hid (more_walk n)
  go_enter Tryz.func144, Tryz.ntmps144
  go_wp2_with fail
  go_ret
  exact ⟨ret_int HC.out, rfl⟩
theorem link90 (t b : Int) (w : World) : Calls Tryz.prog 74 #[.int .i64 t, .int .i64 b] w (Gives (.int .u64 (linkW t b)) w) := by
  have HF := Lib.hid fun a n w => field105 a n w
  have HM := Lib.hid fun n w => more154 n w
  have HC := Lib.hid fun b c w => put191_0_32 (moreW t) (moreW_u64 t) b c w
  have HD := Lib.hid fun d c w => put191_32_7 (moreW b) (moreW_u64 b) d c w
  have HO := Lib.hid (link_or t b)
  generalize putF 0 32 (moreW t) = y at *
  generalize putF 32 7 (moreW b) = z at *
  generalize linkW t b = r at *
  go_enter Tryz.func74, Tryz.ntmps74
  go_wp2_with fail
  refine (HF.out _ _ _).mono ?_
  rintro e w1 ⟨rfl, rfl⟩
  go_wp2_with fail
  refine (HF.out _ _ _).mono ?_
  rintro e w1 ⟨rfl, rfl⟩
  go_wp2_with fail
  refine (HM.out _ _).mono ?_
  rintro e w1 ⟨rfl, rfl⟩
  have HZ := Lib.hid (four_cells w (.int .i64 0) (.int .i64 32) (.int .i64 32) (.int .i64 7))
  go_wp2_with fail
  refine (HC.out _ _ _ HZ.out.1 HZ.out.2.1).mono ?_
  rintro e w1 ⟨rfl, n, rfl⟩
  go_wp2_with fail
  refine (HM.out _ _).mono ?_
  rintro e w1 ⟨rfl, rfl⟩
  go_wp2_with fail
  refine (HD.out _ _ _ (by exact HZ.out.2.2.1) (by exact HZ.out.2.2.2)).mono ?_
  rintro e w1 ⟨rfl, m, rfl⟩
  go_wp2_with fail
  go_ret
  exact ⟨ret_int HO.out, drewN_below (below_4 _ _ _ _ _) _⟩
end Go.Proofs.YtkdcfijebgeajaaGreat
