/- A region that draws its order: as in G00, and loads that may come late: they wait for the operation behind one that makes memory. No program here. -/
import Derived.Test.YtibelcmdfkgonaaGreatK4
namespace Go.Proofs.YtibelcmdfkgonaaGreat
open Go.RowKit Go.BigFrame
set_option linter.unusedVariables false
section
variable {P : Program} {ops : Array Oper} {md : Region.Mode} {C : World → Prop} {Q : Exit → Act → World → Prop} {d : Nat}
/-- The class holds until number d has come up. -/
def Till (C : World → Prop) (d : Nat) (listed : Array Bool) (w : World) : Prop := listed.getD d false = true ∨ C w
def anyG (P : Program) (md : Region.Mode) (ops : Array Oper) (Q : Exit → Act → World → Prop) (C : World → Prop) (d : Nat) : Nat → Array Bool → Act → World → Prop
  | 0, listed, a, w => Region.ready md ops listed = [] ∧ Q .normal a w
  | f + 1, listed, a, w => (Region.ready md ops listed = [] → Q .normal a w) ∧
    ∀ i ∈ Region.ready md ops listed, wpOp P ops Q i (fun a' w' => Till C d (listed.setIfInBounds i true) w' ∧ anyG P md ops Q C d f (listed.setIfInBounds i true) a' w') a w
theorem any_of_G : ∀ (f : Nat) (listed : Array Bool) (a : Act) (w : World), anyG P md ops Q C d f listed a w → wpAny P md ops Q f listed a w
  | 0, _, _, _, h => h
  | f + 1, _, _, _, h => ⟨h.1, fun i hi => wpOp_mono (fun a' w' h' => any_of_G f _ a' w' h'.2) (h.2 i hi)⟩
/-- All that a listed one waits for is listed. -/
def Closed (md : Region.Mode) (ops : Array Oper) (listed : Array Bool) : Prop :=
  listed.size = ops.size ∧ ∀ j oj, ops[j]? = some oj → listed.getD j false = true → ∀ e ∈ oj.after, Region.binds md e = true → listed.getD e.on false = true
theorem getD_set_keeps {listed : Array Bool} {i j : Nat} (h : listed.getD j false = true) : (listed.setIfInBounds i true).getD j false = true := by
  by_cases e : i = j
  · subst e; exact getD_set_true h
  · rw [getD_set_ne false e]; exact h
theorem Closed.set {listed : Array Bool} {i : Nat} (h : Closed md ops listed) (hi : i ∈ Region.ready md ops listed) : Closed md ops (listed.setIfInBounds i true) := by
  obtain ⟨_, oi, hoi, hall⟩ := mem_ready.1 hi
  refine ⟨by simp [h.1], fun j oj hj hl e he hb => ?_⟩
  by_cases hij : i = j
  · subst hij
    obtain rfl : oj = oi := Option.some.inj (hj.symm.trans hoi)
    exact getD_set_keeps (hall e he hb)
  · rw [getD_set_ne false hij] at hl
    exact getD_set_keeps (h.2 j oj hj hl e he hb)
/-- Each of the late loads is waited for by a later one of them, or by d. -/
def lateB (md : Region.Mode) (ops : Array Oper) (ch : List Nat) (d : Nat) : Bool :=
  ch.all fun i => (List.range (d + 1)).any fun j => decide (i < j) && (decide (j = d) || ch.contains j) && Region.waitsFor md ops j i
theorem late_listed {ch : List Nat} {listed : Array Bool} (hl : lateB md ops ch d = true) (hc : Closed md ops listed) (hd : listed.getD d false = true) :
    ∀ (n i : Nat), d - i = n → i ∈ ch → listed.getD i false = true := by
  intro n
  induction n using Nat.strongRecOn with
  | _ n ih =>
    intro i hn hi
    have h1 := List.all_eq_true.1 hl i hi
    obtain ⟨j, hj, hj2⟩ := List.any_eq_true.1 h1
    simp only [Bool.and_eq_true, Bool.or_eq_true, decide_eq_true_eq] at hj2
    obtain ⟨⟨hij, hjd⟩, hw⟩ := hj2
    have hjle : j ≤ d := by have := List.mem_range.1 hj; omega
    obtain ⟨oj, hoj, e, he, hb, hon⟩ := Region.waitsFor_spec hw
    have hjl : listed.getD j false = true := by
      rcases hjd with rfl | hjd
      · exact hd
      · exact ih (d - j) (by omega) j rfl (by simpa using hjd)
    have := hc.2 j oj hoj hjl e he hb
    rw [hon] at this; exact this
theorem anyG_first {ch : List Nat} {i : Nat} {oi : Oper} {v : Value} (hl : lateB md ops ch d = true) (hich : i ∈ ch) (hid : i ≠ d) (hi : ops[i]? = some oi) (hsel : ∀ (j : Nat) (o : Oper) cs b, ops[j]? = some o → o.op ≠ .select cs b)
    (hQ : ∀ c a w, Q (.panic c) (a.put oi.dst v) w → Q (.panic c) a w) :
    ∀ (fuel : Nat) (listed : Array Bool) (a : Act) (w : World), Closed md ops listed →
      (∀ j oj, ops[j]? = some oj → j ≠ i → listed.getD j true = false → (∀ e ∈ oj.after, Region.binds md e = true → e.on ≠ i) → oi.apart ops oj = true) →
      i ∈ Region.ready md ops listed → YieldsIf P ops C oi v a → Till C d listed w →
      anyG P md ops Q C d fuel (listed.setIfInBounds i true) (a.put oi.dst v) w → anyG P md ops Q C d (fuel + 1) listed a w := by
  have hTC : ∀ {listed : Array Bool} {w : World}, Closed md ops listed → i ∈ Region.ready md ops listed → Till C d listed w → C w := fun {listed w} hc hr ht => by
    rcases ht with ht | ht
    · have h1 := late_listed hl hc ht _ i rfl hich
      have h2 := getD_both (mem_ready.1 hr).1
      rw [h1] at h2; cases h2
    · exact ht
  intro fuel
  induction fuel with
  | zero =>
    intro listed a w hc _ hr hy hT H
    refine ⟨fun h => (by rw [h] at hr; cases hr), fun j hj => ?_⟩
    by_cases hji : j = i
    · subst hji; exact hy.wpOp hi (hTC hc hr hT) ⟨.inr (hTC hc hr hT), H⟩
    · have := ready_mono hj hji
      rw [H.1] at this
      cases this
  | succ fuel ih =>
    intro listed a w hc hfree hr hy hT H
    refine ⟨fun h => (by rw [h] at hr; cases hr), fun j hj => ?_⟩
    by_cases hji : j = i
    · subst hji; exact hy.wpOp hi (hTC hc hr hT) ⟨.inr (hTC hc hr hT), H⟩
    · have h1 := H.2 j (ready_mono hj hji)
      obtain ⟨hjun, oj, hoj, hall⟩ := mem_ready.1 hj
      have hun := (mem_ready.1 hr).1
      have hnot : ∀ e ∈ oj.after, Region.binds md e = true → e.on ≠ i := fun e he hb heq => by
        have h1 := hall e he hb
        rw [heq, getD_both hun] at h1
        cases h1
      have h2 := wpOp_putIf hoj (hfree j oj hoj hji hjun hnot) (fun cs b => hsel i oi cs b hi) (fun cs b => hsel j oj cs b hoj) hQ hy h1
      have hfree' : ∀ k ok, ops[k]? = some ok → k ≠ i → (listed.setIfInBounds j true).getD k true = false →
          (∀ e ∈ ok.after, Region.binds md e = true → e.on ≠ i) → oi.apart ops ok = true := fun k ok hk hki hun hno => by
        refine hfree k ok hk hki ?_ hno
        by_cases hjk : j = k
        · subst hjk; exact hjun
        · rw [getD_set_ne true hjk] at hun; exact hun
      refine wpOp_mono (fun a' w' h3 => ?_) h2
      have ht' : Till C d (listed.setIfInBounds j true) w' := by
        rcases h3.2.1 with ht | ht
        · refine .inl ?_
          rw [Array.setIfInBounds_comm _ _ (Ne.symm hji), getD_set_ne false hid] at ht
          exact ht
        · exact .inr ht
      refine ⟨ht', ih (listed.setIfInBounds j true) a' w' (hc.set hj) hfree' (ready_mono hr (Ne.symm hji)) h3.1 ht' ?_⟩
      rw [Array.setIfInBounds_comm _ _ hji]
      exact h3.2.2
/-- Reads of their own slots and of memory, without a guard. -/
def readB (o : Oper) : Bool := (match o.op with | .move _ => true | .nilCheck _ => true | .fieldAddr _ _ _ => true | .load _ _ => true | _ => false) && o.guard.isNone
theorem read_value {o : Oper} {ρ : Operand → Value} {w w' : World} {n : Next} (h : readB o = true) (hr : (execOp ρ o).run P w = .ok n w') : ∃ v, n = .value v := by
  unfold readB at h
  rw [Bool.and_eq_true] at h
  unfold execOp at hr
  cases hop : o.op with
  | move x => simp [hop, Sem.run_pure] at hr; exact ⟨_, hr.1.symm⟩
  | nilCheck x =>
    simp only [hop] at hr
    split at hr
    · simp [runtimePanic] at hr
    · simp [runtimePanic] at hr
    · simp [runtimePanic] at hr
    · split at hr
      · simp [runtimePanic] at hr
      · simp only [Sem.run_bind] at hr
        cases h1 : Sem.run P program w with
        | halt x w1 => simp [h1] at hr
        | ok p w1 =>
          simp only [h1, Result.andThen_ok] at hr
          generalize Sem.run P (nilAhead _ _ _ _) w1 = r2 at hr
          cases r2 with
          | halt x w2 => simp at hr
          | ok b w2 =>
            simp only [Result.andThen_ok] at hr
            split at hr
            · simp [unsupported] at hr
            · simp [Sem.run_pure] at hr; exact ⟨_, hr.1.symm⟩
      · simp [Sem.run_pure] at hr; exact ⟨_, hr.1.symm⟩
    · simp [Sem.run_pure] at hr; exact ⟨_, hr.1.symm⟩
  | fieldAddr a b c =>
    simp only [hop] at hr
    cases h2 : Sem.run P (Instr.fieldAt a (ρ b) c) w with
    | ok v w2 => simp [h2] at hr; exact ⟨_, hr.1.symm⟩
    | halt x w2 => simp [h2] at hr
  | load a b =>
    simp only [hop] at hr
    cases h2 : Sem.run P (Instr.loadAt a (ρ b)) w with
    | ok v w2 => simp [h2] at hr; exact ⟨_, hr.1.symm⟩
    | halt x w2 => simp [h2] at hr
  | _ => simp [hop] at h
/-- What is quiet, and reads, yields its value. -/
theorem yields_of_quiet {o : Oper} {a : Act} {K : Act → Prop} (w0 : World) (h0 : C w0) (hb : readB o = true) (h : if Region.wanted o (yielded ops a.tmps) then o.quiet P a C K else K (a.put o.dst undef)) : ∃ v, YieldsIf P ops C o v a ∧ K (a.put o.dst v) := by
  have hg : o.guard = none := by unfold readB at hb; rw [Bool.and_eq_true] at hb; simpa using hb.2
  have hw : Region.wanted o (yielded ops a.tmps) = true := by simp [Region.wanted, hg]
  rw [if_pos hw] at h
  obtain ⟨v, h1, h2⟩ := h
  refine ⟨v, .inl ⟨hw, fun w hw' => ?_⟩, h2⟩
  have h3 := h1 w hw'
  unfold Oper.quietAt at h3
  cases hr : (execOp a.eval o).run P w with
  | halt x w' => rw [hr] at h3; exact h3.elim
  | ok n w' =>
    obtain ⟨u, rfl⟩ := read_value hb hr
    rw [hr] at h3
    obtain ⟨e1, e2⟩ : w' = w ∧ u = v := h3
    rw [e1, e2]
def readsB (md : Region.Mode) (ops : Array Oper) (K : Array Bool → Bool) : List Nat → Array Bool → Bool
  | [], listed => K listed
  | k :: ks, listed => (Region.ready md ops listed).contains k && Region.free md ops listed k && (match ops[k]? with | some o => readB o | none => false) && readsB md ops K ks (listed.setIfInBounds k true)
theorem reads_first {K : Array Bool → Bool} {Kq : Act → Prop} {ch : List Nat} (hsel : Region.noSelect ops = true) (hl : lateB md ops ch d = true) (hch : d ∉ ch) (hQ : ∀ c a d v w, Q (.panic c) (Act.put a d v) w → Q (.panic c) a w) (fuel : Nat) :
    ∀ (l : List Nat) (listed : Array Bool) (a : Act) (w : World), (∀ i ∈ l, i ∈ ch) → Closed md ops listed → C w → readsB md ops K l listed = true → wpQuiet P ops C Kq (l.filterMap fun i => ops[i]?) a →
      (∀ listed' a', Closed md ops listed' → (∀ i, listed.getD i true = true → listed'.getD i true = true) → (∀ i ∈ l, listed'.getD i true = true) → (∀ i, i ∉ l → listed'.getD i true = listed.getD i true) → K listed' = true → Kq a' → anyG P md ops Q C d fuel listed' a' w) →
      anyG P md ops Q C d (l.length + fuel) listed a w
  | [], listed, a, w, hi, hc, hw, hB, hq, h => by
    rw [List.length_nil, Nat.zero_add]
    exact h listed a hc (fun _ h => h) (fun i hi => by cases hi) (fun _ _ => rfl) hB hq
  | k :: ks, listed, a, w, hi, hc, hw, hB, hq, h => by
    simp only [readsB, Bool.and_eq_true] at hB
    obtain ⟨⟨⟨hr, hf⟩, hrd⟩, hB'⟩ := hB
    have hr' : k ∈ Region.ready md ops listed := by simpa using hr
    obtain ⟨hun, o, h0, _⟩ := mem_ready.1 hr'
    rw [h0] at hrd
    rw [List.filterMap_cons, h0] at hq
    obtain ⟨v, hy, hK⟩ := yields_of_quiet (P := P) (ops := ops) (C := C) w hw hrd hq
    have hkch := hi k (by simp)
    rw [show (k :: ks).length + fuel = (ks.length + fuel) + 1 by simp; omega]
    refine anyG_first hl hkch (fun e => hch (e ▸ hkch)) h0 (Region.noSelect_spec hsel) (fun c a w => hQ c a _ _ w) _ _ _ _ hc (Region.free_spec h0 hf) hr' hy (.inr hw) ?_
    have hset : ∀ i, listed.getD i true = true → (listed.setIfInBounds k true).getD i true = true := fun i hi => set_keeps (fl := [i]) (by simpa using hi) k i (by simp)
    refine reads_first hsel hl hch hQ fuel ks _ _ w (fun i hi' => hi i (by simp [hi'])) (hc.set hr') hw hB' hK (fun listed' a' i1 i2 i3 i4 i5 i6 => h listed' a' i1 (fun i hi' => i2 i (hset i hi')) (fun i hi' => ?_) (fun i hi' => ?_) i5 i6)
    · rcases List.mem_cons.1 hi' with rfl | hi'
      · refine i2 i ?_
        rcases Nat.lt_or_ge i listed.size with h' | h'
        · simp [h']
        · simp [h']
      · exact i3 i hi'
    · rw [i4 i (fun e => hi' (by simp [e])), getD_set_ne true (fun e => hi' (by simp [e]))]
/-- From the head on: the class holds until d. -/
theorem G_of_head {n g : Nat} {L : Array Bool → Act → Prop} (hL : ∀ listed a w, C w → L listed a → anyG P md ops Q C d g listed a w) :
    ∀ (f : Nat) (listed : Array Bool) (a : Act) (w : World), C w → headAny P md ops C n L f listed a → anyG P md ops Q C d (f + g) listed a w
  | 0, listed, a, w, hw, h => by rw [Nat.zero_add]; exact hL _ _ _ hw h
  | f + 1, listed, a, w, hw, h => by
    rw [show f + 1 + g = (f + g) + 1 by omega]
    exact ⟨fun h0 => absurd h0 h.1, fun i hi => wpOp_of_qOp hw (fun a' w' hw' h' => ⟨.inr hw', G_of_head hL f _ a' w' hw' h'⟩) (h.2 i hi).2⟩
/-- From d on nothing is asked of the world. -/
theorem G_of_any : ∀ (f : Nat) (listed : Array Bool) (a : Act) (w : World), listed.getD d false = true → wpAny P md ops Q f listed a w → anyG P md ops Q C d f listed a w
  | 0, _, _, _, _, h => h
  | f + 1, listed, a, w, hd, h => ⟨h.1, fun i hi => wpOp_mono (fun a' w' h' => ⟨.inl (getD_set_keeps hd), G_of_any f _ a' w' (getD_set_keeps hd) h'⟩) (h.2 i hi)⟩
/-- At d itself. -/
theorem G_at_d {f : Nat} {listed : Array Bool} {a : Act} {w : World} (hr : ∀ i ∈ Region.ready md ops listed, i = d) (hsz : d < listed.size) (h : wpAny P md ops Q f listed a w) : anyG P md ops Q C d f listed a w := by
  cases f with
  | zero => exact h
  | succ f =>
    refine ⟨h.1, fun i hi => wpOp_mono (fun a' w' h' => ?_) (h.2 i hi)⟩
    obtain rfl := hr i hi
    have : (listed.setIfInBounds i true).getD i false = true := by simp [hsz]
    exact ⟨.inl this, G_of_any f _ a' w' this h'⟩
/-- Behind one operation: the class again, and what follows. -/
def AfterA (C : World → Prop) (K : Act → World → Prop) (Q : Exit → Act → World → Prop) : Exit → Act → World → Prop
  | .normal, a, w => C w ∧ K a w
  | e, a, w => Q e a w
theorem wp_afterA {x : Oper} {a : Act} {w : World} {K1 : Act → World → Prop} {K K' : Act → World → Prop} (h : ∀ a w, K a w → K' a w) (hh : x.wp P a w K (AfterA C K1 Q)) : x.wp P a w K' Q := by
  unfold Oper.wp at *
  generalize (execOp a.eval x).run P w = r at *
  cases r with
  | ok n w' =>
    cases n <;> simp only [Oper.upon] at hh ⊢ <;>
      first
        | exact h _ _ hh
        | exact Calls.mono hh (fun e w'' he => by cases e <;> first | exact h _ _ he | exact he | exact (fun ⟨a, w, h⟩ => ⟨a, w, h⟩ : LetsOut (AfterA C K1 Q) → LetsOut Q) he)
        | exact Rows.mono hh (fun _ _ he => h _ _ he)
  | halt x w' => cases x <;> simp only [Oper.upon] at hh ⊢ <;> exact hh
theorem op_afterA {i : Nat} {a : Act} {w : World} {K1 : Act → World → Prop} {K K' : Act → World → Prop} (h : ∀ a w, K a w → K' a w) (hh : wpOp P ops (AfterA C K1 Q) i K a w) : wpOp P ops Q i K' a w := by
  unfold wpOp at *
  split
  · rename_i ho; simp only [ho] at hh; exact h _ _ hh
  · rename_i o ho
    simp only [ho] at hh
    split
    · rename_i hw
      simp only [hw, if_true] at hh
      rcases hh with hh | hh
      · exact .inl (wp_afterA h hh)
      · exact .inr ⟨hh.1, (fun ⟨a, w, h⟩ => ⟨a, w, h⟩ : LetsOut (AfterA C K1 Q) → LetsOut Q) hh.2⟩
    · rename_i hw; simp only [hw] at hh; exact h _ _ hh
def qaB (md : Region.Mode) (ops : Array Oper) (k q m : Nat) : Bool :=
  Region.noSelect ops && decide (k + q + m + 1 < ops.size) && movesB ops (List.range' 0 k) && sinkF md ops (List.range' 0 k ++ List.range' k q) (k + q + m) && Region.chainB md ops (k + q + m) &&
    lateB md ops (List.range' k q) (k + q + m + 1) &&
    floatB md ops (k + q + m) (fun listed => readsB md ops (fun listed => headB md ops (ops.size - (k + q + m)) (k + q + m) (List.range' (k + q) m) listed) (List.range' k q) listed) (List.range' 0 k) (Array.replicate ops.size false)
end
/-- A REGION THAT DRAWS ITS ORDER: k moves that may come at any time, q loads that may come as late as ahead of the operation behind the first one of the tail, a head of m, quiet in a class of worlds; then one operation that stays within the class; then the tail in its one order. -/
theorem any_qa {P : Program} {Q : Exit → Act → World → Prop} {a : Act} {w : World} {l : List Oper} (C : World → Prop) (k q m : Nat)
    (hB : qaB .any l.toArray k q m = true) (hQ : ∀ c a d v w, Q (.panic c) (Act.put a d v) w → Q (.panic c) a w) (hC : C w)
    (h : wpQuiet P l.toArray (fun _ => True) (fun a' => wpQuiet P l.toArray C (fun a' => wpQuiet P l.toArray C (fun a' => ∀ w', C w' →
      wpList P l.toArray (AfterA C (fun a w => wpList P l.toArray Q (l.drop (k + q + m + 1)) a w) Q) ((l.drop (k + q + m)).take 1) a' w') ((l.drop (k + q)).take m) a') ((l.drop k).take q) a') (l.take k) a) : wpAny P .any l.toArray Q l.toArray.size (Array.replicate l.toArray.size false) a w := by
  simp only [qaB, Bool.and_eq_true, decide_eq_true_eq] at hB
  obtain ⟨⟨⟨⟨⟨⟨hsel, hn⟩, hmv⟩, hs⟩, hc⟩, hl⟩, hfl⟩ := hB
  obtain ⟨n, hnn⟩ : ∃ n, n = k + q + m := ⟨_, rfl⟩
  rw [← hnn] at hn hs hc hl hfl h
  have hn' : n + 1 < l.length := by simpa using hn
  have hnsz : n < l.toArray.size := by simp; omega
  have inv0 : HeadInv .any l.toArray n (Array.replicate l.toArray.size false) :=
    ⟨by simp, fun j oj _ hl => (by rw [getD_replicate_false] at hl; cases hl), fun t _ ht => getD_in (by simpa using ht) (getD_replicate_false _ _)⟩
  obtain ⟨g, hg⟩ : ∃ g, l.toArray.size - n = g + 1 := ⟨l.toArray.size - n - 1, by omega⟩
  have hsz : l.toArray.size = (List.range' 0 k).length + ((List.range' k q).length + ((List.range' (k + q) m).length + (g + 1))) := by simp only [List.length_range']; omega
  have hq0 : wpQuiet P l.toArray (fun _ => True) (fun a' => wpQuiet P l.toArray C (fun a' => wpQuiet P l.toArray C (fun a' => ∀ w', C w' →
      wpList P l.toArray (AfterA C (fun a w => wpList P l.toArray Q (l.drop (n + 1)) a w) Q) ((l.drop n).take 1) a' w') ((List.range' (k + q) m).filterMap fun i => l.toArray[i]?) a') ((List.range' k q).filterMap fun i => l.toArray[i]?) a') ((List.range' 0 k).filterMap fun i => l.toArray[i]?) a := by
    simp only [List.getElem?_toArray, pick_range, List.drop_zero]; exact h
  have hq1 := quiet_float (K := fun a' => wpQuiet P l.toArray C (fun a' => wpQuiet P l.toArray C (fun a' => ∀ w', C w' →
      wpList P l.toArray (AfterA C (fun a w => wpList P l.toArray Q (l.drop (n + 1)) a w) Q) ((l.drop n).take 1) a' w') ((List.range' (k + q) m).filterMap fun i => l.toArray[i]?) a') ((List.range' k q).filterMap fun i => l.toArray[i]?) a') _ a hmv hq0
  have hch : n + 1 ∉ List.range' k q := by rw [List.mem_range'_1]; omega
  have key := floats_first (P := P) (Q := Q) hsel hQ ((List.range' k q).length + ((List.range' (k + q) m).length + (g + 1))) (List.range' 0 k) [] _ a w inv0 (fun i hi => by cases hi) hfl (fun listed' i1 i2 i3 => by
    refine any_of_G (C := C) (d := n + 1) _ _ _ _ ?_
    refine reads_first (Kq := fun a' => wpQuiet P l.toArray C (fun a' => ∀ w', C w' →
      wpList P l.toArray (AfterA C (fun a w => wpList P l.toArray Q (l.drop (n + 1)) a w) Q) ((l.drop n).take 1) a' w') ((List.range' (k + q) m).filterMap fun i => l.toArray[i]?) a') hsel hl hch hQ _ _ listed' _ w (fun i hi => hi) ⟨i1.size, i1.closed⟩ hC i3 hq1 (fun listed2 a2 j1 j2 j3 j4 j5 j6 => ?_)
    have inv2 : HeadInv .any l.toArray n listed2 := ⟨j1.1, j1.2, fun t ht ht' => by
      rw [j4 t (by rw [List.mem_range'_1]; omega)]; exact i1.tail t ht ht'⟩
    have hfl2 : ∀ i ∈ List.range' 0 k ++ List.range' k q, listed2.getD i true = true := fun i hi => by
      rcases List.mem_append.1 hi with hi | hi
      · exact j2 i (i2 i (by simpa using hi))
      · exact j3 i hi
    have H := head_lex (P := P) (C := C) (md := .any) (g := l.toArray.size - n) hsel hs hc hnsz _ listed2 a2 inv2 hfl2 j5 j6
    refine G_of_head (Q := Q) (d := n + 1) (fun listed a' w' hw' hL => ?_) _ _ _ _ hC H
    obtain ⟨hseq, hLq⟩ := hL
    have hA := hLq w' hw'
    rw [hg] at hseq
    simp only [Region.seqB, Bool.and_eq_true, decide_eq_true_eq] at hseq
    obtain ⟨hr, hseq'⟩ := hseq
    have h0 : l.toArray[n]? = some (l[n]'(by omega)) := by simp
    have hdr : (l.drop n).take 1 = [l[n]'(by omega)] := by rw [List.drop_eq_getElem_cons (by omega)]; rfl
    rw [hdr] at hA
    have hop : wpOp P l.toArray (AfterA C (fun a w => wpList P l.toArray Q (l.drop (n + 1)) a w) Q) n (wpList P l.toArray (AfterA C (fun a w => wpList P l.toArray Q (l.drop (n + 1)) a w) Q) []) a' w' := by
      unfold wpOp; simp only [h0]; exact hA
    refine ⟨fun h1 => (by rw [hr] at h1; cases h1), fun i hi => ?_⟩
    rw [hr] at hi
    obtain rfl : i = n := by simpa using hi
    refine op_afterA (fun a3 w3 h3 => ?_) hop
    obtain ⟨hc3, hk3⟩ : C w3 ∧ wpList P l.toArray Q (l.drop (i + 1)) a3 w3 := h3
    have hdl : (l.drop (i + 1)).length = g := by have : l.toArray.size = l.length := by simp
                                                 simp; omega
    have hsizeL : listed.size = l.toArray.size ∨ True := .inr trivial
    have hany : wpAny P .any l.toArray Q g (listed.setIfInBounds i true) a3 w3 := by
      have := wpAny_of_seq (md := .any) (Q' := Q) (l.drop (i + 1)) (i + 1) (listed.setIfInBounds i true) a3 w3 (fun j => by simp [List.getElem?_drop]) (by rw [hdl]; exact hseq') hk3
      rwa [hdl] at this
    refine ⟨.inr hc3, ?_⟩
    have hg0 : 0 < g := by have : l.toArray.size = l.length := by simp
                           omega
    obtain ⟨g', rfl⟩ : ∃ g', g = g' + 1 := ⟨g - 1, by omega⟩
    simp only [Region.seqB, Bool.and_eq_true, decide_eq_true_eq] at hseq'
    refine G_at_d (fun j hj => by rw [hseq'.1] at hj; simpa using hj) ?_ hany
    have hmem : i + 1 ∈ Region.ready .any l.toArray (listed.setIfInBounds i true) := by rw [hseq'.1]; simp
    have := (mem_ready.1 hmem).1
    rcases Nat.lt_or_ge (i + 1) (listed.setIfInBounds i true).size with h' | h'
    · exact h'
    · rw [Array.getD_eq_getD_getElem?, Array.getElem?_eq_none h'] at this
      cases this)
  rw [← hsz] at key
  exact wpAny_of_held _ _ _ _ key
/-- The same, the class: the worlds that are, below B, as W was. -/
theorem any_qao {P : Program} {Q : Exit → Act → World → Prop} {a : Act} {w : World} {l : List Oper} (B : Nat) (W : World) (k q m : Nat)
    (hB : qaB .any l.toArray k q m = true) (hQ : ∀ c a d v w, Q (.panic c) (Act.put a d v) w → Q (.panic c) a w) (hC : Below B W w)
    (h : wpQuiet P l.toArray (fun _ => True) (fun a' => wpQuiet P l.toArray (fun w' => ∃ y : Over B W, w' = y.w) (fun a' => wpQuiet P l.toArray (fun w' => ∃ y : Over B W, w' = y.w) (fun a' => ∀ y : Over B W,
      wpList P l.toArray (AfterA (fun w' => ∃ y : Over B W, w' = y.w) (fun a w => wpList P l.toArray Q (l.drop (k + q + m + 1)) a w) Q) ((l.drop (k + q + m)).take 1) a' y.w) ((l.drop (k + q)).take m) a') ((l.drop k).take q) a') (l.take k) a) : wpAny P .any l.toArray Q l.toArray.size (Array.replicate l.toArray.size false) a w := by
  refine any_qa (fun w' => ∃ y : Over B W, w' = y.w) k q m hB hQ ⟨⟨w, hC⟩, rfl⟩ ?_
  have e : (fun a' => ∀ w', (∃ y : Over B W, w' = y.w) → wpList P l.toArray (AfterA (fun w' => ∃ y : Over B W, w' = y.w) (fun a w => wpList P l.toArray Q (l.drop (k + q + m + 1)) a w) Q) ((l.drop (k + q + m)).take 1) a' w') =
      (fun a' => ∀ y : Over B W, wpList P l.toArray (AfterA (fun w' => ∃ y : Over B W, w' = y.w) (fun a w => wpList P l.toArray Q (l.drop (k + q + m + 1)) a w) Q) ((l.drop (k + q + m)).take 1) a' y.w) := by
    funext a'; apply propext
    exact ⟨fun h y => h _ ⟨y, rfl⟩, fun h w' ⟨y, hy⟩ => hy ▸ h y⟩
  rw [e]; exact h
/-- The same, the class: the worlds that are, below B, as W was. -/
theorem region_qao {P : Program} {id : Nat} {Q : Exit → Act → World → Prop} {a : Act} {w : World} {l : List Oper} (B : Nat) (W : World) (k q m : Nat) (hm : P.follows .mixedOrders = true)
    (hB : qaB .any l.toArray k q m = true) (hQ : ∀ c a d v w, Q (.panic c) (Act.put a d v) w → Q (.panic c) a w) (hC : Below B W w)
    (h : wpQuiet P l.toArray (fun _ => True) (fun a' => wpQuiet P l.toArray (fun w' => ∃ y : Over B W, w' = y.w) (fun a' => wpQuiet P l.toArray (fun w' => ∃ y : Over B W, w' = y.w) (fun a' => ∀ y : Over B W,
      wpList P l.toArray (AfterA (fun w' => ∃ y : Over B W, w' = y.w) (fun a w => wpList P l.toArray Q (l.drop (k + q + m + 1)) a w) Q) ((l.drop (k + q + m)).take 1) a' y.w) ((l.drop (k + q)).take m) a') ((l.drop k).take q) a') (l.take k) a) : (Code.region id l.toArray true).wp P Q a w := by
  refine wp_region_any hm (any_qao B W k q m hB hQ hC.drew h)
end Go.Proofs.YtibelcmdfkgonaaGreat
