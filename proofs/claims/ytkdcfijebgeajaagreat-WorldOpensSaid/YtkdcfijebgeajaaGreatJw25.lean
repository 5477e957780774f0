/- A run reckoned: which operation waits for which; an order of them.
   A run reckoned: what each operation of a region met, and gave.
   A run reckoned: a region that draws its order. -/
import Derived.Test.YtkdcfijebgeajaaGreatJw24
namespace Go.Proofs.YtkdcfijebgeajaaGreat
namespace Rk
open Go.RowKit
set_option linter.unusedVariables false
set_option linter.unusedSimpArgs false
set_option linter.unusedSectionVars false
theorem bit_eq (m i : Nat) : bit m i = m.testBit i := by
  unfold bit
  rw [beqN, Nat.testBit_eq_decide_div_mod_eq]
  rfl
theorem bit_or (a b i : Nat) : bit (Nat.lor a b) i = (bit a i || bit b i) := by
  rw [bit_eq, bit_eq, bit_eq]; exact Nat.testBit_or a b i
theorem bit_pow (e i : Nat) : bit (Nat.pow 2 e) i = decide (e = i) := by
  rw [bit_eq]; exact Nat.testBit_two_pow
theorem bit_zero (i : Nat) : bit 0 i = false := by rw [bit_eq]; simp
theorem edges_spec (acc : List Nat) : ∀ (es : List Edge) (s j : Nat), bit (edgesM acc es s) j = true ↔ bit s j = true ∨ ∃ e ∈ es, Region.binds .any e = true ∧ (j = e.on ∨ ∃ m, acc[e.on]? = some m ∧ bit m j = true)
  | [], s, j => by simp [edgesM]
  | e :: es, s, j => by
    simp only [edgesM]
    rw [edges_spec acc es]
    cases hb : Region.binds .any e with
    | false => simp [hb]
    | true =>
      simp only [bit_or, bit_pow, nth?_eq, Bool.or_eq_true, decide_eq_true_eq]
      constructor
      · rintro ((h | h | h) | ⟨e', h1, h2, h3⟩)
        · exact .inl h
        · exact .inr ⟨e, by simp, hb, .inl h.symm⟩
        · right
          refine ⟨e, by simp, hb, .inr ?_⟩
          cases ha : acc[e.on]? with
          | none => rw [ha] at h; simp [bit_zero] at h
          | some m => rw [ha] at h; exact ⟨m, rfl, h⟩
        · exact .inr ⟨e', by simp [h1], h2, h3⟩
      · rintro (h | ⟨e', h1, h2, h3⟩)
        · exact .inl (.inl h)
        · rcases List.mem_cons.1 h1 with rfl | h1
          · left; right
            rcases h3 with h3 | ⟨m, h3, h4⟩
            · exact .inl h3.symm
            · right; rw [h3]; exact h4
          · exact .inr ⟨e', h1, h2, h3⟩
theorem maskOf_eq (ms : List Nat) (i : Nat) : maskOf ms i = (ms[i]?).getD 0 := by
  unfold maskOf; rw [nth?_eq]; cases ms[i]? <;> rfl
theorem masks_spec : ∀ (l : List Oper) (acc : List Nat), (masks l acc).length = acc.length + l.length ∧ (∀ i, i < acc.length → (masks l acc)[i]? = acc[i]?) ∧
    ∀ k o, l[k]? = some o → ∀ j, bit (maskOf (masks l acc) (acc.length + k)) j = true ↔ ∃ e ∈ o.after.toList, Region.binds .any e = true ∧ (j = e.on ∨ (e.on < acc.length + k ∧ bit (maskOf (masks l acc) e.on) j = true))
  | [], acc => ⟨by simp [masks], fun i hi => by simp [masks], fun k o h => by simp at h⟩
  | o :: os, acc => by
    obtain ⟨m, hm⟩ : ∃ m, m = edgesM acc o.after.toList 0 := ⟨_, rfl⟩
    have hmk : masks (o :: os) acc = masks os (acc ++ [m]) := by simp only [masks, natF_eq]; rw [hm]
    obtain ⟨h1, h2, h3⟩ := masks_spec os (acc ++ [m])
    rw [hmk]
    have hacc : ∀ i, i < acc.length → (masks os (acc ++ [m]))[i]? = acc[i]? := fun i hi => by
      rw [h2 i (by simp; omega), List.getElem?_append_left hi]
    refine ⟨by rw [h1]; simp; omega, hacc, fun k o' ho j => ?_⟩
    cases k with
    | zero =>
      simp at ho; subst ho
      have : maskOf (masks os (acc ++ [m])) (acc.length + 0) = m := by
        rw [maskOf_eq, Nat.add_zero, h2 acc.length (by simp)]; simp
      have hmb := edges_spec acc o.after.toList 0 j
      rw [← hm] at hmb
      rw [this, hmb]
      simp only [bit_zero, Bool.false_eq_true, false_or]
      constructor
      · rintro ⟨e, q1, q2, q3⟩
        refine ⟨e, q1, q2, ?_⟩
        rcases q3 with q3 | ⟨x, q3, q4⟩
        · exact .inl q3
        · right
          have hl : e.on < acc.length := (List.getElem?_eq_some_iff.1 q3).1
          exact ⟨by omega, by rw [maskOf_eq, hacc e.on hl, q3]; exact q4⟩
      · rintro ⟨e, q1, q2, q3⟩
        refine ⟨e, q1, q2, ?_⟩
        rcases q3 with q3 | ⟨q3, q4⟩
        · exact .inl q3
        · right
          rw [maskOf_eq, hacc e.on (by omega)] at q4
          have hl : e.on < acc.length := by omega
          rw [List.getElem?_eq_getElem hl] at q4
          exact ⟨acc[e.on], List.getElem?_eq_getElem hl, q4⟩
    | succ k =>
      have := h3 k o' (by simpa using ho) j
      simp only [List.length_append, List.length_cons, List.length_nil, Nat.zero_add] at this
      rw [show acc.length + (k + 1) = acc.length + 1 + k by omega]
      exact this
theorem numbered_get : ∀ (k : Nat) (l : List Oper) (ms : List Nat) (p : Nat), (numbered k l ms)[p]? = match l[p]?, ms[p]? with | some o, some m => some (k + p, o, m) | _, _ => none
  | k, [], ms, p => by cases ms <;> simp [numbered]
  | k, o :: os, [], p => by cases h : (o :: os)[p]? <;> simp [numbered]
  | k, o :: os, m :: ms, p => by
    cases p with
    | zero => simp [numbered]
    | succ p =>
      simp only [numbered, List.getElem?_cons_succ]
      rw [numbered_get (k + 1) os ms p]
      cases os[p]? <;> cases ms[p]? <;> simp
      omega
theorem mem_numbered {l : List Oper} {ms : List Nat} {x : Nat × Oper × Nat} (h : x ∈ numbered 0 l ms) : l[x.1]? = some x.2.1 ∧ maskOf ms x.1 = x.2.2 := by
  obtain ⟨p, hp⟩ := List.mem_iff_getElem?.1 h
  rw [numbered_get] at hp
  cases h1 : l[p]? with
  | none => rw [h1] at hp; cases hp
  | some o =>
    cases h2 : ms[p]? with
    | none => rw [h1, h2] at hp; cases hp
    | some m =>
      rw [h1, h2] at hp
      cases hp
      simp only [Nat.zero_add]
      exact ⟨h1, by rw [maskOf_eq, h2]; rfl⟩
theorem pairs_spec (ops : List Oper) : ∀ l : List (Nat × Oper × Nat), pairsOk ops l = true → l.Pairwise fun x y => pairOk ops x y = true
  | [], _ => List.Pairwise.nil
  | x :: xs, h => by
    simp only [pairsOk, allP_eq] at h
    split at h
    · rename_i h1
      exact List.Pairwise.cons (fun y hy => List.all_eq_true.1 h1 y hy) (pairs_spec ops xs h)
    · cases h
structure PairIs (ops : List Oper) (ms : List Nat) (i j : Nat) (oi oj : Oper) : Prop where
  dst : ∀ d, oi.dst = some d → oj.dst ≠ some d
  ord : bit (maskOf ms i) j = true ∨ bit (maskOf ms j) i = true ∨ (¬ (isEff oi.op = true ∧ isEff oj.op = true) ∧ (∀ d, oi.dst = some d → looks ops oj d = false) ∧ (∀ d, oj.dst = some d → looks ops oi d = false))
theorem PairIs.symm {ops : List Oper} {ms : List Nat} {i j : Nat} {oi oj : Oper} (h : PairIs ops ms i j oi oj) : PairIs ops ms j i oj oi :=
  ⟨fun d h1 h2 => h.dst d h2 h1, by
    rcases h.ord with h1 | h1 | ⟨h1, h2, h3⟩
    · exact .inr (.inl h1)
    · exact .inl h1
    · exact .inr (.inr ⟨fun q => h1 ⟨q.2, q.1⟩, h3, h2⟩)⟩
theorem pair_spec {ops : List Oper} {ms : List Nat} (h : pairsOk ops (numbered 0 ops ms) = true) (hl : ms.length = ops.length) {i j : Nat} {oi oj : Oper} (hi : ops[i]? = some oi) (hj : ops[j]? = some oj) (hne : i ≠ j) : PairIs ops ms i j oi oj := by
  have key : ∀ (i j : Nat) (oi oj : Oper), ops[i]? = some oi → ops[j]? = some oj → i < j → PairIs ops ms i j oi oj := fun i j oi oj hi hj hlt => by
    have hp := pairs_spec ops _ h
    have hil : i < ops.length := (List.getElem?_eq_some_iff.1 hi).1
    have hjl : j < ops.length := (List.getElem?_eq_some_iff.1 hj).1
    have gi : (numbered 0 ops ms)[i]? = some (i, oi, maskOf ms i) := by
      rw [numbered_get, hi, maskOf_eq, List.getElem?_eq_getElem (by omega : i < ms.length)]; simp
    have gj : (numbered 0 ops ms)[j]? = some (j, oj, maskOf ms j) := by
      rw [numbered_get, hj, maskOf_eq, List.getElem?_eq_getElem (by omega : j < ms.length)]; simp
    have hpl := List.pairwise_iff_getElem.1 hp i j (List.getElem?_eq_some_iff.1 gi).1 (List.getElem?_eq_some_iff.1 gj).1 hlt
    rw [(List.getElem?_eq_some_iff.1 gi).2, (List.getElem?_eq_some_iff.1 gj).2] at hpl
    unfold pairOk at hpl
    simp only [orB_eq, andB_eq, notB_eq] at hpl
    split at hpl
    · cases hpl
    · rename_i hd
      refine ⟨fun d h1 h2 => ?_, ?_⟩
      · rw [h1, h2] at hd
        simp [beqT, beqN] at hd
      · split at hpl
        · rename_i ho
          simp only [Bool.or_eq_true] at ho
          rcases ho with ho | ho
          · exact .inl ho
          · exact .inr (.inl ho)
        · simp only [Bool.and_eq_true, Bool.not_eq_true', Bool.and_eq_false_iff] at hpl
          obtain ⟨h1, h2, h3⟩ := hpl
          refine .inr (.inr ⟨fun q => ?_, fun d hd => ?_, fun d hd => ?_⟩)
          · rcases h1 with h1 | h1
            · rw [q.1] at h1; cases h1
            · rw [q.2] at h1; cases h1
          · rw [hd] at h2; exact h2
          · rw [hd] at h3; exact h3
  rcases Nat.lt_or_ge i j with h1 | h1
  · exact key i j oi oj hi hj h1
  · exact (key j i oj oi hj hi (by omega)).symm
theorem plainO_mem : ∀ (l : List (Nat × Oper × Nat)) (q : Nat × Oper), q ∈ plainO l ↔ ∃ m, (q.1, q.2, m) ∈ l
  | [], q => by simp [plainO]
  | x :: r, q => by
    simp only [plainO, List.mem_cons, plainO_mem r q]
    constructor
    · rintro (h | ⟨m, h⟩)
      · exact ⟨x.2.2, .inl (by rw [h])⟩
      · exact ⟨m, .inr h⟩
    · rintro ⟨m, h | h⟩
      · left; rw [← h]
      · exact .inr ⟨m, h⟩
theorem pick_mem (s : Nat) (want : Bool) : ∀ (l : List (Nat × Oper × Nat)) (q : Nat × Oper), q ∈ pick s want l ↔ bit s q.1 = want ∧ ∃ m, (q.1, q.2, m) ∈ l
  | [], q => by simp [pick]
  | x :: r, q => by
    simp only [pick, sameB_eq]
    split
    · rename_i h
      have h : bit s x.1 = want := by simpa using h
      simp only [List.mem_cons, pick_mem s want r q]
      constructor
      · rintro (h1 | ⟨h1, m, h2⟩)
        · subst h1; exact ⟨h, x.2.2, .inl rfl⟩
        · exact ⟨h1, m, .inr h2⟩
      · rintro ⟨h1, m, h2 | h2⟩
        · left; rw [← h2]
        · exact .inr ⟨h1, m, h2⟩
    · rename_i h
      have h : ¬ (bit s x.1 = want) := by simpa using h
      rw [pick_mem s want r q]
      constructor
      · rintro ⟨h1, m, h2⟩; exact ⟨h1, m, by simp [h2]⟩
      · rintro ⟨h1, m, h2⟩
        rcases List.mem_cons.1 h2 with h3 | h3
        · rw [← h3] at h; exact absurd h1 h
        · exact ⟨h1, m, h3⟩
theorem order_mem (l : List (Nat × Oper × Nat)) (q : Nat × Oper) : q ∈ order l ↔ ∃ m, (q.1, q.2, m) ∈ l := by
  unfold order
  split
  · exact plainO_mem l q
  · rename_i s _
    rw [List.mem_append, pick_mem, pick_mem]
    constructor
    · rintro (⟨_, h⟩ | ⟨_, h⟩) <;> exact h
    · intro h
      cases hb : bit (s + 1) q.1
      · exact .inr ⟨rfl, h⟩
      · exact .inl ⟨rfl, h⟩
structure OrdIs (ms : List Nat) (ord : List (Nat × Oper)) : Prop where
  pre : ∀ (p : Nat) (q : Nat × Oper), ord[p]? = some q → ∀ j, bit (maskOf ms q.1) j = true → ∃ (p' : Nat) (q' : Nat × Oper), p' < p ∧ ord[p']? = some q' ∧ q'.1 = j
  once : ∀ (p p' : Nat) (q q' : Nat × Oper), p < p' → ord[p]? = some q → ord[p']? = some q' → q.1 ≠ q'.1
  fresh : ∀ (p : Nat) (q : Nat × Oper), ord[p]? = some q → isFresh q.2.op = true → ∀ (p' : Nat) (q' : Nat × Oper), p' < p → ord[p']? = some q' → isEff q'.2.op = true → bit (maskOf ms q.1) q'.1 = true
theorem ord_spec (ms : List Nat) : ∀ (r pre : List (Nat × Oper)) (s : Nat) (ef : List Nat), (∀ j, bit s j = true ↔ ∃ q ∈ pre, q.1 = j) → (∀ j, (∃ q ∈ pre, isEff q.2.op = true ∧ q.1 = j) → j ∈ ef) → ordOk ms s ef r = true → OrdIs ms pre → OrdIs ms (pre ++ r)
  | [], pre, s, ef, h1, h2, h, hp => by simpa using hp
  | q :: r, pre, s, ef, h1, h2, h, hp => by
    simp only [ordOk, andB_eq, orB_eq, notB_eq, allP_eq] at h
    split at h
    · cases h
    · rename_i hc
      simp only [Bool.and_eq_true, Bool.not_eq_true', Bool.or_eq_true, beqN, decide_eq_true_eq] at hc
      obtain ⟨c1, c2, c3⟩ := hc
      have hsub : ∀ j, bit (maskOf ms q.1) j = true → bit s j = true := fun j hj => by rw [← c1, bit_or, hj]; simp
      have e : pre ++ q :: r = (pre ++ [q]) ++ r := by simp
      rw [e]
      refine ord_spec ms r (pre ++ [q]) _ _ (fun j => ?_) (fun j => ?_) h ⟨fun p q' hq j hj => ?_, fun p p' x y hlt hx hy => ?_, fun p x hx hf p' y hlt hy hef => ?_⟩
      · rw [bit_or, bit_pow, Bool.or_eq_true, h1 j, decide_eq_true_eq]
        constructor
        · rintro (⟨x, k1, k2⟩ | k)
          · exact ⟨x, by simp [k1], k2⟩
          · exact ⟨q, by simp, k⟩
        · rintro ⟨x, k1, k2⟩
          rcases List.mem_append.1 k1 with k1 | k1
          · exact .inl ⟨x, k1, k2⟩
          · have : x = q := by simpa using k1
            subst this; exact .inr k2
      · rintro ⟨x, k1, k2, k3⟩
        rcases List.mem_append.1 k1 with k1 | k1
        · have := h2 j ⟨x, k1, k2, k3⟩
          split
          · exact List.mem_cons_of_mem _ this
          · exact this
        · have : x = q := by simpa using k1
          subst this
          rw [k2]
          simp [k3]
      · by_cases hpl : p < pre.length
        · rw [List.getElem?_append_left hpl] at hq
          obtain ⟨p', q2, k1, k2, k3⟩ := hp.pre p q' hq j hj
          exact ⟨p', q2, k1, by rw [List.getElem?_append_left (by omega)]; exact k2, k3⟩
        · have hpe : p = pre.length := by
            have := (List.getElem?_eq_some_iff.1 hq).1
            simp at this; omega
          subst hpe
          have : q' = q := by simpa using hq.symm
          subst this
          obtain ⟨x, k1, k2⟩ := (h1 j).1 (hsub j hj)
          obtain ⟨p', hp'⟩ := List.mem_iff_getElem?.1 k1
          have := (List.getElem?_eq_some_iff.1 hp').1
          exact ⟨p', x, this, by rw [List.getElem?_append_left this]; exact hp', k2⟩
      · by_cases hpl : p' < pre.length
        · rw [List.getElem?_append_left (by omega)] at hx
          rw [List.getElem?_append_left hpl] at hy
          exact hp.once p p' x y hlt hx hy
        · have hpe : p' = pre.length := by
            have := (List.getElem?_eq_some_iff.1 hy).1
            simp at this; omega
          subst hpe
          have : y = q := by simpa using hy.symm
          subst this
          rw [List.getElem?_append_left hlt] at hx
          intro heq
          have : bit s y.1 = true := (h1 y.1).2 ⟨x, List.mem_iff_getElem?.2 ⟨p, hx⟩, heq⟩
          rw [c2] at this; cases this
      · by_cases hpl : p < pre.length
        · rw [List.getElem?_append_left hpl] at hx
          rw [List.getElem?_append_left (by omega)] at hy
          exact hp.fresh p x hx hf p' y hlt hy hef
        · have hpe : p = pre.length := by
            have := (List.getElem?_eq_some_iff.1 hx).1
            simp at this; omega
          subst hpe
          have : x = q := by simpa using hx.symm
          subst this
          rw [List.getElem?_append_left hlt] at hy
          rcases c3 with c3 | c3
          · rw [hf] at c3; cases c3
          · exact List.all_eq_true.1 c3 _ (h2 y.1 ⟨y, List.mem_iff_getElem?.2 ⟨p', hy⟩, hef, rfl⟩)
theorem ordIs {ms : List Nat} {ord : List (Nat × Oper)} (h : ordOk ms 0 [] ord = true) : OrdIs ms ord := by
  have := ord_spec ms ord [] 0 [] (fun j => by simp [bit_zero]) (fun j h => by obtain ⟨q, k, _⟩ := h; cases k) h ⟨fun p q h => by simp at h, fun p p' q q' _ h => by simp at h, fun p q h => by simp at h⟩
  simpa using this
end Rk
end Go.Proofs.YtkdcfijebgeajaaGreat

namespace Go.Proofs.YtkdcfijebgeajaaGreat
namespace Rk
open Go.RowKit
set_option linter.unusedVariables false
set_option linter.unusedSimpArgs false
set_option linter.unusedSectionVars false
def putT (t : Tm) (d : Option Tmp) (v : Value) : Tm := match d with | some d => t.put d v | none => t
theorem nth_put (t : Tm) (d : Nat) (v : Value) (x : Nat) : nth (t.put d v) x = if x = d then v else nth t x := by
  unfold nth
  rw [row_put_get]
  by_cases h : x = d <;> simp [h]
theorem putD_eq {β : Type} {t : Tm} {d : Option Tmp} {v : Value} {k : Tm → Option β} {x : β} (h : putD t d v k = some x) : k (putT t d v) = some x ∧ ∀ q, d = some q → q < t.n := by
  cases d with
  | none => exact ⟨h, fun q e => by cases e⟩
  | some d =>
    simp only [putD, row_putK] at h
    split at h
    · rename_i hd
      exact ⟨h, fun q e => by cases e; exact hd⟩
    · cases h
structure RecOk (E : Env) (go : Task → Option Res) (ops : List Oper) (r : Rec) : Prop where
  w : r.w = wantA ops r.t r.o
  no : r.w = false → r.v = undef ∧ r.σ' = r.σ
  yes : r.w = true → evOp E go r.t r.σ r.o.op = some (r.v, r.σ')
  dst : ∀ d, r.o.dst = some d → d < r.t.n
inductive Chain (E : Env) (go : Task → Option Res) (ops : List Oper) : List Rec → Tm → AH → Tm → AH → Prop
  | nil (t : Tm) (σ : AH) : Chain E go ops [] t σ t σ
  | cons (r : Rec) (rs : List Rec) (t' : Tm) (σ' : AH) (h : RecOk E go ops r) (k : Chain E go ops rs (putT r.t r.o.dst r.v) r.σ' t' σ') : Chain E go ops (r :: rs) r.t r.σ t' σ'
theorem recs_chain {E : Env} {go : Task → Option Res} {ops : List Oper} : ∀ (l : List (Nat × Oper)) (t : Tm) (σ : AH) (rs : List Rec) (t' : Tm) (σ' : AH), evRecs E go ops l t σ = some (rs, t', σ') →
    Chain E go ops rs t σ t' σ' ∧ rs.map (fun r => (r.i, r.o)) = l
  | [], t, σ, rs, t', σ', h => by simp [evRecs] at h; obtain ⟨rfl, rfl, rfl⟩ := h; exact ⟨.nil t σ, rfl⟩
  | q :: l, t, σ, rs, t', σ', h => by
    simp only [evRecs] at h
    have cons : ∀ (r : Rec) (x : Option (List Rec × Tm × AH)), consR r x = some (rs, t', σ') → ∃ rs', rs = r :: rs' ∧ x = some (rs', t', σ') := fun r x hx => by
      cases x with
      | none => cases hx
      | some y => obtain ⟨a, b⟩ := y; simp only [consR] at hx; cases hx; exact ⟨a, rfl, rfl⟩
    split at h
    · rename_i hw
      obtain ⟨h1, h2⟩ := putD_eq h
      obtain ⟨rs', rfl, h3⟩ := cons _ _ h1
      obtain ⟨k1, k2⟩ := recs_chain l _ _ rs' t' σ' h3
      exact ⟨.cons ⟨q.1, q.2, t, σ, false, undef, σ⟩ rs' t' σ' ⟨hw.symm, fun _ => ⟨rfl, rfl⟩, fun e => (by cases e), h2⟩ k1, by simp [k2]⟩
    · rename_i hw
      split at h
      · cases h
      · rename_i v σ1 hop
        rw [forceV_eq] at h
        obtain ⟨h1, h2⟩ := putD_eq h
        obtain ⟨rs', rfl, h3⟩ := cons _ _ h1
        obtain ⟨k1, k2⟩ := recs_chain l _ _ rs' t' σ' h3
        exact ⟨.cons ⟨q.1, q.2, t, σ, true, v, σ1⟩ rs' t' σ' ⟨hw.symm, fun e => (by cases e), fun _ => hop, h2⟩ k1, by simp [k2]⟩
def Tat (rs : List Rec) (t' : Tm) (p : Nat) : Tm := match rs[p]? with | some r => r.t | none => t'
def Hat (rs : List Rec) (σ' : AH) (p : Nat) : AH := match rs[p]? with | some r => r.σ | none => σ'
section
variable {E : Env} {go : Task → Option Res} {ops : List Oper} {rs : List Rec} {t t' : Tm} {σ σ' : AH}
theorem chain_at (h : Chain E go ops rs t σ t' σ') : (Tat rs t' 0 = t ∧ Hat rs σ' 0 = σ) ∧ ∀ p r, rs[p]? = some r → RecOk E go ops r ∧ Tat rs t' (p + 1) = putT r.t r.o.dst r.v ∧ Hat rs σ' (p + 1) = r.σ' := by
  induction h with
  | nil t σ => exact ⟨⟨rfl, rfl⟩, fun p r h => by simp at h⟩
  | cons r rs t' σ' hr k ih =>
    refine ⟨⟨rfl, rfl⟩, fun p r' hp => ?_⟩
    cases p with
    | zero =>
      simp at hp; subst hp
      refine ⟨hr, ?_, ?_⟩
      · show Tat (r :: rs) t' 1 = _
        have : Tat (r :: rs) t' 1 = Tat rs t' 0 := by simp [Tat]
        rw [this, ih.1.1]
      · have : Hat (r :: rs) σ' 1 = Hat rs σ' 0 := by simp [Hat]
        rw [this, ih.1.2]
    | succ p =>
      have hp' : rs[p]? = some r' := by simpa using hp
      obtain ⟨q1, q2, q3⟩ := ih.2 p r' hp'
      refine ⟨q1, ?_, ?_⟩
      · have : Tat (r :: rs) t' (p + 1 + 1) = Tat rs t' (p + 1) := by simp [Tat]
        rw [this]; exact q2
      · have : Hat (r :: rs) σ' (p + 1 + 1) = Hat rs σ' (p + 1) := by simp [Hat]
        rw [this]; exact q3
theorem Tat_some {p : Nat} {r : Rec} (h : rs[p]? = some r) : Tat rs t' p = r.t := by simp [Tat, h]
theorem Hat_some {p : Nat} {r : Rec} (h : rs[p]? = some r) : Hat rs σ' p = r.σ := by simp [Hat, h]
theorem Hat_end : Hat rs σ' rs.length = σ' := by simp [Hat]
theorem Tat_end : Tat rs t' rs.length = t' := by simp [Tat]
def OnceD (rs : List Rec) : Prop := ∀ (p q : Nat) (r s : Rec) (d : Tmp), rs[p]? = some r → rs[q]? = some s → r.o.dst = some d → s.o.dst = some d → p = q
theorem nth_at (h : Chain E go ops rs t σ t' σ') (hd : OnceD rs) : ∀ p, p ≤ rs.length → (Tat rs t' p).n = t.n ∧ (Tat rs t' p).d = t.d ∧ ∀ x, (∀ q r, q < p → rs[q]? = some r → r.o.dst = some x → nth (Tat rs t' p) x = r.v) ∧ ((∀ q r, q < p → rs[q]? = some r → r.o.dst ≠ some x) → nth (Tat rs t' p) x = nth t x)
  | 0, _ => by rw [(chain_at h).1.1]; exact ⟨rfl, rfl, fun x => ⟨fun q r hq => absurd hq (Nat.not_lt_zero _), fun _ => rfl⟩⟩
  | p + 1, hp => by
    obtain ⟨i1, i2, i3⟩ := nth_at h hd p (by omega)
    have hr : rs[p]? = some (rs[p]'(by omega)) := List.getElem?_eq_getElem (by omega)
    obtain ⟨k1, k2, k3⟩ := (chain_at h).2 p _ hr
    have hT := Tat_some (t' := t') hr
    generalize rs[p]'(by omega) = r at *
    rw [hT] at i1 i2 i3
    rw [k2]
    refine ⟨?_, ?_, fun x => ⟨fun q s hq hs hx => ?_, fun hno => ?_⟩⟩
    · unfold putT; split <;> exact i1
    · unfold putT; split <;> exact i2
    · by_cases hqp : q = p
      · subst hqp
        rw [hr] at hs; cases hs
        unfold putT
        rw [hx]
        simp only [nth_put, if_true]
      · have h1 := (i3 x).1 q s (by omega) hs hx
        unfold putT
        split
        · rename_i d hd2
          rw [nth_put]
          have : x ≠ d := fun e => by subst e; exact hqp (hd q p s r x hs hr hx hd2)
          rw [if_neg this]; exact h1
        · exact h1
    · have h1 := (i3 x).2 fun q s hq hs => hno q s (by omega) hs
      unfold putT
      split
      · rename_i d hd2
        rw [nth_put]
        have : x ≠ d := fun e => by subst e; exact hno p r (by omega) hr hd2
        rw [if_neg this]; exact h1
      · exact h1
theorem next_at (h : Chain E go ops rs t σ t' σ') (hn : ∀ r ∈ rs, r.σ.next ≤ r.σ'.next) {p : Nat} : ∀ (d : Nat), p + d ≤ rs.length → (Hat rs σ' p).next ≤ (Hat rs σ' (p + d)).next
  | 0, _ => Nat.le_refl _
  | d + 1, hd => by
    have ih := next_at (p := p) h hn d (by omega)
    have hr : rs[p + d]? = some (rs[p + d]'(by omega)) := List.getElem?_eq_getElem (by omega)
    obtain ⟨_, _, k3⟩ := (chain_at h).2 (p + d) _ hr
    have := hn _ (List.mem_iff_getElem?.2 ⟨p + d, hr⟩)
    rw [Hat_some hr] at ih
    rw [show p + (d + 1) = p + d + 1 by omega, k3]
    omega
end
theorem looks_false {ops : List Oper} {o : Oper} {d : Tmp} (h : looks ops o d = false) : (∀ x ∈ o.op.operands, x ≠ .tmp d) ∧ ∀ g og, o.guard = some g → ops[g.1]? = some og → og.dst ≠ some d := by
  have key : ∀ l : List Operand, looksIn d l = false → ∀ x ∈ l, x ≠ .tmp d := by
    intro l
    induction l with
    | nil => intro _ x hx; cases hx
    | cons y ys ih =>
      intro h x hx e
      simp only [looksIn] at h
      cases y with
      | tmp q =>
        simp only at h
        split at h
        · cases h
        · rename_i hb
          rw [beqN] at hb
          have hb := of_decide_eq_false hb
          rcases List.mem_cons.1 hx with rfl | hx
          · cases e; exact hb rfl
          · exact ih h x hx e
      | _ =>
        simp only at h
        rcases List.mem_cons.1 hx with rfl | hx
        · cases e
        · exact ih h x hx e
  unfold looks at h
  split at h
  · cases h
  · rename_i hl
    refine ⟨fun x hx => key _ hl x (by simpa using hx), fun g og hg ho e => ?_⟩
    rw [hg] at h
    simp only [nth?_eq, ho, e] at h
    rw [beqN] at h
    simp at h
theorem want_congr {ops : List Oper} {o : Oper} {t1 t2 : Tm} (h : ∀ d, looks ops o d = true → nth t1 d = nth t2 d) : wantA ops t1 o = wantA ops t2 o := by
  unfold wantA
  cases hg : o.guard with
  | none => rfl
  | some g =>
    simp only [nth?_eq]
    cases ho : ops[g.1]? with
    | none => rfl
    | some og =>
      simp only
      cases hd : og.dst with
      | none => rfl
      | some d =>
        simp only
        have : looks ops o d = true := by
          cases hl : looks ops o d with
          | true => rfl
          | false => exact absurd hd ((looks_false hl).2 g og hg ho)
        rw [h d this]
theorem ev_look {ops : List Oper} {o : Oper} {t1 t2 : Tm} (h : ∀ d, looks ops o d = true → nth t1 d = nth t2 d) : ∀ x ∈ o.op.operands, ev t1 x = ev t2 x := fun x hx => ev_congr fun d e => by
  refine h d ?_
  cases hl : looks ops o d with
  | true => rfl
  | false => exact absurd e ((looks_false hl).1 x hx)
theorem rec_calm {E : Env} {go : Task → Option Res} {ops : List Oper} {r : Rec} (h : RecOk E go ops r) (he : isEff r.o.op = false) :
    (r.w = false ∧ r.σ' = r.σ) ∨ (r.w = true ∧ isFresh r.o.op = false ∧ r.σ' = r.σ) ∨ ∃ x f, r.w = true ∧ isFresh r.o.op = true ∧ evFresh E r.t r.o.op = some (x, f) ∧ r.v = f r.σ.next ∧ r.σ' = r.σ.new x := by
  cases hw : r.w with
  | false => exact .inl ⟨rfl, (h.no hw).2⟩
  | true =>
    right
    have := h.yes hw
    unfold evOp at this
    unfold isEff at he
    unfold isFresh
    split at this
    · rename_i hc
      left
      rw [hc]
      cases hs : evStill E r.t r.o.op with
      | none => rw [hs] at this; cases this
      | some v => rw [hs] at this; simp only [withH] at this; injection this with this; injection this with _ this; exact ⟨rfl, rfl, this.symm⟩
    · rename_i hc
      left
      rw [hc]
      cases hs : evRead E r.t r.σ r.o.op with
      | none => rw [hs] at this; cases this
      | some v => rw [hs] at this; simp only [withH] at this; injection this with this; injection this with _ this; exact ⟨rfl, rfl, this.symm⟩
    · rename_i hc
      right
      rw [hc]
      cases hs : evFresh E r.t r.o.op with
      | none => rw [hs] at this; cases this
      | some p =>
        obtain ⟨x, f⟩ := p
        rw [hs] at this
        have e : fresh r.σ (some (x, f)) = some (f r.σ.next, r.σ.new x) := by
          generalize r.σ = s
          obtain ⟨n, tr⟩ := s
          simp [fresh, ah_newK]
        rw [e] at this
        injection this with this
        injection this with h1 h2
        exact ⟨x, f, rfl, rfl, rfl, h1.symm, h2.symm⟩
    · rename_i hc
      rw [hc] at he; cases he
    · cases this
end Rk
end Go.Proofs.YtkdcfijebgeajaaGreat

namespace Go.Proofs.YtkdcfijebgeajaaGreat
namespace Rk
open Go.RowKit
set_option linter.unusedVariables false
set_option linter.unusedSimpArgs false
set_option linter.unusedSectionVars false
theorem readsAt_spec {E : Env} {ms : List Nat} {σ : AH} {past coming : List Nat} : ∀ {rs : List Rec}, readsAt E ms σ past coming rs = true → ∀ r ∈ rs, isRead r.o.op = true → r.w = true → readOk E ms r σ past coming = true
  | [], _, r, hr, _, _ => by cases hr
  | s :: rs, h, r, hr, h1, h2 => by
    simp only [readsAt, andB_eq] at h
    rcases List.mem_cons.1 hr with rfl | hr
    · rw [h1, h2] at h
      simp only [Bool.and_self] at h
      split at h
      · assumption
      · cases h
    · split at h
      · split at h
        · exact readsAt_spec h r hr h1 h2
        · cases h
      · exact readsAt_spec h r hr h1 h2
theorem effsOf_mem : ∀ {rs : List Rec} {j : Nat}, j ∈ effsOf rs ↔ ∃ r ∈ rs, isEff r.o.op = true ∧ r.i = j
  | [], j => by simp [effsOf]
  | r :: rs, j => by
    simp only [effsOf]
    split
    · rename_i h
      rw [List.mem_cons, effsOf_mem]
      constructor
      · rintro (h1 | ⟨s, h1, h2⟩)
        · exact ⟨r, by simp, h, h1.symm⟩
        · exact ⟨s, by simp [h1], h2⟩
      · rintro ⟨s, h1, h2, h3⟩
        rcases List.mem_cons.1 h1 with rfl | h1
        · exact .inl h3.symm
        · exact .inr ⟨s, h1, h2, h3⟩
    · rename_i h
      rw [effsOf_mem]
      constructor
      · rintro ⟨s, h1, h2⟩; exact ⟨s, by simp [h1], h2⟩
      · rintro ⟨s, h1, h2, h3⟩
        rcases List.mem_cons.1 h1 with rfl | h1
        · rw [h2] at h; cases h
        · exact ⟨s, h1, h2, h3⟩
theorem readsOk_spec {E : Env} {ms : List Nat} {all : List Rec} : ∀ {rs : List Rec} {past : List Nat}, readsOk E ms all past rs = true → ∀ (p : Nat) (r : Rec), rs[p]? = some r → isEff r.o.op = true →
    ∃ past' coming', readsAt E ms r.σ past' coming' all = true ∧ (∀ j ∈ past', j ∈ past ∨ ∃ (q : Nat) (s : Rec), q < p ∧ rs[q]? = some s ∧ isEff s.o.op = true ∧ s.i = j) ∧ (∀ j ∈ coming', ∃ (q : Nat) (s : Rec), p ≤ q ∧ rs[q]? = some s ∧ isEff s.o.op = true ∧ s.i = j)
  | [], past, _, p, r, hp, _ => by simp at hp
  | s :: rs, past, h, p, r, hp, he => by
    simp only [readsOk] at h
    cases p with
    | zero =>
      simp at hp; subst hp
      rw [he] at h
      simp only at h
      split at h
      · rename_i h1
        refine ⟨past, _, h1, fun j hj => .inl hj, fun j hj => ?_⟩
        rcases List.mem_cons.1 hj with rfl | hj
        · exact ⟨0, s, Nat.le_refl _, rfl, he, rfl⟩
        · obtain ⟨x, k1, k2, k3⟩ := effsOf_mem.1 hj
          obtain ⟨q, hq⟩ := List.mem_iff_getElem?.1 k1
          exact ⟨q + 1, x, Nat.zero_le _, by simpa using hq, k2, k3⟩
      · cases h
    | succ p =>
      have hp' : rs[p]? = some r := by simpa using hp
      have lift : ∀ past2, readsOk E ms all past2 rs = true → (∀ j ∈ past2, j ∈ past ∨ (isEff s.o.op = true ∧ s.i = j)) →
          ∃ past' coming', readsAt E ms r.σ past' coming' all = true ∧ (∀ j ∈ past', j ∈ past ∨ ∃ (q : Nat) (x : Rec), q < p + 1 ∧ (s :: rs)[q]? = some x ∧ isEff x.o.op = true ∧ x.i = j) ∧ (∀ j ∈ coming', ∃ (q : Nat) (x : Rec), p + 1 ≤ q ∧ (s :: rs)[q]? = some x ∧ isEff x.o.op = true ∧ x.i = j) := fun past2 h2 hp2 => by
        obtain ⟨a, b, k1, k2, k3⟩ := readsOk_spec h2 p r hp' he
        refine ⟨a, b, k1, fun j hj => ?_, fun j hj => ?_⟩
        · rcases k2 j hj with k | ⟨q, x, q1, q2, q3, q4⟩
          · rcases hp2 j k with k | ⟨k, k'⟩
            · exact .inl k
            · exact .inr ⟨0, s, by omega, rfl, k, k'⟩
          · exact .inr ⟨q + 1, x, by omega, by simpa using q2, q3, q4⟩
        · obtain ⟨q, x, q1, q2, q3, q4⟩ := k3 j hj
          exact ⟨q + 1, x, by omega, by simpa using q2, q3, q4⟩
      split at h
      · rename_i hs
        split at h
        · exact lift _ h fun j hj => by
            rcases List.mem_cons.1 hj with rfl | hj
            · exact .inr ⟨hs, rfl⟩
            · exact .inl hj
        · cases h
      · exact lift _ h fun j hj => .inl hj
theorem readOk_spec {E : Env} {ms : List Nat} {r : Rec} {σ : AH} {past coming : List Nat} (h : readOk E ms r σ past coming = true) (h1 : ∀ j ∈ past, bit (maskOf ms j) r.i = false) (h2 : ∀ j ∈ coming, bit (maskOf ms r.i) j = false) : evRead E r.t σ r.o.op = some r.v := by
  unfold readOk at h
  have e : andB (allP (fun j => notB (bit (maskOf ms j) r.i)) past) (allP (fun j => notB (bit (maskOf ms r.i) j)) coming) = true := by
    simp only [andB_eq, allP_eq, notB_eq, Bool.and_eq_true, List.all_eq_true, Bool.not_eq_true']
    exact ⟨h1, h2⟩
  rw [e] at h
  simp only at h
  split at h
  · rename_i v hv
    rw [hv, sameV_eq h]
  · cases h
structure DrawIs (E : Env) (go : Task → Option Res) (ops : List Oper) (rs : List Rec) (t : Tm) (σ : AH) (t' : Tm) (σ' : AH) (ms : List Nat) : Prop where
  chain : Chain E go ops rs t σ t' σ'
  masks : ∀ i o, ops[i]? = some o → ∀ j, bit (maskOf ms i) j = true ↔ ∃ e ∈ o.after.toList, Region.binds .any e = true ∧ (j = e.on ∨ (e.on < i ∧ bit (maskOf ms e.on) j = true))
  pairs : ∀ (i j : Nat) (oi oj : Oper), ops[i]? = some oi → ops[j]? = some oj → i ≠ j → PairIs ops ms i j oi oj
  recs : ∀ (p : Nat) (r : Rec), rs[p]? = some r → ops[r.i]? = some r.o
  all : ∀ i o, ops[i]? = some o → ∃ (p : Nat) (r : Rec), rs[p]? = some r ∧ r.i = i
  pre : ∀ (p : Nat) (r : Rec), rs[p]? = some r → ∀ j, bit (maskOf ms r.i) j = true → ∃ (p' : Nat) (r' : Rec), p' < p ∧ rs[p']? = some r' ∧ r'.i = j
  once : ∀ (p q : Nat) (r s : Rec), rs[p]? = some r → rs[q]? = some s → r.i = s.i → p = q
  fresh : ∀ (p : Nat) (r : Rec), rs[p]? = some r → isFresh r.o.op = true → ∀ (p' : Nat) (r' : Rec), p' < p → rs[p']? = some r' → isEff r'.o.op = true → bit (maskOf ms r.i) r'.i = true
  next : ∀ r ∈ rs, r.σ.next ≤ r.σ'.next
  reads : ∀ p, p ≤ rs.length → (p = rs.length ∨ ∃ r : Rec, rs[p]? = some r ∧ isEff r.o.op = true) → ∀ (q : Nat) (s : Rec), rs[q]? = some s → isRead s.o.op = true → s.w = true →
    (∀ (p' : Nat) (r' : Rec), p' < p → rs[p']? = some r' → isEff r'.o.op = true → bit (maskOf ms r'.i) s.i = false) → (∀ (p' : Nat) (r' : Rec), p ≤ p' → rs[p']? = some r' → isEff r'.o.op = true → bit (maskOf ms s.i) r'.i = false) → evRead E s.t (Hat rs σ' p) s.o.op = some s.v
theorem draw_is {E : Env} {go : Task → Option Res} {ops : List Oper} {t t' : Tm} {σ σ' : AH} (h : evDraw E go ops t σ = some (t', σ')) : ∃ rs ms, DrawIs E go ops rs t σ t' σ' ms := by
  unfold evDraw at h
  simp only at h
  split at h
  · cases h
  · rename_i rs t1 σ1 hr
    split at h
    · rename_i hd
      cases h
      obtain ⟨ms, hms⟩ : ∃ ms, ms = masks ops [] := ⟨_, rfl⟩
      rw [← hms] at hr hd
      obtain ⟨m1, m2, m3⟩ := masks_spec ops []
      rw [← hms] at m1 m3
      have hml : ms.length = ops.length := by simpa using m1
      obtain ⟨k1, k2⟩ := recs_chain _ _ _ _ _ _ hr
      unfold drawOk at hd
      simp only [andB_eq, Bool.and_eq_true] at hd
      obtain ⟨d1, d2, d3, d4, d5⟩ := hd
      have ho := ordIs d2
      have hget : ∀ (p : Nat) (r : Rec), rs[p]? = some r → (order (numbered 0 ops ms))[p]? = some (r.i, r.o) := fun p r hp => by
        rw [← k2, List.getElem?_map, hp]; rfl
      have hget2 : ∀ (p : Nat) (q : Nat × Oper), (order (numbered 0 ops ms))[p]? = some q → ∃ r : Rec, rs[p]? = some r ∧ q = (r.i, r.o) := fun p q hp => by
        rw [← k2, List.getElem?_map] at hp
        cases hr : rs[p]? with
        | none => rw [hr] at hp; cases hp
        | some r => rw [hr] at hp; cases hp; exact ⟨r, rfl, rfl⟩
      refine ⟨rs, ms, k1, fun i o hi j => by have := m3 i o hi j; simpa using this, fun i j oi oj hi hj hne => pair_spec d1 hml hi hj hne, fun p r hp => ?_, fun i o hi => ?_, fun p r hp j hj => ?_, fun p q r s hp hq he => ?_, fun p r hp hf p' r' hlt hp' hef => ?_, fun r hr => ?_, ?_⟩
      · have := List.mem_iff_getElem?.2 ⟨p, hget p r hp⟩
        obtain ⟨m, hm⟩ := (order_mem _ _).1 this
        exact (mem_numbered hm).1
      · have hin : (i, o, maskOf ms i) ∈ numbered 0 ops ms := List.mem_iff_getElem?.2 ⟨i, by
          have hil : i < ops.length := (List.getElem?_eq_some_iff.1 hi).1
          rw [numbered_get, hi, maskOf_eq, List.getElem?_eq_getElem (by omega : i < ms.length)]; simp⟩
        obtain ⟨p, hp⟩ := List.mem_iff_getElem?.1 ((order_mem _ (i, o)).2 ⟨_, hin⟩)
        obtain ⟨r, hr1, hr2⟩ := hget2 p _ hp
        cases hr2
        exact ⟨p, r, hr1, rfl⟩
      · obtain ⟨p', q', h1, h2, h3⟩ := ho.pre p _ (hget p r hp) j hj
        obtain ⟨r', hr1, hr2⟩ := hget2 p' q' h2
        exact ⟨p', r', h1, hr1, by rw [hr2] at h3; exact h3⟩
      · rcases Nat.lt_trichotomy p q with h1 | h1 | h1
        · exact absurd he (ho.once p q _ _ h1 (hget p r hp) (hget q s hq))
        · exact h1
        · exact absurd he.symm (ho.once q p _ _ h1 (hget q s hq) (hget p r hp))
      · exact ho.fresh p _ (hget p r hp) hf p' _ hlt (hget p' r' hp') hef
      · rw [allP_eq] at d3
        have := List.all_eq_true.1 d3 r hr
        rw [bleN] at this
        exact of_decide_eq_true this
      · intro p hpl hp q s hs hrd hw h1 h2
        rcases hp with rfl | ⟨r, hr1, hr2⟩
        · rw [Hat_end]
          refine readOk_spec (readsAt_spec d5 s (List.mem_iff_getElem?.2 ⟨q, hs⟩) hrd hw) (fun j hj => ?_) (fun j hj => by cases hj)
          obtain ⟨x, q1, q2, q3⟩ := effsOf_mem.1 hj
          obtain ⟨p', hp'⟩ := List.mem_iff_getElem?.1 q1
          rw [← q3]
          exact h1 p' x (List.getElem?_eq_some_iff.1 hp').1 hp' q2
        · rw [Hat_some hr1]
          obtain ⟨past, coming, q1, q2, q3⟩ := readsOk_spec d4 p r hr1 hr2
          refine readOk_spec (readsAt_spec q1 s (List.mem_iff_getElem?.2 ⟨q, hs⟩) hrd hw) (fun j hj => ?_) (fun j hj => ?_)
          · rcases q2 j hj with q2 | ⟨p', x, z1, z2, z3, z4⟩
            · cases q2
            · rw [← z4]; exact h1 p' x z1 z2 z3
          · obtain ⟨p', x, z1, z2, z3, z4⟩ := q3 j hj
            rw [← z4]; exact h2 p' x z1 z2 z3
    · cases h
end Rk
end Go.Proofs.YtkdcfijebgeajaaGreat
