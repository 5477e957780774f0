/- Layer 20's law, plain: a store gone through a load a step, and the same store read. No program here.
   Layer 20 (mark): a mark's row of cells; its small methods. -/
import Derived.Test.YtibelcmdfkgonaaGreatJ24
import Derived.Test.YtibelcmdfkgonaaGreatJ20
import Derived.Laws.EntriesVeiled
namespace Go.Proofs.YtibelcmdfkgonaaGreat
set_option linter.unusedVariables false

/-- A link's parts: the slot and 1 more, the thread and 1 more. -/
def lo (x : Nat) : Nat := x % 4294967296
def hi (x : Nat) : Nat := x / 4294967296 % 128
/-- May a link be? -/
def rightL (S T x : Nat) : Prop := x % 9223372036854775808 = lo x + hi x * 4294967296 ∧ lo x ≤ S ∧ hi x ≤ T
instance (S T x : Nat) : Decidable (rightL S T x) := by unfold rightL; infer_instance
/-- What is the same for all: slots, threads, where a slot's line lies, the lists' heads, which list a key may be in, the words. -/
structure Gd where
  S : Nat
  T : Nat
  B : Nat
  at_ : Nat
  heads : List Nat
  bucket : Nat → Nat
  w : Nat → Nat
def Gd.key (g : Gd) (s : Nat) : Nat := g.w ((g.at_ + s) * 8 + 1)
def Gd.val (g : Gd) (s : Nat) : Nat := g.w ((g.at_ + s) * 8 + 2)
def Gd.next (g : Gd) (s : Nat) : Nat := g.w ((g.at_ + s) * 8 + 3)
structure Node where
  slot : Nat
  list : Nat
  link : Nat
  val : Nat
/-- What a mark holds. pc: 0 heads, 1 keys, 2 values, 3 links, 4 done. slot: the slot and 1 more. -/
structure MS where
  pc : Nat
  list : Nat
  met : Nat → Bool
  corrupt : Bool
  heads : List Nat
  nodes : List Node
  slot : Nat
  first : Bool
  above : Bool
  key : Nat
  free : Bool
  val : Nat
def MS.fail (s : MS) : MS := { s with corrupt := true, pc := 4 }
def addMet (m : Nat → Bool) (k : Nat) : Nat → Bool := fun j => if j = k then true else m j
def MS.over (g : Gd) (s : MS) : MS :=
  if s.list = 0 ∧ s.free = false then s.fail
  else { s with list := s.list + 1, pc := if s.list + 1 = g.heads.length then 4 else 0 }
def MS.goOn (g : Gd) (s : MS) (x : Nat) : MS :=
  if lo x = 0 then MS.over g { s with slot := 0, val := 0 }
  else if s.met (lo x - 1) = true then MS.fail { s with slot := lo x, val := 0 }
  else { s with slot := lo x, val := 0, met := addMet s.met (lo x - 1), pc := if s.list ≠ 0 then 1 else if s.first = true then 3 else 2 }
def MS.head (g : Gd) (s : MS) (x : Nat) : MS :=
  if ¬ rightL g.S g.T x ∨ hi x ≠ 0 ∨ (s.list = 0 ∧ lo x = 0) then MS.fail { s with heads := s.heads ++ [x], first := true, above := false, free := false }
  else MS.goOn g { s with heads := s.heads ++ [x], first := true, above := false, free := false } x
def MS.keyed (g : Gd) (s : MS) (k : Nat) : MS :=
  if k / 4294967296 ≠ 0 ∨ (s.above = true ∧ k ≤ s.key) ∨ (2 ≤ s.list ∧ g.bucket k ≠ s.list - 2) then s.fail
  else { s with key := k, above := true, pc := 2 }
def MS.valued (s : MS) (v : Nat) : MS :=
  if v / 4294967296 ≠ 0 then s.fail else { s with val := v, pc := 3 }
def MS.linked (g : Gd) (s : MS) (x : Nat) : MS :=
  if ¬ rightL g.S g.T x ∨ (s.list = 0 ∧ s.free = true ∧ hi x ≠ 0) then s.fail
  else MS.goOn g { s with nodes := s.nodes ++ [⟨s.slot - 1, s.list, x, s.val⟩], free := decide (hi x = 0), first := false } x
/-- A step. -/
def MS.step (g : Gd) (s : MS) : MS :=
  if s.pc = 4 then s
  else if s.pc = 0 then s.head g (g.w (g.heads[s.list]?.getD 0))
  else if s.pc = 1 then s.keyed g (g.key (s.slot - 1))
  else if s.pc = 2 then s.valued (g.val (s.slot - 1))
  else s.linked g (g.next (s.slot - 1))
def MS.run (g : Gd) : Nat → MS → MS
  | 0, s => s
  | n + 1, s => MS.run g n (s.step g)
def MS.start : MS := ⟨0, 0, fun _ => false, false, [], [], 1, false, false, 0, false, 0⟩

/-- The slots on a way, each with its link, and which slots were met then. -/
def way (g : Gd) : Nat → (Nat → Bool) → Nat → List (Nat × Nat) × (Nat → Bool)
  | 0, m, _ => ([], m)
  | f + 1, m, x =>
    if rightL g.S g.T x ∧ lo x ≠ 0 ∧ m (lo x - 1) = false then
      ((lo x - 1, g.next (lo x - 1)) :: (way g f (addMet m (lo x - 1)) (g.next (lo x - 1))).1, (way g f (addMet m (lo x - 1)) (g.next (lo x - 1))).2)
    else ([], m)
/-- The last link of a way. -/
def lastLink (x : Nat) : List (Nat × Nat) → Nat
  | [] => x
  | (_, y) :: t => lastLink y t
def whole (g : Gd) (x : Nat) : Prop := rightL g.S g.T x ∧ lo x = 0
instance (g : Gd) (x : Nat) : Decidable (whole g x) := by unfold whole; infer_instance
/-- The queue's way, slot by slot: first, live. -/
def queueOk (g : Gd) : Bool → Bool → List (Nat × Nat) → Bool × Bool
  | _, live, [] => (true, live)
  | first, live, (s, x) :: t =>
    let r := queueOk g false (live || decide (hi x = 0)) t
    ((first || decide (g.val s / 4294967296 = 0)) && (decide (hi x = 0) || !live) && r.1, r.2)
def afterB (g : Gd) (k : Nat) : Option Nat → Bool
  | none => true
  | some p => decide (g.key p < k)
/-- A list's way, slot by slot; last: the last slot, if there was one. -/
def listOk (g : Gd) (n : Nat) : Option Nat → List (Nat × Nat) → Bool
  | _, [] => true
  | last, (s, x) :: t =>
    decide (g.key s / 4294967296 = 0) && decide (g.val s / 4294967296 = 0) && afterB g (g.key s) last &&
      (decide (n < 2) || decide (g.bucket (g.key s) = n - 2)) && listOk g n (some s) t

theorem way_succ (g : Gd) (f : Nat) (m : Nat → Bool) (x : Nat) : way g (f + 1) m x = if rightL g.S g.T x ∧ lo x ≠ 0 ∧ m (lo x - 1) = false then
      ((lo x - 1, g.next (lo x - 1)) :: (way g f (addMet m (lo x - 1)) (g.next (lo x - 1))).1, (way g f (addMet m (lo x - 1)) (g.next (lo x - 1))).2)
    else ([], m) := rfl
theorem step0 (g : Gd) (s : MS) (h : s.pc = 0) : MS.step g s = s.head g (g.w (g.heads[s.list]?.getD 0)) := by unfold MS.step; rw [if_neg (by omega), if_pos h]
theorem step1 (g : Gd) (s : MS) (h : s.pc = 1) : MS.step g s = s.keyed g (g.key (s.slot - 1)) := by unfold MS.step; rw [if_neg (by omega), if_neg (by omega), if_pos h]
theorem step2 (g : Gd) (s : MS) (h : s.pc = 2) : MS.step g s = s.valued (g.val (s.slot - 1)) := by unfold MS.step; rw [if_neg (by omega), if_neg (by omega), if_neg (by omega), if_pos h]
theorem step3 (g : Gd) (s : MS) (h : s.pc = 3) : MS.step g s = s.linked g (g.next (s.slot - 1)) := by unfold MS.step; rw [if_neg (by omega), if_neg (by omega), if_neg (by omega), if_neg (by omega)]
theorem queueOk_eq (g : Gd) (first live : Bool) (a y : Nat) (t : List (Nat × Nat)) : queueOk g first live ((a, y) :: t) = ((first || decide (g.val a / 4294967296 = 0)) && (decide (hi y = 0) || !live) && (queueOk g false (live || decide (hi y = 0)) t).1, (queueOk g false (live || decide (hi y = 0)) t).2) := rfl
/-! ### Counting -/
def unmet (S : Nat) (m : Nat → Bool) : Nat := ((List.range S).filter fun k => !m k).length
theorem unmet_le (S : Nat) (m : Nat → Bool) : unmet S m ≤ S := by
  have := List.length_filter_le (fun k => !m k) (List.range S)
  rw [List.length_range] at this; exact this
theorem unmet_add : ∀ (S : Nat) (m : Nat → Bool) (k : Nat), k < S → m k = false → unmet S (addMet m k) + 1 = unmet S m
  | 0, _, _, h, _ => absurd h (Nat.not_lt_zero _)
  | S + 1, m, k, h, hm => by
    unfold unmet
    rw [List.range_succ, List.filter_append, List.filter_append, List.length_append, List.length_append]
    have hz : ∀ S, S ≤ k → (List.range S).filter (fun j => !addMet m k j) = (List.range S).filter (fun j => !m j) := fun S hS =>
      List.filter_congr fun j hj => by
        have : j < S := List.mem_range.1 hj
        unfold addMet; rw [if_neg (by omega)]
    by_cases hk : k = S
    · subst hk
      rw [hz k (Nat.le_refl _)]
      have e1 : addMet m k k = true := if_pos rfl
      simp [e1, hm]
    · have ih := unmet_add S m k (by omega) hm
      unfold unmet at ih
      have e1 : addMet m k S = m S := if_neg (fun e => hk e.symm)
      rw [show [S].filter (fun j => !addMet m k j) = [S].filter (fun j => !m j) from List.filter_congr fun j hj => by rw [List.mem_singleton.1 hj, e1]]
      omega
theorem unmet_zero {S : Nat} {m : Nat → Bool} (h : unmet S m = 0) (k : Nat) (hk : k < S) : m k = true := by
  cases hm : m k with
  | true => rfl
  | false =>
    have := unmet_add S m k hk hm
    omega
theorem way_unmet (g : Gd) : ∀ (f : Nat) (m : Nat → Bool) (x : Nat), unmet g.S (way g f m x).2 + (way g f m x).1.length = unmet g.S m
  | 0, m, x => rfl
  | f + 1, m, x => by
    unfold way
    split
    · rename_i h
      have h1 := way_unmet g f (addMet m (lo x - 1)) (g.next (lo x - 1))
      have h2 := unmet_add g.S m (lo x - 1) (by have := h.1.2.1; have := h.2.1; omega) h.2.2
      simp only [List.length_cons]
      omega
    · rfl
/-! ### A way, by the mark -/
theorem run_add (g : Gd) : ∀ (a b : Nat) (s : MS), MS.run g (a + b) s = MS.run g b (MS.run g a s)
  | 0, b, s => by rw [Nat.zero_add]; rfl
  | a + 1, b, s => by
    rw [show a + 1 + b = (a + b) + 1 by omega]
    show MS.run g (a + b) (s.step g) = _
    rw [run_add g a b]; rfl
theorem run_done (g : Gd) (s : MS) (h : s.pc = 4) : ∀ n, MS.run g n s = s
  | 0 => rfl
  | n + 1 => by
    show MS.run g n (s.step g) = s
    rw [show s.step g = s by unfold MS.step; rw [if_pos h]]
    exact run_done g s h n
/-- Behind a way: the next list, or no store. -/
def MEnds (g : Gd) (s : MS) (n : Nat) (l : List (Nat × Nat)) (m' : Nat → Bool) (ok : Prop) (t : MS) : Prop :=
  (ok → t.pc = (if n + 1 = g.heads.length then 4 else 0) ∧ t.list = n + 1 ∧ t.met = m' ∧ t.corrupt = s.corrupt ∧ t.heads = s.heads ∧ ∃ ns : List Node, t.nodes = s.nodes ++ ns ∧ ns.map (fun x => (x.slot, x.list)) = l.map (fun y => (y.1, n))) ∧
  (¬ ok → t.pc = 4 ∧ t.corrupt = true)
theorem MEnds.failed {g : Gd} {s : MS} {n : Nat} {l : List (Nat × Nat)} {m' : Nat → Bool} {ok : Prop} {t : MS} (h : ¬ ok) (h1 : t.pc = 4) (h2 : t.corrupt = true) : MEnds g s n l m' ok t := ⟨fun k => absurd k h, fun _ => ⟨h1, h2⟩⟩
theorem way_wrong (g : Gd) (f : Nat) (m : Nat → Bool) (x : Nat) (h : ¬ rightL g.S g.T x) : way g f m x = ([], m) := by
  cases f with
  | zero => rfl
  | succ f => unfold way; rw [if_neg (fun k => h k.1)]
/-- A list's way. -/
theorem list_way (g : Gd) (n : Nat) (hn : 1 ≤ n) : ∀ (f : Nat) (s : MS) (x : Nat) (last : Option Nat), unmet g.S s.met ≤ f → rightL g.S g.T x → s.list = n → (last = none → s.above = false) → (∀ p, last = some p → s.above = true ∧ s.key = g.key p) →
    ∃ k, k ≤ 3 * (way g f s.met x).1.length ∧ MEnds g s n (way g f s.met x).1 (way g f s.met x).2 (listOk g n last (way g f s.met x).1 = true ∧ whole g (lastLink x (way g f s.met x).1)) (MS.run g k (s.goOn g x)) := by
  intro f
  induction f with
  | zero =>
    intro s x last hu hr hl h1 h2
    refine ⟨0, Nat.zero_le _, ?_⟩
    show MEnds g s n [] s.met (listOk g n last [] = true ∧ whole g x) (s.goOn g x)
    unfold MS.goOn
    by_cases h0 : lo x = 0
    · rw [if_pos h0]
      unfold MS.over
      rw [if_neg (by rintro ⟨h, -⟩; simp only at h; omega)]
      refine ⟨fun _ => ⟨by simp only [hl], by simp only [hl], rfl, rfl, rfl, [], by simp, rfl⟩, fun h => absurd ⟨rfl, hr, h0⟩ h⟩
    · rw [if_neg h0, if_pos (unmet_zero (S := g.S) (m := s.met) (by omega) _ (by have := hr.2.1; omega))]
      exact MEnds.failed (fun h => h0 h.2.2) rfl rfl
  | succ f ih =>
    intro s x last hu hr hl h1 h2
    by_cases h0 : lo x = 0
    · have hw : way g (f + 1) s.met x = ([], s.met) := by unfold way; rw [if_neg (fun h => h.2.1 h0)]
      rw [hw]
      refine ⟨0, Nat.zero_le _, ?_⟩
      show MEnds g s n [] s.met (listOk g n last [] = true ∧ whole g x) (s.goOn g x)
      unfold MS.goOn
      rw [if_pos h0]
      unfold MS.over
      rw [if_neg (by rintro ⟨h, -⟩; simp only at h; omega)]
      refine ⟨fun _ => ⟨by simp only [hl], by simp only [hl], rfl, rfl, rfl, [], by simp, rfl⟩, fun h => absurd ⟨rfl, hr, h0⟩ h⟩
    · by_cases hm : s.met (lo x - 1) = true
      · have hw : way g (f + 1) s.met x = ([], s.met) := by unfold way; rw [if_neg (fun h => by rw [hm] at h; exact absurd h.2.2 (by decide))]
        rw [hw]
        refine ⟨0, Nat.zero_le _, ?_⟩
        show MEnds g s n [] s.met (listOk g n last [] = true ∧ whole g x) (s.goOn g x)
        unfold MS.goOn
        rw [if_neg h0, if_pos hm]
        exact MEnds.failed (fun h => h0 h.2.2) rfl rfl
      · have hmf : s.met (lo x - 1) = false := by simpa using hm
        have hS : lo x - 1 < g.S := by have := hr.2.1; omega
        have hu2 := unmet_add g.S s.met (lo x - 1) hS hmf
        obtain ⟨a, ha⟩ : ∃ a, a = lo x - 1 := ⟨_, rfl⟩
        obtain ⟨y, hy⟩ : ∃ y, y = g.next a := ⟨_, rfl⟩
        have hw : way g (f + 1) s.met x = ((a, y) :: (way g f (addMet s.met a) y).1, (way g f (addMet s.met a) y).2) := by
          rw [hy, ha, way_succ, if_pos ⟨hr, h0, hmf⟩]
        rw [hw]
        have hg : s.goOn g x = { s with slot := lo x, val := 0, met := addMet s.met a, pc := 1 } := by
          unfold MS.goOn; rw [if_neg h0, if_neg hm, ← ha, if_pos (show s.list ≠ 0 by omega)]
        rw [hg]
        simp only [List.length_cons]
        -- the key
        by_cases hk : g.key a / 4294967296 ≠ 0 ∨ (s.above = true ∧ g.key a ≤ s.key) ∨ (2 ≤ s.list ∧ g.bucket (g.key a) ≠ s.list - 2)
        · refine ⟨1, by omega, ?_⟩
          apply MEnds.failed
          · rintro ⟨h, -⟩
            unfold listOk at h
            simp only [Bool.and_eq_true, Bool.or_eq_true, decide_eq_true_eq] at h
            rcases hk with hk | ⟨hk1, hk2⟩ | ⟨hk1, hk2⟩
            · exact hk h.1.1.1.1
            · cases last with
              | none => rw [h1 rfl] at hk1; cases hk1
              | some p =>
                have := h.1.1.2
                simp only [afterB, decide_eq_true_eq] at this
                rw [(h2 p rfl).2] at hk2; omega
            · rcases h.1.2 with h | h
              · omega
              · rw [hl] at hk2; exact hk2 h
          · show (MS.step g _).pc = 4
            rw [step1 g _ rfl]
            unfold MS.keyed
            simp only [← ha]
            rw [if_pos hk]
            rfl
          · show (MS.step g _).corrupt = true
            rw [step1 g _ rfl]
            unfold MS.keyed
            simp only [← ha]
            rw [if_pos hk]
            rfl
        · have hs1 : MS.step g { s with slot := lo x, val := 0, met := addMet s.met a, pc := 1 } = { s with slot := lo x, val := 0, met := addMet s.met a, key := g.key a, above := true, pc := 2 } := by
            rw [step1 g _ rfl]
            unfold MS.keyed
            simp only [← ha]
            rw [if_neg hk]
          have hkk : g.key a / 4294967296 = 0 ∧ afterB g (g.key a) last = true ∧ (n < 2 ∨ g.bucket (g.key a) = n - 2) := by
            refine ⟨?_, ?_, ?_⟩
            · exact Decidable.byContradiction fun h => hk (.inl h)
            · cases last with
              | none => rfl
              | some p =>
                have := h2 p rfl
                simp only [afterB, decide_eq_true_eq]
                exact Decidable.byContradiction fun h => hk (.inr (.inl ⟨this.1, by rw [this.2]; omega⟩))
            · by_cases h : n < 2
              · exact .inl h
              · exact .inr (Decidable.byContradiction fun h' => hk (.inr (.inr ⟨by omega, by rw [hl]; exact h'⟩)))
          by_cases hv : g.val a / 4294967296 ≠ 0
          · refine ⟨2, by omega, ?_⟩
            apply MEnds.failed
            · rintro ⟨h, -⟩
              unfold listOk at h
              simp only [Bool.and_eq_true, Bool.or_eq_true, decide_eq_true_eq] at h
              exact hv h.1.1.1.2
            · show (MS.step g (MS.step g _)).pc = 4
              rw [hs1]
              rw [step2 g _ rfl]
              unfold MS.valued
              simp only [← ha]
              rw [if_pos hv]
              rfl
            · show (MS.step g (MS.step g _)).corrupt = true
              rw [hs1]
              rw [step2 g _ rfl]
              unfold MS.valued
              simp only [← ha]
              rw [if_pos hv]
              rfl
          · have hs2 : MS.step g { s with slot := lo x, val := 0, met := addMet s.met a, key := g.key a, above := true, pc := 2 } = { s with slot := lo x, val := g.val a, met := addMet s.met a, key := g.key a, above := true, pc := 3 } := by
              rw [step2 g _ rfl]
              unfold MS.valued
              simp only [← ha]
              rw [if_neg hv]
            have hvv : g.val a / 4294967296 = 0 := Decidable.byContradiction hv
            by_cases hry : rightL g.S g.T y
            · have hs3 : MS.step g { s with slot := lo x, val := g.val a, met := addMet s.met a, key := g.key a, above := true, pc := 3 } = MS.goOn g { s with slot := lo x, val := g.val a, met := addMet s.met a, key := g.key a, above := true, pc := 3, nodes := s.nodes ++ [⟨a, s.list, y, g.val a⟩], free := decide (hi y = 0), first := false } y := by
                rw [step3 g _ rfl]
                unfold MS.linked
                simp only [← ha, ← hy]
                rw [if_neg (by rintro (h | ⟨h, -⟩); exact h hry; omega)]
              obtain ⟨k, hk3, hE⟩ := ih { s with slot := lo x, val := g.val a, met := addMet s.met a, key := g.key a, above := true, pc := 3, nodes := s.nodes ++ [⟨a, s.list, y, g.val a⟩], free := decide (hi y = 0), first := false } y (some a) (by show unmet g.S (addMet s.met a) ≤ f; rw [ha]; omega) hry hl (fun h => by cases h) (fun p h => by cases h; exact ⟨rfl, rfl⟩)
              refine ⟨3 + k, by have : k ≤ 3 * (way g f (addMet s.met a) y).1.length := hk3; omega, ?_⟩
              rw [run_add]
              show MEnds g s n _ _ _ (MS.run g k (MS.step g (MS.step g (MS.step g _))))
              rw [hs1, hs2, hs3]
              obtain ⟨e1, e2⟩ := hE
              constructor
              · rintro ⟨hlo, hwh⟩
                have hlo2 : listOk g n (some a) (way g f (addMet s.met a) y).1 = true := by
                  unfold listOk at hlo
                  simp only [Bool.and_eq_true] at hlo
                  exact hlo.2
                obtain ⟨c1, c2, c3, c4, c5, ns, c6, c7⟩ := e1 ⟨hlo2, hwh⟩
                refine ⟨c1, c2, c3, c4, c5, ⟨a, s.list, y, g.val a⟩ :: ns, ?_, ?_⟩
                · rw [c6]; simp
                · rw [List.map_cons, List.map_cons, c7, hl]
              · intro hno
                refine e2 fun h => hno ⟨?_, h.2⟩
                unfold listOk
                simp only [Bool.and_eq_true, Bool.or_eq_true, decide_eq_true_eq]
                exact ⟨⟨⟨⟨hkk.1, hvv⟩, hkk.2.1⟩, hkk.2.2⟩, h.1⟩
            · refine ⟨3, by omega, ?_⟩
              rw [way_wrong g f _ y hry]
              have hs3 : MS.step g { s with slot := lo x, val := g.val a, met := addMet s.met a, key := g.key a, above := true, pc := 3 } = MS.fail { s with slot := lo x, val := g.val a, met := addMet s.met a, key := g.key a, above := true, pc := 3 } := by
                rw [step3 g _ rfl]
                unfold MS.linked
                simp only [← ha, ← hy]
                rw [if_pos (.inl hry)]
              apply MEnds.failed
              · rintro ⟨-, h⟩; exact hry h.1
              · show (MS.step g (MS.step g (MS.step g _))).pc = 4
                rw [hs1, hs2, hs3]; rfl
              · show (MS.step g (MS.step g (MS.step g _))).corrupt = true
                rw [hs1, hs2, hs3]; rfl
/-- The queue's way, from a slot whose link is loaded next. -/
theorem queue_link (g : Gd) (f : Nat) (ih : ∀ (s : MS) (x : Nat), unmet g.S s.met ≤ f → rightL g.S g.T x → s.list = 0 →
      ∃ k, k ≤ 3 * (way g f s.met x).1.length ∧ MEnds g s 0 (way g f s.met x).1 (way g f s.met x).2 (((queueOk g s.first s.free (way g f s.met x).1).1 = true ∧ (queueOk g s.first s.free (way g f s.met x).1).2 = true) ∧ whole g (lastLink x (way g f s.met x).1)) (MS.run g k (s.goOn g x)))
    (s : MS) (a y : Nat) (hu : unmet g.S s.met ≤ f) (hl : s.list = 0) (hp : s.pc = 3) (ha : s.slot - 1 = a) (hy : y = g.next a) :
    ∃ k, k ≤ 1 + 3 * (way g f s.met y).1.length ∧
      ((∃ ns : List Node, ns.map (fun x => (x.slot, x.list)) = ((a, y) :: (way g f s.met y).1).map (fun z => (z.1, 0)) ∧ (MS.run g k s).nodes = s.nodes ++ ns ∧ (MS.run g k s).pc = (if 0 + 1 = g.heads.length then 4 else 0) ∧ (MS.run g k s).list = 0 + 1 ∧ (MS.run g k s).met = (way g f s.met y).2 ∧ (MS.run g k s).corrupt = s.corrupt ∧ (MS.run g k s).heads = s.heads ∧
          (s.free = true → hi y = 0) ∧ ((queueOk g false (decide (hi y = 0)) (way g f s.met y).1).1 = true ∧ (queueOk g false (decide (hi y = 0)) (way g f s.met y).1).2 = true) ∧ whole g (lastLink y (way g f s.met y).1)) ∨
       ((MS.run g k s).pc = 4 ∧ (MS.run g k s).corrupt = true ∧ ¬ ((s.free = true → hi y = 0) ∧ ((queueOk g false (decide (hi y = 0)) (way g f s.met y).1).1 = true ∧ (queueOk g false (decide (hi y = 0)) (way g f s.met y).1).2 = true) ∧ whole g (lastLink y (way g f s.met y).1)))) := by
  by_cases hb : ¬ rightL g.S g.T y ∨ (s.list = 0 ∧ s.free = true ∧ hi y ≠ 0)
  · have hs : MS.step g s = MS.fail s := by
      unfold MS.step MS.linked
      rw [if_neg (by omega), if_neg (by omega), if_neg (by omega), if_neg (by omega), ha, ← hy, if_pos hb]
    refine ⟨1, by omega, .inr ⟨?_, ?_, ?_⟩⟩
    · show (MS.step g s).pc = 4
      rw [hs]; rfl
    · show (MS.step g s).corrupt = true
      rw [hs]; rfl
    · rintro ⟨h1, -, h2⟩
      rcases hb with hb | ⟨-, hb1, hb2⟩
      · rw [way_wrong g f _ y hb] at h2
        exact hb h2.1
      · exact hb2 (h1 hb1)
  · have hry : rightL g.S g.T y := Decidable.byContradiction fun h => hb (.inl h)
    have hfr : s.free = true → hi y = 0 := fun h => Decidable.byContradiction fun h' => hb (.inr ⟨hl, h, h'⟩)
    have hs : MS.step g s = MS.goOn g { s with nodes := s.nodes ++ [⟨a, s.list, y, s.val⟩], free := decide (hi y = 0), first := false } y := by
      unfold MS.step MS.linked
      rw [if_neg (by omega), if_neg (by omega), if_neg (by omega), if_neg (by omega), ha, ← hy, if_neg hb]
    obtain ⟨k, hk, e1, e2⟩ := ih { s with nodes := s.nodes ++ [⟨a, s.list, y, s.val⟩], free := decide (hi y = 0), first := false } y hu hry hl
    have hrun : MS.run g (1 + k) s = MS.run g k (MS.goOn g { s with nodes := s.nodes ++ [⟨a, s.list, y, s.val⟩], free := decide (hi y = 0), first := false } y) := by
      rw [run_add]
      show MS.run g k (MS.step g s) = _
      rw [hs]
    refine ⟨1 + k, by have : k ≤ 3 * (way g f s.met y).1.length := hk; omega, ?_⟩
    rw [hrun]
    by_cases hok : ((queueOk g false (decide (hi y = 0)) (way g f s.met y).1).1 = true ∧ (queueOk g false (decide (hi y = 0)) (way g f s.met y).1).2 = true) ∧ whole g (lastLink y (way g f s.met y).1)
    · obtain ⟨c1, c2, c3, c4, c5, ns, c6, c7⟩ := e1 hok
      refine .inl ⟨⟨a, s.list, y, s.val⟩ :: ns, ?_, ?_, c1, c2, c3, c4, c5, hfr, hok⟩
      · rw [List.map_cons, List.map_cons, c7, hl]
      · rw [c6]; simp
    · obtain ⟨c1, c2⟩ := e2 hok
      exact .inr ⟨c1, c2, fun h => hok h.2⟩
theorem queueOk_cons (g : Gd) (first live : Bool) (a y : Nat) (t : List (Nat × Nat)) :
    ((queueOk g first live ((a, y) :: t)).1 = true ∧ (queueOk g first live ((a, y) :: t)).2 = true) ↔
      (first = true ∨ g.val a / 4294967296 = 0) ∧ (live = true → hi y = 0) ∧ (queueOk g false (decide (hi y = 0)) t).1 = true ∧ (queueOk g false (decide (hi y = 0)) t).2 = true := by
  rw [queueOk_eq]
  by_cases h : hi y = 0
  · have e : (live || decide (hi y = 0)) = decide (hi y = 0) := by simp [h]
    rw [e]
    generalize queueOk g false (decide (hi y = 0)) t = q
    simp only [Bool.and_eq_true, Bool.or_eq_true, decide_eq_true_eq]
    constructor
    · rintro ⟨⟨⟨h1, h2⟩, h3⟩, h4⟩; exact ⟨h1, fun _ => h, h3, h4⟩
    · rintro ⟨h1, h2, h3, h4⟩; exact ⟨⟨⟨h1, .inl h⟩, h3⟩, h4⟩
  · cases live with
    | true =>
      simp only [Bool.and_eq_true, Bool.or_eq_true, decide_eq_true_eq]
      constructor
      · rintro ⟨⟨⟨-, h2 | h2⟩, -⟩, -⟩
        · exact absurd h2 h
        · cases h2
      · rintro ⟨-, h2, -⟩; exact absurd (h2 trivial) h
    | false =>
      rw [Bool.false_or]
      generalize queueOk g false (decide (hi y = 0)) t = q
      simp only [Bool.and_eq_true, Bool.or_eq_true, decide_eq_true_eq]
      constructor
      · rintro ⟨⟨⟨h1, h2⟩, h3⟩, h4⟩; exact ⟨h1, (fun e => by cases e), h3, h4⟩
      · rintro ⟨h1, h2, h3, h4⟩; exact ⟨⟨⟨h1, .inr rfl⟩, h3⟩, h4⟩
theorem over_queue (g : Gd) (s : MS) (x : Nat) (hr : rightL g.S g.T x) (hl : s.list = 0) (h0 : lo x = 0) :
    MEnds g s 0 [] s.met (((queueOk g s.first s.free []).1 = true ∧ (queueOk g s.first s.free []).2 = true) ∧ whole g (lastLink x [])) (s.goOn g x) := by
  unfold MS.goOn
  rw [if_pos h0]
  unfold MS.over
  by_cases hf : s.free = false
  · rw [if_pos ⟨hl, hf⟩]
    refine MEnds.failed ?_ rfl rfl
    rintro ⟨⟨-, h⟩, -⟩
    have h' : s.free = true := h
    rw [hf] at h'; cases h'
  · rw [if_neg (fun h => hf h.2)]
    refine ⟨fun _ => ⟨by simp only [hl], by simp only [hl], rfl, rfl, rfl, [], by simp, rfl⟩, fun h => absurd ⟨⟨rfl, show s.free = true by simpa using hf⟩, hr, h0⟩ h⟩
theorem met_queue (g : Gd) (s : MS) (x : Nat) (h0 : lo x ≠ 0) (hm : s.met (lo x - 1) = true) (l : List (Nat × Nat)) (m' : Nat → Bool) (ok : Prop) :
    MEnds g s 0 l m' (ok ∧ whole g (lastLink x [])) (s.goOn g x) := by
  unfold MS.goOn
  rw [if_neg h0, if_pos hm]
  exact MEnds.failed (fun h => h0 h.2.2) rfl rfl
theorem queue_way (g : Gd) : ∀ (f : Nat) (s : MS) (x : Nat), unmet g.S s.met ≤ f → rightL g.S g.T x → s.list = 0 →
      ∃ k, k ≤ 3 * (way g f s.met x).1.length ∧ MEnds g s 0 (way g f s.met x).1 (way g f s.met x).2 (((queueOk g s.first s.free (way g f s.met x).1).1 = true ∧ (queueOk g s.first s.free (way g f s.met x).1).2 = true) ∧ whole g (lastLink x (way g f s.met x).1)) (MS.run g k (s.goOn g x)) := by
  intro f
  induction f with
  | zero =>
    intro s x hu hr hl
    refine ⟨0, Nat.zero_le _, ?_⟩
    by_cases h0 : lo x = 0
    · exact over_queue g s x hr hl h0
    · exact met_queue g s x h0 (unmet_zero (S := g.S) (m := s.met) (by omega) _ (by have := hr.2.1; omega)) _ _ _
  | succ f ih =>
    intro s x hu hr hl
    by_cases h0 : lo x = 0
    · have hw : way g (f + 1) s.met x = ([], s.met) := by unfold way; rw [if_neg (fun h => h.2.1 h0)]
      rw [hw]
      exact ⟨0, Nat.zero_le _, over_queue g s x hr hl h0⟩
    · by_cases hm : s.met (lo x - 1) = true
      · have hw : way g (f + 1) s.met x = ([], s.met) := by unfold way; rw [if_neg (fun h => by rw [hm] at h; exact absurd h.2.2 (by decide))]
        rw [hw]
        exact ⟨0, Nat.zero_le _, met_queue g s x h0 hm _ _ _⟩
      · have hmf : s.met (lo x - 1) = false := by simpa using hm
        have hu2 := unmet_add g.S s.met (lo x - 1) (by have := hr.2.1; omega) hmf
        obtain ⟨a, ha⟩ : ∃ a, a = lo x - 1 := ⟨_, rfl⟩
        obtain ⟨y, hy⟩ : ∃ y, y = g.next a := ⟨_, rfl⟩
        have hw : way g (f + 1) s.met x = ((a, y) :: (way g f (addMet s.met a) y).1, (way g f (addMet s.met a) y).2) := by
          rw [hy, ha, way_succ, if_pos ⟨hr, h0, hmf⟩]
        rw [hw]
        simp only [List.length_cons]
        rw [queueOk_cons]
        have hlast : lastLink x ((a, y) :: (way g f (addMet s.met a) y).1) = lastLink y (way g f (addMet s.met a) y).1 := rfl
        rw [hlast]
        by_cases hfst : s.first = true
        · have hg : s.goOn g x = { s with slot := lo x, val := 0, met := addMet s.met a, pc := 3 } := by
            unfold MS.goOn; rw [if_neg h0, if_neg hm, ← ha, if_neg (show ¬ s.list ≠ 0 by omega), if_pos hfst]
          rw [hg]
          obtain ⟨k, hk, h⟩ := queue_link g f ih { s with slot := lo x, val := 0, met := addMet s.met a, pc := 3 } a y (by show unmet g.S (addMet s.met a) ≤ f; rw [ha]; omega) hl rfl ha.symm hy
          refine ⟨k, by have : k ≤ 1 + 3 * (way g f (addMet s.met a) y).1.length := hk; omega, ?_⟩
          rcases h with ⟨ns, c7, c6, c1, c2, c3, c4, c5, d1, d2, d3⟩ | ⟨c1, c2, d⟩
          · exact ⟨fun _ => ⟨c1, c2, c3, c4, c5, ns, c6, c7⟩, fun h => absurd ⟨⟨.inl hfst, d1, d2⟩, d3⟩ h⟩
          · exact MEnds.failed (fun h => d ⟨h.1.2.1, h.1.2.2, h.2⟩) c1 c2
        · have hg : s.goOn g x = { s with slot := lo x, val := 0, met := addMet s.met a, pc := 2 } := by
            unfold MS.goOn; rw [if_neg h0, if_neg hm, ← ha, if_neg (show ¬ s.list ≠ 0 by omega), if_neg hfst]
          rw [hg]
          by_cases hv : g.val a / 4294967296 ≠ 0
          · have hs : MS.step g { s with slot := lo x, val := 0, met := addMet s.met a, pc := 2 } = MS.fail { s with slot := lo x, val := 0, met := addMet s.met a, pc := 2 } := by
              rw [step2 g _ rfl]
              unfold MS.valued
              simp only [← ha]
              rw [if_pos hv]
            refine ⟨1, by omega, MEnds.failed ?_ ?_ ?_⟩
            · rintro ⟨⟨h | h, -⟩, -⟩
              · exact hfst h
              · exact hv h
            · show (MS.step g _).pc = 4
              rw [hs]; rfl
            · show (MS.step g _).corrupt = true
              rw [hs]; rfl
          · have hvv : g.val a / 4294967296 = 0 := Decidable.byContradiction hv
            have hs : MS.step g { s with slot := lo x, val := 0, met := addMet s.met a, pc := 2 } = { s with slot := lo x, val := g.val a, met := addMet s.met a, pc := 3 } := by
              rw [step2 g _ rfl]
              unfold MS.valued
              simp only [← ha]
              rw [if_neg hv]
            obtain ⟨k, hk, h⟩ := queue_link g f ih { s with slot := lo x, val := g.val a, met := addMet s.met a, pc := 3 } a y (by show unmet g.S (addMet s.met a) ≤ f; rw [ha]; omega) hl rfl ha.symm hy
            refine ⟨1 + k, by have : k ≤ 1 + 3 * (way g f (addMet s.met a) y).1.length := hk; omega, ?_⟩
            rw [run_add]
            change MEnds g s 0 _ _ _ (MS.run g k (MS.step g { s with slot := lo x, val := 0, met := addMet s.met a, pc := 2 }))
            rw [hs]
            rcases h with ⟨ns, c7, c6, c1, c2, c3, c4, c5, d1, d2, d3⟩ | ⟨c1, c2, d⟩
            · exact ⟨fun _ => ⟨c1, c2, c3, c4, c5, ns, c6, c7⟩, fun h => absurd ⟨⟨.inr hvv, d1, d2⟩, d3⟩ h⟩
            · exact MEnds.failed (fun h => d ⟨h.1.2.1, h.1.2.2, h.2⟩) c1 c2
/-! ### All lists -/
def listsGo (g : Gd) : Nat → List Nat → (Nat → Bool) → Option (List (Nat × Nat))
  | _, [], _ => some []
  | n, h :: t, m =>
    if rightL g.S g.T (g.w h) ∧ hi (g.w h) = 0 then
      if listOk g n none (way g g.S m (g.w h)).1 = true ∧ whole g (lastLink (g.w h) (way g g.S m (g.w h)).1) then
        (listsGo g (n + 1) t (way g g.S m (g.w h)).2).map fun r => (way g g.S m (g.w h)).1.map (fun y => (y.1, n)) ++ r
      else none
    else none
/-- What is read of a store: the slots on the ways, each with its list. -/
def placesP (g : Gd) : Option (List (Nat × Nat)) :=
  match g.heads with
  | [] => none
  | h :: t =>
    if rightL g.S g.T (g.w h) ∧ hi (g.w h) = 0 ∧ lo (g.w h) ≠ 0 then
      if ((queueOk g true false (way g g.S (fun _ => false) (g.w h)).1).1 = true ∧ (queueOk g true false (way g g.S (fun _ => false) (g.w h)).1).2 = true) ∧ whole g (lastLink (g.w h) (way g g.S (fun _ => false) (g.w h)).1) then
        (listsGo g 1 t (way g g.S (fun _ => false) (g.w h)).2).map fun r => (way g g.S (fun _ => false) (g.w h)).1.map (fun y => (y.1, 0)) ++ r
      else none
    else none
/-- What a mark's end says. -/
def Told (s : MS) (o : Option (List (Nat × Nat))) (t : MS) : Prop :=
  t.pc = 4 ∧ (o = none → t.corrupt = true) ∧ ∀ ps, o = some ps → t.corrupt = s.corrupt ∧ ∃ ns : List Node, t.nodes = s.nodes ++ ns ∧ ns.map (fun x => (x.slot, x.list)) = ps
theorem lists_run (g : Gd) : ∀ (t : List Nat) (n : Nat) (s : MS), 1 ≤ n → g.heads.drop n = t → n ≤ g.heads.length → s.pc = (if n = g.heads.length then 4 else 0) → s.list = n →
    ∃ k, k ≤ t.length + 3 * unmet g.S s.met ∧ Told s (listsGo g n t s.met) (MS.run g k s)
  | [], n, s, hn, ht, hle, hp, hl => by
    have hlen : n = g.heads.length := by have := congrArg List.length ht; rw [List.length_drop] at this; simp at this; omega
    refine ⟨0, Nat.zero_le _, ?_, (fun h => by cases h), fun ps h => ?_⟩
    · show s.pc = 4
      rw [hp, if_pos hlen]
    · cases h
      exact ⟨rfl, [], by show s.nodes = s.nodes ++ []; simp, rfl⟩
  | h :: t, n, s, hn, ht, hle, hp, hl => by
    have hlt : n < g.heads.length := by have := congrArg List.length ht; rw [List.length_drop] at this; simp at this; omega
    have hh : g.heads[n]? = some h := by
      have := congrArg (·[0]?) ht
      simp only [List.getElem?_drop, Nat.add_zero, List.getElem?_cons_zero] at this
      exact this
    have ht2 : g.heads.drop (n + 1) = t := by rw [← List.drop_drop, ht]; rfl
    have hp0 : s.pc = 0 := by rw [hp, if_neg (by omega)]
    obtain ⟨x, hx⟩ : ∃ x, x = g.w h := ⟨_, rfl⟩
    have hstep : MS.step g s = s.head g x := by
      unfold MS.step
      rw [if_neg (by omega), if_pos hp0, hl, hh, hx]; rfl
    unfold listsGo
    rw [← hx]
    by_cases hroot : rightL g.S g.T x ∧ hi x = 0
    · rw [if_pos hroot]
      have hhead : s.head g x = MS.goOn g { s with heads := s.heads ++ [x], first := true, above := false, free := false } x := by
        unfold MS.head
        rw [if_neg (by rintro (h | h | h); exact h hroot.1; exact h hroot.2; omega)]
      obtain ⟨k, hk, e1, e2⟩ := list_way g n hn g.S { s with heads := s.heads ++ [x], first := true, above := false, free := false } x none (unmet_le _ _) hroot.1 hl (fun _ => rfl) (fun p h => by cases h)
      have hwu := way_unmet g g.S s.met x
      have hrun : MS.run g (1 + k) s = MS.run g k (MS.goOn g { s with heads := s.heads ++ [x], first := true, above := false, free := false } x) := by
        rw [run_add]
        show MS.run g k (MS.step g s) = _
        rw [hstep, hhead]
      by_cases hok : listOk g n none (way g g.S s.met x).1 = true ∧ whole g (lastLink x (way g g.S s.met x).1)
      · rw [if_pos hok]
        obtain ⟨c1, c2, c3, c4, c5, ns, c6, c7⟩ := e1 hok
        obtain ⟨k2, hk2, d1, d2, d3⟩ := lists_run g t (n + 1) _ (by omega) ht2 (by omega) c1 c2
        rw [c3] at hk2 d2 d3
        refine ⟨1 + k + k2, ?_, ?_, ?_, ?_⟩
        · have hk' : k ≤ 3 * (way g g.S s.met x).1.length := hk
          have hk2' : k2 ≤ t.length + 3 * unmet g.S (way g g.S s.met x).2 := hk2
          simp only [List.length_cons]
          omega
        · rw [run_add, hrun]; exact d1
        · intro hnone
          rw [run_add, hrun]
          refine d2 ?_
          cases hgo : listsGo g (n + 1) t (way g g.S s.met x).2 with
          | none => rfl
          | some r => rw [hgo] at hnone; cases hnone
        · intro ps hps
          rw [run_add, hrun]
          cases hgo : listsGo g (n + 1) t (way g g.S s.met x).2 with
          | none => rw [hgo] at hps; cases hps
          | some r =>
            rw [hgo] at hps
            cases hps
            obtain ⟨f1, ns2, f2, f3⟩ := d3 r hgo
            refine ⟨f1.trans c4, ns ++ ns2, ?_, ?_⟩
            · rw [f2, c6, List.append_assoc]
            · rw [List.map_append, c7, f3]
      · rw [if_neg hok]
        obtain ⟨c1, c2⟩ := e2 hok
        refine ⟨1 + k, ?_, ?_, fun _ => ?_, fun ps h => by cases h⟩
        · have hk' : k ≤ 3 * (way g g.S s.met x).1.length := hk
          simp only [List.length_cons]
          omega
        · rw [hrun]; exact c1
        · rw [hrun]; exact c2
    · rw [if_neg hroot]
      have hhead : s.head g x = MS.fail { s with heads := s.heads ++ [x], first := true, above := false, free := false } := by
        unfold MS.head
        rw [if_pos]
        by_cases h1 : rightL g.S g.T x
        · exact .inr (.inl fun h2 => hroot ⟨h1, h2⟩)
        · exact .inl h1
      refine ⟨1, by simp only [List.length_cons]; omega, ?_, fun _ => ?_, fun ps h => by cases h⟩
      · show (MS.step g s).pc = 4
        rw [hstep, hhead]; rfl
      · show (MS.step g s).corrupt = true
        rw [hstep, hhead]; rfl
theorem Told.later {g : Gd} {s : MS} {o : Option (List (Nat × Nat))} {k N : Nat} {s0 : MS} (h : Told s o (MS.run g k s0)) (hk : k ≤ N) : Told s o (MS.run g N s0) := by
  have : MS.run g N s0 = MS.run g k s0 := by
    rw [show N = k + (N - k) by omega, run_add]
    exact run_done g _ h.1 _
  rw [this]; exact h
/-- THE MARK AND THE VIEW TELL THE SAME. -/
theorem mark_run (g : Gd) (h : Nat) (t : List Nat) (hh : g.heads = h :: t) : Told MS.start (placesP g) (MS.run g (3 * g.S + g.heads.length) MS.start) := by
  have hlen : g.heads.length = t.length + 1 := by rw [hh]; rfl
  obtain ⟨x, hx⟩ : ∃ x, x = g.w h := ⟨_, rfl⟩
  have hstep : MS.step g MS.start = MS.head g MS.start x := by
    rw [step0 g MS.start rfl]
    show MS.head g MS.start (g.w (g.heads[0]?.getD 0)) = _
    rw [hh, hx]; rfl
  have hu := unmet_le g.S (fun _ => false)
  unfold placesP
  rw [hh]
  simp only [← hx]
  by_cases hroot : rightL g.S g.T x ∧ hi x = 0 ∧ lo x ≠ 0
  · rw [if_pos hroot]
    have hhead : MS.head g MS.start x = MS.goOn g ⟨0, 0, fun _ => false, false, [x], [], 1, true, false, 0, false, 0⟩ x := by
      unfold MS.head
      rw [if_neg (by rintro (h | h | ⟨-, h⟩); exact h hroot.1; exact h hroot.2.1; exact hroot.2.2 h)]
      rfl
    obtain ⟨k, hk, e1, e2⟩ := queue_way g g.S ⟨0, 0, fun _ => false, false, [x], [], 1, true, false, 0, false, 0⟩ x (unmet_le _ _) hroot.1 rfl
    have hwu := way_unmet g g.S (fun _ => false) x
    have hrun : MS.run g (1 + k) MS.start = MS.run g k (MS.goOn g ⟨0, 0, fun _ => false, false, [x], [], 1, true, false, 0, false, 0⟩ x) := by
      rw [run_add]
      show MS.run g k (MS.step g MS.start) = _
      rw [hstep, hhead]
    have hk' : k ≤ 3 * (way g g.S (fun _ => false) x).1.length := hk
    by_cases hok : ((queueOk g true false (way g g.S (fun _ => false) x).1).1 = true ∧ (queueOk g true false (way g g.S (fun _ => false) x).1).2 = true) ∧ whole g (lastLink x (way g g.S (fun _ => false) x).1)
    · rw [if_pos hok]
      obtain ⟨c1, c2, c3, c4, c5, ns, c6, c7⟩ := e1 hok
      obtain ⟨k2, hk2, d1, d2, d3⟩ := lists_run g t 1 _ (Nat.le_refl _) (by rw [hh]; rfl) (by omega) c1 c2
      rw [c3] at hk2 d2 d3
      have hk2' : k2 ≤ t.length + 3 * unmet g.S (way g g.S (fun _ => false) x).2 := hk2
      refine Told.later (k := 1 + k + k2) ⟨?_, ?_, ?_⟩ (by simp only [List.length_cons]; omega)
      · rw [run_add, hrun]; exact d1
      · intro hnone
        rw [run_add, hrun]
        refine d2 ?_
        cases hgo : listsGo g 1 t (way g g.S (fun _ => false) x).2 with
        | none => rfl
        | some r => rw [hgo] at hnone; cases hnone
      · intro ps hps
        rw [run_add, hrun]
        cases hgo : listsGo g 1 t (way g g.S (fun _ => false) x).2 with
        | none => rw [hgo] at hps; cases hps
        | some r =>
          rw [hgo] at hps
          cases hps
          obtain ⟨f1, ns2, f2, f3⟩ := d3 r hgo
          refine ⟨f1.trans c4, ns ++ ns2, ?_, ?_⟩
          · rw [f2, c6, List.append_assoc]; rfl
          · rw [List.map_append, c7, f3]
    · rw [if_neg hok]
      obtain ⟨c1, c2⟩ := e2 hok
      refine Told.later (k := 1 + k) ⟨?_, fun _ => ?_, fun ps h => by cases h⟩ (by simp only [List.length_cons]; omega)
      · rw [hrun]; exact c1
      · rw [hrun]; exact c2
  · rw [if_neg hroot]
    have hhead : MS.head g MS.start x = MS.fail ⟨0, 0, fun _ => false, false, [x], [], 1, true, false, 0, false, 0⟩ := by
      unfold MS.head
      rw [if_pos]
      · rfl
      · by_cases h1 : rightL g.S g.T x
        · by_cases h2 : hi x = 0
          · exact .inr (.inr ⟨rfl, Decidable.byContradiction fun h3 => hroot ⟨h1, h2, h3⟩⟩)
          · exact .inr (.inl h2)
        · exact .inl h1
    refine Told.later (k := 1) ⟨?_, fun _ => ?_, fun ps h => by cases h⟩ (by simp only [List.length_cons]; omega)
    · show (MS.step g MS.start).pc = 4
      rw [hstep, hhead]; rfl
    · show (MS.step g MS.start).corrupt = true
      rw [hstep, hhead]; rfl
end Go.Proofs.YtibelcmdfkgonaaGreat

namespace Go.Proofs.YtibelcmdfkgonaaGreat
open Go.RowKit Go.BigFrame
set_option linter.unusedVariables false
set_option linter.unusedSimpArgs false
theorem row_15 {W : World} {b : Nat} {k0 k1 k2 k3 k4 k5 k6 k7 k8 k9 k10 k11 k12 k13 k14 : Value} {t : TypeId} (h : W.heap[b]? = some (.cells #[k0, k1, k2, k3, k4, k5, k6, k7, k8, k9, k10, k11, k12, k13, k14] t (0, 0))) :
    W.cell? ⟨b, 0, none⟩ = some k0 ∧ W.cell? ⟨b, 1, none⟩ = some k1 ∧ W.cell? ⟨b, 2, none⟩ = some k2 ∧ W.cell? ⟨b, 3, none⟩ = some k3 ∧ W.cell? ⟨b, 4, none⟩ = some k4 ∧ W.cell? ⟨b, 5, none⟩ = some k5 ∧ W.cell? ⟨b, 6, none⟩ = some k6 ∧ W.cell? ⟨b, 7, none⟩ = some k7 ∧ W.cell? ⟨b, 8, none⟩ = some k8 ∧ W.cell? ⟨b, 9, none⟩ = some k9 ∧ W.cell? ⟨b, 10, none⟩ = some k10 ∧ W.cell? ⟨b, 11, none⟩ = some k11 ∧ W.cell? ⟨b, 12, none⟩ = some k12 ∧ W.cell? ⟨b, 13, none⟩ = some k13 ∧ W.cell? ⟨b, 14, none⟩ = some k14 ∧ ∀ j, W.frozen? ⟨b, j, none⟩ = false :=
  ⟨cell_row h 0 _ rfl, cell_row h 1 _ rfl, cell_row h 2 _ rfl, cell_row h 3 _ rfl, cell_row h 4 _ rfl, cell_row h 5 _ rfl, cell_row h 6 _ rfl, cell_row h 7 _ rfl, cell_row h 8 _ rfl, cell_row h 9 _ rfl, cell_row h 10 _ rfl, cell_row h 11 _ rfl, cell_row h 12 _ rfl, cell_row h 13 _ rfl, cell_row h 14 _ rfl, free_row h⟩
/-- A mark's cells. -/
def MkRow (W : World) (x : Nat) (k0 k1 k2 k3 k4 k5 k6 k7 k8 k9 k10 k11 k12 k13 k14 : Value) : Prop := W.heap[x]? = some (.cells #[k0, k1, k2, k3, k4, k5, k6, k7, k8, k9, k10, k11, k12, k13, k14] 149 (0, 0))
/-- It ends; x's cells are as told; no other old block has turned. -/
def RowTo (x : Nat) (c : Array Value) (W : World) (e : Ending) (W' : World) : Prop := (∃ u, e = .returned u) ∧ W'.heap[x]? = some (.cells c 149 (0, 0)) ∧ But x W W'
theorem but_set {p : Nat} {a w : World} (h : But p a w) (j : Nat) (v : Value) : But p a (w.setCell ⟨p, j, none⟩ v) :=
  ⟨h.os, h.tape, h.output, by simpa [World.setCell] using h.size, fun k hk hp => (heap_set_other hp).trans (h.block k hk hp)⟩
theorem but_drewN {p : Nat} {a w : World} (h : But p a w) (n : Nat) : But p a (w.drewN n) := ⟨h.os, h.tape, h.output, h.size, h.block⟩
theorem fail137 (x : Nat) (k0 k1 k2 k3 k4 k5 k6 k7 k8 k9 k10 k11 k12 k13 k14 : Value) (w : World) (h : w.heap[x]? = some (.cells #[k0, k1, k2, k3, k4, k5, k6, k7, k8, k9, k10, k11, k12, k13, k14] 149 (0, 0))) :
    Calls Tryz.prog 137 #[.pointer (some ⟨x, 0, none⟩)] w (RowTo x #[k0, k1, .int .i64 4, k3, k4, k5, .bool true, k7, k8, k9, k10, k11, k12, k13, k14] w) := by
  have HR := Lib.hid h
  have q6 := cell_row h 6 _ rfl
  have q2 := cell_row h 2 _ rfl
  have qf := free_row h
  clear h
  go_enter Tryz.func137, Tryz.ntmps137
  go_wp2_with fail
  go_end0
  exact ⟨⟨_, rfl⟩, heap_set _ (heap_set _ HR.out), but_set (but_set (But.refl _ _) _ _) _ _⟩

theorem over226_bad (x : Nat) (k0 k1 k2 k5 k6 k7 k8 k9 k10 k11 k12 k14 : Value) (wa : Option Addr) (nh cw : Nat) (li : Nat) (fr : Bool) (hl : li ≤ 1000) (hn : nh ≤ 1000) (h0 : li = 0) (hf : fr = false) (w : World)
    (h : w.heap[x]? = some (.cells #[k0, k1, k2, .slice wa nh cw, .int .i64 li, k5, k6, k7, k8, k9, k10, k11, k12, .bool fr, k14] 149 (0, 0))) :
    Calls Tryz.prog 226 #[.pointer (some ⟨x, 0, none⟩)] w (RowTo x #[k0, k1, .int .i64 4, .slice wa nh cw, .int .i64 li, k5, .bool true, k7, k8, k9, k10, k11, k12, .bool fr, k14] w) := by
  have HR := Lib.hid h
  have q2 := cell_row h 2 _ rfl
  have q3 := cell_row h 3 _ rfl
  have q4 := cell_row h 4 _ rfl
  have q13 := cell_row h 13 _ rfl
  have qf := free_row h
  subst h0; subst hf
  have HF := Lib.hid (fail137 x k0 k1 k2 (.slice wa nh cw) (.int .i64 (0 : Nat)) k5 k6 k7 k8 k9 k10 k11 k12 (.bool false) k14 w h)
  clear h
  go_enter Tryz.func226, Tryz.ntmps226
  go_wp2_with fail
  refine HF.out.mono ?_
  rintro e w' ⟨⟨u, rfl⟩, hr, hb⟩
  have H := Lib.hid (And.intro hr hb)
  clear hr hb q2 q3 q4 q13 qf
  go_wp2_with fail
  go_end0
  exact ⟨⟨_, rfl⟩, H.out.1, H.out.2⟩
theorem over226_last (x : Nat) (k0 k1 k2 k5 k6 k7 k8 k9 k10 k11 k12 k14 : Value) (wa : Option Addr) (nh cw : Nat) (li : Nat) (fr : Bool) (hl : li ≤ 1000) (hn : nh ≤ 1000) (hok : ¬ (li = 0 ∧ fr = false)) (hlast : li + 1 = nh) (w : World)
    (h : w.heap[x]? = some (.cells #[k0, k1, k2, .slice wa nh cw, .int .i64 li, k5, k6, k7, k8, k9, k10, k11, k12, .bool fr, k14] 149 (0, 0))) :
    Calls Tryz.prog 226 #[.pointer (some ⟨x, 0, none⟩)] w (RowTo x #[k0, k1, .int .i64 4, .slice wa nh cw, .int .i64 ((li : Int) + 1), k5, k6, k7, k8, k9, k10, k11, k12, .bool fr, k14] w) := by
  have HR := Lib.hid h
  have q2 := cell_row h 2 _ rfl
  have q3 := cell_row h 3 _ rfl
  have q4 := cell_row h 4 _ rfl
  have q13 := cell_row h 13 _ rfl
  have qf := free_row h
  have HOK := Lib.hid hok
  have HL := Lib.hid hlast
  have e1 : ((li : Int) + 1 == (nh : Int)) = true := by simp; omega
  have i0 : (0 : Int) ≤ (li : Int) := by omega
  have i1 : (li : Int) ≤ 1000 := by omega
  have i2 : (nh : Int) ≤ 1000 := by omega
  clear hok hlast
  clear h
  go_enter Tryz.func226, Tryz.ntmps226
  by_cases h0 : li = 0
  · have hf : fr = true := by have := HOK.out; cases fr <;> simp_all
    subst hf
    have e0 : ((li : Int) == 0) = true := by simp; omega
    clear h0
    go_wp2_with fail
    go_quiet (fail)
    go_wp2_with fail
    go_end0
    exact ⟨⟨_, rfl⟩, heap_set _ (heap_set _ (heap_set _ HR.out)), but_set (but_drewN (but_set (but_set (But.refl _ _) _ _) _ _) _) _ _⟩
  · have e0 : ((li : Int) == 0) = false := by simp; omega
    clear h0
    go_wp2_with fail
    go_quiet (fail)
    go_wp2_with fail
    go_end0
    exact ⟨⟨_, rfl⟩, heap_set _ (heap_set _ (heap_set _ HR.out)), but_set (but_drewN (but_set (but_set (But.refl _ _) _ _) _ _) _) _ _⟩
theorem over226_more (x : Nat) (k0 k1 k2 k5 k6 k7 k8 k9 k10 k11 k12 k14 : Value) (wa : Option Addr) (nh cw : Nat) (li : Nat) (fr : Bool) (hl : li ≤ 1000) (hn : nh ≤ 1000) (hok : ¬ (li = 0 ∧ fr = false)) (hlast : li + 1 ≠ nh) (w : World)
    (h : w.heap[x]? = some (.cells #[k0, k1, k2, .slice wa nh cw, .int .i64 li, k5, k6, k7, k8, k9, k10, k11, k12, .bool fr, k14] 149 (0, 0))) :
    Calls Tryz.prog 226 #[.pointer (some ⟨x, 0, none⟩)] w (RowTo x #[k0, k1, .int .i64 0, .slice wa nh cw, .int .i64 ((li : Int) + 1), k5, k6, k7, k8, k9, k10, k11, k12, .bool fr, k14] w) := by
  have HR := Lib.hid h
  have q2 := cell_row h 2 _ rfl
  have q3 := cell_row h 3 _ rfl
  have q4 := cell_row h 4 _ rfl
  have q13 := cell_row h 13 _ rfl
  have qf := free_row h
  have HOK := Lib.hid hok
  have HL := Lib.hid hlast
  have e1 : ((li : Int) + 1 == (nh : Int)) = false := by simp; omega
  have i0 : (0 : Int) ≤ (li : Int) := by omega
  have i1 : (li : Int) ≤ 1000 := by omega
  have i2 : (nh : Int) ≤ 1000 := by omega
  clear hok hlast
  clear h
  go_enter Tryz.func226, Tryz.ntmps226
  by_cases h0 : li = 0
  · have hf : fr = true := by have := HOK.out; cases fr <;> simp_all
    subst hf
    have e0 : ((li : Int) == 0) = true := by simp; omega
    clear h0
    go_wp2_with fail
    go_quiet (fail)
    go_wp2_with fail
    go_end0
    exact ⟨⟨_, rfl⟩, heap_set _ (heap_set _ HR.out), but_drewN (but_set (but_set (But.refl _ _) _ _) _ _) _⟩
  · have e0 : ((li : Int) == 0) = false := by simp; omega
    clear h0
    go_wp2_with fail
    go_quiet (fail)
    go_wp2_with fail
    go_end0
    exact ⟨⟨_, rfl⟩, heap_set _ (heap_set _ HR.out), but_drewN (but_set (but_set (But.refl _ _) _ _) _ _) _⟩
/-- Numbers met: whether it was there; now it is. -/
theorem add227 (x mb S cm : Nat) (met : Nat → Bool) (n : Nat) (hn : n < S) (hS : S ≤ 100000) (w : World) (h : w.cell? ⟨x, 5, none⟩ = some (.slice (some ⟨mb, 0, none⟩) S cm)) (hm : RowAt w mb S fun k => .bool (met k)) :
    Calls Tryz.prog 227 #[.pointer (some ⟨x, 5, none⟩), .int .i64 n] w fun e w' => e = .returned (.bool (!met n)) ∧ RowAt w' mb S (fun k => .bool (addMet met n k)) ∧ But mb w w' := by
  have HM := Lib.hid hm
  have q := hm.cell hn
  have qf := hm.free n
  have i0 : (0 : Int) ≤ (n : Int) := by omega
  have i1 : (n : Int) < (S : Int) := by omega
  have i2 : (S : Int) ≤ 100000 := by omega
  clear hm
  cases hx : met n with
  | true =>
    have HX := Lib.hid hx
    rw [hx] at q
    clear hx
    go_enter Tryz.func227, Tryz.ntmps227
    go_wp2_with fail
    go_ret
    refine ⟨rfl, ?_, But.refl _ _⟩
    have e : addMet met n = met := by funext k; unfold addMet; split; rename_i e; rw [e, HX.out]; rfl
    rw [e]; exact HM.out
  | false =>
    rw [hx] at q
    clear hx
    go_enter Tryz.func227, Tryz.ntmps227
    go_wp2_with fail
    go_ret
    refine ⟨rfl, ?_, but_set (But.refl _ _) _ _⟩
    have := HM.out.set n (.bool true)
    have e : upd (fun k => Value.bool (met k)) n (.bool true) = fun k => .bool (addMet met n k) := by
      funext k; unfold upd addMet; split <;> rfl
    rw [e] at this; exact this

end Go.Proofs.YtibelcmdfkgonaaGreat
