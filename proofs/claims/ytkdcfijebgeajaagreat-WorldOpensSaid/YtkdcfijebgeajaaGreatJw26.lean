/- A run reckoned: a region that draws its order, whatever the order.
   A run reckoned: a region that draws its order (end).
   A run reckoned: results, marks, arguments. -/
import Derived.Test.YtkdcfijebgeajaaGreatJw25
import Derived.OrdersIn
import Derived.RangeFuncRecord
import Derived.LoopNIn
namespace Go.Proofs.YtkdcfijebgeajaaGreat
namespace Rk
open Go.RowKit
set_option linter.unusedVariables false
set_option linter.unusedSimpArgs false
set_option linter.unusedSectionVars false
section
variable {E : Env} (hE : EnvOk E) {go : Task → Option Res} (hG : GoOk E go) {ops : Array Oper} {rs : List Rec} {t t' : Tm} {σ σ' : AH} {ms : List Nat} (hD : DrawIs E go ops.toList rs t σ t' σ' ms)
def Lst (listed : Array Bool) (i : Nat) : Prop := listed.getD i false = true
def Closed (ops : Array Oper) (listed : Array Bool) : Prop := ∀ i o, ops[i]? = some o → Lst listed i → ∀ e ∈ o.after.toList, Region.binds .any e = true → Lst listed e.on
include hD
theorem closed_mask {listed : Array Bool} (hc : Closed ops listed) : ∀ (i : Nat) (o : Oper), ops[i]? = some o → Lst listed i → ∀ j, bit (maskOf ms i) j = true → Lst listed j := by
  intro i
  induction i using Nat.strongRecOn with
  | _ i ih =>
    intro o ho hi j hj
    obtain ⟨e, h1, h2, h3⟩ := (hD.masks i o (by simpa using ho) j).1 hj
    have hl := hc i o ho hi e h1 h2
    rcases h3 with rfl | ⟨h3, h4⟩
    · exact hl
    · have hio : i < ops.size := (Array.getElem?_eq_some_iff.1 ho).1
      exact ih e.on h3 _ (Array.getElem?_eq_getElem (by omega)) hl j h4
theorem ready_mask {listed : Array Bool} (hc : Closed ops listed) {i : Nat} {o : Oper} (ho : ops[i]? = some o) (hr : ∀ e ∈ o.after, Region.binds .any e = true → Lst listed e.on) {j : Nat} (hj : bit (maskOf ms i) j = true) : Lst listed j := by
  obtain ⟨e, h1, h2, h3⟩ := (hD.masks i o (by simpa using ho) j).1 hj
  have hl := hr e (by simpa using h1) h2
  rcases h3 with rfl | ⟨h3, h4⟩
  · exact hl
  · have hio : i < ops.size := (Array.getElem?_eq_some_iff.1 ho).1
    exact closed_mask hD hc e.on _ (Array.getElem?_eq_getElem (by omega)) hl j h4
theorem once_d : OnceD rs := fun p q r s d hp hq h1 h2 => by
  by_cases he : r.i = s.i
  · exact hD.once p q r s hp hq he
  · exact absurd h2 ((hD.pairs r.i s.i r.o s.o (hD.recs p r hp) (hD.recs q s hq) he).dst d h1)
theorem before {p q : Nat} {r s : Rec} (hp : rs[p]? = some r) (hq : rs[q]? = some s) (h : bit (maskOf ms r.i) s.i = true) : q < p := by
  obtain ⟨q', s', h1, h2, h3⟩ := hD.pre p r hp s.i h
  have := hD.once q' q s' s h2 hq h3
  omega
def Tmps (rs : List Rec) (t : Tm) (listed : Array Bool) (tS : Tm) : Prop :=
  tS.n = t.n ∧ ∀ x, (∀ (q : Nat) (r : Rec), rs[q]? = some r → r.o.dst = some x → Lst listed r.i → nth tS x = r.v) ∧ ((∀ (q : Nat) (r : Rec), rs[q]? = some r → r.o.dst = some x → ¬ Lst listed r.i) → nth tS x = nth t x)
theorem same_look {listed : Array Bool} (hc : Closed ops listed) {tS : Tm} (hT : Tmps rs t listed tS) {q : Nat} {r : Rec} (hq : rs[q]? = some r) (hno : ¬ Lst listed r.i) (hr : ∀ e ∈ r.o.after, Region.binds .any e = true → Lst listed e.on) {d : Tmp} (hd : looks ops.toList r.o d = true) : nth tS d = nth r.t d := by
  have hro := hD.recs q r hq
  have hql : q < rs.length := (List.getElem?_eq_some_iff.1 hq).1
  have hat := (nth_at hD.chain (once_d hD) q (by omega)).2.2 d
  rw [Tat_some hq] at hat
  have hro' : ops[r.i]? = some r.o := by simpa using hro
  by_cases hw : ∃ (q' : Nat) (s : Rec), rs[q']? = some s ∧ s.o.dst = some d
  · obtain ⟨q', s, hs, hsd⟩ := hw
    have uniq : ∀ (z : Nat) (y : Rec), rs[z]? = some y → y.o.dst = some d → z = q' := fun z y hz hy => once_d hD z q' y s d hz hs hy hsd
    have later : ¬ q' < q → nth r.t d = nth t d := fun hlt => hat.2 fun z y hzq hz hy => by
      have := uniq z y hz hy
      omega
    have unl : ¬ Lst listed s.i → nth tS d = nth t d := fun hn => (hT.2 d).2 fun z y hz hy => by
      have := uniq z y hz hy
      subst this
      rw [hs] at hz; cases hz
      exact hn
    by_cases hqq : q' = q
    · subst hqq
      rw [hq] at hs; cases hs
      rw [unl hno, later (Nat.lt_irrefl _)]
    · have hne : r.i ≠ s.i := fun e => hqq (hD.once q q' r s hq hs e).symm
      have hso' : ops[s.i]? = some s.o := by simpa using hD.recs q' s hs
      rcases (hD.pairs r.i s.i r.o s.o hro (hD.recs q' s hs) hne).ord with h | h | ⟨_, _, h⟩
      · have hl := ready_mask hD hc hro' hr h
        rw [(hT.2 d).1 q' s hs hsd hl, hat.1 q' s (before hD hq hs h) hs hsd]
      · have hb := before hD hs hq h
        rw [unl fun hl => hno (closed_mask hD hc s.i s.o hso' hl r.i h), later (by omega)]
      · rw [h d hsd] at hd; cases hd
  · rw [(hT.2 d).2 fun z y hz hy => absurd ⟨z, y, hz, hy⟩ hw, hat.2 fun z y _ hz hy => absurd ⟨z, y, hz, hy⟩ hw]
omit hD in
theorem lst_set {listed : Array Bool} {i : Nat} (hi : i < listed.size) (j : Nat) : Lst (listed.setIfInBounds i true) j ↔ j = i ∨ Lst listed j := by
  unfold Lst
  by_cases h : i = j
  · subst h; simp [hi]
  · rw [getD_set_ne false h]
    constructor
    · intro k; exact .inr k
    · rintro (k | k)
      · exact absurd k.symm h
      · exact k
theorem tmps_step {listed : Array Bool} {tS : Tm} (hT : Tmps rs t listed tS) {q : Nat} {r : Rec} (hq : rs[q]? = some r) (hi : r.i < listed.size) (hno : ¬ Lst listed r.i) : Tmps rs t (listed.setIfInBounds r.i true) (putT tS r.o.dst r.v) := by
  refine ⟨?_, fun x => ⟨fun z y hz hy hl => ?_, fun hn => ?_⟩⟩
  · unfold putT; split <;> exact hT.1
  · rcases (lst_set hi _).1 hl with h | h
    · have := hD.once z q y r hz hq h
      subst this
      rw [hq] at hz; cases hz
      unfold putT
      rw [hy]
      simp only [nth_put, if_true]
    · have hne : ∀ d, r.o.dst = some d → x ≠ d := fun d hd e => by
        subst e
        have := once_d hD z q y r x hz hq hy hd
        subst this
        rw [hq] at hz; cases hz
        exact hno h
      unfold putT
      split
      · rename_i d hd
        rw [nth_put, if_neg (hne d hd)]
        exact (hT.2 x).1 z y hz hy h
      · exact (hT.2 x).1 z y hz hy h
  · have hne : ∀ d, r.o.dst = some d → x ≠ d := fun d hd e => by
      subst e
      exact hn q r hq hd ((lst_set hi _).2 (.inl rfl))
    have h0 := (hT.2 x).2 fun z y hz hy hl => hn z y hz hy ((lst_set hi _).2 (.inr hl))
    unfold putT
    split
    · rename_i d hd
      rw [nth_put, if_neg (hne d hd)]
      exact h0
    · exact h0
end
structure Mid (E : Env) (ops : Array Oper) (rs : List Rec) (t : Tm) (σ' : AH) (B : Nat) (w0 : World) (R0 : Mp) (σ : AH) (ds : List Deferred) (listed : Array Bool) (R : Mp) (tS : Tm) (p : Nat) (a : Act) (w : World) : Prop where
  size : listed.size = ops.size
  closed : Closed ops listed
  le : p ≤ rs.length
  past : ∀ (q : Nat) (r : Rec), rs[q]? = some r → q < p → isEff r.o.op = true → Lst listed r.i
  coming : ∀ (q : Nat) (r : Rec), rs[q]? = some r → p ≤ q → (isEff r.o.op = true ∨ isFresh r.o.op = true) → ¬ Lst listed r.i
  tr : TR R tS a.tmps
  defers : a.defers = ds
  tmps : Tmps rs t listed tS
  ext : Ext R0 σ R (Hat rs σ' p)
  sim : Sim B w0 R (Hat rs σ' p) w
  ghost : ∀ (q : Nat) (r : Rec) (x : AObj) (f : Nat → Value), rs[q]? = some r → q < p → ¬ Lst listed r.i → r.w = true → isFresh r.o.op = true → evFresh E r.t r.o.op = some (x, f) → R r.σ.next = none ∧ r.σ.next < (Hat rs σ' p).next ∧ (Hat rs σ' p).get r.σ.next = some x
section
variable {E : Env} (hE : EnvOk E) {go : Task → Option Res} (hG : GoOk E go) {ops : Array Oper} {rs : List Rec} {t t' : Tm} {σ σ' : AH} {ms : List Nat} (hD : DrawIs E go ops.toList rs t σ t' σ' ms) {B : Nat} {w0 : World} {R0 : Mp} {ds : List Deferred}
include hD
theorem advance : ∀ (d : Nat) (listed : Array Bool) (R : Mp) (tS : Tm) (p : Nat) (a : Act) (w : World), rs.length - p = d → Mid E ops rs t σ' B w0 R0 σ ds listed R tS p a w →
    ∃ p', (p' = rs.length ∨ ∃ r, rs[p']? = some r ∧ isEff r.o.op = true) ∧ Mid E ops rs t σ' B w0 R0 σ ds listed R tS p' a w
  | 0, listed, R, tS, p, a, w, hd, h => ⟨p, .inl (by have := h.le; omega), h⟩
  | d + 1, listed, R, tS, p, a, w, hd, h => by
    have hp : p < rs.length := by omega
    have hr : rs[p]? = some (rs[p]'hp) := List.getElem?_eq_getElem hp
    generalize rs[p]'hp = r at hr
    cases he : isEff r.o.op with
    | true => exact ⟨p, .inr ⟨r, hr, he⟩, h⟩
    | false =>
      obtain ⟨k1, k2, k3⟩ := (chain_at hD.chain).2 p r hr
      have hat : Hat rs σ' p = r.σ := Hat_some hr
      have mk : Ext R0 σ R (Hat rs σ' (p + 1)) → Sim B w0 R (Hat rs σ' (p + 1)) w →
          (∀ (q : Nat) (r : Rec) (x : AObj) (f : Nat → Value), rs[q]? = some r → q < p + 1 → ¬ Lst listed r.i → r.w = true → isFresh r.o.op = true → evFresh E r.t r.o.op = some (x, f) → R r.σ.next = none ∧ r.σ.next < (Hat rs σ' (p + 1)).next ∧ (Hat rs σ' (p + 1)).get r.σ.next = some x) →
          Mid E ops rs t σ' B w0 R0 σ ds listed R tS (p + 1) a w := fun e1 e2 e3 =>
        ⟨h.size, h.closed, hp, fun q s hs hq hef => (by
            rcases Nat.lt_succ_iff_lt_or_eq.1 hq with hq | hq
            · exact h.past q s hs hq hef
            · subst hq; rw [hr] at hs; cases hs; rw [he] at hef; cases hef),
          fun q s hs hq hef => h.coming q s hs (by omega) hef, h.tr, h.defers, h.tmps, e1, e2, e3⟩
      refine advance d listed R tS (p + 1) a w (by omega) ?_
      rcases rec_calm k1 he with ⟨c1, c2⟩ | ⟨c1, c2, c3⟩ | ⟨x, f, c1, c2, c3, c4, c5⟩
      · have e : Hat rs σ' (p + 1) = Hat rs σ' p := by rw [k3, c2, hat]
        refine mk (by rw [e]; exact h.ext) (by rw [e]; exact h.sim) fun q s x f hs hq hl hw hf hx => ?_
        rw [e]
        rcases Nat.lt_succ_iff_lt_or_eq.1 hq with hq | hq
        · exact h.ghost q s x f hs hq hl hw hf hx
        · subst hq; rw [hr] at hs; cases hs; rw [c1] at hw; cases hw
      · have e : Hat rs σ' (p + 1) = Hat rs σ' p := by rw [k3, c3, hat]
        refine mk (by rw [e]; exact h.ext) (by rw [e]; exact h.sim) fun q s x f hs hq hl hw hf hx => ?_
        rw [e]
        rcases Nat.lt_succ_iff_lt_or_eq.1 hq with hq | hq
        · exact h.ghost q s x f hs hq hl hw hf hx
        · subst hq; rw [hr] at hs; cases hs; rw [c2] at hf; cases hf
      · have e : Hat rs σ' (p + 1) = (Hat rs σ' p).new x := by rw [k3, c5, hat]
        refine mk ?_ (by rw [e]; exact h.sim.ghost x) fun q s y g hs hq hl hw hf hx => ?_
        · rw [e]
          refine h.ext.trans ⟨R.le_refl, Nat.le_succ _, fun b hb hn => ⟨by rw [ah_new_get, if_neg (by omega)], hn⟩⟩
        · rw [e, ah_new_next, ah_new_get]
          rcases Nat.lt_succ_iff_lt_or_eq.1 hq with hq | hq
          · obtain ⟨g1, g2, g3⟩ := h.ghost q s y g hs hq hl hw hf hx
            refine ⟨g1, by omega, ?_⟩
            rw [if_neg (by omega)]; exact g3
          · subst hq; rw [hr] at hs; cases hs
            rw [c3] at hx; cases hx
            rw [hat]
            exact ⟨by rw [← hat]; exact h.sim.none_next (Nat.le_refl _), Nat.lt_succ_self _, if_pos rfl⟩
theorem place {i : Nat} {o : Oper} (ho : ops[i]? = some o) : ∃ (q : Nat) (r : Rec), rs[q]? = some r ∧ r.i = i ∧ r.o = o := by
  obtain ⟨q, r, h1, h2⟩ := hD.all i o (by simpa using ho)
  have := hD.recs q r h1
  rw [h2] at this
  have ho' : ops.toList[i]? = some o := by simpa using ho
  rw [ho'] at this; cases this
  exact ⟨q, r, h1, h2, rfl⟩
theorem all_listed {listed : Array Bool} {R : Mp} {tS : Tm} {p : Nat} {a : Act} {w : World} (h : Mid E ops rs t σ' B w0 R0 σ ds listed R tS p a w) (hr : Region.ready .any ops listed = []) : ∀ (q : Nat) (r : Rec), rs[q]? = some r → Lst listed r.i := by
  intro q
  induction q using Nat.strongRecOn with
  | _ q ih =>
    intro r hq
    have ho : ops[r.i]? = some r.o := by simpa using hD.recs q r hq
    have hlt : r.i < ops.size := (Array.getElem?_eq_some_iff.1 ho).1
    cases hl : listed.getD r.i false with
    | true => exact hl
    | false =>
      have : r.i ∈ Region.ready .any ops listed := by
        rw [mem_ready]
        refine ⟨?_, r.o, ho, fun e he hb => ?_⟩
        · have hs := h.size
          rw [Array.getD_eq_getD_getElem?, Array.getElem?_eq_getElem (by omega)] at hl ⊢
          simpa using hl
        · have hm := (hD.masks r.i r.o (by simpa using ho) e.on).2 ⟨e, by simpa using he, hb, .inl rfl⟩
          obtain ⟨q', s, k1, k2, k3⟩ := hD.pre q r hq e.on hm
          rw [← k3]
          exact ih q' k1 s k2
      rw [hr] at this; cases this
theorem Mid.done {listed : Array Bool} {R : Mp} {tS : Tm} {p : Nat} {a : Act} {w : World} (h : Mid E ops rs t σ' B w0 R0 σ ds listed R tS p a w) (hp : p = rs.length ∨ ∃ r, rs[p]? = some r ∧ isEff r.o.op = true) (hl : ∀ (q : Nat) (r : Rec), rs[q]? = some r → Lst listed r.i) (ht : t.d = some undef) :
    Ext R0 σ R σ' ∧ TR R t' a.tmps ∧ Sim B w0 R σ' w := by
  have hpe : p = rs.length := by
    rcases hp with hp | ⟨r, h1, h2⟩
    · exact hp
    · exact absurd (hl p r h1) (h.coming p r h1 (Nat.le_refl _) (.inl h2))
  subst hpe
  have hx := h.ext
  have hs := h.sim
  rw [Hat_end] at hx hs
  obtain ⟨n1, n2, n3⟩ := nth_at hD.chain (once_d hD) rs.length (Nat.le_refl _)
  rw [Tat_end] at n1 n2 n3
  refine ⟨hx, ⟨n2.trans ht, by rw [h.tr.n, h.tmps.1, n1], fun i v hv => ?_⟩, hs⟩
  have hn : nth t' i = v := by unfold Rk.nth; rw [hv]
  have : nth tS i = v := by
    rw [← hn]
    by_cases hw : ∃ (q' : Nat) (s : Rec), rs[q']? = some s ∧ s.o.dst = some i
    · obtain ⟨q', s, k1, k2⟩ := hw
      rw [(h.tmps.2 i).1 q' s k1 k2 (hl q' s k1), (n3 i).1 q' s (List.getElem?_eq_some_iff.1 k1).1 k1 k2]
    · rw [(h.tmps.2 i).2 fun z y hz hy => absurd ⟨z, y, hz, hy⟩ hw, (n3 i).2 fun z y _ hz hy => absurd ⟨z, y, hz, hy⟩ hw]
  rw [← this]
  exact h.tr.nth i
end
end Rk
end Go.Proofs.YtkdcfijebgeajaaGreat

namespace Go.Proofs.YtkdcfijebgeajaaGreat
namespace Rk
open Go.RowKit
set_option linter.unusedVariables false
set_option linter.unusedSimpArgs false
set_option linter.unusedSectionVars false
section
variable {E : Env} (hE : EnvOk E) {go : Task → Option Res} (hG : GoOk E go) {ops : Array Oper} {rs : List Rec} {t t' : Tm} {σ σ' : AH} {ms : List Nat} (hD : DrawIs E go ops.toList rs t σ t' σ' ms) {B : Nat} {w0 : World} {R0 : Mp} {ds : List Deferred}
variable {listed : Array Bool} {R : Mp} {tS : Tm} {p : Nat} {a : Act} {w : World}
include hD
theorem eff_at (h : Mid E ops rs t σ' B w0 R0 σ ds listed R tS p a w) (hp : p = rs.length ∨ ∃ r, rs[p]? = some r ∧ isEff r.o.op = true) {q : Nat} {r : Rec} (hq : rs[q]? = some r) (hno : ¬ Lst listed r.i) (hr : ∀ e ∈ r.o.after, Region.binds .any e = true → Lst listed e.on) (he : isEff r.o.op = true) : q = p := by
  have hql : q < rs.length := (List.getElem?_eq_some_iff.1 hq).1
  have hge : p ≤ q := by
    rcases Nat.lt_or_ge q p with hlt | hge
    · exact absurd (h.past q r hq hlt he) hno
    · exact hge
  rcases hp with rfl | ⟨s, hs, hse⟩
  · omega
  · by_cases hqp : q = p
    · exact hqp
    · have hne : r.i ≠ s.i := fun e => hqp (hD.once q p r s hq hs e)
      have ho : ops[r.i]? = some r.o := by simpa using hD.recs q r hq
      rcases (hD.pairs r.i s.i r.o s.o (hD.recs q r hq) (hD.recs p s hs) hne).ord with k | k | ⟨k, _, _⟩
      · exact absurd (ready_mask hD h.closed ho hr k) (h.coming p s hs (Nat.le_refl _) (.inl hse))
      · have := before hD hs hq k
        omega
      · exact absurd ⟨he, hse⟩ k
theorem fresh_lt (h : Mid E ops rs t σ' B w0 R0 σ ds listed R tS p a w) (hp : p = rs.length ∨ ∃ r, rs[p]? = some r ∧ isEff r.o.op = true) {q : Nat} {r : Rec} (hq : rs[q]? = some r) (hr : ∀ e ∈ r.o.after, Region.binds .any e = true → Lst listed e.on) (hf : isFresh r.o.op = true) : q < p := by
  have hql : q < rs.length := (List.getElem?_eq_some_iff.1 hq).1
  rcases hp with rfl | ⟨s, hs, hse⟩
  · exact hql
  · rcases Nat.lt_trichotomy q p with k | k | k
    · exact k
    · subst k
      rw [hq] at hs; cases hs
      unfold isFresh at hf
      unfold isEff at hse
      generalize cls r.o.op = c at hf hse
      cases c <;> simp at hf hse
    · have ho : ops[r.i]? = some r.o := by simpa using hD.recs q r hq
      have := hD.fresh q r hq hf p s k hs hse
      exact absurd (ready_mask hD h.closed ho hr this) (h.coming p s hs (Nat.le_refl _) (.inl hse))
theorem Mid.step (h : Mid E ops rs t σ' B w0 R0 σ ds listed R tS p a w) (hp : p = rs.length ∨ ∃ r, rs[p]? = some r ∧ isEff r.o.op = true) {q : Nat} {r : Rec} (hq : rs[q]? = some r) (hno : ¬ Lst listed r.i) (hr : ∀ e ∈ r.o.after, Region.binds .any e = true → Lst listed e.on)
    {R' : Mp} {v' : Value} {w' : World} {p' : Nat} (hle : R.le R') (hv : VR R' r.v v') (hpp : (p' = p ∧ isEff r.o.op = false) ∨ (p' = p + 1 ∧ q = p)) (e1 : Ext R0 σ R' (Hat rs σ' p')) (e2 : Sim B w0 R' (Hat rs σ' p') w')
    (e3 : ∀ (q2 : Nat) (s : Rec) (x : AObj) (f : Nat → Value), q2 ≠ q → rs[q2]? = some s → q2 < p → R s.σ.next = none → s.σ.next < (Hat rs σ' p).next → (Hat rs σ' p).get s.σ.next = some x → s.w = true → isFresh s.o.op = true → evFresh E s.t s.o.op = some (x, f) → R' s.σ.next = none ∧ s.σ.next < (Hat rs σ' p').next ∧ (Hat rs σ' p').get s.σ.next = some x) :
    Mid E ops rs t σ' B w0 R0 σ ds (listed.setIfInBounds r.i true) R' (putT tS r.o.dst r.v) p' (a.put r.o.dst v') w' := by
  have ho : ops[r.i]? = some r.o := by simpa using hD.recs q r hq
  have hlt : r.i < ops.size := (Array.getElem?_eq_some_iff.1 ho).1
  have hil : r.i < listed.size := by rw [h.size]; exact hlt
  have hql : q < rs.length := (List.getElem?_eq_some_iff.1 hq).1
  obtain ⟨k1, _, _⟩ := (chain_at hD.chain).2 q r hq
  have hn := (nth_at hD.chain (once_d hD) q (by omega)).1
  rw [Tat_some hq] at hn
  have hge : p ≤ p' := by omega
  refine ⟨by rw [Array.size_setIfInBounds]; exact h.size, fun i o hi hl e he hb => ?_, ?_, fun z s hs hz hef => ?_, fun z s hs hz hef => ?_, ?_, ?_, tmps_step hD h.tmps hq hil hno, e1, e2, fun z s x f hs hz hl hw hf hx => ?_⟩
  · rw [lst_set hil] at hl ⊢
    rcases hl with rfl | hl
    · rw [ho] at hi; cases hi
      exact .inr (hr e (by simpa using he) hb)
    · exact .inr (h.closed i o hi hl e he hb)
  · rcases hpp with ⟨rfl, _⟩ | ⟨rfl, rfl⟩
    · exact h.le
    · omega
  · rw [lst_set hil]
    rcases Nat.lt_or_ge z p with hz2 | hz2
    · exact .inr (h.past z s hs hz2 hef)
    · rcases hpp with ⟨rfl, _⟩ | ⟨rfl, rfl⟩
      · omega
      · have : z = q := by omega
        subst this
        rw [hq] at hs; cases hs
        exact .inl rfl
  · rw [lst_set hil]
    rintro (k | k)
    · have := hD.once z q s r hs hq k
      subst this
      rw [hq] at hs; cases hs
      rcases hpp with ⟨rfl, hne⟩ | ⟨rfl, rfl⟩
      · rcases hef with hef | hef
        · rw [hne] at hef; cases hef
        · have := fresh_lt hD h hp hq hr hef
          omega
      · omega
    · exact h.coming z s hs (by omega) hef k
  · unfold putT
    cases hd : r.o.dst with
    | none => exact h.tr.mono hle
    | some d =>
      have := k1.dst d hd
      rw [hn] at this
      exact (h.tr.mono hle).put (by rw [h.tmps.1]; exact this) hv
  · rw [← h.defers]
    cases r.o.dst <;> rfl
  · rw [lst_set hil] at hl
    have hzq : z ≠ q := fun e => by subst e; rw [hq] at hs; cases hs; exact hl (.inl rfl)
    have hzp : z < p := by
      rcases hpp with ⟨rfl, _⟩ | ⟨rfl, rfl⟩
      · exact hz
      · omega
    obtain ⟨g1, g2, g3⟩ := h.ghost z s x f hs hzp (fun k => hl (.inr k)) hw hf hx
    exact e3 z s x f hzq hs hzp g1 g2 g3 hw hf hx
include hE hG
theorem draw_step {F : Fence} (hF : Good F) {n : Nat} {Q : Exit → Act → World → Prop} (h : Mid E ops rs t σ' B w0 R0 σ ds listed R tS p a w) (hp : p = rs.length ∨ ∃ r, rs[p]? = some r ∧ isEff r.o.op = true) {i : Nat} (hi : i ∈ Region.ready .any ops listed) {K : Act → World → Prop}
    (hK : ∀ R' tS' p' a' w', (p' = rs.length ∨ ∃ r, rs[p']? = some r ∧ isEff r.o.op = true) → Mid E ops rs t σ' B w0 R0 σ ds (listed.setIfInBounds i true) R' tS' p' a' w' → K a' w') : wpOpIn F n E.P ops Q i K a w := by
  rw [mem_ready] at hi
  obtain ⟨hl, o, ho, hall⟩ := hi
  have hno : ¬ Lst listed i := fun k => by
    unfold Lst at k
    have hs := h.size
    have hlt : i < ops.size := (Array.getElem?_eq_some_iff.1 ho).1
    rw [Array.getD_eq_getD_getElem?, Array.getElem?_eq_getElem (by omega)] at hl k
    simp at hl k
    rw [hl] at k; cases k
  obtain ⟨q, r, hq, rfl, rfl⟩ := place hD ho
  obtain ⟨k1, k2, k3⟩ := (chain_at hD.chain).2 q r hq
  have hlook : ∀ d, looks ops.toList r.o d = true → nth tS d = nth r.t d := fun d hd => same_look hD h.closed h.tmps hq hno hall hd
  have hev := ev_look hlook
  unfold wpOpIn
  simp only [ho]
  rw [want_sound h.tr ops r.o, want_congr hlook, ← k1.w]
  have here : isEff r.o.op = false → Hat rs σ' p = Hat rs σ' p := fun _ => rfl
  cases hw : r.w with
  | false =>
    simp only [Bool.false_eq_true, if_false]
    refine ⟨fun f _ => hF.fn f, ?_⟩
    obtain ⟨n1, n2⟩ := k1.no hw
    cases he : isEff r.o.op with
    | true =>
      have hqp := eff_at hD h hp hq hno hall he
      subst hqp
      have e : Hat rs σ' (q + 1) = Hat rs σ' q := by rw [k3, n2, Hat_some hq]
      have := Mid.step hD h hp hq hno hall (R' := R) (v' := undef) (w' := w) (p' := q + 1) R.le_refl (by rw [n1]; exact vr_undef R) (.inr ⟨rfl, rfl⟩) (by rw [e]; exact h.ext) (by rw [e]; exact h.sim) (fun z s x f _ _ _ g1 g2 g3 _ _ _ => by rw [e]; exact ⟨g1, g2, g3⟩)
      obtain ⟨p', z1, z2⟩ := advance hD _ _ _ _ _ _ _ rfl this
      exact hK _ _ _ _ _ z1 z2
    | false =>
      exact hK _ _ _ _ _ hp (Mid.step hD h hp hq hno hall (R' := R) (v' := undef) (w' := w) (p' := p) R.le_refl (by rw [n1]; exact vr_undef R) (.inl ⟨rfl, he⟩) h.ext h.sim (fun z s x f _ _ _ g1 g2 g3 _ _ _ => ⟨g1, g2, g3⟩))
  | true =>
    simp only [if_true]
    have hop := k1.yes hw
    rw [← op_congr hev] at hop
    cases he : isEff r.o.op with
    | true =>
      have hqp := eff_at hD h hp hq hno hall he
      subst hqp
      rw [← Hat_some (σ' := σ') hq, ← k3] at hop
      refine op_sound hE hG h.sim h.tr hF r.o hop fun R' v' w' x1 x2 x3 => ?_
      have := Mid.step hD h hp hq hno hall (R' := R') (v' := v') (w' := w') (p' := q + 1) x1.le x2 (.inr ⟨rfl, rfl⟩) (h.ext.trans x1) x3 (fun z s x f _ _ _ g1 g2 g3 _ _ _ => by
        obtain ⟨f1, f2⟩ := x1.fr _ g2 g1
        exact ⟨f2, Nat.lt_of_lt_of_le g2 x1.next, f1.trans g3⟩)
      obtain ⟨p', z1, z2⟩ := advance hD _ _ _ _ _ _ _ rfl this
      exact hK _ _ _ _ _ z1 z2
    | false =>
      have calm : evOp E go tS (Hat rs σ' p) r.o.op = some (r.v, Hat rs σ' p) → r.o.wpIn F n E.P a w K Q := fun hop => by
        refine op_sound hE hG h.sim h.tr hF r.o hop fun R' v' w' x1 x2 x3 => ?_
        exact hK _ _ _ _ _ hp (Mid.step hD h hp hq hno hall (R' := R') (v' := v') (w' := w') (p' := p) x1.le x2 (.inl ⟨rfl, he⟩) (h.ext.trans x1) x3 (fun z s x f _ _ _ g1 g2 g3 _ _ _ => by
          obtain ⟨f1, f2⟩ := x1.fr _ g2 g1
          exact ⟨f2, Nat.lt_of_lt_of_le g2 x1.next, f1.trans g3⟩))
      cases hc : cls r.o.op with
      | still =>
        refine calm ?_
        unfold evOp at hop ⊢
        rw [hc] at hop ⊢
        simp only at hop ⊢
        cases hs : evStill E tS r.o.op with
        | none => rw [hs] at hop; cases hop
        | some v => rw [hs] at hop; simp only [withH] at hop ⊢; injection hop with hop; injection hop with hop _; rw [hop]
      | read =>
        refine calm ?_
        have hrd := hD.reads p h.le hp q r hq (by unfold isRead; rw [hc]) hw (fun z s hz hs hef => ?_) (fun z s hz hs hef => ?_)
        · unfold evOp
          rw [hc]
          simp only
          rw [read_congr hev, hrd]
          rfl
        · cases hb : bit (maskOf ms s.i) r.i with
          | false => rfl
          | true =>
            have hos : ops[s.i]? = some s.o := by simpa using hD.recs z s hs
            exact absurd (closed_mask hD h.closed s.i s.o hos (h.past z s hs hz hef) r.i hb) hno
        · cases hb : bit (maskOf ms r.i) s.i with
          | false => rfl
          | true => exact absurd (ready_mask hD h.closed ho hall hb) (h.coming z s hs hz (.inl hef))
      | fresh =>
        have hf : isFresh r.o.op = true := by unfold isFresh; rw [hc]
        have hqp := fresh_lt hD h hp hq hall hf
        rcases rec_calm k1 he with ⟨c1, _⟩ | ⟨_, c2, _⟩ | ⟨x, f, c1, c2, c3, c4, c5⟩
        · rw [hw] at c1; cases c1
        · rw [hf] at c2; cases c2
        · obtain ⟨g1, g2, g3⟩ := h.ghost q r x f hq hqp hno hw hf c3
          rw [← fresh_congr hev] at c3
          obtain ⟨ob, s, g, y1, y2, y3⟩ := fresh_sound hE h.tr r.o c3
          have hd : ∀ c, r.o.op ≠ .defer c := fun c e => by rw [e] at hc; cases hc
          refine ⟨fun f _ => hF.fn f, ?_⟩
          rw [Oper.semAt_eq _ _ _ hd, y2]
          have hid : σ.next ≤ r.σ.next := by
            have := next_at hD.chain hD.next (p := 0) q (by have := (List.getElem?_eq_some_iff.1 hq).1; omega)
            rw [(chain_at hD.chain).1.2, Nat.zero_add, Hat_some hq] at this
            exact this
          have hle : R.le (R.set r.σ.next (w.heap.size, s)) := Mp.set_le g1
          refine hK _ _ _ _ _ hp (Mid.step hD h hp hq hno hall (p' := p) hle ?_ (.inl ⟨rfl, he⟩) ⟨Mp.le_trans h.ext.le hle, h.ext.next, fun b hb hn => ?_⟩ (h.sim.real g2 g1 g3 y1) (fun z u x2 f2 hzq hz hzp i1 i2 i3 iw jf ix => ?_))
          · rw [c4]; exact y3 _ _ _ (Mp.set_same R _ _)
          · obtain ⟨f1, f2⟩ := h.ext.fr b hb hn
            exact ⟨f1, by rw [Mp.set_ne (by omega)]; exact f2⟩
          · refine ⟨?_, i2, i3⟩
            have hne : u.σ.next ≠ r.σ.next := by
              have grow : ∀ (z1 z2 : Nat) (u1 u2 : Rec) (x1 : AObj) (f1 : Nat → Value), z1 < z2 → rs[z1]? = some u1 → rs[z2]? = some u2 → u1.w = true → isFresh u1.o.op = true → u1.σ.next < u2.σ.next := fun z1 z2 u1 u2 x1 f1 hlt hz1 hz2 w1 j1 => by
                obtain ⟨b1, _, b3⟩ := (chain_at hD.chain).2 z1 u1 hz1
                have hne1 : isEff u1.o.op = false := by
                  unfold isFresh at j1
                  unfold isEff
                  generalize cls u1.o.op = c at j1
                  cases c <;> simp at j1 ⊢
                rcases rec_calm b1 hne1 with ⟨c1, _⟩ | ⟨_, c2, _⟩ | ⟨x, f, _, _, _, _, c5⟩
                · rw [w1] at c1; cases c1
                · rw [j1] at c2; cases c2
                · have hn := next_at hD.chain hD.next (p := z1 + 1) (z2 - (z1 + 1)) (by have := (List.getElem?_eq_some_iff.1 hz2).1; omega)
                  rw [show z1 + 1 + (z2 - (z1 + 1)) = z2 by omega, Hat_some hz2, b3, c5, ah_new_next] at hn
                  omega
              rcases Nat.lt_or_gt_of_ne hzq with hlt | hlt
              · have := grow z q u r x2 f2 hlt hz hq iw jf; omega
              · have := grow q z r u x2 f2 hlt hq hz hw hf; omega
            rw [Mp.set_ne hne]; exact i1
      | eff => unfold isEff at he; rw [hc] at he; cases he
      | no =>
        unfold evOp at hop
        rw [hc] at hop; cases hop
theorem draw_any {F : Fence} (hF : Good F) {n : Nat} {ms' : List Nat} (hm : MR R0 ms' ds) (ht : t.d = some undef) : ∀ (fuel : Nat) (U : List Nat) (listed : Array Bool) (R : Mp) (tS : Tm) (p : Nat) (a : Act) (w : World), U.length ≤ fuel → (∀ i, i < ops.size → ¬ Lst listed i → i ∈ U) → (p = rs.length ∨ ∃ r, rs[p]? = some r ∧ isEff r.o.op = true) → Mid E ops rs t σ' B w0 R0 σ ds listed R tS p a w →
    wpAnyIn F n E.P .any ops (CodeOut B w0 R0 σ .normal t' ms' σ') fuel listed a w := by
  have fin : ∀ (listed : Array Bool) (R : Mp) (tS : Tm) (p : Nat) (a : Act) (w : World), (p = rs.length ∨ ∃ r, rs[p]? = some r ∧ isEff r.o.op = true) → Mid E ops rs t σ' B w0 R0 σ ds listed R tS p a w → Region.ready .any ops listed = [] → CodeOut B w0 R0 σ .normal t' ms' σ' .normal a w := fun listed R tS p a w hp h hr => by
    obtain ⟨x1, x2, x3⟩ := Mid.done hD h hp (all_listed hD h hr) ht
    exact ⟨R, rfl, x1, x2, by rw [h.defers]; exact hm.mono x1.le, x3⟩
  intro fuel
  induction fuel with
  | zero =>
    intro U listed R tS p a w hU hall hp h
    have hU0 : U = [] := List.length_eq_zero_iff.1 (by omega)
    subst hU0
    have hr : Region.ready .any ops listed = [] := by
      cases hr : Region.ready .any ops listed with
      | nil => rfl
      | cons i is =>
        have hi : i ∈ Region.ready .any ops listed := by rw [hr]; simp
        rw [mem_ready] at hi
        obtain ⟨hl, o, ho, _⟩ := hi
        have hlt : i < ops.size := (Array.getElem?_eq_some_iff.1 ho).1
        refine absurd (hall i hlt fun k => ?_) (by simp)
        unfold Lst at k
        have hs := h.size
        rw [Array.getD_eq_getD_getElem?, Array.getElem?_eq_getElem (by omega)] at hl k
        simp at hl k
        rw [hl] at k; cases k
    exact ⟨hr, fin listed R tS p a w hp h hr⟩
  | succ fuel ih =>
    intro U listed R tS p a w hU hall hp h
    refine ⟨fun hr => fin listed R tS p a w hp h hr, fun i hi => ?_⟩
    have hiU : i < ops.size ∧ i ∈ U := by
      have hi2 := hi
      rw [mem_ready] at hi2
      obtain ⟨hl, o, ho, _⟩ := hi2
      have hlt : i < ops.size := (Array.getElem?_eq_some_iff.1 ho).1
      refine ⟨hlt, hall i hlt fun k => ?_⟩
      unfold Lst at k
      have hs := h.size
      rw [Array.getD_eq_getD_getElem?, Array.getElem?_eq_getElem (by omega)] at hl k
      simp at hl k
      rw [hl] at k; cases k
    refine draw_step hE hG hD hF h hp hi fun R' tS' p' a' w' z1 z2 => ih (U.erase i) _ R' tS' p' a' w' ?_ (fun j hj hn => ?_) z1 z2
    · rw [List.length_erase_of_mem hiU.2]; omega
    · rw [lst_set (by rw [h.size]; exact hiU.1)] at hn
      exact (List.mem_erase_of_ne fun e => hn (.inl e)).2 (hall j hj fun k => hn (.inr k))
end
theorem drawn_sound {E : Env} (hE : EnvOk E) {go : Task → Option Res} (hG : GoOk E go) {B : Nat} {w0 : World} {F : Fence} (hF : Good F) {n : Nat} (id : Nat) (ops : Array Oper) {R : Mp} {t t' : Tm} {σ σ' : AH} {a : Act} {w : World} {ms : List Nat} (h : evDraw E go ops.toList t σ = some (t', σ')) (ht : TR R t a.tmps) (hm : MR R ms a.defers) (hS : Sim B w0 R σ w) :
    (Code.region id ops true).wpIn F n E.P (CodeOut B w0 R σ .normal t' ms σ') a w := by
  obtain ⟨rs, mk, hD⟩ := draw_is h
  refine wpIn_region_any hE.mixed ?_
  have hun : ∀ i, ¬ Lst (Array.replicate ops.size false) i := fun i k => by
    unfold Lst at k
    rw [Array.getD_eq_getD_getElem?, Array.getElem?_replicate] at k
    split at k <;> simp at k
  have h0 := (chain_at hD.chain).1
  have start : Mid E ops rs t σ' B w0 R σ a.defers (Array.replicate ops.size false) R t 0 a { w with drawn := w.drawn + 1 } :=
    ⟨by simp, fun i o _ hl => absurd hl (hun i), Nat.zero_le _, fun q r _ hq => absurd hq (Nat.not_lt_zero _), fun q r _ _ _ => hun _, ht, rfl, ⟨rfl, fun x => ⟨fun q r _ _ hl => absurd hl (hun _), fun _ => rfl⟩⟩, by rw [h0.2]; exact Ext.refl R σ, by rw [h0.2]; exact hS.drawn _, fun q r x f _ hq => absurd hq (Nat.not_lt_zero _)⟩
  obtain ⟨p, z1, z2⟩ := advance hD _ _ _ _ _ _ _ rfl start
  exact draw_any hE hG hD hF hm ht.d ops.size (List.range ops.size) _ R t p a _ (by simp) (fun i hi _ => List.mem_range.2 hi) z1 z2
end Rk
end Go.Proofs.YtkdcfijebgeajaaGreat

namespace Go.Proofs.YtkdcfijebgeajaaGreat
namespace Rk
open Go.RowKit
set_option linter.unusedVariables false
set_option linter.unusedSimpArgs false
set_option linter.unusedSectionVars false
section
variable {E : Env} (hE : EnvOk E) {B : Nat} {w0 : World}
def resOne (tmps : Array Value) : ResultVar → Sem Value
  | .tmp t => pure (tmps.getD t undef)
  | .cell a t => do loadVar t (← asAddr (tmps.getD a undef))
include hE in
theorem resM_sound {R : Mp} {σ : AH} {w : World} (hS : Sim B w0 R σ w) {t : Tm} {tmps : Array Value} (ht : TR R t tmps) : ∀ (rs : List ResultVar) (l : List Value), evRes E σ t rs = some l → ∃ l', LR R l l' ∧ (rs.mapM (resOne tmps)).run E.P w = .ok l' w
  | [], l, h => by simp [evRes] at h; subst h; exact ⟨[], LR.nil R, by simp⟩
  | .tmp i :: rs, l, h => by
    simp only [evRes] at h
    cases h1 : evRes E σ t rs with
    | none => rw [h1] at h; cases h
    | some l1 =>
      rw [h1] at h; cases h
      obtain ⟨l', k1, k2⟩ := resM_sound hS ht rs l1 h1
      refine ⟨tmps.getD i undef :: l', LR.cons (ht.nth i) k1, ?_⟩
      rw [List.mapM_cons]
      simp only [resOne, Sem.run_bind, Sem.run_pure, Result.andThen, k2]
  | .cell a ty :: rs, l, h => by
    simp only [evRes] at h
    cases h0 : evLoad E σ ty (nth t a) with
    | none => rw [h0] at h; cases h
    | some v =>
      cases h1 : evRes E σ t rs with
      | none => rw [h0, h1] at h; cases h
      | some l1 =>
        rw [h0, h1] at h; cases h
        obtain ⟨l', k1, k2⟩ := resM_sound hS ht rs l1 h1
        have hv := ht.nth a
        obtain ⟨v', k3, k4⟩ := load_sound hE hS hv h0
        have hpt : ∃ b o b' s, nth t a = .pointer (some ⟨b, o, none⟩) ∧ R b = some (b', s) ∧ tmps.getD a undef = .pointer (some ⟨b', o, none⟩) := by
          unfold evLoad at h0
          split at h0
          · rename_i b o hn
            rw [hn] at hv
            obtain ⟨b', s, q1, q2⟩ := vr_ptr hv
            exact ⟨b, o, b', s, hn, q1, q2⟩
          · cases h0
        obtain ⟨b, o, b', s, _, _, hp⟩ := hpt
        rw [hp] at k4
        refine ⟨v' :: l', LR.cons k3 k1, ?_⟩
        rw [List.mapM_cons]
        have k5 : (loadVar ty ⟨b', o, none⟩).run E.P w = .ok v' w := by
          simpa [Instr.loadAt, Instr.sureAddr, Result.andThen] using k4
        simp only [resOne, hp, Sem.run_bind, Sem.run_pure, Result.andThen, asAddr, k5, k2]
include hE in
theorem results_sound {R : Mp} {σ : AH} {w : World} (hS : Sim B w0 R σ w) {t : Tm} {tmps : Array Value} (ht : TR R t tmps) {fn : Func} {l : List Value} (h : evRes E σ t fn.results.toList = some l) : ∃ v', VR R (resV l) v' ∧ (results fn tmps).run E.P w = .ok v' w := by
  obtain ⟨l', k1, k2⟩ := resM_sound hE hS ht _ _ h
  have e : ∀ vs : Array Value, vs = ⟨l'⟩ → VR R (resV l) (if h : vs.size = 1 then vs[0] else .tuple vs) := fun vs hvs => by
    subst hvs
    cases l with
    | nil =>
      have := LR.unnil k1
      subst this
      exact (LR.nil R).tup
    | cons x xs => cases xs with
      | nil =>
        obtain ⟨y, l2, rfl, q2, q3⟩ := LR.uncons k1
        have := LR.unnil q3
        subst this
        exact q2
      | cons z zs =>
        have hl := k1.1
        have hne : ¬ (⟨l'⟩ : Array Value).size = 1 := by simp at hl ⊢; omega
        rw [dif_neg hne]
        exact k1.tup
  refine ⟨_, e ⟨l'⟩ rfl, ?_⟩
  have e2 : results fn tmps = (do
      let vs ← fn.results.mapM (resOne tmps)
      pure (if h : vs.size = 1 then vs[0] else .tuple vs)) := by
    unfold results
    congr 1
  rw [e2, Array.mapM_eq_mapM_toList]
  simp only [Sem.run_bind, Sem.run_map, k2, Result.andThen, Sem.run_pure]
theorem Sim.putObj {R : Mp} {σ : AH} {w : World} (h : Sim B w0 R σ w) {b r s : Nat} (hb : R b = some (r, s)) (hg : σ.get b ≠ none) {x : AObj} {o : Obj} (hx : objR R x (some o) s) : Sim B w0 R (σ.put b (some x)) (w.putObj r o) := by
  refine h.repl hb hg ?_ (fun k hk => World.putObj_heap_other hk) World.putObj_size rfl rfl rfl
  rw [World.putObj_heap_same (h.lt b r s hb)]
  exact hx
theorem marks_sound {F : Fence} {n : Nat} {fn : Func} {tmps : Array Value} {Q : Ending → World → Prop} {R : Mp} : ∀ (ms : List Nat) (ds : List Deferred) (σ σ' : AH) (w : World), MR R ms ds → closeMs σ ms = some σ' → Sim B w0 R σ w →
    (∀ w', Sim B w0 R σ' w' → Ext R σ R σ' → LeavesInM F n E.P fn tmps Q [] .returning w') → LeavesInM F n E.P fn tmps Q ds .returning w
  | [], [], σ, σ', w, _, h, hS, hQ => by simp [closeMs] at h; subst h; exact hQ w hS (Ext.refl R σ)
  | b :: bs, d :: ds, σ, σ', w, ⟨⟨r, s, hb, hd⟩, hm⟩, h, hS, hQ => by
    simp only [closeMs] at h
    split at h
    · rename_i hg
      rw [ah_putK] at h
      obtain ⟨_, ho⟩ := hS.obj b r s _ hb hg
      simp only [objR, if_true] at ho
      refine ⟨fun e => FrameMode.noConfusion e, .inl ⟨r, _, (by rw [hd]), run_takeDeferred ho, ?_⟩⟩
      have hS2 : Sim B w0 R (σ.put b (some (.defd false))) (w.putObj r (.deferred none)) := hS.putObj hb (by rw [hg]; simp) (by simp [objR])
      exact marks_sound bs ds _ σ' _ hm h hS2 fun w' k1 k2 => hQ w' k1 ((Ext.put R σ hb _).trans k2)
    · cases h
  | [], _ :: _, _, _, _, h, _, _, _ => h.elim
  | _ :: _, [], _, _, _, h, _, _, _ => h.elim
theorem tmps_sound {R : Mp} {β : Type} {k : Tm → Option β} {x : β} : ∀ (args : List Value) (args' : List Value) (pre : List Value) (m : Nat) (r : Tm), LR R args args' → TR R r ⟨pre ++ List.replicate m undef⟩ → tmpsOf pre.length args r k = some x →
    ∃ t, k t = some x ∧ TR R t ⟨pre ++ args' ++ List.replicate (m - args.length) undef⟩
  | [], args', pre, m, r, hl, ht, h => by
    have := LR.unnil hl
    subst this
    exact ⟨r, h, by simpa using ht⟩
  | v :: vs, args', pre, m, r, hl, ht, h => by
    obtain ⟨v', vs', rfl, h1, h2⟩ := LR.uncons hl
    simp only [tmpsOf, forceV_eq, row_putK] at h
    split at h
    · rename_i hlt
      have hm : 0 < m := by
        have := ht.n
        simp at this
        omega
      have ht2 := ht.put hlt h1
      have e : (⟨pre ++ List.replicate m undef⟩ : Array Value).setIfInBounds pre.length v' = ⟨(pre ++ [v']) ++ List.replicate (m - 1) undef⟩ := by
        obtain ⟨m, rfl⟩ : ∃ q, m = q + 1 := ⟨m - 1, by omega⟩
        apply Array.ext'
        simp [List.replicate_succ]
      rw [e] at ht2
      have e3 : Nat.succ pre.length = (pre ++ [v']).length := by simp
      rw [e3] at h
      obtain ⟨t, k1, k2⟩ := tmps_sound vs vs' (pre ++ [v']) (m - 1) _ h2 ht2 h
      refine ⟨t, k1, ?_⟩
      have e4 : pre ++ [v'] ++ vs' ++ List.replicate (m - 1 - vs.length) undef = pre ++ v' :: vs' ++ List.replicate (m - (v :: vs).length) undef := by
        rw [show m - (v :: vs).length = m - 1 - vs.length by simp; omega]; simp
      rw [← e4]; exact k2
    · cases h
theorem enter_sound {R : Mp} {β : Type} {k : Tm → Option β} {x : β} {args : List Value} {args' : Array Value} {n : Nat} (hl : LR R args args'.toList) (h : tmpsOf 0 args ⟨n, some undef, .nil⟩ k = some x) : ∃ t, k t = some x ∧ TR R t (args' ++ Array.replicate (n - args'.size) undef) := by
  have ht : TR R (⟨n, some undef, .nil⟩ : Tm) ⟨[] ++ List.replicate n undef⟩ := by
    refine ⟨rfl, by simp, fun i v hv => ?_⟩
    have e : (⟨[] ++ List.replicate n undef⟩ : Array Value).getD i undef = undef := by
      have e0 : (⟨[] ++ List.replicate n undef⟩ : Array Value) = Array.replicate n undef := by apply Array.ext'; simp
      rw [e0, Array.getD_eq_getD_getElem?, Array.getElem?_replicate]
      split <;> rfl
    rw [e]
    rw [row_get] at hv
    simp only [Tr.get_nil] at hv
    split at hv
    · cases hv; exact vr_undef R
    · cases hv
  obtain ⟨t, k1, k2⟩ := tmps_sound args args'.toList [] n _ hl ht h
  refine ⟨t, k1, ?_⟩
  have e : args' ++ Array.replicate (n - args'.size) undef = ⟨[] ++ args'.toList ++ List.replicate (n - args.length) undef⟩ := by
    apply Array.ext'
    rw [hl.1]; simp
  rw [e]; exact k2
theorem laid_sound {R : Mp} : ∀ (ps : List Tmp) (vs vs' : List Value) (t t' : Tm) (a : Array Value), LR R vs vs' → TR R t a → laidL ps vs t = some t' → TR R t' ((ps.zip vs').foldl (fun tmps (q : Tmp × Value) => tmps.setIfInBounds q.1 q.2) a)
  | [], vs, vs', t, t', a, _, ht, h => by simp [laidL] at h; subst h; simpa using ht
  | p :: ps, [], vs', t, t', a, hl, ht, h => by
    have := LR.unnil hl
    subst this
    simp [laidL] at h; subst h; simpa using ht
  | p :: ps, v :: vs, vs', t, t', a, hl, ht, h => by
    obtain ⟨v', vs2, rfl, h1, h2⟩ := LR.uncons hl
    simp only [laidL, row_putK] at h
    split at h
    · rename_i hp
      simp only [List.zip_cons_cons, List.foldl_cons]
      exact laid_sound ps vs vs2 _ t' _ h2 (ht.put hp h1) h
    · cases h
end
end Rk
end Go.Proofs.YtkdcfijebgeajaaGreat
