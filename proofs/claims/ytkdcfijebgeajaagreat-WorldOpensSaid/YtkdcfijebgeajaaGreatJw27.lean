/- A run reckoned: calls, rounds, code; the whole run.
   A run reckoned: the whole.
   A run reckoned: functions that are known by their contract; sums of words.
   A run reckoned: tables that say what the program says. -/
import Derived.Test.YtkdcfijebgeajaaGreatJw26
import Derived.Conc.MuLone
namespace Go.Proofs.YtkdcfijebgeajaaGreat
namespace Rk
open Go.RowKit
set_option linter.unusedVariables false
set_option linter.unusedSimpArgs false
set_option linter.unusedSectionVars false
theorem CodeOut.ext {B : Nat} {w0 : World} {R R1 : Mp} {σ σ1 : AH} {x : Exit} {t : Tm} {ms : List Nat} {σ' : AH} {e : Exit} {a : Act} {w : World} (h : Ext R σ R1 σ1) (k : CodeOut B w0 R1 σ1 x t ms σ' e a w) : CodeOut B w0 R σ x t ms σ' e a w := by
  obtain ⟨R', k1, k2, k3⟩ := k
  exact ⟨R', k1, h.trans k2, k3⟩
theorem roundsIn_mono {F : Fence} {n : Nat} {P : Program} {c : Code} {Q Q' : Exit → Act → World → Prop} (h : ∀ e a w, Q e a w → Q' e a w) : ∀ (m : Nat) (a : Act) (w : World), Code.roundsIn F n P c Q m a w → Code.roundsIn F n P c Q' m a w
  | 0, _, _, k => k.elim
  | m + 1, a, w, k => wpIn_mono k fun e a w q => by
    cases e with
    | normal => exact roundsIn_mono h m a w q
    | _ => exact h _ _ _ q
def OrcOk (E : Env) : Prop := ∀ f g, E.orc f = some g → ∀ args σ v σ', g args σ = some (v, σ') → ∀ (B : Nat) (w0 : World) (R : Mp) (w : World) (args' : Array Value), Sim B w0 R σ w → LR R args args'.toList →
    (callFunc f args').run E.P w = .ok (.enter f args') w ∧ ∀ (F : Fence), Good F → ∀ n, CallsIn F n E.P f args' w (CallOut B w0 R σ v σ')
def LoopOk (E : Env) (go : Task → Option Res) (m : Nat) : Prop := ∀ q c t ms σ x t' ms' σ', go (.code q (.loop c) t ms σ) = some (.at x t' ms' σ') → ∀ (B : Nat) (w0 : World) (R : Mp) (w : World) (a : Act), Sim B w0 R σ w → TR R t a.tmps → MR R ms a.defers →
    ∀ (F : Fence), Good F → (q = false → F.round = none) → ∀ n, Code.roundsIn F n E.P c (CodeOut B w0 R σ x t' ms' σ') m a w
section
variable {E : Env} (hE : EnvOk E) (hO : OrcOk E) {go : Task → Option Res} (hG : GoOk E go)
include hE hG
include hO in
theorem call_ok {f : FuncId} {args : List Value} {σ : AH} {v : Value} {σ' : AH} (h : step E go (.call f args σ) = some (.val v σ')) (B : Nat) (w0 : World) (R : Mp) (w : World) (args' : Array Value) (hS : Sim B w0 R σ w) (hl : LR R args args'.toList) :
    (callFunc f args').run E.P w = .ok (.enter f args') w ∧ ∀ (F : Fence), Good F → ∀ n, CallsIn F n E.P f args' w (CallOut B w0 R σ v σ') := by
  simp only [step] at h
  split at h
  · rename_i g hg
    split at h
    · rename_i v1 σ1 hgo
      cases h
      exact hO f g hg args σ v σ' hgo B w0 R w args' hS hl
    · cases h
  · split at h
    · cases h
    · rename_i fn hfn
      obtain ⟨q1, q2⟩ := hE.fn f fn hfn
      split at h
      · cases h
      · rename_i c hb
        obtain ⟨t, h1, ht⟩ := enter_sound hl h
        refine ⟨MuLone.run_callFunc_enter q1 q2 hb args' w, fun F hF n => ?_⟩
        have h2 := h1
        unfold tell at h2
        split at h2
        · rename_i x t1 ms1 σ1 hgo
          have body : ∀ (hx : x = .ret ∨ x = .normal), tellAt E fn t1 ms1 σ1 = some (.val v σ') → CallsIn F.plain n E.P f args' w (CallOut B w0 R σ v σ') := fun hx hta => by
            refine callsIn_of_wp_marks q1 hb (hF.plain.fn f) ?_ rfl
            refine wpIn_mono (hG.code false c t [] σ x t1 ms1 σ1 hgo B w0 R w ⟨_, []⟩ hS ht trivial F.plain hF.plain (fun _ => rfl) n) ?_
            rintro e a w' ⟨R', rfl, e1, e2, e3, e4⟩
            unfold tellAt at hta
            split at hta
            · cases hta
            · rename_i σ2 hcl
              split at hta
              · cases hta
              · rename_i l hres
                rw [forceV_eq] at hta
                cases hta
                have : LeavesInM F.plain n E.P fn a.tmps (CallOut B w0 R σ (resV l) σ') a.defers .returning w' := by
                  refine marks_sound ms1 a.defers σ1 σ' w' e3 hcl e4 fun w2 k1 k2 => ?_
                  obtain ⟨v', y1, y2⟩ := results_sound hE k1 e2 hres
                  exact ⟨v', y2, R', v', rfl, e1.trans k2, y1, k1⟩
                rcases hx with rfl | rfl
                · exact this
                · exact this
          have hc : CallsIn F.plain n E.P f args' w (CallOut B w0 R σ v σ') := by
            cases x with
            | ret => exact body (.inl rfl) h2
            | normal => exact body (.inr rfl) h2
            | _ => cases h2
          exact hc
        · cases h2
theorem round_ok {l : Nat} {args : List Value} {σ : AH} {v : Value} {σ' : AH} (h : step E go (.round l args σ) = some (.val v σ')) (B : Nat) (w0 : World) (R : Mp) (w : World) (args' : Array Value) (l' s : Nat) (hS : Sim B w0 R σ w) (hl : LR R args args'.toList) (hR : R l = some (l', s)) :
    ∃ f tmps assign body, (Instr.yield l' args').run E.P w = .ok (.round l' f tmps assign body) w ∧ ∀ (F : Fence), Good F → ∀ n, RoundIn F n E.P l' f tmps assign body w (CallOut B w0 R σ v σ') := by
  simp only [step] at h
  split at h
  · rename_i pe fn tmps ps as bd d hg
    split at h
    · cases h
    · rename_i hlen
      rw [beqN, lenL_eq, lenL_eq] at hlen
      have hlen := of_decide_eq_true hlen
      split at h
      · cases h
      · rename_i t0 ht0
        obtain ⟨hB, fn', tmps', d', sd, o1, o2, o3⟩ := hS.obj l l' s _ hR hg
        have hsz : args'.size = ps.size := by
          have := hl.1
          simp at this hlen
          omega
        refine ⟨_, _, _, _, run_yield o1 hsz, fun F hF n => ?_⟩
        have ht : TR R t0 ((ps.zip args').foldl (fun tmps (q : Tmp × Value) => tmps.setIfInBounds q.1 q.2) tmps') := by
          have := laid_sound ps.toList args args'.toList tmps t0 tmps' hl o2 ht0
          rw [← Array.toList_zip, Array.foldl_toList] at this
          exact this
        split at h
        · rename_i t1 σ1 hgo
          refine roundIn_of_wpIn (hF.fn _) (wpIn_mono (hG.code true as t0 [] σ .normal t1 [] σ1 hgo B w0 R w ⟨_, []⟩ hS ht trivial (F.inRound l') (hF.inRound l') (fun e => by cases e) n) ?_)
          rintro e a1 w1 ⟨R1, rfl, e1, e2, e3, e4⟩
          unfold roundBody at h
          split at h
          · rename_i pe1 fn1 tmps1 ps1 as1 bd1 d1 hg1
            rw [ah_putK] at h
            split at h
            · rename_i x t2 σ3 hgo2
              have hR1 := e1.le _ _ hR
              obtain ⟨_, fn1', tmps1', d1', sd1, p1, p2, p3⟩ := e4.obj l l' s _ hR1 hg1
              have hS2 : Sim B w0 R1 (σ1.put l (some (.loop .busy pe1 fn1 tmps1 ps1 as1 bd1 d1))) (w1.putObj l' (.loop { state := .busy, pending := pe1, fn := fn1', tmps := tmps1', params := ps1, assign := as1, body := bd1, defers := d1' })) := e4.putObj hR1 (by rw [hg1]; simp) ⟨fn1', tmps1', d1', sd1, rfl, p2, p3⟩
              have hx2 : Ext R1 σ1 R1 (σ1.put l (some (.loop .busy pe1 fn1 tmps1 ps1 as1 bd1 d1))) := Ext.put R1 σ1 hR1 _
              have hds : MR R1 [] a1.defers := e3
              refine ⟨_, run_beginRound p1 rfl, wpIn_mono (hG.code true bd t1 [] _ x t2 [] σ3 hgo2 B w0 R1 _ a1 hS2 e2 hds (F.inRound l') (hF.inRound l') (fun e => by cases e) n) ?_⟩
              rintro e a2 w2 ⟨R2, rfl, f1, f2, f3, f4⟩
              unfold roundEnd at h
              split at h
              · rename_i st3 pe3 fn3 tmps3 ps3 as3 bd3 d3 hg3
                have hR2 := f1.le _ _ hR1
                obtain ⟨_, fn3', tmps3', d3', sd3, q1, q2, q3⟩ := f4.obj l l' s _ hR2 hg3
                have fin : ∀ (st : LoopState) (pe : Option Code), Sim B w0 R2 (σ3.put l (some (.loop st pe fn3 tmps3 ps3 as3 bd3 d3))) (w2.putObj l' (.loop { state := st, pending := pe, fn := fn3', tmps := tmps3', params := ps3, assign := as3, body := bd3, defers := d3' })) ∧ Ext R σ R2 (σ3.put l (some (.loop st pe fn3 tmps3 ps3 as3 bd3 d3))) := fun st pe =>
                  ⟨f4.putObj hR2 (by rw [hg3]; simp) ⟨fn3', tmps3', d3', sd3, rfl, q2, q3⟩, e1.trans (hx2.trans (f1.trans (Ext.put R2 σ3 hR2 _)))⟩
                split at h
                · rw [ah_putK] at h
                  cases h
                  exact ⟨_, _, run_endRound none q1, R2, _, rfl, (fin .ready none).2, vr_flat R2 rfl, (fin .ready none).1⟩
                · rw [ah_putK] at h
                  cases h
                  exact ⟨_, _, run_endRound (some .ret) q1, R2, _, rfl, (fin .done (some .ret)).2, vr_flat R2 rfl, (fin .done (some .ret)).1⟩
                · rename_i i
                  rw [ah_putK] at h
                  cases h
                  exact ⟨_, _, run_endRound (some (.exit i)) q1, R2, _, rfl, (fin .done (some (.exit i))).2, vr_flat R2 rfl, (fin .done (some (.exit i))).1⟩
                · cases h
              · cases h
            · cases h
          · cases h
        · cases h
  · cases h
theorem rangeEnd_ok {l d : Nat} {t : Tm} {ms : List Nat} {σ3 : AH} {x : Exit} {t' : Tm} {ms' : List Nat} {σ' : AH} (h : rangeEnd go l d t ms σ3 = some (.at x t' ms' σ')) (B : Nat) (w0 : World) (R : Mp) (w3 : World) (a : Act) (l' s d' sd : Nat) (hS : Sim B w0 R σ3 w3) (ht : TR R t a.tmps) (hm : MR R ms a.defers) (hR : R l = some (l', s)) (hd : R d = some (d', sd)) {F : Fence} (hF : Good F) (hro : F.round = none) (n : Nat) :
    ∃ jump w4, (Instr.endLoop l').run E.P w3 = .ok jump w4 ∧
      (match jump with
       | none => CodeOut B w0 R σ3 x t' ms' σ' .normal { a with defers := [{ target := .collected d', args := #[] }] ++ a.defers } w4
       | some c => c.wpIn F n E.P (CodeOut B w0 R σ3 x t' ms' σ') { a with defers := [{ target := .collected d', args := #[] }] ++ a.defers } w4) := by
  unfold rangeEnd at h
  split at h
  · rename_i st pe fn tmps ps as bd dd hg
    obtain ⟨_, fn', tmps', d1', sd1, q1, q2, q3⟩ := hS.obj l l' s _ hR hg
    have hS4 : Sim B w0 R (σ3.put l (some (.loop .exhausted pe fn tmps ps as bd dd))) (w3.putObj l' (.loop { state := .exhausted, pending := pe, fn := fn', tmps := tmps', params := ps, assign := as, body := bd, defers := d1' })) := hS.putObj hR (by rw [hg]; simp) ⟨fn', tmps', d1', sd1, rfl, q2, q3⟩
    have hm4 : MR R (d :: ms) ([{ target := .collected d', args := #[] }] ++ a.defers) := ⟨⟨d', sd, hd, rfl⟩, hm⟩
    have hx4 : Ext R σ3 R (σ3.put l (some (.loop .exhausted pe fn tmps ps as bd dd))) := Ext.put R σ3 hR _
    clear hg
    split at h
    · cases h
    · rename_i hst
      rw [ah_putK] at h
      refine ⟨_, _, run_endLoop q1 (fun e => hst e), ?_⟩
      cases pe with
      | none =>
        cases h
        exact ⟨R, rfl, hx4, ht, hm4, hS4⟩
      | some c =>
        exact wpIn_mono (hG.code false c t (d :: ms) _ x t' ms' σ' h B w0 R _ { a with defers := [{ target := .collected d', args := #[] }] ++ a.defers } hS4 ht hm4 F hF (fun _ => hro) n) fun e a w k => CodeOut.ext hx4 k
  · cases h
theorem code_ok {m : Nat} (hL : LoopOk E go m) {q : Bool} {c : Code} {t : Tm} {ms : List Nat} {σ : AH} {x : Exit} {t' : Tm} {ms' : List Nat} {σ' : AH} (h : step E go (.code q c t ms σ) = some (.at x t' ms' σ')) (B : Nat) (w0 : World) (R : Mp) (w : World) (a : Act) (hS : Sim B w0 R σ w) (ht : TR R t a.tmps) (hm : MR R ms a.defers)
    (F : Fence) (hF : Good F) (hro : q = false → F.round = none) (n : Nat) : (∀ b, c ≠ .loop b) → c.wpIn F n E.P (CodeOut B w0 R σ x t' ms' σ') a w := by
  intro hnl
  have here : ∀ e : Exit, some (Res.at e t ms σ) = some (Res.at x t' ms' σ') → CodeOut B w0 R σ x t' ms' σ' e a w := fun e h => by
    cases h
    exact ⟨R, rfl, Ext.refl R σ, ht, hm, hS⟩
  cases c with
  | skip => exact wpIn_skip (here _ h)
  | label l => exact wpIn_label (here _ h)
  | ret => exact wpIn_ret (here _ h)
  | exit i => exact wpIn_exit (here _ h)
  | region id ops dr =>
    cases dr with
    | false =>
      simp only [step] at h
      split at h
      · rename_i t1 σ1 hop
        cases h
        exact region_sound hE hG hF id ops hop ht hm hS
      · cases h
    | true =>
      simp only [step] at h
      split at h
      · rename_i t1 σ1 hop
        cases h
        exact drawn_sound hE hG hF id ops hop ht hm hS
      · cases h
  | seq b d =>
    simp only [step] at h
    split at h
    · rename_i t1 ms1 σ1 hgo
      refine wpIn_seq (wpIn_mono (hG.code q b t ms σ .normal t1 ms1 σ1 hgo B w0 R w a hS ht hm F hF hro n) ?_)
      rintro e a1 w1 ⟨R1, rfl, e1, e2, e3, e4⟩
      exact wpIn_mono (hG.code q d t1 ms1 σ1 x t' ms' σ' h B w0 R1 w1 a1 e4 e2 e3 F hF hro n) fun e a w k => k.ext e1
    · rename_i hne
      have hx : x ≠ .normal := fun e => by subst e; exact hne _ _ _ h
      refine wpIn_seq (wpIn_mono (hG.code q b t ms σ x t' ms' σ' h B w0 R w a hS ht hm F hF hro n) ?_)
      intro e a1 w1 k
      have : e ≠ .normal := by obtain ⟨R1, rfl, _⟩ := k; exact hx
      cases e with
      | normal => exact absurd rfl this
      | _ => exact k
  | cond y b d =>
    simp only [step] at h
    split at h
    · rename_i v hv
      have hv := vr_bool (ev_sound ht hv)
      split at h
      · exact wpIn_cond_true hv (hG.code q b t ms σ x t' ms' σ' h B w0 R w a hS ht hm F hF hro n)
      · exact wpIn_cond_false hv (hG.code q d t ms σ x t' ms' σ' h B w0 R w a hS ht hm F hF hro n)
    · cases h
  | block i b =>
    simp only [step] at h
    split at h
    · rename_i j t1 ms1 σ1 hgo
      refine wpIn_block (wpIn_mono (hG.code q b t ms σ (.exit j) t1 ms1 σ1 hgo B w0 R w a hS ht hm F hF hro n) ?_)
      rintro e a1 w1 ⟨R1, rfl, e1, e2, e3, e4⟩
      simp only [Exit.inBlock]
      split at h
      · rename_i hij
        rw [beqN] at hij
        have hij := of_decide_eq_true hij
        cases h
        rw [if_pos hij.symm]
        exact ⟨R1, rfl, e1, e2, e3, e4⟩
      · rename_i hij
        rw [beqN] at hij
        have hij := of_decide_eq_false hij
        cases h
        rw [if_neg (Ne.symm hij)]
        exact ⟨R1, rfl, e1, e2, e3, e4⟩
    · rename_i hne
      have hx : ∀ j, x ≠ .exit j := fun j e => by subst e; exact hne _ _ _ _ h
      refine wpIn_block (wpIn_mono (hG.code q b t ms σ x t' ms' σ' h B w0 R w a hS ht hm F hF hro n) ?_)
      intro e a1 w1 k
      have : ∀ j, e ≠ .exit j := by obtain ⟨R1, rfl, _⟩ := k; exact hx
      cases e with
      | exit j => exact absurd rfl (this j)
      | _ => exact k
  | loop b => exact absurd rfl (hnl b)
  | rangeFunc g ps as bd =>
    simp only [step] at h
    split at h
    · rename_i f fs cs hg
      have hround := hro rfl
      rw [ah_newK, ah_newK] at h
      split at h
      · rename_i v σ3 hgo
        have hfv := ev_sound ht hg
        have : ∃ fs' cs', LR R fs.toList fs' ∧ LR R cs.toList cs' ∧ a.eval g = .func (.func f) ⟨fs'⟩ ⟨cs'⟩ := by
          generalize a.eval g = q at hfv
          cases hfv with
          | flat v h => exact ⟨fs.toList, cs.toList, by
              cases fs with | mk fs => cases cs with | mk cs =>
              cases fs with
              | nil => exact LR.nil R
              | cons => simp [flatA] at h, by
              cases fs with | mk fs => cases cs with | mk cs =>
              cases fs with
              | nil => cases cs with
                | nil => exact LR.nil R
                | cons => simp [flatA] at h
              | cons => simp [flatA] at h, rfl⟩
          | fn f a a' c c' ha hc h1 h2 => exact ⟨a', c', ⟨ha, h1⟩, ⟨hc, h2⟩, rfl⟩
        obtain ⟨fs', cs', l1, l2, hv⟩ := this
        have hS1 := hS.new (x := .defd true) (o := .deferred (some [])) (s := 0) (by simp [objR])
        obtain ⟨σ1, hσ1⟩ : ∃ s, s = σ.new (.defd true) := ⟨_, rfl⟩
        obtain ⟨R1, hR1⟩ : ∃ s, s = R.set σ.next (w.heap.size, 0) := ⟨_, rfl⟩
        have hx1 : Ext R σ R1 σ1 := by rw [hR1, hσ1]; exact Ext.new hS _ _
        have hd1 : R1 σ.next = some (w.heap.size, 0) := by rw [hR1]; exact Mp.set_same _ _ _
        rw [← hR1, ← hσ1] at hS1
        rw [← hσ1] at h hgo
        refine wpIn_rangeFunc fun fn hfn => ?_
        have hlo : objR R1 (.loop .ready none 0 t ps as bd σ.next) (some (.loop { state := .ready, pending := none, fn := fn, tmps := a.tmps, params := ps, assign := as, body := bd, defers := w.heap.size })) 0 := ⟨fn, a.tmps, w.heap.size, 0, rfl, ht.mono hx1.le, hd1⟩
        have hS2 := hS1.new hlo
        obtain ⟨W2, hW2⟩ : ∃ W, W = (w.alloc (.deferred (some []))).alloc (.loop { state := .ready, pending := none, fn := fn, tmps := a.tmps, params := ps, assign := as, body := bd, defers := w.heap.size }) := ⟨_, rfl⟩
        rw [← hW2] at hS2
        obtain ⟨σ2, hσ2⟩ : ∃ s, s = σ1.new (.loop .ready none 0 t ps as bd σ.next) := ⟨_, rfl⟩
        obtain ⟨R2, hR2⟩ : ∃ s, s = R1.set σ1.next ((w.alloc (.deferred (some []))).heap.size, 0) := ⟨_, rfl⟩
        have hx2 : Ext R1 σ1 R2 σ2 := by rw [hR2, hσ2]; exact Ext.new hS1 _ _
        have hl2 : R2 σ1.next = some (w.heap.size + 1, 0) := by rw [hR2, Mp.set_same]; simp
        rw [← hR2, ← hσ2] at hS2
        rw [← hσ2] at hgo
        have hle : R.le R2 := Mp.le_trans hx1.le hx2.le
        have hargs : LR R2 (fs.toList ++ (.func (.yield σ1.next) #[] #[] :: cs.toList)) (⟨fs' ++ (.func (.yield (w.heap.size + 1)) #[] #[] :: cs')⟩ : Array Value).toList := LR.append (l1.mono hle) (LR.cons (.yl _ _ 0 hl2) (l2.mono hle))
        obtain ⟨c1, c2⟩ := hG.call f _ σ2 v σ3 hgo B w0 R2 _ _ hS2 hargs
        refine ⟨w.heap.size + 1, _, W2, { target := .fn (.func f) ⟨cs'⟩, args := ⟨fs'⟩ ++ #[.func (.yield (w.heap.size + 1)) #[] #[]] }, W2, f, ⟨fs' ++ (.func (.yield (w.heap.size + 1)) #[] #[] :: cs')⟩, W2, by rw [hround, hW2]; exact run_enterLoop_outer fn a.tmps ps as bd, ?_, fun f' _ => hF.fn f', ?_, hF.deep n, ?_⟩
        · simp only [resolve, rangeCall]
          rw [hv]
          simp [Deferred.ofValue, Act.eval]
        · simp only [invoke]
          have e : (⟨fs'⟩ ++ #[Value.func (.yield (w.heap.size + 1)) #[] #[]] ++ ⟨cs'⟩ : Array Value) = ⟨fs' ++ (.func (.yield (w.heap.size + 1)) #[] #[] :: cs')⟩ := by apply Array.ext'; simp
          rw [e]
          exact c1
        · refine (c2 F hF (n - 1)).mono ?_
          rintro e w3 ⟨R3, v', rfl, e1, e2, e3⟩
          have hle3 : R.le R3 := Mp.le_trans hle e1.le
          obtain ⟨jump, w4, j1, j2⟩ := rangeEnd_ok hE hG h B w0 R3 w3 a (w.heap.size + 1) 0 w.heap.size 0 e3 (ht.mono hle3) (hm.mono hle3) (e1.le _ _ hl2) (e1.le _ _ (hx2.le _ _ hd1)) hF hround n
          refine ⟨jump, w4, j1, ?_⟩
          have hxx : Ext R σ R3 σ3 := hx1.trans (hx2.trans e1)
          cases jump with
          | none => exact CodeOut.ext hxx j2
          | some c => exact wpIn_mono j2 fun e a w k => k.ext hxx
      · cases h
    · cases h
  | _ => cases h
end
end Rk
end Go.Proofs.YtkdcfijebgeajaaGreat

namespace Go.Proofs.YtkdcfijebgeajaaGreat
namespace Rk
open Go.RowKit
set_option linter.unusedVariables false
set_option linter.unusedSimpArgs false
set_option linter.unusedSectionVars false
theorem run_ok {E : Env} (hE : EnvOk E) (hO : OrcOk E) : ∀ n, GoOk E (run E n) ∧ LoopOk E (run E n) n
  | 0 => ⟨⟨fun f args σ v σ' h => (by cases h), fun l args σ v σ' h => (by cases h), fun q c t ms σ x t' ms' σ' h => (by cases h)⟩, fun q c t ms σ x t' ms' σ' h => (by cases h)⟩
  | n + 1 => by
    obtain ⟨hG, hL⟩ := run_ok hE hO n
    have hL' : LoopOk E (run E (n + 1)) (n + 1) := fun q c t ms σ x t' ms' σ' h B w0 R w a hS ht hm F hF hro k => by
      simp only [run, step] at h
      rw [roundsIn_succ]
      split at h
      · rename_i t1 ms1 σ1 hgo
        refine wpIn_mono (hG.code q c t ms σ .normal t1 ms1 σ1 hgo B w0 R w a hS ht hm F hF hro k) ?_
        rintro e a1 w1 ⟨R1, rfl, e1, e2, e3, e4⟩
        exact roundsIn_mono (fun e a w k => CodeOut.ext e1 k) n a1 w1 (hL q c t1 ms1 σ1 x t' ms' σ' h B w0 R1 w1 a1 e4 e2 e3 F hF hro k)
      · rename_i hne
        have hx : x ≠ .normal := fun e => by subst e; exact hne _ _ _ h
        refine wpIn_mono (hG.code q c t ms σ x t' ms' σ' h B w0 R w a hS ht hm F hF hro k) ?_
        intro e a1 w1 k
        have : e ≠ .normal := by obtain ⟨R1, rfl, _⟩ := k; exact hx
        cases e with
        | normal => exact absurd rfl this
        | _ => exact k
    refine ⟨⟨fun f args σ v σ' h B w0 R w args' hS hl => call_ok hE hO hG h B w0 R w args' hS hl, fun l args σ v σ' h B w0 R w args' l' s hS hl hR => round_ok hE hG h B w0 R w args' l' s hS hl hR, fun q c t ms σ x t' ms' σ' h B w0 R w a hS ht hm F hF hro k => ?_⟩, hL'⟩
    by_cases hc : ∃ b, c = .loop b
    · obtain ⟨b, rfl⟩ := hc
      exact wpIn_loop_rounds (n + 1) (hL' q b t ms σ x t' ms' σ' h B w0 R w a hS ht hm F hF hro k)
    · exact code_ok hE hG hL h B w0 R w a hS ht hm F hF hro k fun b e => hc ⟨b, e⟩
theorem sim_start (w : World) : Sim w.heap.size w (fun _ => none) ⟨0, .nil⟩ w :=
  ⟨fun b x h => (by cases h), fun b r s h => (by cases h), fun b r s o h => (by cases h), fun b1 b2 r s1 s2 h => (by cases h), ⟨rfl, rfl, rfl, Nat.le_refl _, fun k hk => rfl⟩, Nat.le_refl _⟩
theorem reckoned {E : Env} (hE : EnvOk E) (hO : OrcOk E) {n : Nat} {f : FuncId} {v : Value} {σ' : AH} (h : run E n (.call f [] ⟨0, .nil⟩) = some (.val v σ')) (hv : Rk.flat v = true) (w : World) :
    Calls E.P f #[] w fun e w' => e = .returned v ∧ Below w.heap.size w w' := by
  obtain ⟨k1, k2⟩ := ((run_ok hE hO n).1).call f [] _ v σ' h w.heap.size w _ w #[] (sim_start w) (LR.nil _)
  refine (callsIn_wide.1 (k2 Fence.wide good_wide 0)).mono ?_
  rintro e w' ⟨R', v', rfl, e1, e2, e3⟩
  rw [vr_flat_eq e2 hv]
  exact ⟨rfl, e3.below⟩
#print axioms reckoned
end Rk
end Go.Proofs.YtkdcfijebgeajaaGreat

namespace Go.Proofs.YtkdcfijebgeajaaGreat
namespace Rk
open Go.RowKit
set_option linter.unusedVariables false
set_option linter.unusedSimpArgs false
set_option linter.unusedSectionVars false
theorem Sim.more {B : Nat} {w0 : World} {R : Mp} {σ : AH} {w w' : World} (h : Sim B w0 R σ w) (hb : Below w.heap.size w w') : Sim B w0 R σ w' :=
  ⟨h.dom, fun b r s e => Nat.lt_of_lt_of_le (h.lt b r s e) hb.size, fun b r s o e g => by rw [hb.block r (h.lt b r s e)]; exact h.obj b r s o e g, h.inj,
    ⟨hb.os.trans h.below.os, hb.tape.trans h.below.tape, hb.output.trans h.below.output, Nat.le_trans h.below.size hb.size, fun k hk => (hb.block k (Nat.lt_of_lt_of_le hk h.base)).trans (h.below.block k hk)⟩, Nat.le_trans h.base hb.size⟩
def crcK : Nat → Nat → Nat → Nat
  | 0, _, s => s
  | k + 1, w, s => natF (match Nat.mod (Nat.xor s w) 2 with | 0 => Nat.div s 2 | _ => Nat.xor (Nat.div s 2) 0x82f63b78) fun s' => natF (Nat.div w 2) fun w' => crcK k w' s'
def crcWs : List Nat → Nat → Nat
  | [], s => s
  | w :: ws, s => natF (crcK 64 w s) fun s' => crcWs ws s'
def u64s : List Value → Option (List Nat)
  | [] => some []
  | .int .u64 (.ofNat n) :: vs => match Nat.ble n 18446744073709551615 with
    | true => match u64s vs with | some l => some (n :: l) | none => none
    | false => none
  | _ => none
noncomputable def wordsOrc (args : List Value) (σ : AH) : Option (Value × AH) :=
  match args with
  | [.slice a n c] => match n with
    | 0 => none
    | n + 1 => match Nat.ble n 10 with
      | false => none
      | true => match rowOf σ (.slice a (n + 1) c) 1 (n + 1) with
        | some l => match u64s l with
          | some ws => natF (Nat.sub 4294967295 (crcWs ws 4294967295)) fun s => some (.int .u32 (.ofNat s), σ)
          | none => none
        | none => none
  | _ => none
theorem u64s_get : ∀ {vs : List Value} {l : List Nat}, u64s vs = some l → vs.length = l.length ∧ ∀ (j : Nat) (v : Value), vs[j]? = some v → v = .int .u64 (l.getD j 0 : Nat) ∧ l.getD j 0 < 18446744073709551616
  | [], l, h => by simp [u64s] at h; subst h; exact ⟨rfl, fun j v hv => by simp at hv⟩
  | v :: vs, l, h => by
    unfold u64s at h
    split at h
    · rename_i hc; cases hc
    · rename_i n vs' hc
      cases hc
      split at h
      · rename_i hn
        rw [bleN] at hn
        have hn := of_decide_eq_true hn
        split at h
        · rename_i l1 h1
          cases h
          obtain ⟨k1, k2⟩ := u64s_get h1
          refine ⟨by simp [k1], fun j v hv => ?_⟩
          cases j with
          | zero => simp at hv; subst hv; simp; omega
          | succ j => simp at hv; simpa using k2 j v hv
        · cases h
      · cases h
    · cases h
def SumsWords (P : Program) (f : FuncId) (sm : (Nat → Nat) → Nat → Nat) : Prop := ∀ (a : Addr) (n cap : Nat) (g : Nat → Nat) (w : World), 1 ≤ n → n ≤ 11 → (∀ j, g j < 18446744073709551616) → a.block < w.heap.size → a.spot = none → (∀ j, j < n → w.cell? ⟨a.block, a.off + j, none⟩ = some (.int .u64 (g j : Nat))) →
  (callFunc f #[.slice (some a) n cap]).run P w = .ok (.enter f #[.slice (some a) n cap]) w ∧ Calls P f #[.slice (some a) n cap] w fun e w' => e = .returned (.int .u32 (sm g n : Nat)) ∧ Below w.heap.size w w'
theorem wordsOrc_ok {E : Env} (hE : EnvOk E) {f : FuncId} {sm : (Nat → Nat) → Nat → Nat} (hf : SumsWords E.P f sm) (hs : ∀ l : List Nat, sm (fun j => l.getD j 0) l.length = 4294967295 - crcWs l 4294967295) {args : List Value} {σ : AH} {v : Value} {σ' : AH} (h : wordsOrc args σ = some (v, σ')) (B : Nat) (w0 : World) (R : Mp) (w : World) (args' : Array Value) (hS : Sim B w0 R σ w) (hl : LR R args args'.toList) :
    (callFunc f args').run E.P w = .ok (.enter f args') w ∧ ∀ (F : Fence), Good F → ∀ n, CallsIn F n E.P f args' w (CallOut B w0 R σ v σ') := by
  unfold wordsOrc at h
  split at h
  · rename_i a n c
    split at h
    · cases h
    · rename_i n
      split at h
      · cases h
      · rename_i hn
        rw [bleN] at hn
        have hn := of_decide_eq_true hn
        split at h
        · rename_i l hrow
          split at h
          · rename_i ws hws
            rw [natF_eq] at h
            cases h
            obtain ⟨x', l2, hx, h1, h2⟩ := LR.uncons hl
            have := LR.unnil h2
            subst this
            obtain ⟨l', ad, k, c', rfl, q1, q2, q3, q4, q5, q6⟩ := rowOf_sound hE hS h1 (fun ad k c e => by cases e; exact Nat.le_refl _) (Nat.succ_pos n) hrow
            obtain ⟨u1, u2⟩ := u64s_get hws
            have hlen : ws.length = n + 1 := by rw [← u1, q3.1, q5]; omega
            have hargs : args' = #[.slice (some ad) k c'] := by apply Array.ext'; rw [hx]
            subst hargs
            have hk : k = n + 1 := by
              cases h1 with
              | flat v h => simp [flatA] at h
              | slU => rfl
              | slK => rfl
            subst hk
            have hcell : ∀ j, j < n + 1 → w.cell? (ad.add j) = some (.int .u64 (ws.getD j 0 : Nat)) := fun j hj => by
              have hjl : j < l.length := by rw [u1, hlen]; exact hj
              obtain ⟨y, hy, hr⟩ := q3.get (List.getElem?_eq_getElem hjl)
              have := (u2 j _ (List.getElem?_eq_getElem hjl)).1
              rw [this] at hr
              rw [vr_int hr] at hy
              exact q6 j _ hy
            have hsub : ad.spot = none ∧ ad.block < w.heap.size := by
              cases h1 with
              | flat v h => simp [flatA] at h
              | slU b o b' s n z c' h hz hc hn => exact ⟨rfl, hS.lt _ _ _ h⟩
              | slK b o b' s n z c h hz hn => exact ⟨rfl, hS.lt _ _ _ h⟩
            obtain ⟨ad1, ad2, ad3⟩ := ad
            obtain ⟨rfl, hb⟩ : ad3 = none ∧ ad1 < w.heap.size := hsub
            have hg : ∀ j, ws.getD j 0 < 18446744073709551616 := fun j => by
              by_cases hj : j < l.length
              · exact (u2 j _ (List.getElem?_eq_getElem hj)).2
              · rw [List.getD_eq_getElem?_getD, List.getElem?_eq_none (by omega)]; decide
            obtain ⟨r1, r2⟩ := hf ⟨ad1, ad2, none⟩ (n + 1) c' (fun j => ws.getD j 0) w (by omega) (by omega) hg hb rfl fun j hj => by
              have := hcell j hj
              rw [addr_add] at this
              exact this
            refine ⟨r1, fun F hF m => hF.calls (r2.mono ?_)⟩
            rintro e w' ⟨rfl, hbl⟩
            have := hs ws
            rw [hlen] at this
            refine ⟨R, _, rfl, Ext.refl R _, ?_, hS.more hbl⟩
            rw [this]
            exact .flat _ rfl
          · cases h
        · cases h
  · cases h
end Rk
end Go.Proofs.YtkdcfijebgeajaaGreat

namespace Go.Proofs.YtkdcfijebgeajaaGreat
namespace Rk
open Go.RowKit
set_option linter.unusedVariables false
set_option linter.unusedSimpArgs false
set_option linter.unusedSectionVars false
theorem rows_same {α : Type} {n : Nat} {F G : Nat → α} (h : (List.range n).map F = (List.range n).map G) (i : Nat) (hi : i < n) : F i = G i := List.map_inj_left.1 h i (List.mem_range.2 hi)
def upTo {α : Type} (n : Nat) (f : Nat → Option α) (i : Nat) : Option α := match Nat.ble n i with | true => none | false => f i
theorem upTo_some {α : Type} {n : Nat} {f : Nat → Option α} {i : Nat} {x : α} (h : upTo n f i = some x) : i < n ∧ f i = some x := by
  unfold upTo at h
  split at h
  · cases h
  · rename_i hb
    rw [bleN] at hb
    have := of_decide_eq_false hb
    exact ⟨by omega, h⟩
def fnRow (P : Program) (T : Nat → Option Func) (i : Nat) : Option Func := match T i with | some _ => P.funcs[i]? | none => none
def tyRow (P : Program) (T : Nat → Option Ti) (i : Nat) : Option Ti := match T i with | some _ => tiOf P i | none => none
def nameRow (T : Nat → Option Func) (i : Nat) : Bool := match T i with | some fn => fn.name == "runtime.NumGoroutine" | none => false
theorem env_ok {P : Program} {n m : Nat} {fT : Nat → Option Func} {tT : Nat → Option Ti} {meth : TypeId → String → Option FuncId} {orc : FuncId → Option (List Value → AH → Option (Value × AH))}
    (h1 : (List.range n).map fT = (List.range n).map (fnRow P fT)) (h2 : (List.range n).map (nameRow fT) = (List.range n).map fun _ => false) (h3 : (List.range m).map tT = (List.range m).map (tyRow P tT))
    (h4 : ∀ t n f, meth t n = some f → ∀ v w, (method (P.types.size + Made.depth) t v n).run P w = .ok (f, v) w) (h5 : P.follows .mixedOrders = true) : EnvOk ⟨P, upTo n fT, upTo m tT, meth, orc⟩ := by
  refine ⟨fun f fn h => ?_, fun t i h => ?_, h4, h5⟩
  · obtain ⟨k1, k2⟩ := upTo_some h
    have e1 := rows_same h1 f k1
    have e2 := rows_same h2 f k1
    unfold fnRow at e1
    unfold nameRow at e2
    rw [k2] at e1 e2
    exact ⟨e1.symm, e2⟩
  · obtain ⟨k1, k2⟩ := upTo_some h
    have e1 := rows_same h3 t k1
    unfold tyRow at e1
    rw [k2] at e1
    exact e1.symm
def boolOf : Option Res → Bool
  | some (.val (.bool b) _) => b
  | _ => false
theorem reckoned_true {E : Env} (hE : EnvOk E) (hO : OrcOk E) {n : Nat} {f : FuncId} (h : boolOf (run E n (.call f [] ⟨0, .nil⟩)) = true) (w : World) :
    Calls E.P f #[] w fun e w' => e = .returned (.bool true) ∧ Below w.heap.size w w' := by
  cases hr : run E n (.call f [] ⟨0, .nil⟩) with
  | none => rw [hr] at h; cases h
  | some r =>
    rw [hr] at h
    cases r with
    | val v σ' =>
      cases v with
      | bool b => cases b with
        | true => exact reckoned hE hO hr rfl w
        | false => cases h
      | _ => cases h
    | «at» => cases h
end Rk
end Go.Proofs.YtkdcfijebgeajaaGreat
