/- A run reckoned: operations that neither read nor write.
   A run reckoned: blocks; operations that read. -/
import Derived.Test.YtkdcfijebgeajaaGreatJw19
import Derived.Laws.CopyRow
import Derived.Below
import Derived.Laws.Pointers
import Derived.Laws.Cover3
namespace Go.Proofs.YtkdcfijebgeajaaGreat
namespace Rk
set_option linter.unusedVariables false
set_option linter.unusedSimpArgs false
set_option linter.unusedSectionVars false
theorem pureRun_eq {α : Type} (P : Program) : ∀ (e : Sem α) (a : α), pureRun P e = some a → ∀ w, e.run P w = .ok a w
  | .pure a, b, h, w => by simp [pureRun] at h; subst h; rfl
  | .program k, b, h, w => by simp only [pureRun] at h; exact pureRun_eq P (k P) b h w
  | .load .., b, h, w => by simp [pureRun] at h
  | .store .., b, h, w => by simp [pureRun] at h
  | .new .., b, h, w => by simp [pureRun] at h
  | .shape .., b, h, w => by simp [pureRun] at h
  | .freeze .., b, h, w => by simp [pureRun] at h
  | .frozen .., b, h, w => by simp [pureRun] at h
  | .getObj .., b, h, w => by simp [pureRun] at h
  | .setObj .., b, h, w => by simp [pureRun] at h
  | .choose .., b, h, w => by simp [pureRun] at h
  | .sys .., b, h, w => by simp [pureRun] at h
  | .mark .., b, h, w => by simp [pureRun] at h
  | .halt .., b, h, w => by simp [pureRun] at h
theorem flatO_eq {x : Option Value} {v : Value} (h : flatO x = some v) : x = some v ∧ Rk.flat v = true := by
  unfold flatO at h
  split at h
  · split at h
    · cases h; exact ⟨rfl, ‹_›⟩
    · cases h
  · cases h
theorem intCmp_eq (op : BinOp) (k : IntKind) (a b : Int) (v : Value) (h : binF op k a b = some v) {P : Program} (ty : TypeId) (x y : Operand) (w : World) :
    (do eqGuard op ty x y (.int k a) (.int k b); binOp op ty (.int k a) (.int k b) : Sem Value).run P w = .ok v w := by
  cases op <;> simp only [binF] at h <;> first | (cases h; done) | skip
  all_goals
    cases h
    simp [eqGuard, binOp, go_sem, Op.intArith, Op.intCmp, wrapF_eq, notB_eq, leI_eq, sameI_eq]
  all_goals first | rfl | (rw [← decide_not]; congr 1; simp; done) | skip
theorem binV_sound {P : Program} {op : BinOp} {ty : TypeId} {x y : Operand} {a b v : Value} {R : Mp} {a' b' : Value} (ha : VR R a a') (hb : VR R b b') (h : binV P op ty x y a b = some v) (w : World) :
    (do eqGuard op ty x y a' b'; binOp op ty a' b' : Sem Value).run P w = .ok v w := by
  unfold binV at h
  split at h
  · rename_i v0 h0
    cases h
    split at h0
    · rename_i k m k' n
      split at h0
      · rename_i hk
        have := kindN_inj hk
        subst this
        rw [vr_int ha, vr_int hb]
        exact intCmp_eq op k m n v h0 ty x y w
      · cases h0
    · cases h0
  · split at h
    · rename_i h1
      split at h
      · rename_i h2
        rw [vr_flat_eq ha h1, vr_flat_eq hb h2]
        exact pureRun_eq P _ v (flatO_eq h).1 w
      · cases h
    · cases h
theorem binV_flat {P : Program} {op : BinOp} {ty : TypeId} {x y : Operand} {a b v : Value} (h : binV P op ty x y a b = some v) : Rk.flat v = true := by
  unfold binV at h
  split at h
  · rename_i v0 h0
    cases h
    split at h0
    · split at h0
      · unfold binF at h0
        split at h0 <;> first | (cases h0; rfl) | cases h0
      · cases h0
    · cases h0
  · split at h
    · split at h
      · exact (flatO_eq h).2
      · cases h
    · cases h
theorem fill_sound {R : Mp} (place : Nat → Option (Nat × Nat)) : ∀ (ps ps' : List (Nat × Value)) (c c' : List Value) (r : List Value), ps.length = ps'.length →
    (∀ (i : Nat) (p q : Nat × Value), ps[i]? = some p → ps'[i]? = some q → p.1 = q.1 ∧ VR R p.2 q.2) → LR R c c' → fillL place ps c = some r → ∃ r' : List Value, LR R r r' ∧ Instr.fill place ⟨c'⟩ ps' = some ⟨r'⟩
  | [], ps', c, c', r, hl, hp, hc, h => by
    have : ps' = [] := by simpa using hl.symm
    subst this
    simp [fillL] at h; subst h
    exact ⟨c', hc, by simp [Instr.fill]⟩
  | p :: ps, [], c, c', r, hl, hp, hc, h => by simp at hl
  | p :: ps, q :: ps', c, c', r, hl, hp, hc, h => by
    obtain ⟨h1, h2⟩ := hp 0 p q rfl rfl
    obtain ⟨i, v⟩ := p
    obtain ⟨j, u⟩ := q
    simp only at h1 h2
    subst h1
    simp only [fillL] at h
    cases hpl : place i with
    | none => rw [hpl] at h; cases h
    | some os =>
      obtain ⟨o, s⟩ := os
      rw [hpl] at h
      simp only [beqN, lenL_eq] at h
      by_cases hs : (cellsL v).length = s
      · simp only [hs, decide_true] at h
        cases hov : overAt o c (cellsL v) with
        | none => rw [hov] at h; cases h
        | some c2 =>
          rw [hov] at h
          simp only at h
          obtain ⟨hb, rfl⟩ := overAt_eq _ _ _ _ hov
          have hcl := vr_cells h2
          have hus : u.cells.size = s := by rw [← hs, hcl.1, cellsL_eq]; simp
          have hc2 : LR R (c.take o ++ cellsL v ++ c.drop (o + (cellsL v).length)) (c'.take o ++ cellsL u ++ c'.drop (o + (cellsL u).length)) := by
            rw [hcl.1]
            exact LR.append (LR.append (hc.take o) hcl) (hc.drop _)
          have hlen : u.cells.toList.length = s := by simpa using hus
          obtain ⟨r', h3, h4⟩ := fill_sound place ps ps' _ (c'.take o ++ cellsL u ++ c'.drop (o + (cellsL u).length)) r (by simpa using hl) (fun i p q a b => hp (i + 1) p q (by simpa using a) (by simpa using b)) hc2 h
          refine ⟨r', h3, ?_⟩
          have hf : (u.cells.zipIdx.foldl (fun cs (x : Value × Nat) => cs.setIfInBounds (o + x.2) x.1) (⟨c'⟩ : Array Value)) = ⟨c'.take o ++ cellsL u ++ c'.drop (o + (cellsL u).length)⟩ := by
            rw [cellsL_eq, ← Array.foldl_toList]
            have hz : u.cells.zipIdx.toList = u.cells.toList.zipIdx := by simp
            rw [hz]
            have hb' : o + u.cells.toList.length ≤ c'.length := by rw [hlen, ← hs, ← hc.1]; exact hb
            generalize u.cells.toList = us at hb'
            have key : ∀ (us : List Value) (k : Nat) (cs : List Value), o + k + us.length ≤ cs.length →
                (us.zipIdx k).foldl (fun (cs : Array Value) (x : Value × Nat) => cs.setIfInBounds (o + x.2) x.1) ⟨cs⟩ = ⟨cs.take (o + k) ++ us ++ cs.drop (o + k + us.length)⟩ := by
              intro us
              induction us with
              | nil => intro k cs _; simp
              | cons x us ih =>
                intro k cs hk
                simp only [List.zipIdx_cons, List.foldl_cons]
                have hk : o + k + (us.length + 1) ≤ cs.length := by simpa using hk
                have e1 : (⟨cs⟩ : Array Value).setIfInBounds (o + k) x = ⟨cs.set (o + k) x⟩ := by simp
                rw [e1, ih (k + 1) (cs.set (o + k) x) (by simp; omega)]
                have e2 := list_seg_step cs (o + k) x us (by omega)
                have e3 : o + (k + 1) = o + k + 1 := by omega
                rw [e3]
                simpa [Nat.add_assoc] using e2
            simpa using key us 0 c' (by simpa using hb')
          have hsz : ¬ (o + u.cells.size > (⟨c'⟩ : Array Value).size) := by rw [hus, ← hs]; simp only [List.size_toArray]; rw [← hc.1]; omega
          simp only [Instr.fill, hpl]
          rw [if_neg (by simp only [hus]; simp; rw [hus] at hsz; simpa using hsz)]
          rw [hf]; exact h4
      · simp only [hs, decide_false] at h; cases h
theorem evP_sound {R : Mp} {t : Tm} {a : Act} (ht : TR R t a.tmps) : ∀ {ps : List (Nat × Operand)} {vs : List (Nat × Value)}, evP t ps = some vs →
    vs.length = (ps.map fun p => (p.1, a.eval p.2)).length ∧ ∀ (i : Nat) (p q : Nat × Value), vs[i]? = some p → (ps.map fun p => (p.1, a.eval p.2))[i]? = some q → p.1 = q.1 ∧ VR R p.2 q.2
  | [], vs, h => by simp [evP] at h; subst h; exact ⟨rfl, fun i p q a => by simp at a⟩
  | p :: ps, vs, h => by
    simp only [evP] at h
    cases h1 : ev t p.2 with
    | none => rw [h1] at h; cases h
    | some v =>
      cases h2 : evP t ps with
      | none => rw [h1, h2] at h; cases h
      | some l =>
        rw [h1, h2] at h; cases h
        obtain ⟨k1, k2⟩ := evP_sound ht h2
        refine ⟨by simpa using k1, fun i x y hx hy => ?_⟩
        cases i with
        | zero => simp at hx hy; subst hx; subst hy; exact ⟨rfl, ev_sound ht h1⟩
        | succ i => exact k2 i x y (by simpa using hx) (by simpa using hy)
theorem runV {P : Program} {e : Sem Value} {v : Value} {w w' : World} (h : e.run P w = .ok v w') : (do pure (Next.value (← e)) : Sem Next).run P w = .ok (.value v) w' := by simp [go_sem, h]
section
variable {E : Env} (hE : EnvOk E) {R : Mp} {t : Tm} {a : Act} (ht : TR R t a.tmps)
include hE ht
theorem still_fieldAddr {dst : Option Tmp} {ty : TypeId} {x : Operand} {i : Nat} {tp : TypeId} {pos : String} {af : Array Edge} {g : Option (Nat × Bool)} {v : Value} (h : evStill E t (.fieldAddr ty x i) = some v) :
    ∃ v', VR R v v' ∧ ∀ w, (execOp a.eval ⟨dst, .fieldAddr ty x i, tp, pos, af, g⟩).run E.P w = .ok (.value v') w := by
  simp only [evStill] at h
  split at h
  · rename_i b o hx
    split at h
    · rename_i j hj
      obtain ⟨ii, d, hT⟩ := hE.is hj
      split at h
      · rename_i fs hfs
        split at h
        · rename_i f hf
          obtain ⟨F, rfl, rfl⟩ := hT.st hfs
          obtain ⟨gf, hg, rfl⟩ := fields_get hf
          simp only at h
          split at h
          · cases h
          · rename_i n hn
            cases h
            obtain ⟨fi, hfi, hfs⟩ := cellsOf_some hn
            obtain ⟨b', s, hb, hv⟩ := vr_ptr (ev_sound ht hx)
            refine ⟨_, .ptr b _ b' s hb, fun w => runV ?_⟩
            rw [hv]
            simp [Instr.fieldAt, go_sem, run_und w hT.und, hg, hfi, hfs, run_size, fieldPlace]
        · cases h
      · cases h
    · cases h
  · cases h
omit ht in
theorem index_sound {ty : TypeId} {u u' : Value} {k : IntKind} {j : Nat} {v : Value} (hu : VR R u u') (h : evIndex E ty u j = some v) :
    ∃ v', VR R v v' ∧ ∀ w, (Instr.indexAt ty u' (.int k (.ofNat j))).run E.P w = .ok v' w := by
  unfold evIndex at h
  split at h
  · rename_i q hq
    obtain ⟨ii, d, hT⟩ := hE.is hq
    split at h
    · rename_i e ad n z hds
      split at h
      · rename_i hlt
        rw [bleN] at hlt
        have hlt : j + 1 ≤ n := of_decide_eq_true hlt
        split at h
        · rename_i ie hie
          cases h
          obtain ⟨ei, ed, hTe⟩ := hE.is hie
          have := hT.sl hds
          subst this
          obtain ⟨b', s, c', hb, rfl, _, _⟩ := vr_slice hu (by omega)
          refine ⟨_, .ptr _ _ b' s hb, fun w => ?_⟩
          have hlt' : (j : Int) < n := by omega
          have hj0 : (0 : Int) ≤ j := by omega
          simp [Instr.indexAt, go_sem, asIntOf, run_und w hT.und, run_size w hTe.info, hTe.size, hlt', hj0]
          exact fun hh => absurd hh (by omega)
        · cases h
      · cases h
    · rename_i n e b o hds
      split at h
      · rename_i hlt
        rw [bleN] at hlt
        have hlt : j + 1 ≤ n := of_decide_eq_true hlt
        split at h
        · rename_i ie hie
          cases h
          obtain ⟨ei, ed, hTe⟩ := hE.is hie
          have := hT.ar hds
          subst this
          obtain ⟨b', s, hb, rfl⟩ := vr_ptr hu
          refine ⟨_, .ptr _ _ b' s hb, fun w => ?_⟩
          have hlt' : (j : Int) < n := by omega
          have hj0 : (0 : Int) ≤ j := by omega
          simp [Instr.indexAt, go_sem, asIntOf, run_und w hT.und, run_size w hTe.info, hTe.size, hlt', hj0, Instr.sureAddr]
          exact fun hh => absurd hh (by omega)
        · cases h
      · cases h
    · cases h
  · cases h
theorem still_index {dst : Option Tmp} {ty : TypeId} {x i : Operand} {tp : TypeId} {pos : String} {af : Array Edge} {g : Option (Nat × Bool)} {v : Value} (h : evStill E t (.indexAddr ty x i) = some v) :
    ∃ v', VR R v v' ∧ ∀ w, (execOp a.eval ⟨dst, .indexAddr ty x i, tp, pos, af, g⟩).run E.P w = .ok (.value v') w := by
  simp only [evStill] at h
  split at h
  · rename_i k j hi
    have e1 := vr_int (ev_sound ht hi)
    split at h
    · rename_i u hx
      obtain ⟨v', h1, h2⟩ := index_sound hE (k := k) (ev_sound ht hx) h
      exact ⟨v', h1, fun w => runV (by rw [e1]; exact h2 w)⟩
    · cases h
  · cases h
theorem still_build {dst : Option Tmp} {ty : TypeId} {ps : Array (Nat × Operand)} {tp : TypeId} {pos : String} {af : Array Edge} {g : Option (Nat × Bool)} {v : Value} (h : evStill E t (.build ty ps) = some v) :
    ∃ v', VR R v v' ∧ ∀ w, (execOp a.eval ⟨dst, .build ty ps, tp, pos, af, g⟩).run E.P w = .ok (.value v') w := by
  simp only [evStill] at h
  split at h
  · rename_i i hi
    obtain ⟨ii, d, hT⟩ := hE.is hi
    split at h
    · rename_i z vs hz hvs
      obtain ⟨hz1, hz2⟩ := hT.zero hz
      obtain ⟨hl, hp⟩ := evP_sound ht hvs
      have hz3 : LR R (cellsL z) z.cells.toList := by rw [← cellsL_eq]; exact vr_cells (vr_flat R hz2)
      have hps : (ps.map fun (i, x) => (i, a.eval x)).toList = ps.toList.map fun p => (p.1, a.eval p.2) := by simp
      split at h
      · rename_i fs hfs
        obtain ⟨F, rfl, rfl, hall⟩ := hT.stAll hfs
        cases hf : fillL (fieldAt (fieldsOf E.P F)) vs (cellsL z) with
        | none => rw [hf] at h; simp [aggO] at h
        | some r =>
          rw [hf] at h; simp only [aggO] at h; cases h
          obtain ⟨r', hr, hfill⟩ := fill_sound (R := R) _ _ _ _ _ _ hl hp hz3 hf
          refine ⟨.agg ⟨r'⟩, hr.agg, fun w => runV ?_⟩
          refine run_build w ty _ ⟨r'⟩ ?_
          unfold Program.built
          rw [hT.info, hT.und]
          have hm : F.toList.mapM (fun f => (E.P.info? f.type).map fun i => (f.offset, i.size)) = some (F.toList.map fun f => (f.offset, E.P.cellsOf f.type)) := by
            generalize F.toList = L at hall
            clear hf hfs hT
            induction L with
            | nil => simp
            | cons f L ih =>
              simp only [List.all_cons, Bool.and_eq_true] at hall
              obtain ⟨j, hj⟩ := Option.isSome_iff_exists.1 hall.1
              simp only [List.mapM_cons, hj, ih hall.2]
              simp [Program.cellsOf, hj]
          simp only [hz1, hm]
          have hpl : (fun i => (F.toList.map fun f => (f.offset, E.P.cellsOf f.type)).toArray[i]?) = fieldAt (fieldsOf E.P F) := by
            funext i
            unfold fieldAt fieldsOf
            rw [nth?_eq]
            simp only [List.getElem?_toArray, List.getElem?_map]
            cases F.toList[i]? <;> rfl
          rw [hps, hpl]
          exact hfill
      · rename_i n e hds
        have := hT.ar hds
        subst this
        split at h
        · rename_i ie hie
          obtain ⟨ei, ed, hTe⟩ := hE.is hie
          cases hf : fillL (fun i => some (Nat.mul i ie.size, ie.size)) vs (cellsL z) with
          | none => rw [hf] at h; simp [aggO] at h
          | some r =>
            rw [hf] at h; simp only [aggO] at h; cases h
            obtain ⟨r', hr, hfill⟩ := fill_sound (R := R) _ _ _ _ _ _ hl hp hz3 hf
            refine ⟨.agg ⟨r'⟩, hr.agg, fun w => runV ?_⟩
            refine run_build w ty _ ⟨r'⟩ ?_
            unfold Program.built
            rw [hT.info, hT.und]
            simp only [hz1, hTe.info]
            rw [hps, hTe.size]
            exact hfill
        · cases h
      · cases h
    · cases h
  · cases h
theorem still_field {dst : Option Tmp} {ty : TypeId} {x : Operand} {i : Nat} {tp : TypeId} {pos : String} {af : Array Edge} {g : Option (Nat × Bool)} {v : Value} (h : evStill E t (.field ty x i) = some v) :
    ∃ v', VR R v v' ∧ ∀ w, (execOp a.eval ⟨dst, .field ty x i, tp, pos, af, g⟩).run E.P w = .ok (.value v') w := by
  simp only [evStill] at h
  split at h
  · rename_i j l hj hx
    obtain ⟨ii, d, hT⟩ := hE.is hj
    split at h
    · rename_i fs hfs
      split at h
      · rename_i f hf
        obtain ⟨F, rfl, rfl⟩ := hT.st hfs
        obtain ⟨gf, hg, rfl⟩ := fields_get hf
        obtain ⟨l', hl, hv⟩ := vr_agg (ev_sound ht hx)
        obtain ⟨v', h1, h2⟩ := part_sound hE hl h
        refine ⟨v', h1, fun w => runV ?_⟩
        rw [hv]
        simp [Instr.field, run_und w hT.und, hg, asAgg, Result.andThen]
        exact h2 w
      · cases h
    · cases h
  · cases h
theorem still_pick {dst : Option Tmp} {c x y : Operand} {tp : TypeId} {pos : String} {af : Array Edge} {g : Option (Nat × Bool)} {v : Value} (h : evStill E t (.pick c x y) = some v) :
    ∃ v', VR R v v' ∧ ∀ w, (execOp a.eval ⟨dst, .pick c x y, tp, pos, af, g⟩).run E.P w = .ok (.value v') w := by
  simp only [evStill] at h
  split at h
  · rename_i hc
    exact ⟨_, ev_sound ht h, fun w => by simp only [execOp]; rw [vr_bool (ev_sound ht hc)]; simp [asBool]⟩
  · rename_i hc
    exact ⟨_, ev_sound ht h, fun w => by simp only [execOp]; rw [vr_bool (ev_sound ht hc)]; simp [asBool]⟩
  · cases h
theorem still_nil {dst : Option Tmp} {x : Operand} {tp : TypeId} {pos : String} {af : Array Edge} {g : Option (Nat × Bool)} {v : Value} (h : evStill E t (.nilCheck x) = some v) :
    ∃ v', VR R v v' ∧ ∀ w, (execOp a.eval ⟨dst, .nilCheck x, tp, pos, af, g⟩).run E.P w = .ok (.value v') w := by
  simp only [evStill] at h
  split at h
  · rename_i u hx
    have hu := ev_sound ht hx
    split at h
    · cases h
      obtain ⟨b, o, b', s, rfl, hb, hv⟩ := vr_ptrS hu
      exact ⟨_, .ptr b o b' s hb, fun w => by simp only [execOp]; rw [hv]; simp⟩
    · cases h
      refine ⟨a.eval x, hu, fun w => ?_⟩
      simp only [execOp]
      generalize a.eval x = q at hu
      cases hu <;> simp
    · cases h
      refine ⟨a.eval x, hu, fun w => ?_⟩
      simp only [execOp]
      generalize a.eval x = q at hu
      cases hu <;> simp
    · cases h
  · cases h
theorem still_move {dst : Option Tmp} {tp : TypeId} {pos : String} {af : Array Edge} {g : Option (Nat × Bool)} {v : Value} {x : Operand} (h : evStill E t (.move x) = some v) : ∃ v', VR R v v' ∧ ∀ w, (execOp a.eval ⟨dst, .move x, tp, pos, af, g⟩).run E.P w = .ok (.value v') w := by
  simp only [evStill] at h
  exact ⟨_, ev_sound ht h, fun w => by simp [execOp]⟩
theorem still_assign {dst : Option Tmp} {tp : TypeId} {pos : String} {af : Array Edge} {g : Option (Nat × Bool)} {v : Value} {x : Operand} (h : evStill E t (.assign x) = some v) : ∃ v', VR R v v' ∧ ∀ w, (execOp a.eval ⟨dst, .assign x, tp, pos, af, g⟩).run E.P w = .ok (.value v') w := by
  simp only [evStill] at h
  exact ⟨_, ev_sound ht h, fun w => by simp [execOp]⟩
theorem still_bin {dst : Option Tmp} {tp : TypeId} {pos : String} {af : Array Edge} {g : Option (Nat × Bool)} {v : Value} {op : BinOp} {ty yt : TypeId} {x y : Operand} (h : evStill E t (.binOp op ty x y yt) = some v) : VR R v v ∧ ∀ w, (execOp a.eval ⟨dst, .binOp op ty x y yt, tp, pos, af, g⟩).run E.P w = .ok (.value v) w := by
  simp only [evStill] at h
  split at h
  · rename_i u hx
    split at h
    · rename_i u2 hy
      exact ⟨vr_flat R (binV_flat h), fun w => runV (binV_sound (ev_sound ht hx) (ev_sound ht hy) h w)⟩
    · cases h
  · cases h
theorem still_un {dst : Option Tmp} {tp : TypeId} {pos : String} {af : Array Edge} {g : Option (Nat × Bool)} {v : Value} {op : UnOp} {ty : TypeId} {x : Operand} (h : evStill E t (.unOp op ty x) = some v) : ∃ v', VR R v v' ∧ ∀ w, (execOp a.eval ⟨dst, .unOp op ty x, tp, pos, af, g⟩).run E.P w = .ok (.value v') w := by
  simp only [evStill] at h
  split at h
  · rename_i b hx
    split at h
    · cases h
      refine ⟨_, .flat _ rfl, fun w => runV ?_⟩
      rw [vr_bool (ev_sound ht hx), notB_eq]
      simp [Op.unary]
    · cases h
  · rename_i k n hx
    obtain ⟨h1, h2⟩ := flatO_eq h
    exact ⟨v, vr_flat R h2, fun w => runV (by rw [vr_int (ev_sound ht hx)]; exact pureRun_eq E.P _ v h1 w)⟩
  · cases h
theorem still_conv {dst : Option Tmp} {tp : TypeId} {pos : String} {af : Array Edge} {g : Option (Nat × Bool)} {v : Value} {ss dd : TypeId} {x : Operand} (h : evStill E t (.convert ss dd x) = some v) : ∃ v', VR R v v' ∧ ∀ w, (execOp a.eval ⟨dst, .convert ss dd x, tp, pos, af, g⟩).run E.P w = .ok (.value v') w := by
  simp only [evStill] at h
  split at h
  · rename_i k n hx
    obtain ⟨h1, h2⟩ := flatO_eq h
    exact ⟨v, vr_flat R h2, fun w => runV (by rw [vr_int (ev_sound ht hx)]; exact pureRun_eq E.P _ v h1 w)⟩
  · cases h
theorem still_sap {dst : Option Tmp} {tp : TypeId} {pos : String} {af : Array Edge} {g : Option (Nat × Bool)} {v : Value} {ty : TypeId} {x : Operand} (h : evStill E t (.sliceToArrayPointer ty x) = some v) : ∃ v', VR R v v' ∧ ∀ w, (execOp a.eval ⟨dst, .sliceToArrayPointer ty x, tp, pos, af, g⟩).run E.P w = .ok (.value v') w := by
  simp only [evStill] at h
  split at h
  · rename_i j b o sp m z hj hx
    obtain ⟨ii, d, hT⟩ := hE.is hj
    split at h
    · rename_i n e hds
      split at h
      · rename_i h1 h2
        cases h
        rw [bleN] at h1 h2
        have h1 := of_decide_eq_true h1
        have h2 := of_decide_eq_true h2
        have := hT.ar hds
        subst this
        obtain ⟨b', s, c', hb, hv, _, _⟩ := vr_slice (ev_sound ht hx) (by omega)
        refine ⟨_, .ptr b o b' s hb, fun w => runV ?_⟩
        rw [hv]
        have hn : ¬ m < n := by omega
        simp [Instr.arrayAt, run_und w hT.und, hn, Result.andThen]
      · cases h
    · cases h
  · cases h
theorem still_ifc {dst : Option Tmp} {tp : TypeId} {pos : String} {af : Array Edge} {g : Option (Nat × Bool)} {v : Value} {ty : TypeId} {x : Operand} (h : evStill E t (.makeInterface ty x) = some v) : ∃ v', VR R v v' ∧ ∀ w, (execOp a.eval ⟨dst, .makeInterface ty x, tp, pos, af, g⟩).run E.P w = .ok (.value v') w := by
  simp only [evStill] at h
  split at h
  · rename_i j p hj hx
    obtain ⟨ii, d, hT⟩ := hE.is hj
    split at h
    · cases h
    · rename_i hn
      cases h
      refine ⟨_, .ifc ty _ _ (ev_sound ht hx), fun w => runV ?_⟩
      have := hT.notIfc hn
      cases d <;> first | (exact absurd rfl (this _)) | simp [Instr.makeInterface, run_und w hT.und, Result.andThen]
  · cases h
theorem still_func {dst : Option Tmp} {tp : TypeId} {pos : String} {af : Array Edge} {g : Option (Nat × Bool)} {v : Value} {f : Fn} {fs cs : Array Operand} (h : evStill E t (.makeFunc f fs cs) = some v) : ∃ v', VR R v v' ∧ ∀ w, (execOp a.eval ⟨dst, .makeFunc f fs cs, tp, pos, af, g⟩).run E.P w = .ok (.value v') w := by
  simp only [evStill] at h
  split at h
  · rename_i ff
    split at h
    · rename_i l m h1 h2
      cases h
      have k1 := evL_sound ht h1
      have k2 := evL_sound ht h2
      refine ⟨_, .fn ff l (fs.toList.map a.eval) m (cs.toList.map a.eval) k1.1 k2.1 k1.2 k2.2, fun w => runV ?_⟩
      simp [Instr.makeFunc]
      exact ⟨by rw [← Array.toList_map], by rw [← Array.toList_map]⟩
    · cases h
  · cases h
theorem still_extract {dst : Option Tmp} {tp : TypeId} {pos : String} {af : Array Edge} {g : Option (Nat × Bool)} {v : Value} {x : Operand} {i : Nat} (h : evStill E t (.extract x i) = some v) : ∃ v', VR R v v' ∧ ∀ w, (execOp a.eval ⟨dst, .extract x i, tp, pos, af, g⟩).run E.P w = .ok (.value v') w := by
  simp only [evStill] at h
  split at h
  · rename_i l hx
    rw [nth?_eq] at h
    obtain ⟨l', hl, hv⟩ := vr_tup (ev_sound ht hx)
    obtain ⟨y, hy, hr⟩ := hl.get h
    refine ⟨y, hr, fun w => runV ?_⟩
    rw [hv]
    simp [Instr.extract, hy]
  · cases h
theorem still_str {dst : Option Tmp} {tp : TypeId} {pos : String} {af : Array Edge} {g : Option (Nat × Bool)} {v : Value} {ty : TypeId} {x i : Operand} (h : evStill E t (.index ty x i) = some v) : ∃ v', VR R v v' ∧ ∀ w, (execOp a.eval ⟨dst, .index ty x i, tp, pos, af, g⟩).run E.P w = .ok (.value v') w := by
  simp only [evStill] at h
  split at h
  · rename_i j s k n hj hx hi
    obtain ⟨ii, d, hT⟩ := hE.is hj
    split at h
    · rename_i b hds hb
      cases h
      rw [nth?_eq] at hb
      refine ⟨_, .flat _ rfl, fun w => runV ?_⟩
      rw [vr_int (ev_sound ht hi), vr_flatA (ev_sound ht hx) rfl]
      have := hT.str hds
      subst this
      have hb' : s[n]? = some b := by
        have hn : n < s.data.size := by have := (List.getElem?_eq_some_iff.1 hb).1; simpa using this
        have hb2 : s.data[n] = b := by rw [List.getElem?_eq_getElem (by simpa using hn)] at hb; simpa using hb
        have hs : n < s.size := hn
        rw [getElem?_pos s n hs, ← hb2]
        rfl
      simp [Instr.index, asIntOf, run_und w hT.und, Result.andThen, hb']
    · cases h
  · cases h
theorem still_len {dst : Option Tmp} {tp : TypeId} {pos : String} {af : Array Edge} {g : Option (Nat × Bool)} {v : Value} {c : Call} (h : evStill E t (.call c) = some v) : ∃ v', VR R v v' ∧ ∀ w, (execOp a.eval ⟨dst, .call c, tp, pos, af, g⟩).run E.P w = .ok (.value v') w := by
  simp only [evStill] at h
  obtain ⟨ce, xs, ts⟩ := c
  simp only at h
  split at h
  · rename_i x l ty hl hty
    have hl' := evL_sound ht hl
    obtain ⟨y, l', hxs, hxy, _⟩ := hl'.uncons
    rw [nth?_eq] at hty
    have hxs' : xs.map a.eval = ⟨y :: l'⟩ := by apply Array.ext'; simpa using hxs
    have hty' : ts[0]? = some ty := by simpa using hty
    unfold evLen at h
    split at h
    · rename_i i hi
      obtain ⟨ii, d, hT⟩ := hE.is hi
      have key : ∀ (r : Value) (w : World), (Builtin.len_ ts tp (xs.map a.eval)).run E.P w = .ok r w → (execOp a.eval ⟨dst, .call ⟨.builtin .len, xs, ts⟩, tp, pos, af, g⟩).run E.P w = .ok (.value r) w := fun r w hr => by
        simp [execOp, resolve, invoke, builtin, Result.andThen, hr]
      split at h
      · rename_i e ad n z hds
        cases h
        have := hT.sl hds
        subst this
        refine ⟨_, .flat _ rfl, fun w => key _ w ?_⟩
        have hy : ∃ ad' z', y = .slice ad' n z' := by cases hxy <;> exact ⟨_, _, rfl⟩
        obtain ⟨ad', z', rfl⟩ := hy
        rw [hxs']
        simp [Builtin.len_, hty', run_und w hT.und, Result.andThen, goInt]
      · rename_i n e hds
        cases h
        have := hT.ar hds
        subst this
        refine ⟨_, .flat _ rfl, fun w => key _ w ?_⟩
        rw [hxs']
        simp [Builtin.len_, hty', run_und w hT.und, Result.andThen, goInt]
      · rename_i sx hds
        cases h
        have := hT.str hds
        subst this
        refine ⟨_, .flat _ rfl, fun w => key _ w ?_⟩
        have : y = .string sx := vr_flatA hxy rfl
        subst this
        rw [hxs']
        simp [Builtin.len_, hty', run_und w hT.und, Result.andThen, goInt]
      · cases h
    · cases h
  · rename_i x l ty hl hty
    have hl' := evL_sound ht hl
    obtain ⟨y, l', hxs, hxy, _⟩ := hl'.uncons
    rw [nth?_eq] at hty
    have hxs' : xs.map a.eval = ⟨y :: l'⟩ := by apply Array.ext'; simpa using hxs
    have hty' : ts[0]? = some ty := by simpa using hty
    unfold evCap at h
    split at h
    · rename_i i hi
      obtain ⟨ii, d, hT⟩ := hE.is hi
      have key : ∀ (r : Value) (w : World), (Builtin.cap_ ts tp (xs.map a.eval)).run E.P w = .ok r w → (execOp a.eval ⟨dst, .call ⟨.builtin .cap, xs, ts⟩, tp, pos, af, g⟩).run E.P w = .ok (.value r) w := fun r w hr => by
        simp [execOp, resolve, invoke, builtin, Result.andThen, hr]
      split at h
      · rename_i e hds
        cases h
        have := hT.sl hds
        subst this
        refine ⟨_, .flat _ rfl, fun w => key _ w ?_⟩
        have : y = .slice none 0 0 := vr_flatA hxy rfl
        subst this
        rw [hxs']
        simp [Builtin.cap_, hty', run_und w hT.und, Result.andThen, goInt]
      · rename_i e bb oo hds
        have := hT.sl hds
        subst this
        cases h
        refine ⟨_, .flat _ rfl, fun w => key _ w ?_⟩
        have hy : ∃ ad' n', y = .slice ad' n' 0 := by cases hxy with
          | flat v h => simp [flatA] at h
          | slU b o b' s n z c' h hz hc hn => omega
          | slZ a => exact ⟨_, _, rfl⟩
        obtain ⟨ad', n', rfl⟩ := hy
        rw [hxs']
        simp [Builtin.cap_, hty', run_und w hT.und, Result.andThen, goInt]
      · rename_i e bb oo cc nn zz hds
        cases h
        have := hT.sl hds
        subst this
        refine ⟨_, .flat _ rfl, fun w => key _ w ?_⟩
        have hy : ∃ ad' n', y = .slice ad' n' cc := by cases hxy with
          | flat v h => simp [flatA] at h
          | slK b o b' s n z c h hz hn => exact ⟨_, _, rfl⟩
        obtain ⟨ad', n', rfl⟩ := hy
        rw [hxs']
        simp [Builtin.cap_, hty', run_und w hT.und, Result.andThen, goInt]
      · cases h
    · cases h
  · rename_i k m k' n hl
    cases h
    have hl' := evL_sound ht hl
    obtain ⟨y, l', hxs, hxy, h2⟩ := hl'.uncons
    obtain ⟨y2, l2, rfl, hxy2, h3⟩ := h2.uncons
    have := h3.unnil
    subst this
    rw [vr_int hxy, vr_int hxy2] at hxs
    have hxs' : xs.map a.eval = ⟨[.int k m, .int k' n]⟩ := by apply Array.ext'; simpa using hxs
    refine ⟨_, .flat _ rfl, fun w => ?_⟩
    simp only [execOp, resolve, hxs']
    simp [invoke, builtin, Result.andThen, Builtin.min_, Builtin.min2, leI_eq]
    by_cases hc : m ≤ n
    · first | (simp [hc]; done) | (simp [hc]; exact fun hh => absurd hh (by omega))
    · first | (simp [hc]; done) | (simp [hc]; exact fun hh => absurd hh (by omega))
  · rename_i k m k' n hl
    cases h
    have hl' := evL_sound ht hl
    obtain ⟨y, l', hxs, hxy, h2⟩ := hl'.uncons
    obtain ⟨y2, l2, rfl, hxy2, h3⟩ := h2.uncons
    have := h3.unnil
    subst this
    rw [vr_int hxy, vr_int hxy2] at hxs
    have hxs' : xs.map a.eval = ⟨[.int k m, .int k' n]⟩ := by apply Array.ext'; simpa using hxs
    refine ⟨_, .flat _ rfl, fun w => ?_⟩
    simp only [execOp, resolve, hxs']
    simp [invoke, builtin, Result.andThen, Builtin.max_, Builtin.max2, leI_eq]
    by_cases hc : n ≤ m
    · first | (simp [hc]; done) | (simp [hc]; exact fun hh => absurd hh (by omega))
    · first | (simp [hc]; done) | (simp [hc]; exact fun hh => absurd hh (by omega))
  · cases h
theorem still_sound (o : Oper) (hc : cls o.op = .still) {v : Value} (h : evStill E t o.op = some v) : ∃ v', VR R v v' ∧ ∀ w, (execOp a.eval o).run E.P w = .ok (.value v') w := by
  obtain ⟨dst, op, tp, pos, af, g⟩ := o
  cases op with
  | move x => exact still_move hE ht h
  | assign x => exact still_assign hE ht h
  | pick c x y => exact still_pick hE ht h
  | nilCheck x => exact still_nil hE ht h
  | build ty ps => exact still_build hE ht h
  | field ty x i => exact still_field hE ht h
  | fieldAddr ty x i => exact still_fieldAddr hE ht h
  | indexAddr ty x i => exact still_index hE ht h
  | binOp op ty x y yt => exact ⟨v, still_bin hE ht h⟩
  | unOp op ty x => exact still_un hE ht h
  | convert s d x => exact still_conv hE ht h
  | sliceToArrayPointer ty x => exact still_sap hE ht h
  | makeInterface ty x => exact still_ifc hE ht h
  | makeFunc f fs cs => exact still_func hE ht h
  | extract x i => exact still_extract hE ht h
  | index ty x i => exact still_str hE ht h
  | call c => exact still_len hE ht h
  | _ => simp [cls] at hc
end
end Rk
end Go.Proofs.YtkdcfijebgeajaaGreat

namespace Go.Proofs.YtkdcfijebgeajaaGreat
namespace Rk
open Go.RowKit
set_option linter.unusedVariables false
set_option linter.unusedSimpArgs false
set_option linter.unusedSectionVars false
def objR (R : Mp) (o : AObj) (ro : Option Obj) (s : Nat) : Prop :=
  match o with
  | .cells c e full => ∃ c' : Array Value, ro = some (.cells c' e (0, 0)) ∧ c'.size = s ∧ c.n ≤ s ∧ (full = true → c.n = s) ∧ ∀ i v, c.get i = some v → i < c.n ∧ ∃ v', c'[i]? = some v' ∧ VR R v v'
  | .map es => ∃ (es' : Array MapEntry) (clock : Nat), ro = some (.map es' clock) ∧ es.length = es'.size ∧ ∀ (i : Nat) (p : Value × Value) (e : MapEntry), es[i]? = some p → es'[i]? = some e → VR R p.1 e.key ∧ VR R p.2 e.val
  | .loop st pe fn t ps a b d => ∃ (fn' : FuncId) (t' : Array Value) (d' sd : Nat), ro = some (.loop ⟨st, pe, fn', t', ps, a, b, d'⟩) ∧ TR R t t' ∧ R d = some (d', sd)
  | .defd op => ro = some (.deferred (if op then some [] else none))
theorem objR.mono {R R' : Mp} (hle : R.le R') {o : AObj} {ro : Option Obj} {s : Nat} (h : objR R o ro s) : objR R' o ro s := by
  cases o with
  | cells c e full => obtain ⟨c', h1, h2, h3, h4, h5⟩ := h; exact ⟨c', h1, h2, h3, h4, fun i v hv => by obtain ⟨q, v', a, b⟩ := h5 i v hv; exact ⟨q, v', a, b.mono hle⟩⟩
  | map es => obtain ⟨es', cl, h1, h2, h3⟩ := h; exact ⟨es', cl, h1, h2, fun i p e a b => ⟨(h3 i p e a b).1.mono hle, (h3 i p e a b).2.mono hle⟩⟩
  | loop st pe fn t ps a b d => obtain ⟨fn', t', d', sd, h1, h2, h3⟩ := h; exact ⟨fn', t', d', sd, h1, h2.mono hle, hle _ _ h3⟩
  | defd op => exact h
structure Sim (B : Nat) (w0 : World) (R : Mp) (σ : AH) (w : World) : Prop where
  dom : ∀ b x, R b = some x → b < σ.next
  lt : ∀ b r s, R b = some (r, s) → r < w.heap.size
  obj : ∀ b r s o, R b = some (r, s) → σ.get b = some o → B ≤ r ∧ objR R o w.heap[r]? s
  inj : ∀ b1 b2 r s1 s2, R b1 = some (r, s1) → R b2 = some (r, s2) → b1 ≠ b2 → σ.get b1 = none ∨ σ.get b2 = none
  below : Below B w0 w
  base : B ≤ w.heap.size
theorem addr_add (b o j : Nat) : (⟨b, o, none⟩ : Addr).add j = ⟨b, o + j, none⟩ := by unfold Addr.add; split <;> simp_all
section
variable {E : Env} (hE : EnvOk E) {B : Nat} {w0 : World} {R : Mp} {σ : AH} {w : World} (hS : Sim B w0 R σ w)
include hE hS
theorem cells_of {b r s : Nat} (hb : R b = some (r, s)) {c : Row} {e : TypeId} {full : Bool} (hg : σ.get b = some (.cells c e full)) :
    ∃ c' : Array Value, w.heap[r]? = some (.cells c' e (0, 0)) ∧ c'.size = s ∧ c.n ≤ s ∧ (full = true → c.n = s) ∧ ∀ i v, c.get i = some v → ∃ v', w.cell? ⟨r, i, none⟩ = some v' ∧ c'[i]? = some v' ∧ VR R v v' := by
  obtain ⟨_, c', h1, h2, h3, h4, h5⟩ := hS.obj b r s _ hb hg
  refine ⟨c', h1, h2, h3, h4, fun i v hv => ?_⟩
  obtain ⟨_, v', a, k⟩ := h5 i v hv
  exact ⟨v', by simp [World.cell?, h1, a], a, k⟩
theorem row_of {b r s : Nat} (hb : R b = some (r, s)) {c : Row} {e : TypeId} {full : Bool} (hg : σ.get b = some (.cells c e full)) {o m : Nat} {l : List Value} (hl : c.from o m = some l) :
    ∃ l' : List Value, LR R l l' ∧ l'.length = m ∧ ∀ (j : Nat) (v : Value), l'[j]? = some v → w.cell? ((⟨r, o, none⟩ : Addr).add j) = some v := by
  obtain ⟨c', h1, h2, h3, h4, h5⟩ := cells_of hE hS hb hg
  obtain ⟨k1, k2⟩ := row_from m c o l hl
  have hle : ∀ j, j < m → ∃ v', c'[o + j]? = some v' := fun j hj => by
    have := k2 j hj
    rw [List.getElem?_eq_getElem (by omega)] at this
    obtain ⟨v', _, a, _⟩ := h5 _ _ this
    exact ⟨v', a⟩
  have hlen : ((c'.toList.drop o).take m).length = m := by
    cases m with
    | zero => simp
    | succ m =>
      obtain ⟨v', hv⟩ := hle m (by omega)
      have := (Array.getElem?_eq_some_iff.1 hv).1
      simp; omega
  refine ⟨(c'.toList.drop o).take m, ⟨by rw [hlen, k1], fun i x y hx hy => ?_⟩, hlen, fun j v hv => ?_⟩
  · have hi : i < m := by have := (List.getElem?_eq_some_iff.1 hx).1; omega
    have := k2 i hi
    rw [hx] at this
    obtain ⟨v', _, a, k⟩ := h5 _ _ this
    rw [List.getElem?_take, if_pos hi, List.getElem?_drop] at hy
    have : c'.toList[o + i]? = some v' := by simpa using a
    rw [this] at hy; cases hy; exact k
  · have hj : j < m := by have := (List.getElem?_eq_some_iff.1 hv).1; omega
    rw [List.getElem?_take, if_pos hj, List.getElem?_drop] at hv
    rw [addr_add]
    have : c'[o + j]? = some v := by simpa using hv
    simp [World.cell?, h1, this]
theorem at_sound {b r s : Nat} (hb : R b = some (r, s)) {c : Row} {e : TypeId} {full : Bool} (hg : σ.get b = some (.cells c e full)) {ty : TypeId} {o : Nat} {v : Value} (h : E.at ty c o = some v) :
    ∃ v', VR R v v' ∧ (loadVar ty ⟨r, o, none⟩).run E.P w = .ok v' w := by
  unfold Env.at at h
  split at h
  · rename_i i hi
    obtain ⟨ii, d, hT⟩ := hE.is hi
    have hag := run_isAgg (P := E.P) (t := ty) w hT.und
    rw [← hT.agg] at hag
    split at h
    · rename_i ha
      rw [ha] at hag
      cases hf : c.from o i.size with
      | none => rw [hf] at h; simp [aggO] at h
      | some l =>
        rw [hf] at h; simp only [aggO] at h; cases h
        obtain ⟨l', h1, h2, h3⟩ := row_of hE hS hb hg hf
        have hr := run_loadCells_list (P := E.P) w ⟨r, o, none⟩ l' h3
        refine ⟨_, h1.agg, ?_⟩
        simp [loadVar, hag, run_size w hT.info, hT.size, Result.andThen, ← h2, hr]
    · rename_i ha
      rw [ha] at hag
      obtain ⟨c', _, _, _, _, h5⟩ := cells_of hE hS hb hg
      obtain ⟨v', k1, _, k2⟩ := h5 _ _ h
      refine ⟨v', k2, ?_⟩
      simp [loadVar, hag, Result.andThen, k1]
  · cases h
theorem load_sound {ty : TypeId} {u u' v : Value} (hu : VR R u u') (h : evLoad E σ ty u = some v) : ∃ v', VR R v v' ∧ (Instr.loadAt ty u').run E.P w = .ok v' w := by
  unfold evLoad at h
  split at h
  · rename_i b o
    split at h
    · rename_i c e full hg
      obtain ⟨b', s, hb, rfl⟩ := vr_ptr hu
      obtain ⟨v', h1, h2⟩ := at_sound hE hS hb hg h
      exact ⟨v', h1, by simp [Instr.loadAt, Instr.sureAddr, Result.andThen, h2]⟩
    · cases h
  · cases h
omit hS in
theorem eqL_sound : ∀ (ts : List Bool) (fs : List Field) (n : Nat) (l m : List Value) (r : Bool), plainFs E.P n fs = some ts → eqL ts (l.drop n) (m.drop n) = some r →
    ∀ d w, (Op.eqFields (d + 1) ⟨l⟩ ⟨m⟩ fs).run E.P w = .ok r w
  | ts, [], n, l, m, r, hf, h, d, w => by
    simp [plainFs] at hf; subst hf
    simp [eqL] at h; subst h
    simp [Op.eqFields]
  | ts, f :: fs, n, l, m, r, hf, h, d, w => by
    simp only [plainFs] at hf
    split at hf
    · rename_i b ts' hb hts
      cases hf
      unfold plainF at hb
      split at hb
      · cases hb
      · rename_i hno
        simp only [Bool.and_eq_true, bne_iff_ne, ne_eq, beq_iff_eq] at hno
        obtain ⟨hnm, hof⟩ := hno
        have ih := fun l m r => eqL_sound ts' fs (n + 1) l m r hts
        have hcell : ∀ (q : List Value) (x : Value) (qs : List Value), q.drop n = x :: qs → q[n]? = some x ∧ q.drop (n + 1) = qs := fun q x qs e => by
          constructor
          · have := congrArg (fun z => z[0]?) e
            simpa [List.getElem?_drop] using this
          · have := congrArg (fun z => z.drop 1) e
            simpa [List.drop_drop, Nat.add_comm] using this
        have hpart : ∀ (q : List Value) (x : Value), q[n]? = some x → ∀ u, E.P.underlying f.type = some u → aggD u = false → (part f.type ⟨q⟩ f.offset).run E.P w = .ok x w := fun q x hq u hu ha => by
          have := run_isAgg (P := E.P) (t := f.type) w hu
          rw [ha] at this
          rw [hof]
          simp [part, this, Result.andThen, hq]
        split at hb
        · rename_i k hu
          cases hb
          cases hl : l.drop n with
          | nil => rw [hl] at h; simp [eqL] at h
          | cons x xs =>
            cases hm : m.drop n with
            | nil => rw [hl, hm] at h; cases x <;> simp [eqL] at h
            | cons y ys =>
              rw [hl, hm] at h
              obtain ⟨l1, l2⟩ := hcell l x xs hl
              obtain ⟨m1, m2⟩ := hcell m y ys hm
              cases x <;> first | (simp [eqL] at h; done) | skip
              cases y <;> first | (simp [eqL] at h; done) | skip
              rename_i k1 a1 k2 a2
              simp only [eqL] at h
              split at h
              · rename_i hk
                have := kindN_inj hk
                subst this
                have p1 := hpart l _ l1 _ hu rfl
                have p2 := hpart m _ m1 _ hu rfl
                have e1 := run_equalIn_int (P := E.P) w d f.type k1 k a1 a2 hu
                rw [sameI_eq] at h
                by_cases hc : a1 = a2
                · simp only [hc, decide_true] at h
                  have := ih l m r (by rw [l2, m2]; exact h) d w
                  subst hc
                  simp only [Op.eqFields, hnm, ne_eq, not_false_eq_true, if_true, Sem.run_bind, p1, p2, e1, Result.andThen]
                  simpa using this
                · simp only [hc, decide_false] at h
                  cases h
                  simp only [Op.eqFields, hnm, ne_eq, not_false_eq_true, if_true, Sem.run_bind, p1, p2, e1, Result.andThen]
                  simp [hc]
              · cases h
        · rename_i hu
          cases hb
          cases hl : l.drop n with
          | nil => rw [hl] at h; simp [eqL] at h
          | cons x xs =>
            cases hm : m.drop n with
            | nil => rw [hl, hm] at h; cases x <;> simp [eqL] at h
            | cons y ys =>
              rw [hl, hm] at h
              obtain ⟨l1, l2⟩ := hcell l x xs hl
              obtain ⟨m1, m2⟩ := hcell m y ys hm
              cases x <;> first | (simp [eqL] at h; done) | skip
              cases y <;> first | (simp [eqL] at h; done) | skip
              rename_i a1 a2
              simp only [eqL, sameB_eq] at h
              have p1 := hpart l _ l1 _ hu rfl
              have p2 := hpart m _ m1 _ hu rfl
              have e1 := run_equalIn_bool (P := E.P) w d f.type a1 a2 hu
              by_cases hc : a1 = a2
              · subst hc
                simp only [beq_self_eq_true] at h
                have := ih l m r (by rw [l2, m2]; exact h) d w
                simp only [Op.eqFields, hnm, ne_eq, not_false_eq_true, if_true, Sem.run_bind, p1, p2, e1, Result.andThen]
                simpa using this
              · have hc' : (a1 == a2) = false := by simpa using hc
                simp only [hc'] at h
                cases h
                simp only [Op.eqFields, hnm, ne_eq, not_false_eq_true, if_true, Sem.run_bind, p1, p2, e1, Result.andThen]
                simp [hc]
        · cases hb
    · cases hf
omit hS in
theorem eqS_sound {op : BinOp} {ty : TypeId} {x y : Operand} {a b v a' b' : Value} (ha : VR R a a') (hb : VR R b b') {r : Bool} (h : eqS E ty a b = some r) (hv : boolV op r = some v) (w : World) :
    Rk.flat v = true ∧ (do eqGuard op ty x y a' b'; binOp op ty a' b' : Sem Value).run E.P w = .ok v w := by
  unfold eqS at h
  split at h
  · rename_i l m
    split at h
    · rename_i i hi
      obtain ⟨ii, d, hT⟩ := hE.is hi
      split at h
      · rename_i ts hts h1 h2
        have hl : a' = .agg l := vr_flat_eq ha (by obtain ⟨l⟩ := l; simpa [Rk.flat] using h1)
        have hm : b' = .agg m := vr_flat_eq hb (by obtain ⟨m⟩ := m; simpa [Rk.flat] using h2)
        subst hl
        subst hm
        have hq : i.eq = eqOf E.P ty d := by rw [hT.eq]
        rw [hts] at hq
        unfold eqOf at hq
        split at hq
        · rename_i fs
          split at hq
          · rename_i hno
            simp only [Bool.and_eq_true, Bool.not_eq_true'] at hno
            have hff : E.P.fieldsOf ty = fs := by unfold Program.fieldsOf; rw [hT.und]
            have hu : E.P.underlying ty = some (.struct (E.P.fieldsOf ty)) := by rw [hff]; exact hT.und
            have k1 := run_eqGuard_agg (P := E.P) w op ty x y l m hno.2
            obtain ⟨l⟩ := l
            obtain ⟨m⟩ := m
            have k2 := run_equalIn_struct (P := E.P) w 9999 ty ⟨l⟩ ⟨m⟩ hu hno.1
            rw [hff, eqL_sound hE ts fs.toList 0 l m r hq.symm (by simpa using h) 9998 w] at k2
            cases op <;> simp only [boolV] at hv <;> first | (cases hv; done) | skip
            · cases hv
              refine ⟨rfl, ?_⟩
              rw [Sem.run_bind, k1]
              simp only [Result.andThen, run_eql_struct, k2]
            · cases hv
              refine ⟨rfl, ?_⟩
              rw [Sem.run_bind, k1]
              simp only [Result.andThen, run_neq_struct, k2, notB_eq]
          · cases hq
        · cases hq
      · cases h
    · cases h
  · cases h
end
end Rk
end Go.Proofs.YtkdcfijebgeajaaGreat
