/- A run reckoned: operations that write.
   A run reckoned: append, copy, clear; a map's entry is written. -/
import Derived.Test.YtkdcfijebgeajaaGreatJw22
import Derived.Laws.AppendOwn
import Derived.Lib.AppendZeros
import Derived.Lib.SliceRun
namespace Go.Proofs.YtkdcfijebgeajaaGreat
namespace Rk
open Go.RowKit
set_option linter.unusedVariables false
set_option linter.unusedSimpArgs false
set_option linter.unusedSectionVars false
theorem vr_one {R : Mp} {v v' : Value} (h : VR R v v') (h1 : oneC v = true) : v'.oneCell' = true := by
  cases h with
  | flat v h => cases v <;> simp_all [flatA, Value.oneCell']
  | agg => simp [oneC] at h1
  | tup => simp [oneC] at h1
  | _ => rfl
theorem oneL_vr {R : Mp} : ∀ {l l' : List Value}, LR R l l' → oneL l = true → ∀ v ∈ l', v.oneCell' = true
  | [], l', h, _, v, hv => by rw [h.unnil] at hv; cases hv
  | x :: xs, l', h, h1, v, hv => by
    obtain ⟨y, q, rfl, k1, k2⟩ := h.uncons
    simp only [oneL] at h1
    cases hx : oneC x with
    | false => rw [hx] at h1; cases h1
    | true =>
      rw [hx] at h1
      rcases List.mem_cons.1 hv with e | e
      · subst e; exact vr_one k1 hx
      · exact oneL_vr k2 h1 v e
theorem oneL_append : ∀ (l m : List Value), oneL l = true → oneL m = true → oneL (l ++ m) = true
  | [], m, _, h => h
  | x :: xs, m, h, k => by
    simp only [oneL] at h
    cases hx : oneC x with
    | false => rw [hx] at h; cases h
    | true => rw [hx] at h; simp only [List.cons_append, oneL, hx]; exact oneL_append xs m h k
theorem rept_one {l : List Value} (h : oneL l = true) : ∀ n, oneL (rept l n) = true
  | 0 => rfl
  | n + 1 => oneL_append _ _ h (rept_one h n)
def ValOut (B : Nat) (w0 : World) (R : Mp) (σ : AH) (r : Result Next) (v : Value) (σ' : AH) : Prop :=
  ∃ R' v' w', Ext R σ R' σ' ∧ VR R' v v' ∧ Sim B w0 R' σ' w' ∧ (r = .ok (.value v') w' ∨ (r = .ok .skip w' ∧ v' = undef))
section
variable {E : Env} (hE : EnvOk E) {B : Nat} {w0 : World} {R : Mp} {σ : AH} {w : World} (hS : Sim B w0 R σ w)
include hE hS
theorem write_sound {b r s : Nat} (hb : R b = some (r, s)) {c : Row} {e : TypeId} {full : Bool} (hg : σ.get b = some (.cells c e full)) {p : Nat} {l l' : List Value} (hl : LR R l l') (h1 : oneL l = true) (hfit : p + l.length ≤ c.n) :
    ∃ w', (storeCells ⟨r, p, none⟩ l').run E.P w = .ok () w' ∧ Sim B w0 R (σ.put b (some (.cells (c.puts p l) e full))) w' := by
  obtain ⟨_, c', hc, hs, hn, hf, hv⟩ := hS.obj b r s _ hb hg
  have hlen := hl.1
  have hcn : p + l'.length ≤ c'.size := by omega
  have hr := run_storeCells_at E.P r p e l' 0 c' w hc (by simpa using hcn) (oneL_vr hl h1)
  simp only [Nat.add_zero] at hr
  refine ⟨_, hr, hS.repl hb (by rw [hg]; simp) ?_ (fun k hk => setRow_other w r k _ hk) (setRow_size _ _ _) rfl rfl rfl⟩
  refine ⟨(c'.toList.take p ++ l' ++ c'.toList.drop (p + l'.length)).toArray, setRow_heap w r c' _ e (0, 0) hc, ?_, ?_, ?_, fun i v hi => ?_⟩
  · simp; omega
  · rw [(row_puts_n l c p).1]; exact hn
  · rw [(row_puts_n l c p).1]; exact hf
  · rw [row_puts_get] at hi
    by_cases hin : p ≤ i ∧ i < p + l.length
    · rw [if_pos hin] at hi
      obtain ⟨y, hy, hr⟩ := hl.get hi
      refine ⟨by rw [(row_puts_n l c p).1]; omega, y, ?_, hr⟩
      simp only [List.getElem?_toArray]
      rw [List.append_assoc, List.getElem?_append_right (by simp; omega), List.getElem?_append_left (by simp; omega)]
      have : i - (c'.toList.take p).length = i - p := by simp; omega
      rw [this]; exact hy
    · rw [if_neg hin] at hi
      obtain ⟨hin2, v', hv', hr⟩ := hv i v hi
      refine ⟨by rw [(row_puts_n l c p).1]; exact hin2, v', ?_, hr⟩
      simp only [List.getElem?_toArray]
      by_cases hip : i < p
      · rw [List.append_assoc, List.getElem?_append_left (by simp; have := (Array.getElem?_eq_some_iff.1 hv').1; omega), List.getElem?_take, if_pos hip]
        simpa using hv'
      · rw [List.getElem?_append_right (by simp; omega), List.getElem?_drop]
        have : p + l'.length + (i - (c'.toList.take p ++ l').length) = i := by simp; omega
        rw [this]
        simpa using hv'
theorem store_sound {ty : TypeId} {i : Ti} (hi : E.ty ty = some i) {u v u' v' x : Value} {σ' : AH} (hu : VR R u u') (hv : VR R v v') (h : evStore σ i.size u v = some (x, σ')) :
    ∃ w', (Instr.storeAt ty u' v').run E.P w = .ok () w' ∧ x = undef ∧ Ext R σ R σ' ∧ Sim B w0 R σ' w' := by
  obtain ⟨ii, d, hT⟩ := hE.is hi
  unfold evStore at h
  split at h
  · rename_i b p
    obtain ⟨r, s, hb, rfl⟩ := vr_ptr hu
    split at h
    · rename_i c e full hg
      split at h
      · rename_i c1 c2
        rw [beqN, lenL_eq] at c1
        have c1 := of_decide_eq_true c1
        have hl := vr_cells hv
        have hsz : v'.cells.size = ii.size := by rw [hT.size, ← c1, hl.1, cellsL_eq]; simp
        have hcl : v'.cells.toList = cellsL v' := (cellsL_eq v').symm
        have h0 := row_putL_eq _ _ _ _ _ h
        rw [ah_putK] at h0
        cases h0
        rcases row_putL _ _ _ _ _ h with hfit | hnil
        · obtain ⟨w', k1, k2⟩ := write_sound hE hS hb hg hl c2 hfit
          refine ⟨w', ?_, rfl, Ext.put R σ hb _, k2⟩
          simp [Instr.storeAt, Instr.sureAddr, storeVar, Result.andThen, run_size w hT.info, hsz, hcl, k1]
        · have hnil' : cellsL v' = [] := by rw [hnil] at hl; exact hl.unnil
          refine ⟨w, ?_, rfl, Ext.put R σ hb _, ?_⟩
          · have hsz0 : ii.size = 0 := by rw [hT.size, ← c1, hnil]; rfl
            simp [Instr.storeAt, Instr.sureAddr, storeVar, Result.andThen, run_size w hT.info, hsz, hcl, hnil', storeCells]
          · rw [hnil]
            exact hS.repl hb (by rw [hg]; simp) (hS.obj b r s _ hb hg).2 (fun _ _ => rfl) rfl rfl rfl rfl
      · cases h
    · cases h
  · cases h
theorem rowOf_sound {x x' : Value} {z m : Nat} {l : List Value} (hx : VR R x x') (hn : ∀ ad k c, x = .slice ad k c → m ≤ k) (hm : 0 < m) (h : rowOf σ x z m = some l) :
    ∃ (l' : List Value) (ad : Addr) (k c : Nat), x' = .slice (some ad) k c ∧ m ≤ k ∧ k ≤ c ∧ LR R l l' ∧ oneL l = true ∧ l'.length = m * z ∧ ∀ (j : Nat) (v : Value), l'[j]? = some v → w.cell? (ad.add j) = some v := by
  unfold rowOf at h
  split at h
  · rename_i ad k c
    have hmk := hn _ _ _ rfl
    split at h
    · rename_i c0 e full hg
      split at h
      · rename_i q hf
        split at h
        · rename_i h1
          cases h
          obtain ⟨b', s, c', hb, rfl, h2, _⟩ := vr_slice hx (by omega)
          obtain ⟨l', k1, k2, k3⟩ := row_of hE hS hb hg hf
          exact ⟨l', _, _, _, rfl, hmk, h2, k1, h1, k2, k3⟩
        · cases h
      · cases h
    · cases h
  · cases h
theorem grown_sound {z n e : Nat} {i : TypeInfo} {zv : Value} {l l' : List Value} (hl : LR R l l') (hz : 1 ≤ z) (hlen : l'.length = n * z) (hzs : zv.cells.size = z) (cap : Nat) (hcap : n ≤ cap) (w1 : World) (hw : w1.heap = w.heap) (q1 : w1.os = w.os) (q2 : w1.tape = w.tape) (q3 : w1.output = w.output) (cs : Array Value)
    (hcs : cs = l'.toArray ++ Builtin.zeroCells zv.cells (cap - n)) : ∃ R' w', w' = w1.alloc (.cells cs e) ∧ Ext R σ R' (σ.new (.cells (Row.nil.app l) e false)) ∧ VR R' (.slice (some ⟨σ.next, 0, none⟩) n z) (.slice (some ⟨w.heap.size, 0, none⟩) n cap) ∧ Sim B w0 R' (σ.new (.cells (Row.nil.app l) e false)) w' := by
  have hsz : cs.size = cap * z := by
    rw [hcs]
    simp only [Array.size_append, size_zeroCells, List.size_toArray, hlen, hzs]
    rw [← Nat.add_mul]; congr 1; omega
  refine ⟨R.set σ.next (w.heap.size, cs.size), _, rfl, Ext.new hS _ _, .slU _ 0 _ _ n z cap (Mp.set_same R _ _) hz (by rw [hsz]; omega) hcap, ?_⟩
  have := (hS.world hw q1 q2 q3).new (x := .cells (Row.nil.app l) e false) (o := .cells cs e) (s := cs.size) ?_
  · rw [hw] at this; exact this
  · refine ⟨cs, rfl, rfl, ?_, fun h => by simp at h, fun j v hv => ?_⟩
    · rw [(row_app_n l Row.nil).1, hl.1, hlen, hsz]
      simp [Row.nil]
      exact Nat.mul_le_mul_right z hcap
    · rw [row_app_get l Row.nil rfl] at hv
      split at hv
      · have hv : l[j]? = some v := by simpa [Row.nil] using hv
        obtain ⟨y, hy, hr⟩ := hl.get hv
        refine ⟨by rw [(row_app_n l Row.nil).1]; have := (List.getElem?_eq_some_iff.1 hv).1; simp [Row.nil]; omega, y, ?_, hr⟩
        rw [hcs, Array.getElem?_append_left (by simpa using (List.getElem?_eq_some_iff.1 hy).1)]
        simpa using hy
      · simp [Row.nil, row_get, Tr.get_nil] at hv
omit hE hS in
theorem row_app_app (l m : List Value) : ∀ r : Row, (r.app l).app m = r.app (l ++ m) := by
  induction l with
  | nil => intro r; rfl
  | cons x l ih => intro r; simp only [Row.app, List.cons_append]; exact ih _
omit hE hS in
theorem run_append_at {P : Program} {w w' : World} {t ty e : TypeId} {i : TypeInfo} (ht : P.underlying t = some (.slice e)) (hi : P.info? e = some i) (g o sLen sCap : Nat)
    (a : Addr) (m c : Nat) (news : List Value) (hl : news.length = m * i.size) (hnews : ∀ j u, news[j]? = some u → w.cell? (a.add j) = some u) (hroom : sLen + m ≤ sCap)
    (hst : (storeCells ⟨g, o + sLen * i.size, none⟩ news).run P w = .ok () w') :
    (Builtin.append_ #[t, t] ty #[.slice (some ⟨g, o, none⟩) sLen sCap, .slice (some a) m c]).run P w = .ok (.slice (some ⟨g, o, none⟩) (sLen + m) sCap) w' := by
  have hf := run_firstCells_some (P := P) w i.size m a m c news hl hnews
  simp [Builtin.append_, run_und w ht, Result.andThen, run_size w hi, Builtin.lenOf, hroom, hf, addr_add, hst]
theorem append_sound {t ty e : TypeId} {i ie : Ti} (hi : E.ty t = some i) (hds : i.ds = .sl e) (hie : E.ty e = some ie) {z : Nat} (hz : ie.size = z) (hz1 : 1 ≤ z) {zv : Value} (hzv : ie.zero = some zv) (hzs : (cellsL zv).length = z) (hby : ie.bytes ≤ 65536)
    {sv sv' v : Value} {new : List Value} {σ' : AH} {n : Nat} (hn : 0 < n) (hn2 : n ≤ 65537) {xv' : Value} (hsv : VR R sv sv') {l' : List Value} {ad : Addr} {kx cx : Nat} (hx : xv' = .slice (some ad) kx cx) (hkx : kx = n) (hl : LR R new l') (h1 : oneL new = true) (hll : l'.length = n * z)
    (hc : ∀ (j : Nat) (v : Value), l'[j]? = some v → w.cell? (ad.add j) = some v) (h : evAppend E σ e z sv new n = some (v, σ')) :
    ∃ R' v' w', Ext R σ R' σ' ∧ VR R' v v' ∧ Sim B w0 R' σ' w' ∧ (Builtin.append_ #[t, t] ty #[sv', xv']).run E.P w = .ok v' w' := by
  obtain ⟨ii, d, hT⟩ := hE.is hi
  obtain ⟨ei, ed, hTe⟩ := hE.is hie
  have := hT.sl hds
  subst this
  obtain ⟨hzv1, hzv2⟩ := hTe.zero hzv
  have hesz : ei.size = z := by rw [hTe.size, hz]
  have heby : ei.bytes ≤ 65536 := by rw [hTe.eq] at hby; exact hby
  have hzcs : zv.cells.size = z := by rw [← hzs, cellsL_eq]; simp
  subst hx
  subst hkx
  have hll' : l'.length = kx * ei.size := by rw [hesz]; exact hll
  -- a new block, where there was none
  have none_ : ∀ (b : Nat), evNew σ e kx z new = some (v, σ') → (sv' = .slice none 0 0 ∨ ∃ a0, sv' = .slice (some a0) 0 0) → ∃ R' v' w', Ext R σ R' σ' ∧ VR R' v v' ∧ Sim B w0 R' σ' w' ∧ (Builtin.append_ #[t, t] ty #[sv', .slice (some ad) kx cx]).run E.P w = .ok v' w' := fun _ h hs => by
    unfold evNew at h
    rw [row_ext, ah_newK] at h
    cases h
    have h48 : kx * ei.bytes ≤ 281474976710656 := by
      have : kx * ei.bytes ≤ 65537 * 65536 := Nat.mul_le_mul hn2 heby
      omega
    have hcap : ∀ o, kx ≤ grownCap w kx o e := fun o => Nat.le_add_right kx _
    rcases hs with rfl | ⟨a0, rfl⟩
    · have hr := run_append_nil (P := E.P) w t ty e ei zv hT.und hTe.info hzv1 ad kx cx l' hll' hc hn (by omega) h48
      obtain ⟨R', w', k1, k2, k3, k4⟩ := grown_sound hE hS (i := ei) (e := e) hl hz1 hll hzcs (grownCap w kx 0 e) (hcap 0) w.drew rfl rfl rfl rfl _ rfl
      exact ⟨R', _, w', k2, k3, k4, by rw [hr, k1]⟩
    · have hfit : Builtin.nextslicecap (0 + kx) 0 * ei.bytes ≤ 281474976710656 := by rw [Nat.zero_add, nextslicecap_zero hn]; exact h48
      have hr := run_append_grow (P := E.P) w t ty e ei zv hT.und hTe.info hzv1 a0 0 0 [] (by simp) (fun j v hj => by simp at hj) ad kx cx l' hll' hc (by omega) (by omega) hfit
      simp only [Nat.zero_add] at hr
      obtain ⟨R', w', k1, k2, k3, k4⟩ := grown_sound hE hS (i := ei) (e := e) hl hz1 hll hzcs (grownCap w kx 0 e) (hcap 0) w.drew rfl rfl rfl rfl _ rfl
      refine ⟨R', _, w', k2, k3, k4, ?_⟩
      rw [hr, k1]; simp
  -- as it stands
  have inPlace : ∀ (b o : Nat) (sp : Option Nat) (l0 b' s cap : Nat) (c : Row) (e' : TypeId) (full : Bool), R b = some (b', s) → σ.get b = some (.cells c e' full) → sv' = .slice (some ⟨b', o, none⟩) l0 cap → l0 + kx ≤ cap →
      VR R (.slice (some ⟨b, o, sp⟩) (l0 + kx) z) (.slice (some ⟨b', o, none⟩) (l0 + kx) cap) → evInPlace σ b o c e' full l0 kx z sp new = some (v, σ') →
      ∃ R' v' w', Ext R σ R' σ' ∧ VR R' v v' ∧ Sim B w0 R' σ' w' ∧ (Builtin.append_ #[t, t] ty #[sv', .slice (some ad) kx cx]).run E.P w = .ok v' w' := fun b o sp l0 b' s cap c e' full hb hg hs hroom hvr h => by
    unfold evInPlace at h
    have h0 := row_putL_eq _ _ _ _ _ h
    rw [ah_putK] at h0
    cases h0
    have hne : new ≠ [] := fun q => by
      rw [q] at hl
      have := hl.unnil
      rw [this] at hll
      have := Nat.mul_pos hn hz1
      simp at hll; omega
    rcases row_putL _ _ _ _ _ h with hfit | hnil
    · obtain ⟨w', k1, k2⟩ := write_sound hE hS hb hg hl h1 hfit
      refine ⟨R, _, w', Ext.put R σ hb _, hvr, k2, ?_⟩
      rw [hs]
      refine run_append_at hT.und hTe.info b' o l0 cap ad kx cx l' hll' hc hroom ?_
      rw [hesz]
      exact k1
    · exact absurd hnil hne
  -- elsewhere
  have grown : ∀ (b o : Nat) (l0 b' s cap : Nat) (c : Row) (e' : TypeId) (full : Bool), R b = some (b', s) → σ.get b = some (.cells c e' full) → sv' = .slice (some ⟨b', o, none⟩) l0 cap → cap < l0 + kx → l0 ≤ 1000000 →
      ∀ old, c.from o (l0 * z) = some old →
      ∃ R' v' w', Ext R σ R' (σ.new (.cells (Row.nil.app (old ++ new)) e false)) ∧ VR R' (.slice (some ⟨σ.next, 0, none⟩) (l0 + kx) z) v' ∧ Sim B w0 R' (σ.new (.cells (Row.nil.app (old ++ new)) e false)) w' ∧ (Builtin.append_ #[t, t] ty #[sv', .slice (some ad) kx cx]).run E.P w = .ok v' w' := fun b o l0 b' s cap c e' full hb hg hs hg2 hl0 old hold => by
    obtain ⟨old', o1, o2, o3⟩ := row_of hE hS hb hg hold
    have hneed : l0 + kx ≤ 1065537 := by omega
    have hfit : Builtin.nextslicecap (l0 + kx) cap * ei.bytes ≤ 281474976710656 := by
      have := nextslicecap_le hg2
      have : Builtin.nextslicecap (l0 + kx) cap * ei.bytes ≤ (2 * 1065537) * 65536 := Nat.mul_le_mul (by omega) heby
      omega
    have hr := run_append_grow (P := E.P) w t ty e ei zv hT.und hTe.info hzv1 ⟨b', o, none⟩ l0 cap old' (by rw [hesz]; exact o2) o3 ad kx cx l' hll' hc hg2 (by omega) hfit
    have hlen : (old' ++ l').length = (l0 + kx) * z := by rw [List.length_append, o2, hll, Nat.add_mul]
    obtain ⟨R', w', k1, k2, k3, k4⟩ := grown_sound hE hS (i := ei) (e := e) (LR.append o1 hl) hz1 hlen hzcs (grownCap w (l0 + kx) cap e) (Nat.le_add_right _ _) w.drew rfl rfl rfl rfl _ rfl
    refine ⟨R', _, w', k2, k3, k4, ?_⟩
    rw [hs, hr, k1]
    congr 3
    apply Array.ext'
    simp
  have grownE : ∀ (b o : Nat) (l0 b' s cap : Nat) (c : Row) (e' : TypeId) (full : Bool), R b = some (b', s) → σ.get b = some (.cells c e' full) → sv' = .slice (some ⟨b', o, none⟩) l0 cap → cap < l0 + kx → l0 ≤ 1000000 → evGrown σ e o c l0 kx z new = some (v, σ') →
      ∃ R' v' w', Ext R σ R' σ' ∧ VR R' v v' ∧ Sim B w0 R' σ' w' ∧ (Builtin.append_ #[t, t] ty #[sv', .slice (some ad) kx cx]).run E.P w = .ok v' w' := fun b o l0 b' s cap c e' full hb hg hs hg2 hl0 h => by
    unfold evGrown at h
    split at h
    · cases h
    · rename_i old hold
      rw [row_ext, row_ext, row_app_app, ah_newK] at h
      cases h
      exact grown b o l0 b' s cap c e' full hb hg hs hg2 hl0 old hold
  unfold evAppend at h
  split at h
  · exact none_ 0 h (.inl (vr_flatA hsv rfl))
  · rename_i b o sp l0 zz
    split at h
    · split at h
      · cases hsv with
        | flat v h => simp [flatA] at h
        | slU b o b' s n z c' h hz hc hn => omega
        | slZ a0 => exact none_ 0 h (.inr ⟨a0, rfl⟩)
      · cases h
    · rename_i zz
      split at h
      · rename_i c e' full hg
        split at h
        · rename_i d1 d2
          rw [beqN] at d1
          rw [bleN] at d2
          have d1 := of_decide_eq_true d1
          have d2 := of_decide_eq_true d2
          subst d1
          split at h
          · -- a slice whose end is open
            cases hsv with
            | flat v h => simp [flatA] at h
            | slU b o b' s n z c' hb hz hcs hnc =>
              obtain ⟨_, c0, hc0, hs0, hn0, hf0, hv0⟩ := hS.obj b b' s _ hb hg
              split at h
              · rename_i q
                rw [bleN] at q
                have q := of_decide_eq_true q
                have q : o + (l0 + kx) * (zz + 1) ≤ c.n := q
                have hroom : l0 + kx ≤ c' := by
                  have : (l0 + kx) * (zz + 1) ≤ c' * (zz + 1) := by
                    have := hcs
                    simp only [Nat.succ_eq_add_one] at this
                    omega
                  exact Nat.le_of_mul_le_mul_right this (by omega)
                exact inPlace b o none l0 b' s c' c e' full hb hg rfl hroom (.slU b o b' s (l0 + kx) _ c' hb hz hcs hroom) h
              · split at h
                · cases h
                · rename_i q
                  rw [beqN] at q
                  have q := of_decide_eq_true q
                  have q : o + l0 * (zz + 1) = c.n := q
                  split at h
                  · -- nothing behind it
                    have hsn : c.n = s := hf0 rfl
                    have hcl : c' = l0 := by
                      have : c' * (zz + 1) = l0 * (zz + 1) := by
                        have := hcs
                        simp only [Nat.succ_eq_add_one] at this
                        omega
                      exact Nat.eq_of_mul_eq_mul_right (by omega) this
                    exact grownE b o l0 b' s c' c e' _ hb hg rfl (by omega) d2 h
                  · split at h
                    · have qe : Nat.beq e e' = true := by assumption
                      rw [beqN] at qe
                      have qe := of_decide_eq_true qe
                      subst qe
                      split at h
                      · cases h
                      · rename_i hcd
                        rw [row_ext, ah_putK, ah_newK] at h
                        cases h
                        have hcs' : c' * (zz + 1) = s := by simpa using hcs
                        have hln : l0 * (zz + 1) = c.n := by simpa using q
                        have hln2 : new.length = kx * (zz + 1) := by rw [hl.1, hll]
                        by_cases hroom : l0 + kx ≤ c'
                        · -- in place: the block's new name
                          have hfit : l0 * (zz + 1) + l'.length ≤ c0.size := by
                            rw [hll, hs0, ← hcs', ← Nat.add_mul]; exact Nat.mul_le_mul_right _ hroom
                          have hst := run_storeCells_at E.P b' (l0 * (zz + 1)) e l' 0 c0 w hc0 (by simpa using hfit) (oneL_vr hl h1)
                          simp only [Nat.add_zero] at hst
                          have hrun := run_append_at (P := E.P) hT.und hTe.info (ty := ty) b' 0 l0 c' ad kx cx l' hll' hc hroom (w' := w.setRow b' (c0.toList.take (l0 * (zz + 1)) ++ l' ++ c0.toList.drop (l0 * (zz + 1) + l'.length)).toArray) (by rw [Nat.zero_add, hesz]; exact hst)
                          refine ⟨R.set σ.next (b', s), _, _, ?_, .slU _ 0 b' s (l0 + kx) _ c' (Mp.set_same R _ _) (by omega) (by simpa using hcs') hroom, ?_, hrun⟩
                          · have e1 := Ext.put R σ hb none
                            have e2 : Ext R (σ.put b none) (R.set σ.next (b', s)) ((σ.put b none).new (.cells (c.app new) e false)) := Ext.new (hS.kill b) _ _
                            exact e1.trans e2
                          · have hSk := hS.kill b
                            have hne : b ≠ σ.next := by have := hS.dom b _ hb; omega
                            have hle : R.le (R.set σ.next (b', s)) := Mp.set_le (hS.none_next (Nat.le_refl _))
                            have hB : B ≤ b' := (hS.obj b b' s _ hb hg).1
                            have hblt : b' < w.heap.size := hS.lt b b' s hb
                            have hrow := setRow_heap w b' c0 (c0.toList.take (l0 * (zz + 1)) ++ l' ++ c0.toList.drop (l0 * (zz + 1) + l'.length)).toArray e (0, 0) hc0
                            -- whoever has this block is gone
                            have hgone : ∀ c2 s2, R c2 = some (b', s2) → (σ.put b none).get c2 = none := fun c2 s2 e2 => by
                              rw [ah_put_get]
                              by_cases hcb : c2 = b
                              · rw [if_pos hcb]
                              · rw [if_neg hcb]
                                rcases hS.inj c2 b b' s2 s e2 hb hcb with k | k
                                · exact k
                                · rw [hg] at k; cases k
                            refine ⟨fun c2 y e2 => ?_, fun c2 r2 s2 e2 => ?_, fun c2 r2 s2 y e2 g2 => ?_, fun b1 b2 r2 s1 s2 e1 e2 hne2 => ?_, ?_, ?_⟩
                            · by_cases hcn : c2 = σ.next
                              · subst hcn; simp
                              · rw [Mp.set_ne hcn] at e2; have := hS.dom c2 y e2; simp; omega
                            · rw [setRow_size]
                              by_cases hcn : c2 = σ.next
                              · subst hcn; rw [Mp.set_same] at e2; cases e2; exact hblt
                              · rw [Mp.set_ne hcn] at e2; exact hS.lt c2 r2 s2 e2
                            · rw [ah_new_get] at g2
                              by_cases hcn : c2 = σ.next
                              · subst hcn
                                rw [Mp.set_same] at e2; cases e2
                                simp at g2
                                subst g2
                                refine ⟨hB, ?_⟩
                                rw [hrow]
                                refine ⟨_, rfl, ?_, ?_, fun q => (by cases q), fun j u hj => ?_⟩
                                · simp; omega
                                · rw [(row_app_n new c).1, hln2, ← hln, ← hcs', ← Nat.add_mul]; exact Nat.mul_le_mul_right _ hroom
                                · rw [row_app_get new c hcd] at hj
                                  by_cases hin : c.n ≤ j ∧ j < c.n + new.length
                                  · rw [if_pos hin] at hj
                                    obtain ⟨y2, hy2, hr2⟩ := hl.get hj
                                    refine ⟨by rw [(row_app_n new c).1]; omega, y2, ?_, hr2.mono hle⟩
                                    simp only [List.getElem?_toArray]
                                    rw [List.append_assoc, List.getElem?_append_right (by simp; omega), List.getElem?_append_left (by simp; have := hl.1; omega)]
                                    have : j - (c0.toList.take (l0 * (zz + 1))).length = j - c.n := by simp; omega
                                    rw [this]; exact hy2
                                  · rw [if_neg hin] at hj
                                    obtain ⟨hjn, u', hu1, hu2⟩ := hv0 j u hj
                                    refine ⟨by rw [(row_app_n new c).1]; omega, u', ?_, hu2.mono hle⟩
                                    simp only [List.getElem?_toArray]
                                    rw [List.append_assoc, List.getElem?_append_left (by simp; omega), List.getElem?_take, if_pos (by omega)]
                                    simpa using hu1
                              · rw [Mp.set_ne hcn] at e2
                                rw [if_neg (by simpa using hcn)] at g2
                                have hr2 : r2 ≠ b' := fun q => by subst q; rw [hgone c2 s2 e2] at g2; cases g2
                                obtain ⟨k1, k2⟩ := hSk.obj c2 r2 s2 y e2 g2
                                exact ⟨k1, by rw [setRow_other w b' r2 _ hr2]; exact k2.mono hle⟩
                            · rw [ah_new_get, ah_new_get]
                              by_cases hb1 : b1 = σ.next
                              · subst hb1
                                rw [Mp.set_same] at e1; cases e1
                                rw [Mp.set_ne (Ne.symm hne2)] at e2
                                right
                                rw [if_neg (by simpa using Ne.symm hne2)]
                                exact hgone b2 s2 e2
                              · rw [Mp.set_ne hb1] at e1
                                rw [if_neg (by simpa using hb1)]
                                by_cases hb2 : b2 = σ.next
                                · subst hb2
                                  rw [Mp.set_same] at e2; cases e2
                                  left
                                  exact hgone b1 s1 e1
                                · rw [Mp.set_ne hb2] at e2
                                  rw [if_neg (by simpa using hb2)]
                                  exact hSk.inj b1 b2 r2 s1 s2 e1 e2 hne2
                            · exact ⟨hS.below.os, hS.below.tape, hS.below.output, by rw [setRow_size]; exact hS.below.size, fun k hk => by rw [setRow_other w b' k _ (by omega)]; exact hS.below.block k hk⟩
                            · rw [setRow_size]; exact hS.base
                        · -- elsewhere; the old one is not looked at again
                          have hneed : l0 + kx ≤ 1065537 := by omega
                          have hfit : Builtin.nextslicecap (l0 + kx) c' * ei.bytes ≤ 281474976710656 := by
                            have := nextslicecap_le (need := l0 + kx) (old := c') (by omega)
                            have : Builtin.nextslicecap (l0 + kx) c' * ei.bytes ≤ (2 * 1065537) * 65536 := Nat.mul_le_mul (by omega) heby
                            omega
                          have holen : (c0.toList.take (l0 * (zz + 1))).length = l0 * (zz + 1) := by simp; omega
                          have hr := run_append_grow (P := E.P) w t ty e ei zv hT.und hTe.info hzv1 ⟨b', 0, none⟩ l0 c' (c0.toList.take (l0 * (zz + 1))) (by rw [hesz]; exact holen) (fun j u hj => by
                            rw [addr_add, Nat.zero_add]
                            rw [List.getElem?_take] at hj
                            split at hj
                            · simp [World.cell?, hc0]; simpa using hj
                            · cases hj) ad kx cx l' hll' hc (by omega) (by omega) hfit
                          obtain ⟨cap, hcap⟩ : ∃ cap, cap = grownCap w (l0 + kx) c' e := ⟨_, rfl⟩
                          have hcap2 : l0 + kx ≤ cap := by rw [hcap]; exact Nat.le_add_right _ _
                          rw [← hcap] at hr
                          obtain ⟨cs, hcsd⟩ : ∃ cs, cs = (c0.toList.take (l0 * (zz + 1))).toArray ++ l'.toArray ++ Builtin.zeroCells zv.cells (cap - (l0 + kx)) := ⟨_, rfl⟩
                          rw [← hcsd] at hr
                          have hsz : cs.size = cap * (zz + 1) := by
                            rw [hcsd]
                            simp only [Array.size_append, size_zeroCells, List.size_toArray, holen, hll, hzcs]
                            rw [← Nat.add_mul, ← Nat.add_mul]; congr 1; omega
                          refine ⟨R.set σ.next (w.heap.size, cs.size), _, _, ?_, .slU _ 0 _ _ (l0 + kx) _ cap (Mp.set_same R _ _) (by omega) (by rw [hsz]; rfl) hcap2, ?_, hr⟩
                          · have e1 := Ext.put R σ hb none
                            have e2 : Ext R (σ.put b none) (R.set σ.next (w.heap.size, cs.size)) ((σ.put b none).new (.cells (c.app new) e false)) := Ext.new (hS.kill b) _ _
                            exact e1.trans e2
                          · refine ((hS.kill b).world (w' := w.drew) rfl rfl rfl rfl).new (x := .cells (c.app new) e false) (o := .cells cs e) (s := cs.size) ⟨cs, rfl, rfl, ?_, fun q => (by cases q), fun j u hj => ?_⟩
                            · rw [(row_app_n new c).1, hln2, ← hln, hsz, ← Nat.add_mul]; exact Nat.mul_le_mul_right _ hcap2
                            · rw [row_app_get new c hcd] at hj
                              have hl2 : new.length = l'.length := hl.1
                              by_cases hin : c.n ≤ j ∧ j < c.n + new.length
                              · rw [if_pos hin] at hj
                                obtain ⟨y2, hy2, hr2⟩ := hl.get hj
                                refine ⟨by rw [(row_app_n new c).1]; omega, y2, ?_, hr2⟩
                                rw [hcsd, Array.getElem?_append_left (by simp; omega), Array.getElem?_append_right (by simp; omega)]
                                have : j - (c0.toList.take (l0 * (zz + 1))).toArray.size = j - c.n := by simp; omega
                                rw [this]; simpa using hy2
                              · rw [if_neg hin] at hj
                                obtain ⟨hjn, u', hu1, hu2⟩ := hv0 j u hj
                                refine ⟨by rw [(row_app_n new c).1]; omega, u', ?_, hu2⟩
                                rw [hcsd, Array.getElem?_append_left (by simp; omega), Array.getElem?_append_left (by simp; omega)]
                                simp only [List.getElem?_toArray]
                                rw [List.getElem?_take, if_pos (by omega)]
                                simpa using hu1
                    · cases h
          · rename_i k
            cases hsv with
            | flat v h => simp [flatA] at h
            | slK b o b' s n z cc hb hz hnc =>
              split at h
              · rename_i q
                rw [bleN] at q
                have q := of_decide_eq_true q
                have q : l0 + kx ≤ k := q
                exact inPlace b o (some (k + 2)) l0 b' s k c e' full hb hg rfl q (.slK b o b' s (l0 + kx) _ k hb hz q) h
              · rename_i q
                rw [bleN] at q
                have q := of_decide_eq_false q
                have q : ¬ (l0 + kx ≤ k) := q
                exact grownE b o l0 b' s k c e' full hb hg rfl (by omega) d2 h
          · cases h
        · cases h
      · cases h
  · cases h
end
end Rk
end Go.Proofs.YtkdcfijebgeajaaGreat

namespace Go.Proofs.YtkdcfijebgeajaaGreat
namespace Rk
open Go.RowKit
set_option linter.unusedVariables false
set_option linter.unusedSimpArgs false
set_option linter.unusedSectionVars false
section
variable {E : Env} (hE : EnvOk E) {B : Nat} {w0 : World} {R : Mp} {σ : AH} {w : World} (hS : Sim B w0 R σ w)
include hE hS
omit hE hS in
theorem slE_eq {ts : List TypeId} {p : TypeId × Ti} (h : slE E ts = some p) : ∃ t r i, ts = t :: r ∧ E.ty t = some i ∧ i.ds = .sl p.1 ∧ E.ty p.1 = some p.2 := by
  unfold slE at h
  split at h
  · rename_i t r
    split at h
    · rename_i i hi
      split at h
      · rename_i e hds
        split at h
        · rename_i ie hie
          cases h
          exact ⟨t, r, i, rfl, hi, hds, hie⟩
        · cases h
      · cases h
    · cases h
  · cases h
omit hE hS in
theorem run_append_zero {P : Program} {w : World} {t ty e : TypeId} {i : TypeInfo} (ht : P.underlying t = some (.slice e)) (hi : P.info? e = some i) (base a : Option Addr) (l c cx : Nat) (hlc : l ≤ c) :
    (Builtin.append_ #[t, t] ty #[.slice base l c, .slice a 0 cx]).run P w = .ok (.slice base l c) w := by
  have hl : ∀ (x : Addr), (loadCells x 0).run P w = .ok #[] w := fun x => by simpa using run_loadCells_list (P := P) w x [] (by simp)
  cases base <;> cases a <;> simp [Builtin.append_, run_und w ht, Result.andThen, run_size w hi, Builtin.lenOf, hlc, Builtin.firstCells, hl, storeCells]
theorem app_sound {ty : TypeId} {ts : Array TypeId} {s x s' x' v : Value} {σ' : AH} (hs : VR R s s') (hx : VR R x x') (h : evApp E σ ts.toList s x = some (v, σ')) :
    ∃ R' v' w', Ext R σ R' σ' ∧ VR R' v v' ∧ Sim B w0 R' σ' w' ∧ (Builtin.append_ ts ty #[s', x']).run E.P w = .ok v' w' := by
  unfold evApp at h
  split at h
  · rename_i t t' hts
    have hts' : ts = #[t, t'] := by apply Array.ext'; simpa using hts
    subst hts'
    split at h
    · rename_i p hp
      obtain ⟨t0, r0, i, ht0, hi, hds, hie⟩ := slE_eq hp
      cases ht0
      obtain ⟨e, ie⟩ := p
      simp only at hds hie h
      obtain ⟨ii, d, hT⟩ := hE.is hi
      obtain ⟨ei, ed, hTe⟩ := hE.is hie
      have hd := hT.sl hds
      subst hd
      split at h
      · rename_i z zv hz hzv
        split at h
        · rename_i c1 c2
          rw [beqN, lenL_eq] at c1
          rw [bleN] at c2
          have c1 := of_decide_eq_true c1
          have c2 := of_decide_eq_true c2
          split at h
          · rename_i htt
            rw [beqN] at htt
            have htt := of_decide_eq_true htt
            subst htt
            split at h
            · rename_i xa n xc
              split at h
              · split at h
                · rename_i sa sl sc
                  cases h
                  have e2 : ∃ a c, x' = .slice a 0 c := by cases hx <;> exact ⟨_, _, rfl⟩
                  obtain ⟨a, cx, rfl⟩ := e2
                  have e1 : ∃ a c, s' = .slice a sl c ∧ sl ≤ c := by
                    cases hs with
                    | flat v h => exact ⟨sa, sc, rfl, by cases sa <;> cases sl <;> cases sc <;> simp_all [flatA]⟩
                    | slU b o b' s n z c' h hz hc hn => exact ⟨_, _, rfl, hn⟩
                    | slK b o b' s n z c h hz hn => exact ⟨_, _, rfl, hn⟩
                    | slE a c' => exact ⟨_, _, rfl, Nat.zero_le _⟩
                    | slZ a => exact ⟨_, _, rfl, Nat.le_refl _⟩
                  obtain ⟨a1, c0, rfl, hle⟩ := e1
                  exact ⟨R, _, w, Ext.refl R σ, hs, hS, run_append_zero hT.und hTe.info a1 a sl c0 cx hle⟩
                · cases h
              · rename_i n
                split at h
                · rename_i l hrow hn
                  rw [bleN] at hn
                  have hn := of_decide_eq_true hn
                  obtain ⟨l', ad, k, c, rfl, q1, q2, q3, q4, q5, q6⟩ := rowOf_sound hE hS hx (fun ad k c e => by cases e; exact Nat.le_refl _) (Nat.succ_pos n) hrow
                  have hk : k = n + 1 := by
                    cases hx with
                    | flat v h => simp [flatA] at h
                    | slU b o b' s n z c' h hz hc hn => rfl
                    | slK b o b' s n z c h hz hn => rfl
                  exact append_sound hE hS hi hds hie hz (by omega) hzv c1 c2 (Nat.succ_pos n) (by omega) hs rfl hk q3 q4 q5 q6 h
                · cases h
            · cases h
          · rename_i htt
            split at h
            · rename_i i' hi'
              obtain ⟨ii', d', hT'⟩ := hE.is hi'
              split at h
              · rename_i kx n hit
                obtain ⟨kk, rfl⟩ := hT'.it hit
                split at h
                · rename_i hn
                  rw [bleN] at hn
                  have hn := of_decide_eq_true hn
                  obtain ⟨hzv1, hzv2⟩ := hTe.zero hzv
                  have := vr_flatA hs rfl
                  subst this
                  have := vr_int hx
                  subst this
                  have hzcs : zv.cells.size = z + 1 := by rw [← c1, cellsL_eq]; simp
                  have hesz : ei.size = z + 1 := by rw [hTe.size, hz]
                  have heby : ei.bytes ≤ 65536 := by rw [hTe.eq] at c2; exact c2
                  have h48 : (n + 1) * ei.bytes ≤ 281474976710656 := by
                    have : (n + 1) * ei.bytes ≤ 65537 * 65536 := Nat.mul_le_mul (by omega) heby
                    omega
                  have hr := Lib.run_append_nil_zeros (P := E.P) w t t' ty e ei zv kx kk hT.und hT'.und hTe.info hzv1 (n + 1) (by omega) (by omega) (by omega) h48
                  unfold evNew at h
                  rw [row_ext, ah_newK] at h
                  cases h
                  have hlen : (rept (cellsL zv) (n + 1)).length = (n + 1) * (z + 1) := by rw [(rept_eq _ _).1, c1]
                  have hzz : (Builtin.zeroCells zv.cells (n + 1)) = (rept (cellsL zv) (n + 1)).toArray := by
                    apply Array.ext'
                    have := zero_cells_eq (n := n + 1) c1
                    rw [← this]
                    simp [Builtin.zeroCells, hzcs]
                  rw [hzz] at hr
                  obtain ⟨R', w', k1, k2, k3, k4⟩ := grown_sound hE hS (i := ei) (e := e) (rept_flat (R := R) hzv2 (n + 1)) (by omega) hlen hzcs (grownCap w (n + 1) 0 e) (Nat.le_add_right _ _) w.drew rfl rfl rfl rfl _ rfl
                  refine ⟨R', _, w', k2, k3, k4, ?_⟩
                  rw [k1]; exact hr
                · cases h
              · cases h
            · cases h
        · cases h
      · cases h
    · cases h
  · cases h
omit hS in
theorem run_copy_gen {ty t e : TypeId} {ts : Array TypeId} {ei : TypeInfo} (h0 : ts[0]? = some t) (ht : E.P.underlying t = some (.slice e)) (hi : E.P.info? e = some ei) (d : Addr) (dn dc : Nat) (a : Addr) (sn sc : Nat) (cs : List Value) (hl : cs.length = Nat.min sn dn * ei.size)
    (hc : ∀ (j : Nat) (v : Value), cs[j]? = some v → w.cell? (a.add j) = some v) {w' : World} (hst : (storeCells d cs).run E.P w = .ok () w') :
    (Builtin.copy_ ts ty #[.slice (some d) dn dc, .slice (some a) sn sc]).run E.P w = .ok (.int .i64 (Nat.min sn dn : Nat)) w' := by
  have hf := run_firstCells_some (P := E.P) w ei.size (Nat.min sn dn) a sn sc cs hl hc
  simp [Builtin.copy_, h0, run_und w ht, Result.andThen, run_size w hi, Builtin.lenOf, hf, hst, goInt]
theorem copy_sound {ty : TypeId} {ts : Array TypeId} {d s d' s' v : Value} {σ' : AH} (hd : VR R d d') (hs : VR R s s') (h : evCopy E σ ts.toList d s = some (v, σ')) :
    ∃ R' v' w', Ext R σ R' σ' ∧ VR R' v v' ∧ Sim B w0 R' σ' w' ∧ (Builtin.copy_ ts ty #[d', s']).run E.P w = .ok v' w' := by
  unfold evCopy at h
  split at h
  · rename_i p da dn dz sa sn sz hp
    obtain ⟨t0, r0, i, ht0, hi, hds, hie⟩ := slE_eq hp
    obtain ⟨e, ie⟩ := p
    simp only at hds hie h
    obtain ⟨ii, dd, hT⟩ := hE.is hi
    obtain ⟨ei, ed, hTe⟩ := hE.is hie
    have hdd := hT.sl hds
    subst hdd
    have h0 : ts[0]? = some t0 := by
      have := congrArg (fun l => l[0]?) ht0
      simpa using this
    have e1 : ∃ a c, d' = .slice a dn c := by cases hd <;> exact ⟨_, _, rfl⟩
    have e2 : ∃ a c, s' = .slice a sn c := by cases hs <;> exact ⟨_, _, rfl⟩
    split at h
    · rename_i hmin
      cases h
      obtain ⟨a1, c1, rfl⟩ := e1
      obtain ⟨a2, c2, rfl⟩ := e2
      refine ⟨R, _, w, Ext.refl R σ, .flat _ rfl, hS, ?_⟩
      have hl : ∀ (x : Addr), (loadCells x 0).run E.P w = .ok #[] w := fun x => by simpa using run_loadCells_list (P := E.P) w x [] (by simp)
      have hmin : Nat.min sn dn = 0 := hmin
      cases a1 <;> cases a2 <;> simp [Builtin.copy_, h0, run_und w hT.und, Result.andThen, run_size w hTe.info, Builtin.lenOf, hmin, Builtin.firstCells, hl, storeCells, goInt]
    · rename_i n hmin
      have hmin : Nat.min sn dn = n + 1 := hmin
      split at h
      · rename_i l a hrow
        split at h
        · rename_i c e' full z hg hz
          obtain ⟨l', ad, k, cx, rfl, q1, q2, q3, q4, q5, q6⟩ := rowOf_sound hE hS hs (fun ad k c e => by cases e; have := Nat.min_le_left sn dn; have : min sn dn = n + 1 := hmin; omega) (Nat.succ_pos n) hrow
          obtain ⟨a2, c2, e2⟩ := e2
          cases e2
          have hdn : 0 < dn := by have : min sn dn = n + 1 := hmin; have := Nat.min_le_right sn dn; omega
          obtain ⟨b', s0, c', hb, rfl, hc1, hc2⟩ := vr_slice hd hdn
          have h2 := row_putL_eq _ _ _ _ _ h
          rw [ah_putK] at h2
          cases h2
          rcases row_putL _ _ _ _ _ h with hfit | hnil
          · obtain ⟨w', k1, k2⟩ := write_sound hE hS hb hg q3 q4 hfit
            refine ⟨R, _, w', Ext.put R σ hb _, .flat _ rfl, k2, ?_⟩
            have hsz : ei.size = z + 1 := by rw [hTe.size, hz]
            have := run_copy_gen hE (ty := ty) h0 hT.und hTe.info ⟨b', a.off, none⟩ dn c' ad sn cx l' (by rw [hmin, hsz]; rw [q5, hz]) q6 k1
            rw [hmin] at this
            exact this
          · rw [hnil] at q3
            have := q3.unnil
            rw [this, hz] at q5
            have := Nat.mul_pos (Nat.succ_pos n) (Nat.succ_pos z)
            simp at q5
        · cases h
      · cases h
  · cases h
theorem clear_sound {ty : TypeId} {ts : Array TypeId} {d d' v : Value} {σ' : AH} (hd : VR R d d') (h : evClear E σ ts.toList d = some (v, σ')) :
    ∃ R' v' w', Ext R σ R' σ' ∧ VR R' v v' ∧ Sim B w0 R' σ' w' ∧ (Builtin.clear_ ts ty #[d']).run E.P w = .ok v' w' := by
  unfold evClear at h
  split at h
  · rename_i p a n dz hp
    obtain ⟨t0, r0, i, ht0, hi, hds, hie⟩ := slE_eq hp
    obtain ⟨e, ie⟩ := p
    simp only at hds hie h
    obtain ⟨ii, dd, hT⟩ := hE.is hi
    obtain ⟨ei, ed, hTe⟩ := hE.is hie
    have hdd := hT.sl hds
    subst hdd
    have h0 : ts[0]? = some t0 := by
      have := congrArg (fun l => l[0]?) ht0
      simpa using this
    split at h
    · rename_i zv c e' full hzv hg
      split at h
      · rename_i z c1 c2 hz
        rw [beqN, lenL_eq, hz] at c1
        have c1 := of_decide_eq_true c1
        obtain ⟨hzv1, hzv2⟩ := hTe.zero hzv
        obtain ⟨b', s0, c', hb, rfl, hc1, hc2⟩ := vr_slice hd (Nat.succ_pos n)
        have h2 := row_putL_eq _ _ _ _ _ h
        rw [ah_putK] at h2
        cases h2
        have hzcs : zv.cells.size = z + 1 := by rw [cellsL_eq] at c1; simpa using c1
        have hzz : (Builtin.zeroCells zv.cells (n + 1)).toList = rept (cellsL zv) (n + 1) := by
          have := zero_cells_eq (n := n + 1) c1
          rw [← this]
          simp [Builtin.zeroCells, hzcs]
        rcases row_putL _ _ _ _ _ h with hfit | hnil
        · obtain ⟨w', k1, k2⟩ := write_sound hE hS hb hg (rept_flat (R := R) hzv2 (n + 1)) (rept_one c2 _) hfit
          refine ⟨R, undef, w', Ext.put R σ hb _, vr_undef R, k2, ?_⟩
          simp [Builtin.clear_, h0, run_und w hT.und, Result.andThen, run_zero w hTe.info hzv1, hzz, k1, undef]
        · have := congrArg List.length hnil
          rw [(rept_eq _ _).1, c1] at this
          have := Nat.mul_pos (Nat.succ_pos n) (Nat.succ_pos z)
          simp at *
      · cases h
    · cases h
  · cases h
end
end Rk
end Go.Proofs.YtkdcfijebgeajaaGreat
