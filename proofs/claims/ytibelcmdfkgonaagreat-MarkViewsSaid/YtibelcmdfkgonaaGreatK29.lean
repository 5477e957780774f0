/- Layer 20 (view): a list's way, an iterator that marks the slots met.
   Layer 20 (view): a list's last link; the way as an iterator's function.
   Layer 20 (view): a way as numbered links; the queue's and a list's flags, slot by slot from the front. No program here.
   Layer 20 (view): a reader under way within a function that keeps boxes of its own. No walk here. -/
import Derived.Test.YtibelcmdfkgonaaGreatK28
import Derived.Test.YtibelcmdfkgonaaGreatK15
import Derived.Maps.OwnIn
import Derived.Sort.QuietTacIn
import Derived.Test.YtibelcmdfkgonaaGreatK16
import Derived.Test.YtibelcmdfkgonaaGreatK6
namespace Go.Proofs.YtibelcmdfkgonaaGreat
open Go.RowKit Go.BigFrame
set_option linter.unusedVariables false
set_option linter.unusedSimpArgs false
theorem wpListIn_update_im {F : Fence} {nF : Nat} {P : Program} {t k e : TypeId} (ht : P.underlying t = some (.map k e)) (hk : P.underlying k = some (.int .i64)) (w : World) {ops : Array Oper} {rest : List Oper} {o : Oper} {a : Act} {Q : Exit → Act → World → Prop}
    (hg : o.guard = none) (m x v : Operand) (hop : o.op = Op.mapUpdate t m x v) (b : Nat) (f : Int → Option Value)
    (hm : a.eval m = .map (some b)) (h : IMap w b f) (key : Int) (val : Value) (hx : a.eval x = .int .i64 key) (hv : a.eval v = val)
    (hK : ∀ w', IMap w' b (fun y => if y = key then some val else f y) → w.grownBy w' (some b) → wpListIn F nF P ops Q rest (a.put o.dst undef) w') :
    wpListIn F nF P ops Q (o :: rest) a w := by
  refine wpListIn_plain hg fun K' hK' => ?_
  obtain ⟨w', hrun, r1, r2⟩ := h.update ht hk key val
  unfold Oper.wpIn
  refine ⟨by simp [Oper.about, hop], ?_⟩
  rw [Oper.semAt_plain F _ _ (by rw [hop]; intro c hc'; cases hc')]
  simp [execOp, hop, hm, hx, hv, hrun, Result.andThen]
  exact hK' _ _ (hK w' r1 r2)
theorem zero4 (w : World) : (zeroValue 4).run Tryz.prog w = .ok (.bool false) w := by kernel_rfl
theorem metF_put (m : Nat → Bool) (s : Nat) : (fun y : Int => if y = (s : Int) then some (Value.bool true) else metF m y) = metF (addMet m s) := by
  funext y
  unfold metF addMet
  by_cases h : y = (s : Int)
  · subst h; simp
  · rw [if_neg h]
    by_cases h0 : 0 ≤ y
    · have : y.toNat ≠ s := by omega
      simp [h0, this]
    · simp [h0]
theorem metF_get (m : Nat → Bool) (s : Nat) : (metF m (s : Int)).getD (.bool false) = .bool (m s) := by
  unfold metF
  by_cases h : m s = true <;> simp [h]
set_option maxRecDepth 100000 in
theorem iter231 (K : Rd) (T b2 b3 a N : Nat) (xs pn : Nat → Nat) (ms : Nat → Nat → Bool) (hT : (T : Int) = K.v.th) (ha : a < K.n ∧ K.f a = xs 0) (hxs : ∀ k, xs k < 18446744073709551616)
    (hgo : ∀ k, k < N → rightL K.S T (xs k) ∧ lo (xs k) ≠ 0 ∧ ms k (lo (xs k) - 1) = false ∧ ms (k + 1) = addMet (ms k) (lo (xs k) - 1))
    (hnx : ∀ k, k < N → K.v.slot ((lo (xs k) : Int) - 1) 3 = (pn k : Int) ∧ pn k < K.n ∧ K.f (pn k) = xs (k + 1))
    (hend : ¬ (rightL K.S T (xs N) ∧ lo (xs N) ≠ 0 ∧ ms N (lo (xs N) - 1) = false)) (J J' : Nat → World → Prop)
    (stJ : ∀ k W W', Below W.heap.size W W' → J k W → J k W') (stJ' : ∀ k W W', Below W.heap.size W W' → J' k W → J' k W')
    (hJ : ∀ k W, J k W → W.cell? ⟨b2, 0, none⟩ = some (.pointer (some ⟨K.r, 0, none⟩)) ∧ W.cell? ⟨b3, 0, none⟩ = some (.int .i64 (a : Int)) ∧ ∃ pv ps, RdAt W { K with pv := pv } (ms k) ps)
    (hJ' : ∀ k W, J' k W → W.cell? ⟨b2, 0, none⟩ = some (.pointer (some ⟨K.r, 0, none⟩)) ∧ W.cell? ⟨b3, 0, none⟩ = some (.int .i64 (a : Int)) ∧ ∃ pv ps, RdAt W { K with pv := pv } (ms (k + 1)) ps)
    (hN : ∀ k W W', k < N → J k W → IMap W' K.mb (metF (ms (k + 1))) → W.grownBy W' (some K.mb) → J' k W')
    (l : Nat) (R : World → Prop) (hR : ∀ W W', StaysL W W' → R W → R W')
    (hY : ∀ k W, k < N → J' k W → R W → YieldAt Fence.wide 7 Tryz.prog l #[.int .i64 ((lo (xs k) : Int) - 1), .int .u64 (xs (k + 1) : Int)] W fun e W' => e = .returned (.bool true) ∧ J (k + 1) W' ∧ R W') (W : World) (h0 : J 0 W) (r0 : R W) :
    CallsIn Fence.wide 8 Tryz.prog 231 #[.func (.yield l) #[] #[], .pointer (some ⟨b2, 0, none⟩), .pointer (some ⟨b3, 0, none⟩)] W fun e W' => (∃ v, e = .returned v) ∧ J N W' ∧ R W' := by
  have HJ := Lib.hid hJ
  have HJ' := Lib.hid hJ'
  have HY := Lib.hid hY
  have HB : Hid (∀ k W W', Below W.heap.size W W' → J k W → R W → J k W' ∧ R W') := Lib.hid fun k W W' hb h1 h2 => ⟨stJ k W W' hb h1, hR W W' (staysL_below hb) h2⟩
  have HB' : Hid (∀ k W W', Below W.heap.size W W' → J' k W → R W → J' k W' ∧ R W') := Lib.hid fun k W W' hb h1 h2 => ⟨stJ' k W W' hb h1, hR W W' (staysL_below hb) h2⟩
  have HTO : Hid (∀ k w, Calls Tryz.prog 136 #[.int .u64 (xs k : Int)] w (Gives (.int .i64 ((lo (xs k) : Int) - 1)) w)) := Lib.hid fun k w => by rw [← to_lo]; exact to136 _ (by unfold U64; have := hxs k; omega) w
  have HRI : Hid (∀ k w, J k w → Calls Tryz.prog 230 #[.pointer (some ⟨K.r, 0, none⟩), .int .u64 (xs k : Int)] w (Gives (.bool (decide (rightL K.S T (xs k)))) w)) := Lib.hid fun k w h => by
    obtain ⟨-, -, pv, ps, h⟩ := hJ k w h
    exact right230 { K with pv := pv } (ms k) ps (xs k) T (hxs k) hT w h
  have HGO := Lib.hid hgo
  have HNX := Lib.hid hnx
  have HEND := Lib.hid hend
  have HST := Lib.hid hN
  have HRR := Lib.hid hR
  have HA := Lib.hid ha
  have HF : Hid (∀ W pv m ps, RdAt W { K with pv := pv } m ps → W.cell? ⟨K.r, 0, none⟩ = some (.pointer (some ⟨K.l, 0, none⟩)) ∧ W.cell? ⟨K.r, 1, none⟩ = some (.slice (some ⟨K.wb, 0, none⟩) K.n K.cw) ∧ W.cell? ⟨K.r, 2, none⟩ = some (.map (some K.mb)) ∧ LayAt W K.l K.v ∧ (∀ s : Nat, (Instr.lookup 157 (.map (some K.mb)) (.int .i64 (s : Int)) false).run Tryz.prog W = .ok (.bool (m s)) W) ∧ (∀ p, p < K.n → W.cell? ⟨K.wb, p, none⟩ = some (.int .u64 (K.f p : Int)))) := Lib.hid fun W pv m ps h =>
    ⟨cell_row h.row 0 _ rfl, cell_row h.row 1 _ rfl, cell_row h.row 2 _ rfl, h.lay, fun s => by
      have := h.met.lookup1 (P := Tryz.prog) Tryz.underlying157 Tryz.underlying3 (zero4 W) (s : Int)
      rwa [metF_get] at this, fun p hp => h.words.cell hp⟩
  have HNE : Hid (∀ w h, Calls Tryz.prog 79 #[.pointer (some ⟨K.l, 0, none⟩), .int .i64 h] w (Drew (.int .i64 (K.v.slot h 3)) w) ∨ ¬ LayAt w K.l K.v) := Lib.hid fun w s => by
    by_cases hl : LayAt w K.l K.v
    · exact .inl (next79 K.l K.v s w hl)
    · exact .inr hl
  have H0 := Lib.hid (And.intro h0 r0)
  obtain ⟨q2, q3, pv, ps, hr⟩ := hJ 0 W h0
  obtain ⟨c0, c1, c2, hlay, -, hw⟩ := HF.out W pv _ ps hr
  have cw := hw a ha.1
  rw [ha.2] at cw
  have i0 : (0 : Int) ≤ (a : Int) := by omega
  have i1 : (a : Int) < (K.n : Int) := by have := ha.1; omega
  clear hJ hJ' hY stJ stJ' hN hR h0 r0 hr hw ha hxs hgo hnx hend hT hlay pv ps
  generalize K.r = y at *
  generalize K.wb = wb at *
  generalize K.n = n at *
  generalize K.cw = kcw at *
  generalize K.l = ly at *
  refine callsIn_of_wp Tryz.func231 rfl trivial ?_ rfl
  simp only [Tryz.ntmps231, List.size_toArray, List.length_cons, List.length_nil, Nat.reduceAdd, Nat.reduceSub, Array.replicate_succ, Array.replicate_zero, List.push_toArray, List.append_toArray, List.nil_append, List.cons_append]
  gi_wp2
  gi_quiet_th (fail)
  have H1 := Lib.hid (HB.out 0 W (W.drewN nq) (drewN_below (Below.refl _ _) nq) H0.out.1 H0.out.2)
  clear q2 q3 c0 c1 c2 cw i0 i1
  gi_wp2_with (first | (refine ⟨trivial, ?_⟩; gi_at_call 136; refine (callsIn_wide.2 (HTO.out 0 _)).mono ?_; rintro e w2 ⟨rfl, hb⟩; have H2 := Lib.hid (HB.out 0 _ w2 hb H1.out.1 H1.out.2); clear hb))
  gi_loopg [4, 5] N (fun g u4 u5 wr => ∃ k : Nat, k + g = N ∧ u4 = .int .u64 (xs k : Int) ∧ u5 = .int .i64 ((lo (xs k) : Int) - 1) ∧ Hid (J k wr ∧ R wr))
  case atStart => exact ⟨0, by omega, rfl, rfl, H2⟩
  case round =>
    obtain ⟨k, hk, rfl, rfl, HK⟩ := hrel
    have HRk := Lib.hid (HRI.out k wr HK.out.1)
    obtain ⟨q2, q3, pv, ps, hr⟩ := HJ.out k wr HK.out.1
    have HKN := Lib.hid hk
    clear hk hr
    by_cases hlt : k < N
    · obtain ⟨g1, g2, g3, g4⟩ := HGO.out k hlt
      obtain ⟨s, hs⟩ : ∃ s, lo (xs k) = s + 1 := ⟨lo (xs k) - 1, by omega⟩
      have es : ((lo (xs k) : Int) - 1) = (s : Int) := by omega
      have es2 : lo (xs k) - 1 = s := by omega
      rw [es2] at g3 g4
      have HYk := HY.out k
      rw [es] at HYk ⊢
      have HYK := Lib.hid (fun W => HYk W hlt)
      have HNk := HNX.out k hlt
      rw [es] at HNk
      have HNK := Lib.hid HNk
      have HG4 := Lib.hid g4
      have HLT := Lib.hid hlt
      rw [show decide (rightL K.S T (xs k)) = true from bool_yes g1] at HRk
      have d1 : ((s : Int) == -1) = false := by rw [beq_eq_false_iff_ne]; omega
      have d2 : ((s : Int) != -1) = true := by simp [bne, d1]
      clear HYk HNk g1 g2 g4 hs es es2 hlt
      generalize xs k = x at *
      gi_wp2_with (first | (refine ⟨trivial, ?_⟩; gi_at_call 230; refine (callsIn_wide.2 HRk.out).mono ?_; rintro e w3 ⟨rfl, hb⟩; have H3 := Lib.hid (HB.out k wr w3 hb HK.out.1 HK.out.2); clear hb q2 q3; obtain ⟨q2, q3, pv, ps, hr⟩ := HJ.out k w3 H3.out.1; have HIM := Lib.hid hr.met; obtain ⟨c0, c1, c2, -, hlk, -⟩ := HF.out w3 pv _ ps hr; have hl := hlk s; rw [g3] at hl; clear hr hlk) | (gi_at_mapUpdate; refine wpListIn_update_im Tryz.underlying157 Tryz.underlying3 _ rfl _ _ _ rfl K.mb (metF (ms k)) rfl HIM.out s (.bool true) rfl rfl ?_; intro w4 him hgr; have HI4 := Lib.hid him; have HG4' := Lib.hid hgr; clear him hgr))
      have HJ4 : Hid (J' k w4 ∧ R w4) := Lib.hid ⟨HST.out k w3 w4 HLT.out H3.out.1 (by have := HI4.out; rw [metF_put, ← HG4.out] at this; exact this) HG4'.out, HRR.out w3 w4 (fun q o hq hw => (HG4'.out.block q (Array.getElem?_eq_some_iff.1 hq).1 (fun e => by
        cases e
        obtain ⟨l', c, hb, _⟩ := HIM.out
        rw [hb] at hq; cases hq
        rcases hw with ⟨r, e⟩ | ⟨r, e⟩ <;> cases e)).trans hq) H3.out.2⟩
      clear q2 q3 c0 c1 c2 hl HIM HI4 HG4' H3 HRk g3 pv ps
      obtain ⟨q2, q3, pv, ps, hr⟩ := HJ'.out k w4 HJ4.out.1
      obtain ⟨c0, c1, -, hlay, -, hw⟩ := HF.out w4 pv _ ps hr
      have cw := hw (pn k) HNK.out.2.1
      rw [HNK.out.2.2] at cw
      have HL4 := Lib.hid hlay
      have HN79 : Hid (∀ w', LayAt w' ly K.v → Calls Tryz.prog 79 #[.pointer (some ⟨ly, 0, none⟩), .int .i64 (s : Int)] w' (Drew (.int .i64 (pn k : Int)) w')) := Lib.hid fun w' h => by
        rcases HNE.out w' s with h2 | h2
        · rw [HNK.out.1] at h2; exact h2
        · exact absurd h h2
      have i0 : (0 : Int) ≤ (pn k : Int) := by omega
      have i1 : (pn k : Int) < (n : Int) := by have := HNK.out.2.1; omega
      clear hr hw hlay pv ps
      generalize pn k = p at *
      refine wpIn_region_quiet_lit rfl (by kernel_rfl) (by kernel_rfl) ?_
      repeat (refine wpQuietIn_step (by first | (go_simp; done) | (intros; trivial) | (unfold Oper.askedIn; intros; trivial)) (fun K hK => ?_); go_simp; first | (refine hK _ ?_; clear hK K) | (apply Exists.intro; refine ⟨fun _ => ?_, hK _ ?_⟩; (gi_at_call 79; exact CallsIn.quiet_of (callsIn_wide.2 (HN79.out _ (HL4.out.keep rfl)))); clear hK K))
      refine wpQuietIn_nil ?_
      intro _ hw'
      obtain ⟨nq, hw''⟩ := hw'
      subst hw''
      have H5 := Lib.hid (HB'.out k w4 (w4.drewN nq) (drewN_below (Below.refl _ _) _) HJ4.out.1 HJ4.out.2)
      obtain ⟨fn3, tmps3, assign3, body3, hy3, hR3⟩ := HYK.out _ H5.out.1 H5.out.2
      have HR3 := Lib.hid hR3
      clear hR3 q2 q3 c0 c1 cw i0 i1
      gi_wp2
      refine HR3.out.mono ?_
      rintro e W4 ⟨rfl, hj, hr⟩
      have H4 := Lib.hid (And.intro hj hr)
      clear hj hr hy3 HR3
      gi_wp2_with (first | (refine ⟨trivial, ?_⟩; gi_at_call 136; refine (callsIn_wide.2 (HTO.out (k + 1) _)).mono ?_; rintro e w6 ⟨rfl, hb⟩; have H6 := Lib.hid (HB.out (k + 1) _ w6 hb H4.out.1 H4.out.2); clear hb))
      go_roundg (gk - 1)
      case rel => exact ⟨k + 1, by have := HKN.out; have := HLT.out; omega, rfl, rfl, H6⟩
      case measure => have := HKN.out; have := HLT.out; omega
    · obtain rfl : k = N := by have := HKN.out; omega
      clear HNX HNE HGO HY HTO HST HB' HJ' H0 H1 H2 HA
      by_cases g1 : rightL K.S T (xs k)
      · rw [show decide (rightL K.S T (xs k)) = true from bool_yes g1] at HRk
        by_cases g2 : lo (xs k) = 0
        · have d1 : (((lo (xs k) : Int) - 1) == -1) = true := by rw [g2]; rfl
          have d2 : (((lo (xs k) : Int) - 1) != -1) = false := by simp [bne, d1]
          clear g1 g2 HEND
          generalize ((lo (xs k) : Int) - 1) = s at *
          generalize xs k = x at *
          gi_wp2_with (first | (refine ⟨trivial, ?_⟩; gi_at_call 230; refine (callsIn_wide.2 HRk.out).mono ?_; rintro e w3 ⟨rfl, hb⟩; have H3 := Lib.hid (HB.out k wr w3 hb HK.out.1 HK.out.2); clear hb q2 q3; obtain ⟨q2, q3, pv, ps, hr⟩ := HJ.out k w3 H3.out.1; obtain ⟨c0, c1, c2, -, hlk, -⟩ := HF.out w3 pv _ ps hr; clear hr hlk))
          go_end0
          exact ⟨⟨_, rfl⟩, H3.out.1, H3.out.2⟩
        · obtain ⟨s, hs⟩ : ∃ s, lo (xs k) = s + 1 := ⟨lo (xs k) - 1, by omega⟩
          have es : ((lo (xs k) : Int) - 1) = (s : Int) := by omega
          have g3 : ms k s = true := by
            cases hm : ms k s with
            | true => rfl
            | false => exact absurd ⟨g1, g2, by rw [show lo (xs k) - 1 = s by omega]; exact hm⟩ HEND.out
          rw [es]
          have d1 : ((s : Int) == -1) = false := by rw [beq_eq_false_iff_ne]; omega
          have d2 : ((s : Int) != -1) = true := by simp [bne, d1]
          clear g1 g2 hs es HEND
          generalize xs k = x at *
          gi_wp2_with (first | (refine ⟨trivial, ?_⟩; gi_at_call 230; refine (callsIn_wide.2 HRk.out).mono ?_; rintro e w3 ⟨rfl, hb⟩; have H3 := Lib.hid (HB.out k wr w3 hb HK.out.1 HK.out.2); clear hb q2 q3; obtain ⟨q2, q3, pv, ps, hr⟩ := HJ.out k w3 H3.out.1; obtain ⟨c0, c1, c2, -, hlk, -⟩ := HF.out w3 pv _ ps hr; have hl := hlk s; rw [g3] at hl; clear hr hlk))
          go_end0
          exact ⟨⟨_, rfl⟩, H3.out.1, H3.out.2⟩
      · rw [show decide (rightL K.S T (xs k)) = false from bool_no g1] at HRk
        clear g1 HEND
        generalize ((lo (xs k) : Int) - 1) = s at *
        generalize xs k = x at *
        gi_wp2_with (first | (refine ⟨trivial, ?_⟩; gi_at_call 230; refine (callsIn_wide.2 HRk.out).mono ?_; rintro e w3 ⟨rfl, hb⟩; have H3 := Lib.hid (HB.out k wr w3 hb HK.out.1 HK.out.2); clear hb q2 q3; obtain ⟨q2, q3, pv, ps, hr⟩ := HJ.out k w3 H3.out.1; obtain ⟨c0, c1, c2, -, hlk, -⟩ := HF.out w3 pv _ ps hr; clear hr hlk))
        go_end0
        exact ⟨⟨_, rfl⟩, H3.out.1, H3.out.2⟩
end Go.Proofs.YtibelcmdfkgonaaGreat

namespace Go.Proofs.YtibelcmdfkgonaaGreat
open Go.RowKit Go.BigFrame
set_option linter.unusedVariables false
set_option linter.unusedSimpArgs false
theorem to_eq (x : Nat) : (((lo x : Int) - 1) == -1) = decide (lo x = 0) := by
  by_cases h : lo x = 0
  · rw [bool_yes h, h]; rfl
  · rw [bool_no h, beq_eq_false_iff_ne]; omega
/-- whole: the last link of a list, read at a head or at a slot's line. -/
theorem whole145 (K : Rd) (m : Nat → Bool) (ps : List Place) (T p x : Nat) (a s : Int) (hp : p < K.n) (hx : K.f p = x) (hs : (if s = -1 then a else K.v.slot s 3) = (p : Int)) (hT : (T : Int) = K.v.th) (w : World) (h : RdAt w K m ps) :
    Calls Tryz.prog 145 #[.pointer (some ⟨K.r, 0, none⟩), .int .i64 a, .int .i64 s] w (Gives (.bool (wholeB K.S T x)) w) := by
  have hxb : x < 18446744073709551616 := by have := h.u64 p hp; omega
  have HR : Hid (∀ w', RdAt w' K m ps → Calls Tryz.prog 230 #[.pointer (some ⟨K.r, 0, none⟩), .int .u64 (x : Int)] w' (Gives (.bool (decide (rightL K.S T x))) w')) := Lib.hid fun w' h => right230 K m ps x T hxb hT w' h
  have HTO : Hid (∀ w, Calls Tryz.prog 136 #[.int .u64 (x : Int)] w (Gives (.int .i64 ((lo x : Int) - 1)) w)) := Lib.hid fun w => by rw [← to_lo]; exact to136 _ (by unfold U64; omega) w
  have HE := Lib.hid (to_eq x)
  have HH := Lib.hid h
  have c0 := cell_row h.row 0 _ rfl
  have c1 := cell_row h.row 1 _ rfl
  have cw := h.words.cell hp
  rw [hx] at cw
  have i0 : (0 : Int) ≤ (p : Int) := by omega
  have i1 : (p : Int) < (K.n : Int) := by omega
  have HNE := Lib.hid (next79 K.l K.v s w h.lay)
  clear h hxb hp hx hT
  unfold wholeB
  rw [← HE.out]
  generalize decide (rightL K.S T x) = r at *
  generalize ((lo x : Int) - 1) = t at *
  generalize K.r = y at *
  generalize K.wb = wb at *
  generalize K.n = n at *
  generalize K.cw = kcw at *
  generalize K.l = ly at *
  by_cases hs1 : s = -1
  · rw [if_pos hs1] at hs
    subst hs1
    subst hs
    have d1 : ((-1 : Int) != -1) = false := by decide
    have HB1 := Lib.hid (Below.refl w.heap.size w)
    clear HNE
    go_enter Tryz.func145, Tryz.ntmps145
    cases r
    · go_wp2_with fail
      refine (HR.out _ (HH.out.below (HB1.out))).mono ?_
      rintro e w2 ⟨rfl, hb⟩
      have H2 := Lib.hid (HB1.out.trans (hb.mono HB1.out.size))
      clear hb
      go_wp2_with fail
      go_ret
      exact ⟨rfl, H2.out⟩
    · go_wp2_with fail
      refine (HR.out _ (HH.out.below (HB1.out))).mono ?_
      rintro e w2 ⟨rfl, hb⟩
      have H2 := Lib.hid (HB1.out.trans (hb.mono HB1.out.size))
      clear hb
      go_wp2_with fail
      refine (HTO.out _).mono ?_
      rintro e w3 ⟨rfl, hb⟩
      have H3 := Lib.hid (H2.out.trans (hb.mono H2.out.size))
      clear hb
      go_wp2_with fail
      go_ret
      exact ⟨by simp, H3.out⟩
  · rw [if_neg hs1] at hs
    rw [hs] at HNE
    have d1 : (s != -1) = true := by simp [bne, hs1]
    have d2 : (s == -1) = false := by simp [hs1]
    clear hs hs1
    go_enter Tryz.func145, Tryz.ntmps145
    go_wp2_with fail
    refine HNE.out.mono ?_
    rintro e w1 ⟨rfl, nd, rfl⟩
    have HB1 := Lib.hid (drewN_below (Below.refl w.heap.size w) nd)
    cases r
    · go_wp2_with fail
      refine (HR.out _ (HH.out.below (HB1.out))).mono ?_
      rintro e w2 ⟨rfl, hb⟩
      have H2 := Lib.hid (HB1.out.trans (hb.mono HB1.out.size))
      clear hb
      go_wp2_with fail
      go_ret
      exact ⟨rfl, H2.out⟩
    · go_wp2_with fail
      refine (HR.out _ (HH.out.below (HB1.out))).mono ?_
      rintro e w2 ⟨rfl, hb⟩
      have H2 := Lib.hid (HB1.out.trans (hb.mono HB1.out.size))
      clear hb
      go_wp2_with fail
      refine (HTO.out _).mono ?_
      rintro e w3 ⟨rfl, hb⟩
      have H3 := Lib.hid (H2.out.trans (hb.mono H2.out.size))
      clear hb
      go_wp2_with fail
      go_ret
      exact ⟨by simp, H3.out⟩
end Go.Proofs.YtibelcmdfkgonaaGreat

namespace Go.Proofs.YtibelcmdfkgonaaGreat
set_option linter.unusedVariables false
set_option linter.unusedSimpArgs false
/-- The links of a way, and the slots met ahead of each. -/
def wx (g : Gd) (x : Nat) : Nat → Nat
  | 0 => x
  | k + 1 => g.next (lo (wx g x k) - 1)
def wm (g : Gd) (m : Nat → Bool) (x : Nat) : Nat → Nat → Bool
  | 0 => m
  | k + 1 => addMet (wm g m x k) (lo (wx g x k) - 1)
def goes (g : Gd) (m : Nat → Bool) (x : Nat) : Prop := rightL g.S g.T x ∧ lo x ≠ 0 ∧ m (lo x - 1) = false
instance (g : Gd) (m : Nat → Bool) (x : Nat) : Decidable (goes g m x) := by unfold goes; infer_instance
theorem wx_shift (g : Gd) (x : Nat) : ∀ k, wx g x (k + 1) = wx g (g.next (lo x - 1)) k
  | 0 => rfl
  | k + 1 => by
    show g.next (lo (wx g x (k + 1)) - 1) = g.next (lo (wx g (g.next (lo x - 1)) k) - 1)
    rw [wx_shift g x k]
theorem wm_shift (g : Gd) (m : Nat → Bool) (x : Nat) : ∀ k, wm g m x (k + 1) = wm g (addMet m (lo x - 1)) (g.next (lo x - 1)) k
  | 0 => rfl
  | k + 1 => by
    show addMet (wm g m x (k + 1)) (lo (wx g x (k + 1)) - 1) = addMet (wm g (addMet m (lo x - 1)) (g.next (lo x - 1)) k) (lo (wx g (g.next (lo x - 1)) k) - 1)
    rw [wm_shift g m x k, wx_shift g x k]
/-- The slots on a way, each with its link. -/
def wl (g : Gd) (x n : Nat) : List (Nat × Nat) := (List.range n).map fun k => (lo (wx g x k) - 1, wx g x (k + 1))
theorem wl_snoc (g : Gd) (x n : Nat) : wl g x (n + 1) = wl g x n ++ [(lo (wx g x n) - 1, wx g x (n + 1))] := by simp [wl, List.range_succ]
theorem wl_len (g : Gd) (x n : Nat) : (wl g x n).length = n := by simp [wl]
theorem wl_cons (g : Gd) (x n : Nat) : wl g x (n + 1) = (lo x - 1, g.next (lo x - 1)) :: wl g (g.next (lo x - 1)) n := by
  unfold wl
  rw [List.range_succ_eq_map, List.map_cons, List.map_map]
  refine congrArg (List.cons (lo x - 1, g.next (lo x - 1))) (List.map_congr_left fun k _ => ?_)
  show (lo (wx g x (k + 1)) - 1, wx g x (k + 1 + 1)) = _
  rw [wx_shift g x k, wx_shift g x (k + 1)]
theorem way_seq (g : Gd) : ∀ (f : Nat) (m : Nat → Bool) (x : Nat), unmet g.S m ≤ f → ∃ N, (∀ k, k < N → goes g (wm g m x k) (wx g x k)) ∧ ¬ goes g (wm g m x N) (wx g x N) ∧ way g f m x = (wl g x N, wm g m x N) ∧ N + unmet g.S (wm g m x N) = unmet g.S m
  | 0, m, x, h => by
    refine ⟨0, fun k hk => absurd hk (Nat.not_lt_zero _), ?_, rfl, by simp [wm]⟩
    rintro ⟨h1, h2, h3⟩
    have := unmet_zero (S := g.S) (m := m) (by omega) (lo x - 1) (by have := h1.2.1; have h2' : lo x ≠ 0 := h2; show lo x - 1 < g.S; have h1' : lo x ≤ g.S := h1.2.1; omega)
    have h3' : m (lo x - 1) = false := h3
    rw [h3'] at this; cases this
  | f + 1, m, x, h => by
    by_cases hg : goes g m x
    · have hu := unmet_add g.S m (lo x - 1) (by have h1 : lo x ≤ g.S := hg.1.2.1; have := hg.2.1; omega) hg.2.2
      obtain ⟨N, h1, h2, h3, h4⟩ := way_seq g f (addMet m (lo x - 1)) (g.next (lo x - 1)) (by omega)
      refine ⟨N + 1, fun k hk => ?_, ?_, ?_, ?_⟩
      · cases k with
        | zero => exact hg
        | succ k => rw [wm_shift, wx_shift]; exact h1 k (by omega)
      · rw [wm_shift, wx_shift]; exact h2
      · rw [way_succ, if_pos (show rightL g.S g.T x ∧ lo x ≠ 0 ∧ m (lo x - 1) = false from hg), h3, wl_cons, wm_shift]
      · rw [wm_shift]; omega
    · refine ⟨0, fun k hk => absurd hk (Nat.not_lt_zero _), hg, ?_, by simp [wm]⟩
      rw [way_succ, if_neg (show ¬ (rightL g.S g.T x ∧ lo x ≠ 0 ∧ m (lo x - 1) = false) from hg)]; rfl
theorem lastLink_snoc (x s y : Nat) : ∀ l : List (Nat × Nat), lastLink x (l ++ [(s, y)]) = y
  | [] => rfl
  | (a, z) :: t => by
    show lastLink z (t ++ [(s, y)]) = y
    induction t generalizing z with
    | nil => rfl
    | cons b t ih => exact ih b.2
theorem lastLink_wl (g : Gd) (x : Nat) : ∀ n, lastLink x (wl g x n) = wx g x n
  | 0 => rfl
  | n + 1 => by rw [wl_snoc, lastLink_snoc]
/-- The queue's flags behind k slots: is it one so far, was a slot live. -/
def qIs (g : Gd) (x : Nat) : Nat → Bool × Bool
  | 0 => (true, false)
  | k + 1 => ((qIs g x k).1 && (decide (k = 0) || decide (g.val (lo (wx g x k) - 1) / 4294967296 = 0)) && (decide (hi (wx g x (k + 1)) = 0) || !(qIs g x k).2), (qIs g x k).2 || decide (hi (wx g x (k + 1)) = 0))
theorem queueOk_snoc (g : Gd) (s y : Nat) : ∀ (l : List (Nat × Nat)) (first live : Bool), queueOk g first live (l ++ [(s, y)]) = ((queueOk g first live l).1 && ((first && l.isEmpty) || decide (g.val s / 4294967296 = 0)) && (decide (hi y = 0) || !(queueOk g first live l).2), (queueOk g first live l).2 || decide (hi y = 0))
  | [], first, live => by
    simp only [List.nil_append, queueOk_eq, queueOk, List.isEmpty_nil, Bool.and_true, Bool.true_and]
  | (a, z) :: t, first, live => by
    simp only [List.cons_append, queueOk_eq, queueOk_snoc g s y t, List.isEmpty_cons, Bool.and_false, Bool.false_or, Bool.false_and, Bool.and_assoc]
theorem qIs_eq (g : Gd) (x : Nat) : ∀ n, qIs g x n = queueOk g true false (wl g x n)
  | 0 => rfl
  | n + 1 => by
    rw [wl_snoc, queueOk_snoc, ← qIs_eq g x n]
    have e : (wl g x n).isEmpty = decide (n = 0) := by
      cases n with
      | zero => rfl
      | succ n => rw [wl_snoc]; simp
    rw [e]
    simp only [qIs, Bool.true_and]
/-- The slot ahead of the k-th. -/
def lastS (g : Gd) (x : Nat) : Nat → Option Nat
  | 0 => none
  | k + 1 => some (lo (wx g x k) - 1)
def lOne (g : Gd) (n : Nat) (last : Option Nat) (s : Nat) : Bool :=
  decide (g.key s / 4294967296 = 0) && decide (g.val s / 4294967296 = 0) && afterB g (g.key s) last && (decide (n < 2) || decide (g.bucket (g.key s) = n - 2))
/-- A list's flag behind k slots. -/
def lIs (g : Gd) (n x : Nat) : Nat → Bool
  | 0 => true
  | k + 1 => lIs g n x k && lOne g n (lastS g x k) (lo (wx g x k) - 1)
def lastOf0 (last : Option Nat) : List (Nat × Nat) → Option Nat
  | [] => last
  | (s, _) :: t => lastOf0 (some s) t
theorem listOk_eq (g : Gd) (n : Nat) (last : Option Nat) (s y : Nat) (t : List (Nat × Nat)) : listOk g n last ((s, y) :: t) = (lOne g n last s && listOk g n (some s) t) := rfl
theorem listOk_snoc (g : Gd) (n s y : Nat) : ∀ (l : List (Nat × Nat)) (last : Option Nat), listOk g n last (l ++ [(s, y)]) = (listOk g n last l && lOne g n (lastOf0 last l) s)
  | [], last => by
    rw [List.nil_append, listOk_eq]
    show (lOne g n last s && true) = (true && lOne g n last s)
    simp
  | (a, z) :: t, last => by
    rw [List.cons_append, listOk_eq, listOk_eq, listOk_snoc g n s y t, Bool.and_assoc]; rfl
theorem lastOf0_snoc (s y : Nat) : ∀ (l : List (Nat × Nat)) (last : Option Nat), lastOf0 last (l ++ [(s, y)]) = some s
  | [], _ => rfl
  | (a, z) :: t, last => lastOf0_snoc s y t (some a)
theorem lastS_eq (g : Gd) (x : Nat) : ∀ n, lastS g x n = lastOf0 none (wl g x n)
  | 0 => rfl
  | n + 1 => by rw [wl_snoc, lastOf0_snoc]; rfl
theorem lIs_eq (g : Gd) (n x : Nat) : ∀ k, lIs g n x k = listOk g n none (wl g x k)
  | 0 => rfl
  | k + 1 => by rw [wl_snoc, listOk_snoc, ← lIs_eq g n x k, ← lastS_eq]; rfl
/-- The whole way, of the queue and of a list. -/
def queueB (g : Gd) (m : Nat → Bool) (x : Nat) : Bool :=
  (queueOk g true false (way g g.S m x).1).1 && (queueOk g true false (way g g.S m x).1).2 && decide (whole g (lastLink x (way g g.S m x).1))
def listB (g : Gd) (n : Nat) (m : Nat → Bool) (x : Nat) : Bool := listOk g n none (way g g.S m x).1 && decide (whole g (lastLink x (way g g.S m x).1))
end Go.Proofs.YtibelcmdfkgonaaGreat

namespace Go.Proofs.YtibelcmdfkgonaaGreat
open Go.RowKit Go.BigFrame
set_option linter.unusedVariables false
set_option linter.unusedSimpArgs false
/-- A reader has turned: nothing but its own blocks, and new ones. -/
structure RdGo (K : Rd) (pv' : Value) (W W' : World) : Prop where
  os : W'.os = W.os
  tape : W'.tape = W.tape
  output : W'.output = W.output
  size : W.heap.size ≤ W'.heap.size
  block : ∀ k, k < W.heap.size → ¬ K.own k → W'.heap[k]? = W.heap[k]?
  new : ∀ k, pv'.ownBlock = some k → K.pv.ownBlock = some k ∨ W.heap.size ≤ k
theorem RdGo.refl (K : Rd) (W : World) : RdGo K K.pv W W := ⟨rfl, rfl, rfl, Nat.le_refl _, fun _ _ _ => rfl, fun _ h => .inl h⟩
theorem RdGo.of_below {K : Rd} {W W' : World} (h : Below W.heap.size W W') : RdGo K K.pv W W' := ⟨h.os, h.tape, h.output, h.size, fun k hk _ => h.block k hk, fun _ h => .inl h⟩
theorem RdGo.trans {K : Rd} {p1 p2 : Value} {A B C : World} (h : RdGo K p1 A B) (k : RdGo { K with pv := p1 } p2 B C) : RdGo K p2 A C where
  os := k.os.trans h.os
  tape := k.tape.trans h.tape
  output := k.output.trans h.output
  size := Nat.le_trans h.size k.size
  block := fun q hq hn => (k.block q (Nat.lt_of_lt_of_le hq h.size) (fun ho => by
    rcases ho with e | e | e
    · exact hn (.inl e)
    · exact hn (.inr (.inl e))
    · rcases h.new q e with e | e
      · exact hn (.inr (.inr e))
      · omega)).trans (h.block q hq hn)
  new := fun q hq => by
    rcases k.new q hq with e | e
    · exact h.new q e
    · exact .inr (Nat.le_trans h.size e)
theorem RdGo.below {K : Rd} {p : Value} {A B : World} {n : Nat} (h : RdGo K p A B) (hn : ∀ k, K.own k → n ≤ k) (hA : n ≤ A.heap.size) : Below n A B :=
  ⟨h.os, h.tape, h.output, h.size, fun k hk => h.block k (by omega) (fun ho => by have := hn k ho; omega)⟩
theorem own_blk {w : World} {base : Nat} {e : TypeId} {size : Nat} {v : Value} {n : Nat} {xs : List Value} (h : w.ownsRow base e size v n xs) {k : Nat} (hk : v.ownBlock = some k) : ∃ c, w.heap[k]? = some (.cells c e (0, 0)) := by
  rcases h.2 with ⟨rfl, -⟩ | ⟨g, cap, cur, rfl, hb, hg, -⟩
  · cases hk
  · cases hk; exact ⟨cur, hg⟩
theorem RdAt.blk {W : World} {K : Rd} {m : Nat → Bool} {ps : List Place} (h : RdAt W K m ps) {k : Nat} (hk : K.own k ∨ k = K.l ∨ k = K.wb) : ∃ o, W.heap[k]? = some o ∧ ¬ Walks o := by
  have hc : ∀ c t, W.heap[k]? = some (.cells c t (0, 0)) → ∃ o, W.heap[k]? = some o ∧ ¬ Walks o := fun c t e => ⟨_, e, by rintro (⟨r, e⟩ | ⟨r, e⟩) <;> cases e⟩
  rcases hk with (rfl | rfl | hk) | rfl | rfl
  · exact hc _ _ h.row
  · obtain ⟨l, c, hb, _⟩ := h.met
    exact ⟨_, hb, by rintro (⟨r, e⟩ | ⟨r, e⟩) <;> cases e⟩
  · obtain ⟨c, e⟩ := own_blk h.places hk
    exact hc _ _ e
  · exact hc _ _ h.lay.row
  · obtain ⟨c, t, e, _⟩ := h.words
    exact hc _ _ e
theorem RdGo.stays {K : Rd} {p : Value} {W W' : World} {m : Nat → Bool} {ps : List Place} (h : RdAt W K m ps) (g : RdGo K p W W') : StaysL W W' := fun q o hq hw =>
  (g.block q (Array.getElem?_eq_some_iff.1 hq).1 (fun ho => by
    obtain ⟨o', e, hn⟩ := h.blk (.inl ho)
    rw [hq] at e; cases e; exact hn hw)).trans hq
/-- A reader under way: since W0; the function's boxes hold cs. -/
structure VAt (W0 : World) (K : Rd) (cs : List (Nat × Array Value × TypeId)) (pv : Value) (m : Nat → Bool) (ps : List Place) (W : World) : Prop where
  go : RdGo K pv W0 W
  rd : RdAt W { K with pv := pv } m ps
  box : ∀ c ∈ cs, W.heap[c.1]? = some (.cells c.2.1 c.2.2 (0, 0))
  lo : ∀ c ∈ cs, W0.heap.size ≤ c.1
  apart : ∀ c ∈ cs, pv.ownBlock ≠ some c.1
  base : ∀ k, (K.own k ∨ k = K.l ∨ k = K.wb) → k < W0.heap.size
theorem VAt.turn {W0 : World} {K : Rd} {cs : List (Nat × Array Value × TypeId)} {pv : Value} {m : Nat → Bool} {ps : List Place} {W W' : World} (h : VAt W0 K cs pv m ps W)
    (h1 : W'.os = W.os) (h2 : W'.tape = W.tape) (h3 : W'.output = W.output) (h4 : W.heap.size ≤ W'.heap.size) (e : ∀ q o, W.heap[q]? = some o → (q < W0.heap.size ∨ ¬ Walks o) → W'.heap[q]? = some o) : VAt W0 K cs pv m ps W' := by
  refine ⟨⟨h1.trans h.go.os, h2.trans h.go.tape, h3.trans h.go.output, Nat.le_trans h.go.size h4, fun k hk hn => ?_, h.go.new⟩, ?_, fun c hc => e _ _ (h.box c hc) (.inr (by rintro (⟨r, e⟩ | ⟨r, e⟩) <;> cases e)), h.lo, h.apart, h.base⟩
  · have hlt : k < W.heap.size := Nat.lt_of_lt_of_le hk h.go.size
    rw [e k _ (Array.getElem?_eq_getElem hlt) (.inl hk), ← Array.getElem?_eq_getElem hlt]
    exact h.go.block k hk hn
  · refine h.rd.keep fun k hk ho => ?_
    obtain ⟨o, eo, hn⟩ := h.rd.blk ho
    rw [e k o eo (.inr hn), eo]
theorem VAt.loop {W0 : World} {K : Rd} {cs : List (Nat × Array Value × TypeId)} {pv : Value} {m : Nat → Bool} {ps : List Place} {B : Nat} {W W' : World} (h : VAt W0 K cs pv m ps W) (hl : LoopOnly B W W') (hB : W0.heap.size ≤ B) : VAt W0 K cs pv m ps W' :=
  h.turn hl.os hl.tape hl.output hl.size fun q o hq hn => hl.block q o hq (by
    rcases hn with hn | hn
    · exact .inl (by omega)
    · exact .inr fun ⟨r, e⟩ => hn (.inl ⟨r, e⟩))
theorem VAt.below {W0 : World} {K : Rd} {cs : List (Nat × Array Value × TypeId)} {pv : Value} {m : Nat → Bool} {ps : List Place} {W W' : World} (h : VAt W0 K cs pv m ps W) (hb : Below W.heap.size W W') : VAt W0 K cs pv m ps W' :=
  h.turn hb.os hb.tape hb.output hb.size fun q o hq _ => (hb.block q (Array.getElem?_eq_some_iff.1 hq).1).trans hq
theorem VAt.put {W0 : World} {K : Rd} {cs : List (Nat × Array Value × TypeId)} {pv : Value} {m : Nat → Bool} {ps : List Place} {W : World} (h : VAt W0 K cs pv m ps W) {D : Nat} {o : Obj} {d : Option (List Deferred)} (hD : W.heap[D]? = some (.deferred d)) (hlo : W0.heap.size ≤ D) : VAt W0 K cs pv m ps (W.putObj D o) :=
  h.turn rfl rfl rfl (by simp [World.putObj]) fun q o' hq hn => by
    have hne : q ≠ D := fun e => by
      subst e; rw [hD] at hq; cases hq
      rcases hn with hn | hn
      · omega
      · exact hn (.inr ⟨_, rfl⟩)
    exact (World.putObj_heap_other hne).trans hq
theorem VAt.set {W0 : World} {K : Rd} {b : Nat} {c : Array Value} {t : TypeId} {cs1 cs2 : List (Nat × Array Value × TypeId)} {pv : Value} {m : Nat → Bool} {ps : List Place} {W : World} (h : VAt W0 K (cs1 ++ (b, c, t) :: cs2) pv m ps W) (hn : ∀ x ∈ cs1 ++ cs2, x.1 ≠ b) (j : Nat) (v : Value) :
    VAt W0 K (cs1 ++ (b, c.setIfInBounds j v, t) :: cs2) pv m ps (W.setCell ⟨b, j, none⟩ v) ∧ StaysL W (W.setCell ⟨b, j, none⟩ v) := by
  have hm : (b, c, t) ∈ cs1 ++ (b, c, t) :: cs2 := by simp
  have hb := h.box _ hm
  have hlo := h.lo _ hm
  have hap := h.apart _ hm
  dsimp only at hb hlo hap
  have mem : ∀ x ∈ cs1 ++ (b, c.setIfInBounds j v, t) :: cs2, x = (b, c.setIfInBounds j v, t) ∨ (x ∈ cs1 ++ cs2 ∧ x ∈ cs1 ++ (b, c, t) :: cs2) := fun x hx => by
    simp only [List.mem_append, List.mem_cons] at hx ⊢
    rcases hx with hx | hx | hx
    · exact .inr ⟨.inl hx, .inl hx⟩
    · exact .inl hx
    · exact .inr ⟨.inr hx, .inr (.inr hx)⟩
  refine ⟨⟨⟨h.go.os, h.go.tape, h.go.output, Nat.le_trans h.go.size (by simp [World.setCell]), fun k hk hno => (heap_set_other (by omega)).trans (h.go.block k hk hno), h.go.new⟩, ?_, ?_, ?_, ?_, h.base⟩, staysL_set hb j v⟩
  · refine h.rd.keep fun k hk ho => heap_set_other ?_
    rcases ho with (e | e | e) | e | e
    · have := h.base k (.inl (.inl e)); omega
    · have := h.base k (.inl (.inr (.inl e))); omega
    · exact fun e2 => hap (e2 ▸ e)
    · have := h.base k (.inr (.inl e)); omega
    · have := h.base k (.inr (.inr e)); omega
  · intro x hx
    rcases mem x hx with rfl | ⟨h1, h2⟩
    · exact heap_set v hb
    · exact (heap_set_other (hn x h1)).trans (h.box x h2)
  · intro x hx
    rcases mem x hx with rfl | ⟨h1, h2⟩
    · exact hlo
    · exact h.lo x h2
  · intro x hx
    rcases mem x hx with rfl | ⟨h1, h2⟩
    · exact hap
    · exact h.apart x h2
/-- A slot is met. -/
theorem VAt.meet {W0 : World} {K : Rd} {cs : List (Nat × Array Value × TypeId)} {pv : Value} {m m' : Nat → Bool} {ps : List Place} {W W' : World} (h : VAt W0 K cs pv m ps W) (him : IMap W' K.mb (metF m')) (hg : W.grownBy W' (some K.mb)) : VAt W0 K cs pv m' ps W' := by
  have hmb := h.base K.mb (.inl (.inr (.inl rfl)))
  have old : ∀ k, k < W.heap.size → k ≠ K.mb → W'.heap[k]? = W.heap[k]? := fun k hk hn => hg.block k hk (fun e => hn (by cases e; rfl))
  obtain ⟨a1, a2, a3, a4, a5⟩ := h.rd.apart
  refine ⟨⟨hg.os.trans h.go.os, hg.tape.trans h.go.tape, hg.output.trans h.go.output, Nat.le_trans h.go.size hg.size, fun k hk hn => (old k (Nat.lt_of_lt_of_le hk h.go.size) (fun e => hn (.inr (.inl e)))).trans (h.go.block k hk hn), h.go.new⟩, ?_, fun c hc => (old _ (lt_row (h.box c hc)) (by have := h.lo c hc; omega)).trans (h.box c hc), h.lo, h.apart, h.base⟩
  exact { h.rd with
    row := (old _ (lt_row h.rd.row) a2).trans h.rd.row
    lay := h.rd.lay.keep (old _ h.rd.lay.lt a5)
    words := h.rd.words.keep (old _ h.rd.words.lt a3)
    met := him
    places := own_keep' h.rd.places fun k hk => old k (h.rd.places.lt k hk).2 (h.rd.po k hk).2.2.1 }
/-- A place is told. -/
theorem VAt.push {W0 : World} {K : Rd} {cs : List (Nat × Array Value × TypeId)} {pv v' : Value} {m : Nat → Bool} {ps : List Place} {p : Place} {W Wa w1 : World} (h : VAt W0 K cs pv m ps W) (hb : Below W.heap.size W Wa)
    (ho : w1.ownsRow 0 52 3 v' (ps.length + 1) (placesV ps ++ [.int .i64 (p.slot : Int), .int .i64 (p.list : Int), .bool p.free])) (hg : Wa.grownBy w1 pv.ownBlock) (hbl : v'.ownBlock = pv.ownBlock ∨ v'.ownBlock = some Wa.heap.size) :
    VAt W0 K cs v' m (ps ++ [p]) (w1.setCell ⟨K.r, 3, none⟩ v') ∧ StaysL W (w1.setCell ⟨K.r, 3, none⟩ v') := by
  have h2 := h.below hb
  obtain ⟨a1, a2, a3, a4, a5⟩ := h2.rd.apart
  have hr := h2.base K.r (.inl (.inl rfl))
  have hl := h2.base K.l (.inr (.inl rfl))
  have hmb := h2.base K.mb (.inl (.inr (.inl rfl)))
  have hwb := h2.base K.wb (.inr (.inr rfl))
  have hsz := h2.go.size
  have po : ∀ k, pv.ownBlock = some k → k ≠ K.r ∧ k ≠ K.wb ∧ k ≠ K.mb ∧ k ≠ K.l := h2.rd.po
  have old : ∀ k, k < Wa.heap.size → pv.ownBlock ≠ some k → k ≠ K.r → (w1.setCell ⟨K.r, 3, none⟩ v').heap[k]? = Wa.heap[k]? := fun k hk hn hne => (heap_set_other hne).trans (hg.block k hk (Ne.symm hn))
  have xr : w1.heap[K.r]? = some (.cells ({ K with pv := pv } : Rd).cells 159 (0, 0)) := (hg.block K.r (by omega) (fun e => (po K.r e.symm).1 rfl)).trans h2.rd.row
  have nb : ∀ k, v'.ownBlock = some k → pv.ownBlock = some k ∨ Wa.heap.size ≤ k := fun k hk => by
    rcases hbl with e | e
    · exact .inl (e ▸ hk)
    · rw [e] at hk; cases hk; exact .inr (Nat.le_refl _)
  have no : ∀ k, k < Wa.heap.size → pv.ownBlock ≠ some k → v'.ownBlock ≠ some k := fun k hk hn e => by
    rcases nb k e with e | e
    · exact hn e
    · omega
  have hst : ∀ q o, W.heap[q]? = some o → Walks o → Wa.heap[q]? = some o → (w1.setCell ⟨K.r, 3, none⟩ v').heap[q]? = some o := fun q o hq hw hqa => by
    refine (old q (Array.getElem?_eq_some_iff.1 hqa).1 (fun e => ?_) (fun e => ?_)).trans hqa
    · obtain ⟨o', e', hn⟩ := h2.rd.blk (k := q) (.inl (.inr (.inr e)))
      rw [hqa] at e'; cases e'; exact hn hw
    · obtain ⟨o', e', hn⟩ := h2.rd.blk (k := q) (.inl (.inl e))
      rw [hqa] at e'; cases e'; exact hn hw
  refine ⟨⟨⟨hg.os.trans h2.go.os, hg.tape.trans h2.go.tape, hg.output.trans h2.go.output, Nat.le_trans hsz (Nat.le_trans hg.size (by simp [World.setCell])), fun k hk hn => ?_, fun k hk => ?_⟩, ?_, ?_, h2.lo, ?_, h2.base⟩, ?_⟩
  · have hpk : pv.ownBlock ≠ some k := fun e => by
      rcases h2.go.new k e with e | e
      · exact hn (.inr (.inr e))
      · omega
    exact (old k (by omega) hpk (fun e => hn (.inl e))).trans (h2.go.block k hk hn)
  · rcases nb k hk with e | e
    · exact h2.go.new k e
    · exact .inr (by omega)
  · have e := h2.rd
    exact
      { row := (heap_set v' xr).trans (by simp [Rd.cells])
        lay := e.lay.keep (old K.l (by omega) (fun e => (po _ e).2.2.2 rfl) a4)
        words := e.words.keep (old K.wb (by omega) (fun e => (po _ e).2.1 rfl) (Ne.symm a1))
        met := e.met.of_block (old K.mb (by omega) (fun e => (po _ e).2.2.1 rfl) (Ne.symm a2))
        places := by
          rw [placesV_snoc, List.length_append, List.length_singleton]
          refine own_keep' ho fun k hk => heap_set_other fun e => ?_
          subst e
          exact no K.r (by omega) (fun e => (po _ e).1 rfl) hk
        apart := e.apart
        po := fun k hk => by
          rcases nb k hk with e | e
          · exact po k e
          · show k ≠ K.r ∧ k ≠ K.wb ∧ k ≠ K.mb ∧ k ≠ K.l
            omega
        hS := e.hS
        hn := e.hn
        u64 := e.u64 }
  · intro c hc
    exact (old _ (lt_row (h2.box c hc)) (h2.apart c hc) (by have := h2.lo c hc; omega)).trans (h2.box c hc)
  · intro c hc
    exact no _ (lt_row (h2.box c hc)) (h2.apart c hc)
  · intro q o hq hw
    exact hst q o hq hw ((hb.block q (Array.getElem?_eq_some_iff.1 hq).1).trans hq)
theorem VAt.start {W0 W : World} {K : Rd} {m : Nat → Bool} {ps : List Place} (h : RdAt W0 K m ps) (hb : Below W0.heap.size W0 W) : VAt W0 K [] K.pv m ps W :=
  ⟨RdGo.of_below hb, h.below hb, nofun, nofun, nofun, fun k hk => by
    obtain ⟨o, e, -⟩ := h.blk hk
    exact (Array.getElem?_eq_some_iff.1 e).1⟩
theorem VAt.add {W0 W : World} {K : Rd} {cs : List (Nat × Array Value × TypeId)} {pv : Value} {m : Nat → Bool} {ps : List Place} (h : VAt W0 K cs pv m ps W) (c : Array Value) (t : TypeId) : VAt W0 K (cs ++ [(W.heap.size, c, t)]) pv m ps (W.alloc (.cells c t)) := by
  have h2 := h.below ((Below.refl W.heap.size W).alloc (Nat.le_refl _) (.cells c t))
  have mem : ∀ x ∈ cs ++ [(W.heap.size, c, t)], x ∈ cs ∨ x = (W.heap.size, c, t) := fun x hx => by simpa using hx
  refine ⟨h2.go, h2.rd, fun x hx => ?_, fun x hx => ?_, fun x hx => ?_, h.base⟩
  · rcases mem x hx with hx | rfl
    · exact h2.box x hx
    · exact heap_alloc_new _ _
  · rcases mem x hx with hx | rfl
    · exact h.lo x hx
    · exact h.go.size
  · rcases mem x hx with hx | rfl
    · exact h.apart x hx
    · intro e
      have := (h.rd.places.lt W.heap.size e).2
      omega
/-- What the walk reads. -/
theorem VAt.reads {W0 W : World} {K : Rd} {cs : List (Nat × Array Value × TypeId)} {pv : Value} {m : Nat → Bool} {ps : List Place} (h : VAt W0 K cs pv m ps W) :
    W.cell? ⟨K.r, 0, none⟩ = some (.pointer (some ⟨K.l, 0, none⟩)) ∧ W.cell? ⟨K.r, 1, none⟩ = some (.slice (some ⟨K.wb, 0, none⟩) K.n K.cw) ∧ W.cell? ⟨K.r, 3, none⟩ = some pv ∧ LayAt W K.l K.v ∧ (∀ p, p < K.n → W.cell? ⟨K.wb, p, none⟩ = some (.int .u64 (K.f p : Int))) ∧ K.r < W.heap.size ∧ K.wb < W.heap.size ∧ K.l < W.heap.size :=
  ⟨cell_row h.rd.row 0 _ rfl, cell_row h.rd.row 1 _ rfl, cell_row h.rd.row 3 _ rfl, h.rd.lay, fun p hp => h.rd.words.cell hp, lt_row h.rd.row, h.rd.words.lt, h.rd.lay.lt⟩
theorem VAt.out {W0 W : World} {K : Rd} {cs : List (Nat × Array Value × TypeId)} {pv : Value} {m : Nat → Bool} {ps : List Place} (h : VAt W0 K cs pv m ps W) : ∃ pv, RdGo K pv W0 W ∧ RdAt W { K with pv := pv } m ps := ⟨pv, h.go, h.rd⟩
/-- What a reader's function says. -/
def RdTo (K : Rd) (m' : Nat → Bool) (ps' : List Place) (v : Value) (W : World) (e : Ending) (W' : World) : Prop := e = .returned v ∧ ∃ pv, RdGo K pv W W' ∧ RdAt W' { K with pv := pv } m' ps'
end Go.Proofs.YtibelcmdfkgonaaGreat
