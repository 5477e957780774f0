/- Layers 6, 9: where a name's word lies (printed by l3.py).
   Layer 18's ground: an empty store (printed by l4.py). -/
import Derived.Test.YtibelcmdfkgonaaGreatK26
import Derived.Test.YtibelcmdfkgonaaGreatK10
import Derived.Test.YtibelcmdfkgonaaGreatK16
import Derived.Test.YtibelcmdfkgonaaGreatK27
namespace Go.Proofs.YtibelcmdfkgonaaGreat
open Go.RowKit Go.BigFrame
set_option linter.unusedVariables false
set_option linter.unusedSimpArgs false
theorem drewN_add' (w : World) (a b : Nat) : (w.drewN a).drewN b = w.drewN (a + b) := by unfold World.drewN; simp [Nat.add_assoc]
def posN (x : Nm) : List Nm → Nat → Option Nat
  | [], _ => none
  | y :: t, i => if y = x then some i else posN x t (i + 1)
theorem posN_some (x : Nm) : ∀ (l : List Nm) (k j : Nat), l[k]? = some x → (∀ i, i < k → l[i]? ≠ some x) → posN x l j = some (j + k)
  | [], k, j, h, _ => by simp at h
  | y :: t, 0, j, h, _ => by
    simp at h
    unfold posN
    rw [if_pos h]; rfl
  | y :: t, k + 1, j, h, hn => by
    have h0 := hn 0 (by omega)
    simp at h0 h
    unfold posN
    rw [if_neg h0, posN_some x t k (j + 1) h (fun i hi => by have := hn (i + 1) (by omega); simpa using this)]
    congr 1; omega
theorem posN_none (x : Nm) : ∀ (l : List Nm) (j : Nat), (∀ i, i < l.length → l[i]? ≠ some x) → posN x l j = none
  | [], _, _ => rfl
  | y :: t, j, hn => by
    have h0 := hn 0 (by simp)
    simp at h0
    unfold posN
    rw [if_neg h0]
    exact posN_none x t (j + 1) fun i hi => by have := hn (i + 1) (by simp; omega); simpa using this
def atL (last pass : List Nm) (n : Nat) (x : Nm) : Int :=
  match posN x last 0 with
  | some i => i
  | none => match posN x pass 0 with
    | some i => -1 - (i : Int)
    | none => n
/-- Where a name's word lies. -/
def atN (th sl lo' bu : Nat) (x : Nm) : Int := atL (lastingL th sl lo' bu) (passingL th sl) (up8 (40 + bu) + 8 * th + up8 lo' * th + 8 * sl) x
theorem nmV_get : ∀ (l : List Nm) (k : Nat) (p : Nm), l[k]? = some p → (nmV l)[k * 3]? = some (.int .i64 p.1) ∧ (nmV l)[k * 3 + 1]? = some (.int .i64 p.2.1) ∧ (nmV l)[k * 3 + 2]? = some (.int .i64 p.2.2)
  | [], k, p, h => by simp at h
  | y :: t, 0, p, h => by
    simp at h
    subst h
    exact ⟨rfl, rfl, rfl⟩
  | y :: t, k + 1, p, h => by
    have e : nmV (y :: t) = [.int .i64 y.1, .int .i64 y.2.1, .int .i64 y.2.2] ++ nmV t := rfl
    have ih := nmV_get t k p (by simpa using h)
    rw [e]
    refine ⟨?_, ?_, ?_⟩
    · rw [List.getElem?_append_right (by simp; omega)]; simp only [List.length_cons, List.length_nil]; rw [show (k + 1) * 3 - (0 + 1 + 1 + 1) = k * 3 by omega]; exact ih.1
    · rw [List.getElem?_append_right (by simp; omega)]; simp only [List.length_cons, List.length_nil]; rw [show (k + 1) * 3 + 1 - (0 + 1 + 1 + 1) = k * 3 + 1 by omega]; exact ih.2.1
    · rw [List.getElem?_append_right (by simp; omega)]; simp only [List.length_cons, List.length_nil]; rw [show (k + 1) * 3 + 2 - (0 + 1 + 1 + 1) = k * 3 + 2 by omega]; exact ih.2.2
theorem eql64 (p x : Nm) (w : World) : (binOp .eql 64 (.agg #[.int .i64 p.1, .int .i64 p.2.1, .int .i64 p.2.2]) (.agg #[.int .i64 x.1, .int .i64 x.2.1, .int .i64 x.2.2])).run Tryz.prog w = .ok (.bool (decide (p = x))) w := by
  obtain ⟨a, b, c⟩ := p
  obtain ⟨a', b', c'⟩ := x
  go_simp
  by_cases h1 : a = a' <;> by_cases h2 : b = b' <;> by_cases h3 : c = c' <;> simp [h1, h2, h3]
/-- Names in memory. -/
theorem names_at {w : World} {B n : Nat} {v : Value} {l : List Nm} (h : w.ownsRow B 64 3 v n (nmV l)) : l.length = n ∧ ∀ k p, l[k]? = some p → ∃ g c, v = .slice (some ⟨g, 0, none⟩) n c ∧ B ≤ g ∧ g < w.heap.size ∧ w.cell? ⟨g, k * 3, none⟩ = some (.int .i64 p.1) ∧ w.cell? ⟨g, k * 3 + 1, none⟩ = some (.int .i64 p.2.1) ∧ w.cell? ⟨g, k * 3 + 2, none⟩ = some (.int .i64 p.2.2) := by
  have e : l.length = n := by have := h.1; rw [nmV_len] at this; omega
  refine ⟨e, fun k p hk => ?_⟩
  have hkl := (List.getElem?_eq_some_iff.1 hk).1
  obtain ⟨g, cap, c, rfl, hb, hg, h1, h2, h3⟩ := own_row h (by omega)
  obtain ⟨n1, n2, n3⟩ := nmV_get l k p hk
  exact ⟨g, cap, rfl, hb, (Array.getElem?_eq_some_iff.1 hg).1, by rw [cell_in hg, h3 _ (by omega)]; exact n1, by rw [cell_in hg, h3 _ (by omega)]; exact n2, by rw [cell_in hg, h3 _ (by omega)]; exact n3⟩
set_option maxRecDepth 100000 in
set_option maxHeartbeats 4000000 in
theorem at32 (th sl lo' bu : Nat) (h1 : th ≤ 64) (h2 : sl ≤ 1000) (h3 : lo' ≤ 64) (h4 : bu ≤ 64) (x : Nm) (W : World) :
    Calls Tryz.prog 32 #[.agg #[.int .i64 (th : Int), .int .i64 (sl : Int), .int .i64 (lo' : Int), .int .i64 (bu : Int)], .agg #[.int .i64 x.1, .int .i64 x.2.1, .int .i64 x.2.2]] W (Gives (.int .i64 (atN th sl lo' bu x)) W) := by
  have HLA := Lib.hid fun w => lasting59 th sl lo' bu h1 (by omega) h3 h4 w
  have HPA := Lib.hid fun w => passing60 th sl (lo' : Int) (bu : Int) h1 (by omega) w
  have HB : Hid (up8 (40 + bu) + 8 * th + up8 lo' * th + 8 * sl ≤ 100000 ∧ 2 + th + sl ≤ 100000) := Lib.hid (by
    have : up8 lo' * th ≤ 72 * 64 := Nat.mul_le_mul (by unfold up8; omega) h1
    unfold up8 at *
    omega)
  unfold atN
  generalize lastingL th sl lo' bu = L1 at *
  generalize passingL th sl = L2 at *
  generalize up8 (40 + bu) + 8 * th + up8 lo' * th + 8 * sl = n1 at *
  generalize 2 + th + sl = n2 at *
  have HEQ := fun (p : Nm) (w : World) => eql64 p x w
  obtain ⟨W1, hW1⟩ : ∃ W1, W1 = (W.alloc (.cells #[.int .i64 (th : Int), .int .i64 (sl : Int), .int .i64 (lo' : Int), .int .i64 (bu : Int)] 23)).alloc (.cells #[.int .i64 x.1, .int .i64 x.2.1, .int .i64 x.2.2] 64) := ⟨_, rfl⟩
  have HW1 := Lib.hid hW1
  have HB1 : Hid (Below W.heap.size W W1) := Lib.hid (by rw [hW1]; exact ((Below.refl _ _).alloc (Nat.le_refl _) _).alloc (by simp) _)
  have HC1 : Hid (W1.heap[W.heap.size]? = some (.cells #[.int .i64 (th : Int), .int .i64 (sl : Int), .int .i64 (lo' : Int), .int .i64 (bu : Int)] 23 (0, 0))) := Lib.hid (by rw [hW1, Below.heap_alloc _ _ _ (by simp)]; exact heap_alloc_new _ _)
  have HN1 : Hid (W1.heap[W.heap.size + 1]? = some (.cells #[.int .i64 x.1, .int .i64 x.2.1, .int .i64 x.2.2] 64 (0, 0))) := Lib.hid (by
    have := heap_alloc_new (W.alloc (.cells #[.int .i64 (th : Int), .int .i64 (sl : Int), .int .i64 (lo' : Int), .int .i64 (bu : Int)] 23)) (.cells #[.int .i64 x.1, .int .i64 x.2.1, .int .i64 x.2.2] 64)
    rw [World.size_alloc] at this
    rw [hW1]; exact this)
  have HQ : Hid (∀ w, Below W1.heap.size W1 w → (w.cell? ⟨W.heap.size, 0, none⟩ = some (.int .i64 (th : Int)) ∧ w.cell? ⟨W.heap.size, 1, none⟩ = some (.int .i64 (sl : Int)) ∧ w.cell? ⟨W.heap.size, 2, none⟩ = some (.int .i64 (lo' : Int)) ∧ w.cell? ⟨W.heap.size, 3, none⟩ = some (.int .i64 (bu : Int))) ∧ w.cell? ⟨W.heap.size + 1, 0, none⟩ = some (.int .i64 x.1) ∧ w.cell? ⟨W.heap.size + 1, 1, none⟩ = some (.int .i64 x.2.1) ∧ w.cell? ⟨W.heap.size + 1, 2, none⟩ = some (.int .i64 x.2.2)) := Lib.hid fun w hb => by
    have h := (hb.block _ (lt_row HC1.out)).trans HC1.out
    have h' := (hb.block _ (lt_row HN1.out)).trans HN1.out
    exact ⟨⟨cell_row h 0 _ rfl, cell_row h 1 _ rfl, cell_row h 2 _ rfl, cell_row h 3 _ rfl⟩, cell_row h' 0 _ rfl, cell_row h' 1 _ rfl, cell_row h' 2 _ rfl⟩
  clear hW1 h1 h2 h3 h4
  go_enter Tryz.func32, Tryz.ntmps32
  go_wp2_with (go_at_call 59; refine (HLA.out _).mono ?_; rintro e w2 ⟨v2, rfl, hb, ho⟩; rw [← HW1.out] at hb ho; obtain ⟨va, vc, rfl⟩ := own_slice_n ho; have B2 := Lib.hid hb; have O2 := Lib.hid ho; clear hb ho)
  obtain ⟨hlen1, hel1⟩ := names_at O2.out
  have HL1 := Lib.hid hlen1
  have HE1 := Lib.hid hel1
  clear hlen1 hel1
  go_loopw [6] (fun i wr => ∃ (k q : Nat), k ≤ n1 ∧ i = .int .i64 k ∧ wr = w2.drewN q ∧ Hid (∀ i, i < k → L1[i]? ≠ some x)) (fun i _ => n1 - (intOf i).toNat)
  case atStart => exact ⟨0, 0, Nat.zero_le _, rfl, rfl, Lib.hid (fun i hi => absurd hi (Nat.not_lt_zero _))⟩
  case round =>
    obtain ⟨k, q, hk, rfl, rfl, HNO⟩ := hrel
    have HBQ := Lib.hid (B2.out.trans ((drewN_below (Below.refl _ w2) q).mono B2.out.size))
    by_cases hlt : k < n1
    · have d1 : decide ((k : Int) < (n1 : Int)) = true := bool_yes (by omega)
      have d2 : decide (k < n1) = true := bool_yes hlt
      have HLT := Lib.hid hlt
      obtain ⟨p, hp⟩ : ∃ p, L1[k]? = some p := ⟨_, List.getElem?_eq_getElem (by have := HL1.out; omega)⟩
      obtain ⟨g, gc, ev, -, hgl, c1, c2, c3⟩ := HE1.out k p hp
      cases ev
      have HP := Lib.hid hp
      obtain ⟨-, m0, m1, m2⟩ := HQ.out _ B2.out
      have i0 : (0 : Int) ≤ (k : Int) := by omega
      have i1 : (k : Int) < (n1 : Int) := by omega
      clear hp hgl hlt hk
      by_cases hpx : p = x
      · have de : decide (p = x) = true := bool_yes hpx
        have HPX := Lib.hid hpx
        clear hpx
        go_wp2_with fail
        go_quiet (fail)
        go_wp2_with fail
        go_ret
        have e : atL L1 L2 n1 x = (k : Int) := by
          unfold atL
          rw [posN_some x L1 k 0 (by rw [HP.out, HPX.out]) HNO.out, Nat.zero_add]
        exact ⟨by rw [e]; rfl, HB1.out.trans ((HBQ.out.trans ((drewN_below (Below.refl _ _) nq).mono HBQ.out.size)).mono HB1.out.size)⟩
      · have de : decide (p = x) = false := bool_no hpx
        have HPX := Lib.hid hpx
        clear hpx
        go_wp2_with fail
        go_quiet (fail)
        go_wp2_with fail
        go_roundw
        case rel =>
          have hw : wrap64 ((k : Int) + 1) = (k : Int) + 1 := by have := HLT.out; have := HB.out; unfold wrap64; omega
          refine ⟨k + 1, q + nq, by have := HLT.out; omega, by rw [hw]; go_num, by first | rfl | exact drewN_add' _ _ _, Lib.hid fun i hi => ?_⟩
          by_cases hik : i = k
          · subst hik
            rw [HP.out]
            intro e
            cases e
            exact HPX.out rfl
          · exact HNO.out i (by omega)
        case measure =>
          have hw : wrap64 ((k : Int) + 1) = (k : Int) + 1 := by have := HLT.out; have := HB.out; unfold wrap64; omega
          rw [hw]
          have h := HLT.out
          have e1 : (intOf (.int .i64 ((k : Int) + 1))).toNat = k + 1 := by show ((k : Int) + 1).toNat = k + 1; omega
          have e2 : (intOf (.int .i64 (k : Int))).toNat = k := by show ((k : Int)).toNat = k; omega
          rw [e1, e2]
          exact Nat.sub_lt_sub_left h (Nat.lt_succ_self k)
    · obtain rfl : k = n1 := by omega
      have d1 : decide ((k : Int) < (k : Int)) = false := by simp
      have d2 : decide (k < k) = false := by simp
      have HN0 : Hid (posN x L1 0 = none) := Lib.hid (posN_none x L1 0 fun i hi => HNO.out i (by have := HL1.out; omega))
      obtain ⟨⟨q0, q1, q2, q3⟩, -⟩ := HQ.out _ B2.out
      clear hlt hk HNO HE1 HLA
      go_wp2_with (go_at_call 60; refine (HPA.out _).mono ?_; rintro e w4 ⟨v4, rfl, hb, ho⟩; obtain ⟨vd, ve, rfl⟩ := own_slice_n ho; have B4 := Lib.hid (HBQ.out.trans (hb.mono HBQ.out.size)); have O4 := Lib.hid ho; clear hb ho q0 q1 q2 q3)
      obtain ⟨hlen1, hel1⟩ := names_at O4.out
      have HL2 := Lib.hid hlen1
      have HE2 := Lib.hid hel1
      clear hlen1 hel1 HPA d1 d2
      go_loopw [8] (fun i wr => ∃ (j q : Nat), j ≤ n2 ∧ i = .int .i64 j ∧ wr = w4.drewN q ∧ Hid (∀ i, i < j → L2[i]? ≠ some x)) (fun i _ => n2 - (intOf i).toNat)
      case atStart => exact ⟨0, 0, Nat.zero_le _, rfl, rfl, Lib.hid (fun i hi => absurd hi (Nat.not_lt_zero _))⟩
      case round =>
        obtain ⟨j, q', hj, rfl, rfl, HNO⟩ := hrel
        have HBQ' := Lib.hid (B4.out.trans ((drewN_below (Below.refl _ w4) q').mono B4.out.size))
        by_cases hlt : j < n2
        · have d1 : decide ((j : Int) < (n2 : Int)) = true := bool_yes (by omega)
          have d2 : decide (j < n2) = true := bool_yes hlt
          have HLT := Lib.hid hlt
          obtain ⟨p, hp⟩ : ∃ p, L2[j]? = some p := ⟨_, List.getElem?_eq_getElem (by have := HL2.out; omega)⟩
          obtain ⟨g, gc, ev, -, hgl, c1, c2, c3⟩ := HE2.out j p hp
          cases ev
          have HP := Lib.hid hp
          obtain ⟨-, m0, m1, m2⟩ := HQ.out _ B4.out
          have i0 : (0 : Int) ≤ (j : Int) := by omega
          have i1 : (j : Int) < (n2 : Int) := by omega
          clear hp hgl hlt hj
          by_cases hpx : p = x
          · have de : decide (p = x) = true := bool_yes hpx
            have HPX := Lib.hid hpx
            clear hpx
            go_wp2_with fail
            go_quiet (fail)
            go_wp2_with fail
            have hw : wrap64 (-1 - (j : Int)) = -1 - (j : Int) := by have := HLT.out; have := HB.out; unfold wrap64; omega
            go_ret
            have e : atL L1 L2 k x = -1 - (j : Int) := by
              unfold atL
              rw [HN0.out]
              simp only
              rw [posN_some x L2 j 0 (by rw [HP.out, HPX.out]) HNO.out, Nat.zero_add]
            exact ⟨by rw [e]; first | rfl | (simp [hw]; done) | (congr 1), HB1.out.trans ((B4.out.trans ((drewN_below (Below.refl _ w4) _).mono B4.out.size)).mono HB1.out.size)⟩
          · have de : decide (p = x) = false := bool_no hpx
            have HPX := Lib.hid hpx
            clear hpx
            go_wp2_with fail
            go_quiet (fail)
            go_wp2_with fail
            go_roundw
            case rel =>
              have hw : wrap64 ((j : Int) + 1) = (j : Int) + 1 := by have := HLT.out; have := HB.out; unfold wrap64; omega
              refine ⟨j + 1, q' + nq, by have := HLT.out; omega, by rw [hw]; go_num, by first | rfl | exact drewN_add' _ _ _, Lib.hid fun i hi => ?_⟩
              by_cases hik : i = j
              · subst hik
                rw [HP.out]
                intro e
                cases e
                exact HPX.out rfl
              · exact HNO.out i (by omega)
            case measure =>
              have hw : wrap64 ((j : Int) + 1) = (j : Int) + 1 := by have := HLT.out; have := HB.out; unfold wrap64; omega
              rw [hw]
              have h := HLT.out
              have e1 : (intOf (.int .i64 ((j : Int) + 1))).toNat = j + 1 := by show ((j : Int) + 1).toNat = j + 1; omega
              have e2 : (intOf (.int .i64 (j : Int))).toNat = j := by show ((j : Int)).toNat = j; omega
              rw [e1, e2]
              exact Nat.sub_lt_sub_left h (Nat.lt_succ_self j)
        · obtain rfl : j = n2 := by omega
          have d1 : decide ((j : Int) < (j : Int)) = false := by simp
          have d2 : decide (j < j) = false := by simp
          have HN2 : Hid (posN x L2 0 = none) := Lib.hid (posN_none x L2 0 fun i hi => HNO.out i (by have := HL2.out; omega))
          clear hlt hj HNO HE2
          go_wp2_with fail
          go_ret
          have e : atL L1 L2 k x = (k : Int) := by
            unfold atL
            rw [HN0.out]
            simp only
            rw [HN2.out]
          exact ⟨by rw [e]; rfl, HB1.out.trans (HBQ'.out.mono HB1.out.size)⟩
set_option maxRecDepth 100000 in
theorem after91 (th sl lo' bu : Nat) (h1 : th ≤ 64) (h2 : sl ≤ 1000) (h3 : lo' ≤ 64) (h4 : bu ≤ 64) (s : Int) (W : World) :
    Calls Tryz.prog 91 #[.agg #[.int .i64 (th : Int), .int .i64 (sl : Int), .int .i64 (lo' : Int), .int .i64 (bu : Int)], .int .i64 s] W (Gives (.int .i64 (atN th sl lo' bu (17, s, 0))) W) := by
  have HAT := Lib.hid fun w => at32 th sl lo' bu h1 h2 h3 h4 (17, s, 0) w
  generalize atN th sl lo' bu (17, s, 0) = r at *
  simp only at HAT
  clear h1 h2 h3 h4
  go_enter Tryz.func91, Tryz.ntmps91
  go_wp2_with (go_at_call 32; refine (HAT.out _).mono ?_; rintro e w2 ⟨rfl, hb⟩; have H2 := Lib.hid (((Below.refl W.heap.size W).alloc (Nat.le_refl _) (.cells #[.int .i64 (th : Int), .int .i64 (sl : Int), .int .i64 (lo' : Int), .int .i64 (bu : Int)] 23)).trans (hb.mono (by simp))); clear hb)
  go_ret
  exact ⟨rfl, H2.out⟩
end Go.Proofs.YtibelcmdfkgonaaGreat

namespace Go.Proofs.YtibelcmdfkgonaaGreat
open Go.RowKit Go.BigFrame
set_option linter.unusedVariables false
set_option linter.unusedSimpArgs false
theorem info66 : (Tryz.prog.info? 66).map (fun i => (i.zero, i.size, i.bytes)) = some (some (.agg #[.int .i64 0, .int .u64 0]), 2, 16) := by kernel_rfl
def putV (l : List (Int × Int)) : List Value := l.flatMap fun p => [.int .i64 p.1, .int .u64 p.2]
theorem putV_snoc (l : List (Int × Int)) (a w : Int) : putV (l ++ [(a, w)]) = putV l ++ #[Value.int .i64 a, .int .u64 w].toList := by simp [putV]
structure FrAt (W0 : World) (th sl lo' bu : Nat) (n : Nat) (pv : Value) (l : List (Int × Int)) (wr : World) : Prop where
  below : Below W0.heap.size W0 wr
  cfg : wr.heap[W0.heap.size]? = some (.cells #[.int .i64 (th : Int), .int .i64 (sl : Int), .int .i64 (lo' : Int), .int .i64 (bu : Int)] 23 (0, 0))
  res : wr.heap[W0.heap.size + 1]? = some (.cells #[.int .i64 0, .int .i64 0, .int .i64 0, .int .i64 0, .slice none 0 0] 26 (0, 0))
  g : wr.heap[W0.heap.size + 2]? = some (.cells #[.int .i64 (th : Int), .int .i64 (sl : Int), .int .i64 (lo' : Int), .int .i64 (bu : Int), pv] 26 (0, 0))
  own : wr.ownsRow (W0.heap.size + 3) 66 2 pv n (putV l)
theorem FrAt.grow {W0 wr w' : World} {th sl lo' bu n : Nat} {pv : Value} {l : List (Int × Int)} (h : FrAt W0 th sl lo' bu n pv l wr) (hb : Below wr.heap.size wr w') : FrAt W0 th sl lo' bu n pv l w' :=
  ⟨h.below.trans (hb.mono h.below.size), (hb.block _ (lt_row h.cfg)).trans h.cfg, (hb.block _ (lt_row h.res)).trans h.res, (hb.block _ (lt_row h.g)).trans h.g, own_keep' h.own fun k hk => hb.block k (h.own.lt k hk).2⟩
theorem FrAt.push {W0 wr wa w1 : World} {th sl lo' bu n : Nat} {pv v' : Value} {l : List (Int × Int)} {a w : Int} (h : FrAt W0 th sl lo' bu n pv l wr) (hb : Below wr.heap.size wr wa) (ho : w1.ownsRow (W0.heap.size + 3) 66 2 v' (n + 1) (putV l ++ #[Value.int .i64 a, .int .u64 w].toList)) (hg : wa.grownBy w1 pv.ownBlock) :
    FrAt W0 th sl lo' bu (n + 1) v' (l ++ [(a, w)]) (w1.setCell ⟨W0.heap.size + 2, 4, none⟩ v') := by
  have h2 := h.grow hb
  have lo : ∀ k, pv.ownBlock = some k → W0.heap.size + 3 ≤ k := fun k hk => (h2.own.lt k hk).1
  have lo' : ∀ k, v'.ownBlock = some k → W0.heap.size + 3 ≤ k := fun k hk => (ho.lt k hk).1
  have s2 := h2.below.size
  have old : ∀ k, k < W0.heap.size + 3 → k < wa.heap.size → w1.heap[k]? = wa.heap[k]? := fun k hk hl => hg.block k hl (fun e => by have := lo k e.symm; omega)
  have gr := (old _ (by omega) (lt_row h2.g)).trans h2.g
  refine ⟨⟨hg.os.trans h2.below.os, hg.tape.trans h2.below.tape, hg.output.trans h2.below.output, Nat.le_trans s2 (Nat.le_trans hg.size (by simp [World.setCell])), fun k hk => ?_⟩, ?_, ?_, ?_, ?_⟩
  · exact (heap_set_other (by omega)).trans ((old k (by omega) (by omega)).trans (h2.below.block k hk))
  · exact (heap_set_other (by omega)).trans ((old _ (by omega) (lt_row h2.cfg)).trans h2.cfg)
  · exact (heap_set_other (by omega)).trans ((old _ (by omega) (lt_row h2.res)).trans h2.res)
  · exact heap_set v' gr
  · rw [putV_snoc]
    exact own_keep' ho fun k hk => heap_set_other (by have := lo' k hk; omega)
/-- The puts of an empty store. -/
def freshP (th sl lo' bu : Nat) : Nat → Int × Int
  | 0 => (atN th sl lo' bu (2, 0, 0), linkW 0 (-1))
  | 1 => (atN th sl lo' bu (3, 0, 0), linkW 0 (-1))
  | 2 => (-2, 2)
  | k + 3 => (atN th sl lo' bu (17, (k : Int) + 1, 0), (k : Int) + 3)
def freshL (th sl lo' bu k : Nat) : List (Int × Int) := (List.range k).map (freshP th sl lo' bu)
theorem freshL_succ (th sl lo' bu k : Nat) : freshL th sl lo' bu (k + 1) = freshL th sl lo' bu k ++ [freshP th sl lo' bu k] := by simp [freshL, List.range_succ]
/-- What Fresh answers. -/
def FreshTo (th sl lo' bu : Nat) (W : World) (e : Ending) (W' : World) : Prop :=
  ∃ pv, e = .returned (.agg #[.int .i64 (th : Int), .int .i64 (sl : Int), .int .i64 (lo' : Int), .int .i64 (bu : Int), pv]) ∧ Below W.heap.size W W' ∧ W'.ownsRow (W.heap.size + 3) 66 2 pv (sl + 1) (putV (freshL th sl lo' bu (sl + 1)))
set_option maxRecDepth 100000 in
set_option maxHeartbeats 4000000 in
theorem fresh66 (th sl lo' bu : Nat) (h1 : th ≤ 64) (h2 : sl ≤ 1000) (h3 : lo' ≤ 64) (h4 : bu ≤ 64) (h5 : 1 ≤ sl) (W : World) :
    Calls Tryz.prog 66 #[.agg #[.int .i64 (th : Int), .int .i64 (sl : Int), .int .i64 (lo' : Int), .int .i64 (bu : Int)]] W (FreshTo th sl lo' bu W) := by
  have HAT := Lib.hid fun x w => at32 th sl lo' bu h1 h2 h3 h4 x w
  have HAF := Lib.hid fun s w => after91 th sl lo' bu h1 h2 h3 h4 s w
  have HLK := Lib.hid fun w => link90 0 (-1) w
  have HSL := Lib.hid (And.intro h2 h5)
  obtain ⟨i66, hi, hz0, hz1, hz2⟩ := info_parts info66
  have H0 : Hid (FrAt W th sl lo' bu 0 (.slice none 0 0) (freshL th sl lo' bu 0) (((W.alloc (.cells #[.int .i64 (th : Int), .int .i64 (sl : Int), .int .i64 (lo' : Int), .int .i64 (bu : Int)] 23)).alloc (.cells #[.int .i64 0, .int .i64 0, .int .i64 0, .int .i64 0, .slice none 0 0] 26)).alloc (.cells #[.int .i64 (th : Int), .int .i64 (sl : Int), .int .i64 (lo' : Int), .int .i64 (bu : Int), .slice none 0 0] 26))) := Lib.hid (by
    have n0 := heap_alloc_new W (.cells #[.int .i64 (th : Int), .int .i64 (sl : Int), .int .i64 (lo' : Int), .int .i64 (bu : Int)] 23)
    have n1 := heap_alloc_new (W.alloc (.cells #[.int .i64 (th : Int), .int .i64 (sl : Int), .int .i64 (lo' : Int), .int .i64 (bu : Int)] 23)) (.cells #[.int .i64 0, .int .i64 0, .int .i64 0, .int .i64 0, .slice none 0 0] 26)
    have n2 := heap_alloc_new ((W.alloc (.cells #[.int .i64 (th : Int), .int .i64 (sl : Int), .int .i64 (lo' : Int), .int .i64 (bu : Int)] 23)).alloc (.cells #[.int .i64 0, .int .i64 0, .int .i64 0, .int .i64 0, .slice none 0 0] 26)) (.cells #[.int .i64 (th : Int), .int .i64 (sl : Int), .int .i64 (lo' : Int), .int .i64 (bu : Int), .slice none 0 0] 26)
    rw [World.size_alloc] at n1
    rw [World.size_alloc, World.size_alloc] at n2
    refine ⟨(((Below.refl _ W).alloc (Nat.le_refl _) _).alloc (by simp) _).alloc (by simp; omega) _, ?_, ?_, n2, World.ownsRow_nil _ _ _ _⟩
    · rw [Below.heap_alloc _ _ _ (by simp; omega), Below.heap_alloc _ _ _ (by simp)]; exact n0
    · rw [Below.heap_alloc _ _ _ (by simp)]; exact n1)
  clear h1 h2 h3 h4 h5
  go_enter Tryz.func66, Tryz.ntmps66
  go_wp2_with fail
  go_loopw [4] (fun u wr => ∃ (k : Nat) (j : Int) (pv : Value), k ≤ 2 ∧ u = .int .i64 j ∧ j = 2 + (k : Int) ∧ Hid (FrAt W th sl lo' bu k pv (freshL th sl lo' bu k) wr)) (fun u _ => 4 - (intOf u).toNat)
  case atStart => exact ⟨0, 2, _, by omega, rfl, by omega, H0⟩
  case round =>
    obtain ⟨k, j, pv, hk, rfl, hj, HK⟩ := hrel
    have HJ := Lib.hid (And.intro hk hj)
    by_cases hlt : j ≤ 3
    · have d1 : decide (j ≤ 3) = true := bool_yes hlt
      have HLT := Lib.hid hlt
      clear hlt hk hj
      go_wp2_with fail
      have HKD := Lib.hid (HK.out.grow ((Below.refl _ wr).drew))
      have HEX : Hid (∀ (v' : Value) (w2 : World), FrAt W th sl lo' bu (k + 1) v' (freshL th sl lo' bu k ++ [(atN th sl lo' bu (j, 0, 0), linkW 0 (-1))]) w2 → FrAt W th sl lo' bu (k + 1) v' (freshL th sl lo' bu (k + 1)) w2) := Lib.hid fun v' w2 h => by
        have hk2 : k = 0 ∨ k = 1 := by have := HJ.out; have := HLT.out; omega
        rw [freshL_succ]
        rcases hk2 with rfl | rfl
        · rw [show j = 2 by have := HJ.out; omega] at h; exact h
        · rw [show j = 3 by have := HJ.out; omega] at h; exact h
      refine region_last (fun w'' => w''.heap[W.heap.size]? = wr.drew.heap[W.heap.size]? ∧ w''.heap[W.heap.size + 2]? = wr.drew.heap[W.heap.size + 2]?) (by kernel_rfl) rfl (by kernel_rfl) ?_
      generalize wr.drew = Wd at *
      have ho := HKD.out.own
      obtain ⟨ga, gc, rfl⟩ := own_slice_n ho
      have HO := Lib.hid ho
      have HF : Hid (∀ w'' : World, w''.heap[W.heap.size]? = Wd.heap[W.heap.size]? ∧ w''.heap[W.heap.size + 2]? = Wd.heap[W.heap.size + 2]? → (w''.cell? ⟨W.heap.size, 0, none⟩ = some (.int .i64 (th : Int)) ∧ w''.cell? ⟨W.heap.size, 1, none⟩ = some (.int .i64 (sl : Int)) ∧ w''.cell? ⟨W.heap.size, 2, none⟩ = some (.int .i64 (lo' : Int)) ∧ w''.cell? ⟨W.heap.size, 3, none⟩ = some (.int .i64 (bu : Int))) ∧ w''.cell? ⟨W.heap.size + 2, 4, none⟩ = some (.slice ga k gc)) := Lib.hid (fun w'' ⟨h1, h2⟩ => by
        have c := h1.trans HKD.out.cfg
        have g := h2.trans HKD.out.g
        exact ⟨⟨cell_row c 0 _ rfl, cell_row c 1 _ rfl, cell_row c 2 _ rfl, cell_row c 3 _ rfl⟩, cell_row g 4 _ rfl⟩)
      have SV : Wd.heap[W.heap.size]? = Wd.heap[W.heap.size]? := rfl
      have SX : Wd.heap[W.heap.size + 2]? = Wd.heap[W.heap.size + 2]? := rfl
      have HZ0 : Hid (W.heap.size < Wd.heap.size ∧ W.heap.size + 2 < Wd.heap.size) := Lib.hid ⟨lt_row HKD.out.cfg, lt_row HKD.out.g⟩
      have HZd : Hid (Wd.heap.size ≤ Wd.heap.size) := Lib.hid (Nat.le_refl _)
      have HAJ := Lib.hid fun w => HAT.out (j, 0, 0) w
      obtain ⟨at0, hat0⟩ : ∃ at0, at0 = atN th sl lo' bu (j, 0, 0) := ⟨_, rfl⟩
      obtain ⟨lk, hlk⟩ : ∃ lk, lk = linkW 0 (-1) := ⟨_, rfl⟩
      rw [← hat0] at HAJ HEX
      rw [← hlk] at HEX
      have HLJ : Hid (∀ w, Calls Tryz.prog 90 #[.int .i64 0, .int .i64 (-1)] w (Gives (.int .u64 lk) w)) := Lib.hid (by rw [hlk]; exact HLK.out)
      clear hat0 hlk ho HK
      simp only [List.pop_toArray, List.dropLast, List.size_toArray, List.length_cons, List.length_nil, Nat.reduceAdd]
      refine take_at 0 (some 13) (.pointer (some ⟨W.heap.size + 2, 4, none⟩)) rfl rfl (by kernel_rfl) (by kernel_rfl) (by kernel_rfl) (fun _ _ _ h => h) (Or.inl ⟨by rfl, ?_⟩) ⟨SV, SX⟩ ?_
      · intro w hSw
        obtain ⟨⟨f0, f1, f2, f3⟩, f4⟩ := HF.out w hSw
        clear hSw
        go_simp
      try simp only [Act.put, List.setIfInBounds_toArray, List.set_cons_zero, List.set_cons_succ]
      refine take_at 1 (some 14) (.slice ga k gc) rfl rfl (by kernel_rfl) (by kernel_rfl) (by kernel_rfl) (fun _ _ _ h => h) (Or.inl ⟨by rfl, ?_⟩) ⟨SV, SX⟩ ?_
      · intro w hSw
        obtain ⟨⟨f0, f1, f2, f3⟩, f4⟩ := HF.out w hSw
        clear hSw
        go_simp
      try simp only [Act.put, List.setIfInBounds_toArray, List.set_cons_zero, List.set_cons_succ]
      refine take_at 2 (some 15) (.agg #[.int .i64 (th : Int), .int .i64 (sl : Int), .int .i64 (lo' : Int), .int .i64 (bu : Int)]) rfl rfl (by kernel_rfl) (by kernel_rfl) (by kernel_rfl) (fun _ _ _ h => h) (Or.inl ⟨by rfl, ?_⟩) ⟨SV, SX⟩ ?_
      · intro w hSw
        obtain ⟨⟨f0, f1, f2, f3⟩, f4⟩ := HF.out w hSw
        clear hSw
        go_simp
      try simp only [Act.put, List.setIfInBounds_toArray, List.set_cons_zero, List.set_cons_succ]
      refine take_at 3 (some 16) (.int .i64 j) rfl rfl (by kernel_rfl) (by kernel_rfl) (by kernel_rfl) (fun _ _ _ h => h) (Or.inl ⟨by rfl, ?_⟩) ⟨SV, SX⟩ ?_
      · intro w hSw
        obtain ⟨⟨f0, f1, f2, f3⟩, f4⟩ := HF.out w hSw
        clear hSw
        go_simp
      try simp only [Act.put, List.setIfInBounds_toArray, List.set_cons_zero, List.set_cons_succ]
      refine take_at 4 (some 17) (.agg #[.int .i64 j, .int .i64 0, .int .i64 0]) rfl rfl (by kernel_rfl) (by kernel_rfl) (by kernel_rfl) (fun _ _ _ h => h) (Or.inl ⟨by rfl, ?_⟩) ⟨SV, SX⟩ ?_
      · intro w hSw
        obtain ⟨⟨f0, f1, f2, f3⟩, f4⟩ := HF.out w hSw
        clear hSw
        go_simp
      try simp only [Act.put, List.setIfInBounds_toArray, List.set_cons_zero, List.set_cons_succ]
      refine wpAnyH_ready (rs := [5]) (by kernel_rfl) (by simp) ?_
      refine AllReadyH.cons (i := 5) rfl (fun K' hK => ?_) AllReadyH.nil
      go_simp
      refine (HAJ.out _).mono ?_
      rintro e w8 ⟨rfl, hb⟩
      have HBw8 := Lib.hid hb
      clear hb
      have SV' := (HBw8.out.block _ (Nat.lt_of_lt_of_le HZ0.out.1 HZd.out)).trans SV
      have SX' := (HBw8.out.block _ (Nat.lt_of_lt_of_le HZ0.out.2 HZd.out)).trans SX
      refine hK.out _ _ ⟨SV', SX'⟩ (fun _ => ?_)
      clear hK K' SV SX
      have SV := SV'
      have SX := SX'
      clear SV' SX'
      have HZw8 : Hid (Wd.heap.size ≤ w8.heap.size) := Lib.hid (Nat.le_trans HZd.out HBw8.out.size)
      try simp only [Act.put, List.setIfInBounds_toArray, List.set_cons_zero, List.set_cons_succ]
      refine wpAnyH_ready (rs := [6]) (by kernel_rfl) (by simp) ?_
      refine AllReadyH.cons (i := 6) rfl (fun K' hK => ?_) AllReadyH.nil
      go_simp
      refine (HLJ.out _).mono ?_
      rintro e w9 ⟨rfl, hb⟩
      have HBw9 := Lib.hid hb
      clear hb
      have SV' := (HBw9.out.block _ (Nat.lt_of_lt_of_le HZ0.out.1 HZw8.out)).trans SV
      have SX' := (HBw9.out.block _ (Nat.lt_of_lt_of_le HZ0.out.2 HZw8.out)).trans SX
      refine hK.out _ _ ⟨SV', SX'⟩ (fun _ => ?_)
      clear hK K' SV SX
      have SV := SV'
      have SX := SX'
      clear SV' SX'
      have HZw9 : Hid (Wd.heap.size ≤ w9.heap.size) := Lib.hid (Nat.le_trans HZw8.out HBw9.out.size)
      try simp only [Act.put, List.setIfInBounds_toArray, List.set_cons_zero, List.set_cons_succ]
      refine take_at 7 (some 20) (.agg #[.int .i64 at0, .int .u64 lk]) rfl rfl (by kernel_rfl) (by kernel_rfl) (by kernel_rfl) (fun _ _ _ h => h) (Or.inl ⟨by rfl, ?_⟩) ⟨SV, SX⟩ ?_
      · intro w hSw
        obtain ⟨⟨f0, f1, f2, f3⟩, f4⟩ := HF.out w hSw
        clear hSw
        go_simp
      try simp only [Act.put, List.setIfInBounds_toArray, List.set_cons_zero, List.set_cons_succ]
      have kS : ∀ o, (w9.alloc o).heap[W.heap.size]? = Wd.heap[W.heap.size]? ∧ (w9.alloc o).heap[W.heap.size + 2]? = Wd.heap[W.heap.size + 2]? := fun o => ⟨(Below.heap_alloc w9 o _ (Nat.lt_of_lt_of_le HZ0.out.1 HZw9.out)).trans SV, (Below.heap_alloc w9 o _ (Nat.lt_of_lt_of_le HZ0.out.2 HZw9.out)).trans SX⟩
      refine wpAnyH_ready (rs := [8]) (by kernel_rfl) (by simp) ?_
      refine AllReadyH.cons (i := 8) rfl (fun K' hK => ?_) AllReadyH.nil
      go_simp
      refine hK.out _ _ (kS _) (fun _ => ?_)
      clear hK K'
      try simp only [Act.put, List.setIfInBounds_toArray, List.set_cons_zero, List.set_cons_succ]
      refine wpAnyH_ready (rs := [9]) (by kernel_rfl) (by simp) ?_
      refine AllReadyH.cons (i := 9) rfl (fun K' hK => ?_) AllReadyH.nil
      have HK9 := Lib.hid ((HKD.out.grow HBw8.out).grow HBw9.out)
      refine step_append_at rfl (.tmp 14) (.tmp 21) 24 rfl (W.heap.size + 3) 66 i66 _ 2 16 Tryz.underlying24 hi hz0 hz1 hz2 rfl (by decide) (.slice ga k gc) k (putV (freshL th sl lo' bu k)) rfl (HK9.out.own.alloc _) ⟨w9.heap.size, 0, none⟩ 1 1 [.int .i64 at0, .int .u64 lk] rfl rfl (fun j u hj => cell_alloc w9 _ 66 j u hj) (by simp [Value.oneCell']) (by have := HJ.out; unfold maxLen; omega) (by have := HJ.out; omega) (by have := HZ0.out; have := HZw9.out; simp; omega) ?_
      intro v' w1 ho hg hbl
      obtain ⟨ua, um, uc, rfl⟩ := own_slice ho
      have hlo := fun q (hq : (Value.slice ga k gc).ownBlock = some q) => (HK9.out.own.lt q hq).1
      have hkV : w1.heap[W.heap.size]? = Wd.heap[W.heap.size]? := (hg.block _ (by have := HZ0.out; have := HZw9.out; simp; omega) (fun e => by have := hlo _ e.symm; omega)).trans (kS _).1
      have hkX : w1.heap[W.heap.size + 2]? = Wd.heap[W.heap.size + 2]? := (hg.block _ (by have := HZ0.out; have := HZw9.out; simp; omega) (fun e => by have := hlo _ e.symm; omega)).trans (kS _).2
      refine hK.out _ _ ⟨hkV, hkX⟩ (fun _ => ?_)
      clear hK K' SV SX hlo
      have HP := Lib.hid (HK9.out.push ((Below.refl _ w9).alloc (Nat.le_refl _) _) ho hg)
      clear ho hg hbl kS
      have SV := hkV
      have SX := hkX
      clear hkV hkX
      try simp only [Act.put, List.setIfInBounds_toArray, List.set_cons_zero, List.set_cons_succ]
      refine take_at 10 (some 23) (.pointer (some ⟨W.heap.size + 2, 4, none⟩)) rfl rfl (by kernel_rfl) (by kernel_rfl) (by kernel_rfl) (fun _ _ _ h => h) (Or.inl ⟨by rfl, ?_⟩) ⟨SV, SX⟩ ?_
      · intro w hSw
        obtain ⟨⟨f0, f1, f2, f3⟩, f4⟩ := HF.out w hSw
        clear hSw
        go_simp
      try simp only [Act.put, List.setIfInBounds_toArray, List.set_cons_zero, List.set_cons_succ]
      refine wpAnyH_done (by kernel_rfl) ?_ _
      unfold ThenOp
      have c3 : w1.cell? ⟨W.heap.size + 2, 4, none⟩ = some (.slice ga k gc) := (HF.out w1 ⟨SV, SX⟩).2
      have f3 : w1.frozen? ⟨W.heap.size + 2, 4, none⟩ = false := by
        unfold World.frozen?; rw [SX, HKD.out.g]; simp
      clear SV SX
      dsimp only
      have HPX := Lib.hid (HEX.out _ _ HP.out)
      clear HEX HP
      go_simp
      go_wp2_with fail
      go_roundw
      case rel =>
        have hw : wrap64 (j + 1) = j + 1 := by have := HJ.out; unfold wrap64; omega
        exact ⟨k + 1, j + 1, _, by have := HJ.out; have := HLT.out; omega, by rw [hw], by have := HJ.out; omega, HPX⟩
      case measure =>
        have hw : wrap64 (j + 1) = j + 1 := by have := HJ.out; unfold wrap64; omega
        rw [hw]
        have h := HLT.out
        have h2 := HJ.out
        show 4 - (j + 1).toNat < 4 - j.toNat
        omega
    · have d1 : decide (j ≤ 3) = false := bool_no hlt
      have HE : Hid (k = 2) := Lib.hid (by omega)
      have HK2 : Hid (FrAt W th sl lo' bu (0 + 2) pv (freshL th sl lo' bu (0 + 2)) wr) := Lib.hid (by have h := HK.out; rw [HE.out] at h; exact h)
      clear hlt hk hj HK
      go_wp2_with fail
      go_loopw [5, 6] (fun a u wr => ∃ (k : Nat) (s at_ : Int) (pv : Value), k + 1 ≤ sl ∧ u = .int .i64 s ∧ s = (k : Int) + 1 ∧ a = .int .i64 at_ ∧ at_ = (freshP th sl lo' bu (k + 2)).1 ∧ Hid (FrAt W th sl lo' bu (k + 2) pv (freshL th sl lo' bu (k + 2)) wr)) (fun _ u _ => sl - (intOf u).toNat)
      case atStart => exact ⟨0, 1, -2, _, HSL.out.2, rfl, by omega, rfl, rfl, HK2⟩
      case round =>
        obtain ⟨k, s, at_, pv, hk, rfl, hs, rfl, hat, HK⟩ := hrel
        have HJ2 := Lib.hid (And.intro hk (And.intro hs hat))
        have q0 : wr.cell? ⟨W.heap.size, 0, none⟩ = some (.int .i64 (th : Int)) := cell_row HK.out.cfg 0 _ rfl
        have q1 : wr.cell? ⟨W.heap.size, 1, none⟩ = some (.int .i64 (sl : Int)) := cell_row HK.out.cfg 1 _ rfl
        have q2 : wr.cell? ⟨W.heap.size, 2, none⟩ = some (.int .i64 (lo' : Int)) := cell_row HK.out.cfg 2 _ rfl
        have q3 : wr.cell? ⟨W.heap.size, 3, none⟩ = some (.int .i64 (bu : Int)) := cell_row HK.out.cfg 3 _ rfl
        by_cases hlt : s < (sl : Int)
        · have d2 : decide (s < (sl : Int)) = true := bool_yes hlt
          have HLT := Lib.hid hlt
          have s0 : 0 ≤ s := by omega
          have s1 : s ≤ 1000 := by have := HSL.out; omega
          have ho := HK.out.own
          obtain ⟨ga, gc, rfl⟩ := own_slice_n ho
          obtain ⟨n0, hn0⟩ : ∃ n0, n0 = k + 2 := ⟨_, rfl⟩
          rw [← hn0] at ho HK
          have HO := Lib.hid ho
          have HN0 := Lib.hid hn0
          have q4 : wr.cell? ⟨W.heap.size + 2, 4, none⟩ = some (.slice ga n0 gc) := cell_row HK.out.g 4 _ rfl
          have f4 : wr.frozen? ⟨W.heap.size + 2, 4, none⟩ = false := by unfold World.frozen?; rw [HK.out.g]; simp
          have HSZ : Hid (W.heap.size + 3 ≤ wr.heap.size) := Lib.hid (lt_row HK.out.g)
          clear hlt hk hs hat ho hn0
          go_wp2_with (at_builtin; refine wpList_push rfl _ _ 24 rfl (W.heap.size + 3) 66 i66 _ 2 16 Tryz.underlying24 hi hz0 hz1 hz2 rfl (by decide) wr HSZ.out (.slice ga n0 gc) n0 (putV (freshL th sl lo' bu n0)) rfl HO.out _ 1 1 (by rfl) (by rfl) (by simp [Value.oneCell']) (by have := HN0.out; have := HJ2.out; have := HSL.out; unfold maxLen; omega) (by have := HN0.out; have := HJ2.out; have := HSL.out; omega) ?_; intro v' w' hown hgr hbel hne; obtain ⟨ua, um, uc, rfl⟩ := own_slice hown; have hx : w'.heap[W.heap.size + 2]? = some (.cells #[.int .i64 (th : Int), .int .i64 (sl : Int), .int .i64 (lo' : Int), .int .i64 (bu : Int), .slice ga n0 gc] 26 (0, 0)) := (hgr.block _ (lt_row HK.out.g) (fun e => by have := (HO.out.lt _ e.symm).1; omega)).trans HK.out.g; have q5 : w'.cell? ⟨W.heap.size + 2, 4, none⟩ = some (.slice ga n0 gc) := cell_row hx 4 _ rfl; have f5 : w'.frozen? ⟨W.heap.size + 2, 4, none⟩ = false := (by unfold World.frozen?; rw [hx]; simp); have hx0 : w'.heap[W.heap.size]? = some (.cells #[.int .i64 (th : Int), .int .i64 (sl : Int), .int .i64 (lo' : Int), .int .i64 (bu : Int)] 23 (0, 0)) := (hgr.block _ (lt_row HK.out.cfg) (fun e => by have := (HO.out.lt _ e.symm).1; omega)).trans HK.out.cfg; have r0 := cell_row hx0 0 _ rfl; have r1 := cell_row hx0 1 _ rfl; have r2 := cell_row hx0 2 _ rfl; have r3 := cell_row hx0 3 _ rfl; have HP := Lib.hid (HK.out.push (Below.refl _ _) hown hgr); clear hgr hbel hne hown hx hx0)
          refine (HAF.out s _).mono ?_
          rintro e w5 ⟨rfl, hb⟩
          have HPF := Lib.hid (HP.out.grow hb)
          clear hb
          have HFX : Hid (∀ (v' : Value) (w2 : World), FrAt W th sl lo' bu (n0 + 1) v' (freshL th sl lo' bu n0 ++ [(at_, s + 1)]) w2 → FrAt W th sl lo' bu (k + 1 + 2) v' (freshL th sl lo' bu (k + 1 + 2)) w2) := Lib.hid fun v' w2 h => by
            have h2 := HJ2.out
            rw [HN0.out] at h
            rw [show k + 1 + 2 = k + 2 + 1 by omega, freshL_succ]
            have e : freshP th sl lo' bu (k + 2) = (at_, s + 1) := by
              rw [h2.2.2]
              cases k with
              | zero => rw [show s = 1 by omega]; rfl
              | succ k => rw [show s + 1 = (k : Int) + 3 by omega]; rfl
            rw [e]; exact h
          go_wp2_with fail
          go_roundw
          case rel =>
            have hw : wrap64 (s + 1) = s + 1 := by unfold wrap64; omega
            exact ⟨k + 1, s + 1, _, _, by have := HJ2.out; have := HLT.out; omega, by first | rfl | rw [hw], by have := HJ2.out; omega, rfl, by rw [show s = (k : Int) + 1 from HJ2.out.2.1]; rfl, Lib.hid (HFX.out _ _ HPF.out)⟩
          case measure =>
            have hw : wrap64 (s + 1) = s + 1 := by unfold wrap64; omega
            try rw [hw]
            have h := HLT.out
            show sl - (s + 1).toNat < sl - s.toNat
            omega
        · have d2 : decide (s < (sl : Int)) = false := bool_no hlt
          have HKE : Hid (k + 2 = sl + 1) := Lib.hid (by omega)
          have z0 : wr.cell? ⟨W.heap.size + 2, 0, none⟩ = some (.int .i64 (th : Int)) := cell_row HK.out.g 0 _ rfl
          have z1 : wr.cell? ⟨W.heap.size + 2, 1, none⟩ = some (.int .i64 (sl : Int)) := cell_row HK.out.g 1 _ rfl
          have z2 : wr.cell? ⟨W.heap.size + 2, 2, none⟩ = some (.int .i64 (lo' : Int)) := cell_row HK.out.g 2 _ rfl
          have z3 : wr.cell? ⟨W.heap.size + 2, 3, none⟩ = some (.int .i64 (bu : Int)) := cell_row HK.out.g 3 _ rfl
          have z4 : wr.cell? ⟨W.heap.size + 2, 4, none⟩ = some pv := cell_row HK.out.g 4 _ rfl
          have y0 : wr.cell? ⟨W.heap.size + 1, 0, none⟩ = some (.int .i64 0) := cell_row HK.out.res 0 _ rfl
          have y1 : wr.cell? ⟨W.heap.size + 1, 1, none⟩ = some (.int .i64 0) := cell_row HK.out.res 1 _ rfl
          have y2 : wr.cell? ⟨W.heap.size + 1, 2, none⟩ = some (.int .i64 0) := cell_row HK.out.res 2 _ rfl
          have y3 : wr.cell? ⟨W.heap.size + 1, 3, none⟩ = some (.int .i64 0) := cell_row HK.out.res 3 _ rfl
          have y4 : wr.cell? ⟨W.heap.size + 1, 4, none⟩ = some (.slice none 0 0) := cell_row HK.out.res 4 _ rfl
          have fr : ∀ j, wr.frozen? ⟨W.heap.size + 1, j, none⟩ = false := fun j => by unfold World.frozen?; rw [HK.out.res]; simp
          obtain ⟨ga, gc, rfl⟩ := own_slice_n HK.out.own
          clear hlt hk hs hat
          go_wp2_with fail
          obtain ⟨wf, hwf⟩ : ∃ wf, wf = (((((wr.setCell ⟨W.heap.size + 1, 0, none⟩ (.int .i64 (th : Int))).setCell ⟨W.heap.size + 1, 1, none⟩ (.int .i64 (sl : Int))).setCell ⟨W.heap.size + 1, 2, none⟩ (.int .i64 (lo' : Int))).setCell ⟨W.heap.size + 1, 3, none⟩ (.int .i64 (bu : Int))).setCell ⟨W.heap.size + 1, 4, none⟩ (.slice ga (k + 2) gc)) := ⟨_, rfl⟩
          rw [← hwf]
          have hr : wf.heap[W.heap.size + 1]? = some (.cells #[.int .i64 (th : Int), .int .i64 (sl : Int), .int .i64 (lo' : Int), .int .i64 (bu : Int), .slice ga (k + 2) gc] 26 (0, 0)) := by
            rw [hwf]
            have := heap_set (j := 4) (.slice ga (k + 2) gc) (heap_set (j := 3) (.int .i64 (bu : Int)) (heap_set (j := 2) (.int .i64 (lo' : Int)) (heap_set (j := 1) (.int .i64 (sl : Int)) (heap_set (j := 0) (.int .i64 (th : Int)) HK.out.res))))
            simpa using this
          have ho : ∀ q, q ≠ W.heap.size + 1 → wf.heap[q]? = wr.heap[q]? := fun q hq => by rw [hwf]; exact (heap_set_other hq).trans ((heap_set_other hq).trans ((heap_set_other hq).trans ((heap_set_other hq).trans (heap_set_other hq))))
          have hs : wr.heap.size ≤ wf.heap.size := by rw [hwf]; simp [World.setCell]
          have hos : wf.os = wr.os ∧ wf.tape = wr.tape ∧ wf.output = wr.output := by rw [hwf]; exact ⟨rfl, rfl, rfl⟩
          have HFIN : Hid (Below W.heap.size W wf ∧ wf.ownsRow (W.heap.size + 3) 66 2 (.slice ga (k + 2) gc) (sl + 1) (putV (freshL th sl lo' bu (sl + 1)))) := Lib.hid (by
            have hb := HK.out.below
            refine ⟨⟨hos.1.trans hb.os, hos.2.1.trans hb.tape, hos.2.2.trans hb.output, Nat.le_trans hb.size hs, fun q hq => (ho q (by omega)).trans (hb.block q hq)⟩, ?_⟩
            have h := HK.out.own
            rw [← HKE.out]
            exact own_keep' h fun q hq => ho q (by have := (h.lt q hq).1; omega))
          have v0 := cell_row hr 0 _ rfl
          have v1 := cell_row hr 1 _ rfl
          have v2 := cell_row hr 2 _ rfl
          have v3 := cell_row hr 3 _ rfl
          have v4 := cell_row hr 4 _ rfl
          clear hr ho hs hos hwf z0 z1 z2 z3 z4 y0 y1 y2 y3 y4 fr q0 q1 q2 q3 d2
          have e : Tryz.f66.results = #[.cell 2 26] := rfl
          refine bodyPost_ret (v := .agg #[.int .i64 (th : Int), .int .i64 (sl : Int), .int .i64 (lo' : Int), .int .i64 (bu : Int), .slice ga (k + 2) gc]) ?_ rfl ⟨_, rfl, HFIN.out.1, HFIN.out.2⟩
          unfold results
          rw [e]
          go_simp
end Go.Proofs.YtibelcmdfkgonaaGreat
