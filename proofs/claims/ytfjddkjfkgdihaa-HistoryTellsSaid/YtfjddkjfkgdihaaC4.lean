/- Walk of layer 24's reference: which calls may be. -/
import Derived.Test.YtfjddkjfkgdihaaC3
import Derived.WalkSmall
namespace Go.Proofs.Ytfjddkjfkgdihaa
open Go.RowKit Go.BigFrame
set_option linter.unusedVariables false

set_option maxRecDepth 100000 in
set_option maxHeartbeats 4000000 in
/-- The reference's answer, on the way of an answered call. -/
theorem refMay_loop (th ki ky va rk rv be en wh : Int) (kp hb r : Bool) (L : List (Int × Int)) (w : World) (k1 : 1 ≤ ki) (k8 : ki ≤ 8) (b0 : 0 ≤ be)
    (HL : Hid (resT ki = L)) (HH : Hid ((∀ i, i < L.length → hitB L rk rv i = true → hb = true) ∧ ((∀ i, i < L.length → hitB L rk rv i = false) → hb = false)))
    (HR : Hid (r = (hb && (!kp && decide (be < wh) && decide (wh ≤ en))))) (hl : L.length ≤ 3) :
    Calls Try.prog 39 #[.agg #[.int .i64 th, .int .i64 ki, .int .u32 ky, .int .u32 va, .int .i64 rk, .int .u32 rv, .int .i64 be, .int .i64 en, .int .i64 wh, .bool false, .bool kp]] w (BoolOn r w) := by
  go_enter Try.func39, Try.ntmps39
  go_wp2_with fail
  refine (results_any ki k1 k8 _).mono ?_
  rintro e w1 ⟨t, rfl, rfl⟩
  rw [HL.out]
  have HC : Hid (∃ W0 : World, W0 = (w.alloc (.cells #[.int .i64 th, .int .i64 ki, .int .u32 ky, .int .u32 va, .int .i64 rk, .int .u32 rv, .int .i64 be, .int .i64 en, .int .i64 wh, .bool false, .bool kp] 65)).alloc (.cells (L.flatMap fun p => [Value.int .i64 p.1, .int .i64 p.2]).toArray t) ∧
      (∀ i, i < L.length → W0.cell? ⟨w.heap.size + 1, i * 2, none⟩ = some (.int .i64 (L.getD i (0, 0)).1) ∧ W0.cell? ⟨w.heap.size + 1, i * 2 + 1, none⟩ = some (.int .i64 (L.getD i (0, 0)).2)) ∧ Below w.heap.size w W0) := by
    refine Lib.hid ⟨_, rfl, fun i hi => ?_, ((Below.refl _ _).alloc (Nat.le_refl _) _).alloc (by simp) _⟩
    have := resT_cells L (w.alloc (.cells #[.int .i64 th, .int .i64 ki, .int .u32 ky, .int .u32 va, .int .i64 rk, .int .u32 rv, .int .i64 be, .int .i64 en, .int .i64 wh, .bool false, .bool kp] 65)) t i hi
    simpa using this
  have e4 : ∀ j (u : Value), (#[Value.int .i64 th, .int .i64 ki, .int .u32 ky, .int .u32 va, .int .i64 rk, .int .u32 rv, .int .i64 be, .int .i64 en, .int .i64 wh, .bool false, .bool kp] : Array Value).toList[j]? = some u → ((w.alloc (.cells #[.int .i64 th, .int .i64 ki, .int .u32 ky, .int .u32 va, .int .i64 rk, .int .u32 rv, .int .i64 be, .int .i64 en, .int .i64 wh, .bool false, .bool kp] 65)).alloc (.cells (L.flatMap fun p => [Value.int .i64 p.1, .int .i64 p.2]).toArray t)).cell? ⟨w.heap.size, j, none⟩ = some u := fun j u h => by
    have := cell_alloc w #[Value.int .i64 th, .int .i64 ki, .int .u32 ky, .int .u32 va, .int .i64 rk, .int .u32 rv, .int .i64 be, .int .i64 en, .int .i64 wh, .bool false, .bool kp] 65 j u h
    rw [Addr.add_lit, Nat.zero_add] at this
    rw [World.cell?_alloc_past _ _ _ (by simp)]
    exact this
  have c4 := e4 4 _ rfl
  have c5 := e4 5 _ rfl
  have c6 := e4 6 _ rfl
  have c7 := e4 7 _ rfl
  have c8 := e4 8 _ rfl
  have c10 := e4 10 _ rfl
  clear e4
  go_wp2_with fail
  obtain ⟨W, hW, hcells, hbel⟩ := HC.out
  rw [← hW] at c4 c5 c6 c7 c8 c10 ⊢
  have HCE := Lib.hid hcells
  have HBE := Lib.hid hbel
  clear HC hW hcells hbel
  go_loopw [6] (fun i wr => ∃ (k n : Nat), k ≤ L.length ∧ i = .int .i64 k ∧ wr = W.drewN n ∧ Hid (∀ j, j < k → hitB L rk rv j = false)) (fun i _ => L.length - (intOf i).toNat)
  case atStart => exact ⟨0, 0, Nat.zero_le _, rfl, rfl, Lib.hid fun j hj => absurd hj (by omega)⟩
  case round =>
    obtain ⟨k, n, hk, rfl, rfl, HP⟩ := hrel
    by_cases hlt : k < L.length
    · obtain ⟨d1, d2⟩ := HCE.out k hlt
      have HB : Hid (hitB L rk rv k = ((L.getD k (0, 0)).1 == rk && ((L.getD k (0, 0)).2 == 1 || rv == 0))) := Lib.hid rfl
      have HN : Hid (hitB L rk rv k = false → ∀ j, j < k + 1 → hitB L rk rv j = false) := Lib.hid fun h j hj => by
        rcases Nat.lt_or_ge j k with h' | h'
        · exact HP.out j h'
        · rw [show j = k by omega]; exact h
      have HY := Lib.hid (HH.out.1 k hlt)
      generalize hitB L rk rv k = hv at *
      generalize (L.getD k (0, 0)).1 = x at *
      generalize (L.getD k (0, 0)).2 = y at *
      have k0 : (0 : Int) ≤ (k : Int) := by omega
      have k1' : (k : Int) < (L.length : Int) := by omega
      cases b1 : (x == rk)
      · have HF : Hid (hv = false) := Lib.hid (by rw [HB.out, b1]; rfl)
        go_wp2_with fail
        go_quiet (fail)
        go_wp2
        go_roundw
        case rel => exact ⟨k + 1, n + nq, by omega, by go_num, rfl, Lib.hid (HN.out HF.out)⟩
        case measure => simp [intOf]; omega
      · cases b2 : (y == 1)
        · cases b3 : (rv == 0)
          · have HF : Hid (hv = false) := Lib.hid (by rw [HB.out, b1, b2, b3]; rfl)
            go_wp2_with fail
            go_quiet (fail)
            go_wp2
            go_roundw
            case rel => exact ⟨k + 1, n + nq, by omega, by go_num, rfl, Lib.hid (HN.out HF.out)⟩
            case measure => simp [intOf]; omega
          · have HF : Hid (hv = true) := Lib.hid (by rw [HB.out, b1, b2, b3]; rfl)
            have HR2 : Hid (r = (!kp && decide (be < wh) && decide (wh ≤ en))) := Lib.hid (by rw [HR.out, HY.out HF.out]; simp)
            clear HY
            cases kp
            · by_cases h5 : be < wh
              · by_cases h6 : wh ≤ en
                all_goals
                  go_wp2_with fail
                  go_quiet (fail)
                  go_wp2
                  go_ret
                  exact ⟨by rw [HR2.out]; first | rfl | (simp; done) | (simp; intros; omega), below_drewN HBE.out _⟩
              · go_wp2_with fail
                go_quiet (fail)
                go_wp2
                go_ret
                exact ⟨by rw [HR2.out]; first | rfl | (simp; done) | (simp; intros; omega), below_drewN HBE.out _⟩
            · go_wp2_with fail
              go_quiet (fail)
              go_wp2
              go_ret
              exact ⟨by rw [HR2.out]; first | rfl | (simp; done) | (simp; intros; omega), below_drewN HBE.out _⟩
        · have HF : Hid (hv = true) := Lib.hid (by rw [HB.out, b1, b2]; rfl)
          have HR2 : Hid (r = (!kp && decide (be < wh) && decide (wh ≤ en))) := Lib.hid (by rw [HR.out, HY.out HF.out]; simp)
          clear HY
          cases kp
          · by_cases h5 : be < wh
            · by_cases h6 : wh ≤ en
              all_goals
                go_wp2_with fail
                go_quiet (fail)
                go_wp2
                go_ret
                exact ⟨by rw [HR2.out]; first | rfl | (simp; done) | (simp; intros; omega), below_drewN HBE.out _⟩
            · go_wp2_with fail
              go_quiet (fail)
              go_wp2
              go_ret
              exact ⟨by rw [HR2.out]; first | rfl | (simp; done) | (simp; intros; omega), below_drewN HBE.out _⟩
          · go_wp2_with fail
            go_quiet (fail)
            go_wp2
            go_ret
            exact ⟨by rw [HR2.out]; first | rfl | (simp; done) | (simp; intros; omega), below_drewN HBE.out _⟩
    · obtain rfl : k = L.length := by omega
      have HF : Hid (r = false) := Lib.hid (by rw [HR.out, HH.out.2 HP.out]; rfl)
      go_wp2
      go_ret
      exact ⟨by rw [HF.out]; rfl, below_drewN HBE.out _⟩
end Go.Proofs.Ytfjddkjfkgdihaa
