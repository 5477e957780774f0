/- Walk of the reference's Right. -/
import Derived.Test.YtfjddkjfkgdihaaC6
import Derived.Test.YtfjddkjfkgdihaaVoc
namespace Go.Proofs.Ytfjddkjfkgdihaa
open Go.RowKit Go.BigFrame
set_option linter.unusedVariables false

theorem lastOf_skip (c : Nat → CallD) (t : Int) (i j : Nat) (hj : j ≤ i) (h : ∀ m, j ≤ m → m < i → (c m).th ≠ t) : lastOf c i t = lastOf c j t := by
  induction i with
  | zero => rw [show j = 0 by omega]
  | succ i ih =>
    by_cases e : j = i + 1
    · rw [e]
    · rw [lastOf, if_neg (fun e => h i (by omega) (by omega) e.symm)]
      exact ih (by omega) fun m h1 h2 => h m h1 (by omega)

set_option maxRecDepth 100000 in
set_option maxHeartbeats 4000000 in
theorem refRight_any (b off len cap : Nat) (c : Nat → CallD) (w : World) (hl : len ≤ 100) (hb : b < w.heap.size) (hc : ∀ i, i < len → CallAt w b (off + i * 11) (c i)) :
    Calls Try.prog 41 #[.slice (some ⟨b, off, none⟩) len cap] w (BoolOn (rightTo c len) w) := by
  have HC := Lib.hid hc; clear hc
  have HBB := Lib.hid hb; clear hb
  obtain ⟨r, hr⟩ : ∃ r, r = rightTo c len := ⟨_, rfl⟩
  rw [← hr]
  have HR := Lib.hid hr; clear hr
  obtain ⟨B, hB⟩ : ∃ B, B = w.heap.size := ⟨_, rfl⟩
  rw [← hB] at HBB
  have HB := Lib.hid hB; clear hB
  go_enter Try.func41, Try.ntmps41
  go_wp2_with fail
  go_loopw [3] (fun i wr => ∃ k : Nat, k ≤ len ∧ i = .int .i64 k ∧ Hid (rightTo c k = true) ∧ Hid (Below B w wr)) (fun i _ => len - (intOf i).toNat)
  case atStart => exact ⟨0, Nat.zero_le _, rfl, Lib.hid rfl, Below.refl _ _⟩
  case round =>
    obtain ⟨k, hk, rfl, HRT, HBE⟩ := hrel
    by_cases hlt : k < len
    · have hsz := HBE.out.size
      have hBw : B ≤ wr.heap.size := by rw [HB.out]; exact hsz
      have HAT : Hid (∀ i, i < len → ∀ x : Over wr.heap.size wr, CallAt x.w b (off + i * 11) (c i)) := Lib.hid fun i hi x =>
        (HC.out i hi).of fun o => (HBE.out.trans (x.below.mono hBw)).cell (p := ⟨b, o, none⟩) HBB.out
      have HMAY := Lib.hid fun w => refMay_any (c k) w
      simp only [CallD.cells] at HMAY
      have HOK : Hid (okAt c k = ((c k).mayB && !(decide (0 < k) && decide ((c k).be < (c (k - 1)).be)) && (match lastOf c k (c k).th with | none => true | some j => !(!(c j).cr && decide ((c k).be < (c j).en))))) := Lib.hid rfl
      have HRF : Hid (okAt c k = false → r = false) := Lib.hid fun h => by rw [HR.out]; exact rightTo_false c k len hlt h
      have HRT2 : Hid (okAt c k = true → rightTo c (k + 1) = true) := Lib.hid fun h => by unfold rightTo; rw [HRT.out, h]; rfl
      have i0 : (0 : Int) ≤ (k : Int) := by omega
      have i1 : (k : Int) < (len : Int) := by omega
      have d0 := fun x => (HAT.out k hlt x).1
      have d1 := fun x => (HAT.out k hlt x).2.1
      have d2 := fun x => (HAT.out k hlt x).2.2.1
      have d3 := fun x => (HAT.out k hlt x).2.2.2.1
      have d4 := fun x => (HAT.out k hlt x).2.2.2.2.1
      have d5 := fun x => (HAT.out k hlt x).2.2.2.2.2.1
      have d6 := fun x => (HAT.out k hlt x).2.2.2.2.2.2.1
      have d7 := fun x => (HAT.out k hlt x).2.2.2.2.2.2.2.1
      have d8 := fun x => (HAT.out k hlt x).2.2.2.2.2.2.2.2.1
      have d9 := fun x => (HAT.out k hlt x).2.2.2.2.2.2.2.2.2.1
      have d10 := fun x => (HAT.out k hlt x).2.2.2.2.2.2.2.2.2.2
      generalize (c k).mayB = mb at *
      cases mb
      · have HF : Hid (r = false) := Lib.hid (HRF.out (by rw [HOK.out]; rfl))
        go_wp2_with fail
        refine region_quiet_of (fun x : Over wr.heap.size wr => x.w) (by kernel_rfl) (by kernel_rfl) (Over.first _ _) (Over.first_w _ _) ?_
        repeat (first | go_big_quiet_skip | (go_big_quiet_want; go_big_quiet_op; first | go_big_quiet_on | go_big_quiet_call ((rename_i x; go_at_call 39; refine (HMAY.out _).mono ?_; rintro e w' ⟨rfl, hb⟩; exact ⟨rfl, x.on w' (hb.mono x.below.size), rfl⟩)))) 
        refine wpQuiet_nil ?_
        rintro _ ⟨x, rfl⟩
        go_wp2
        go_ret
        exact ⟨by rw [HF.out]; rfl, by rw [← HB.out]; exact HBE.out.trans (x.below.mono hBw)⟩
      · -- BODY
        by_cases hk0 : k = 0
        · have HK0 : Hid (okAt c k = (match lastOf c k (c k).th with | none => true | some j => !(!(c j).cr && decide ((c k).be < (c j).en)))) := Lib.hid (by rw [HOK.out, hk0]; rfl)
          have hz1 : decide (0 < k) = false := by simp [hk0]
          have hz2 : decide ((0 : Int) < (k : Int)) = false := by simp [hk0]
          clear hk0
          go_wp2_with fail
          refine region_quiet_of (fun x : Over wr.heap.size wr => x.w) (by kernel_rfl) (by kernel_rfl) (Over.first _ _) (Over.first_w _ _) ?_
          repeat (first | go_big_quiet_skip | (go_big_quiet_want; go_big_quiet_op; first | go_big_quiet_on | go_big_quiet_call ((rename_i x; go_at_call 39; refine (HMAY.out _).mono ?_; rintro e w' ⟨rfl, hb⟩; exact ⟨rfl, x.on w' (hb.mono x.below.size), rfl⟩))))
          refine wpQuiet_nil ?_
          rintro _ ⟨x, rfl⟩
          have HBX : Hid (Below B w x.w) := Lib.hid (HBE.out.trans (x.below.mono hBw))
          have HAX : Hid (∀ i, i < len → CallAt x.w b (off + i * 11) (c i)) := Lib.hid fun i hi => HAT.out i hi x
          have q0 := (HAX.out k hlt).1
          have q6 := (HAX.out k hlt).2.2.2.2.2.2.1
          clear d0 d1 d2 d3 d4 d5 d6 d7 d8 d9 d10
          obtain ⟨W, hW⟩ : ∃ W, W = x.w := ⟨_, rfl⟩
          rw [← hW] at HBX HAX q0 q6 ⊢
          clear hW
          go_wp2_with fail
          go_loopw [4] (fun i wi => ∃ (j n : Nat), j ≤ k ∧ i = .int .i64 ((j : Int) - 1) ∧ wi = W.drewN n ∧ Hid (∀ m, j ≤ m → m < k → (c m).th ≠ (c k).th)) (fun i _ => (intOf i + 1).toNat)
          case atStart => exact ⟨k, 0, Nat.le_refl _, rfl, rfl, Lib.hid fun m h1 h2 => absurd h1 (by omega)⟩
          case round =>
            obtain ⟨j, n, hj, rfl, rfl, HS⟩ := hrel
            cases j with
            | zero =>
              have HK : Hid (okAt c k = true) := Lib.hid (by rw [HK0.out, lastOf_skip c _ k 0 (by omega) HS.out]; rfl)
              go_wp2_with fail
              go_roundw
              case rel => exact ⟨k + 1, by omega, by go_num, Lib.hid (HRT2.out HK.out), Lib.hid (below_drewN HBX.out _)⟩
              case measure => simp [intOf]; omega
            | succ m =>
              have e1 : ((m + 1 : Nat) : Int) - 1 = (m : Int) := by omega
              rw [e1]
              have hm : m < len := by omega
              have j0 : (0 : Int) ≤ (m : Int) := by omega
              have j1 : (m : Int) < (len : Int) := by omega
              have p0 := (HAX.out m hm).1
              have p7 := (HAX.out m hm).2.2.2.2.2.2.2.1
              have p9 := (HAX.out m hm).2.2.2.2.2.2.2.2.2.1
              have HLO : Hid (lastOf c k (c k).th = if (c k).th = (c m).th then some m else lastOf c m (c k).th) := Lib.hid (by rw [lastOf_skip c _ k (m + 1) (by omega) HS.out]; rfl)
              have HS2 : Hid (¬ (c m).th = (c k).th → ∀ q, m ≤ q → q < k → (c q).th ≠ (c k).th) := Lib.hid fun h q h1 h2 => by
                by_cases e : q = m
                · rw [e]; exact h
                · exact HS.out q (by omega) h2
              by_cases hth : (c m).th = (c k).th
              · have HL2 : Hid (lastOf c k (c k).th = some m) := Lib.hid (by rw [HLO.out, if_pos hth.symm])
                have ht : ((c m).th == (c k).th) = true := by simp [hth]
                clear hth
                have HK1 : Hid (okAt c k = !(!(c m).cr && decide ((c k).be < (c m).en))) := Lib.hid (by rw [HK0.out, HL2.out])
                cases hcr : (c m).cr
                · rw [hcr] at p9
                  by_cases hen : (c k).be < (c m).en
                  · have HF : Hid (r = false) := Lib.hid (HRF.out (by rw [HK1.out]; simp [hcr, hen]))
                    clear hcr
                    generalize (c m).en = en at *
                    go_wp2_with fail
                    go_quiet (fail)
                    go_wp2_with fail
                    go_quiet (fail)
                    go_wp2_with fail
                    go_ret
                    exact ⟨by rw [HF.out]; rfl, by rw [← HB.out]; exact (by first | exact below_drewN HBX.out _ | exact below_drewN (below_drewN HBX.out _) _ | exact below_drewN (below_drewN (below_drewN HBX.out _) _) _)⟩
                  · have HK : Hid (okAt c k = true) := Lib.hid (by rw [HK1.out]; simp [hen])
                    have hen' : (c m).en ≤ (c k).be := by omega
                    clear hcr hen
                    generalize (c m).en = en at *
                    go_wp2_with fail
                    go_quiet (fail)
                    go_wp2_with fail
                    go_quiet (fail)
                    go_wp2_with fail
                    go_roundw
                    case rel => exact ⟨k + 1, by omega, by go_num, Lib.hid (HRT2.out HK.out), Lib.hid (below_drewN HBX.out _)⟩
                    case measure => simp [intOf]; omega
                · have HK : Hid (okAt c k = true) := Lib.hid (by rw [HK1.out, hcr]; rfl)
                  rw [hcr] at p9
                  clear hcr
                  go_wp2_with fail
                  go_quiet (fail)
                  go_wp2_with fail
                  go_quiet (fail)
                  go_wp2_with fail
                  go_roundw
                  case rel => exact ⟨k + 1, by omega, by go_num, Lib.hid (HRT2.out HK.out), Lib.hid (below_drewN HBX.out _)⟩
                  case measure => simp [intOf]; omega
              · have HS3 := Lib.hid (HS2.out hth)
                have ht : ((c m).th == (c k).th) = false := by simp [hth]
                clear hth
                go_wp2_with fail
                go_quiet (fail)
                go_wp2_with fail
                go_roundw
                case rel => exact ⟨m, _, by omega, by first | rfl | go_num, rfl, HS3⟩
                case measure => simp [intOf]
        · have hk1 : 0 < k := by omega
          have hk2 : (0 : Int) < (k : Int) := by omega
          have hk3 : ((k : Int) - 1).toNat = k - 1 := by omega
          have hk4 : (0 : Int) ≤ (k : Int) - 1 := by omega
          have hk5 : (k : Int) - 1 < (len : Int) := by omega
          have hk8 : (1 : Int) ≤ (k : Int) := by omega
          have hk9 : 1 ≤ k := by omega
          have hk7 : IntKind.i64.wrap ((k : Int) - 1) = (k : Int) - 1 := IntWalk.i64_in _ (by omega)
          have e6 := fun x => (HAT.out (k - 1) (by omega) x).2.2.2.2.2.2.1
          by_cases hbe : (c k).be < (c (k - 1)).be
          · have HF : Hid (r = false) := Lib.hid (HRF.out (by rw [HOK.out]; simp [hk1, hbe]))
            generalize (c (k - 1)).be = pb at *
            go_wp2_with fail
            refine region_quiet_of (fun x : Over wr.heap.size wr => x.w) (by kernel_rfl) (by kernel_rfl) (Over.first _ _) (Over.first_w _ _) ?_
            repeat (first | go_big_quiet_skip | (go_big_quiet_want; go_big_quiet_op; first | go_big_quiet_on | go_big_quiet_call ((rename_i x; go_at_call 39; refine (HMAY.out _).mono ?_; rintro e w' ⟨rfl, hb⟩; exact ⟨rfl, x.on w' (hb.mono x.below.size), rfl⟩))))
            refine wpQuiet_nil ?_
            rintro _ ⟨x, rfl⟩
            go_wp2
            go_ret
            exact ⟨by rw [HF.out]; rfl, by rw [← HB.out]; exact HBE.out.trans (x.below.mono hBw)⟩
          · have HK0 : Hid (okAt c k = (match lastOf c k (c k).th with | none => true | some j => !(!(c j).cr && decide ((c k).be < (c j).en)))) := Lib.hid (by rw [HOK.out]; simp [hbe])
            have hbe' : (c (k - 1)).be ≤ (c k).be := by omega
            clear hbe
            generalize (c (k - 1)).be = pb at *
            go_wp2_with fail
            refine region_quiet_of (fun x : Over wr.heap.size wr => x.w) (by kernel_rfl) (by kernel_rfl) (Over.first _ _) (Over.first_w _ _) ?_
            repeat (first | go_big_quiet_skip | (go_big_quiet_want; go_big_quiet_op; first | go_big_quiet_on | go_big_quiet_call ((rename_i x; go_at_call 39; refine (HMAY.out _).mono ?_; rintro e w' ⟨rfl, hb⟩; exact ⟨rfl, x.on w' (hb.mono x.below.size), rfl⟩))))
            refine wpQuiet_nil ?_
            rintro _ ⟨x, rfl⟩
            have HBX : Hid (Below B w x.w) := Lib.hid (HBE.out.trans (x.below.mono hBw))
            have HAX : Hid (∀ i, i < len → CallAt x.w b (off + i * 11) (c i)) := Lib.hid fun i hi => HAT.out i hi x
            have q0 := (HAX.out k hlt).1
            have q6 := (HAX.out k hlt).2.2.2.2.2.2.1
            clear d0 d1 d2 d3 d4 d5 d6 d7 d8 d9 d10
            obtain ⟨W, hW⟩ : ∃ W, W = x.w := ⟨_, rfl⟩
            rw [← hW] at HBX HAX q0 q6 ⊢
            clear hW
            go_wp2_with fail
            go_loopw [4] (fun i wi => ∃ (j n : Nat), j ≤ k ∧ i = .int .i64 ((j : Int) - 1) ∧ wi = W.drewN n ∧ Hid (∀ m, j ≤ m → m < k → (c m).th ≠ (c k).th)) (fun i _ => (intOf i + 1).toNat)
            case atStart => exact ⟨k, 0, Nat.le_refl _, rfl, rfl, Lib.hid fun m h1 h2 => absurd h1 (by omega)⟩
            case round =>
              obtain ⟨j, n, hj, rfl, rfl, HS⟩ := hrel
              cases j with
              | zero =>
                have HK : Hid (okAt c k = true) := Lib.hid (by rw [HK0.out, lastOf_skip c _ k 0 (by omega) HS.out]; rfl)
                go_wp2_with fail
                go_roundw
                case rel => exact ⟨k + 1, by omega, by go_num, Lib.hid (HRT2.out HK.out), Lib.hid (below_drewN HBX.out _)⟩
                case measure => simp [intOf]; omega
              | succ m =>
                have e1 : ((m + 1 : Nat) : Int) - 1 = (m : Int) := by omega
                rw [e1]
                have hm : m < len := by omega
                have j0 : (0 : Int) ≤ (m : Int) := by omega
                have j1 : (m : Int) < (len : Int) := by omega
                have p0 := (HAX.out m hm).1
                have p7 := (HAX.out m hm).2.2.2.2.2.2.2.1
                have p9 := (HAX.out m hm).2.2.2.2.2.2.2.2.2.1
                have HLO : Hid (lastOf c k (c k).th = if (c k).th = (c m).th then some m else lastOf c m (c k).th) := Lib.hid (by rw [lastOf_skip c _ k (m + 1) (by omega) HS.out]; rfl)
                have HS2 : Hid (¬ (c m).th = (c k).th → ∀ q, m ≤ q → q < k → (c q).th ≠ (c k).th) := Lib.hid fun h q h1 h2 => by
                  by_cases e : q = m
                  · rw [e]; exact h
                  · exact HS.out q (by omega) h2
                by_cases hth : (c m).th = (c k).th
                · have HL2 : Hid (lastOf c k (c k).th = some m) := Lib.hid (by rw [HLO.out, if_pos hth.symm])
                  have ht : ((c m).th == (c k).th) = true := by simp [hth]
                  clear hth
                  have HK1 : Hid (okAt c k = !(!(c m).cr && decide ((c k).be < (c m).en))) := Lib.hid (by rw [HK0.out, HL2.out])
                  cases hcr : (c m).cr
                  · rw [hcr] at p9
                    by_cases hen : (c k).be < (c m).en
                    · have HF : Hid (r = false) := Lib.hid (HRF.out (by rw [HK1.out]; simp [hcr, hen]))
                      clear hcr
                      generalize (c m).en = en at *
                      go_wp2_with fail
                      go_quiet (fail)
                      go_wp2_with fail
                      go_quiet (fail)
                      go_wp2_with fail
                      go_ret
                      exact ⟨by rw [HF.out]; rfl, by rw [← HB.out]; exact (by first | exact below_drewN HBX.out _ | exact below_drewN (below_drewN HBX.out _) _ | exact below_drewN (below_drewN (below_drewN HBX.out _) _) _)⟩
                    · have HK : Hid (okAt c k = true) := Lib.hid (by rw [HK1.out]; simp [hen])
                      have hen' : (c m).en ≤ (c k).be := by omega
                      clear hcr hen
                      generalize (c m).en = en at *
                      go_wp2_with fail
                      go_quiet (fail)
                      go_wp2_with fail
                      go_quiet (fail)
                      go_wp2_with fail
                      go_roundw
                      case rel => exact ⟨k + 1, by omega, by go_num, Lib.hid (HRT2.out HK.out), Lib.hid (below_drewN HBX.out _)⟩
                      case measure => simp [intOf]; omega
                  · have HK : Hid (okAt c k = true) := Lib.hid (by rw [HK1.out, hcr]; rfl)
                    rw [hcr] at p9
                    clear hcr
                    go_wp2_with fail
                    go_quiet (fail)
                    go_wp2_with fail
                    go_quiet (fail)
                    go_wp2_with fail
                    go_roundw
                    case rel => exact ⟨k + 1, by omega, by go_num, Lib.hid (HRT2.out HK.out), Lib.hid (below_drewN HBX.out _)⟩
                    case measure => simp [intOf]; omega
                · have HS3 := Lib.hid (HS2.out hth)
                  have ht : ((c m).th == (c k).th) = false := by simp [hth]
                  clear hth
                  go_wp2_with fail
                  go_quiet (fail)
                  go_wp2_with fail
                  go_roundw
                  case rel => exact ⟨m, _, by omega, by first | rfl | go_num, rfl, HS3⟩
                  case measure => simp [intOf]
    · obtain rfl : k = len := by omega
      go_wp2_with fail
      go_ret
      exact ⟨by rw [HR.out, HRT.out]; rfl, by rw [← HB.out]; exact HBE.out⟩
end Go.Proofs.Ytfjddkjfkgdihaa
