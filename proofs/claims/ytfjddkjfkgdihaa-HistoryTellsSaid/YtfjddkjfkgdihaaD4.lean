/- The law HistoryTells, walked. -/
import Derived.Test.YtfjddkjfkgdihaaD3
namespace Go.Proofs.Ytfjddkjfkgdihaa
open Go.RowKit Go.BigFrame
set_option linter.unusedVariables false
set_option linter.unusedSimpArgs false

/-- What a list of the picked ones tells. -/
structure Tells (c : Nat → CallD) (p : CallD → Bool) (len n : Nat) (m : Nat → Nat) : Prop where
  zero : m 0 = 0
  yes : ∀ i, p (c i) = true → m (i + 1) = m i + 1
  no : ∀ i, p (c i) = false → m (i + 1) = m i
  last : m len = n
theorem tells_of (c : Nat → CallD) (p : CallD → Bool) (len : Nat) : Tells c p len (idxTo p c len).length (fun i => (idxTo p c i).length) :=
  ⟨rfl, fun i h => by simp [idxTo, h], fun i h => by simp [idxTo, h], rfl⟩

theorem neq65 (x : CallD) (w : World) : (binOp .neq 65 (.agg x.cells) (.agg x.cells)).run Try.prog w = .ok (.bool false) w := by
  simp only [CallD.cells]
  go_simp

set_option maxRecDepth 100000 in
set_option maxHeartbeats 4000000 in
theorem tells_t (a : Option Addr) (len cap : Nat) (t : Int) (c : Nat → CallD) (w : World) (h : CallsAt w a len cap c) :
    Calls Try.prog 11 #[.slice a len cap, .int .i64 t] w (BoolOn true w) := by
  by_cases hl : 100 < len
  · clear h
    go_enter Try.func11, Try.ntmps11
    go_wp2_with (go_at_call 37; refine (awake24_any _).mono ?_; rintro e w' ⟨rfl, hb⟩)
    go_ret
    exact ⟨rfl, hb⟩
  have hl2 : len ≤ 100 := by omega
  have CS := Lib.hid h; clear h
  go_enter Try.func11, Try.ntmps11
  go_wp2_with fail
  refine (overlaps_all a len cap c w CS.out hl2).mono ?_
  rintro e w3 ⟨v5, rfl, hb3, ho5⟩
  have CS3 := Lib.hid (CS.out.below hb3)
  have HB3 := Lib.hid hb3
  have HO5 := Lib.hid ho5
  clear hb3 ho5
  go_wp2_with fail
  refine (took_all a len cap c w3 hl2 CS3.out).mono ?_
  rintro e w4 ⟨v6, rfl, hb4, ho6⟩
  have CS4 := Lib.hid (CS3.out.below hb4)
  have HB4 := Lib.hid (HB3.out.trans (hb4.mono HB3.out.size))
  have HO5' := Lib.hid (own_below HO5.out hb4)
  have HO6 := Lib.hid ho6
  clear hb4 ho6 HO5 HB3 CS3
  go_wp2_with fail
  refine (of_all t a len cap c w4 hl2 CS4.out).mono ?_
  rintro e w5 ⟨v7, rfl, hb5, ho7⟩
  have CS5 := Lib.hid (CS4.out.below hb5)
  have HB5 := Lib.hid (HB4.out.trans (hb5.mono HB4.out.size))
  obtain ⟨a5, c5, rfl, hf5⟩ := own_form2 (own_below HO5'.out hb5)
  obtain ⟨a6, c6, rfl, hf6⟩ := own_form2 (own_below HO6.out hb5)
  obtain ⟨a7, c7, rfl, hf7⟩ := own_form2 ho7
  clear hb5 ho7 HO6 HO5' HB4 CS4 CS
  obtain ⟨T, hT⟩ : ∃ T, T = w5.heap.size := ⟨_, rfl⟩
  have HST : Hid (w.heap.size ≤ T) := Lib.hid (by rw [hT]; exact HB5.out.size)
  have HF5 : Hid (∀ i k, i < k → k < len → overB c i k = true → (ovTo c len i ++ ovIn c i k).length < (ovTo c len len).length ∧ ∃ g, a5 = some ⟨g, 0, none⟩ ∧ g < T ∧ w5.cell? ⟨g, (ovTo c len i ++ ovIn c i k).length * 2, none⟩ = some (.int .i64 i) ∧ w5.cell? ⟨g, (ovTo c len i ++ ovIn c i k).length * 2 + 1, none⟩ = some (.int .i64 k)) := Lib.hid fun i k hi hk ho => by
    have hp := over_at c len i k hi hk ho
    obtain ⟨hlt, -⟩ := List.getElem?_eq_some_iff.1 hp
    obtain ⟨g, hg, hgs, hcell⟩ := hf5 (by omega)
    have h2 := pairs_at _ _ _ hp
    exact ⟨hlt, g, hg, by rw [hT]; exact hgs, by rw [hcell _ (by omega)]; exact h2.1, by rw [hcell _ (by omega)]; exact h2.2⟩
  have HF6 : Hid (∀ i, i < len → CallD.tookB (c i) = true → (idxTo CallD.tookB c i).length < (idxTo CallD.tookB c len).length ∧ ∃ g, a6 = some ⟨g, 0, none⟩ ∧ g < T ∧ w5.cell? ⟨g, (idxTo CallD.tookB c i).length, none⟩ = some (.int .i64 i)) := Lib.hid fun i hi ho => by
    have hp := idxTo_at CallD.tookB c len i hi ho
    obtain ⟨hlt, -⟩ := List.getElem?_eq_some_iff.1 hp
    obtain ⟨g, hg, hgs, hcell⟩ := hf6 (by omega)
    exact ⟨hlt, g, hg, by rw [hT]; exact hgs, by rw [hcell _ (by omega), intsOf, List.getElem?_map, hp]; rfl⟩
  have HF7 : Hid (∀ i, i < len → CallD.ofB t (c i) = true → (idxTo (CallD.ofB t) c i).length < (idxTo (CallD.ofB t) c len).length ∧ ∃ g, a7 = some ⟨g, 0, none⟩ ∧ g < T ∧ CallAt w5 g ((idxTo (CallD.ofB t) c i).length * 11) (c i)) := Lib.hid fun i hi ho => by
    have hp := idxTo_at (CallD.ofB t) c len i hi ho
    obtain ⟨hlt, -⟩ := List.getElem?_eq_some_iff.1 hp
    obtain ⟨g, hg, hgs, hcell⟩ := hf7 (by omega)
    refine ⟨hlt, g, hg, by rw [hT]; exact hgs, ?_⟩
    have e : ∀ j, j < 11 → w5.cell? ⟨g, (idxTo (CallD.ofB t) c i).length * 11 + j, none⟩ = (c i).cells[j]? := fun j hj => by
      rw [hcell _ (by omega)]
      exact callsOf_at _ _ _ (by rw [List.getElem?_map, hp]; rfl) j hj
    exact ⟨e 0 (by omega), e 1 (by omega), e 2 (by omega), e 3 (by omega), e 4 (by omega), e 5 (by omega), e 6 (by omega), e 7 (by omega), e 8 (by omega), e 9 (by omega), e 10 (by omega)⟩
  have HM6 := Lib.hid (tells_of c CallD.tookB len)
  have HM7 := Lib.hid (tells_of c (CallD.ofB t) len)
  have HN5 : Hid ((ovTo c len len).length ≤ 10000) := Lib.hid (by have h1 := ovTo_len c len len; have h3 : len * len ≤ 100 * 100 := Nat.mul_le_mul hl2 hl2; omega)
  have HN6 : Hid ((idxTo CallD.tookB c len).length ≤ 100) := Lib.hid (by have := idxTo_len CallD.tookB c len; omega)
  have HN7 : Hid ((idxTo (CallD.ofB t) c len).length ≤ 100) := Lib.hid (by have := idxTo_len (CallD.ofB t) c len; omega)
  have HOS : Hid (∀ i k, (ovIn c i (k + 1)) = ovIn c i k ++ if i < k ∧ overB c i k = true then [(i, k)] else []) := Lib.hid fun _ _ => rfl
  obtain ⟨n5, hn5⟩ : ∃ n, n = (ovTo c len len).length := ⟨_, rfl⟩
  obtain ⟨n6, hn6⟩ : ∃ n, n = (idxTo CallD.tookB c len).length := ⟨_, rfl⟩
  obtain ⟨n7, hn7⟩ : ∃ n, n = (idxTo (CallD.ofB t) c len).length := ⟨_, rfl⟩
  obtain ⟨m6, hm6⟩ : ∃ m : Nat → Nat, m = fun i => (idxTo CallD.tookB c i).length := ⟨_, rfl⟩
  obtain ⟨m7, hm7⟩ : ∃ m : Nat → Nat, m = fun i => (idxTo (CallD.ofB t) c i).length := ⟨_, rfl⟩
  obtain ⟨m8, hm8⟩ : ∃ m : Nat → Nat, m = fun i => (ovTo c len i).length := ⟨_, rfl⟩
  obtain ⟨m5, hm5⟩ : ∃ m : Nat → Nat → Nat, m = fun i k => (ovTo c len i ++ ovIn c i k).length := ⟨_, rfl⟩
  have H8 : Hid (m8 0 = 0 ∧ m8 len = n5 ∧ (∀ i, m5 i (i + 1) = m8 i) ∧ (∀ i, m5 i len = m8 (i + 1)) ∧ (∀ i k, i < k → overB c i k = true → m5 i (k + 1) = m5 i k + 1) ∧ (∀ i k, overB c i k = false → m5 i (k + 1) = m5 i k)) := Lib.hid (by
    subst hm8 hm5 hn5
    exact ⟨rfl, rfl, fun i => by simp [ovIn_low c i (i + 1) (by omega)], fun i => by simp [ovTo], fun i k hik ho => by simp [ovIn, hik, ho, Nat.add_assoc], fun i k ho => by simp [ovIn, ho]⟩)
  have HF5' : Hid (∀ i k, i < k → k < len → overB c i k = true → m5 i k < n5 ∧ ∃ g, a5 = some ⟨g, 0, none⟩ ∧ g < T ∧ w5.cell? ⟨g, m5 i k * 2, none⟩ = some (.int .i64 i) ∧ w5.cell? ⟨g, m5 i k * 2 + 1, none⟩ = some (.int .i64 k)) := by subst hm5 hn5; exact HF5
  have HF6' : Hid (∀ i, i < len → CallD.tookB (c i) = true → m6 i < n6 ∧ ∃ g, a6 = some ⟨g, 0, none⟩ ∧ g < T ∧ w5.cell? ⟨g, m6 i, none⟩ = some (.int .i64 i)) := by subst hm6 hn6; exact HF6
  have HF7' : Hid (∀ i, i < len → CallD.ofB t (c i) = true → m7 i < n7 ∧ ∃ g, a7 = some ⟨g, 0, none⟩ ∧ g < T ∧ CallAt w5 g (m7 i * 11) (c i)) := by subst hm7 hn7; exact HF7
  rw [← hn5] at HN5 ⊢
  rw [← hn6] at HN6 HM6 ⊢
  rw [← hn7] at HN7 HM7 ⊢
  rw [← hm6] at HM6
  rw [← hm7] at HM7
  clear HF5 HF6 HF7 HOS hf5 hf6 hf7 hn5 hn6 hn7 hm5 hm6 hm7 hm8
  go_wp2_with fail
  go_loopw [8, 9, 10, 11] (fun x y z i wr => ∃ k : Nat, k ≤ len ∧ i = .int .i64 k ∧ x = .int .i64 (m8 k) ∧ y = .int .i64 (m6 k) ∧ z = .int .i64 (m7 k) ∧ Hid (Below T w5 wr)) (fun _ _ _ i _ => len - (intOf i).toNat)
  case atStart => exact ⟨0, Nat.zero_le _, rfl, by rw [H8.out.1]; rfl, by rw [HM6.out.zero]; rfl, by rw [HM7.out.zero]; rfl, Below.refl _ _⟩
  case round =>
    obtain ⟨i, hi, rfl, rfl, rfl, rfl, HBE⟩ := hrel
    have HTW : Hid (T ≤ wr.heap.size) := Lib.hid (by rw [hT]; exact HBE.out.size)
    by_cases hlt : i < len
    · obtain ⟨b, off, rfl, hbs, hcs⟩ := CS5.out.block (by omega)
      have HCC := Lib.hid hcs
      have HBB : Hid (b < T) := Lib.hid (by rw [hT]; exact hbs)
      clear hbs hcs
      have i0 : (0 : Int) ≤ (i : Int) := by omega
      have i1 : (i : Int) < (len : Int) := by omega
      go_wp2_with fail
      go_loopw [8, 12] (fun x kk wr => ∃ k : Nat, i < k ∧ k ≤ len ∧ kk = .int .i64 k ∧ x = .int .i64 (m5 i k) ∧ Hid (Below T w5 wr)) (fun _ kk _ => len - (intOf kk).toNat)
      case atStart => exact ⟨i + 1, by omega, by omega, by go_num, by rw [H8.out.2.2.1], HBE⟩
      case round =>
        clear HBE HTW
        obtain ⟨k, hik, hk, rfl, rfl, HBI⟩ := hrel
        have HTI : Hid (T ≤ wr.heap.size) := Lib.hid (by rw [hT]; exact HBI.out.size)
        by_cases hkl : k < len
        · have HD : Hid (∀ x : Over wr.heap.size wr, CallAt x.w b (off + i * 11) (c i)) := Lib.hid fun x =>
            (HCC.out i hlt).of fun o => (HBI.out.trans (x.below.mono HTI.out)).cell (p := ⟨b, o, none⟩) HBB.out
          have HE : Hid (∀ x : Over wr.heap.size wr, CallAt x.w b (off + k * 11) (c k)) := Lib.hid fun x =>
            (HCC.out k hkl).of fun o => (HBI.out.trans (x.below.mono HTI.out)).cell (p := ⟨b, o, none⟩) HBB.out
          have k0 : (0 : Int) ≤ (k : Int) := by omega
          have k1 : (k : Int) < (len : Int) := by omega
          have H1 := Lib.hid fun w => refAhead_any (c i) (c k) w
          have H2 := Lib.hid fun w => refAhead_any (c k) (c i) w
          simp only [CallD.cells] at H1 H2
          have HOVB : Hid (overB c i k = (!(c i).aheadB (c k) && !(c k).aheadB (c i))) := Lib.hid rfl
          have d0 := fun x => (HD.out x).1
          have d1 := fun x => (HD.out x).2.1
          have d2 := fun x => (HD.out x).2.2.1
          have d3 := fun x => (HD.out x).2.2.2.1
          have d4 := fun x => (HD.out x).2.2.2.2.1
          have d5 := fun x => (HD.out x).2.2.2.2.2.1
          have d6 := fun x => (HD.out x).2.2.2.2.2.2.1
          have d7 := fun x => (HD.out x).2.2.2.2.2.2.2.1
          have d8 := fun x => (HD.out x).2.2.2.2.2.2.2.2.1
          have d9 := fun x => (HD.out x).2.2.2.2.2.2.2.2.2.1
          have d10 := fun x => (HD.out x).2.2.2.2.2.2.2.2.2.2
          have e0 := fun x => (HE.out x).1
          have e1 := fun x => (HE.out x).2.1
          have e2 := fun x => (HE.out x).2.2.1
          have e3 := fun x => (HE.out x).2.2.2.1
          have e4 := fun x => (HE.out x).2.2.2.2.1
          have e5 := fun x => (HE.out x).2.2.2.2.2.1
          have e6 := fun x => (HE.out x).2.2.2.2.2.2.1
          have e7 := fun x => (HE.out x).2.2.2.2.2.2.2.1
          have e8 := fun x => (HE.out x).2.2.2.2.2.2.2.2.1
          have e9 := fun x => (HE.out x).2.2.2.2.2.2.2.2.2.1
          have e10 := fun x => (HE.out x).2.2.2.2.2.2.2.2.2.2
          generalize (c i).aheadB (c k) = a1 at *
          generalize (c k).aheadB (c i) = a2 at *
          cases a1
          · cases a2
            · have HNO : Hid (overB c i k = true) := Lib.hid (by rw [HOVB.out]; rfl)
              clear HOVB
              have HM := Lib.hid (H8.out.2.2.2.2.1 i k hik HNO.out)
              obtain ⟨hm, g, rfl, hg, hp1, hp2⟩ := HF5'.out i k hik hkl HNO.out
              have HP1 := Lib.hid hp1
              have HP2 := Lib.hid hp2
              have HGT := Lib.hid hg
              clear hp1 hp2 hg
              go_wp2_with fail
              refine region_quiet_of (fun x : Over wr.heap.size wr => x.w) (by kernel_rfl) (by kernel_rfl) (Over.first _ _) (Over.first_w _ _) ?_
              repeat (first | go_big_quiet_skip | (go_big_quiet_want; go_big_quiet_op; first | go_big_quiet_on | go_big_quiet_call ((rename_i x; go_at_call 46; (first | (with_reducible refine (H1.out _).mono ?_) | (with_reducible refine (H2.out _).mono ?_)); rintro e w' ⟨rfl, hb⟩; exact ⟨rfl, x.on w' (hb.mono x.below.size), rfl⟩))))
              refine wpQuiet_nil ?_
              rintro _ ⟨x, rfl⟩
              have HBX := Lib.hid (HBI.out.trans (x.below.mono HTI.out))
              obtain ⟨W, hW⟩ : ∃ W, W = x.w := ⟨_, rfl⟩
              rw [← hW] at HBX ⊢
              clear hW d0 d1 d2 d3 d4 d5 d6 d7 d8 d9 d10 e0 e1 e2 e3 e4 e5 e6 e7 e8 e9 e10
              have p1 : W.cell? ⟨g, m5 i k * 2, none⟩ = some (.int .i64 i) := by rw [HBX.out.cell (p := ⟨g, m5 i k * 2, none⟩) HGT.out]; exact HP1.out
              have p2 : W.cell? ⟨g, m5 i k * 2 + 1, none⟩ = some (.int .i64 k) := by rw [HBX.out.cell (p := ⟨g, m5 i k * 2 + 1, none⟩) HGT.out]; exact HP2.out
              generalize m5 i k = mm at *
              have j0 : (0 : Int) ≤ (mm : Int) := by omega
              have j1 : (mm : Int) < (n5 : Int) := by omega
              have q := fun w => neq71 i k w
              have hn5 := HN5.out
              go_wp2_with fail
              go_roundw
              case rel => exact ⟨k + 1, by omega, by omega, by go_num, by rw [HM.out]; go_num, HBX⟩
              case measure => simp [intOf]; omega
            · have HNO : Hid (overB c i k = false) := Lib.hid (by rw [HOVB.out]; rfl)
              clear HOVB
              have HM := Lib.hid (H8.out.2.2.2.2.2 i k HNO.out)
              go_wp2_with fail
              refine region_quiet_of (fun x : Over wr.heap.size wr => x.w) (by kernel_rfl) (by kernel_rfl) (Over.first _ _) (Over.first_w _ _) ?_
              repeat (first | go_big_quiet_skip | (go_big_quiet_want; go_big_quiet_op; first | go_big_quiet_on | go_big_quiet_call ((rename_i x; go_at_call 46; (first | (with_reducible refine (H1.out _).mono ?_) | (with_reducible refine (H2.out _).mono ?_)); rintro e w' ⟨rfl, hb⟩; exact ⟨rfl, x.on w' (hb.mono x.below.size), rfl⟩))))
              refine wpQuiet_nil ?_
              rintro _ ⟨x, rfl⟩
              have HBX := Lib.hid (HBI.out.trans (x.below.mono HTI.out))
              obtain ⟨W, hW⟩ : ∃ W, W = x.w := ⟨_, rfl⟩
              rw [← hW] at HBX ⊢
              clear hW d0 d1 d2 d3 d4 d5 d6 d7 d8 d9 d10 e0 e1 e2 e3 e4 e5 e6 e7 e8 e9 e10
              go_wp2_with fail
              go_roundw
              case rel => exact ⟨k + 1, by omega, by omega, by go_num, by rw [HM.out], HBX⟩
              case measure => simp [intOf]; omega
          · have HNO : Hid (overB c i k = false) := Lib.hid (by rw [HOVB.out]; rfl)
            clear HOVB
            have HM := Lib.hid (H8.out.2.2.2.2.2 i k HNO.out)
            go_wp2_with fail
            refine region_quiet_of (fun x : Over wr.heap.size wr => x.w) (by kernel_rfl) (by kernel_rfl) (Over.first _ _) (Over.first_w _ _) ?_
            repeat (first | go_big_quiet_skip | (go_big_quiet_want; go_big_quiet_op; first | go_big_quiet_on | go_big_quiet_call ((rename_i x; go_at_call 46; (first | (with_reducible refine (H1.out _).mono ?_) | (with_reducible refine (H2.out _).mono ?_)); rintro e w' ⟨rfl, hb⟩; exact ⟨rfl, x.on w' (hb.mono x.below.size), rfl⟩))))
            refine wpQuiet_nil ?_
            rintro _ ⟨x, rfl⟩
            have HBX := Lib.hid (HBI.out.trans (x.below.mono HTI.out))
            obtain ⟨W, hW⟩ : ∃ W, W = x.w := ⟨_, rfl⟩
            rw [← hW] at HBX ⊢
            clear hW d0 d1 d2 d3 d4 d5 d6 d7 d8 d9 d10 e0 e1 e2 e3 e4 e5 e6 e7 e8 e9 e10
            go_wp2_with fail
            go_roundw
            case rel => exact ⟨k + 1, by omega, by omega, by go_num, by rw [HM.out], HBX⟩
            case measure => simp [intOf]; omega
        · obtain rfl : len = k := by omega
          have HM8 := Lib.hid (H8.out.2.2.2.1 i)
          obtain ⟨d0, d1, d2, d3, d4, d5, d6, d7, d8, d9, d10⟩ := (HCC.out i hlt).of (w' := wr) fun o => HBI.out.cell (p := ⟨b, o, none⟩) HBB.out
          obtain ⟨X, hX⟩ : ∃ X, X = c i := ⟨_, rfl⟩
          rw [← hX] at d0 d1 d2 d3 d4 d5 d6 d7 d8 d9 d10
          have HX := Lib.hid hX; clear hX
          by_cases hcr : X.cr = false
          · have hkp := True.intro
            have HT6 : Hid (CallD.tookB (c i) = true) := Lib.hid (by rw [← HX.out]; simp [CallD.tookB, hcr, hkp])
            obtain ⟨hm6, g6, rfl, hg6, hc6⟩ := HF6'.out i hlt HT6.out
            have z0 : wr.cell? ⟨g6, m6 i, none⟩ = some (.int .i64 i) := by rw [HBI.out.cell (p := ⟨g6, m6 i, none⟩) hg6]; exact hc6
            have HN6' := Lib.hid (HM6.out.yes i HT6.out)
            clear hc6 hg6
            have r0 : (0 : Int) ≤ (m6 i : Int) := by omega
            have r1 : (m6 i : Int) < (n6 : Int) := by omega
            have hn6 := HN6.out
            have hmi6 : m6 i ≤ 100 := by omega
            rw [hcr] at d9
            clear hkp
            have HB := HBI
            by_cases ht : X.th = t
            · have HT7 : Hid (CallD.ofB t (c i) = true) := Lib.hid (by rw [← HX.out]; simp [CallD.ofB, ht])
              obtain ⟨hm7, g7, rfl, hg7, hc7⟩ := HF7'.out i hlt HT7.out
              obtain ⟨y0, y1, y2, y3, y4, y5, y6, y7, y8, y9, y10⟩ := hc7.of (w' := wr) fun o => HBI.out.cell (p := ⟨g7, o, none⟩) hg7
              rw [← HX.out] at y0 y1 y2 y3 y4 y5 y6 y7 y8 y9 y10
              have HN7' := Lib.hid (HM7.out.yes i HT7.out)
              clear hc7 hg7
              have s0 : (0 : Int) ≤ (m7 i : Int) := by omega
              have s1 : (m7 i : Int) < (n7 : Int) := by omega
              have s2 : decide ((n7 : Int) ≤ (m7 i : Int)) = false := by simp; omega
              have s3 : decide (n7 ≤ m7 i) = false := by simp; omega
              have q65 := fun w => neq65 X w
              simp only [CallD.cells] at q65
              have hn7 := HN7.out
              have hmi : m7 i ≤ 100 := by omega
              rw [ht] at d0 y0 q65; rw [hcr] at y9 q65; clear hcr
              go_wp2_with fail
              go_quiet (fail)
              go_wp2_with fail
              go_roundw
              case rel => exact ⟨i + 1, by omega, by go_num, by rw [HM8.out], by rw [HN6'.out]; (try go_num), by rw [HN7'.out]; go_num, Lib.hid (below_drewN HB.out _)⟩
              case measure => simp [intOf]; omega
            · have HT7 : Hid (CallD.ofB t (c i) = false) := Lib.hid (by rw [← HX.out]; simp [CallD.ofB, ht])
              have HN7' := Lib.hid (HM7.out.no i HT7.out)
              go_wp2_with fail
              go_roundw
              case rel => exact ⟨i + 1, by omega, by go_num, by rw [HM8.out], by rw [HN6'.out]; (try go_num), by rw [HN7'.out], HB⟩
              case measure => simp [intOf]; omega
          · have hcr : X.cr = true := by simpa using hcr
            by_cases hkp : X.kp = true
            · have HT6 : Hid (CallD.tookB (c i) = true) := Lib.hid (by rw [← HX.out]; simp [CallD.tookB, hcr, hkp])
              obtain ⟨hm6, g6, rfl, hg6, hc6⟩ := HF6'.out i hlt HT6.out
              have z0 : wr.cell? ⟨g6, m6 i, none⟩ = some (.int .i64 i) := by rw [HBI.out.cell (p := ⟨g6, m6 i, none⟩) hg6]; exact hc6
              have HN6' := Lib.hid (HM6.out.yes i HT6.out)
              clear hc6 hg6
              have r0 : (0 : Int) ≤ (m6 i : Int) := by omega
              have r1 : (m6 i : Int) < (n6 : Int) := by omega
              have hn6 := HN6.out
              have hmi6 : m6 i ≤ 100 := by omega
              rw [hcr] at d9
              rw [hkp] at d10
              have HB := HBI
              by_cases ht : X.th = t
              · have HT7 : Hid (CallD.ofB t (c i) = true) := Lib.hid (by rw [← HX.out]; simp [CallD.ofB, ht])
                obtain ⟨hm7, g7, rfl, hg7, hc7⟩ := HF7'.out i hlt HT7.out
                obtain ⟨y0, y1, y2, y3, y4, y5, y6, y7, y8, y9, y10⟩ := hc7.of (w' := wr) fun o => HBI.out.cell (p := ⟨g7, o, none⟩) hg7
                rw [← HX.out] at y0 y1 y2 y3 y4 y5 y6 y7 y8 y9 y10
                have HN7' := Lib.hid (HM7.out.yes i HT7.out)
                clear hc7 hg7
                have s0 : (0 : Int) ≤ (m7 i : Int) := by omega
                have s1 : (m7 i : Int) < (n7 : Int) := by omega
                have s2 : decide ((n7 : Int) ≤ (m7 i : Int)) = false := by simp; omega
                have s3 : decide (n7 ≤ m7 i) = false := by simp; omega
                have q65 := fun w => neq65 X w
                simp only [CallD.cells] at q65
                have hn7 := HN7.out
                have hmi : m7 i ≤ 100 := by omega
                rw [ht] at d0 y0 q65; rw [hcr] at y9 q65; rw [hkp] at y10 q65; clear hcr hkp
                go_wp2_with fail
                go_quiet (fail)
                go_wp2_with fail
                go_roundw
                case rel => exact ⟨i + 1, by omega, by go_num, by rw [HM8.out], by rw [HN6'.out]; (try go_num), by rw [HN7'.out]; go_num, Lib.hid (below_drewN HB.out _)⟩
                case measure => simp [intOf]; omega
              · have HT7 : Hid (CallD.ofB t (c i) = false) := Lib.hid (by rw [← HX.out]; simp [CallD.ofB, ht])
                have HN7' := Lib.hid (HM7.out.no i HT7.out)
                go_wp2_with fail
                go_roundw
                case rel => exact ⟨i + 1, by omega, by go_num, by rw [HM8.out], by rw [HN6'.out]; (try go_num), by rw [HN7'.out], HB⟩
                case measure => simp [intOf]; omega
            · have hkp : X.kp = false := by simpa using hkp
              have HT6 : Hid (CallD.tookB (c i) = false) := Lib.hid (by rw [← HX.out]; simp [CallD.tookB, hcr, hkp])
              have HN6' := Lib.hid (HM6.out.no i HT6.out)
              rw [hcr] at d9
              rw [hkp] at d10
              have HB := HBI
              by_cases ht : X.th = t
              · have HT7 : Hid (CallD.ofB t (c i) = true) := Lib.hid (by rw [← HX.out]; simp [CallD.ofB, ht])
                obtain ⟨hm7, g7, rfl, hg7, hc7⟩ := HF7'.out i hlt HT7.out
                obtain ⟨y0, y1, y2, y3, y4, y5, y6, y7, y8, y9, y10⟩ := hc7.of (w' := wr) fun o => HBI.out.cell (p := ⟨g7, o, none⟩) hg7
                rw [← HX.out] at y0 y1 y2 y3 y4 y5 y6 y7 y8 y9 y10
                have HN7' := Lib.hid (HM7.out.yes i HT7.out)
                clear hc7 hg7
                have s0 : (0 : Int) ≤ (m7 i : Int) := by omega
                have s1 : (m7 i : Int) < (n7 : Int) := by omega
                have s2 : decide ((n7 : Int) ≤ (m7 i : Int)) = false := by simp; omega
                have s3 : decide (n7 ≤ m7 i) = false := by simp; omega
                have q65 := fun w => neq65 X w
                simp only [CallD.cells] at q65
                have hn7 := HN7.out
                have hmi : m7 i ≤ 100 := by omega
                rw [ht] at d0 y0 q65; rw [hcr] at y9 q65; rw [hkp] at y10 q65; clear hcr hkp
                go_wp2_with fail
                go_quiet (fail)
                go_wp2_with fail
                go_roundw
                case rel => exact ⟨i + 1, by omega, by go_num, by rw [HM8.out], by rw [HN6'.out]; (try go_num), by rw [HN7'.out]; go_num, Lib.hid (below_drewN HB.out _)⟩
                case measure => simp [intOf]; omega
              · have HT7 : Hid (CallD.ofB t (c i) = false) := Lib.hid (by rw [← HX.out]; simp [CallD.ofB, ht])
                have HN7' := Lib.hid (HM7.out.no i HT7.out)
                go_wp2_with fail
                go_roundw
                case rel => exact ⟨i + 1, by omega, by go_num, by rw [HM8.out], by rw [HN6'.out]; (try go_num), by rw [HN7'.out], HB⟩
                case measure => simp [intOf]; omega
    · obtain rfl : i = len := by omega
      have q5 := H8.out.2.1
      have q6 := HM6.out.last
      have q7 := HM7.out.last
      rw [q5, q6, q7]
      go_wp2_with (go_at_call 37; refine (awake24_any _).mono ?_; rintro e w6 ⟨rfl, hb6⟩)
      go_ret
      exact ⟨rfl, HB5.out.trans ((HBE.out.trans (hb6.mono HTW.out)).mono HST.out)⟩
end Go.Proofs.Ytfjddkjfkgdihaa
