/- Digits: the program's decimal ones. -/
import Derived.Test.YtjbngddmmdcagaaDoorH3
import Derived.Test.YtjbngddmmdcagaaDoorShelf
namespace Go.Proofs.YtjbngddmmdcagaaDoor
open Go.RowKit Go.BigFrame
set_option linter.unusedVariables false
set_option linter.unusedSimpArgs false

set_option maxRecDepth 100000 in
set_option maxHeartbeats 4000000 in
theorem dec18_step (n : Nat) (hn : n ≤ 262144) (h : 10 ≤ n) (w : World) (ih : ∀ (z : Int) W, z = ((n / 10 : Nat) : Int) → Calls Tryd.prog 18 #[.int .i64 z] W (TextTo (dig 10 (n / 10)) W)) : Calls Tryd.prog 18 #[.int .i64 n] w (TextTo (dig 10 n) w) := by
  unfold TextTo
  have HI := Lib.hid ih
  clear ih
  have d1 : decide ((n : Int) < 10) = false := bool_no (by omega)
  have ez : (48 : Int) + (n : Int) % 10 = ((dgt (n % 10)).toNat : Int) := by have := byte_at2 (n % 10) (Nat.mod_lt _ (by decide)); omega
  have HZ := Lib.hid ez
  have q0 := txt_append (dig 10 (n / 10)) [dgt (n % 10)]
  have q1 : ¬ 9223372036854775807 < (txt (dig 10 (n / 10))).size + (txt [dgt (n % 10)]).size := by
    rw [txt_size, txt_size]
    have := dig_length (b := 10) (by decide) 6 (n / 10) (by decide) (by omega)
    simp; omega
  rw [← dig_big h (by decide)] at q0
  clear ez
  go_enter Tryd.func18, Tryd.ntmps18
  go_wp2_with fail
  have g1 : IntKind.i64.wrap ((n : Int) / 10) = (n : Int) / 10 := by rw [IntKind.wrap_i64]; omega
  have g2 : (n : Int).tmod 10 = (n : Int) % 10 := Int.tmod_eq_emod_of_nonneg (by omega)
  have g3 : IntKind.i64.wrap (48 + (n : Int) % 10) = 48 + (n : Int) % 10 := by rw [IntKind.wrap_i64]; omega
  have g4 : IntKind.u8.wrap (48 + (n : Int) % 10) = 48 + (n : Int) % 10 := by rw [IntKind.wrap_u8]; omega
  have HC : Hid (∀ w', Below (w.heap.size + 1) (w.alloc (.cells #[.int .u8 (48 + (n : Int) % 10)] 5)).drew w' → (convert 44 9 (.slice (some ⟨w.heap.size, 0, none⟩) 1 1)).run Tryd.prog w' = .ok (.string (txt [dgt (n % 10)])) w') := Lib.hid (fun w' hb => by
      have h1 : (w.alloc (.cells #[.int .u8 (48 + (n : Int) % 10)] 5)).drew.heap[w.heap.size]? = some (.cells #[.int .u8 (48 + (n : Int) % 10)] 5 (0, 0)) := heap_alloc_new w _
      have h2 := (hb.block w.heap.size (by omega)).trans h1
      refine run_convert_bytes_back w' 44 9 5 ⟨w.heap.size, 0, none⟩ 1 [dgt (n % 10)] Tryd.underlying44 Tryd.underlying5 Tryd.underlying9 fun j hj => ?_
      rw [Addr.add_lit, Nat.zero_add, cell_in h2]
      obtain rfl : j = 0 := by simpa using hj
      simp only [List.getElem_cons_zero]
      rw [← HZ.out]; rfl)
  have f0 := HC.out _ (Below.refl _ _)
  go_region_with (go_at_call 18; (with_reducible refine (HI.out _ _ (by omega)).mono ?_); rintro e w2 ⟨rfl, hb⟩; have f1 := conv1' w2 (48 + (n : Int) % 10) (dgt (n % 10)) HZ.out; try (have f2 := HC.out w2 (hb.mono (by simp))); have HB2 := Lib.hid hb; clear hb)
  all_goals
    go_wp2_with fail
    go_ret
    refine ⟨rfl, ?_⟩
    first
      | exact ((Below.refl _ w).drew.trans (HB2.out.mono (Nat.le_refl _))).alloc (by have := HB2.out.size; simpa using this) _
      | exact (((Below.refl _ w).alloc (Nat.le_refl _) _).drew).trans (HB2.out.mono (by simp))
      | exact ((Below.refl _ w).drew.trans hb).alloc (by have := hb.size; simpa using this) _
set_option maxRecDepth 100000 in
theorem dec18_small (n : Nat) (h : n < 10) (w : World) : Calls Tryd.prog 18 #[.int .i64 n] w (TextTo (dig 10 n) w) := by
  unfold TextTo
  have d1 : decide ((n : Int) < 10) = true := bool_yes (by omega)
  have e2 := conv1' w (48 + (n : Int)) (dgt n) (byte_at2 n h)
  go_enter Tryd.func18, Tryd.ntmps18
  go_wp2_with fail
  go_ret
  exact ⟨by rw [dig_small h]; rfl, (Below.refl _ _).alloc (Nat.le_refl _) _⟩
theorem dec18 : ∀ (n : Nat) (z : Int) (w : World), n ≤ 262144 → z = (n : Int) → Calls Tryd.prog 18 #[.int .i64 z] w (TextTo (dig 10 n) w) := by
  intro n
  induction n using Nat.strongRecOn with
  | _ n ih =>
    intro z w hn hz
    subst hz
    by_cases h : n < 10
    · exact dec18_small n h w
    · exact dec18_step n hn (by omega) w fun z W hz => ih (n / 10) (by omega) z W (by omega) hz
theorem repeatL_one (c : UInt8) : ∀ k, Lib.repeatL [c] k = List.replicate k c
  | 0 => rfl
  | k + 1 => by rw [Lib.repeatL, repeatL_one c k]; rfl
theorem repeat38 (k : Nat) (hk : k ≤ 8) (w : World) : Calls Tryd.prog 38 #[.string ⟨#[48]⟩, .int .i64 k] w (TextTo (List.replicate k 48) w) := by
  refine (Tryd.strings_Repeat ⟨#[48]⟩ k w (by omega) (by show 1 * k ≤ _; omega)).mono ?_
  rintro e w' ⟨rfl, hb⟩
  exact ⟨by rw [show (⟨#[48]⟩ : ByteArray).data.toList = [48] from rfl, repeatL_one]; rfl, hb⟩
set_option maxRecDepth 100000 in
theorem sumText19 (s : Nat) (h : s < 4294967296) (w : World) : Calls Tryd.prog 19 #[.int .u32 s] w (TextTo (pad8 (dig 16 s)) w) := by
  unfold TextTo pad8
  have hl := dig_length (b := 16) (by decide) 8 s (by decide) (by omega)
  have q0 := txt_append (List.replicate (8 - (dig 16 s).length) 48) (dig 16 s)
  have q1 : ¬ 9223372036854775807 < (txt (List.replicate (8 - (dig 16 s).length) 48)).size + (txt (dig 16 s)).size := by
    rw [txt_size, txt_size]; simp; omega
  have e0 : (txt (dig 16 s)).size = (dig 16 s).length := txt_size _
  have e1 : IntKind.i64.wrap (8 - ((dig 16 s).length : Int)) = ((8 - (dig 16 s).length : Nat) : Int) := by rw [IntKind.wrap_i64]; omega
  go_enter Tryd.func19, Tryd.ntmps19
  go_wp2_with (first
    | (go_at_call 7; (with_reducible refine (hex7 s (by omega) _).mono ?_); rintro e w1 ⟨rfl, hb⟩; have HB1 := Lib.hid hb; clear hb)
    | (go_at_call 38; (with_reducible refine (repeat38 (8 - (dig 16 s).length) (by omega) _).mono ?_); rintro e w2 ⟨rfl, hb⟩; have HB2 := Lib.hid hb; clear hb))
  go_ret
  exact ⟨rfl, HB1.out.trans (HB2.out.mono HB1.out.size)⟩
end Go.Proofs.YtjbngddmmdcagaaDoor
