/- Layer 32's law: the worked example, walked. -/
import Derived.Test.YtjbngddmmdcagaaDoorL1
namespace Go.Proofs.YtjbngddmmdcagaaDoor
open Go.RowKit Go.BigFrame
set_option linter.unusedVariables false
set_option linter.unusedSimpArgs false

theorem mk22 (n : Nat) (hn : n ≤ 2097152) (w : World) : (Instr.makeSlice 22 (.int .i64 n) (.int .i64 n)).run Tryd.prog w = .ok (.slice (some ⟨w.heap.size, 0, none⟩) n n) (w.alloc (.cells (madeCells #[.int .u64 0] n) 23)) := by
  obtain ⟨i, hi, hz0, hz1, hz2⟩ := info_parts info23
  have := run_make (P := Tryd.prog) w 22 23 i _ Tryd.underlying22 hi hz0 .i64 .i64 n n (by omega) (Int.le_refl _) (by rw [hz2]; omega) (by omega)
  rw [this, hz1, Int.toNat_natCast, Nat.mul_one]
  rfl
theorem new_words (n : Nat) (w : World) : Wds (w.alloc (.cells (madeCells #[.int .u64 0] n) 23)) w.heap.size n fun _ => 0 :=
  ⟨madeCells #[.int .u64 0] n, 23, heap_alloc_new w _, fun k hk => made_get _ n k hk⟩
theorem Wds.at {W : World} {g n : Nat} {T : Nat → Nat} (h : Wds W g n T) : WordsAt W.heap.size W (some ⟨g, 0, none⟩) n T :=
  ⟨g, 0, fun _ => ⟨rfl, RowAt.lt h⟩, fun j hj => by rw [Nat.zero_add]; exact h.cell hj⟩
set_option maxRecDepth 100000 in
set_option maxHeartbeats 8000000 in
theorem awake5 (w : World) : Calls Tryd.prog 5 #[] w fun e w' => e = .returned (.bool true) ∧ Below w.heap.size w w' := by
  obtain ⟨P, hP, hT⟩ := exF_text
  have m1 : (Instr.makeSlice 22 (.int .i64 16) (.int .i64 16)).run Tryd.prog w = .ok (.slice (some ⟨w.heap.size, 0, none⟩) 16 16) (w.alloc (.cells (madeCells #[.int .u64 0] 16) 23)) := mk22 16 (by decide) w
  obtain ⟨W1, hW1⟩ : ∃ W1, W1 = w.alloc (.cells (madeCells #[.int .u64 0] 16) 23) := ⟨_, rfl⟩
  obtain ⟨g, hg⟩ : ∃ g, g = w.heap.size := ⟨_, rfl⟩
  have hz := new_words 16 w
  rw [← hW1, ← hg] at m1 hz
  have HB1 : Hid (Below w.heap.size w W1) := Lib.hid (by rw [hW1]; exact (Below.refl _ w).alloc (Nat.le_refl _) _)
  have c1 : W1.cell? ⟨g, 8, none⟩ = some (.int .u64 0) := hz.cell (by decide)
  have f1 : W1.frozen? ⟨g, 8, none⟩ = false := RowAt.free hz 8
  have HX : Hid (Wds (W1.setCell ⟨g, 8, none⟩ (.int .u64 31)) g 16 exF) := Lib.hid (hz.set 8 31)
  have HB2 : Hid (Below w.heap.size w (W1.setCell ⟨g, 8, none⟩ (.int .u64 31))) := Lib.hid (HB1.out.setCell (p := ⟨g, 8, none⟩) (by rw [hg]; exact Nat.le_refl _) _)
  obtain ⟨T, hTT⟩ : ∃ T, T = textT exF 2 := ⟨_, rfl⟩
  rw [← hTT] at hT
  have hTl : T.length = 37 := by rw [hT]; simp [hP]
  have HW : Hid (∀ W, W = W1.setCell ⟨g, 8, none⟩ (.int .u64 31) → Calls Tryd.prog 6 #[.slice (some ⟨g, 0, none⟩) 16 16] W fun e w' => Below W.heap.size W w' ∧ e = .returned (.tuple #[.string (txt T), .int .i64 0])) := Lib.hid fun W hW => by
    subst hW
    have h1 := write6 (some ⟨g, 0, none⟩) 16 16 (by decide) (by decide) (by decide) exF (fun j => by unfold exF; split <;> decide) _ HX.out.at (by decide)
    refine h1.mono fun e w' h => ⟨h.1, ?_⟩
    have := h.2.1 (by rw [show 16 / 8 = 2 from rfl, ← hTT, hTl]; decide)
    rw [show 16 / 8 = 2 from rfl, ← hTT] at this
    exact this
  have HPA : Hid (∀ W, Below (W1.setCell ⟨g, 8, none⟩ (.int .u64 31)).heap.size (W1.setCell ⟨g, 8, none⟩ (.int .u64 31)) W → Calls Tryd.prog 10 #[.slice (some ⟨g, 0, none⟩) 16 16] W (NewInts [1] W)) := Lib.hid fun W hb => by
    have h1 := parts10 (some ⟨g, 0, none⟩) 16 16 (by decide) (by decide) (by decide) exF W ((HX.out.at.below hb (Nat.le_refl _)).mono hb.size)
    rw [show 16 / 8 = 2 from rfl, exF_parts] at h1
    exact h1
  unfold NewInts at HPA
  obtain ⟨W2, hW2⟩ : ∃ W2, W2 = W1.setCell ⟨g, 8, none⟩ (.int .u64 31) := ⟨_, rfl⟩
  rw [← hW2] at HX HB2 HPA
  have HW2 := Lib.hid hW2
  have es : (txt T).size = 37 := by rw [txt_size, hTl]
  have e8 : ((txt T).extract 0 8).toList = [105, 109, 97, 103, 101, 32, 50, 32] := by
    rw [ByteArray.toList_eq, Lib.extract_data, txt_list, hT]; simp
  have e17 : ((txt T).extract 17 37).toList = [49, 58, 32, 49, 102, 32, 48, 32, 48, 32, 48, 32, 48, 32, 48, 32, 48, 32, 48, 10] := by
    rw [ByteArray.toList_eq, Lib.extract_data, txt_list, hT]
    obtain ⟨a0, a1, a2, a3, a4, a5, a6, a7, rfl⟩ : ∃ a0 a1 a2 a3 a4 a5 a6 a7, P = [a0, a1, a2, a3, a4, a5, a6, a7] := by
      rcases P with _ | ⟨a0, _ | ⟨a1, _ | ⟨a2, _ | ⟨a3, _ | ⟨a4, _ | ⟨a5, _ | ⟨a6, _ | ⟨a7, _ | ⟨a8, P⟩⟩⟩⟩⟩⟩⟩⟩⟩ <;> simp at hP
      exact ⟨a0, a1, a2, a3, a4, a5, a6, a7, rfl⟩
    simp
  clear hT hTT hTl hP hW1 hg hW2 hz
  go_enter Tryd.func5, Tryd.ntmps5
  go_wp2_with (first
    | (go_at_call 6; (with_reducible refine (HW.out _ ?_).mono ?_); (exact rfl); rintro e w3 ⟨hb3, rfl⟩; rw [← HW2.out] at hb3; have HB3 := Lib.hid hb3; clear hb3)
    | (go_at_call 10; (with_reducible refine (HPA.out _ HB3.out).mono ?_); rintro e w4 ⟨v4, rfl, hb4, ho4⟩; obtain ⟨g4, c4, rfl, hg4, hn4⟩ := own_nums ho4 (by decide); have k4 := hn4.cell (k := 0) (by decide); have HB4 := Lib.hid hb4; clear hb4 ho4 hg4 hn4))
  have h2 := HB2.out
  have h3 := HB3.out
  have h4 := HB4.out
  have hB : Below w.heap.size w w4 := (h2.trans (h3.mono h2.size)).trans (h4.mono (Nat.le_trans h2.size h3.size))
  go_ret
  exact ⟨rfl, hB⟩
end Go.Proofs.YtjbngddmmdcagaaDoor
