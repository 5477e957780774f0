/- Layer 2, the document's: the sum of bytes. -/
import Derived.Test.YtjbngddmmdcagaaDoorS6
import Derived.Test.YtjbngddmmdcagaaDoorV2
namespace Go.Proofs.YtjbngddmmdcagaaDoor
open Go.RowKit Go.BigFrame
set_option linter.unusedVariables false
set_option linter.unusedSimpArgs false

/-- The bits of bytes. -/
def byteBits (f : Nat → Nat) (n : Nat) : List Nat := (List.range n).flatMap fun j => bitsOf 8 (f j)
theorem byteBits_next (f : Nat → Nat) (k : Nat) : byteBits f (k + 1) = byteBits f k ++ bitsOf 8 (f k) := by
  unfold byteBits; rw [List.range_succ, List.flatMap_append]; simp
theorem byteBits_length (f : Nat → Nat) : ∀ n, (byteBits f n).length = 8 * n
  | 0 => rfl
  | n + 1 => by rw [byteBits_next, List.length_append, byteBits_length f n, bitsOf_length]; omega
theorem bitsOf_lt : ∀ (k w b : Nat), b ∈ bitsOf k w → b < 2
  | 0, _, _, h => by simp [bitsOf] at h
  | k + 1, w, b, h => by
    rw [bitsOf] at h
    rcases List.mem_cons.1 h with rfl | h
    · exact Nat.mod_lt _ (by decide)
    · exact bitsOf_lt k _ _ h
theorem byteBits_lt (f : Nat → Nat) (n b : Nat) (h : b ∈ byteBits f n) : b < 2 := by
  obtain ⟨j, -, hj⟩ := List.mem_flatMap.1 h
  exact bitsOf_lt _ _ _ hj
set_option maxRecDepth 100000 in
set_option maxHeartbeats 8000000 in
theorem bytes47 (f : Nat → Nat) (hf : ∀ j, f j < 256) (n : Nat) (hn : n ≤ 100000) (a : Option Addr) (cap : Nat) (w : World) (h : CellsAt w.heap.size w a n fun j => .int .u8 (f j)) :
    Calls Tryd.prog 47 #[.slice a n cap] w fun e w' => e = .returned (.int .u32 ((ones - crcBits ones (byteBits f n) : Nat) : Int)) ∧ Below w.heap.size w w' := by
  obtain ⟨i3, hi, hz0, hz1, hz2⟩ := info_parts info3
  obtain ⟨B, hB⟩ : ∃ B, B = w.heap.size := ⟨_, rfl⟩
  obtain ⟨b, off, ha, hc⟩ := h
  rw [← hB] at ha ⊢
  have HB := Lib.hid hB
  have HA := Lib.hid ha
  have HC := Lib.hid hc
  have HF := Lib.hid hf
  have HQ : Hid ((8 : Int) = ((8 : Nat) : Int)) := Lib.hid rfl
  obtain ⟨LL, hLL⟩ : ∃ LL : Nat → List Nat, LL = byteBits f := ⟨_, rfl⟩
  have HS : Hid (LL 0 = [] ∧ ∀ k, LL (k + 1) = LL k ++ bitsOf 8 (f k)) := Lib.hid (by rw [hLL]; exact ⟨rfl, byteBits_next f⟩)
  have HE := Lib.hid hLL
  clear ha hc hB hf hLL
  go_enter Tryd.func47, Tryd.ntmps47
  go_wp2_with fail
  go_loopw [3, 4] (fun v i wr => ∃ k : Nat, k ≤ n ∧ i = .int .i64 k ∧ Hid (wr.ownsRow B 3 1 v (8 * k) (intsL (LL k))) ∧ Hid (Below B w wr)) (fun _ i _ => n - (intOf i).toNat)
  case atStart => exact ⟨0, by omega, rfl, by rw [HS.out.1]; exact World.ownsRow_nil _ _ _ _, by rw [HB.out]; exact Below.refl _ _⟩
  case round =>
    obtain ⟨k, hk, rfl, HO, HBE⟩ := hrel
    have hBw : B ≤ wr.heap.size := by have := HBE.out.size; have := HB.out; omega
    by_cases hlt : k < n
    · have d1 : decide ((k : Int) < (n : Int)) = true := bool_yes (by omega)
      obtain ⟨rfl, hb⟩ := HA.out (by omega)
      have e1 : wr.cell? ⟨b, off + k, none⟩ = some (.int .u8 (f k)) := by rw [HBE.out.cell (p := ⟨b, off + k, none⟩) hb, HC.out k hlt]
      have hfk := HF.out k
      have HSk := Lib.hid (HS.out.2 k)
      generalize f k = x at *
      go_wp2_with (go_at_call 59; (with_reducible refine (bits59' _ _ x 8 rfl HQ.out (by omega) (by decide) _).mono ?_); rintro e w1 ⟨v1, rfl, hb1, ho1⟩; have HB1 := Lib.hid hb1; have HO1 := Lib.hid ho1; clear hb1 ho1)
      obtain ⟨g1, c1, rfl, hg1, hn1⟩ := own_nums HO1.out (by rw [bitsOf_length]; decide)
      have HL8 : Hid ((bitsOf 8 x).length = 8) := Lib.hid (bitsOf_length _ _)
      rw [HL8.out] at hn1 ⊢
      have HN1 := Lib.hid hn1
      have h1w := hn1.lt
      have HBw1 : Hid (wr.heap.size ≤ w1.heap.size) := Lib.hid HB1.out.size
      have HO2 : Hid (w1.ownsRow B 3 1 u3 (8 * k) (intsL (LL k))) := Lib.hid (own_keep1 HO.out fun q hq => HB1.out.block q (own_lt HO.out hq).2)
      have HNE : Hid (u3.ownBlock ≠ some g1) := Lib.hid fun e => by have := (own_lt HO.out e).2; omega
      have HBE1 : Hid (Below B w w1) := Lib.hid (HBE.out.trans (HB1.out.mono hBw))
      clear hn1 HO1 HO HBE HB1
      obtain ⟨bl, hbl⟩ : ∃ bl, bl = bitsOf 8 x := ⟨_, rfl⟩
      rw [← hbl] at HSk HL8 HN1
      have HT : Hid (∀ m, m < 8 → bl.take (m + 1) = bl.take m ++ [bl[m]?.getD 0]) := Lib.hid fun m hm => by
        rw [List.take_add_one, List.getElem?_eq_getElem (by rw [HL8.out]; exact hm)]; rfl
      have HT8 : Hid (bl.take 8 = bl) := Lib.hid (List.take_of_length_le (by rw [HL8.out]; exact Nat.le_refl _))
      clear hbl hfk e1
      go_wp2_with fail
      go_loopw [3, 6] (fun v i wr => ∃ m : Nat, m ≤ 8 ∧ i = .int .i64 m ∧ Hid (wr.ownsRow B 3 1 v (8 * k + m) (intsL (LL k ++ bl.take m))) ∧ Hid (Below B w wr) ∧ Hid (v.ownBlock ≠ some g1) ∧ Hid (wr.heap[g1]? = w1.heap[g1]?)) (fun _ i _ => 8 - (intOf i).toNat)
      case atStart => exact ⟨0, by omega, rfl, by simp only [List.take_zero, List.append_nil, Nat.add_zero]; exact HO2, HBE1, HNE, rfl⟩
      case round =>
        clear HO2 HBE1 HNE hBw
        obtain ⟨m, hm, rfl, HO, HBE, HNE, HK⟩ := hrel
        have hBw : B ≤ wr.heap.size := by have := HBE.out.size; have := HB.out; omega
        have q1 : 8 * k + m + 1 ≤ maxLen := by unfold maxLen; omega
        have q2 : (8 * k + m + 1) * 8 ≤ 140737488355328 := by omega
        obtain ⟨va, vc, rfl⟩ := own_slice_n HO.out
        by_cases hlt8 : m < 8
        · have d2 : decide ((m : Int) < 8) = true := bool_yes (by omega)
          have HN2 := Lib.hid (HN1.out.keep HK.out)
          have e2 := HN2.out.cell hlt8
          have HL : Hid (g1 < wr.heap.size) := Lib.hid HN2.out.lt
          have HTm := Lib.hid (HT.out m hlt8)
          generalize bl[m]?.getD 0 = y at *
          go_wp2_with (at_builtin; refine wpList_push_at rfl (.tmp 23) (.tmp 28) 30 rfl B 3 3 i3 (.int .i64 0) 1 8 Tryd.underlying30 hi hz0 hz1 hz2 rfl (by decide) wr hBw (.slice va (8 * k + m) vc) (8 * k + m) (intsL (LL k ++ bl.take m)) rfl HO.out #[.int .i64 (Int.ofNat y)] 1 1 rfl rfl (by simp [Value.oneCell']) q1 q2 ?_; intro v' w' ho' hg' hb' hn'; have HO' := Lib.hid ho'; have HG' := Lib.hid hg'; have HNN := Lib.hid hn'; have HB' := Lib.hid (hb' _ _ HBE.out (Nat.le_refl _)); clear ho' hg' hb' hn')
          go_wp2_with fail
          go_roundw
          case rel => exact ⟨m + 1, by omega, by go_num, Lib.hid (by rw [HTm.out, ← List.append_assoc, intsL_append]; exact HO'.out), HB', Lib.hid (fun e => by rcases HNN.out with h | h <;> rw [h] at e; exact HNE.out e; have := HL.out; cases e; omega), Lib.hid ((HG'.out.block g1 HL.out (Ne.symm HNE.out)).trans HK.out)⟩
          case measure => simp [intOf]; omega
        · obtain rfl : m = 8 := by omega
          go_wp2_with fail
          go_roundw
          case rel => exact ⟨k + 1, by omega, by go_num, Lib.hid (by rw [HSk.out]; have := HO.out; rw [HT8.out] at this; exact this), HBE⟩
          case measure => simp [intOf]; omega
    · obtain rfl : k = n := by omega
      have d1 : decide ((k : Int) < (k : Int)) = false := by simp
      obtain ⟨va, vc, rfl⟩ := own_slice_n HO.out
      obtain ⟨a', c', hv, hat⟩ := own_at HO.out
      obtain ⟨rfl, rfl⟩ : va = a' ∧ vc = c' := by cases hv; exact ⟨rfl, rfl⟩
      have HLn : Hid ((LL k).length = 8 * k) := Lib.hid (by rw [HE.out]; exact byteBits_length f k)
      have HLt : Hid (∀ b ∈ LL k, b < 2) := Lib.hid (by rw [HE.out]; exact byteBits_lt f k)
      have HX := Lib.hid hat
      obtain ⟨R, hR⟩ : ∃ R, R = crcBits ones (LL k) := ⟨_, rfl⟩
      have HR := Lib.hid hR
      have hRl : R < 4294967296 := by rw [hR]; exact crcBits_lt _ _ (by decide)
      have HM : Hid (∀ (z : Int), z = 4294967295 → Calls Tryd.prog 60 #[.int .u32 z, .slice va (8 * k) vc] wr fun e w' => e = .returned (.int .u32 R) ∧ Below wr.heap.size wr w') := Lib.hid fun z hz => by
        subst hz; rw [hR]
        exact rest60 ones (by decide) (LL k) HLt.out (8 * k) HLn.out (by omega) va vc wr HX.out
      clear hv hat hR HX
      go_wp2_with (go_at_call 60; (with_reducible refine (HM.out _ (by rfl)).mono ?_); rintro e w2 ⟨rfl, hb2⟩; have HB2 := Lib.hid hb2; clear hb2)
      go_ret
      refine ⟨?_, HBE.out.trans (HB2.out.mono (by have := HBE.out.size; have := HB.out; omega))⟩
      rw [← HE.out, ← HR.out]
      exact congrArg (fun z => Ending.returned (Value.int .u32 z)) (by unfold ones; rw [show (4294967295 - R : Nat) = 4294967295 - R from rfl]; omega)
end Go.Proofs.YtjbngddmmdcagaaDoor
