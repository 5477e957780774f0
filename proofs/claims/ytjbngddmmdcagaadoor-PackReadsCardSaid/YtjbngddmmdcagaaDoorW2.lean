/- Layer 32: a line's row. -/
import Derived.Test.YtjbngddmmdcagaaDoorW1
import Derived.Test.YtjbngddmmdcagaaDoorH4
namespace Go.Proofs.YtjbngddmmdcagaaDoor
open Go.RowKit Go.BigFrame
set_option linter.unusedVariables false
set_option linter.unusedSimpArgs false

theorem info9 : (Tryd.prog.info? 9).map (fun i => (i.zero, i.size, i.bytes)) = some (some (.string ⟨#[]⟩), 1, 16) := by kernel_rfl
def strsL (l : List (List UInt8)) : List Value := l.map fun s => .string (txt s)
theorem strsL_append (l m : List (List UInt8)) : strsL (l ++ m) = strsL l ++ strsL m := by simp [strsL]
theorem index58 (w : World) (cs : Array Value) (k : Nat) (hk : k < 8) (x : Value) (h : cs[k]? = some x) : (Instr.index 58 (.agg cs) (.int .i64 k)).run Tryd.prog w = .ok x w := by
  obtain ⟨i23, hi, -⟩ := info_parts info23
  have hc : Tryd.prog.cellsOf 23 = 1 := by kernel_rfl
  have hp : Tryd.prog.plainKey 23 = true := by kernel_rfl
  have h1 := run_part_plain (P := Tryd.prog) (e := 23) w hp h
  have hs := run_sizeOf (P := Tryd.prog) w hi
  rw [hc] at hs
  have hb : (0 : Int) ≤ (k : Int) ∧ (k : Int) < 8 := by omega
  simp [Instr.index, asIntOf, run_underlying Tryd.underlying58, hs, h1, hb]
  omega
theorem index_line (w : World) (v : Nat → Nat) (k : Nat) (hk : k < 8) : (Instr.index 58 (.agg #[.int .u64 (v 0), .int .u64 (v 1), .int .u64 (v 2), .int .u64 (v 3), .int .u64 (v 4), .int .u64 (v 5), .int .u64 (v 6), .int .u64 (v 7)]) (.int .i64 k)).run Tryd.prog w = .ok (.int .u64 (v k)) w := by
  refine index58 w _ k hk _ ?_
  rcases k with _ | _ | _ | _ | _ | _ | _ | _ | k <;> first | rfl | omega
theorem box_cells {W W1 : World} {g : Nat} {x0 x1 x2 x3 x4 x5 x6 x7 : Value} {t : TypeId} (h : W.heap[g]? = some (.cells #[x0, x1, x2, x3, x4, x5, x6, x7] t (0, 0))) (hb : Below W.heap.size W W1) :
    (∀ o, (W1.alloc o).cell? ⟨g, 0, none⟩ = some x0) ∧ (∀ o, (W1.alloc o).cell? ⟨g, 1, none⟩ = some x1) ∧ (∀ o, (W1.alloc o).cell? ⟨g, 2, none⟩ = some x2) ∧ (∀ o, (W1.alloc o).cell? ⟨g, 3, none⟩ = some x3) ∧
    (∀ o, (W1.alloc o).cell? ⟨g, 4, none⟩ = some x4) ∧ (∀ o, (W1.alloc o).cell? ⟨g, 5, none⟩ = some x5) ∧ (∀ o, (W1.alloc o).cell? ⟨g, 6, none⟩ = some x6) ∧ (∀ o, (W1.alloc o).cell? ⟨g, 7, none⟩ = some x7) := by
  have hl := (Array.getElem?_eq_some_iff.1 h).1
  have h1 := (hb.block g hl).trans h
  have h2 : ∀ o, (W1.alloc o).heap[g]? = some (.cells #[x0, x1, x2, x3, x4, x5, x6, x7] t (0, 0)) := fun o => (Below.heap_alloc W1 o g (Nat.lt_of_lt_of_le hl hb.size)).trans h1
  exact ⟨fun o => cell_in (h2 o), fun o => cell_in (h2 o), fun o => cell_in (h2 o), fun o => cell_in (h2 o), fun o => cell_in (h2 o), fun o => cell_in (h2 o), fun o => cell_in (h2 o), fun o => cell_in (h2 o)⟩
set_option maxRecDepth 100000 in
set_option maxHeartbeats 8000000 in
theorem row22 (n : Nat) (hn : n ≤ 262144) (v : Nat → Nat) (hv : ∀ j, v j < 18446744073709551616) (w : World) :
    Calls Tryd.prog 22 #[.int .i64 n, .agg #[.int .u64 (v 0), .int .u64 (v 1), .int .u64 (v 2), .int .u64 (v 3), .int .u64 (v 4), .int .u64 (v 5), .int .u64 (v 6), .int .u64 (v 7)]] w
      (TextTo (dig 10 n ++ [58] ++ ((List.range 8).flatMap fun k => 32 :: dig 16 (v k)) ++ [10]) w) := by
  obtain ⟨i9, hi, hz0, hz1, hz2⟩ := info_parts info9
  obtain ⟨B, hB⟩ : ∃ B, B = w.heap.size := ⟨_, rfl⟩
  unfold TextTo
  rw [← hB]
  have HB := Lib.hid hB
  clear hB
  have q0 : txt (dig 10 n) ++ (⟨#[58]⟩ : ByteArray) = txt (dig 10 n ++ [58]) := txt_append (dig 10 n) [58]
  have q1 : ¬ 9223372036854775807 < (txt (dig 10 n)).size + (ByteArray.mk #[58]).size := by
    rw [txt_size]
    have := dig_length (b := 10) (by decide) 6 n (by decide) (by omega)
    show ¬ _ < _ + 1
    omega
  have HV := Lib.hid hv
  go_enter Tryd.func22, Tryd.ntmps22
  have HVS : Hid ((w.alloc (.cells #[.int .u64 (v 0), .int .u64 (v 1), .int .u64 (v 2), .int .u64 (v 3), .int .u64 (v 4), .int .u64 (v 5), .int .u64 (v 6), .int .u64 (v 7)] 58)).heap[w.heap.size]? = some (.cells #[.int .u64 (v 0), .int .u64 (v 1), .int .u64 (v 2), .int .u64 (v 3), .int .u64 (v 4), .int .u64 (v 5), .int .u64 (v 6), .int .u64 (v 7)] 58 (0, 0))) := Lib.hid (heap_alloc_new w _)
  go_wp2_with (go_at_call 18; (with_reducible refine (dec18 n _ _ hn rfl).mono ?_); rintro e w1 ⟨rfl, hb1⟩; have HB1 := Lib.hid hb1; clear hb1; obtain ⟨c0, c1, c2, c3, c4, c5, c6, c7⟩ := box_cells (HVS.out) HB1.out)
  have hB1 : B ≤ w1.heap.size := by have := HB1.out.size; have := HB.out; simp at *; omega
  have HBW1 : Hid (Below B w w1) := Lib.hid (((Below.refl _ w).alloc (Nat.le_refl _) _).trans (HB1.out.mono (by simp)) |>.mono (by rw [HB.out]; exact Nat.le_refl _))
  obtain ⟨LS, hLS⟩ : ∃ LS : Nat → List (List UInt8), LS = fun k => (dig 10 n ++ [58]) :: (List.range k).map fun j => dig 16 (v j) := ⟨_, rfl⟩
  have HLS : Hid (LS 0 = [dig 10 n ++ [58]] ∧ ∀ k, LS (k + 1) = LS k ++ [dig 16 (v k)]) := Lib.hid (by
    rw [hLS]
    exact ⟨rfl, fun k => by simp [List.range_succ]⟩)
  have HLE := Lib.hid hLS
  clear hLS c0 c1 c2 c3 c4 c5 c6 c7 q0 q1 HVS HB1
  go_loopw [5, 13] (fun v i wr => ∃ k : Nat, k ≤ 8 ∧ i = .int .i64 k ∧ Hid (wr.ownsRow B 9 1 v (k + 1) (strsL (LS k))) ∧ Hid (Below B w wr)) (fun _ i _ => 8 - (intOf i).toNat)
  case atStart => exact ⟨0, by omega, rfl, by rw [HLS.out.1]; exact own_made1 w1 B 9 _ hB1, Lib.hid (HBW1.out.alloc hB1 _)⟩
  case round =>
    obtain ⟨k, hk, rfl, HO, HBE⟩ := hrel
    have hBw : B ≤ wr.heap.size := by have := HBE.out.size; have := HB.out; omega
    have q1 : k + 1 + 1 ≤ maxLen := by unfold maxLen; omega
    have q2 : (k + 1 + 1) * 16 ≤ 140737488355328 := by omega
    obtain ⟨va, vc, rfl⟩ := own_slice_n HO.out
    by_cases hlt : k < 8
    · have d1 : decide ((k : Int) < 8) = true := bool_yes (by omega)
      have e1 := index_line wr v k hlt
      have HLk := Lib.hid (HLS.out.2 k)
      have hx := HV.out k
      go_wp2_with (first
        | (go_at_call 7; (with_reducible refine (hex7 (v k) hx _).mono ?_); rintro e w2 ⟨rfl, hb2⟩; have HB2 := Lib.hid hb2; have hB2 : B ≤ w2.heap.size := Nat.le_trans hBw hb2.size; have HO2 := Lib.hid (own_keep1 (w' := w2) HO.out fun q hq => hb2.block q (own_lt HO.out hq).2); have HBE2 := Lib.hid (HBE.out.trans (hb2.mono hBw)); clear hb2)
        | (at_builtin; refine wpList_push rfl (.tmp 16) (.tmp 19) 61 rfl B 9 i9 (.string ⟨#[]⟩) 1 16 Tryd.underlying61 hi hz0 hz1 hz2 rfl (by decide) _ hB2 (.slice va (k + 1) vc) (k + 1) (strsL (LS k)) rfl HO2.out #[.string (txt (dig 16 (v k)))] 1 1 rfl rfl (by simp [Value.oneCell']) q1 q2 ?_; intro v' w' ho' hg' hb' hn'; have HO' := Lib.hid ho'; have HB' := Lib.hid (hb' _ _ HBE2.out (Nat.le_refl _)); clear ho' hg' hb' hn'))
      go_wp2_with fail
      go_roundw
      case rel => exact ⟨k + 1, by omega, by go_num, Lib.hid (by rw [HLk.out, strsL_append]; exact HO'.out), HB'⟩
      case measure => simp [intOf]; omega
    · obtain rfl : k = 8 := by omega
      have HT : Hid (dig 10 n ++ [58] ++ ((List.range 8).flatMap fun k => 32 :: dig 16 (v k)) = Lib.join (LS 8) [32]) := Lib.hid (by
        rw [HLE.out, Lib.join_cons]
        simp only [Lib.joinTail, List.flatMap_def, List.map_map]; rfl)
      have HLL : Hid ((LS 8).length = 9) := Lib.hid (by rw [HLE.out]; simp)
      obtain ⟨T, hT⟩ : ∃ T, T = dig 10 n ++ [58] ++ ((List.range 8).flatMap fun k => 32 :: dig 16 (v k)) := ⟨_, rfl⟩
      have hTl : T.length ≤ 143 := by
        have h0 := dig_length (b := 10) (by decide) 6 n (by decide) (by omega)
        have h1 : ∀ k, (dig 16 (v k)).length ≤ 16 := fun k => dig_length (by decide) 16 _ (by decide) (by have := hv k; omega)
        have a0 := h1 0; have a1 := h1 1; have a2 := h1 2; have a3 := h1 3; have a4 := h1 4; have a5 := h1 5; have a6 := h1 6; have a7 := h1 7
        rw [hT]
        simp only [show List.range 8 = [0, 1, 2, 3, 4, 5, 6, 7] from rfl, List.flatMap_cons, List.flatMap_nil, List.length_append, List.length_cons, List.length_nil]
        omega
      have HTT := Lib.hid hT
      rw [← hT] at HT
      have HJ : Hid (Calls Tryd.prog 42 #[.slice va 9 vc, .string ⟨#[32]⟩] wr fun e w' => e = .returned (.string (txt T)) ∧ Below wr.heap.size wr w') := Lib.hid (by
        rcases HO.out.2 with ⟨-, h0⟩ | ⟨g, cp, cur, hvv, hb, hg, h1, h2, h3, h4⟩
        · omega
        · cases hvv
          have hlen : ((LS 8).map txt).length = 9 := by rw [List.length_map, HLL.out]
          have hj : (((LS 8).map txt).map (·.data.toList)) = LS 8 := by
            rw [List.map_map]
            have : ((fun x : ByteArray => x.data.toList) ∘ txt) = id := funext fun l => txt_list l
            rw [this, List.map_id]
          have hJ := Tryd.strings_Join g 0 vc ((LS 8).map txt) ⟨#[32]⟩ wr (fun j x hx => by
            rw [Nat.zero_add, cell_in hg, ← Array.getElem?_toList]
            have h5 : cur.toList[j]? = (strsL (LS 8))[j]? := by
              rw [← h4, Nat.mul_one, List.getElem?_take, if_pos]
              have := (List.getElem?_eq_some_iff.1 hx).1
              omega
            rw [h5]
            unfold strsL
            rw [List.getElem?_map] at hx ⊢
            cases hs : (LS 8)[j]? with
            | none => rw [hs] at hx; cases hx
            | some y => rw [hs] at hx; cases hx; rfl) ((Array.getElem?_eq_some_iff.1 hg).1) (by rw [hlen]; decide) (by rw [hlen]; omega) (by rw [hj]; show (Lib.join (LS 8) [32]).length ≤ _; rw [← HT.out]; omega)
          rw [hlen, hj] at hJ
          rw [show (⟨#[32]⟩ : ByteArray).data.toList = [32] from rfl, ← HT.out] at hJ
          exact hJ)
      have q0 : txt T ++ (⟨#[10]⟩ : ByteArray) = txt (T ++ [10]) := txt_append T [10]
      have q3 : ¬ 9223372036854775807 < (txt T).size + (ByteArray.mk #[10]).size := by
        rw [txt_size]; show ¬ _ < _ + 1; omega
      clear hT hTl
      go_wp2_with (go_at_call 42; (with_reducible refine HJ.out.mono ?_); rintro e w2 ⟨rfl, hb2⟩; have HB2 := Lib.hid hb2; clear hb2)
      go_ret
      exact ⟨by rw [← HTT.out]; rfl, HBE.out.trans (HB2.out.mono hBw)⟩
end Go.Proofs.YtjbngddmmdcagaaDoor
