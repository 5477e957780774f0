/- A line compared with one of noughts. -/
import Derived.Test.YtjbngddmmdcagaaDoorS3
import Derived.ChangeKeysEq
namespace Go.Proofs.YtjbngddmmdcagaaDoor
open Go.RowKit Go.BigFrame
set_option linter.unusedVariables false
set_option linter.unusedSimpArgs false

theorem info23 : (Tryd.prog.info? 23).map (fun i => (i.zero, i.size, i.bytes)) = some (some (.int .u64 0), 1, 8) := by kernel_rfl
theorem eqz (w : World) (v : Nat → Nat) (xs ys : Array Value) (hx : ∀ j, j < 8 → xs[j]? = some (.int .u64 (v j))) (hy : ∀ j, j < 8 → ys[j]? = some (.int .u64 0)) :
    ∀ l : List Nat, (∀ j ∈ l, j < 8) → (Op.eqItems 9999 23 1 xs ys l).run Tryd.prog w = .ok (l.all fun j => v j == 0) w := by
  have hk : Tryd.prog.plainKey 23 = true := by kernel_rfl
  intro l
  induction l with
  | nil => intro _; simp [Op.eqItems]
  | cons j l ih =>
    intro h
    have hj := h j (by simp)
    have h1 := run_part_plain (P := Tryd.prog) (e := 23) w hk (hx j hj)
    have h2 := run_part_plain (P := Tryd.prog) (e := 23) w hk (hy j hj)
    have he := run_equalIn_int (P := Tryd.prog) w 9998 23 .u64 .u64 (v j) 0 Tryd.underlying23
    have hi := ih fun q hq => h q (by simp [hq])
    by_cases h0 : v j = 0
    · have he' := run_equalIn_int (P := Tryd.prog) w 9998 23 .u64 .u64 0 0 Tryd.underlying23
      simp [Op.eqItems, h1, h2, he', hi, h0]
    · have h0' : ((v j : Int) == 0) = false := by simp [h0]
      simp [Op.eqItems, h1, h2, he, h0]
theorem eq58 (w : World) (v0 v1 v2 v3 v4 v5 v6 v7 : Nat) : (Op.equalIn 10000 58 (.agg #[.int .u64 v0, .int .u64 v1, .int .u64 v2, .int .u64 v3, .int .u64 v4, .int .u64 v5, .int .u64 v6, .int .u64 v7]) (.agg #[.int .u64 0, .int .u64 0, .int .u64 0, .int .u64 0, .int .u64 0, .int .u64 0, .int .u64 0, .int .u64 0])).run Tryd.prog w =
    .ok (!(v0 != 0 || v1 != 0 || v2 != 0 || v3 != 0 || v4 != 0 || v5 != 0 || v6 != 0 || v7 != 0)) w := by
  obtain ⟨i23, hi, -⟩ := info_parts info23
  have hc : Tryd.prog.cellsOf 23 = 1 := by kernel_rfl
  rw [run_equalIn_array w 9999 _ _ Tryd.underlying58 hi, hc]
  rw [eqz w (fun j => [v0, v1, v2, v3, v4, v5, v6, v7][j]?.getD 0) _ _ (fun j hj => ?_) (fun j hj => ?_) _ (fun j hj => List.mem_range.1 hj)]
  · simp only [show List.range 8 = [0, 1, 2, 3, 4, 5, 6, 7] from rfl, List.all_cons, List.all_nil]
    simp [bne, Bool.and_assoc]
  · rcases j with _ | _ | _ | _ | _ | _ | _ | _ | j <;> first | rfl | omega
  · rcases j with _ | _ | _ | _ | _ | _ | _ | _ | j <;> first | rfl | omega
end Go.Proofs.YtjbngddmmdcagaaDoor
