/- A run reckoned: the tables are the program's. -/
import Derived.Test.YtkdcfijebgeajaaGreatJw28
namespace Go.Proofs.YtkdcfijebgeajaaGreat
namespace Rk
open Go.RowKit
set_option maxRecDepth 100000
set_option maxHeartbeats 4000000
theorem fn_rows : (List.range 480).map fnT.get = (List.range 480).map (fnRow Tryz.prog fnT.get) := by kernel_rfl
theorem name_rows : (List.range 480).map (nameRow fnT.get) = (List.range 480).map fun _ => false := by kernel_rfl
theorem ty_rows : (List.range 446).map tyT.get = (List.range 446).map (tyRow Tryz.prog tyT.get) := by kernel_rfl
theorem meth_246_Step (v : Value) (w : World) : (method (Tryz.prog.types.size + Made.depth) 246 v "Step").run Tryz.prog w = .ok (451, v) w := by kernel_rfl
theorem meth_246_When (v : Value) (w : World) : (method (Tryz.prog.types.size + Made.depth) 246 v "When").run Tryz.prog w = .ok (452, v) w := by kernel_rfl
theorem meth_246_Result (v : Value) (w : World) : (method (Tryz.prog.types.size + Made.depth) 246 v "Result").run Tryz.prog w = .ok (450, v) w := by kernel_rfl
theorem meth_248_Step (v : Value) (w : World) : (method (Tryz.prog.types.size + Made.depth) 248 v "Step").run Tryz.prog w = .ok (475, v) w := by kernel_rfl
theorem meth_248_When (v : Value) (w : World) : (method (Tryz.prog.types.size + Made.depth) 248 v "When").run Tryz.prog w = .ok (476, v) w := by kernel_rfl
theorem meth_248_Result (v : Value) (w : World) : (method (Tryz.prog.types.size + Made.depth) 248 v "Result").run Tryz.prog w = .ok (474, v) w := by kernel_rfl
theorem envOk : EnvOk env := env_ok fn_rows name_rows ty_rows (fun t n f h => by
  unfold methT at h
  split at h
  · rename_i hc
    cases h
    simp only [andB_eq, Bool.and_eq_true, beqN, decide_eq_true_eq, beq_iff_eq] at hc
    obtain ⟨rfl, rfl⟩ := hc
    intro v w
    exact meth_246_Step v w
  split at h
  · rename_i hc
    cases h
    simp only [andB_eq, Bool.and_eq_true, beqN, decide_eq_true_eq, beq_iff_eq] at hc
    obtain ⟨rfl, rfl⟩ := hc
    intro v w
    exact meth_246_When v w
  split at h
  · rename_i hc
    cases h
    simp only [andB_eq, Bool.and_eq_true, beqN, decide_eq_true_eq, beq_iff_eq] at hc
    obtain ⟨rfl, rfl⟩ := hc
    intro v w
    exact meth_246_Result v w
  split at h
  · rename_i hc
    cases h
    simp only [andB_eq, Bool.and_eq_true, beqN, decide_eq_true_eq, beq_iff_eq] at hc
    obtain ⟨rfl, rfl⟩ := hc
    intro v w
    exact meth_248_Step v w
  split at h
  · rename_i hc
    cases h
    simp only [andB_eq, Bool.and_eq_true, beqN, decide_eq_true_eq, beq_iff_eq] at hc
    obtain ⟨rfl, rfl⟩ := hc
    intro v w
    exact meth_248_When v w
  split at h
  · rename_i hc
    cases h
    simp only [andB_eq, Bool.and_eq_true, beqN, decide_eq_true_eq, beq_iff_eq] at hc
    obtain ⟨rfl, rfl⟩ := hc
    intro v w
    exact meth_248_Result v w
  cases h) (by kernel_rfl)
end Rk
end Go.Proofs.YtkdcfijebgeajaaGreat
