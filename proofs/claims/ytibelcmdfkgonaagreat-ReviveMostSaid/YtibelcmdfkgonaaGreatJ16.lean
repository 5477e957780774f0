/- A run reckoned: the tables are the program's. -/
import Derived.Test.YtibelcmdfkgonaaGreatJ15
namespace Go.Proofs.YtibelcmdfkgonaaGreat
namespace Rk
open Go.RowKit
set_option maxRecDepth 100000
set_option maxHeartbeats 4000000
theorem fn_rows : (List.range 374).map fnT.get = (List.range 374).map (fnRow Tryz.prog fnT.get) := by kernel_rfl
theorem name_rows : (List.range 374).map (nameRow fnT.get) = (List.range 374).map fun _ => false := by kernel_rfl
theorem ty_rows : (List.range 389).map tyT.get = (List.range 389).map (tyRow Tryz.prog tyT.get) := by kernel_rfl
theorem envOk : EnvOk env := env_ok fn_rows name_rows ty_rows (fun t n f h => by cases h) (by kernel_rfl)
end Rk
end Go.Proofs.YtibelcmdfkgonaaGreat
