/- -/
import Derived.Test.YtfnkmolffhfpoaaGreatHp34
set_option maxRecDepth 100000
namespace Go.Proofs.YtfnkmolffhfpoaaGreat
namespace Sk
theorem kU0:Gf Gb hU0=true:=by kernel_rfl
theorem kU1:Gf Gb hU1=true:=by kernel_rfl
theorem kU2:Gf Gb hU2=true:=by kernel_rfl
theorem kU3:Gf Gb hU3=true:=by kernel_rfl
theorem kU4:Gf Gb hU4=true:=by kernel_rfl
theorem kU5:Gf Gb hU5=true:=by kernel_rfl
theorem kU6:Gf Gb hU6=true:=by kernel_rfl
theorem kU7:Gf Gb hU7=true:=by kernel_rfl
end Sk
end Go.Proofs.YtfnkmolffhfpoaaGreat
