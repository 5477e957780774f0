/- -/
import Derived.Test.YtfnkmolffhfpoaaGreatHp34
set_option maxRecDepth 100000
namespace Go.Proofs.YtfnkmolffhfpoaaGreat
namespace Sk
theorem haM:Gf Gb CaD=true:=by kernel_rfl
theorem iaM:Gf Gb DaD=true:=by kernel_rfl
theorem jaM:Gf Gb EaD=true:=by kernel_rfl
theorem kaM:Gf Gb FaD=true:=by kernel_rfl
theorem laM:Gf Gb GaD=true:=by kernel_rfl
theorem maM:Gf Gb HaD=true:=by kernel_rfl
theorem naM:Gf Gb IaD=true:=by kernel_rfl
theorem oaM:Gf Gb JaD=true:=by kernel_rfl
end Sk
end Go.Proofs.YtfnkmolffhfpoaaGreat
