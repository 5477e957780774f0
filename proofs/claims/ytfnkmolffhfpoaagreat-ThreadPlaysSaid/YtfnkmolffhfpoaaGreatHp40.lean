/- -/
import Derived.Test.YtfnkmolffhfpoaaGreatHp34
set_option maxRecDepth 100000
namespace Go.Proofs.YtfnkmolffhfpoaaGreat
namespace Sk
theorem ZaL:Gf Gb uaD=true:=by kernel_rfl
theorem aaM:Gf Gb vaD=true:=by kernel_rfl
theorem baM:Gf Gb waD=true:=by kernel_rfl
theorem caM:Gf Gb xaD=true:=by kernel_rfl
theorem daM:Gf Gb yaD=true:=by kernel_rfl
theorem eaM:Gf Gb zaD=true:=by kernel_rfl
theorem faM:Gf Gb AaD=true:=by kernel_rfl
theorem gaM:Gf Gb BaD=true:=by kernel_rfl
end Sk
end Go.Proofs.YtfnkmolffhfpoaaGreat
