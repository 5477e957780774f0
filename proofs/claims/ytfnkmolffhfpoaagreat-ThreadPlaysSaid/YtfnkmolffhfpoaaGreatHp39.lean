/- -/
import Derived.Test.YtfnkmolffhfpoaaGreatHp34
set_option maxRecDepth 100000
namespace Go.Proofs.YtfnkmolffhfpoaaGreat
namespace Sk
theorem RaL:Gf Gb maD=true:=by kernel_rfl
theorem SaL:Gf Gb naD=true:=by kernel_rfl
theorem TaL:Gf Gb oaD=true:=by kernel_rfl
theorem UaL:Gf Gb paD=true:=by kernel_rfl
theorem VaL:Gf Gb qaD=true:=by kernel_rfl
theorem WaL:Gf Gb raD=true:=by kernel_rfl
theorem XaL:Gf Gb saD=true:=by kernel_rfl
theorem YaL:Gf Gb taD=true:=by kernel_rfl
end Sk
end Go.Proofs.YtfnkmolffhfpoaaGreat
