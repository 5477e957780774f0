/- -/
import Derived.Test.YtfnkmolffhfpoaaGreatHp34
set_option maxRecDepth 100000
namespace Go.Proofs.YtfnkmolffhfpoaaGreat
namespace Sk
theorem BaL:Gf Gb WaC=true:=by kernel_rfl
theorem CaL:Gf Gb XaC=true:=by kernel_rfl
theorem DaL:Gf Gb YaC=true:=by kernel_rfl
theorem EaL:Gf Gb ZaC=true:=by kernel_rfl
theorem FaL:Gf Gb aaD=true:=by kernel_rfl
theorem GaL:Gf Gb baD=true:=by kernel_rfl
theorem HaL:Gf Gb caD=true:=by kernel_rfl
theorem IaL:Gf Gb daD=true:=by kernel_rfl
end Sk
end Go.Proofs.YtfnkmolffhfpoaaGreat
