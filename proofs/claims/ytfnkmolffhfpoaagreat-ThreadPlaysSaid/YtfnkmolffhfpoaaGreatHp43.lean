/- -/
import Derived.Test.YtfnkmolffhfpoaaGreatHp34
set_option maxRecDepth 100000
namespace Go.Proofs.YtfnkmolffhfpoaaGreat
namespace Sk
theorem xaM:Gf Gb SaD=true:=by kernel_rfl
theorem yaM:Gf Gb TaD=true:=by kernel_rfl
theorem zaM:Gf Gb UaD=true:=by kernel_rfl
theorem AaM:Gf Gb VaD=true:=by kernel_rfl
theorem BaM:Gf Gb WaD=true:=by kernel_rfl
theorem CaM:Gf Gb XaD=true:=by kernel_rfl
theorem DaM:Gf Gb YaD=true:=by kernel_rfl
theorem EaM:Gf Gb ZaD=true:=by kernel_rfl
end Sk
end Go.Proofs.YtfnkmolffhfpoaaGreat
