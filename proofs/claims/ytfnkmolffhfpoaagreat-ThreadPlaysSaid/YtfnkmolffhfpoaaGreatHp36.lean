/- -/
import Derived.Test.YtfnkmolffhfpoaaGreatHp34
set_option maxRecDepth 100000
namespace Go.Proofs.YtfnkmolffhfpoaaGreat
namespace Sk
theorem kU8:Gf Gb hU8=true:=by kernel_rfl
theorem kU9:Gf Gb hU9=true:=by kernel_rfl
theorem vaL:Gf Gb QaC=true:=by kernel_rfl
theorem waL:Gf Gb RaC=true:=by kernel_rfl
theorem xaL:Gf Gb SaC=true:=by kernel_rfl
theorem yaL:Gf Gb TaC=true:=by kernel_rfl
theorem zaL:Gf Gb UaC=true:=by kernel_rfl
theorem AaL:Gf Gb VaC=true:=by kernel_rfl
end Sk
end Go.Proofs.YtfnkmolffhfpoaaGreat
