/- -/
import Derived.Test.YtfnkmolffhfpoaaGreatHp34
set_option maxRecDepth 100000
namespace Go.Proofs.YtfnkmolffhfpoaaGreat
namespace Sk
theorem paM:Gf Gb KaD=true:=by kernel_rfl
theorem qaM:Gf Gb LaD=true:=by kernel_rfl
theorem raM:Gf Gb MaD=true:=by kernel_rfl
theorem saM:Gf Gb NaD=true:=by kernel_rfl
theorem taM:Gf Gb OaD=true:=by kernel_rfl
theorem uaM:Gf Gb PaD=true:=by kernel_rfl
theorem vaM:Gf Gb QaD=true:=by kernel_rfl
theorem waM:Gf Gb RaD=true:=by kernel_rfl
end Sk
end Go.Proofs.YtfnkmolffhfpoaaGreat
