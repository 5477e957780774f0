/- -/
import Derived.Test.YtfnkmolffhfpoaaGreatHp34
set_option maxRecDepth 100000
namespace Go.Proofs.YtfnkmolffhfpoaaGreat
namespace Sk
theorem JaL:Gf Gb eaD=true:=by kernel_rfl
theorem KaL:Gf Gb faD=true:=by kernel_rfl
theorem LaL:Gf Gb gaD=true:=by kernel_rfl
theorem MaL:Gf Gb haD=true:=by kernel_rfl
theorem NaL:Gf Gb iaD=true:=by kernel_rfl
theorem OaL:Gf Gb jaD=true:=by kernel_rfl
theorem PaL:Gf Gb kaD=true:=by kernel_rfl
theorem QaL:Gf Gb laD=true:=by kernel_rfl
end Sk
end Go.Proofs.YtfnkmolffhfpoaaGreat
