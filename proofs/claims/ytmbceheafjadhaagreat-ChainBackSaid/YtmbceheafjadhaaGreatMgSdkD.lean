/- sdk.Back without a channel. -/
import Derived.Outline
import Derived.Test.YtmbceheafjadhaaGreatMgSdkA
set_option linter.unusedVariables false
set_option linter.unusedSimpArgs false
namespace Go.Proofs.YtmbceheafjadhaaGreat
open Go.RowKit Go.Maps
theorem infoTx : (Tryz.prog.info? 70).map (·.size) = some 6 := by kernel_rfl
variable {w : World} {cb h n i : Nat} {seed : ByteArray}
end Go.Proofs.YtmbceheafjadhaaGreat
