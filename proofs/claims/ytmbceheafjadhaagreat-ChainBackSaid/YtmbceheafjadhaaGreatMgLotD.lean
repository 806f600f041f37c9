/- draw.Top, Fair; lottery's room. -/
import Derived.Outline
import Derived.Test.YtmbceheafjadhaaGreatMgG22
set_option linter.unusedVariables false
set_option linter.unusedSimpArgs false
namespace Go.Proofs.YtmbceheafjadhaaGreat
open Go.RowKit
end Go.Proofs.YtmbceheafjadhaaGreat
