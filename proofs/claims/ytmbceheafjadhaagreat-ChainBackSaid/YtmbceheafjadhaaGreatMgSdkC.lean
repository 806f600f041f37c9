/- sdk: a client without a channel: Root, Name, Whole; Pay, Back refused come later. sdk.Output of a client without a channel. sdk.Attach, taken. law23: place, offer; what a long straight proof keeps. -/
import Derived.Outline
import Derived.StillTailTactics
import Derived.Test.YtmbceheafjadhaaGreatMgNote
import Derived.Test.YtmbceheafjadhaaGreatMgSdkA
import Derived.Test.YtmbceheafjadhaaGreatMgSdkB
set_option linter.unusedVariables false
set_option linter.unusedSimpArgs false
namespace Go.Proofs.YtmbceheafjadhaaGreat
open Go.RowKit Go.Maps
variable {w : World} {cb h n i : Nat} {seed : ByteArray}
end Go.Proofs.YtmbceheafjadhaaGreat
namespace Go.Proofs.YtmbceheafjadhaaGreat
open Go.RowKit Go.Maps
variable {w : World} {cb h n i : Nat} {seed : ByteArray}
end Go.Proofs.YtmbceheafjadhaaGreat
namespace Go.Proofs.YtmbceheafjadhaaGreat
open Go.RowKit Go.Maps
variable {w : World} {cb h n i : Nat} {seed : ByteArray}
end Go.Proofs.YtmbceheafjadhaaGreat
namespace Go.Proofs.YtmbceheafjadhaaGreat
open Go.RowKit Go.Maps
end Go.Proofs.YtmbceheafjadhaaGreat
