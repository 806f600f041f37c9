/- law11's Locked, with nothing more. What spends all of some outputs: whether it may be (no program). What spends all of a channel: claims and refunds (no program). -/
import Derived.Test.YtmbceheafjadhaaGreatMgG34
import Derived.Test.YtmbceheafjadhaaGreatMgG35
set_option linter.unusedVariables false
set_option linter.unusedSimpArgs false
namespace Go.Proofs.YtmbceheafjadhaaGreat
open Go.RowKit Go.Maps
end Go.Proofs.YtmbceheafjadhaaGreat
namespace Go.Proofs.YtmbceheafjadhaaGreat
open Go.RowKit Go.Maps
section
variable {t : Txn} {L : List En} {path : Int}
end
end Go.Proofs.YtmbceheafjadhaaGreat
namespace Go.Proofs.YtmbceheafjadhaaGreat
open Go.RowKit Go.Maps
section
variable {t : Txn} {L : List En} {cl gt : ByteArray} {ex hh : Int}
end
/-! vouchers -/
/-! what is there behind -/
end Go.Proofs.YtmbceheafjadhaaGreat
