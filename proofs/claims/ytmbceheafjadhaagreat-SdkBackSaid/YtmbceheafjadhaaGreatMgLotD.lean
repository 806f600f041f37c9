/- draw.Top, Fair; lottery's room. -/
import Derived.Outline
import Derived.Test.YtmbceheafjadhaaGreatMgG22
set_option linter.unusedVariables false
set_option linter.unusedSimpArgs false
namespace Go.Proofs.YtmbceheafjadhaaGreat
open Go.RowKit
/-- the greatest word that tells of one of so many numbers -/
def topV (m : Nat) : Nat := 18446744073709551615 - (18446744073709551615 % m + 1) % m
/-- whether there is room for one more offer -/
def roomN (l : List Of) (face : Nat) : Int := if 8 ≤ l.length then 9 else plusE (opnV l : Nat) (face : Nat)
end Go.Proofs.YtmbceheafjadhaaGreat
