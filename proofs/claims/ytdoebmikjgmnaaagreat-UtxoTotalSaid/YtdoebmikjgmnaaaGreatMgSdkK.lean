/- sdk.Take: had; no room; taken. -/
import Derived.Outline
import Derived.StillTailTactics
import Derived.Deep.RegionHeld3
import Derived.Test.YtdoebmikjgmnaaaGreatMgG03
import Derived.Test.YtdoebmikjgmnaaaGreatMgG16
import Derived.Test.YtdoebmikjgmnaaaGreatMgG17
set_option linter.unusedVariables false
set_option linter.unusedSimpArgs false
namespace Go.Proofs.YtdoebmikjgmnaaaGreat
open Go.RowKit Go.Maps
/-- an offer as the client sees it -/
structure Of where
  ch : ByteArray
  ser : Nat
  face : Nat
  wins : Nat
  many : Nat
  com : ByteArray
  salt : ByteArray
  drawn : Nat
  taken : Bool
def Of.cs (o : Of) : Array Value := #[.string o.ch, .int .u64 (o.ser : Nat), .int .u64 (o.face : Nat), .int .u64 (o.wins : Nat), .int .u64 (o.many : Nat), .string o.com, .string o.salt, .int .u64 (o.drawn : Nat), .bool o.taken]
def Of.tk (o : Of) (cl : Nat) : Tk := ⟨o.ch, o.ser, o.face, o.wins, o.many, o.com, cl, ByteArray.empty⟩
structure Of.ok (o : Of) : Prop where
  ser : o.ser < 18446744073709551616
  face : o.face < 18446744073709551616
  many : 1 ≤ o.many ∧ o.many ≤ 4294967296
  wins : o.wins ≤ o.many
  nom : o.face * o.wins % o.many = 0
variable {w : World} {cb kb ctr pb mb h n i out am tk : Nat} {seed tx : ByteArray} {l : Lk} {D : DU}
end Go.Proofs.YtdoebmikjgmnaaaGreat
