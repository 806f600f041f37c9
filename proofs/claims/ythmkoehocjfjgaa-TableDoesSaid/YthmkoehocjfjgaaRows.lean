/-
  No cell of these rows narrows 'for every input' (looked for: loops, veiled, ifaces, maps, wideKeys, modest, calm, conditions, laid).
  DERIVED. THE GIVEN ROWS OF THIS SEAT. 5 by the template 'for every input the law returns true; each argument reads behind the call as it read before'; 0 by the template 'total and deterministic' (their statements: YthmkoehocjfjgaaTotals.lean).
  GIVEN WITH THE SEED: the statements are not yours to turn. If you find one false, say at which input.
  Laid BY PROGRAM, IN A SANDBOX (cutbox-rows.mjs): the forced cells as the released guide's own fill.sh prints them over the translation c36f6bb81e01ad71… (all of the seat's roots in one cut). By AI agents, Wed Nov 11 2026. No macro, syntax, notation, axiom, sorry.
-/
import Derived.Test.YthmkoehocjfjgaaChecked
import GoSem.Claim
import GoSem.ClaimJoined
import GoSem.ClaimMapViews
import Derived.JoinedTies
import Derived.KernelRfl
namespace Go.Proofs.Ythmkoehocjfjgaa
/- THE CELL 'sum', in the pinned program and in every row, IS THE sha256 OF THE DUMP (.gsa) THAT YthmkoehocjfjgaaProg.lean LOADS. Nothing in Lean hashes anything: it is a label: what it is worth is what the hold of that sum in a sandbox is worth. -/
noncomputable def Try.pinned : Pinned := { name := "ythmkoehocjfjgaa", sum := "c36f6bb81e01ad71a2c733bf4bcd816a652c6683ad73955f990e2557afaf07c6", checked := Try.checked }
namespace Rows
def none {H : Type} : Left H := { results := [], args := [] }

/-- 'turnstilelaw15.TableRecs': WHATEVER THE INPUT: true; the input reads as it did. -/
def tableRecsSpec : ChangeSpec := { name := "tableRecs", fn := fun _ => fun
  | [d1, d2] => { results := [.lit (.bool true)], args := [d1, d2] }
  | _ => none }
def tableRecsRow : OpenClaim := { program := "ythmkoehocjfjgaa", sum := "c36f6bb81e01ad71a2c733bf4bcd816a652c6683ad73955f990e2557afaf07c6", func := "turnstile/turnstilelaw15.TableRecs", spec := "tableRecs", unfollowed := true, recurses := true, apart := false }
def TableRecsSaid : Prop := tableRecsRow.holds Try.pinned (OpenSpec.ofChange tableRecsSpec)

/-- ITS FALSE NEIGHBOUR: 'it returns false'. Refute it at one input. -/
def tableRecsWrong : ChangeSpec := { name := "tableRecs", fn := fun _ => fun
  | [d1, d2] => { results := [.lit (.bool false)], args := [d1, d2] }
  | _ => none }
def TableRecsWrongFalsely : Prop := tableRecsRow.holds Try.pinned (OpenSpec.ofChange tableRecsWrong)

/-- 'turnstilelaw15.TableKeeps': WHATEVER THE INPUT: true; the input reads as it did. -/
def tableKeepsSpec : ChangeSpec := { name := "tableKeeps", fn := fun _ => fun
  | [d1, d2] => { results := [.lit (.bool true)], args := [d1, d2] }
  | _ => none }
def tableKeepsRow : OpenClaim := { program := "ythmkoehocjfjgaa", sum := "c36f6bb81e01ad71a2c733bf4bcd816a652c6683ad73955f990e2557afaf07c6", func := "turnstile/turnstilelaw15.TableKeeps", spec := "tableKeeps", unfollowed := true, recurses := true, apart := false }
def TableKeepsSaid : Prop := tableKeepsRow.holds Try.pinned (OpenSpec.ofChange tableKeepsSpec)

/-- ITS FALSE NEIGHBOUR: 'it returns false'. Refute it at one input. -/
def tableKeepsWrong : ChangeSpec := { name := "tableKeeps", fn := fun _ => fun
  | [d1, d2] => { results := [.lit (.bool false)], args := [d1, d2] }
  | _ => none }
def TableKeepsWrongFalsely : Prop := tableKeepsRow.holds Try.pinned (OpenSpec.ofChange tableKeepsWrong)

/-- 'turnstilelaw15.TableRange': WHATEVER THE INPUT: true; the input reads as it did. -/
def tableRangeSpec : ChangeSpec := { name := "tableRange", fn := fun _ => fun
  | [d1, d2, d3] => { results := [.lit (.bool true)], args := [d1, d2, d3] }
  | _ => none }
def tableRangeRow : OpenClaim := { program := "ythmkoehocjfjgaa", sum := "c36f6bb81e01ad71a2c733bf4bcd816a652c6683ad73955f990e2557afaf07c6", func := "turnstile/turnstilelaw15.TableRange", spec := "tableRange", unfollowed := true, recurses := true, apart := false }
def TableRangeSaid : Prop := tableRangeRow.holds Try.pinned (OpenSpec.ofChange tableRangeSpec)

/-- ITS FALSE NEIGHBOUR: 'it returns false'. Refute it at one input. -/
def tableRangeWrong : ChangeSpec := { name := "tableRange", fn := fun _ => fun
  | [d1, d2, d3] => { results := [.lit (.bool false)], args := [d1, d2, d3] }
  | _ => none }
def TableRangeWrongFalsely : Prop := tableRangeRow.holds Try.pinned (OpenSpec.ofChange tableRangeWrong)

/-- 'turnstilelaw15.TableMakes': WHATEVER THE INPUT: true; the input reads as it did. -/
def tableMakesSpec : ChangeSpec := { name := "tableMakes", fn := fun _ => fun
  | [d1, d2] => { results := [.lit (.bool true)], args := [d1, d2] }
  | _ => none }
def tableMakesRow : OpenClaim := { program := "ythmkoehocjfjgaa", sum := "c36f6bb81e01ad71a2c733bf4bcd816a652c6683ad73955f990e2557afaf07c6", func := "turnstile/turnstilelaw15.TableMakes", spec := "tableMakes", unfollowed := true, recurses := true, apart := false }
def TableMakesSaid : Prop := tableMakesRow.holds Try.pinned (OpenSpec.ofChange tableMakesSpec)

/-- ITS FALSE NEIGHBOUR: 'it returns false'. Refute it at one input. -/
def tableMakesWrong : ChangeSpec := { name := "tableMakes", fn := fun _ => fun
  | [d1, d2] => { results := [.lit (.bool false)], args := [d1, d2] }
  | _ => none }
def TableMakesWrongFalsely : Prop := tableMakesRow.holds Try.pinned (OpenSpec.ofChange tableMakesWrong)

/-- 'turnstilelaw15.TableDoes': WHATEVER THE INPUT: true; the input reads as it did. -/
def tableDoesSpec : ChangeSpec := { name := "tableDoes", fn := fun _ => fun
  | [d1, d2, d3] => { results := [.lit (.bool true)], args := [d1, d2, d3] }
  | _ => none }
def tableDoesRow : OpenClaim := { program := "ythmkoehocjfjgaa", sum := "c36f6bb81e01ad71a2c733bf4bcd816a652c6683ad73955f990e2557afaf07c6", func := "turnstile/turnstilelaw15.TableDoes", spec := "tableDoes", inPlace := ["maps.clone"], unfollowed := true, recurses := true, apart := false }
def TableDoesSaid : Prop := tableDoesRow.holds Try.pinned (OpenSpec.ofChange tableDoesSpec)

/-- ITS FALSE NEIGHBOUR: 'it returns false'. Refute it at one input. -/
def tableDoesWrong : ChangeSpec := { name := "tableDoes", fn := fun _ => fun
  | [d1, d2, d3] => { results := [.lit (.bool false)], args := [d1, d2, d3] }
  | _ => none }
def TableDoesWrongFalsely : Prop := tableDoesRow.holds Try.pinned (OpenSpec.ofChange tableDoesWrong)

/- THE SECOND FORM. 'bulk': how many values and letters a reading holds, each counted each time it is reached (what is shared counts as often as it is met; a slice's spare places count too). A statement '..UptoSaid' is the law's where the arguments, and the package variables that the reading takes, are together of bulk at most 1048576: NARROWER than '..Said'. Prove '..Said' where nothing that the law and all that it calls make is longer than what came in: it says more and counts as full. Else prove '..UptoSaid'. A law counts once. -/
mutual
def uptoBulk {H : Type} : DataW H → Nat
  | .lit (.string bytes) => bytes.length + 1
  | .lit _ => 1
  | .nil => 1
  | .ptr d => uptoBulk d + 1
  | .slice elems spare => uptoBulkAll elems + uptoBulkAll spare + 1
  | .agg parts => uptoBulkAll parts + 1
  | .iface _ d => uptoBulk d + 1
  | .map entries => uptoBulkEntries entries + 1
  | .held _ => 1
def uptoBulkAll {H : Type} : List (DataW H) → Nat
  | [] => 0
  | d :: r => uptoBulk d + uptoBulkAll r
def uptoBulkEntries {H : Type} : List (Lit × DataW H) → Nat
  | [] => 0
  | x :: r => uptoBulkEntry x + uptoBulkEntries r
def uptoBulkEntry {H : Type} : Lit × DataW H → Nat
  | (.string bytes, d) => bytes.length + uptoBulk d + 1
  | (_, d) => uptoBulk d + 1
 end
def uptoSmall : (H : Type) → List (DataW H) → Bool := fun _ ds => decide (uptoBulkAll ds ≤ 1048576)
def OpenSpec.upto (s : _root_.Go.ChangeSpec) : _root_.Go.OpenSpec := { _root_.Go.OpenSpec.ofChange s with cond := some uptoSmall }

/-- 'turnstilelaw15.TableRecs', WHERE WHAT IT READS IS OF BULK AT MOST 1048576: true; the input reads as it did. -/
def tableRecsUptoRow : OpenClaim := { program := "ythmkoehocjfjgaa", sum := "c36f6bb81e01ad71a2c733bf4bcd816a652c6683ad73955f990e2557afaf07c6", func := "turnstile/turnstilelaw15.TableRecs", spec := "tableRecs", unfollowed := true, recurses := true, apart := false, narrowed := true }
def TableRecsUptoSaid : Prop := tableRecsUptoRow.holds Try.pinned (OpenSpec.upto tableRecsSpec)

/-- 'turnstilelaw15.TableKeeps', WHERE WHAT IT READS IS OF BULK AT MOST 1048576: true; the input reads as it did. -/
def tableKeepsUptoRow : OpenClaim := { program := "ythmkoehocjfjgaa", sum := "c36f6bb81e01ad71a2c733bf4bcd816a652c6683ad73955f990e2557afaf07c6", func := "turnstile/turnstilelaw15.TableKeeps", spec := "tableKeeps", unfollowed := true, recurses := true, apart := false, narrowed := true }
def TableKeepsUptoSaid : Prop := tableKeepsUptoRow.holds Try.pinned (OpenSpec.upto tableKeepsSpec)

/-- 'turnstilelaw15.TableRange', WHERE WHAT IT READS IS OF BULK AT MOST 1048576: true; the input reads as it did. -/
def tableRangeUptoRow : OpenClaim := { program := "ythmkoehocjfjgaa", sum := "c36f6bb81e01ad71a2c733bf4bcd816a652c6683ad73955f990e2557afaf07c6", func := "turnstile/turnstilelaw15.TableRange", spec := "tableRange", unfollowed := true, recurses := true, apart := false, narrowed := true }
def TableRangeUptoSaid : Prop := tableRangeUptoRow.holds Try.pinned (OpenSpec.upto tableRangeSpec)

/-- 'turnstilelaw15.TableMakes', WHERE WHAT IT READS IS OF BULK AT MOST 1048576: true; the input reads as it did. -/
def tableMakesUptoRow : OpenClaim := { program := "ythmkoehocjfjgaa", sum := "c36f6bb81e01ad71a2c733bf4bcd816a652c6683ad73955f990e2557afaf07c6", func := "turnstile/turnstilelaw15.TableMakes", spec := "tableMakes", unfollowed := true, recurses := true, apart := false, narrowed := true }
def TableMakesUptoSaid : Prop := tableMakesUptoRow.holds Try.pinned (OpenSpec.upto tableMakesSpec)

/-- 'turnstilelaw15.TableDoes', WHERE WHAT IT READS IS OF BULK AT MOST 1048576: true; the input reads as it did. -/
def tableDoesUptoRow : OpenClaim := { program := "ythmkoehocjfjgaa", sum := "c36f6bb81e01ad71a2c733bf4bcd816a652c6683ad73955f990e2557afaf07c6", func := "turnstile/turnstilelaw15.TableDoes", spec := "tableDoes", inPlace := ["maps.clone"], unfollowed := true, recurses := true, apart := false, narrowed := true }
def TableDoesUptoSaid : Prop := tableDoesUptoRow.holds Try.pinned (OpenSpec.upto tableDoesSpec)

end Rows
end Go.Proofs.Ythmkoehocjfjgaa
