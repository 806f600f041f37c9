/-
  No cell of these rows narrows 'for every input' (looked for: loops, veiled, ifaces, maps, wideKeys, modest, calm, conditions, laid).
  DERIVED. THE GIVEN ROWS OF THIS SEAT. 5 by the template 'for every input the law returns true; each argument reads behind the call as it read before'; 0 by the template 'total and deterministic' (their statements: YtnkbdkpeoaobeaaTotals.lean).
  GIVEN WITH THE SEED: the statements are not yours to turn. If you find one false, say at which input.
  Laid BY PROGRAM, IN A SANDBOX (cutbox-rows.mjs): the forced cells as the released guide's own fill.sh prints them over the translation 9778e68c3ab569d1… (all of the seat's roots in one cut). By AI agents, Wed Nov 11 2026. No macro, syntax, notation, axiom, sorry.
-/
import Derived.Test.YtnkbdkpeoaobeaaChecked
import GoSem.Claim
import GoSem.ClaimJoined
import GoSem.ClaimMapViews
import Derived.JoinedTies
import Derived.KernelRfl
namespace Go.Proofs.Ytnkbdkpeoaobeaa
/- THE CELL 'sum', in the pinned program and in every row, IS THE sha256 OF THE DUMP (.gsa) THAT YtnkbdkpeoaobeaaProg.lean LOADS. Nothing in Lean hashes anything: it is a label: what it is worth is what the hold of that sum in a sandbox is worth. -/
noncomputable def Try.pinned : Pinned := { name := "ytnkbdkpeoaobeaa", sum := "9778e68c3ab569d186023da3f481dc551eda64e8e521a7c7439e67c57d0ab457", checked := Try.checked }
namespace Rows
def none {H : Type} : Left H := { results := [], args := [] }

/-- 'turnstilelaw20.SchedTells': WHATEVER THE INPUT: true; the input reads as it did. -/
def schedTellsSpec : ChangeSpec := { name := "schedTells", fn := fun _ => fun
  | [d1, d2, d3] => { results := [.lit (.bool true)], args := [d1, d2, d3] }
  | _ => none }
def schedTellsRow : OpenClaim := { program := "ytnkbdkpeoaobeaa", sum := "9778e68c3ab569d186023da3f481dc551eda64e8e521a7c7439e67c57d0ab457", func := "turnstile/turnstilelaw20.SchedTells", spec := "schedTells", inPlace := ["internal/bytealg.abigen_runtime_cmpstring"], unfollowed := true, recurses := true, apart := false }
def SchedTellsSaid : Prop := schedTellsRow.holds Try.pinned (OpenSpec.ofChange schedTellsSpec)

/-- ITS FALSE NEIGHBOUR: 'it returns false'. Refute it at one input. -/
def schedTellsWrong : ChangeSpec := { name := "schedTells", fn := fun _ => fun
  | [d1, d2, d3] => { results := [.lit (.bool false)], args := [d1, d2, d3] }
  | _ => none }
def SchedTellsWrongFalsely : Prop := schedTellsRow.holds Try.pinned (OpenSpec.ofChange schedTellsWrong)

/-- 'turnstilelaw20.SchedHolds': WHATEVER THE INPUT: true; the input reads as it did. -/
def schedHoldsSpec : ChangeSpec := { name := "schedHolds", fn := fun _ => fun
  | [d1, d2, d3] => { results := [.lit (.bool true)], args := [d1, d2, d3] }
  | _ => none }
def schedHoldsRow : OpenClaim := { program := "ytnkbdkpeoaobeaa", sum := "9778e68c3ab569d186023da3f481dc551eda64e8e521a7c7439e67c57d0ab457", func := "turnstile/turnstilelaw20.SchedHolds", spec := "schedHolds", inPlace := ["internal/bytealg.abigen_runtime_cmpstring"], unfollowed := true, recurses := true, apart := false }
def SchedHoldsSaid : Prop := schedHoldsRow.holds Try.pinned (OpenSpec.ofChange schedHoldsSpec)

/-- ITS FALSE NEIGHBOUR: 'it returns false'. Refute it at one input. -/
def schedHoldsWrong : ChangeSpec := { name := "schedHolds", fn := fun _ => fun
  | [d1, d2, d3] => { results := [.lit (.bool false)], args := [d1, d2, d3] }
  | _ => none }
def SchedHoldsWrongFalsely : Prop := schedHoldsRow.holds Try.pinned (OpenSpec.ofChange schedHoldsWrong)

/-- 'turnstilelaw20.SchedGrows': WHATEVER THE INPUT: true; the input reads as it did. -/
def schedGrowsSpec : ChangeSpec := { name := "schedGrows", fn := fun _ => fun
  | [d1, d2, d3] => { results := [.lit (.bool true)], args := [d1, d2, d3] }
  | _ => none }
def schedGrowsRow : OpenClaim := { program := "ytnkbdkpeoaobeaa", sum := "9778e68c3ab569d186023da3f481dc551eda64e8e521a7c7439e67c57d0ab457", func := "turnstile/turnstilelaw20.SchedGrows", spec := "schedGrows", inPlace := ["internal/bytealg.abigen_runtime_cmpstring"], unfollowed := true, recurses := true, apart := false }
def SchedGrowsSaid : Prop := schedGrowsRow.holds Try.pinned (OpenSpec.ofChange schedGrowsSpec)

/-- ITS FALSE NEIGHBOUR: 'it returns false'. Refute it at one input. -/
def schedGrowsWrong : ChangeSpec := { name := "schedGrows", fn := fun _ => fun
  | [d1, d2, d3] => { results := [.lit (.bool false)], args := [d1, d2, d3] }
  | _ => none }
def SchedGrowsWrongFalsely : Prop := schedGrowsRow.holds Try.pinned (OpenSpec.ofChange schedGrowsWrong)

/-- 'turnstilelaw20.SchedMargins': WHATEVER THE INPUT: true; the input reads as it did. -/
def schedMarginsSpec : ChangeSpec := { name := "schedMargins", fn := fun _ => fun
  | [d1, d2] => { results := [.lit (.bool true)], args := [d1, d2] }
  | _ => none }
def schedMarginsRow : OpenClaim := { program := "ytnkbdkpeoaobeaa", sum := "9778e68c3ab569d186023da3f481dc551eda64e8e521a7c7439e67c57d0ab457", func := "turnstile/turnstilelaw20.SchedMargins", spec := "schedMargins", inPlace := ["internal/bytealg.abigen_runtime_cmpstring"], unfollowed := true, recurses := true, apart := false }
def SchedMarginsSaid : Prop := schedMarginsRow.holds Try.pinned (OpenSpec.ofChange schedMarginsSpec)

/-- ITS FALSE NEIGHBOUR: 'it returns false'. Refute it at one input. -/
def schedMarginsWrong : ChangeSpec := { name := "schedMargins", fn := fun _ => fun
  | [d1, d2] => { results := [.lit (.bool false)], args := [d1, d2] }
  | _ => none }
def SchedMarginsWrongFalsely : Prop := schedMarginsRow.holds Try.pinned (OpenSpec.ofChange schedMarginsWrong)

/-- 'turnstilelaw20.SchedOrder': WHATEVER THE INPUT: true; the input reads as it did. -/
def schedOrderSpec : ChangeSpec := { name := "schedOrder", fn := fun _ => fun
  | [d1, d2, d3] => { results := [.lit (.bool true)], args := [d1, d2, d3] }
  | _ => none }
def schedOrderRow : OpenClaim := { program := "ytnkbdkpeoaobeaa", sum := "9778e68c3ab569d186023da3f481dc551eda64e8e521a7c7439e67c57d0ab457", func := "turnstile/turnstilelaw20.SchedOrder", spec := "schedOrder", inPlace := ["internal/bytealg.abigen_runtime_cmpstring"], unfollowed := true, recurses := true, apart := false }
def SchedOrderSaid : Prop := schedOrderRow.holds Try.pinned (OpenSpec.ofChange schedOrderSpec)

/-- ITS FALSE NEIGHBOUR: 'it returns false'. Refute it at one input. -/
def schedOrderWrong : ChangeSpec := { name := "schedOrder", fn := fun _ => fun
  | [d1, d2, d3] => { results := [.lit (.bool false)], args := [d1, d2, d3] }
  | _ => none }
def SchedOrderWrongFalsely : Prop := schedOrderRow.holds Try.pinned (OpenSpec.ofChange schedOrderWrong)

/- THE SECOND FORM. 'bulk': how many values and letters a reading holds, each counted each time it is reached (what is shared counts as often as it is met; a slice's spare places count too). A statement '..UptoSaid' is the law's where the arguments, and the package variables that the reading takes, are together of bulk at most 1048576: NARROWER than '..Said'. Prove '..Said' where nothing that the law and all that it calls make is longer than what came in: it says more and counts as full. Else prove '..UptoSaid'. A law counts once. -/
mutual
def uptoBulk {H : Type} : DataW H → Nat
  | .lit (.string bytes) => bytes.length + 1
  | .lit _ => 1
  | .nil => 1
  | .ptr d => uptoBulk d + 1
  | .slice elems spare => uptoBulkAll elems + uptoBulkAll spare + 1
  | .agg parts => uptoBulkAll parts + 1
  | .iface _ d => uptoBulk d + 1
  | .map entries => uptoBulkEntries entries + 1
  | .held _ => 1
def uptoBulkAll {H : Type} : List (DataW H) → Nat
  | [] => 0
  | d :: r => uptoBulk d + uptoBulkAll r
def uptoBulkEntries {H : Type} : List (Lit × DataW H) → Nat
  | [] => 0
  | x :: r => uptoBulkEntry x + uptoBulkEntries r
def uptoBulkEntry {H : Type} : Lit × DataW H → Nat
  | (.string bytes, d) => bytes.length + uptoBulk d + 1
  | (_, d) => uptoBulk d + 1
 end
def uptoSmall : (H : Type) → List (DataW H) → Bool := fun _ ds => decide (uptoBulkAll ds ≤ 1048576)
def OpenSpec.upto (s : _root_.Go.ChangeSpec) : _root_.Go.OpenSpec := { _root_.Go.OpenSpec.ofChange s with cond := some uptoSmall }

/-- 'turnstilelaw20.SchedTells', WHERE WHAT IT READS IS OF BULK AT MOST 1048576: true; the input reads as it did. -/
def schedTellsUptoRow : OpenClaim := { program := "ytnkbdkpeoaobeaa", sum := "9778e68c3ab569d186023da3f481dc551eda64e8e521a7c7439e67c57d0ab457", func := "turnstile/turnstilelaw20.SchedTells", spec := "schedTells", inPlace := ["internal/bytealg.abigen_runtime_cmpstring"], unfollowed := true, recurses := true, apart := false, narrowed := true }
def SchedTellsUptoSaid : Prop := schedTellsUptoRow.holds Try.pinned (OpenSpec.upto schedTellsSpec)

/-- 'turnstilelaw20.SchedHolds', WHERE WHAT IT READS IS OF BULK AT MOST 1048576: true; the input reads as it did. -/
def schedHoldsUptoRow : OpenClaim := { program := "ytnkbdkpeoaobeaa", sum := "9778e68c3ab569d186023da3f481dc551eda64e8e521a7c7439e67c57d0ab457", func := "turnstile/turnstilelaw20.SchedHolds", spec := "schedHolds", inPlace := ["internal/bytealg.abigen_runtime_cmpstring"], unfollowed := true, recurses := true, apart := false, narrowed := true }
def SchedHoldsUptoSaid : Prop := schedHoldsUptoRow.holds Try.pinned (OpenSpec.upto schedHoldsSpec)

/-- 'turnstilelaw20.SchedGrows', WHERE WHAT IT READS IS OF BULK AT MOST 1048576: true; the input reads as it did. -/
def schedGrowsUptoRow : OpenClaim := { program := "ytnkbdkpeoaobeaa", sum := "9778e68c3ab569d186023da3f481dc551eda64e8e521a7c7439e67c57d0ab457", func := "turnstile/turnstilelaw20.SchedGrows", spec := "schedGrows", inPlace := ["internal/bytealg.abigen_runtime_cmpstring"], unfollowed := true, recurses := true, apart := false, narrowed := true }
def SchedGrowsUptoSaid : Prop := schedGrowsUptoRow.holds Try.pinned (OpenSpec.upto schedGrowsSpec)

/-- 'turnstilelaw20.SchedMargins', WHERE WHAT IT READS IS OF BULK AT MOST 1048576: true; the input reads as it did. -/
def schedMarginsUptoRow : OpenClaim := { program := "ytnkbdkpeoaobeaa", sum := "9778e68c3ab569d186023da3f481dc551eda64e8e521a7c7439e67c57d0ab457", func := "turnstile/turnstilelaw20.SchedMargins", spec := "schedMargins", inPlace := ["internal/bytealg.abigen_runtime_cmpstring"], unfollowed := true, recurses := true, apart := false, narrowed := true }
def SchedMarginsUptoSaid : Prop := schedMarginsUptoRow.holds Try.pinned (OpenSpec.upto schedMarginsSpec)

/-- 'turnstilelaw20.SchedOrder', WHERE WHAT IT READS IS OF BULK AT MOST 1048576: true; the input reads as it did. -/
def schedOrderUptoRow : OpenClaim := { program := "ytnkbdkpeoaobeaa", sum := "9778e68c3ab569d186023da3f481dc551eda64e8e521a7c7439e67c57d0ab457", func := "turnstile/turnstilelaw20.SchedOrder", spec := "schedOrder", inPlace := ["internal/bytealg.abigen_runtime_cmpstring"], unfollowed := true, recurses := true, apart := false, narrowed := true }
def SchedOrderUptoSaid : Prop := schedOrderUptoRow.holds Try.pinned (OpenSpec.upto schedOrderSpec)

end Rows
end Go.Proofs.Ytnkbdkpeoaobeaa
