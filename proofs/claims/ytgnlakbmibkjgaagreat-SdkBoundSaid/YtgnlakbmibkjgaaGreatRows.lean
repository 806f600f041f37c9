/-
  No cell of these rows narrows 'for every input' (looked for: loops, veiled, ifaces, maps, wideKeys, modest, calm, conditions, laid).
  DERIVED. THE GIVEN ROWS OF THIS SEAT. 6 by the template 'for every input the law returns true; each argument reads behind the call as it read before'; 0 by the template 'total and deterministic' (their statements: YtgnlakbmibkjgaaGreatTotals.lean).
  GIVEN WITH THE SEED: the statements are not yours to turn. If you find one false, say at which input.
  Laid BY PROGRAM, IN A SANDBOX (cutbox-rows.mjs): the forced cells as the released guide's own fill.sh prints them over the translation df9a1528c092450f… (all of the seat's roots in one cut). By AI agents, Wed Nov 11 2026. No macro, syntax, notation, axiom, sorry.
-/
import Derived.Test.YtgnlakbmibkjgaaGreatChecked
import GoSem.Claim
import GoSem.ClaimJoined
import GoSem.ClaimMapViews
import Derived.JoinedTies
import Derived.KernelRfl
namespace Go.Proofs.YtgnlakbmibkjgaaGreat
/- THE CELL 'sum', in the pinned program and in every row, IS THE sha256 OF THE DUMP (.gsa) THAT YtgnlakbmibkjgaaGreatProg.lean LOADS. Nothing in Lean hashes anything: it is a label: what it is worth is what the hold of that sum in a sandbox is worth. -/
noncomputable def Tryz.pinned : Pinned := { name := "ytgnlakbmibkjgaagreat", sum := "df9a1528c092450fd39f229e9566e14f15fd8c9b7bcd52623f00e7ac460c5504", checked := Tryz.checked }
namespace Rows
def none {H : Type} : Left H := { results := [], args := [] }

/-- 'turnstilelaw23.SdkRises': WHATEVER THE INPUT: true; the input reads as it did. -/
def sdkRisesSpec : ChangeSpec := { name := "sdkRises", fn := fun _ => fun
  | [d1, d2, d3] => { results := [.lit (.bool true)], args := [d1, d2, d3] }
  | _ => none }
def sdkRisesRow : OpenClaim := { program := "ytgnlakbmibkjgaagreat", sum := "df9a1528c092450fd39f229e9566e14f15fd8c9b7bcd52623f00e7ac460c5504", func := "turnstile/turnstilelaw23.SdkRises", spec := "sdkRises", unfollowed := true, recurses := true, plainKeys := false, apart := false }
def SdkRisesSaid : Prop := sdkRisesRow.holds Tryz.pinned (OpenSpec.ofChange sdkRisesSpec)

/-- ITS FALSE NEIGHBOUR: 'it returns false'. Refute it at one input. -/
def sdkRisesWrong : ChangeSpec := { name := "sdkRises", fn := fun _ => fun
  | [d1, d2, d3] => { results := [.lit (.bool false)], args := [d1, d2, d3] }
  | _ => none }
def SdkRisesWrongFalsely : Prop := sdkRisesRow.holds Tryz.pinned (OpenSpec.ofChange sdkRisesWrong)

/-- 'turnstilelaw23.SdkDoes': WHATEVER THE INPUT: true; the input reads as it did. -/
def sdkDoesSpec : ChangeSpec := { name := "sdkDoes", fn := fun _ => fun
  | [d1, d2, d3] => { results := [.lit (.bool true)], args := [d1, d2, d3] }
  | _ => none }
def sdkDoesRow : OpenClaim := { program := "ytgnlakbmibkjgaagreat", sum := "df9a1528c092450fd39f229e9566e14f15fd8c9b7bcd52623f00e7ac460c5504", func := "turnstile/turnstilelaw23.SdkDoes", spec := "sdkDoes", unfollowed := true, recurses := true, plainKeys := false, apart := false }
def SdkDoesSaid : Prop := sdkDoesRow.holds Tryz.pinned (OpenSpec.ofChange sdkDoesSpec)

/-- ITS FALSE NEIGHBOUR: 'it returns false'. Refute it at one input. -/
def sdkDoesWrong : ChangeSpec := { name := "sdkDoes", fn := fun _ => fun
  | [d1, d2, d3] => { results := [.lit (.bool false)], args := [d1, d2, d3] }
  | _ => none }
def SdkDoesWrongFalsely : Prop := sdkDoesRow.holds Tryz.pinned (OpenSpec.ofChange sdkDoesWrong)

/-- 'turnstilelaw23.SdkBound': WHATEVER THE INPUT: true; the input reads as it did. -/
def sdkBoundSpec : ChangeSpec := { name := "sdkBound", fn := fun _ => fun
  | [d1, d2, d3] => { results := [.lit (.bool true)], args := [d1, d2, d3] }
  | _ => none }
def sdkBoundRow : OpenClaim := { program := "ytgnlakbmibkjgaagreat", sum := "df9a1528c092450fd39f229e9566e14f15fd8c9b7bcd52623f00e7ac460c5504", func := "turnstile/turnstilelaw23.SdkBound", spec := "sdkBound", unfollowed := true, recurses := true, plainKeys := false, apart := false }
def SdkBoundSaid : Prop := sdkBoundRow.holds Tryz.pinned (OpenSpec.ofChange sdkBoundSpec)

/-- ITS FALSE NEIGHBOUR: 'it returns false'. Refute it at one input. -/
def sdkBoundWrong : ChangeSpec := { name := "sdkBound", fn := fun _ => fun
  | [d1, d2, d3] => { results := [.lit (.bool false)], args := [d1, d2, d3] }
  | _ => none }
def SdkBoundWrongFalsely : Prop := sdkBoundRow.holds Tryz.pinned (OpenSpec.ofChange sdkBoundWrong)

/-- 'turnstilelaw23.SdkCalls': WHATEVER THE INPUT: true; the input reads as it did. -/
def sdkCallsSpec : ChangeSpec := { name := "sdkCalls", fn := fun _ => fun
  | [d1, d2] => { results := [.lit (.bool true)], args := [d1, d2] }
  | _ => none }
def sdkCallsRow : OpenClaim := { program := "ytgnlakbmibkjgaagreat", sum := "df9a1528c092450fd39f229e9566e14f15fd8c9b7bcd52623f00e7ac460c5504", func := "turnstile/turnstilelaw23.SdkCalls", spec := "sdkCalls", unfollowed := true, recurses := true, plainKeys := false, apart := false }
def SdkCallsSaid : Prop := sdkCallsRow.holds Tryz.pinned (OpenSpec.ofChange sdkCallsSpec)

/-- ITS FALSE NEIGHBOUR: 'it returns false'. Refute it at one input. -/
def sdkCallsWrong : ChangeSpec := { name := "sdkCalls", fn := fun _ => fun
  | [d1, d2] => { results := [.lit (.bool false)], args := [d1, d2] }
  | _ => none }
def SdkCallsWrongFalsely : Prop := sdkCallsRow.holds Tryz.pinned (OpenSpec.ofChange sdkCallsWrong)

/-- 'turnstilelaw23.SdkPays': WHATEVER THE INPUT: true; the input reads as it did. -/
def sdkPaysSpec : ChangeSpec := { name := "sdkPays", fn := fun _ => fun
  | [d1, d2] => { results := [.lit (.bool true)], args := [d1, d2] }
  | _ => none }
def sdkPaysRow : OpenClaim := { program := "ytgnlakbmibkjgaagreat", sum := "df9a1528c092450fd39f229e9566e14f15fd8c9b7bcd52623f00e7ac460c5504", func := "turnstile/turnstilelaw23.SdkPays", spec := "sdkPays", unfollowed := true, recurses := true, plainKeys := false, apart := false }
def SdkPaysSaid : Prop := sdkPaysRow.holds Tryz.pinned (OpenSpec.ofChange sdkPaysSpec)

/-- ITS FALSE NEIGHBOUR: 'it returns false'. Refute it at one input. -/
def sdkPaysWrong : ChangeSpec := { name := "sdkPays", fn := fun _ => fun
  | [d1, d2] => { results := [.lit (.bool false)], args := [d1, d2] }
  | _ => none }
def SdkPaysWrongFalsely : Prop := sdkPaysRow.holds Tryz.pinned (OpenSpec.ofChange sdkPaysWrong)

/-- 'turnstilelaw23.SdkBack': WHATEVER THE INPUT: true; the input reads as it did. -/
def sdkBackSpec : ChangeSpec := { name := "sdkBack", fn := fun _ => fun
  | [d1, d2, d3] => { results := [.lit (.bool true)], args := [d1, d2, d3] }
  | _ => none }
def sdkBackRow : OpenClaim := { program := "ytgnlakbmibkjgaagreat", sum := "df9a1528c092450fd39f229e9566e14f15fd8c9b7bcd52623f00e7ac460c5504", func := "turnstile/turnstilelaw23.SdkBack", spec := "sdkBack", inPlace := ["internal/bytealg.abigen_runtime_cmpstring"], unfollowed := true, recurses := true, plainKeys := false, apart := false }
def SdkBackSaid : Prop := sdkBackRow.holds Tryz.pinned (OpenSpec.ofChange sdkBackSpec)

/-- ITS FALSE NEIGHBOUR: 'it returns false'. Refute it at one input. -/
def sdkBackWrong : ChangeSpec := { name := "sdkBack", fn := fun _ => fun
  | [d1, d2, d3] => { results := [.lit (.bool false)], args := [d1, d2, d3] }
  | _ => none }
def SdkBackWrongFalsely : Prop := sdkBackRow.holds Tryz.pinned (OpenSpec.ofChange sdkBackWrong)

/- THE SECOND FORM. 'bulk': how many values and letters a reading holds, each counted each time it is reached (what is shared counts as often as it is met; a slice's spare places count too). A statement '..UptoSaid' is the law's where the arguments, and the package variables that the reading takes, are together of bulk at most 1048576: NARROWER than '..Said'. Prove '..Said' where nothing that the law and all that it calls make is longer than what came in: it says more and counts as full. Else prove '..UptoSaid'. A law counts once. -/
mutual
def uptoBulk {H : Type} : DataW H → Nat
  | .lit (.string bytes) => bytes.length + 1
  | .lit _ => 1
  | .nil => 1
  | .ptr d => uptoBulk d + 1
  | .slice elems spare => uptoBulkAll elems + uptoBulkAll spare + 1
  | .agg parts => uptoBulkAll parts + 1
  | .iface _ d => uptoBulk d + 1
  | .map entries => uptoBulkEntries entries + 1
  | .held _ => 1
def uptoBulkAll {H : Type} : List (DataW H) → Nat
  | [] => 0
  | d :: r => uptoBulk d + uptoBulkAll r
def uptoBulkEntries {H : Type} : List (Lit × DataW H) → Nat
  | [] => 0
  | x :: r => uptoBulkEntry x + uptoBulkEntries r
def uptoBulkEntry {H : Type} : Lit × DataW H → Nat
  | (.string bytes, d) => bytes.length + uptoBulk d + 1
  | (_, d) => uptoBulk d + 1
 end
def uptoSmall : (H : Type) → List (DataW H) → Bool := fun _ ds => decide (uptoBulkAll ds ≤ 1048576)
def OpenSpec.upto (s : _root_.Go.ChangeSpec) : _root_.Go.OpenSpec := { _root_.Go.OpenSpec.ofChange s with cond := some uptoSmall }

/-- 'turnstilelaw23.SdkRises', WHERE WHAT IT READS IS OF BULK AT MOST 1048576: true; the input reads as it did. -/
def sdkRisesUptoRow : OpenClaim := { program := "ytgnlakbmibkjgaagreat", sum := "df9a1528c092450fd39f229e9566e14f15fd8c9b7bcd52623f00e7ac460c5504", func := "turnstile/turnstilelaw23.SdkRises", spec := "sdkRises", unfollowed := true, recurses := true, plainKeys := false, apart := false, narrowed := true }
def SdkRisesUptoSaid : Prop := sdkRisesUptoRow.holds Tryz.pinned (OpenSpec.upto sdkRisesSpec)

/-- 'turnstilelaw23.SdkDoes', WHERE WHAT IT READS IS OF BULK AT MOST 1048576: true; the input reads as it did. -/
def sdkDoesUptoRow : OpenClaim := { program := "ytgnlakbmibkjgaagreat", sum := "df9a1528c092450fd39f229e9566e14f15fd8c9b7bcd52623f00e7ac460c5504", func := "turnstile/turnstilelaw23.SdkDoes", spec := "sdkDoes", unfollowed := true, recurses := true, plainKeys := false, apart := false, narrowed := true }
def SdkDoesUptoSaid : Prop := sdkDoesUptoRow.holds Tryz.pinned (OpenSpec.upto sdkDoesSpec)

/-- 'turnstilelaw23.SdkBound', WHERE WHAT IT READS IS OF BULK AT MOST 1048576: true; the input reads as it did. -/
def sdkBoundUptoRow : OpenClaim := { program := "ytgnlakbmibkjgaagreat", sum := "df9a1528c092450fd39f229e9566e14f15fd8c9b7bcd52623f00e7ac460c5504", func := "turnstile/turnstilelaw23.SdkBound", spec := "sdkBound", unfollowed := true, recurses := true, plainKeys := false, apart := false, narrowed := true }
def SdkBoundUptoSaid : Prop := sdkBoundUptoRow.holds Tryz.pinned (OpenSpec.upto sdkBoundSpec)

/-- 'turnstilelaw23.SdkCalls', WHERE WHAT IT READS IS OF BULK AT MOST 1048576: true; the input reads as it did. -/
def sdkCallsUptoRow : OpenClaim := { program := "ytgnlakbmibkjgaagreat", sum := "df9a1528c092450fd39f229e9566e14f15fd8c9b7bcd52623f00e7ac460c5504", func := "turnstile/turnstilelaw23.SdkCalls", spec := "sdkCalls", unfollowed := true, recurses := true, plainKeys := false, apart := false, narrowed := true }
def SdkCallsUptoSaid : Prop := sdkCallsUptoRow.holds Tryz.pinned (OpenSpec.upto sdkCallsSpec)

/-- 'turnstilelaw23.SdkPays', WHERE WHAT IT READS IS OF BULK AT MOST 1048576: true; the input reads as it did. -/
def sdkPaysUptoRow : OpenClaim := { program := "ytgnlakbmibkjgaagreat", sum := "df9a1528c092450fd39f229e9566e14f15fd8c9b7bcd52623f00e7ac460c5504", func := "turnstile/turnstilelaw23.SdkPays", spec := "sdkPays", unfollowed := true, recurses := true, plainKeys := false, apart := false, narrowed := true }
def SdkPaysUptoSaid : Prop := sdkPaysUptoRow.holds Tryz.pinned (OpenSpec.upto sdkPaysSpec)

/-- 'turnstilelaw23.SdkBack', WHERE WHAT IT READS IS OF BULK AT MOST 1048576: true; the input reads as it did. -/
def sdkBackUptoRow : OpenClaim := { program := "ytgnlakbmibkjgaagreat", sum := "df9a1528c092450fd39f229e9566e14f15fd8c9b7bcd52623f00e7ac460c5504", func := "turnstile/turnstilelaw23.SdkBack", spec := "sdkBack", inPlace := ["internal/bytealg.abigen_runtime_cmpstring"], unfollowed := true, recurses := true, plainKeys := false, apart := false, narrowed := true }
def SdkBackUptoSaid : Prop := sdkBackUptoRow.holds Tryz.pinned (OpenSpec.upto sdkBackSpec)

end Rows
end Go.Proofs.YtgnlakbmibkjgaaGreat
