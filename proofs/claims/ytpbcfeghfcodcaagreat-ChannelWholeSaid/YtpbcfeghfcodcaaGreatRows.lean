/-
  No cell of these rows narrows 'for every input' (looked for: loops, veiled, ifaces, maps, wideKeys, modest, calm, conditions, laid).
  DERIVED. THE GIVEN ROWS OF THIS SEAT. 4 by the template 'for every input the law returns true; each argument reads behind the call as it read before'; 0 by the template 'total and deterministic' (their statements: YtpbcfeghfcodcaaGreatTotals.lean).
  GIVEN WITH THE SEED: the statements are not yours to turn. If you find one false, say at which input.
  Laid BY PROGRAM, IN A SANDBOX (cutbox-rows.mjs): the forced cells as the released guide's own fill.sh prints them over the translation cde331add4d2cc5f… (all of the seat's roots in one cut). By AI agents, Wed Nov 11 2026. No macro, syntax, notation, axiom, sorry.
-/
import Derived.Test.YtpbcfeghfcodcaaGreatChecked
import GoSem.Claim
import GoSem.ClaimJoined
import GoSem.ClaimMapViews
import Derived.JoinedTies
import Derived.KernelRfl
namespace Go.Proofs.YtpbcfeghfcodcaaGreat
/- THE CELL 'sum', in the pinned program and in every row, IS THE sha256 OF THE DUMP (.gsa) THAT YtpbcfeghfcodcaaGreatProg.lean LOADS. Nothing in Lean hashes anything: it is a label: what it is worth is what the hold of that sum in a sandbox is worth. -/
noncomputable def Tryz.pinned : Pinned := { name := "ytpbcfeghfcodcaagreat", sum := "cde331add4d2cc5f2fd617a916b742884d85d9535809254a74dc693cb5b9a1b9", checked := Tryz.checked }
namespace Rows
def none {H : Type} : Left H := { results := [], args := [] }

/-- 'turnstilelaw17.ChannelClosed': WHATEVER THE INPUT: true; the input reads as it did. -/
def channelClosedSpec : ChangeSpec := { name := "channelClosed", fn := fun _ => fun
  | [d1, d2] => { results := [.lit (.bool true)], args := [d1, d2] }
  | _ => none }
def channelClosedRow : OpenClaim := { program := "ytpbcfeghfcodcaagreat", sum := "cde331add4d2cc5f2fd617a916b742884d85d9535809254a74dc693cb5b9a1b9", func := "turnstile/turnstilelaw17.ChannelClosed", spec := "channelClosed", inPlace := ["internal/bytealg.abigen_runtime_cmpstring"], unfollowed := true, recurses := true, plainKeys := false, apart := false }
def ChannelClosedSaid : Prop := channelClosedRow.holds Tryz.pinned (OpenSpec.ofChange channelClosedSpec)

/-- ITS FALSE NEIGHBOUR: 'it returns false'. Refute it at one input. -/
def channelClosedWrong : ChangeSpec := { name := "channelClosed", fn := fun _ => fun
  | [d1, d2] => { results := [.lit (.bool false)], args := [d1, d2] }
  | _ => none }
def ChannelClosedWrongFalsely : Prop := channelClosedRow.holds Tryz.pinned (OpenSpec.ofChange channelClosedWrong)

/-- 'turnstilelaw17.ChannelRefuses': WHATEVER THE INPUT: true; the input reads as it did. -/
def channelRefusesSpec : ChangeSpec := { name := "channelRefuses", fn := fun _ => fun
  | [d1, d2] => { results := [.lit (.bool true)], args := [d1, d2] }
  | _ => none }
def channelRefusesRow : OpenClaim := { program := "ytpbcfeghfcodcaagreat", sum := "cde331add4d2cc5f2fd617a916b742884d85d9535809254a74dc693cb5b9a1b9", func := "turnstile/turnstilelaw17.ChannelRefuses", spec := "channelRefuses", inPlace := ["internal/bytealg.abigen_runtime_cmpstring"], unfollowed := true, recurses := true, plainKeys := false, apart := false }
def ChannelRefusesSaid : Prop := channelRefusesRow.holds Tryz.pinned (OpenSpec.ofChange channelRefusesSpec)

/-- ITS FALSE NEIGHBOUR: 'it returns false'. Refute it at one input. -/
def channelRefusesWrong : ChangeSpec := { name := "channelRefuses", fn := fun _ => fun
  | [d1, d2] => { results := [.lit (.bool false)], args := [d1, d2] }
  | _ => none }
def ChannelRefusesWrongFalsely : Prop := channelRefusesRow.holds Tryz.pinned (OpenSpec.ofChange channelRefusesWrong)

/-- 'turnstilelaw17.ChannelWhole': WHATEVER THE INPUT: true; the input reads as it did. -/
def channelWholeSpec : ChangeSpec := { name := "channelWhole", fn := fun _ => fun
  | [d1, d2] => { results := [.lit (.bool true)], args := [d1, d2] }
  | _ => none }
def channelWholeRow : OpenClaim := { program := "ytpbcfeghfcodcaagreat", sum := "cde331add4d2cc5f2fd617a916b742884d85d9535809254a74dc693cb5b9a1b9", func := "turnstile/turnstilelaw17.ChannelWhole", spec := "channelWhole", inPlace := ["internal/bytealg.abigen_runtime_cmpstring"], unfollowed := true, recurses := true, plainKeys := false, apart := false }
def ChannelWholeSaid : Prop := channelWholeRow.holds Tryz.pinned (OpenSpec.ofChange channelWholeSpec)

/-- ITS FALSE NEIGHBOUR: 'it returns false'. Refute it at one input. -/
def channelWholeWrong : ChangeSpec := { name := "channelWhole", fn := fun _ => fun
  | [d1, d2] => { results := [.lit (.bool false)], args := [d1, d2] }
  | _ => none }
def ChannelWholeWrongFalsely : Prop := channelWholeRow.holds Tryz.pinned (OpenSpec.ofChange channelWholeWrong)

/-- 'turnstilelaw17.ChannelShows': WHATEVER THE INPUT: true; the input reads as it did. -/
def channelShowsSpec : ChangeSpec := { name := "channelShows", fn := fun _ => fun
  | [d1, d2] => { results := [.lit (.bool true)], args := [d1, d2] }
  | _ => none }
def channelShowsRow : OpenClaim := { program := "ytpbcfeghfcodcaagreat", sum := "cde331add4d2cc5f2fd617a916b742884d85d9535809254a74dc693cb5b9a1b9", func := "turnstile/turnstilelaw17.ChannelShows", spec := "channelShows", inPlace := ["internal/bytealg.abigen_runtime_cmpstring"], unfollowed := true, recurses := true, plainKeys := false, apart := false }
def ChannelShowsSaid : Prop := channelShowsRow.holds Tryz.pinned (OpenSpec.ofChange channelShowsSpec)

/-- ITS FALSE NEIGHBOUR: 'it returns false'. Refute it at one input. -/
def channelShowsWrong : ChangeSpec := { name := "channelShows", fn := fun _ => fun
  | [d1, d2] => { results := [.lit (.bool false)], args := [d1, d2] }
  | _ => none }
def ChannelShowsWrongFalsely : Prop := channelShowsRow.holds Tryz.pinned (OpenSpec.ofChange channelShowsWrong)

/- THE SECOND FORM. 'bulk': how many values and letters a reading holds, each counted each time it is reached (what is shared counts as often as it is met; a slice's spare places count too). A statement '..UptoSaid' is the law's where the arguments, and the package variables that the reading takes, are together of bulk at most 1048576: NARROWER than '..Said'. Prove '..Said' where nothing that the law and all that it calls make is longer than what came in: it says more and counts as full. Else prove '..UptoSaid'. A law counts once. -/
mutual
def uptoBulk {H : Type} : DataW H → Nat
  | .lit (.string bytes) => bytes.length + 1
  | .lit _ => 1
  | .nil => 1
  | .ptr d => uptoBulk d + 1
  | .slice elems spare => uptoBulkAll elems + uptoBulkAll spare + 1
  | .agg parts => uptoBulkAll parts + 1
  | .iface _ d => uptoBulk d + 1
  | .map entries => uptoBulkEntries entries + 1
  | .held _ => 1
def uptoBulkAll {H : Type} : List (DataW H) → Nat
  | [] => 0
  | d :: r => uptoBulk d + uptoBulkAll r
def uptoBulkEntries {H : Type} : List (Lit × DataW H) → Nat
  | [] => 0
  | x :: r => uptoBulkEntry x + uptoBulkEntries r
def uptoBulkEntry {H : Type} : Lit × DataW H → Nat
  | (.string bytes, d) => bytes.length + uptoBulk d + 1
  | (_, d) => uptoBulk d + 1
 end
def uptoSmall : (H : Type) → List (DataW H) → Bool := fun _ ds => decide (uptoBulkAll ds ≤ 1048576)
def OpenSpec.upto (s : _root_.Go.ChangeSpec) : _root_.Go.OpenSpec := { _root_.Go.OpenSpec.ofChange s with cond := some uptoSmall }

/-- 'turnstilelaw17.ChannelClosed', WHERE WHAT IT READS IS OF BULK AT MOST 1048576: true; the input reads as it did. -/
def channelClosedUptoRow : OpenClaim := { program := "ytpbcfeghfcodcaagreat", sum := "cde331add4d2cc5f2fd617a916b742884d85d9535809254a74dc693cb5b9a1b9", func := "turnstile/turnstilelaw17.ChannelClosed", spec := "channelClosed", inPlace := ["internal/bytealg.abigen_runtime_cmpstring"], unfollowed := true, recurses := true, plainKeys := false, apart := false, narrowed := true }
def ChannelClosedUptoSaid : Prop := channelClosedUptoRow.holds Tryz.pinned (OpenSpec.upto channelClosedSpec)

/-- 'turnstilelaw17.ChannelRefuses', WHERE WHAT IT READS IS OF BULK AT MOST 1048576: true; the input reads as it did. -/
def channelRefusesUptoRow : OpenClaim := { program := "ytpbcfeghfcodcaagreat", sum := "cde331add4d2cc5f2fd617a916b742884d85d9535809254a74dc693cb5b9a1b9", func := "turnstile/turnstilelaw17.ChannelRefuses", spec := "channelRefuses", inPlace := ["internal/bytealg.abigen_runtime_cmpstring"], unfollowed := true, recurses := true, plainKeys := false, apart := false, narrowed := true }
def ChannelRefusesUptoSaid : Prop := channelRefusesUptoRow.holds Tryz.pinned (OpenSpec.upto channelRefusesSpec)

/-- 'turnstilelaw17.ChannelWhole', WHERE WHAT IT READS IS OF BULK AT MOST 1048576: true; the input reads as it did. -/
def channelWholeUptoRow : OpenClaim := { program := "ytpbcfeghfcodcaagreat", sum := "cde331add4d2cc5f2fd617a916b742884d85d9535809254a74dc693cb5b9a1b9", func := "turnstile/turnstilelaw17.ChannelWhole", spec := "channelWhole", inPlace := ["internal/bytealg.abigen_runtime_cmpstring"], unfollowed := true, recurses := true, plainKeys := false, apart := false, narrowed := true }
def ChannelWholeUptoSaid : Prop := channelWholeUptoRow.holds Tryz.pinned (OpenSpec.upto channelWholeSpec)

/-- 'turnstilelaw17.ChannelShows', WHERE WHAT IT READS IS OF BULK AT MOST 1048576: true; the input reads as it did. -/
def channelShowsUptoRow : OpenClaim := { program := "ytpbcfeghfcodcaagreat", sum := "cde331add4d2cc5f2fd617a916b742884d85d9535809254a74dc693cb5b9a1b9", func := "turnstile/turnstilelaw17.ChannelShows", spec := "channelShows", inPlace := ["internal/bytealg.abigen_runtime_cmpstring"], unfollowed := true, recurses := true, plainKeys := false, apart := false, narrowed := true }
def ChannelShowsUptoSaid : Prop := channelShowsUptoRow.holds Tryz.pinned (OpenSpec.upto channelShowsSpec)

end Rows
end Go.Proofs.YtpbcfeghfcodcaaGreat
