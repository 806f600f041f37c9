/-
  No cell of these rows narrows 'for every input' (looked for: loops, veiled, ifaces, maps, wideKeys, modest, calm, conditions, laid).
  DERIVED. THE GIVEN ROWS OF THIS SEAT. 5 by the template 'for every input the law returns true; each argument reads behind the call as it read before'; 0 by the template 'total and deterministic' (their statements: YtjcinncphffgaaaGreatTotals.lean).
  GIVEN WITH THE SEED: the statements are not yours to turn. If you find one false, say at which input.
  Laid BY PROGRAM, IN A SANDBOX (cutbox-rows.mjs): the forced cells as the released guide's own fill.sh prints them over the translation af753b50d15d7fc9… (all of the seat's roots in one cut). By AI agents, Wed Nov 11 2026. No macro, syntax, notation, axiom, sorry.
-/
import Derived.Test.YtjcinncphffgaaaGreatChecked
import GoSem.Claim
import GoSem.ClaimJoined
import GoSem.ClaimMapViews
import Derived.JoinedTies
import Derived.KernelRfl
namespace Go.Proofs.YtjcinncphffgaaaGreat
/- THE CELL 'sum', in the pinned program and in every row, IS THE sha256 OF THE DUMP (.gsa) THAT YtjcinncphffgaaaGreatProg.lean LOADS. Nothing in Lean hashes anything: it is a label: what it is worth is what the hold of that sum in a sandbox is worth. -/
noncomputable def Tryz.pinned : Pinned := { name := "ytjcinncphffgaaagreat", sum := "af753b50d15d7fc9761b236a18174641860585b9314382209a541dc0d57d973d", checked := Tryz.checked }
namespace Rows
def none {H : Type} : Left H := { results := [], args := [] }

/-- 'turnstilelaw12.ChainDeep': WHATEVER THE INPUT: true; the input reads as it did. -/
def chainDeepSpec : ChangeSpec := { name := "chainDeep", fn := fun _ => fun
  | [d1, d2] => { results := [.lit (.bool true)], args := [d1, d2] }
  | _ => none }
def chainDeepRow : OpenClaim := { program := "ytjcinncphffgaaagreat", sum := "af753b50d15d7fc9761b236a18174641860585b9314382209a541dc0d57d973d", func := "turnstile/turnstilelaw12.ChainDeep", spec := "chainDeep", inPlace := ["maps.clone", "internal/bytealg.abigen_runtime_cmpstring"], unfollowed := true, recurses := true, plainKeys := false, apart := false }
def ChainDeepSaid : Prop := chainDeepRow.holds Tryz.pinned (OpenSpec.ofChange chainDeepSpec)

/-- ITS FALSE NEIGHBOUR: 'it returns false'. Refute it at one input. -/
def chainDeepWrong : ChangeSpec := { name := "chainDeep", fn := fun _ => fun
  | [d1, d2] => { results := [.lit (.bool false)], args := [d1, d2] }
  | _ => none }
def ChainDeepWrongFalsely : Prop := chainDeepRow.holds Tryz.pinned (OpenSpec.ofChange chainDeepWrong)

/-- 'turnstilelaw18.ClaimSigns': WHATEVER THE INPUT: true; the input reads as it did. -/
def claimSignsSpec : ChangeSpec := { name := "claimSigns", fn := fun _ => fun
  | [d1, d2, d3] => { results := [.lit (.bool true)], args := [d1, d2, d3] }
  | _ => none }
def claimSignsRow : OpenClaim := { program := "ytjcinncphffgaaagreat", sum := "af753b50d15d7fc9761b236a18174641860585b9314382209a541dc0d57d973d", func := "turnstile/turnstilelaw18.ClaimSigns", spec := "claimSigns", inPlace := ["internal/bytealg.abigen_runtime_cmpstring"], unfollowed := true, recurses := true, plainKeys := false, apart := false }
def ClaimSignsSaid : Prop := claimSignsRow.holds Tryz.pinned (OpenSpec.ofChange claimSignsSpec)

/-- ITS FALSE NEIGHBOUR: 'it returns false'. Refute it at one input. -/
def claimSignsWrong : ChangeSpec := { name := "claimSigns", fn := fun _ => fun
  | [d1, d2, d3] => { results := [.lit (.bool false)], args := [d1, d2, d3] }
  | _ => none }
def ClaimSignsWrongFalsely : Prop := claimSignsRow.holds Tryz.pinned (OpenSpec.ofChange claimSignsWrong)

/-- 'turnstilelaw18.ClaimBack': WHATEVER THE INPUT: true; the input reads as it did. -/
def claimBackSpec : ChangeSpec := { name := "claimBack", fn := fun _ => fun
  | [d1, d2, d3] => { results := [.lit (.bool true)], args := [d1, d2, d3] }
  | _ => none }
def claimBackRow : OpenClaim := { program := "ytjcinncphffgaaagreat", sum := "af753b50d15d7fc9761b236a18174641860585b9314382209a541dc0d57d973d", func := "turnstile/turnstilelaw18.ClaimBack", spec := "claimBack", inPlace := ["internal/bytealg.abigen_runtime_cmpstring"], unfollowed := true, recurses := true, plainKeys := false, apart := false }
def ClaimBackSaid : Prop := claimBackRow.holds Tryz.pinned (OpenSpec.ofChange claimBackSpec)

/-- ITS FALSE NEIGHBOUR: 'it returns false'. Refute it at one input. -/
def claimBackWrong : ChangeSpec := { name := "claimBack", fn := fun _ => fun
  | [d1, d2, d3] => { results := [.lit (.bool false)], args := [d1, d2, d3] }
  | _ => none }
def ClaimBackWrongFalsely : Prop := claimBackRow.holds Tryz.pinned (OpenSpec.ofChange claimBackWrong)

/-- 'turnstilelaw18.ClaimPays': WHATEVER THE INPUT: true; the input reads as it did. -/
def claimPaysSpec : ChangeSpec := { name := "claimPays", fn := fun _ => fun
  | [d1, d2, d3] => { results := [.lit (.bool true)], args := [d1, d2, d3] }
  | _ => none }
def claimPaysRow : OpenClaim := { program := "ytjcinncphffgaaagreat", sum := "af753b50d15d7fc9761b236a18174641860585b9314382209a541dc0d57d973d", func := "turnstile/turnstilelaw18.ClaimPays", spec := "claimPays", inPlace := ["internal/bytealg.abigen_runtime_cmpstring"], unfollowed := true, recurses := true, plainKeys := false, apart := false }
def ClaimPaysSaid : Prop := claimPaysRow.holds Tryz.pinned (OpenSpec.ofChange claimPaysSpec)

/-- ITS FALSE NEIGHBOUR: 'it returns false'. Refute it at one input. -/
def claimPaysWrong : ChangeSpec := { name := "claimPays", fn := fun _ => fun
  | [d1, d2, d3] => { results := [.lit (.bool false)], args := [d1, d2, d3] }
  | _ => none }
def ClaimPaysWrongFalsely : Prop := claimPaysRow.holds Tryz.pinned (OpenSpec.ofChange claimPaysWrong)

/-- 'turnstilelaw18.ClaimAmounts': WHATEVER THE INPUT: true; the input reads as it did. -/
def claimAmountsSpec : ChangeSpec := { name := "claimAmounts", fn := fun _ => fun
  | [d1, d2] => { results := [.lit (.bool true)], args := [d1, d2] }
  | _ => none }
def claimAmountsRow : OpenClaim := { program := "ytjcinncphffgaaagreat", sum := "af753b50d15d7fc9761b236a18174641860585b9314382209a541dc0d57d973d", func := "turnstile/turnstilelaw18.ClaimAmounts", spec := "claimAmounts", inPlace := ["internal/bytealg.abigen_runtime_cmpstring"], unfollowed := true, recurses := true, plainKeys := false, apart := false }
def ClaimAmountsSaid : Prop := claimAmountsRow.holds Tryz.pinned (OpenSpec.ofChange claimAmountsSpec)

/-- ITS FALSE NEIGHBOUR: 'it returns false'. Refute it at one input. -/
def claimAmountsWrong : ChangeSpec := { name := "claimAmounts", fn := fun _ => fun
  | [d1, d2] => { results := [.lit (.bool false)], args := [d1, d2] }
  | _ => none }
def ClaimAmountsWrongFalsely : Prop := claimAmountsRow.holds Tryz.pinned (OpenSpec.ofChange claimAmountsWrong)

/- THE SECOND FORM. 'bulk': how many values and letters a reading holds, each counted each time it is reached (what is shared counts as often as it is met; a slice's spare places count too). A statement '..UptoSaid' is the law's where the arguments, and the package variables that the reading takes, are together of bulk at most 1048576: NARROWER than '..Said'. Prove '..Said' where nothing that the law and all that it calls make is longer than what came in: it says more and counts as full. Else prove '..UptoSaid'. A law counts once. -/
mutual
def uptoBulk {H : Type} : DataW H → Nat
  | .lit (.string bytes) => bytes.length + 1
  | .lit _ => 1
  | .nil => 1
  | .ptr d => uptoBulk d + 1
  | .slice elems spare => uptoBulkAll elems + uptoBulkAll spare + 1
  | .agg parts => uptoBulkAll parts + 1
  | .iface _ d => uptoBulk d + 1
  | .map entries => uptoBulkEntries entries + 1
  | .held _ => 1
def uptoBulkAll {H : Type} : List (DataW H) → Nat
  | [] => 0
  | d :: r => uptoBulk d + uptoBulkAll r
def uptoBulkEntries {H : Type} : List (Lit × DataW H) → Nat
  | [] => 0
  | x :: r => uptoBulkEntry x + uptoBulkEntries r
def uptoBulkEntry {H : Type} : Lit × DataW H → Nat
  | (.string bytes, d) => bytes.length + uptoBulk d + 1
  | (_, d) => uptoBulk d + 1
 end
def uptoSmall : (H : Type) → List (DataW H) → Bool := fun _ ds => decide (uptoBulkAll ds ≤ 1048576)
def OpenSpec.upto (s : _root_.Go.ChangeSpec) : _root_.Go.OpenSpec := { _root_.Go.OpenSpec.ofChange s with cond := some uptoSmall }

/-- 'turnstilelaw12.ChainDeep', WHERE WHAT IT READS IS OF BULK AT MOST 1048576: true; the input reads as it did. -/
def chainDeepUptoRow : OpenClaim := { program := "ytjcinncphffgaaagreat", sum := "af753b50d15d7fc9761b236a18174641860585b9314382209a541dc0d57d973d", func := "turnstile/turnstilelaw12.ChainDeep", spec := "chainDeep", inPlace := ["maps.clone", "internal/bytealg.abigen_runtime_cmpstring"], unfollowed := true, recurses := true, plainKeys := false, apart := false, narrowed := true }
def ChainDeepUptoSaid : Prop := chainDeepUptoRow.holds Tryz.pinned (OpenSpec.upto chainDeepSpec)

/-- 'turnstilelaw18.ClaimSigns', WHERE WHAT IT READS IS OF BULK AT MOST 1048576: true; the input reads as it did. -/
def claimSignsUptoRow : OpenClaim := { program := "ytjcinncphffgaaagreat", sum := "af753b50d15d7fc9761b236a18174641860585b9314382209a541dc0d57d973d", func := "turnstile/turnstilelaw18.ClaimSigns", spec := "claimSigns", inPlace := ["internal/bytealg.abigen_runtime_cmpstring"], unfollowed := true, recurses := true, plainKeys := false, apart := false, narrowed := true }
def ClaimSignsUptoSaid : Prop := claimSignsUptoRow.holds Tryz.pinned (OpenSpec.upto claimSignsSpec)

/-- 'turnstilelaw18.ClaimBack', WHERE WHAT IT READS IS OF BULK AT MOST 1048576: true; the input reads as it did. -/
def claimBackUptoRow : OpenClaim := { program := "ytjcinncphffgaaagreat", sum := "af753b50d15d7fc9761b236a18174641860585b9314382209a541dc0d57d973d", func := "turnstile/turnstilelaw18.ClaimBack", spec := "claimBack", inPlace := ["internal/bytealg.abigen_runtime_cmpstring"], unfollowed := true, recurses := true, plainKeys := false, apart := false, narrowed := true }
def ClaimBackUptoSaid : Prop := claimBackUptoRow.holds Tryz.pinned (OpenSpec.upto claimBackSpec)

/-- 'turnstilelaw18.ClaimPays', WHERE WHAT IT READS IS OF BULK AT MOST 1048576: true; the input reads as it did. -/
def claimPaysUptoRow : OpenClaim := { program := "ytjcinncphffgaaagreat", sum := "af753b50d15d7fc9761b236a18174641860585b9314382209a541dc0d57d973d", func := "turnstile/turnstilelaw18.ClaimPays", spec := "claimPays", inPlace := ["internal/bytealg.abigen_runtime_cmpstring"], unfollowed := true, recurses := true, plainKeys := false, apart := false, narrowed := true }
def ClaimPaysUptoSaid : Prop := claimPaysUptoRow.holds Tryz.pinned (OpenSpec.upto claimPaysSpec)

/-- 'turnstilelaw18.ClaimAmounts', WHERE WHAT IT READS IS OF BULK AT MOST 1048576: true; the input reads as it did. -/
def claimAmountsUptoRow : OpenClaim := { program := "ytjcinncphffgaaagreat", sum := "af753b50d15d7fc9761b236a18174641860585b9314382209a541dc0d57d973d", func := "turnstile/turnstilelaw18.ClaimAmounts", spec := "claimAmounts", inPlace := ["internal/bytealg.abigen_runtime_cmpstring"], unfollowed := true, recurses := true, plainKeys := false, apart := false, narrowed := true }
def ClaimAmountsUptoSaid : Prop := claimAmountsUptoRow.holds Tryz.pinned (OpenSpec.upto claimAmountsSpec)

end Rows
end Go.Proofs.YtjcinncphffgaaaGreat
