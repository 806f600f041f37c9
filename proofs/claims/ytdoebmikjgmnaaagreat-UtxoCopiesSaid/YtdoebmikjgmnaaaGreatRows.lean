/-
  No cell of these rows narrows 'for every input' (looked for: loops, veiled, ifaces, maps, wideKeys, modest, calm, conditions, laid).
  DERIVED. THE GIVEN ROWS OF THIS SEAT. 5 by the template 'for every input the law returns true; each argument reads behind the call as it read before'; 0 by the template 'total and deterministic' (their statements: YtdoebmikjgmnaaaGreatTotals.lean).
  GIVEN WITH THE SEED: the statements are not yours to turn. If you find one false, say at which input.
  Laid BY PROGRAM, IN A SANDBOX (cutbox-rows.mjs): the forced cells as the released guide's own fill.sh prints them over the translation 9cf4439010aa82b0… (all of the seat's roots in one cut). By AI agents, Wed Nov 11 2026. No macro, syntax, notation, axiom, sorry.
-/
import Derived.Test.YtdoebmikjgmnaaaGreatChecked
import GoSem.Claim
import GoSem.ClaimJoined
import GoSem.ClaimMapViews
import Derived.JoinedTies
import Derived.KernelRfl
namespace Go.Proofs.YtdoebmikjgmnaaaGreat
/- THE CELL 'sum', in the pinned program and in every row, IS THE sha256 OF THE DUMP (.gsa) THAT YtdoebmikjgmnaaaGreatProg.lean LOADS. Nothing in Lean hashes anything: it is a label: what it is worth is what the hold of that sum in a sandbox is worth. -/
noncomputable def Tryz.pinned : Pinned := { name := "ytdoebmikjgmnaaagreat", sum := "9cf4439010aa82b0780d7daedc4f39ee544f7f015b79988721c3c7e3572c80fc", checked := Tryz.checked }
namespace Rows
def none {H : Type} : Left H := { results := [], args := [] }

/-- 'turnstilelaw11.UtxoClaims': WHATEVER THE INPUT: true; the input reads as it did. -/
def utxoClaimsSpec : ChangeSpec := { name := "utxoClaims", fn := fun _ => fun
  | [d1, d2, d3] => { results := [.lit (.bool true)], args := [d1, d2, d3] }
  | _ => none }
def utxoClaimsRow : OpenClaim := { program := "ytdoebmikjgmnaaagreat", sum := "9cf4439010aa82b0780d7daedc4f39ee544f7f015b79988721c3c7e3572c80fc", func := "turnstile/turnstilelaw11.UtxoClaims", spec := "utxoClaims", inPlace := ["internal/bytealg.abigen_runtime_cmpstring", "maps.clone"], unfollowed := true, recurses := true, plainKeys := false, apart := false }
def UtxoClaimsSaid : Prop := utxoClaimsRow.holds Tryz.pinned (OpenSpec.ofChange utxoClaimsSpec)

/-- ITS FALSE NEIGHBOUR: 'it returns false'. Refute it at one input. -/
def utxoClaimsWrong : ChangeSpec := { name := "utxoClaims", fn := fun _ => fun
  | [d1, d2, d3] => { results := [.lit (.bool false)], args := [d1, d2, d3] }
  | _ => none }
def UtxoClaimsWrongFalsely : Prop := utxoClaimsRow.holds Tryz.pinned (OpenSpec.ofChange utxoClaimsWrong)

/-- 'turnstilelaw11.UtxoRefunds': WHATEVER THE INPUT: true; the input reads as it did. -/
def utxoRefundsSpec : ChangeSpec := { name := "utxoRefunds", fn := fun _ => fun
  | [d1, d2, d3] => { results := [.lit (.bool true)], args := [d1, d2, d3] }
  | _ => none }
def utxoRefundsRow : OpenClaim := { program := "ytdoebmikjgmnaaagreat", sum := "9cf4439010aa82b0780d7daedc4f39ee544f7f015b79988721c3c7e3572c80fc", func := "turnstile/turnstilelaw11.UtxoRefunds", spec := "utxoRefunds", inPlace := ["internal/bytealg.abigen_runtime_cmpstring", "maps.clone"], unfollowed := true, recurses := true, plainKeys := false, apart := false }
def UtxoRefundsSaid : Prop := utxoRefundsRow.holds Tryz.pinned (OpenSpec.ofChange utxoRefundsSpec)

/-- ITS FALSE NEIGHBOUR: 'it returns false'. Refute it at one input. -/
def utxoRefundsWrong : ChangeSpec := { name := "utxoRefunds", fn := fun _ => fun
  | [d1, d2, d3] => { results := [.lit (.bool false)], args := [d1, d2, d3] }
  | _ => none }
def UtxoRefundsWrongFalsely : Prop := utxoRefundsRow.holds Tryz.pinned (OpenSpec.ofChange utxoRefundsWrong)

/-- 'turnstilelaw11.UtxoTotal': WHATEVER THE INPUT: true; the input reads as it did. -/
def utxoTotalSpec : ChangeSpec := { name := "utxoTotal", fn := fun _ => fun
  | [d1, d2, d3] => { results := [.lit (.bool true)], args := [d1, d2, d3] }
  | _ => none }
def utxoTotalRow : OpenClaim := { program := "ytdoebmikjgmnaaagreat", sum := "9cf4439010aa82b0780d7daedc4f39ee544f7f015b79988721c3c7e3572c80fc", func := "turnstile/turnstilelaw11.UtxoTotal", spec := "utxoTotal", inPlace := ["internal/bytealg.abigen_runtime_cmpstring", "maps.clone"], unfollowed := true, recurses := true, plainKeys := false, apart := false }
def UtxoTotalSaid : Prop := utxoTotalRow.holds Tryz.pinned (OpenSpec.ofChange utxoTotalSpec)

/-- ITS FALSE NEIGHBOUR: 'it returns false'. Refute it at one input. -/
def utxoTotalWrong : ChangeSpec := { name := "utxoTotal", fn := fun _ => fun
  | [d1, d2, d3] => { results := [.lit (.bool false)], args := [d1, d2, d3] }
  | _ => none }
def UtxoTotalWrongFalsely : Prop := utxoTotalRow.holds Tryz.pinned (OpenSpec.ofChange utxoTotalWrong)

/-- 'turnstilelaw11.UtxoWorth': WHATEVER THE INPUT: true; the input reads as it did. -/
def utxoWorthSpec : ChangeSpec := { name := "utxoWorth", fn := fun _ => fun
  | [d1, d2, d3] => { results := [.lit (.bool true)], args := [d1, d2, d3] }
  | _ => none }
def utxoWorthRow : OpenClaim := { program := "ytdoebmikjgmnaaagreat", sum := "9cf4439010aa82b0780d7daedc4f39ee544f7f015b79988721c3c7e3572c80fc", func := "turnstile/turnstilelaw11.UtxoWorth", spec := "utxoWorth", inPlace := ["internal/bytealg.abigen_runtime_cmpstring", "maps.clone"], unfollowed := true, recurses := true, plainKeys := false, apart := false }
def UtxoWorthSaid : Prop := utxoWorthRow.holds Tryz.pinned (OpenSpec.ofChange utxoWorthSpec)

/-- ITS FALSE NEIGHBOUR: 'it returns false'. Refute it at one input. -/
def utxoWorthWrong : ChangeSpec := { name := "utxoWorth", fn := fun _ => fun
  | [d1, d2, d3] => { results := [.lit (.bool false)], args := [d1, d2, d3] }
  | _ => none }
def UtxoWorthWrongFalsely : Prop := utxoWorthRow.holds Tryz.pinned (OpenSpec.ofChange utxoWorthWrong)

/-- 'turnstilelaw11.UtxoCopies': WHATEVER THE INPUT: true; the input reads as it did. -/
def utxoCopiesSpec : ChangeSpec := { name := "utxoCopies", fn := fun _ => fun
  | [d1, d2, d3] => { results := [.lit (.bool true)], args := [d1, d2, d3] }
  | _ => none }
def utxoCopiesRow : OpenClaim := { program := "ytdoebmikjgmnaaagreat", sum := "9cf4439010aa82b0780d7daedc4f39ee544f7f015b79988721c3c7e3572c80fc", func := "turnstile/turnstilelaw11.UtxoCopies", spec := "utxoCopies", inPlace := ["internal/bytealg.abigen_runtime_cmpstring", "maps.clone"], unfollowed := true, recurses := true, plainKeys := false, apart := false }
def UtxoCopiesSaid : Prop := utxoCopiesRow.holds Tryz.pinned (OpenSpec.ofChange utxoCopiesSpec)

/-- ITS FALSE NEIGHBOUR: 'it returns false'. Refute it at one input. -/
def utxoCopiesWrong : ChangeSpec := { name := "utxoCopies", fn := fun _ => fun
  | [d1, d2, d3] => { results := [.lit (.bool false)], args := [d1, d2, d3] }
  | _ => none }
def UtxoCopiesWrongFalsely : Prop := utxoCopiesRow.holds Tryz.pinned (OpenSpec.ofChange utxoCopiesWrong)

/- THE SECOND FORM. 'bulk': how many values and letters a reading holds, each counted each time it is reached (what is shared counts as often as it is met; a slice's spare places count too). A statement '..UptoSaid' is the law's where the arguments, and the package variables that the reading takes, are together of bulk at most 1048576: NARROWER than '..Said'. Prove '..Said' where nothing that the law and all that it calls make is longer than what came in: it says more and counts as full. Else prove '..UptoSaid'. A law counts once. -/
mutual
def uptoBulk {H : Type} : DataW H → Nat
  | .lit (.string bytes) => bytes.length + 1
  | .lit _ => 1
  | .nil => 1
  | .ptr d => uptoBulk d + 1
  | .slice elems spare => uptoBulkAll elems + uptoBulkAll spare + 1
  | .agg parts => uptoBulkAll parts + 1
  | .iface _ d => uptoBulk d + 1
  | .map entries => uptoBulkEntries entries + 1
  | .held _ => 1
def uptoBulkAll {H : Type} : List (DataW H) → Nat
  | [] => 0
  | d :: r => uptoBulk d + uptoBulkAll r
def uptoBulkEntries {H : Type} : List (Lit × DataW H) → Nat
  | [] => 0
  | x :: r => uptoBulkEntry x + uptoBulkEntries r
def uptoBulkEntry {H : Type} : Lit × DataW H → Nat
  | (.string bytes, d) => bytes.length + uptoBulk d + 1
  | (_, d) => uptoBulk d + 1
 end
def uptoSmall : (H : Type) → List (DataW H) → Bool := fun _ ds => decide (uptoBulkAll ds ≤ 1048576)
def OpenSpec.upto (s : _root_.Go.ChangeSpec) : _root_.Go.OpenSpec := { _root_.Go.OpenSpec.ofChange s with cond := some uptoSmall }

/-- 'turnstilelaw11.UtxoClaims', WHERE WHAT IT READS IS OF BULK AT MOST 1048576: true; the input reads as it did. -/
def utxoClaimsUptoRow : OpenClaim := { program := "ytdoebmikjgmnaaagreat", sum := "9cf4439010aa82b0780d7daedc4f39ee544f7f015b79988721c3c7e3572c80fc", func := "turnstile/turnstilelaw11.UtxoClaims", spec := "utxoClaims", inPlace := ["internal/bytealg.abigen_runtime_cmpstring", "maps.clone"], unfollowed := true, recurses := true, plainKeys := false, apart := false, narrowed := true }
def UtxoClaimsUptoSaid : Prop := utxoClaimsUptoRow.holds Tryz.pinned (OpenSpec.upto utxoClaimsSpec)

/-- 'turnstilelaw11.UtxoRefunds', WHERE WHAT IT READS IS OF BULK AT MOST 1048576: true; the input reads as it did. -/
def utxoRefundsUptoRow : OpenClaim := { program := "ytdoebmikjgmnaaagreat", sum := "9cf4439010aa82b0780d7daedc4f39ee544f7f015b79988721c3c7e3572c80fc", func := "turnstile/turnstilelaw11.UtxoRefunds", spec := "utxoRefunds", inPlace := ["internal/bytealg.abigen_runtime_cmpstring", "maps.clone"], unfollowed := true, recurses := true, plainKeys := false, apart := false, narrowed := true }
def UtxoRefundsUptoSaid : Prop := utxoRefundsUptoRow.holds Tryz.pinned (OpenSpec.upto utxoRefundsSpec)

/-- 'turnstilelaw11.UtxoTotal', WHERE WHAT IT READS IS OF BULK AT MOST 1048576: true; the input reads as it did. -/
def utxoTotalUptoRow : OpenClaim := { program := "ytdoebmikjgmnaaagreat", sum := "9cf4439010aa82b0780d7daedc4f39ee544f7f015b79988721c3c7e3572c80fc", func := "turnstile/turnstilelaw11.UtxoTotal", spec := "utxoTotal", inPlace := ["internal/bytealg.abigen_runtime_cmpstring", "maps.clone"], unfollowed := true, recurses := true, plainKeys := false, apart := false, narrowed := true }
def UtxoTotalUptoSaid : Prop := utxoTotalUptoRow.holds Tryz.pinned (OpenSpec.upto utxoTotalSpec)

/-- 'turnstilelaw11.UtxoWorth', WHERE WHAT IT READS IS OF BULK AT MOST 1048576: true; the input reads as it did. -/
def utxoWorthUptoRow : OpenClaim := { program := "ytdoebmikjgmnaaagreat", sum := "9cf4439010aa82b0780d7daedc4f39ee544f7f015b79988721c3c7e3572c80fc", func := "turnstile/turnstilelaw11.UtxoWorth", spec := "utxoWorth", inPlace := ["internal/bytealg.abigen_runtime_cmpstring", "maps.clone"], unfollowed := true, recurses := true, plainKeys := false, apart := false, narrowed := true }
def UtxoWorthUptoSaid : Prop := utxoWorthUptoRow.holds Tryz.pinned (OpenSpec.upto utxoWorthSpec)

/-- 'turnstilelaw11.UtxoCopies', WHERE WHAT IT READS IS OF BULK AT MOST 1048576: true; the input reads as it did. -/
def utxoCopiesUptoRow : OpenClaim := { program := "ytdoebmikjgmnaaagreat", sum := "9cf4439010aa82b0780d7daedc4f39ee544f7f015b79988721c3c7e3572c80fc", func := "turnstile/turnstilelaw11.UtxoCopies", spec := "utxoCopies", inPlace := ["internal/bytealg.abigen_runtime_cmpstring", "maps.clone"], unfollowed := true, recurses := true, plainKeys := false, apart := false, narrowed := true }
def UtxoCopiesUptoSaid : Prop := utxoCopiesUptoRow.holds Tryz.pinned (OpenSpec.upto utxoCopiesSpec)

end Rows
end Go.Proofs.YtdoebmikjgmnaaaGreat
