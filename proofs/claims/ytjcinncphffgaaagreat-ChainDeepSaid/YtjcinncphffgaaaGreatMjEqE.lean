/- == of outputs, and of entries, that are alike. law11's Locked, with nothing more. What spends all of some outputs: whether it may be (no program). What spends all of a channel: claims and refunds (no program). law17's begin, of anything. law08's Cut of a proof of one win. law17's Cut of an operation. -/
import Derived.Laws.StructEq
import Derived.Outline
import Derived.Deep.DeepCutAuto
import Derived.Deep.CutBlock
import Derived.Deep.RegionHeld3
import Derived.Deep.AppendLies
import Derived.Test.YtjcinncphffgaaaGreatMjG22
import Derived.Test.YtjcinncphffgaaaGreatMjG27
import Derived.Test.YtjcinncphffgaaaGreatMjG34
import Derived.Test.YtjcinncphffgaaaGreatMjG35
import Derived.Test.YtjcinncphffgaaaGreatMjN1
import Derived.Test.YtjcinncphffgaaaGreatMjNum
set_option linter.unusedVariables false
set_option linter.unusedSimpArgs false
namespace Go.Proofs.YtjcinncphffgaaaGreat
open Go.RowKit Go.Maps
end Go.Proofs.YtjcinncphffgaaaGreat
namespace Go.Proofs.YtjcinncphffgaaaGreat
open Go.RowKit Go.Maps
end Go.Proofs.YtjcinncphffgaaaGreat
namespace Go.Proofs.YtjcinncphffgaaaGreat
open Go.RowKit Go.Maps
section
variable {t : Txn} {L : List En} {path : Int}
end
end Go.Proofs.YtjcinncphffgaaaGreat
namespace Go.Proofs.YtjcinncphffgaaaGreat
open Go.RowKit Go.Maps
section
variable {t : Txn} {L : List En} {cl gt : ByteArray} {ex hh : Int}
end
/-! vouchers -/
/-! what is there behind -/
end Go.Proofs.YtjcinncphffgaaaGreat
namespace Go.Proofs.YtjcinncphffgaaaGreat
open Go.RowKit Go.Maps
end Go.Proofs.YtjcinncphffgaaaGreat
namespace Go.Proofs.YtjcinncphffgaaaGreat
open Go.RowKit Go.Maps
def zPf : Pf := ⟨0, ByteArray.empty, ByteArray.empty, none, [], 0⟩
theorem pfcs_one (p : Pf) : p.cs.all (·.oneCell') = true := by
  rw [Array.all_eq_true']
  intro x hx
  simp only [Pf.cs, List.mem_toArray, List.mem_cons, List.not_mem_nil, or_false] at hx
  rcases hx with rfl | rfl | rfl | rfl <;> rfl
theorem pf_over (p : Pf) {cs : Array Value} (h : cs.size = 4) : over cs 0 p.cs.toList = p.cs := (over_full p.cs.toList cs (by rw [h]; rfl)).trans (Array.toArray_toList ..)
def cutP (p : Pf) : Pf := ⟨p.am, cutT p.sig 450, cutT p.tok 40, none, [], 0⟩
theorem cutwin_x (x : Wn) (w : World) : Calls Tryz.prog 143 #[.agg x.cs] w fun e w' => e = .returned (.agg #[.string (cutT x.t.ch 40), .int .u64 (x.t.ser : Nat), .int .u64 (x.t.face : Nat), .int .u64 (x.t.wins : Nat), .int .u64 (x.t.many : Nat), .string (cutT x.t.com 40), .int .u64 (x.t.cl : Nat), .string (cutT x.t.sig 450), .string (cutT x.salt 40), .int .u64 (x.drawn : Nat)]) ∧ Below w.heap.size w w' := cutwin_any x w
end Go.Proofs.YtjcinncphffgaaaGreat
namespace Go.Proofs.YtjcinncphffgaaaGreat
open Go.RowKit Go.Maps
end Go.Proofs.YtjcinncphffgaaaGreat
