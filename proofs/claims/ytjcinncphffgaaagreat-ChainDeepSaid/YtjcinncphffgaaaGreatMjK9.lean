/- coin.Same of any two: whatever it says, of what is alike it says true. slices.EqualFunc of transactions that are alike; block.Same of what is alike. claim.Back of one entry. -/
import Derived.Outline
import Derived.Laws.StructEq
import Derived.OwnWalk
import Derived.Defers
import Derived.IntWalk
import Derived.Test.YtjcinncphffgaaaGreatMjClmA
import Derived.Test.YtjcinncphffgaaaGreatMjEqE
import Derived.Test.YtjcinncphffgaaaGreatMjG15
import Derived.Test.YtjcinncphffgaaaGreatMjK3
import Derived.Test.YtjcinncphffgaaaGreatMjK4
import Derived.Test.YtjcinncphffgaaaGreatMjN1
set_option linter.unusedVariables false
set_option linter.unusedSimpArgs false
namespace Go.Proofs.YtjcinncphffgaaaGreat
open Go.RowKit Go.Maps
end Go.Proofs.YtjcinncphffgaaaGreat
namespace Go.Proofs.YtjcinncphffgaaaGreat
open Go.RowKit Go.Maps
end Go.Proofs.YtjcinncphffgaaaGreat
namespace Go.Proofs.YtjcinncphffgaaaGreat
open Go.RowKit Go.Maps
/-- results: a struct in a cell, and a number in a cell -/
theorem results_cells2 {fn : Func} {p q : Tmp} {ty ty2 : TypeId} (h : fn.results = #[.cell p ty, .cell q ty2]) (tmps : Array Value) {w : World} {g : Nat} {t : TypeId} {cs : Array Value} {fs : Array Field} (hb : Blk w g t cs)
    (hp : tmps.getD p undef = .pointer (some ⟨g, 0, none⟩)) (hu : Tryz.prog.underlying ty = some (.struct fs)) (hi : (Tryz.prog.info? ty).map (·.size) = some cs.size) {a2 : Addr} {v : Value}
    (hq : tmps.getD q undef = .pointer (some a2)) (hv : (loadVar ty2 a2).run Tryz.prog w = .ok v w) : (results fn tmps).run Tryz.prog w = .ok (.tuple #[.agg cs, v]) w := by
  have hp' : tmps[p]?.getD undef = .pointer (some ⟨g, 0, none⟩) := by simpa using hp
  have hq' : tmps[q]?.getD undef = .pointer (some a2) := by simpa using hq
  simp only [results, h]
  simp [Sem.run_bind, Result.andThen, hp', hq', asAddr, run_loadVar_row w g t ty cs (0, 0) _ hb hu rfl hi, hv]
end Go.Proofs.YtjcinncphffgaaaGreat
