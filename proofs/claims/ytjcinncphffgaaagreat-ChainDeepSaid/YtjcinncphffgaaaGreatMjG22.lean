/- channel.Whole of any state. channel: room, of any state. lottery: New, Shown, Open, room, of any book. lottery: Open, room, of any book; draw.Top, Fair. sdk.Back without a channel. draw.Top, Fair; lottery's room. Slices of uint32 that came in, opened; bytes. -/
import Derived.Outline
import Derived.Test.YtjcinncphffgaaaGreatMjG21
import Derived.Test.YtjcinncphffgaaaGreatMjNum
import Derived.Test.YtjcinncphffgaaaGreatMjOpen
import Derived.Test.YtjcinncphffgaaaGreatMjSdkA
import Derived.Test.YtjcinncphffgaaaGreatMjSdkC
import Derived.Test.YtjcinncphffgaaaGreatMjWonA
set_option linter.unusedVariables false
set_option linter.unusedSimpArgs false
namespace Go.Proofs.YtjcinncphffgaaaGreat
open Go.RowKit Go.Maps
/-- one of a list of entries is read -/
theorem wpList_load_en {ops : Array Oper} {rest : List Oper} {o : Oper} {a : Act} {w : World} {Q : Exit → Act → World → Prop} (hgd : o.guard = none) (x : Operand) (ho : o.op = .load 89 x) (b off : Nat) (hx : a.eval x = .pointer (some ⟨b, off, none⟩)) (y : En)
    (hc : ∀ j u, y.cl[j]? = some u → w.cell? ⟨b, off + j, none⟩ = some u) (h : wpList Tryz.prog ops Q rest (a.put o.dst (.agg y.cs)) w) : wpList Tryz.prog ops Q (o :: rest) a w := by
  refine wpList_load_mid (P := Tryz.prog) hgd 89 x ho b off hx y.cl _ hc Tryz.underlying89 rfl (by rw [infoEnt]; rfl) ?_
  show wpList Tryz.prog ops Q rest (a.put o.dst (.agg y.cs.toList.toArray)) w
  rw [Array.toArray_toList]
  exact h
def topsI (l : List En) : List Int := l.map fun e => (e.o.am : Int)
def encA (l : List Int) : List Value := l.map (Value.int .u64)
theorem topsI_snoc (l : List En) (k : Nat) (hk : k < l.length) : topsI (l.take (k + 1)) = topsI (l.take k) ++ [(l[k].o.am : Int)] := by
  unfold topsI
  rw [List.take_succ_eq_append_getElem hk, List.map_append]; rfl
end Go.Proofs.YtjcinncphffgaaaGreat
namespace Go.Proofs.YtjcinncphffgaaaGreat
open Go.RowKit Go.Maps
def capA (a b : Int) : Int := capN (plusV a b) (plusE a b)
attribute [irreducible] capA
end Go.Proofs.YtjcinncphffgaaaGreat
namespace Go.Proofs.YtjcinncphffgaaaGreat
open Go.RowKit
end Go.Proofs.YtjcinncphffgaaaGreat
namespace Go.Proofs.YtjcinncphffgaaaGreat
open Go.RowKit
end Go.Proofs.YtjcinncphffgaaaGreat
namespace Go.Proofs.YtjcinncphffgaaaGreat
open Go.RowKit Go.Maps
theorem infoTx : (Tryz.prog.info? 53).map (·.size) = some 6 := by kernel_rfl
variable {w : World} {cb h n i : Nat} {seed : ByteArray}
end Go.Proofs.YtjcinncphffgaaaGreat
namespace Go.Proofs.YtjcinncphffgaaaGreat
open Go.RowKit
end Go.Proofs.YtjcinncphffgaaaGreat
namespace Go.Proofs.YtjcinncphffgaaaGreat
open Go.ChangeShapes Go.WideShapes Go.ChangeAt Go.RowKit Go.Deep
end Go.Proofs.YtjcinncphffgaaaGreat
