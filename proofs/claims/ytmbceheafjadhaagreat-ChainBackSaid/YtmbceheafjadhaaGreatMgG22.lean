/- channel.Whole of any state. channel: room, of any state. lottery: New, Shown, Open, room, of any book. lottery: Open, room, of any book; draw.Top, Fair. -/
import Derived.Outline
import Derived.Test.YtmbceheafjadhaaGreatMgG21
import Derived.Test.YtmbceheafjadhaaGreatMgNum
import Derived.Test.YtmbceheafjadhaaGreatMgSdkC
import Derived.Test.YtmbceheafjadhaaGreatMgWonA
set_option linter.unusedVariables false
set_option linter.unusedSimpArgs false
namespace Go.Proofs.YtmbceheafjadhaaGreat
open Go.RowKit Go.Maps
/-- one of a list of entries is read -/
theorem wpList_load_en {ops : Array Oper} {rest : List Oper} {o : Oper} {a : Act} {w : World} {Q : Exit → Act → World → Prop} (hgd : o.guard = none) (x : Operand) (ho : o.op = .load 59 x) (b off : Nat) (hx : a.eval x = .pointer (some ⟨b, off, none⟩)) (y : En)
    (hc : ∀ j u, y.cl[j]? = some u → w.cell? ⟨b, off + j, none⟩ = some u) (h : wpList Tryz.prog ops Q rest (a.put o.dst (.agg y.cs)) w) : wpList Tryz.prog ops Q (o :: rest) a w := by
  refine wpList_load_mid (P := Tryz.prog) hgd 59 x ho b off hx y.cl _ hc Tryz.underlying59 rfl (by rw [infoEnt]; rfl) ?_
  show wpList Tryz.prog ops Q rest (a.put o.dst (.agg y.cs.toList.toArray)) w
  rw [Array.toArray_toList]
  exact h
def topsI (l : List En) : List Int := l.map fun e => (e.o.am : Int)
def encA (l : List Int) : List Value := l.map (Value.int .u64)
theorem topsI_snoc (l : List En) (k : Nat) (hk : k < l.length) : topsI (l.take (k + 1)) = topsI (l.take k) ++ [(l[k].o.am : Int)] := by
  unfold topsI
  rw [List.take_succ_eq_append_getElem hk, List.map_append]; rfl
end Go.Proofs.YtmbceheafjadhaaGreat
namespace Go.Proofs.YtmbceheafjadhaaGreat
open Go.RowKit Go.Maps
def capA (a b : Int) : Int := capN (plusV a b) (plusE a b)
attribute [irreducible] capA
end Go.Proofs.YtmbceheafjadhaaGreat
namespace Go.Proofs.YtmbceheafjadhaaGreat
open Go.RowKit
end Go.Proofs.YtmbceheafjadhaaGreat
namespace Go.Proofs.YtmbceheafjadhaaGreat
open Go.RowKit
end Go.Proofs.YtmbceheafjadhaaGreat
