/- law17's fixed: the walk. ChannelClosed: the walk. ChannelRefuses: the walk. law17: a call as its loops make it. ChannelWhole: the walk. coin.Same of any two: whatever it says, of what is alike it says true. law18's ClaimSigns: what is signed. -/
import Derived.Outline
import Derived.Deep.RegionHeld3
import Derived.Deep.DeepCutAuto
import Derived.Deep.CutBlock
import Derived.Laws.StructEq
import Derived.Test.YtjcinncphffgaaaGreatMiFixK
import Derived.Test.YtjcinncphffgaaaGreatMiG15
import Derived.Test.YtjcinncphffgaaaGreatMiG31
import Derived.Test.YtjcinncphffgaaaGreatMiG33
import Derived.Test.YtjcinncphffgaaaGreatMiK1
import Derived.Test.YtjcinncphffgaaaGreatMiK4
import Derived.Test.YtjcinncphffgaaaGreatMiLaw17b
import Derived.Test.YtjcinncphffgaaaGreatMiMerk
import Derived.Test.YtjcinncphffgaaaGreatMiN1
import Derived.Test.YtjcinncphffgaaaGreatMiN6
import Derived.Test.YtjcinncphffgaaaGreatMiNum
import Derived.Test.YtjcinncphffgaaaGreatMiSgD
import Derived.Test.YtjcinncphffgaaaGreatMiSgE
import Derived.Test.YtjcinncphffgaaaGreatMiSmC
set_option linter.unusedVariables false
set_option linter.unusedSimpArgs false
namespace Go.Proofs.YtjcinncphffgaaaGreat
section
open Go.RowKit Go.Maps
end
section
open Go.RowKit Go.Maps
end
section
open Go.RowKit Go.Maps
end
section
open Go.RowKit Go.Maps
/-- one of a list of calls, where it lies -/
structure OpAt (W : World) (b off : Nat) (o : Op17) : Prop where
 lt : b < W.heap.size
 at_ : ∀ j u, o.cl[j]? = some u → W.cell? ⟨b, off + j, none⟩ = some u
theorem OpAt.bel {W W' : World} {b off : Nat} {o : Op17} (h : OpAt W b off o) (hb : Below W.heap.size W W') : OpAt W' b off o :=
 ⟨Nat.lt_of_lt_of_le h.lt hb.size, fun j u hu => (hb.cell (p := ⟨b, off + j, none⟩) h.lt).trans (h.at_ j u hu)⟩
theorem yields_op {ops : Array Oper} {S : World → Prop} {op : Oper} {a : Act} (hw : Region.wanted op (yielded ops a.tmps) = true) (x : Operand) (ho : op.op = .load 124 x)
  (g off : Nat) (y : Op17) (hS : ∀ w, S w → OpAt w g off y) (hx : a.eval x = .pointer (some ⟨g, off, none⟩)) : YieldsIf Tryz.prog ops S op (.agg y.cs) a := by
 have := yieldsIf_load_mid (P := Tryz.prog) (ops := ops) (S := S) hw 124 x ho g off hx y.cl _ (fun w h => (hS w h).at_) Tryz.underlying124 rfl (by rw [infoOp17]; rfl)
 rwa [show y.cl.toArray = y.cs from Array.toArray_toList ..] at this
theorem whole_tot (s : St) (h : totI ((s.lock.o.am : Int) :: topsI s.tops) < 18446744073709551616) : totV ((s.lock.o.am : Int) :: topsI s.tops) = wholeV s ∧ totE ((s.lock.o.am : Int) :: topsI s.tops) = 0 := by
 constructor
 ·unfold totV wholeV capL; rw [if_pos h, if_pos h]
 ·exact if_pos h
end
section
open Go.RowKit Go.Maps
end
section
open Go.RowKit Go.Maps
end
section
open Go.RowKit Go.Maps
section
variable {w0 : World} {u : Txn} {N1 kb cb : Nat} {sd : ByteArray} {r q : Nat} {W W' : World}
end
end
end Go.Proofs.YtjcinncphffgaaaGreat
