/- sdk.Give: refused. sdk.Give: no room; given. sdk: released.with: the faces, one more, in a new map. lottery.Ticket. In a region that draws its order: a part of a block is read; a map of the call's own is written. sdk: taken.lay. sdk.Take: had; no room; taken. sdk: what is bound, and whether there is room, in numbers. sdk.Take: no room; no leaf; taken. -/
import Derived.Outline
import Derived.StillTailTactics
import Derived.IntWalk
import Derived.OwnWalk
import Derived.Maps.OwnOps
import Derived.Deep.RegionHeld3
import Derived.Deep.RegionLaw
import Derived.Test.YtjcinncphffgaaaGreatMjNote
import Derived.Test.YtjcinncphffgaaaGreatMjNum
import Derived.Test.YtjcinncphffgaaaGreatMjSdkA
set_option linter.unusedVariables false
set_option linter.unusedSimpArgs false
namespace Go.Proofs.YtjcinncphffgaaaGreat
open Go.RowKit Go.Maps
variable {w : World} {cb kb ctr pb mb h n i out am tk : Nat} {seed tx : ByteArray} {l : Lk} {D : DU}
end Go.Proofs.YtjcinncphffgaaaGreat
namespace Go.Proofs.YtjcinncphffgaaaGreat
open Go.RowKit Go.Maps
variable {w : World} {cb kb ctr pb mb h n i out am tk : Nat} {seed tx : ByteArray} {l : Lk} {D : DU}
end Go.Proofs.YtjcinncphffgaaaGreat
namespace Go.Proofs.YtjcinncphffgaaaGreat
open Go.RowKit Go.Maps
variable {w : World} {D : DU}
end Go.Proofs.YtjcinncphffgaaaGreat
namespace Go.Proofs.YtjcinncphffgaaaGreat
open Go.RowKit Go.Maps
end Go.Proofs.YtjcinncphffgaaaGreat
namespace Go.Proofs.YtjcinncphffgaaaGreat
open Go.RowKit Go.Maps
theorem wp_gen {P : Program} {c : Code} {Q : Exit → Act → World → Prop} {a : Act} {w : World} (h : ∀ W, W = w → c.wp P Q a W) : c.wp P Q a w := h w rfl
theorem yields_blk {ops : Array Oper} {S : World → Prop} {op : Oper} {a : Act} (hw : Region.wanted op (yielded ops a.tmps) = true) (ty : TypeId) (x : Operand) (ho : op.op = .load ty x)
    (g off n : Nat) {t : TypeId} {cs : Array Value} {fs : Array Field} (hS : ∀ w, S w → Blk w g t cs) (part : Array Value) (hx : a.eval x = .pointer (some ⟨g, off, none⟩)) (hp : cs.extract off (off + n) = part)
    (hu : Tryz.prog.underlying ty = some (.struct fs)) (hi : (Tryz.prog.info? ty).map (·.size) = some n) (hn : off + n ≤ cs.size) : YieldsIf Tryz.prog ops S op (.agg part) a := by
  subst hp
  have := yieldsIf_load_mid (P := Tryz.prog) (ops := ops) (S := S) hw ty x ho g off hx (cs.extract off (off + n)).toList _ (fun w h => World.rangeAt_of_block (w := w) (b := g) (C := cs) (t := t) (fr := (0, 0)) (hS w h) off n) hu rfl (by rw [hi]; simp; omega)
  rwa [Array.toArray_toList] at this
end Go.Proofs.YtjcinncphffgaaaGreat
namespace Go.Proofs.YtjcinncphffgaaaGreat
open Go.RowKit Go.Maps
variable {w : World} {cb kb ctr pb mb h n i out am tk : Nat} {seed tx : ByteArray} {l : Lk} {D : DU}
end Go.Proofs.YtjcinncphffgaaaGreat
namespace Go.Proofs.YtjcinncphffgaaaGreat
open Go.RowKit Go.Maps
variable {w : World} {cb kb ctr pb mb h n i out am tk : Nat} {seed tx : ByteArray} {l : Lk} {D : DU}
end Go.Proofs.YtjcinncphffgaaaGreat
namespace Go.Proofs.YtjcinncphffgaaaGreat
open Go.RowKit Go.Maps
end Go.Proofs.YtjcinncphffgaaaGreat
namespace Go.Proofs.YtjcinncphffgaaaGreat
open Go.RowKit Go.Maps
variable {w : World} {cb kb ctr pb mb h n i out am tk : Nat} {seed tx : ByteArray} {l : Lk} {D : DU}
end Go.Proofs.YtjcinncphffgaaaGreat
