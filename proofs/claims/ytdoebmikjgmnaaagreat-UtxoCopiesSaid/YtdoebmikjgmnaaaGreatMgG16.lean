/- In a region that draws its order: a part of a block is read; a map of the call's own is written. sdk.signed, of a voucher. sdk.Pay where it is refused. sdk.Pay where there is no room. -/
import Derived.Deep.RegionHeld3
import Derived.Maps.OwnOps
import Derived.Outline
import Derived.Test.YtdoebmikjgmnaaaGreatMgG11
import Derived.Test.YtdoebmikjgmnaaaGreatMgG14
set_option linter.unusedVariables false
set_option linter.unusedSimpArgs false
namespace Go.Proofs.YtdoebmikjgmnaaaGreat
open Go.RowKit Go.Maps
theorem wp_gen {P : Program} {c : Code} {Q : Exit → Act → World → Prop} {a : Act} {w : World} (h : ∀ W, W = w → c.wp P Q a W) : c.wp P Q a w := h w rfl
theorem yields_blk {ops : Array Oper} {S : World → Prop} {op : Oper} {a : Act} (hw : Region.wanted op (yielded ops a.tmps) = true) (ty : TypeId) (x : Operand) (ho : op.op = .load ty x)
    (g off n : Nat) {t : TypeId} {cs : Array Value} {fs : Array Field} (hS : ∀ w, S w → Blk w g t cs) (part : Array Value) (hx : a.eval x = .pointer (some ⟨g, off, none⟩)) (hp : cs.extract off (off + n) = part)
    (hu : Tryz.prog.underlying ty = some (.struct fs)) (hi : (Tryz.prog.info? ty).map (·.size) = some n) (hn : off + n ≤ cs.size) : YieldsIf Tryz.prog ops S op (.agg part) a := by
  subst hp
  have := yieldsIf_load_mid (P := Tryz.prog) (ops := ops) (S := S) hw ty x ho g off hx (cs.extract off (off + n)).toList _ (fun w h => World.rangeAt_of_block (w := w) (b := g) (C := cs) (t := t) (fr := (0, 0)) (hS w h) off n) hu rfl (by rw [hi]; simp; omega)
  rwa [Array.toArray_toList] at this
end Go.Proofs.YtdoebmikjgmnaaaGreat
namespace Go.Proofs.YtdoebmikjgmnaaaGreat
open Go.RowKit Go.Maps
theorem not_str {w : World} {g : Nat} {t : TypeId} {c : Array Value} (h : Blk w g t c) (ht : t ≠ 9) : ∀ g' ∈ [g], ∀ cs fr, w.heap[g']? ≠ some (Obj.cells cs 9 fr) := by
  intro g' hg cs fr he
  simp at hg; subst hg
  unfold Blk at h
  rw [h] at he
  injection he with he
  injection he with _ he
  exact ht he
theorem MpU.ne_at {w : World} {b g : Nat} {D : DU} {t : TypeId} {cs : Array Value} (h : MpU w b D) (hg : Blk w g t cs) : b ∉ [g] := by
  have := h.ne_blk hg
  simpa using this
variable {w : World} {cb h n i out am tk : Nat} {seed tx : ByteArray} {l : Lk} {D : DU}
end Go.Proofs.YtdoebmikjgmnaaaGreat
namespace Go.Proofs.YtdoebmikjgmnaaaGreat
open Go.RowKit Go.Maps
def zRel : Array Value := #[.int .u64 0, .int .i64 0, .map none]
theorem relC_over (am tk mb : Nat) : over zRel 0 (relC am tk mb).toList = relC am tk mb := (over_full (relC am tk mb).toList zRel rfl).trans (Array.toArray_toList ..)
variable {w : World} {cb h n i out am tk : Nat} {seed tx : ByteArray} {l : Lk} {D : DU}
end Go.Proofs.YtdoebmikjgmnaaaGreat
namespace Go.Proofs.YtdoebmikjgmnaaaGreat
open Go.RowKit Go.Maps
theorem relC_set (am tk mb x : Nat) : (relC am tk mb).setIfInBounds 0 (.int .u64 (x : Nat)) = relC x tk mb := rfl
variable {w : World} {cb h n i out am tk : Nat} {seed tx : ByteArray} {l : Lk} {D : DU}
end Go.Proofs.YtdoebmikjgmnaaaGreat
