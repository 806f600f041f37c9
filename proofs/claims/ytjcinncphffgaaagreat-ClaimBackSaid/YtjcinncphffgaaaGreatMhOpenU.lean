/- Slices of uint32 that came in, opened; bytes. UtxoClaims: the walk's small parts. law18's ClaimBack: what the walk carries. -/
import Derived.Test.YtjcinncphffgaaaGreatMhG38
import Derived.Test.YtjcinncphffgaaaGreatMhLbA
import Derived.Test.YtjcinncphffgaaaGreatMhNum
import Derived.Test.YtjcinncphffgaaaGreatMhOpen
import Derived.Test.YtjcinncphffgaaaGreatMhSgD
import Derived.Test.YtjcinncphffgaaaGreatMhSgE
set_option linter.unusedVariables false
set_option linter.unusedSimpArgs false
namespace Go.Proofs.YtjcinncphffgaaaGreat
open Go.ChangeShapes Go.WideShapes Go.ChangeAt Go.RowKit Go.Deep
theorem bd_u32 {z : Int} (h : (Lit.int .u32 z).wf = true) : 0 ≤ z ∧ z < 4294967296 := by simp [Lit.wf, IntKind.min, IntKind.max, IntKind.signed, IntKind.bits] at h; omega
end Go.Proofs.YtjcinncphffgaaaGreat
namespace Go.Proofs.YtjcinncphffgaaaGreat
open Go.RowKit Go.Maps
section
variable {cl gt : ByteArray} {am mo ex : Nat}
end
theorem Ut.obj {w : World} {b : Nat} {T : List En} (h : Ut w b T) : (∀ cs t fr, w.heap[b]? ≠ some (Obj.cells cs t fr)) := by
  obtain ⟨D, ⟨es, clock, hb, _⟩, _⟩ := h.own
  intro cs t fr e
  rw [hb] at e; cases e
theorem KeyAt.set {w w' : World} {kb cb h i sb b : Nat} {seed : ByteArray} {T : List En} (k : KeyAt w kb cb seed h i) (s : SetAt w sb b T) (hc : Ch [b] w w') : KeyAt w' kb cb seed h i := by
  obtain ⟨cs, hk⟩ := k.hd
  refine k.ch hc (by have := s.ut.ne_blk hk; simpa using Ne.symm this) (by have := s.ut.ne_blk k.cnt; simpa using Ne.symm this) (fun g hg cs fr => ?_)
  simp at hg; subst hg
  exact s.ut.obj cs _ fr
end Go.Proofs.YtjcinncphffgaaaGreat
namespace Go.Proofs.YtjcinncphffgaaaGreat
open Go.RowKit Go.Maps
/-- the client's key, the set -/
structure LbS (w0 : World) (kb cb : Nat) (sd : ByteArray) (i sb b : Nat) (T : List En) (W : World) : Prop where
  key : KeyAt W kb cb sd 1 i
  set : SetAt W sb b T
  bel : Below w0.heap.size w0 W
  lo : w0.heap.size ≤ cb ∧ w0.heap.size ≤ b
section
variable {w0 W W' : World} {kb cb i i' sb b g : Nat} {sd : ByteArray} {T T' : List En} {t : TypeId} {cs : Array Value}
theorem LbS.go (h : LbS w0 kb cb sd i sb b T W) (hb : Below W.heap.size W W') : LbS w0 kb cb sd i sb b T W' := ⟨h.key.bel hb, h.set.bel hb, h.bel.trans (hb.mono h.bel.size), h.lo⟩
theorem LbS.sign (h : LbS w0 kb cb sd i sb b T W) (k : KeyAt W' kb cb sd 1 i') (hc : Ch [cb] W W') : LbS w0 kb cb sd i' sb b T W' := ⟨k, h.set.key h.key hc, h.bel.trans (hc.below h.bel.size (by simp; exact h.lo.1)), h.lo⟩
theorem LbS.app (h : LbS w0 kb cb sd i sb b T W) (s : SetAt W' sb b T') (hc : Ch [b] W W') : LbS w0 kb cb sd i sb b T' W' := ⟨h.key.set h.set hc, s, h.bel.trans (hc.below h.bel.size (by simp; exact h.lo.2)), h.lo⟩
theorem LbS.st (h : LbS w0 kb cb sd i sb b T W) (hg : Blk W g t cs) (hc : Ch [g] W W') (h1 : t ≠ 68) (h2 : t ≠ 160) (h3 : t ≠ 9) (h4 : 186 ≠ t) (hlo : w0.heap.size ≤ g) : LbS w0 kb cb sd i sb b T W' :=
  ⟨h.key.kd hc hg.kdT h1 h2 h3, ⟨h.set.hd.ch hc (by have := h.set.hd.ne_ hg h4; simpa using this), h.set.ut.ch hc (by have := h.set.ut.ne_blk hg; simpa using this)⟩, h.bel.trans (hc.below h.bel.size (by simp; exact hlo)), h.lo⟩
/-- a transaction in a block stays, when another thing is written -/
theorem Blk.ctr {h : Nat} {t : TypeId} {cs : Array Value} (hg : Blk W g t cs) (k : KeyAt W kb cb sd h i) (hc : Ch [cb] W W') (ht : t ≠ 160) : Blk W' g t cs := hg.ch hc (by have := hg.ne_ k.cnt ht; simpa using this)
theorem Blk.app (hg : Blk W g t cs) (s : SetAt W sb b T) (hc : Ch [b] W W') : Blk W' g t cs := hg.ch hc (by have := s.ut.ne_blk hg; simpa using Ne.symm this)
end
theorem step_load_rowL {ops : Array Oper} {o : Oper} {a : Act} {w : World} {K : Act → World → Prop} {Q : Exit → Act → World → Prop} {E : Prop} (hw : Region.wanted o (yielded ops a.tmps) = true) (ty : TypeId) (x : Operand) (ho : o.op = .load ty x)
    (b off : Nat) {fs : Array Field} (cl : List Value) (hc : ∀ j u, cl[j]? = some u → w.cell? ⟨b, off + j, none⟩ = some u) (part : Array Value) (hx : a.eval x = .pointer (some ⟨b, off, none⟩)) (hp : cl.toArray = part)
    (hu : Tryz.prog.underlying ty = some (.struct fs)) (hi : (Tryz.prog.info? ty).map (·.size) = some cl.length) (h : K (a.put o.dst (.agg part)) w) : if Region.wanted o (yielded ops a.tmps) = true then Oper.wp Tryz.prog o a w K Q else E := by
  subst hp
  rw [if_pos hw]
  exact wp_load_mid ty x ho b off hx cl _ hc hu rfl hi h
def bxU2 (a b : Nat) : Array Value := #[.int .u32 (a : Int), .int .u32 (b : Int)]
def bxH2 (a b : Nat) : Array Value := #[.int .u16 (a : Int), .int .u16 (b : Int)]
end Go.Proofs.YtjcinncphffgaaaGreat
