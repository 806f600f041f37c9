/- sdk: the client in memory; New, Root, Left, Name, Whole. sdk: Root, Left, Name, Whole of a client on a channel. sdk.bound. sdk: Bound, room. sdk: paid.lay. sdk.signed, of a voucher. sdk.Pay where it is refused. sdk.Pay where there is no room. -/
import Derived.Outline
import Derived.OwnWalk
import Derived.Deep.RegionLaw
import Derived.Test.YtjcinncphffgaaaGreatMjMerk
import Derived.Test.YtjcinncphffgaaaGreatMjNote
set_option linter.unusedVariables false
set_option linter.unusedSimpArgs false
namespace Go.Proofs.YtjcinncphffgaaaGreat
open Go.RowKit Go.Maps
end Go.Proofs.YtjcinncphffgaaaGreat
namespace Go.Proofs.YtjcinncphffgaaaGreat
open Go.RowKit Go.Maps
/-- a struct in the midst of a block that is known whole is read -/
theorem wpList_load_blk {ops : Array Oper} {rest : List Oper} {o : Oper} {a : Act} {w : World} {Q : Exit → Act → World → Prop} (hgd : o.guard = none) (ty : TypeId) (x : Operand) (ho : o.op = .load ty x)
    (g off n : Nat) {t : TypeId} {cs : Array Value} {fs : Array Field} (hb : Blk w g t cs) (part : Array Value) (hx : a.eval x = .pointer (some ⟨g, off, none⟩)) (hp : cs.extract off (off + n) = part)
    (hu : Tryz.prog.underlying ty = some (.struct fs)) (hi : (Tryz.prog.info? ty).map (·.size) = some n) (hn : off + n ≤ cs.size)
    (h : wpList Tryz.prog ops Q rest (a.put o.dst (.agg part)) w) : wpList Tryz.prog ops Q (o :: rest) a w := by
  subst hp
  refine wpList_load_mid hgd ty x ho g off hx (cs.extract off (off + n)).toList _ (World.rangeAt_of_block (w := w) (b := g) (C := cs) (t := t) (fr := (0, 0)) hb off n) hu rfl (by rw [hi]; simp; omega) ?_
  rw [Array.toArray_toList]
  exact h
theorem infoPnt : (Tryz.prog.info? 57).map (·.size) = some 2 := by kernel_rfl
variable {w : World} {cb h n i out am tk : Nat} {seed tx : ByteArray} {l : Lk} {D : DU}
end Go.Proofs.YtjcinncphffgaaaGreat
namespace Go.Proofs.YtjcinncphffgaaaGreat
open Go.RowKit Go.Maps
theorem Tryz.infoU64 : (Tryz.prog.info? 48).map (fun i => (i.zero, i.size, i.bytes)) = some (some (.int .u64 0), 1, 8) := by kernel_rfl
def bdT (am tk u : Nat) (D : DU) : Int := am + tk * u + allD D
theorem mulV_bd (a b : Nat) : 0 ≤ mulV a b ∧ mulV a b < 18446744073709551616 := by
  have h : (0 : Int) ≤ (a : Int) * b := Int.mul_nonneg (by omega) (by omega)
  unfold mulV
  generalize (a : Int) * b = p at *
  by_cases hp : p < 18446744073709551616
  · rw [if_pos hp]; omega
  · rw [if_neg hp]; omega
theorem u64_flat (l : List Int) : l.flatMap u64c = l.map (Value.int .u64) := by
  induction l with
  | nil => rfl
  | cons a r ih => rw [List.flatMap_cons, ih]; rfl
variable {w : World} {cb h n i out am tk : Nat} {seed tx : ByteArray} {l : Lk} {D : DU}
end Go.Proofs.YtjcinncphffgaaaGreat
namespace Go.Proofs.YtjcinncphffgaaaGreat
open Go.RowKit Go.Maps
def bdOk (am tk u : Nat) (D : DU) : Prop := tk * u < 18446744073709551616 ∧ bdT am tk u D < 18446744073709551616
instance (am tk u : Nat) (D : DU) : Decidable (bdOk am tk u D) := inferInstanceAs (Decidable (_ ∧ _))
variable {w : World} {cb h n i out am tk : Nat} {seed tx : ByteArray} {l : Lk} {D : DU}
end Go.Proofs.YtjcinncphffgaaaGreat
namespace Go.Proofs.YtjcinncphffgaaaGreat
open Go.RowKit Go.Maps
/-- a part of a block is written: the world behind it by what is known of it -/
theorem wpList_store_part {ops : Array Oper} {rest : List Oper} {o : Oper} {a : Act} {w : World} {Q : Exit → Act → World → Prop} (hgd : o.guard = none) (ty : TypeId) (x y : Operand) (ho : o.op = .store ty x y)
    (g off : Nat) {t : TypeId} {cs : Array Value} (hb : Blk w g t cs) (cells cs' : Array Value) (hx : a.eval x = .pointer (some ⟨g, off, none⟩)) (hy : a.eval y = .agg cells)
    (hs : off + cells.size ≤ cs.size) (hi : (Tryz.prog.info? ty).map (·.size) = some cells.size) (h1 : cells.all (·.oneCell') = true) (hc : over cs off cells.toList = cs')
    (h : ∀ W, Blk W g t cs' → Ch [g] w W → wpList Tryz.prog ops Q rest (a.put o.dst undef) W) : wpList Tryz.prog ops Q (o :: rest) a w :=
  wpList_store_mid hgd ty x y ho g off cells hx hy (fun j hj => ⟨by rw [hb.cell, Array.getElem?_eq_getElem (by omega)]; rfl, hb.frozen _⟩) hi h1
    (h _ (hc ▸ blk_setCells cells.toList off hb) (Ch.setCells (by simp) _ _ _))
/-- .. in a region that draws its order -/
theorem step_store_part {ops : Array Oper} {o : Oper} {a : Act} {w : World} {K : Act → World → Prop} {Q : Exit → Act → World → Prop} {E : Prop} (hgd : o.guard = none) (ty : TypeId) (x y : Operand) (ho : o.op = .store ty x y)
    (g off : Nat) {t : TypeId} {cs : Array Value} (hb : Blk w g t cs) (cells cs' : Array Value) (hx : a.eval x = .pointer (some ⟨g, off, none⟩)) (hy : a.eval y = .agg cells)
    (hs : off + cells.size ≤ cs.size) (hi : (Tryz.prog.info? ty).map (·.size) = some cells.size) (h1 : cells.all (·.oneCell') = true) (hc : over cs off cells.toList = cs')
    (h : ∀ W, Blk W g t cs' → Ch [g] w W → K (a.put o.dst undef) W) : if Region.wanted o (yielded ops a.tmps) = true then Oper.wp Tryz.prog o a w K Q else E := by
  have hw : Region.wanted o (yielded ops a.tmps) = true := by simp [Region.wanted, hgd]
  rw [if_pos hw]
  exact wp_store_mid ty x y ho g off cells hx hy (fun j hj => ⟨by rw [hb.cell, Array.getElem?_eq_getElem (by omega)]; rfl, hb.frozen _⟩) hi h1
    (h _ (hc ▸ blk_setCells cells.toList off hb) (Ch.setCells (by simp) _ _ _))
variable {w : World} {cb h n i out am tk : Nat} {seed tx : ByteArray} {l : Lk} {D : DU}
end Go.Proofs.YtjcinncphffgaaaGreat
namespace Go.Proofs.YtjcinncphffgaaaGreat
open Go.RowKit Go.Maps
variable {w : World} {cb h n i out am tk : Nat} {seed tx : ByteArray} {l : Lk} {D : DU}
end Go.Proofs.YtjcinncphffgaaaGreat
namespace Go.Proofs.YtjcinncphffgaaaGreat
open Go.RowKit Go.Maps
variable {w : World} {cb h n i out am tk : Nat} {seed tx : ByteArray} {l : Lk} {D : DU}
end Go.Proofs.YtjcinncphffgaaaGreat
namespace Go.Proofs.YtjcinncphffgaaaGreat
open Go.RowKit Go.Maps
variable {w : World} {cb h n i out am tk : Nat} {seed tx : ByteArray} {l : Lk} {D : DU}
end Go.Proofs.YtjcinncphffgaaaGreat
