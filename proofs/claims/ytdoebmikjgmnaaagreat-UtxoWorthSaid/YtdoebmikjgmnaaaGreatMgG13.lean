/- sdk: the client in memory; New, Root, Left, Name, Whole. sdk: Root, Left, Name, Whole of a client on a channel. sdk.bound. sdk: Bound, room. -/
import Derived.Outline
import Derived.OwnWalk
import Derived.Deep.RegionLaw
import Derived.Test.YtdoebmikjgmnaaaGreatMgG09
import Derived.Test.YtdoebmikjgmnaaaGreatMgG12
set_option linter.unusedVariables false
set_option linter.unusedSimpArgs false
namespace Go.Proofs.YtdoebmikjgmnaaaGreat
open Go.RowKit Go.Maps
/-- a client without a channel -/
def clZ (kb pb mb : Nat) : Array Value := #[.pointer (some ⟨kb, 0, none⟩), .pointer (some ⟨pb, 0, none⟩), .string ByteArray.empty, .int .i64 0, .int .i64 0, .int .u64 0, .string ByteArray.empty, .string ByteArray.empty, .int .i64 0, .string ByteArray.empty, .int .u64 0, .int .i64 0, .string ByteArray.empty, .slice none 0 0, .int .u64 0, .string ByteArray.empty, .string ByteArray.empty, .slice none 0 0, .int .i64 0, .int .u64 0, .int .u64 0, .bool false, .bool false, .int .u64 0, .int .i64 0, .map (some mb)]
/-- a client on a channel -/
def clC (kb pb mb : Nat) (tx : ByteArray) (out : Nat) (l : Lk) (am tk : Nat) : Array Value := #[.pointer (some ⟨kb, 0, none⟩), .pointer (some ⟨pb, 0, none⟩), .string tx, .int .i64 (out : Nat), .int .i64 2, .int .u64 (l.am : Nat), .string l.key, .string l.gate, .int .i64 (l.ex : Nat), .string l.anchor, .int .u64 (l.unit : Nat), .int .i64 (l.tok : Nat), .string ByteArray.empty, .slice none 0 0, .int .u64 0, .string ByteArray.empty, .string ByteArray.empty, .slice none 0 0, .int .i64 0, .int .u64 0, .int .u64 0, .bool false, .bool true, .int .u64 (am : Nat), .int .i64 (tk : Nat), .map (some mb)]
end Go.Proofs.YtdoebmikjgmnaaaGreat
namespace Go.Proofs.YtdoebmikjgmnaaaGreat
open Go.RowKit Go.Maps
/-- a struct in the midst of a block that is known whole is read -/
theorem wpList_load_blk {ops : Array Oper} {rest : List Oper} {o : Oper} {a : Act} {w : World} {Q : Exit → Act → World → Prop} (hgd : o.guard = none) (ty : TypeId) (x : Operand) (ho : o.op = .load ty x)
    (g off n : Nat) {t : TypeId} {cs : Array Value} {fs : Array Field} (hb : Blk w g t cs) (part : Array Value) (hx : a.eval x = .pointer (some ⟨g, off, none⟩)) (hp : cs.extract off (off + n) = part)
    (hu : Tryz.prog.underlying ty = some (.struct fs)) (hi : (Tryz.prog.info? ty).map (·.size) = some n) (hn : off + n ≤ cs.size)
    (h : wpList Tryz.prog ops Q rest (a.put o.dst (.agg part)) w) : wpList Tryz.prog ops Q (o :: rest) a w := by
  subst hp
  refine wpList_load_mid hgd ty x ho g off hx (cs.extract off (off + n)).toList _ (World.rangeAt_of_block (w := w) (b := g) (C := cs) (t := t) (fr := (0, 0)) hb off n) hu rfl (by rw [hi]; simp; omega) ?_
  rw [Array.toArray_toList]
  exact h
theorem infoPnt : (Tryz.prog.info? 39).map (·.size) = some 2 := by kernel_rfl
variable {w : World} {cb h n i out am tk : Nat} {seed tx : ByteArray} {l : Lk} {D : DU}
end Go.Proofs.YtdoebmikjgmnaaaGreat
namespace Go.Proofs.YtdoebmikjgmnaaaGreat
open Go.RowKit Go.Maps
theorem Tryz.infoU64 : (Tryz.prog.info? 28).map (fun i => (i.zero, i.size, i.bytes)) = some (some (.int .u64 0), 1, 8) := by kernel_rfl
def relC (am tk mb : Nat) : Array Value := #[.int .u64 (am : Nat), .int .i64 (tk : Nat), .map (some mb)]
def bdT (am tk u : Nat) (D : DU) : Int := am + tk * u + allD D
def bdV (am tk u : Nat) (D : DU) : Int := if tk * u < 18446744073709551616 ∧ bdT am tk u D < 18446744073709551616 then bdT am tk u D else 0
def bdE (am tk u : Nat) (D : DU) : Int := if tk * u < 18446744073709551616 ∧ bdT am tk u D < 18446744073709551616 then 0 else 2
theorem own_ne_iter {w : World} {base k n r : Nat} {e : TypeId} {A : Option Addr} {c m : Nat} {xs : List Value} {o : Obj} (h : w.ownsRow base e k (.slice A m c) n xs) (hr : w.heap[r]? = some o) (ho : ∀ cs t fr, o ≠ .cells cs t fr) : ∀ b, (Value.slice A m c).ownBlock = some b → b ∉ [r] := by
  intro b hb hm
  simp at hm; subst hm
  obtain ⟨_, h | ⟨g, cap, cur, hv, _, hg, _⟩⟩ := h
  · obtain ⟨hv, _⟩ := h
    rw [hv] at hb; simp [Value.ownBlock] at hb
  · rw [hv] at hb
    simp [Value.ownBlock] at hb
    subst hb
    rw [hg] at hr
    injection hr with hr
    exact ho _ _ _ hr.symm
theorem ch_none {w w' : World} (hg : w.grownBy w' none) : Ch [] w w' := ⟨hg.os, hg.tape, hg.output, hg.size, fun k hk _ => hg.block k hk (by simp)⟩
theorem wf64 {x : Int} (h : (Lit.int .u64 x).wf = true) : 0 ≤ x ∧ x < 18446744073709551616 := by
  have : 0 ≤ x ∧ x ≤ 18446744073709551615 := by simpa [Lit.wf, IntKind.min, IntKind.max, IntKind.signed, IntKind.bits] using h
  omega
theorem ranges_iter {w : World} {b r n : Nat} {D : DU} {left : Lit → Bool} {cnt : Nat} (h : w.ranges Tryz.prog 28 elU b r n D left cnt) : ∃ o, w.heap[r]? = some o ∧ ∀ cs t fr, o ≠ .cells cs t fr := by
  obtain ⟨_, _, _, _, _, _, _, _, _, hr, _⟩ := h
  exact ⟨_, hr, fun _ _ _ e => by cases e⟩
theorem ranges_map {w : World} {b r n : Nat} {D : DU} {left : Lit → Bool} {cnt : Nat} (h : w.ranges Tryz.prog 28 elU b r n D left cnt) : ∃ o, w.heap[b]? = some o ∧ ∀ cs t fr, o ≠ .cells cs t fr := by
  obtain ⟨_, _, _, _, _, hb, _⟩ := h
  exact ⟨_, hb, fun _ _ _ e => by cases e⟩
theorem mulV_bd (a b : Nat) : 0 ≤ mulV a b ∧ mulV a b < 18446744073709551616 := by
  have h : (0 : Int) ≤ (a : Int) * b := Int.mul_nonneg (by omega) (by omega)
  unfold mulV
  generalize (a : Int) * b = p at *
  by_cases hp : p < 18446744073709551616
  · rw [if_pos hp]; omega
  · rw [if_neg hp]; omega
theorem u64_flat (l : List Int) : l.flatMap u64c = l.map (Value.int .u64) := by
  induction l with
  | nil => rfl
  | cons a r ih => rw [List.flatMap_cons, ih]; rfl
theorem bd_no {am tk u : Nat} {D : DU} (h : ¬ (tk : Int) * u < 18446744073709551616) : bdV am tk u D = 0 ∧ bdE am tk u D = 2 := by
  have h' : ¬ (tk * u < 18446744073709551616 ∧ bdT am tk u D < 18446744073709551616) := fun k => h (by have := k.1; rw [← Int.natCast_mul]; omega)
  exact ⟨if_neg h', if_neg h'⟩
theorem bd_yes {am tk u : Nat} {D : DU} {ns : List Int} (h : (tk : Int) * u < 18446744073709551616) (hs : totI ns = allD D) : totV ((am : Int) :: mulV tk u :: ns) = bdV am tk u D ∧ totE ((am : Int) :: mulV tk u :: ns) = bdE am tk u D := by
  have e : totI ((am : Int) :: mulV tk u :: ns) = bdT am tk u D := by
    simp only [totI, bdT, mulV, if_pos h, hs]; omega
  have h' : tk * u < 18446744073709551616 := by rw [← Int.natCast_mul] at h; omega
  unfold totV totE bdV bdE
  rw [e]
  by_cases hb : bdT am tk u D < 18446744073709551616
  · simp [hb, h']
  · simp [hb]
variable {w : World} {cb h n i out am tk : Nat} {seed tx : ByteArray} {l : Lk} {D : DU}
end Go.Proofs.YtdoebmikjgmnaaaGreat
namespace Go.Proofs.YtdoebmikjgmnaaaGreat
open Go.RowKit Go.Maps
def bdOk (am tk u : Nat) (D : DU) : Prop := tk * u < 18446744073709551616 ∧ bdT am tk u D < 18446744073709551616
instance (am tk u : Nat) (D : DU) : Decidable (bdOk am tk u D) := inferInstanceAs (Decidable (_ ∧ _))
def boundV (am tk u : Nat) (D : DU) : Int := if bdOk am tk u D then bdT am tk u D else 18446744073709551615
def roomE (am tk u lam : Nat) (D : DU) : Int := if bdOk am tk u D ∧ bdT am tk u D ≤ lam then 0 else 9
theorem bdV_ok {am tk u : Nat} {D : DU} (h : bdOk am tk u D) : bdV am tk u D = bdT am tk u D ∧ bdE am tk u D = 0 := ⟨if_pos h, if_pos h⟩
theorem bdV_no {am tk u : Nat} {D : DU} (h : ¬ bdOk am tk u D) : bdV am tk u D = 0 ∧ bdE am tk u D = 2 := ⟨if_neg h, if_neg h⟩
variable {w : World} {cb h n i out am tk : Nat} {seed tx : ByteArray} {l : Lk} {D : DU}
end Go.Proofs.YtdoebmikjgmnaaaGreat
