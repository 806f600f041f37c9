/- sdk.Give: refused. sdk.Give: no room; given. sdk: released.with: the faces, one more, in a new map. sdk: taken.lay. -/
import Derived.Outline
import Derived.StillTailTactics
import Derived.IntWalk
import Derived.OwnWalk
import Derived.Maps.OwnOps
import Derived.Deep.RegionLaw
import Derived.Test.YtdoebmikjgmnaaaGreatMgG14
import Derived.Test.YtdoebmikjgmnaaaGreatMgG16
set_option linter.unusedVariables false
set_option linter.unusedSimpArgs false
namespace Go.Proofs.YtdoebmikjgmnaaaGreat
open Go.RowKit Go.Maps
variable {w : World} {cb kb ctr pb mb h n i out am tk : Nat} {seed tx : ByteArray} {l : Lk} {D : DU}
end Go.Proofs.YtdoebmikjgmnaaaGreat
namespace Go.Proofs.YtdoebmikjgmnaaaGreat
open Go.RowKit Go.Maps
theorem relC_set1 (am tk mb x t : Nat) (h : (tk : Int) + x = t) : (relC am tk mb).setIfInBounds 1 (.int .i64 (t : Nat)) = relC am t mb := rfl
variable {w : World} {cb kb ctr pb mb h n i out am tk : Nat} {seed tx : ByteArray} {l : Lk} {D : DU}
end Go.Proofs.YtdoebmikjgmnaaaGreat
namespace Go.Proofs.YtdoebmikjgmnaaaGreat
open Go.RowKit Go.Maps
/-- an entry of a map literal -/
theorem wpList_insert_own {H : Type} {P : Program} (w : World) {ops : Array Oper} {rest : List Oper} {o : Oper} {a : Act} {Q : Exit → Act → World → Prop}
    (hg : o.guard = none) (m x v : Operand) (t : TypeId) (hop : o.op = Op.insert t m x v)
    (k e : TypeId) (K : Keyed P k) (ht : P.underlying t = some (.map k e)) (R : Value → Option (DataW H × List MemPlace)) (b n : Nat) (D : DataW H)
    (hm : a.eval m = .map (some b)) (hown : w.ownsMap P k R b n D) (hn : n < maxLen) (key val : Value) (kl : Lit) (hx : a.eval x = key) (hv : a.eval v = val) (hkey : keyOf P k key = some kl)
    (d : DataW H) (ps : List MemPlace) (hval : R val = some (d, ps))
    (hK : ∀ w', w'.ownsMap P k R b (n + 1) (D.put kl d) → w.grownBy w' (some b) → wpList P ops Q rest (a.put o.dst undef) w') :
    wpList P ops Q (o :: rest) a w := by
  refine wpList_plain hg fun K' hK' => ?_
  obtain ⟨w', hrun, r1, r2⟩ := hown.update K ht hn hkey hval
  unfold Oper.wp
  simp [execOp, hop, hm, hx, hv, hrun, Result.andThen]
  exact hK' _ _ (hK w' r1 r2)
def zRelW : Array Value := #[.int .u64 0, .int .i64 0, .map none]
theorem has_nil (kl : Lit) : Maps.has (DataW.map [] : DU) kl = false := rfl
theorem has_put (D : DU) (n c : Nat) (hD : Tidy D) (z : Lit) (hz : WideAt.IsKeyLit z) (h : Maps.has (D.put (ku n) (.lit (ku c))) z = true) : z = ku n ∨ Maps.has D z = true := by
  obtain ⟨es, rfl, hap⟩ := hD
  change Maps.has (.map (DataW.insert (ku n, .lit (ku c)) (es.filter fun p => !p.1.sameKey (ku n)))) z = true at h
  rw [has_eq, List.any_eq_true] at h
  obtain ⟨p, hp, hs⟩ := h
  rcases mem_insert' _ _ _ hp with rfl | hp
  · exact .inl (WideAt.sameKey_eq hs).symm
  · refine .inr ?_
    rw [has_eq, List.any_eq_true]
    exact ⟨p, (List.mem_filter.1 hp).1, hs⟩
variable {w : World} {D : DU}
end Go.Proofs.YtdoebmikjgmnaaaGreat
namespace Go.Proofs.YtdoebmikjgmnaaaGreat
open Go.RowKit Go.Maps
/-- a gate.Op with a ticket -/
def opT (ch : ByteArray) (t : Tk) : Array Value := #[.int .i64 5, .string ch, .string ByteArray.empty, .int .i64 0, .int .i64 0, .int .u64 0, .string ByteArray.empty, .string ByteArray.empty, .int .i64 0, .string ByteArray.empty, .int .u64 0, .int .i64 0, .string ByteArray.empty, .int .u64 0, .int .u64 0, .int .u64 0, .int .u64 0, .string ByteArray.empty, .string t.ch, .int .u64 (t.ser : Nat), .int .u64 (t.face : Nat), .int .u64 (t.wins : Nat), .int .u64 (t.many : Nat), .string t.com, .int .u64 (t.cl : Nat), .string t.sig, .int .i64 0]
theorem opT_one (ch : ByteArray) (t : Tk) : (opT ch t).all (·.oneCell') = true := by
  rw [Array.all_eq_true']
  intro x hx
  simp only [opT, List.mem_toArray, List.mem_cons, List.not_mem_nil, or_false] at hx
  rcases hx with rfl | rfl | rfl | rfl | rfl | rfl | rfl | rfl | rfl | rfl | rfl | rfl | rfl | rfl | rfl | rfl | rfl | rfl | rfl | rfl | rfl | rfl | rfl | rfl | rfl | rfl | rfl <;> rfl
theorem opT_over (kind : Nat) (c : ByteArray) (am : Nat) (s : ByteArray) (ch : ByteArray) (t : Tk) : over (opP kind c am s) 0 (opT ch t).toList = opT ch t := (over_full (opT ch t).toList (opP kind c am s) rfl).trans (Array.toArray_toList ..)
def takC (cb : Nat) (t : Tk) : Array Value := #[.pointer (some ⟨cb, 0, none⟩), .string t.ch, .int .u64 (t.ser : Nat), .int .u64 (t.face : Nat), .int .u64 (t.wins : Nat), .int .u64 (t.many : Nat), .string t.com, .int .u64 (t.cl : Nat), .string t.sig]
def Tk.signed (t : Tk) (sig : ByteArray) : Tk := ⟨t.ch, t.ser, t.face, t.wins, t.many, t.com, t.cl, sig⟩
variable {w : World} {cb kb ctr pb mb h n i out am tk : Nat} {seed tx : ByteArray} {l : Lk} {D : DU}
end Go.Proofs.YtdoebmikjgmnaaaGreat
