/- channel.Same of a state and of it with more locked. == of outputs, and of entries, that are alike. claim.Signed of a transaction of one input and one output. claim.Back of one entry. utxo: what applying a transaction makes of the outputs, and of their total. Operations of a plain region that are guarded, or on structs; texts' order as the walk has it. law17's begin, of anything. law08's Cut of a proof of one win. law17's Cut of an operation. -/
import Derived.Outline
import Derived.Laws.StructEq
import Derived.OwnWalk
import Derived.Defers
import Derived.IntWalk
import Derived.Deep.DeepCutAuto
import Derived.Deep.CutBlock
import Derived.Deep.RegionHeld3
import Derived.Deep.AppendLies
import Derived.Test.YtjcinncphffgaaaGreatMgG22
import Derived.Test.YtjcinncphffgaaaGreatMgG27
import Derived.Test.YtjcinncphffgaaaGreatMgG38
import Derived.Test.YtjcinncphffgaaaGreatMgLotD
import Derived.Test.YtjcinncphffgaaaGreatMgMerk
import Derived.Test.YtjcinncphffgaaaGreatMgN1
import Derived.Test.YtjcinncphffgaaaGreatMgNum
import Derived.Test.YtjcinncphffgaaaGreatMgSdkB
set_option linter.unusedVariables false
set_option linter.unusedSimpArgs false
namespace Go.Proofs.YtjcinncphffgaaaGreat
open Go.RowKit Go.Maps
end Go.Proofs.YtjcinncphffgaaaGreat
namespace Go.Proofs.YtjcinncphffgaaaGreat
open Go.RowKit Go.Maps
theorem ouEql (W : World) (a b : Ou) : (binOp .eql 81 (.agg a.cs) (.agg b.cs)).run Tryz.prog W = .ok (.bool (eqOu a b)) W := by
  rw [run_eql_struct, ouEqIn W 9998]; rfl
theorem ouGuardE (W : World) (x y : Operand) (xs ys : Array Value) : (eqGuard .eql 81 x y (.agg xs) (.agg ys)).run Tryz.prog W = .ok () W :=
  run_eqGuard_agg W .eql 81 x y xs ys (by kernel_rfl)
theorem ouEql_self (W : World) (a : Ou) : (binOp .eql 81 (.agg a.cs) (.agg a.cs)).run Tryz.prog W = .ok (.bool true) W := by
  rw [ouEql, (eqOu_iff a a).2 rfl]
end Go.Proofs.YtjcinncphffgaaaGreat
namespace Go.Proofs.YtjcinncphffgaaaGreat
open Go.RowKit Go.Maps
end Go.Proofs.YtjcinncphffgaaaGreat
namespace Go.Proofs.YtjcinncphffgaaaGreat
open Go.RowKit Go.Maps
/-- results: a struct in a cell, and a number in a cell -/
theorem results_cells2 {fn : Func} {p q : Tmp} {ty ty2 : TypeId} (h : fn.results = #[.cell p ty, .cell q ty2]) (tmps : Array Value) {w : World} {g : Nat} {t : TypeId} {cs : Array Value} {fs : Array Field} (hb : Blk w g t cs)
    (hp : tmps.getD p undef = .pointer (some ⟨g, 0, none⟩)) (hu : Tryz.prog.underlying ty = some (.struct fs)) (hi : (Tryz.prog.info? ty).map (·.size) = some cs.size) {a2 : Addr} {v : Value}
    (hq : tmps.getD q undef = .pointer (some a2)) (hv : (loadVar ty2 a2).run Tryz.prog w = .ok v w) : (results fn tmps).run Tryz.prog w = .ok (.tuple #[.agg cs, v]) w := by
  have hp' : tmps[p]?.getD undef = .pointer (some ⟨g, 0, none⟩) := by simpa using hp
  have hq' : tmps[q]?.getD undef = .pointer (some a2) := by simpa using hq
  simp only [results, h]
  simp [Sem.run_bind, Result.andThen, hp', hq', asAddr, run_loadVar_row w g t ty cs (0, 0) _ hb hu rfl hi, hv]
end Go.Proofs.YtjcinncphffgaaaGreat
namespace Go.Proofs.YtjcinncphffgaaaGreat
open Go.RowKit Go.Maps
section
variable {T : List En} {t : Txn} {h : Int}
end
end Go.Proofs.YtjcinncphffgaaaGreat
namespace Go.Proofs.YtjcinncphffgaaaGreat
open Go.RowKit Go.Maps
theorem quiet_eqop {o : Oper} {a : Act} {C : World → Prop} {K : Act → Prop} (op : BinOp) (ty : TypeId) (x y : Operand) {n} (ho : o.op = .binOp op ty x y n) (xs ys : Array Value) (hx : a.eval x = .agg xs) (hy : a.eval y = .agg ys) (r : Bool)
    (hg : ∀ W, (eqGuard op ty x y (.agg xs) (.agg ys)).run Tryz.prog W = .ok () W) (hb : ∀ W, (binOp op ty (.agg xs) (.agg ys)).run Tryz.prog W = .ok (.bool r) W) (hK : K (a.put o.dst (.bool r))) : o.quiet Tryz.prog a C K := by
  refine ⟨.bool r, ?_, hK⟩
  intro W hW
  unfold Oper.quietAt execOp
  simp only [ho, hx, hy, Sem.run_bind, hg, hb, Result.andThen_ok]
  unfold Oper.quietUpon
  exact ⟨rfl, rfl⟩
theorem eqGuardN (W : World) (op : BinOp) (ty : TypeId) (x y : Operand) (xs ys : Array Value) (h : Tryz.prog.eqGuardType Tryz.prog.depth ty = false) : (eqGuard op ty x y (.agg xs) (.agg ys)).run Tryz.prog W = .ok () W :=
  run_eqGuard_agg W op ty x y xs ys h
end Go.Proofs.YtjcinncphffgaaaGreat
namespace Go.Proofs.YtjcinncphffgaaaGreat
open Go.RowKit Go.Maps
def En.toks (e : En) (t : Int) : En := { e with o := { e.o with tok := t } }
end Go.Proofs.YtjcinncphffgaaaGreat
namespace Go.Proofs.YtjcinncphffgaaaGreat
open Go.RowKit Go.Maps
def zPf : Pf := ⟨0, ByteArray.empty, ByteArray.empty, none, [], 0⟩
theorem pfcs_one (p : Pf) : p.cs.all (·.oneCell') = true := by
  rw [Array.all_eq_true']
  intro x hx
  simp only [Pf.cs, List.mem_toArray, List.mem_cons, List.not_mem_nil, or_false] at hx
  rcases hx with rfl | rfl | rfl | rfl <;> rfl
theorem pf_over (p : Pf) {cs : Array Value} (h : cs.size = 4) : over cs 0 p.cs.toList = p.cs := (over_full p.cs.toList cs (by rw [h]; rfl)).trans (Array.toArray_toList ..)
def cutP (p : Pf) : Pf := ⟨p.am, cutT p.sig 450, cutT p.tok 40, none, [], 0⟩
theorem cutwin_x (x : Wn) (w : World) : Calls Tryz.prog 143 #[.agg x.cs] w fun e w' => e = .returned (.agg #[.string (cutT x.t.ch 40), .int .u64 (x.t.ser : Nat), .int .u64 (x.t.face : Nat), .int .u64 (x.t.wins : Nat), .int .u64 (x.t.many : Nat), .string (cutT x.t.com 40), .int .u64 (x.t.cl : Nat), .string (cutT x.t.sig 450), .string (cutT x.salt 40), .int .u64 (x.drawn : Nat)]) ∧ Below w.heap.size w w' := cutwin_any x w
end Go.Proofs.YtjcinncphffgaaaGreat
namespace Go.Proofs.YtjcinncphffgaaaGreat
open Go.RowKit Go.Maps
end Go.Proofs.YtjcinncphffgaaaGreat
