/- channel.Same of a state and of it with more locked. == of outputs, and of entries, that are alike. claim.Signed of a transaction of one input and one output. claim.Back of one entry. utxo: what applying a transaction makes of the outputs, and of their total. Operations of a plain region that are guarded, or on structs; texts' order as the walk has it. law17's begin, of anything. law08's Cut of a proof of one win. law17's Cut of an operation. A channel's entry, and calls, that came in, opened. (Printed by open17.py.) Transactions and outputs that came in, opened. (Printed by opentx.py.) A region that draws its order: operations that are taken first, under a condition on the world that need not hold behind the last one. law08's Cut of a proof: of any wins. law09's Cut of a transaction. The element of a row of the call's own. law11's Outs: outputs that came in, cut, and as the document has them. SdkBack: what brings back one channel's lock: as a transaction of utxo's. -/
import Derived.Outline
import Derived.Laws.StructEq
import Derived.OwnWalk
import Derived.Defers
import Derived.IntWalk
import Derived.Deep.DeepCutAuto
import Derived.Deep.CutBlock
import Derived.Deep.RegionHeld3
import Derived.Deep.AppendLies
import Derived.ChangeMaps5
import Derived.WalkKit
import Derived.Test.YtjcinncphffgaaaGreatMhG22
import Derived.Test.YtjcinncphffgaaaGreatMhG27
import Derived.Test.YtjcinncphffgaaaGreatMhG29
import Derived.Test.YtjcinncphffgaaaGreatMhG38
import Derived.Test.YtjcinncphffgaaaGreatMhG39
import Derived.Test.YtjcinncphffgaaaGreatMhLotD
import Derived.Test.YtjcinncphffgaaaGreatMhMerk
import Derived.Test.YtjcinncphffgaaaGreatMhN1
import Derived.Test.YtjcinncphffgaaaGreatMhNum
import Derived.Test.YtjcinncphffgaaaGreatMhOpen
import Derived.Test.YtjcinncphffgaaaGreatMhSdkA
set_option linter.unusedVariables false
set_option linter.unusedSimpArgs false
namespace Go.Proofs.YtjcinncphffgaaaGreat
open Go.RowKit Go.Maps
end Go.Proofs.YtjcinncphffgaaaGreat
namespace Go.Proofs.YtjcinncphffgaaaGreat
open Go.RowKit Go.Maps
theorem ouEql (W : World) (a b : Ou) : (binOp .eql 81 (.agg a.cs) (.agg b.cs)).run Tryz.prog W = .ok (.bool (eqOu a b)) W := by
  rw [run_eql_struct, ouEqIn W 9998]; rfl
theorem ouGuardE (W : World) (x y : Operand) (xs ys : Array Value) : (eqGuard .eql 81 x y (.agg xs) (.agg ys)).run Tryz.prog W = .ok () W :=
  run_eqGuard_agg W .eql 81 x y xs ys (by kernel_rfl)
theorem ouEql_self (W : World) (a : Ou) : (binOp .eql 81 (.agg a.cs) (.agg a.cs)).run Tryz.prog W = .ok (.bool true) W := by
  rw [ouEql, (eqOu_iff a a).2 rfl]
/-- an equality of two structs in a drawn region whose calls leave all as it was -/
theorem quiet_eql {o : Oper} {a : Act} {C : World → Prop} {K : Act → Prop} (ty : TypeId) (x y : Operand) {n} (ho : o.op = .binOp .eql ty x y n) (xs ys : Array Value) (hx : a.eval x = .agg xs) (hy : a.eval y = .agg ys) (r : Bool)
    (hg : ∀ W, (eqGuard .eql ty x y (.agg xs) (.agg ys)).run Tryz.prog W = .ok () W) (hb : ∀ W, (binOp .eql ty (.agg xs) (.agg ys)).run Tryz.prog W = .ok (.bool r) W) (hK : K (a.put o.dst (.bool r))) : o.quiet Tryz.prog a C K := by
  refine ⟨.bool r, ?_, hK⟩
  intro W hW
  unfold Oper.quietAt execOp
  simp only [ho, hx, hy, Sem.run_bind, hg, hb, Result.andThen_ok]
  unfold Oper.quietUpon
  exact ⟨rfl, rfl⟩
end Go.Proofs.YtjcinncphffgaaaGreat
namespace Go.Proofs.YtjcinncphffgaaaGreat
open Go.RowKit Go.Maps
end Go.Proofs.YtjcinncphffgaaaGreat
namespace Go.Proofs.YtjcinncphffgaaaGreat
open Go.RowKit Go.Maps
/-- results: a struct in a cell, and a number in a cell -/
theorem results_cells2 {fn : Func} {p q : Tmp} {ty ty2 : TypeId} (h : fn.results = #[.cell p ty, .cell q ty2]) (tmps : Array Value) {w : World} {g : Nat} {t : TypeId} {cs : Array Value} {fs : Array Field} (hb : Blk w g t cs)
    (hp : tmps.getD p undef = .pointer (some ⟨g, 0, none⟩)) (hu : Tryz.prog.underlying ty = some (.struct fs)) (hi : (Tryz.prog.info? ty).map (·.size) = some cs.size) {a2 : Addr} {v : Value}
    (hq : tmps.getD q undef = .pointer (some a2)) (hv : (loadVar ty2 a2).run Tryz.prog w = .ok v w) : (results fn tmps).run Tryz.prog w = .ok (.tuple #[.agg cs, v]) w := by
  have hp' : tmps[p]?.getD undef = .pointer (some ⟨g, 0, none⟩) := by simpa using hp
  have hq' : tmps[q]?.getD undef = .pointer (some a2) := by simpa using hq
  simp only [results, h]
  simp [Sem.run_bind, Result.andThen, hp', hq', asAddr, run_loadVar_row w g t ty cs (0, 0) _ hb hu rfl hi, hv]
end Go.Proofs.YtjcinncphffgaaaGreat
namespace Go.Proofs.YtjcinncphffgaaaGreat
open Go.RowKit Go.Maps
theorem utN_at (id : ByteArray) (l : List Ou) (i : Nat) (h : i < l.length) : (⟨id, (i : Int), l[i]⟩ : En) ∈ utN id l := by
  unfold utN
  exact List.mem_mapIdx.2 ⟨i, h, rfl⟩
section
variable {T : List En} {t : Txn} {h : Int}
end
end Go.Proofs.YtjcinncphffgaaaGreat
namespace Go.Proofs.YtjcinncphffgaaaGreat
open Go.RowKit Go.Maps
theorem quiet_eqop {o : Oper} {a : Act} {C : World → Prop} {K : Act → Prop} (op : BinOp) (ty : TypeId) (x y : Operand) {n} (ho : o.op = .binOp op ty x y n) (xs ys : Array Value) (hx : a.eval x = .agg xs) (hy : a.eval y = .agg ys) (r : Bool)
    (hg : ∀ W, (eqGuard op ty x y (.agg xs) (.agg ys)).run Tryz.prog W = .ok () W) (hb : ∀ W, (binOp op ty (.agg xs) (.agg ys)).run Tryz.prog W = .ok (.bool r) W) (hK : K (a.put o.dst (.bool r))) : o.quiet Tryz.prog a C K := by
  refine ⟨.bool r, ?_, hK⟩
  intro W hW
  unfold Oper.quietAt execOp
  simp only [ho, hx, hy, Sem.run_bind, hg, hb, Result.andThen_ok]
  unfold Oper.quietUpon
  exact ⟨rfl, rfl⟩
end Go.Proofs.YtjcinncphffgaaaGreat
namespace Go.Proofs.YtjcinncphffgaaaGreat
open Go.RowKit Go.Maps
end Go.Proofs.YtjcinncphffgaaaGreat
namespace Go.Proofs.YtjcinncphffgaaaGreat
open Go.RowKit Go.Maps
theorem pfcs_one (p : Pf) : p.cs.all (·.oneCell') = true := by
  rw [Array.all_eq_true']
  intro x hx
  simp only [Pf.cs, List.mem_toArray, List.mem_cons, List.not_mem_nil, or_false] at hx
  rcases hx with rfl | rfl | rfl | rfl <;> rfl
end Go.Proofs.YtjcinncphffgaaaGreat
namespace Go.Proofs.YtjcinncphffgaaaGreat
open Go.RowKit Go.Maps
end Go.Proofs.YtjcinncphffgaaaGreat
namespace Go.Proofs.YtjcinncphffgaaaGreat
open Go.ChangeShapes Go.WideShapes Go.ChangeAt Go.RowKit Go.Deep
section
variable {H : Type} {enc : TypeId × Value → H} {w : World} {base : Nat} {sp : Nat → Bool} {held : Bool}
end
end Go.Proofs.YtjcinncphffgaaaGreat
namespace Go.Proofs.YtjcinncphffgaaaGreat
open Go.ChangeShapes Go.WideShapes Go.ChangeAt Go.RowKit Go.Deep
section
variable {H : Type} {enc : TypeId × Value → H} {w : World} {base : Nat} {sp : Nat → Bool} {held : Bool}
end
end Go.Proofs.YtjcinncphffgaaaGreat
namespace Go.Proofs.YtjcinncphffgaaaGreat
open Go.RowKit
section
variable {P : Program} {ops : Array Oper} {Q : Exit → Act → World → Prop} {md : Region.Mode} {S : World → Prop} {zs : List Nat}
end
end Go.Proofs.YtjcinncphffgaaaGreat
namespace Go.Proofs.YtjcinncphffgaaaGreat
open Go.RowKit Go.Maps
theorem blk_far {W : World} {B base size n : Nat} {t e : TypeId} {cs : Array Value} {v : Value} {xs : List Value} (h : Blk W B t cs) (hr : W.ownsRow base e size v n xs) (hte : t ≠ e) : some B ≠ v.ownBlock := fun q => h.kdT.own_ne hr hte B q.symm (by simp)
end Go.Proofs.YtjcinncphffgaaaGreat
namespace Go.Proofs.YtjcinncphffgaaaGreat
open Go.RowKit Go.Maps
theorem Tryz.infoInC : (Tryz.prog.info? 59).map (fun i => (i.zero, i.size, i.bytes)) = some (some (.agg zInp.cs), 4, 48) := by kernel_rfl
theorem Tryz.infoOutC : (Tryz.prog.info? 81).map (fun i => (i.zero, i.size, i.bytes)) = some (some (.agg zOu.cs), 9, 104) := by kernel_rfl
theorem incl1 (i : Inp) : ∀ u ∈ i.cl, u.oneCell' = true := fun u hu => Array.all_eq_true'.1 (incs_one i) u (by simpa [Inp.cl] using hu)
theorem oucl1 (o : Ou) : ∀ u ∈ o.cl, u.oneCell' = true := fun u hu => Array.all_eq_true'.1 (oucs_one o) u (by simpa [Ou.cl] using hu)
end Go.Proofs.YtjcinncphffgaaaGreat
namespace Go.Proofs.YtjcinncphffgaaaGreat
open Go.RowKit
end Go.Proofs.YtjcinncphffgaaaGreat
namespace Go.Proofs.YtjcinncphffgaaaGreat
open Go.RowKit Go.Maps
end Go.Proofs.YtjcinncphffgaaaGreat
namespace Go.Proofs.YtjcinncphffgaaaGreat
open Go.RowKit Go.Maps
/-- one channel's output -/
def lockO (am : Nat) (key gate : ByteArray) (ex : Int) (an : ByteArray) (unit : Nat) (tok : Int) : Ou := ⟨2, am, key, gate, ex, an, unit, tok, ByteArray.empty⟩
section
variable {tx cl gt an sig : ByteArray} {am unit gi ci go co : Nat} {ex tok : Int}
theorem one_chan (tx cl gt an : ByteArray) (am unit : Nat) (ex tok : Int) : ChanL [⟨tx, 0, lockO am cl gt ex an unit tok⟩] cl gt ex :=
  ⟨by simp, fun _ => rfl, fun j h h0 => by simp at h; omega, fun e he => by rw [List.mem_singleton.1 he]; rfl, fun e he => by rw [List.mem_singleton.1 he]; rfl, fun e he => by rw [List.mem_singleton.1 he]; rfl⟩
theorem one_srt (e : En) : SrtE [e] := List.pairwise_singleton _ _
theorem lock_fits (h1 : 0 < am) (h2 : cl.size = 16) (h3 : gt.size = 16) (h4 : an.size = 16) (h5 : 1 ≤ ex ∧ ex ≤ 4294967295) (h6 : 0 ≤ tok ∧ tok ≤ 4096) : fitsB (lockO am cl gt ex an unit tok) = true := by
  show fits2B am cl gt an ByteArray.empty ex unit tok = true
  unfold fits2B
  have e : ByteArray.empty.size = 0 := rfl
  simp [h1, h2, h3, h4, h5.1, h5.2, h6.1, h6.2, e]
end
end Go.Proofs.YtjcinncphffgaaaGreat
