/- == of outputs, and of entries, that are alike. -/
import Derived.Laws.StructEq
import Derived.Test.YtmbceheafjadhaaGreatMgG22
import Derived.Test.YtmbceheafjadhaaGreatMgG27
import Derived.Test.YtmbceheafjadhaaGreatMgNum
set_option linter.unusedVariables false
set_option linter.unusedSimpArgs false
namespace Go.Proofs.YtmbceheafjadhaaGreat
open Go.RowKit Go.Maps
theorem ouEql (W : World) (a b : Ou) : (binOp .eql 57 (.agg a.cs) (.agg b.cs)).run Tryz.prog W = .ok (.bool (eqOu a b)) W := by
  rw [run_eql_struct, ouEqIn W 9998]; rfl
theorem ouGuardE (W : World) (x y : Operand) (xs ys : Array Value) : (eqGuard .eql 57 x y (.agg xs) (.agg ys)).run Tryz.prog W = .ok () W :=
  run_eqGuard_agg W .eql 57 x y xs ys (by kernel_rfl)
theorem enGuardE (W : World) (x y : Operand) (xs ys : Array Value) : (eqGuard .eql 59 x y (.agg xs) (.agg ys)).run Tryz.prog W = .ok () W :=
  run_eqGuard_agg W .eql 59 x y xs ys (by kernel_rfl)
theorem ouEql_self (W : World) (a : Ou) : (binOp .eql 57 (.agg a.cs) (.agg a.cs)).run Tryz.prog W = .ok (.bool true) W := by
  rw [ouEql, (eqOu_iff a a).2 rfl]
set_option maxRecDepth 100000 in
theorem ptEqIn (W : World) (d : Nat) (a c : ByteArray) (b e : Int) : (Op.equalIn (d + 2) 54 (.agg #[.string a, .int .i64 b]) (.agg #[.string c, .int .i64 e])).run Tryz.prog W = .ok (decide (a = c) && decide (b = e)) W := by
  rw [run_equalIn_struct W (d + 1) 54 _ _ (by kernel_rfl) (by kernel_rfl)]
  have u1 := Tryz.underlying3
  have u3 := Tryz.underlying9
  simp [Program.fieldsOf, Tryz.underlying54, Op.eqFields, go_sem, toList_beq, int_beq]
  by_cases h1 : a = c <;> by_cases h2 : b = e <;> simp [h1, h2]
theorem fieldsEn : (Tryz.prog.fieldsOf 59).toList.map (fun f => (f.name, f.type, f.offset)) = [("P", 54, 0), ("O", 57, 2)] := by kernel_rfl
theorem fieldsEn2 : (Tryz.prog.fieldsOf 59).size = 2 := by kernel_rfl
set_option maxRecDepth 100000 in
set_option maxHeartbeats 1000000 in
theorem enEql_self (W : World) (x : En) : (binOp .eql 59 (.agg #[.string (x).tx, .int .i64 (x).out, .int .i64 (x).o.kind, .int .u64 ((x).o.am : Nat), .string (x).o.key, .string (x).o.gate, .int .i64 (x).o.ex, .string (x).o.anchor, .int .u64 ((x).o.unit : Nat), .int .i64 (x).o.tok, .string (x).o.of_]) (.agg #[.string (x).tx, .int .i64 (x).out, .int .i64 (x).o.kind, .int .u64 ((x).o.am : Nat), .string (x).o.key, .string (x).o.gate, .int .i64 (x).o.ex, .string (x).o.anchor, .int .u64 ((x).o.unit : Nat), .int .i64 (x).o.tok, .string (x).o.of_])).run Tryz.prog W = .ok (.bool true) W := by
  have h1 := ptEqIn W 9997 x.tx x.tx x.out x.out
  have h2 := ouEqIn W 9997 x.o x.o
  rw [(eqOu_iff x.o x.o).2 rfl] at h2
  simp only [Ou.cs] at h2
  simp only [decide_true, Bool.and_true] at h1
  have ho : (Op.equalIn 10000 59 (.agg #[.string (x).tx, .int .i64 (x).out, .int .i64 (x).o.kind, .int .u64 ((x).o.am : Nat), .string (x).o.key, .string (x).o.gate, .int .i64 (x).o.ex, .string (x).o.anchor, .int .u64 ((x).o.unit : Nat), .int .i64 (x).o.tok, .string (x).o.of_]) (.agg #[.string (x).tx, .int .i64 (x).out, .int .i64 (x).o.kind, .int .u64 ((x).o.am : Nat), .string (x).o.key, .string (x).o.gate, .int .i64 (x).o.ex, .string (x).o.anchor, .int .u64 ((x).o.unit : Nat), .int .i64 (x).o.tok, .string (x).o.of_])).run Tryz.prog W = .ok true W := by
    refine (run_equalIn_struct (P := Tryz.prog) W 9999 59 _ _ (by kernel_rfl) (by kernel_rfl)).trans ?_
    simp [Program.fieldsOf, Tryz.underlying59, Op.eqFields, go_sem, h1, h2]
  rw [run_eql_struct, ho]; rfl
/-- an equality of two structs in a drawn region whose calls leave all as it was -/
theorem quiet_eql {o : Oper} {a : Act} {C : World → Prop} {K : Act → Prop} (ty : TypeId) (x y : Operand) {n} (ho : o.op = .binOp .eql ty x y n) (xs ys : Array Value) (hx : a.eval x = .agg xs) (hy : a.eval y = .agg ys) (r : Bool)
    (hg : ∀ W, (eqGuard .eql ty x y (.agg xs) (.agg ys)).run Tryz.prog W = .ok () W) (hb : ∀ W, (binOp .eql ty (.agg xs) (.agg ys)).run Tryz.prog W = .ok (.bool r) W) (hK : K (a.put o.dst (.bool r))) : o.quiet Tryz.prog a C K := by
  refine ⟨.bool r, ?_, hK⟩
  intro W hW
  unfold Oper.quietAt execOp
  simp only [ho, hx, hy, Sem.run_bind, hg, hb, Result.andThen_ok]
  unfold Oper.quietUpon
  exact ⟨rfl, rfl⟩
end Go.Proofs.YtmbceheafjadhaaGreat
