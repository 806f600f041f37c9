/- == of outputs, and of entries, that are alike. -/
import Derived.Laws.StructEq
import Derived.Test.YtmbceheafjadhaaGreatMgG22
import Derived.Test.YtmbceheafjadhaaGreatMgG27
import Derived.Test.YtmbceheafjadhaaGreatMgNum
set_option linter.unusedVariables false
set_option linter.unusedSimpArgs false
namespace Go.Proofs.YtmbceheafjadhaaGreat
open Go.RowKit Go.Maps
set_option maxRecDepth 100000 in
theorem ptEqIn (W : World) (d : Nat) (a c : ByteArray) (b e : Int) : (Op.equalIn (d + 2) 54 (.agg #[.string a, .int .i64 b]) (.agg #[.string c, .int .i64 e])).run Tryz.prog W = .ok (decide (a = c) && decide (b = e)) W := by
  rw [run_equalIn_struct W (d + 1) 54 _ _ (by kernel_rfl) (by kernel_rfl)]
  have u1 := Tryz.underlying3
  have u3 := Tryz.underlying9
  simp [Program.fieldsOf, Tryz.underlying54, Op.eqFields, go_sem, toList_beq, int_beq]
  by_cases h1 : a = c <;> by_cases h2 : b = e <;> simp [h1, h2]
end Go.Proofs.YtmbceheafjadhaaGreat
