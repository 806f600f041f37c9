/- For every input SchedMargins answers true and leaves its arguments as they were. No condition. -/
import Derived.Test.YtnkbdkpeoaobeaaArr
import Derived.Test.YtnkbdkpeoaobeaaSchedL

namespace Go.Proofs.Ytnkbdkpeoaobeaa
open Go.ChangeShapes Go.WideShapes Go.ChangeAt Go.RowKit Go.Deep

theorem list3 {α : Type} {l : List α} (h : l.length = 3) : ∃ a b c, l = [a, b, c] := by
  match l, h with
  | [a, b, c], _ => exact ⟨a, b, c, rfl⟩
theorem bd_u16 {z : Int} (h : (Lit.int .u16 z).wf = true) : 0 ≤ z ∧ z ≤ 65535 := by simpa [Lit.wf, IntKind.min, IntKind.max, IntKind.signed, IntKind.bits] using h
theorem bd_u32 {z : Int} (h : (Lit.int .u32 z).wf = true) : 0 ≤ z ∧ z ≤ 4294967295 := by simpa [Lit.wf, IntKind.min, IntKind.max, IntKind.signed, IntKind.bits] using h

set_option maxRecDepth 100000 in
theorem margins_lifted (os : Os) (started : os.Started) (H : Type) (enc : TypeId × Value → H) :
    ReturnsInHanded {} Try.checked os 6 .any (Rows.schedMarginsSpec.pre6 enc Try.prog Try.f6 Rows.schedMarginsRow.domain false) (Rows.schedMarginsSpec.post enc Try.prog Try.f6 false true false false) := by
  refine law_lift started (by kernel_rfl) Try.func6 rfl (by kernel_rfl) (by rw [Try.params6]; intro t ht; simp at ht; rcases ht with rfl | rfl <;> exact ⟨by kernel_rfl, of_decide_eq_true (by kernel_rfl)⟩) ?_
    (ChangeSpec.witness6 (enc := enc) (C := Try.checked) false ⟨#[], #[.agg #[.int .u16 0, .int .u16 0, .int .u16 0], .int .u32 0], []⟩ 8 (by kernel_rfl) (by kernel_rfl) (by kernel_rfl) (by kernel_rfl)) ?_
  · intro W vs ds p h
    rw [Try.params6] at h
    obtain ⟨v0, vs0, d0, ds0, p0, q0, _, rfl, _, _, r0⟩ := trodAll_cons h
    obtain ⟨v1, vs1, d1, ds1, p1, q1, _, rfl, _, _, r1⟩ := trodAll_cons r0
    obtain ⟨_, rfl, _⟩ := trodAll_nil r1
    rfl
  · intro W base args ds p hval hA _
    rw [Try.params6] at hA hval
    obtain ⟨v0, v1, d0, d1, p0, p1, rfl, rfl, rfl, h0, h1⟩ := trodAll_two hA
    obtain ⟨zs, hz, rfl, hw⟩ := open_arr Try.underlying46 Try.underlying45 (by kernel_rfl) (by kernel_rfl) (hval 0 46 v0 rfl rfl) h0
    obtain ⟨x, rfl, rfl, rfl, wx⟩ := open_int Try.underlying48 (hval 1 48 v1 rfl rfl) h1
    obtain ⟨a, b, c, rfl⟩ := list3 hz
    have ba := bd_u16 (hw a (by simp))
    have bb := bd_u16 (hw b (by simp))
    have bc := bd_u16 (hw c (by simp))
    have bx := bd_u32 wx
    exact margins_any a b c x W ba.1 ba.2 bb.1 bb.2 bc.1 bc.2 bx.1 bx.2

theorem margins_holds : Rows.SchedMarginsSaid :=
  OpenClaim.holds_of_wide 6 Try.f6 rfl rfl rfl rfl rfl rfl rfl ⟨rfl, rfl, rfl, rfl, rfl⟩ rfl rfl rfl rfl rfl (by kernel_rfl) Try.func6 (by kernel_rfl)
    (of_decide_eq_true (by kernel_rfl)) (by unfold Func.isWrapper; rw [if_neg (of_decide_eq_false (by kernel_rfl))]; exact ⟨rfl, rfl⟩)
    (fun os started H enc _ => margins_lifted os started H enc)
end Go.Proofs.Ytnkbdkpeoaobeaa
