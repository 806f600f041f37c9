/- For every input SchedHolds answers true and leaves its arguments as they were. No condition. -/
import Derived.Test.YtnkbdkpeoaobeaaArr
import Derived.Test.YtnkbdkpeoaobeaaSchedM

namespace Go.Proofs.Ytnkbdkpeoaobeaa
open Go.ChangeShapes Go.WideShapes Go.ChangeAt Go.RowKit Go.Deep

theorem list3 {α : Type} {l : List α} (h : l.length = 3) : ∃ a b c, l = [a, b, c] := by
  match l, h with
  | [a, b, c], _ => exact ⟨a, b, c, rfl⟩
theorem list4 {α : Type} {l : List α} (h : l.length = 4) : ∃ a b c d, l = [a, b, c, d] := by
  match l, h with
  | [a, b, c, d], _ => exact ⟨a, b, c, d, rfl⟩
theorem bd_u16 {z : Int} (h : (Lit.int .u16 z).wf = true) : 0 ≤ z ∧ z ≤ 65535 := by simpa [Lit.wf, IntKind.min, IntKind.max, IntKind.signed, IntKind.bits] using h
theorem bd_u32 {z : Int} (h : (Lit.int .u32 z).wf = true) : 0 ≤ z ∧ z ≤ 4294967295 := by simpa [Lit.wf, IntKind.min, IntKind.max, IntKind.signed, IntKind.bits] using h

set_option maxRecDepth 100000 in
theorem holds_lifted (os : Os) (started : os.Started) (H : Type) (enc : TypeId × Value → H) :
    ReturnsInHanded {} Try.checked os 4 .any (Rows.schedHoldsSpec.pre6 enc Try.prog Try.f4 Rows.schedHoldsRow.domain false) (Rows.schedHoldsSpec.post enc Try.prog Try.f4 false true false false) := by
  refine law_lift started (by kernel_rfl) Try.func4 rfl (by kernel_rfl) (by rw [Try.params4]; intro t ht; simp at ht; rcases ht with rfl | rfl | rfl <;> exact ⟨by kernel_rfl, of_decide_eq_true (by kernel_rfl)⟩) ?_
    (ChangeSpec.witness6 (enc := enc) (C := Try.checked) false ⟨#[], #[.agg #[.int .u16 0, .int .u16 0, .int .u16 0], .agg #[.int .u16 0, .int .u16 0, .int .u16 0, .int .u16 0], .int .u32 0], []⟩ 8 (by kernel_rfl) (by kernel_rfl) (by kernel_rfl) (by kernel_rfl)) ?_
  · intro W vs ds p h
    rw [Try.params4] at h
    obtain ⟨v0, vs0, d0, ds0, p0, q0, _, rfl, _, _, r0⟩ := trodAll_cons h
    obtain ⟨v1, vs1, d1, ds1, p1, q1, _, rfl, _, _, r1⟩ := trodAll_cons r0
    obtain ⟨v2, vs2, d2, ds2, p2, q2, _, rfl, _, _, r2⟩ := trodAll_cons r1
    obtain ⟨_, rfl, _⟩ := trodAll_nil r2
    rfl
  · intro W base args ds p hval hA _
    rw [Try.params4] at hA hval
    obtain ⟨v0, v1, v2, d0, d1, d2, p0, p1, p2, rfl, rfl, rfl, h0, h1, h2⟩ := trodAll_three hA
    obtain ⟨zs, hz, rfl, hw⟩ := open_arr Try.underlying46 Try.underlying45 (by kernel_rfl) (by kernel_rfl) (hval 0 46 v0 rfl rfl) h0
    obtain ⟨ys, hy, rfl, hw'⟩ := open_arr Try.underlying47 Try.underlying45 (by kernel_rfl) (by kernel_rfl) (hval 1 47 v1 rfl rfl) h1
    obtain ⟨x, rfl, rfl, rfl, wx⟩ := open_int Try.underlying48 (hval 2 48 v2 rfl rfl) h2
    obtain ⟨a, b, c, rfl⟩ := list3 hz
    obtain ⟨p', q', r', s', rfl⟩ := list4 hy
    have ba := bd_u16 (hw a (by simp))
    have bb := bd_u16 (hw b (by simp))
    have bc := bd_u16 (hw c (by simp))
    have bp := bd_u16 (hw' p' (by simp))
    have bq := bd_u16 (hw' q' (by simp))
    have br := bd_u16 (hw' r' (by simp))
    have bx := bd_u32 wx
    exact holds_any a b c p' q' r' s' x W ba.1 ba.2 bb.1 bb.2 bc.1 bc.2 bp.1 bp.2 bq.1 bq.2 br.1 br.2 bx.1 bx.2
theorem holds_holds : Rows.SchedHoldsSaid :=
  OpenClaim.holds_of_wide 4 Try.f4 rfl rfl rfl rfl rfl rfl rfl ⟨rfl, rfl, rfl, rfl, rfl⟩ rfl rfl rfl rfl rfl (by kernel_rfl) Try.func4 (by kernel_rfl)
    (of_decide_eq_true (by kernel_rfl)) (by unfold Func.isWrapper; rw [if_neg (of_decide_eq_false (by kernel_rfl))]; exact ⟨rfl, rfl⟩)
    (fun os started H enc _ => holds_lifted os started H enc)
end Go.Proofs.Ytnkbdkpeoaobeaa
