/- For every input SdkBound answers true and leaves its arguments as they were. No condition. -/
import Derived.ChangeMaps5
import Derived.Test.YtgnlakbmibkjgaaGreatMgBndD
import Derived.Test.YtgnlakbmibkjgaaGreatMgFixB
import Derived.Test.YtgnlakbmibkjgaaGreatMgOpen
set_option linter.unusedVariables false
set_option linter.unusedSimpArgs false
namespace Go.Proofs.YtgnlakbmibkjgaaGreat
open Go.ChangeMaps Go.ChangeShapes Go.WideShapes Go.ChangeAt Go.RowKit Go.Deep
theorem shC_of {zs : List Int} (hz : zs.length = 4) (hw : ∀ z ∈ zs, (Lit.int .u8 z).wf = true) : ∃ z0 z1 z2 z3 : Nat, z0 < 256 ∧ z1 < 256 ∧ z2 < 256 ∧ z3 < 256 ∧ (zs.map (Value.int .u8)).toArray = shC z0 z1 z2 z3 := by
  match zs, hz with
  | [a, b, c, d], _ =>
    have ha := bd_u8 (hw a (by simp))
    have hb := bd_u8 (hw b (by simp))
    have hc := bd_u8 (hw c (by simp))
    have hd := bd_u8 (hw d (by simp))
    refine ⟨a.toNat, b.toNat, c.toNat, d.toNat, by omega, by omega, by omega, by omega, ?_⟩
    unfold shC
    rw [Int.toNat_of_nonneg ha.1, Int.toNat_of_nonneg hb.1, Int.toNat_of_nonneg hc.1, Int.toNat_of_nonneg hd.1]
    rfl
set_option maxRecDepth 100000 in
theorem bound_lifted (os : Os) (started : os.Started) (H : Type) (enc : TypeId × Value → H) :
    ReturnsInHanded {} Tryz.checked os 5 .any (Rows.sdkBoundSpec.pre6 enc Tryz.prog Tryz.f5 Rows.sdkBoundRow.domain false) (Rows.sdkBoundSpec.post enc Tryz.prog Tryz.f5 false true false false) := by
  refine law_lift started (by kernel_rfl) Tryz.func5 rfl (by kernel_rfl) (by rw [Tryz.params5]; intro t ht; simp at ht; rcases ht with rfl | rfl | rfl <;> exact ⟨by kernel_rfl, of_decide_eq_true (by kernel_rfl)⟩) ?_
    (ChangeSpec.witness6 (enc := enc) (C := Tryz.checked) false ⟨#[], #[.string ByteArray.empty, .slice none 0 0, .agg #[.int .u8 0, .int .u8 0, .int .u8 0, .int .u8 0]], []⟩ 8 (by kernel_rfl) (by kernel_rfl) (by kernel_rfl) (by kernel_rfl)) ?_
  · intro W vs ds p h
    rw [Tryz.params5] at h
    obtain ⟨v0, vs0, d0, ds0, p0, q0, _, rfl, _, _, r0⟩ := trodAll_cons h
    obtain ⟨v1, vs1, d1, ds1, p1, q1, _, rfl, _, _, r1⟩ := trodAll_cons r0
    obtain ⟨v2, vs2, d2, ds2, p2, q2, _, rfl, _, _, r2⟩ := trodAll_cons r1
    obtain ⟨_, rfl, _⟩ := trodAll_nil r2
    rfl
  · intro W base args ds p hval hA _
    rw [Tryz.params5] at hA hval
    obtain ⟨v0, v1, v2, d0, d1, d2, p0, p1, p2, rfl, rfl, rfl, h0, h1, h2⟩ := trodAll_three hA
    obtain ⟨f, rfl, rfl, rfl, wf⟩ := open_string Tryz.underlying9 (hval 0 9 v0 rfl rfl) h0
    obtain ⟨A, l, c, rfl, hs, hch, hl⟩ := open_u32s (hval 1 22 v1 rfl rfl) h1
    obtain ⟨zs, hz, rfl, hw⟩ := open_arr Tryz.underlying88 Tryz.underlying5 (by kernel_rfl) (by kernel_rfl) (hval 2 88 v2 rfl rfl) h2
    obtain ⟨z0, z1, z2, z3, b0, b1, b2, b3, hq⟩ := shC_of hz hw
    rw [hq]
    exact bound_any f A l c z0 z1 z2 z3 W wf hl hch hs b0 b1 b2 b3 (fun W => fixed_any W)
theorem and_mk {a b : Bool} (h1 : a = true) (h2 : b = true) : (a && b) = true := by rw [h1, h2]; rfl
set_option maxRecDepth 100000 in
set_option maxHeartbeats 8000000 in
theorem closed_facts : joinedFacts Tryz.prog 5 Tryz.f5 Rows.sdkBoundSpec Rows.sdkBoundRow = true := by
  unfold joinedFacts
  repeat' (with_reducible refine and_mk ?_ ?_)
  all_goals as_aux_lemma => kernel_rfl
theorem bound_holds : Rows.SdkBoundSaid :=
  OpenClaim.holds_of_wide 5 Tryz.f5 rfl rfl rfl rfl rfl rfl rfl ⟨rfl, rfl, rfl, rfl, rfl⟩ rfl rfl rfl rfl rfl (by as_aux_lemma => kernel_rfl) Tryz.func5 closed_facts
    (of_decide_eq_true (by as_aux_lemma => kernel_rfl)) (by unfold Func.isWrapper; rw [if_neg (of_decide_eq_false (by as_aux_lemma => kernel_rfl))]; exact ⟨rfl, rfl⟩)
    (fun os started H enc _ => bound_lifted os started H enc)
end Go.Proofs.YtgnlakbmibkjgaaGreat
