/- For every input ClaimSigns answers true and leaves its arguments as they were. No condition. -/
import Derived.ChangeMaps5
import Derived.Test.YtjcinncphffgaaaGreatMgLsB
import Derived.Test.YtjcinncphffgaaaGreatMgN4
import Derived.Test.YtjcinncphffgaaaGreatMgOpen
import Derived.Test.YtjcinncphffgaaaGreatMgOpenU
set_option linter.unusedVariables false
set_option linter.unusedSimpArgs false
namespace Go.Proofs.YtjcinncphffgaaaGreat
open Go.ChangeMaps Go.ChangeShapes Go.WideShapes Go.ChangeAt Go.RowKit Go.Deep
set_option maxRecDepth 100000 in
theorem lsigns_lifted (os : Os) (started : os.Started) (H : Type) (enc : TypeId × Value → H) :
    ReturnsInHanded {} Tryz.checked os 4 .any (Rows.claimSignsSpec.pre6 enc Tryz.prog Tryz.f4 Rows.claimSignsRow.domain false) (Rows.claimSignsSpec.post enc Tryz.prog Tryz.f4 false true false false) := by
  refine law_lift started (by kernel_rfl) Tryz.func4 rfl (by kernel_rfl) (by rw [Tryz.params4]; intro t ht; simp at ht; rcases ht with rfl | rfl | rfl <;> exact ⟨by kernel_rfl, of_decide_eq_true (by kernel_rfl)⟩) ?_
    (ChangeSpec.witness6 (enc := enc) (C := Tryz.checked) false ⟨#[], #[.agg #[.slice none 0 0, .slice none 0 0, .int .u64 0, .string ByteArray.empty, .string ByteArray.empty, .slice none 0 0], .string ByteArray.empty, .int .u8 0], []⟩ 8 (by kernel_rfl) (by kernel_rfl) (by kernel_rfl) (by kernel_rfl)) ?_
  · intro W vs ds p h
    rw [Tryz.params4] at h
    obtain ⟨v0, vs0, d0, ds0, p0, q0, _, rfl, _, _, r0⟩ := trodAll_cons h
    obtain ⟨v1, vs1, d1, ds1, p1, q1, _, rfl, _, _, r1⟩ := trodAll_cons r0
    obtain ⟨v2, vs2, d2, ds2, p2, q2, _, rfl, _, _, r2⟩ := trodAll_cons r1
    obtain ⟨_, rfl, _⟩ := trodAll_nil r2
    rfl
  · intro W base args ds p hval hA _
    rw [Tryz.params4] at hA hval
    obtain ⟨v0, v1, v2, d0, d1, d2, p0, p1, p2, rfl, rfl, rfl, h0, h1, h2⟩ := trodAll_three hA
    obtain ⟨t, rfl, ht⟩ := open_tx (hval 0 53 v0 rfl rfl) h0
    obtain ⟨f, rfl, rfl, rfl, wf⟩ := open_string Tryz.underlying9 (hval 1 9 v1 rfl rfl) h1
    obtain ⟨y, rfl, rfl, rfl, wy⟩ := open_int Tryz.underlying5 (hval 2 5 v2 rfl rfl) h2
    have by' := bd_u8 wy
    obtain ⟨y', rfl⟩ : ∃ u : Nat, (u : Int) = y := ⟨y.toNat, Int.toNat_of_nonneg by'.1⟩
    exact csigns_any t f y' W ht wf (by omega)
theorem and_mk {a b : Bool} (h1 : a = true) (h2 : b = true) : (a && b) = true := by rw [h1, h2]; rfl
set_option maxRecDepth 100000 in
set_option maxHeartbeats 8000000 in
theorem closed_facts : joinedFacts Tryz.prog 4 Tryz.f4 Rows.claimSignsSpec Rows.claimSignsRow = true := by
  unfold joinedFacts
  repeat' (with_reducible refine and_mk ?_ ?_)
  all_goals as_aux_lemma => kernel_rfl
theorem lsigns_holds : Rows.ClaimSignsSaid :=
  OpenClaim.holds_of_wide 4 Tryz.f4 rfl rfl rfl rfl rfl rfl rfl ⟨rfl, rfl, rfl, rfl, rfl⟩ rfl rfl rfl rfl rfl (by as_aux_lemma => kernel_rfl) Tryz.func4 closed_facts
    (of_decide_eq_true (by as_aux_lemma => kernel_rfl)) (by unfold Func.isWrapper; rw [if_neg (of_decide_eq_false (by as_aux_lemma => kernel_rfl))]; exact ⟨rfl, rfl⟩)
    (fun os started H enc _ => lsigns_lifted os started H enc)
end Go.Proofs.YtjcinncphffgaaaGreat
