/- For every input ChainDeep answers true and leaves its arguments as they were. No condition. -/
import Derived.ChangeMaps5
import Derived.Test.YtjcinncphffgaaaGreatMjCrA
import Derived.Test.YtjcinncphffgaaaGreatMjDpG
import Derived.Test.YtjcinncphffgaaaGreatMjG22
import Derived.Test.YtjcinncphffgaaaGreatMjOpen
set_option linter.unusedVariables false
set_option linter.unusedSimpArgs false
namespace Go.Proofs.YtjcinncphffgaaaGreat
open Go.ChangeMaps Go.ChangeShapes Go.WideShapes Go.ChangeAt Go.RowKit Go.Deep
set_option maxRecDepth 100000 in
theorem cdeeps_lifted (os : Os) (started : os.Started) (H : Type) (enc : TypeId × Value → H) :
    ReturnsInHanded {} Tryz.checked os 3 .any (Rows.chainDeepSpec.pre6 enc Tryz.prog Tryz.f3 Rows.chainDeepRow.domain false) (Rows.chainDeepSpec.post enc Tryz.prog Tryz.f3 false true false false) := by
  refine law_lift started (by kernel_rfl) Tryz.func3 rfl (by kernel_rfl) (by rw [Tryz.params3]; intro t ht; simp at ht; rcases ht with rfl | rfl <;> exact ⟨by kernel_rfl, of_decide_eq_true (by kernel_rfl)⟩) ?_
    (ChangeSpec.witness6 (enc := enc) (C := Tryz.checked) false ⟨#[], #[.slice none 0 0, .slice none 0 0], []⟩ 8 (by kernel_rfl) (by kernel_rfl) (by kernel_rfl) (by kernel_rfl)) ?_
  · intro W vs ds p h
    rw [Tryz.params3] at h
    obtain ⟨v0, vs0, d0, ds0, p0, q0, _, rfl, _, _, r0⟩ := trodAll_cons h
    obtain ⟨v1, vs1, d1, ds1, p1, q1, _, rfl, _, _, r1⟩ := trodAll_cons r0
    obtain ⟨_, rfl, _⟩ := trodAll_nil r1
    rfl
  · intro W base args ds p hval hA _
    rw [Tryz.params3] at hA hval
    obtain ⟨v0, v1, d0, d1, p0, p1, rfl, rfl, rfl, h0, h1⟩ := trodAll_two hA
    obtain ⟨A, l, c, rfl, hs, hq, hl⟩ := open_outs (hval 0 22 v0 rfl rfl) h0
    obtain ⟨A1, os, c1, rfl, hos, hoc, _⟩ := open_oms (hval 1 23 v1 rfl rfl) h1
    exact cdeeps_any A l c A1 os c1 W hs hl hq hos hoc
theorem and_mk {a b : Bool} (h1 : a = true) (h2 : b = true) : (a && b) = true := by rw [h1, h2]; rfl
set_option maxRecDepth 100000 in
set_option maxHeartbeats 8000000 in
theorem closed_facts : joinedFacts Tryz.prog 3 Tryz.f3 Rows.chainDeepSpec Rows.chainDeepRow = true := by
  unfold joinedFacts
  repeat' (with_reducible refine and_mk ?_ ?_)
  all_goals as_aux_lemma => kernel_rfl
theorem cdeeps_holds : Rows.ChainDeepSaid :=
  OpenClaim.holds_of_wide 3 Tryz.f3 rfl rfl rfl rfl rfl rfl rfl ⟨rfl, rfl, rfl, rfl, rfl⟩ rfl rfl rfl rfl rfl (by as_aux_lemma => kernel_rfl) Tryz.func3 closed_facts
    (of_decide_eq_true (by as_aux_lemma => kernel_rfl)) (by unfold Func.isWrapper; rw [if_neg (of_decide_eq_false (by as_aux_lemma => kernel_rfl))]; exact ⟨rfl, rfl⟩)
    (fun os started H enc _ => cdeeps_lifted os started H enc)
end Go.Proofs.YtjcinncphffgaaaGreat
