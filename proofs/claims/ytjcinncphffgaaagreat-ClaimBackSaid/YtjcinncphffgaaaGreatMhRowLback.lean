/- For every input ClaimBack answers true and leaves its arguments as they were. No condition. -/
import Derived.ChangeMaps5
import Derived.Test.YtjcinncphffgaaaGreatMhLbC
import Derived.Test.YtjcinncphffgaaaGreatMhOpen
import Derived.Test.YtjcinncphffgaaaGreatMhOpenU
set_option linter.unusedVariables false
set_option linter.unusedSimpArgs false
namespace Go.Proofs.YtjcinncphffgaaaGreat
open Go.ChangeMaps Go.ChangeShapes Go.WideShapes Go.ChangeAt Go.RowKit Go.Deep
theorem bd_u16 {z : Int} (h : (Lit.int .u16 z).wf = true) : 0 ≤ z ∧ z < 65536 := by simp [Lit.wf, IntKind.min, IntKind.max, IntKind.signed, IntKind.bits] at h; omega
set_option maxRecDepth 100000 in
theorem cback18_lifted (os : Os) (started : os.Started) (H : Type) (enc : TypeId × Value → H) :
    ReturnsInHanded {} Tryz.checked os 5 .any (Rows.claimBackSpec.pre6 enc Tryz.prog Tryz.f5 Rows.claimBackRow.domain false) (Rows.claimBackSpec.post enc Tryz.prog Tryz.f5 false true false false) := by
  refine law_lift started (by kernel_rfl) Tryz.func5 rfl (by kernel_rfl) (by rw [Tryz.params5]; intro t ht; simp at ht; rcases ht with rfl | rfl | rfl <;> exact ⟨by kernel_rfl, of_decide_eq_true (by kernel_rfl)⟩) ?_
    (ChangeSpec.witness6 (enc := enc) (C := Tryz.checked) false ⟨#[], #[.string ByteArray.empty, .agg #[.int .u32 0, .int .u32 0], .agg #[.int .u16 0, .int .u16 0]], []⟩ 8 (by kernel_rfl) (by kernel_rfl) (by kernel_rfl) (by kernel_rfl)) ?_
  · intro W vs ds p h
    rw [Tryz.params5] at h
    obtain ⟨v0, vs0, d0, ds0, p0, q0, _, rfl, _, _, r0⟩ := trodAll_cons h
    obtain ⟨v1, vs1, d1, ds1, p1, q1, _, rfl, _, _, r1⟩ := trodAll_cons r0
    obtain ⟨v2, vs2, d2, ds2, p2, q2, _, rfl, _, _, r2⟩ := trodAll_cons r1
    obtain ⟨_, rfl, _⟩ := trodAll_nil r2
    rfl
  · intro W base args ds p hval hA _
    rw [Tryz.params5] at hA hval
    obtain ⟨v0, v1, v2, d0, d1, d2, p0, p1, p2, rfl, rfl, rfl, h0, h1, h2⟩ := trodAll_three hA
    obtain ⟨f, rfl, rfl, rfl, wf⟩ := open_string Tryz.underlying9 (hval 0 9 v0 rfl rfl) h0
    obtain ⟨zs, hz3, rfl, hzw⟩ := open_arr Tryz.underlying77 Tryz.underlying76 (by kernel_rfl) (by kernel_rfl) (hval 1 77 v1 rfl rfl) h1
    obtain ⟨ys, hy3, rfl, hyw⟩ := open_arr Tryz.underlying79 Tryz.underlying78 (by kernel_rfl) (by kernel_rfl) (hval 2 79 v2 rfl rfl) h2
    match zs, hz3, hzw, ys, hy3, hyw with
    | [a, b], _, hzw, [c, d], _, hyw =>
      have ba := bd_u32 (hzw a (by simp))
      have bb := bd_u32 (hzw b (by simp))
      have bc := bd_u16 (hyw c (by simp))
      have bd := bd_u16 (hyw d (by simp))
      obtain ⟨a', rfl⟩ : ∃ u : Nat, (u : Int) = a := ⟨a.toNat, Int.toNat_of_nonneg ba.1⟩
      obtain ⟨b', rfl⟩ : ∃ u : Nat, (u : Int) = b := ⟨b.toNat, Int.toNat_of_nonneg bb.1⟩
      obtain ⟨c', rfl⟩ : ∃ u : Nat, (u : Int) = c := ⟨c.toNat, Int.toNat_of_nonneg bc.1⟩
      obtain ⟨d', rfl⟩ : ∃ u : Nat, (u : Int) = d := ⟨d.toNat, Int.toNat_of_nonneg bd.1⟩
      exact cback18_any f a' b' c' d' W wf (by omega) (by omega) (by omega) (by omega)
theorem and_mk {a b : Bool} (h1 : a = true) (h2 : b = true) : (a && b) = true := by rw [h1, h2]; rfl
set_option maxRecDepth 100000 in
set_option maxHeartbeats 8000000 in
theorem closed_facts : joinedFacts Tryz.prog 5 Tryz.f5 Rows.claimBackSpec Rows.claimBackRow = true := by
  unfold joinedFacts
  repeat' (with_reducible refine and_mk ?_ ?_)
  all_goals as_aux_lemma => kernel_rfl
theorem lback_holds : Rows.ClaimBackSaid :=
  OpenClaim.holds_of_wide 5 Tryz.f5 rfl rfl rfl rfl rfl rfl rfl ⟨rfl, rfl, rfl, rfl, rfl⟩ rfl rfl rfl rfl rfl (by as_aux_lemma => kernel_rfl) Tryz.func5 closed_facts
    (of_decide_eq_true (by as_aux_lemma => kernel_rfl)) (by unfold Func.isWrapper; rw [if_neg (of_decide_eq_false (by as_aux_lemma => kernel_rfl))]; exact ⟨rfl, rfl⟩)
    (fun os started H enc _ => cback18_lifted os started H enc)
end Go.Proofs.YtjcinncphffgaaaGreat
