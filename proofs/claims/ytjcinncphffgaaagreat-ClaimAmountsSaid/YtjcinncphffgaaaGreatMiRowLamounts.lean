/- For every input ClaimAmounts answers true and leaves its arguments as they were. No condition. -/
import Derived.ChangeMaps5
import Derived.Test.YtjcinncphffgaaaGreatMiLmB
import Derived.Test.YtjcinncphffgaaaGreatMiLmC
import Derived.Test.YtjcinncphffgaaaGreatMiN4
set_option linter.unusedVariables false
set_option linter.unusedSimpArgs false
namespace Go.Proofs.YtjcinncphffgaaaGreat
section
open Go.ChangeMaps Go.ChangeShapes Go.WideShapes Go.ChangeAt Go.RowKit Go.Deep
theorem camounts_any (e : En) (A : Option Addr) (l : List Op17) (c : Nat) (w0 : World) (he : e.fz) (hl : ∀ x ∈ l, x.fz) (hn : l.length ≤ maxLen) (hs : Sl w0 w0.heap.size 25 Op17.cl A l) :
  Calls Tryz.prog 7 #[.agg e.cs, .slice A l.length c] w0 fun e' w' => e' = .returned (.bool true) ∧ Below w0.heap.size w0 w' := by
 by_cases h3 : e.o.tok ≤ 300
 ·cases h : newB (cutE e) (fitsB (cutE e).o) with
  | true => exact camounts_ok e A l c w0 he hl hn hs h3 h
  | false => exact camounts_no e A l c w0 h3 h
 ·exact camounts_big e A l c w0 h3
set_option maxRecDepth 100000 in
theorem camounts_lifted (os : Os) (started : os.Started) (H : Type) (enc : TypeId × Value → H) :
  ReturnsInHanded {} Tryz.checked os 7 .any (Rows.claimAmountsSpec.pre6 enc Tryz.prog Tryz.f7 Rows.claimAmountsRow.domain false) (Rows.claimAmountsSpec.post enc Tryz.prog Tryz.f7 false true false false) := by
 refine law_lift started (by kernel_rfl) Tryz.func7 rfl (by kernel_rfl) (by rw [Tryz.params7]; intro t ht; simp at ht; rcases ht with rfl | rfl <;> exact ⟨by kernel_rfl, of_decide_eq_true (by kernel_rfl)⟩) ?_
  (ChangeSpec.witness6 (enc := enc) (C := Tryz.checked) false ⟨#[], #[.agg zEn.cs, .slice none 0 0], []⟩ 8 (by kernel_rfl) (by kernel_rfl) (by kernel_rfl) (by kernel_rfl)) ?_
 ·intro W vs ds p h
  rw [Tryz.params7] at h
  obtain ⟨v0, vs0, d0, ds0, p0, q0, _, rfl, _, _, r0⟩ := trodAll_cons h
  obtain ⟨v1, vs1, d1, ds1, p1, q1, _, rfl, _, _, r1⟩ := trodAll_cons r0
  obtain ⟨_, rfl, _⟩ := trodAll_nil r1
  rfl
 ·intro W base args ds p hval hA _
  rw [Tryz.params7] at hA hval
  obtain ⟨v0, v1, d0, d1, p0, p1, rfl, rfl, rfl, h0, h1⟩ := trodAll_two hA
  obtain ⟨e, rfl, ham, hun⟩ := open_en (hval 0 89 v0 rfl rfl) h0
  obtain ⟨A, l, c, rfl, hs, hz, hl⟩ := open_ops17 (hval 1 116 v1 rfl rfl) h1
  exact camounts_any e A l c W ⟨ham, hun⟩ hz hl hs
theorem and_mk {a b : Bool} (h1 : a = true) (h2 : b = true) : (a && b) = true := by rw [h1, h2]; rfl
set_option maxRecDepth 100000 in
set_option maxHeartbeats 8000000 in
theorem closed_facts : joinedFacts Tryz.prog 7 Tryz.f7 Rows.claimAmountsSpec Rows.claimAmountsRow = true := by
 unfold joinedFacts
 repeat' (with_reducible refine and_mk ?_ ?_)
 all_goals as_aux_lemma => kernel_rfl
theorem lamounts_holds : Rows.ClaimAmountsSaid :=
 OpenClaim.holds_of_wide 7 Tryz.f7 rfl rfl rfl rfl rfl rfl rfl ⟨rfl, rfl, rfl, rfl, rfl⟩ rfl rfl rfl rfl rfl (by as_aux_lemma => kernel_rfl) Tryz.func7 closed_facts
  (of_decide_eq_true (by as_aux_lemma => kernel_rfl)) (by unfold Func.isWrapper; rw [if_neg (of_decide_eq_false (by as_aux_lemma => kernel_rfl))]; exact ⟨rfl, rfl⟩)
  (fun os started H enc _ => camounts_lifted os started H enc)
end
end Go.Proofs.YtjcinncphffgaaaGreat
