/- For every input UtxoTotal answers true and leaves its arguments as they were. No condition. -/
import Derived.ChangeMaps5
import Derived.Test.YtdoebmikjgmnaaaGreatMgG00
import Derived.Test.YtdoebmikjgmnaaaGreatMgN4
import Derived.Test.YtdoebmikjgmnaaaGreatMgUdF
set_option linter.unusedVariables false
set_option linter.unusedSimpArgs false
namespace Go.Proofs.YtdoebmikjgmnaaaGreat
open Go.ChangeMaps Go.ChangeShapes Go.WideShapes Go.ChangeAt Go.RowKit Go.Deep
set_option maxRecDepth 100000 in
theorem open_intsT {H : Type} {enc : TypeId × Value → H} {W : World} {r : Reach} {b0 : Nat} {v : Value} {d : DataW H} {p : List MemPlace} (hv : Value.okWide Tryz.prog W r b0 67 v)
    (h : DataW.Trod enc Tryz.prog W 0 (fun _ => true) true 67 v d p) : ∃ A l c, v = .slice A l.length c ∧ Sl W W.heap.size 1 intL A l ∧ l.length ≤ maxLen := by
  obtain ⟨a0, len, cap, rfl⟩ := okWide_slice Tryz.underlying67 hv
  obtain ⟨A, l, c, hc, hs, _, hl⟩ := tr_slice (en := intL) (Q := fun _ => True) Tryz.underlying67 cel_int (fun _ => rfl) (by omega) (fun cs h => by obtain ⟨n, h1, _⟩ := tr_int h; exact ⟨n, h1, trivial⟩) (tr_cells h)
  injection hc with hc _
  exact ⟨A, l, c, hc, hs, hl⟩
set_option maxRecDepth 100000 in
theorem utotal_lifted (os : Os) (started : os.Started) (H : Type) (enc : TypeId × Value → H) :
    ReturnsInHanded {} Tryz.checked os 5 .any (Rows.utxoTotalSpec.pre6 enc Tryz.prog Tryz.f5 Rows.utxoTotalRow.domain false) (Rows.utxoTotalSpec.post enc Tryz.prog Tryz.f5 false true false false) := by
  refine law_lift started (by kernel_rfl) Tryz.func5 rfl (by kernel_rfl) (by rw [Tryz.params5]; intro t ht; simp at ht; rcases ht with rfl | rfl | rfl <;> exact ⟨by kernel_rfl, of_decide_eq_true (by kernel_rfl)⟩) ?_
    (ChangeSpec.witness6 (enc := enc) (C := Tryz.checked) false ⟨#[], #[.slice none 0 0, .slice none 0 0, .slice none 0 0], []⟩ 8 (by kernel_rfl) (by kernel_rfl) (by kernel_rfl) (by kernel_rfl)) ?_
  · intro W vs ds p h
    rw [Tryz.params5] at h
    obtain ⟨v0, vs0, d0, ds0, p0, q0, _, rfl, _, _, r0⟩ := trodAll_cons h
    obtain ⟨v1, vs1, d1, ds1, p1, q1, _, rfl, _, _, r1⟩ := trodAll_cons r0
    obtain ⟨v2, vs2, d2, ds2, p2, q2, _, rfl, _, _, r2⟩ := trodAll_cons r1
    obtain ⟨_, rfl, _⟩ := trodAll_nil r2
    rfl
  · intro W base args ds p hval hA _
    rw [Tryz.params5] at hA hval
    obtain ⟨v0, v1, v2, d0, d1, d2, p0, p1, p2, rfl, rfl, rfl, h0, h1, h2⟩ := trodAll_three hA
    obtain ⟨A, l, c, rfl, hs, hq, hl⟩ := open_outs (hval 0 44 v0 rfl rfl) h0
    obtain ⟨X, xs, x0, rfl, hxs, hxq, hxl⟩ := open_txs (hval 1 66 v1 rfl rfl) h1
    obtain ⟨Y, ys, y0, rfl, hys, hyl⟩ := open_intsT (hval 2 67 v2 rfl rfl) h2
    exact utotal_any A l c X xs x0 Y ys y0 W hs hl hq hxs hxl hxq hys hyl
theorem and_mk {a b : Bool} (h1 : a = true) (h2 : b = true) : (a && b) = true := by rw [h1, h2]; rfl
set_option maxRecDepth 100000 in
set_option maxHeartbeats 8000000 in
theorem closed_facts : joinedFacts Tryz.prog 5 Tryz.f5 Rows.utxoTotalSpec Rows.utxoTotalRow = true := by
  unfold joinedFacts
  repeat' (with_reducible refine and_mk ?_ ?_)
  all_goals as_aux_lemma => kernel_rfl
theorem utotal_holds : Rows.UtxoTotalSaid :=
  OpenClaim.holds_of_wide 5 Tryz.f5 rfl rfl rfl rfl rfl rfl rfl ⟨rfl, rfl, rfl, rfl, rfl⟩ rfl rfl rfl rfl rfl (by as_aux_lemma => kernel_rfl) Tryz.func5 closed_facts
    (of_decide_eq_true (by as_aux_lemma => kernel_rfl)) (by unfold Func.isWrapper; rw [if_neg (of_decide_eq_false (by as_aux_lemma => kernel_rfl))]; exact ⟨rfl, rfl⟩)
    (fun os started H enc _ => utotal_lifted os started H enc)
end Go.Proofs.YtdoebmikjgmnaaaGreat
