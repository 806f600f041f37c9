/- For every input ChannelWhole answers true and leaves its arguments as they were. No condition. -/
import Derived.ChangeMaps5
import Derived.Test.YtpbcfeghfcodcaaGreatMgOpen17
import Derived.Test.YtpbcfeghfcodcaaGreatMgWhA
set_option linter.unusedVariables false
set_option linter.unusedSimpArgs false
namespace Go.Proofs.YtpbcfeghfcodcaaGreat
open Go.ChangeMaps Go.ChangeShapes Go.WideShapes Go.ChangeAt Go.RowKit Go.Deep
theorem cwhole_any (e : En) (A : Option Addr) (l : List Op17) (c : Nat) (w0 : World) (he : e.fz) (hl : ∀ x ∈ l, x.fz) (hn : l.length ≤ maxLen) (hs : Sl w0 w0.heap.size 25 Op17.cl A l) :
    Calls Tryz.prog 5 #[.agg e.cs, .slice A l.length c] w0 fun e' w' => e' = .returned (.bool true) ∧ Below w0.heap.size w0 w' := by
  cases h : newB (beginX e) (fitsB (beginX e).o) with
  | true => exact whole_ok e A l c w0 he hl hn hs h
  | false => exact whole_no e A l c w0 h
set_option maxRecDepth 100000 in
theorem cwhole_lifted (os : Os) (started : os.Started) (H : Type) (enc : TypeId × Value → H) :
    ReturnsInHanded {} Tryz.checked os 5 .any (Rows.channelWholeSpec.pre6 enc Tryz.prog Tryz.f5 Rows.channelWholeRow.domain false) (Rows.channelWholeSpec.post enc Tryz.prog Tryz.f5 false true false false) := by
  refine law_lift started (by kernel_rfl) Tryz.func5 rfl (by kernel_rfl) (by rw [Tryz.params5]; intro t ht; simp at ht; rcases ht with rfl | rfl <;> exact ⟨by kernel_rfl, of_decide_eq_true (by kernel_rfl)⟩) ?_
    (ChangeSpec.witness6 (enc := enc) (C := Tryz.checked) false ⟨#[], #[.agg zEn.cs, .slice none 0 0], []⟩ 8 (by kernel_rfl) (by kernel_rfl) (by kernel_rfl) (by kernel_rfl)) ?_
  · intro W vs ds p h
    rw [Tryz.params5] at h
    obtain ⟨v0, vs0, d0, ds0, p0, q0, _, rfl, _, _, r0⟩ := trodAll_cons h
    obtain ⟨v1, vs1, d1, ds1, p1, q1, _, rfl, _, _, r1⟩ := trodAll_cons r0
    obtain ⟨_, rfl, _⟩ := trodAll_nil r1
    rfl
  · intro W base args ds p hval hA _
    rw [Tryz.params5] at hA hval
    obtain ⟨v0, v1, d0, d1, p0, p1, rfl, rfl, rfl, h0, h1⟩ := trodAll_two hA
    obtain ⟨e, rfl, ham, hun⟩ := open_en (hval 0 28 v0 rfl rfl) h0
    obtain ⟨A, l, c, rfl, hs, hz, hl⟩ := open_ops17 (hval 1 29 v1 rfl rfl) h1
    exact cwhole_any e A l c W ⟨ham, hun⟩ hz hl hs
theorem and_mk {a b : Bool} (h1 : a = true) (h2 : b = true) : (a && b) = true := by rw [h1, h2]; rfl
set_option maxRecDepth 100000 in
set_option maxHeartbeats 8000000 in
theorem closed_facts : joinedFacts Tryz.prog 5 Tryz.f5 Rows.channelWholeSpec Rows.channelWholeRow = true := by
  unfold joinedFacts
  repeat' (with_reducible refine and_mk ?_ ?_)
  all_goals as_aux_lemma => kernel_rfl
theorem cwhole_holds : Rows.ChannelWholeSaid :=
  OpenClaim.holds_of_wide 5 Tryz.f5 rfl rfl rfl rfl rfl rfl rfl ⟨rfl, rfl, rfl, rfl, rfl⟩ rfl rfl rfl rfl rfl (by as_aux_lemma => kernel_rfl) Tryz.func5 closed_facts
    (of_decide_eq_true (by as_aux_lemma => kernel_rfl)) (by unfold Func.isWrapper; rw [if_neg (of_decide_eq_false (by as_aux_lemma => kernel_rfl))]; exact ⟨rfl, rfl⟩)
    (fun os started H enc _ => cwhole_lifted os started H enc)
end Go.Proofs.YtpbcfeghfcodcaaGreat
