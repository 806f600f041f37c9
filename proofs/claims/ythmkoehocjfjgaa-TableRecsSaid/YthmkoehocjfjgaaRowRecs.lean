/- For every input TableRecs answers true and leaves its arguments as they were. No condition. -/
import Derived.Test.YthmkoehocjfjgaaOpen15
import Derived.Test.YthmkoehocjfjgaaTabT

import Derived.Lib.SmallJoins
namespace Go.Proofs.Ythmkoehocjfjgaa
open Go.ChangeShapes Go.WideShapes Go.ChangeAt Go.RowKit Go.Deep Go.Joins
set_option maxRecDepth 100000 in
theorem open_op {H : Type} {enc : TypeId × Value → H} {W : World} {r : Reach} {b0 : Nat} {v : Value} {d : DataW H} {p : List MemPlace} (hv : Value.okWide Try.prog W r b0 23 v)
    (h : DataW.Trod enc Try.prog W 0 (fun _ => true) true 23 v d p) : ∃ x : Op3, v = .agg #[.int .i64 x.kd, .string x.ke, .string x.va] ∧ x.came := by
  obtain ⟨v0, v1, v2, y0, y1, y2, n, rfl, _, _, t0, t1, t2⟩ := open_agg3 Try.underlying23 (by kernel_rfl) (by kernel_rfl) hv h
  obtain ⟨z, hz, _, _⟩ := DataW.trod_int Try.underlying3 t0
  obtain ⟨s, hs, _, ws⟩ := DataW.trod_string Try.underlying9 t1
  obtain ⟨u, hu, _, wu⟩ := DataW.trod_string Try.underlying9 t2
  simp at hz hs hu
  subst hz hs hu
  exact ⟨⟨z, s, u⟩, rfl, ws, wu⟩

set_option maxRecDepth 100000 in
theorem recs_lifted (os : Os) (started : os.Started) (H : Type) (enc : TypeId × Value → H) :
    ReturnsInHanded {} Try.checked os 3 .any (Rows.tableRecsSpec.pre6 enc Try.prog Try.f3 Rows.tableRecsRow.domain false) (Rows.tableRecsSpec.post enc Try.prog Try.f3 false true false false) := by
  refine law_lift started (by kernel_rfl) Try.func3 rfl (by kernel_rfl) (by rw [Try.params3]; intro t ht; simp at ht; rcases ht with rfl | rfl <;> exact ⟨by kernel_rfl, of_decide_eq_true (by kernel_rfl)⟩) ?_
    (ChangeSpec.witness6 (enc := enc) (C := Try.checked) false ⟨#[], #[.agg #[.int .i64 0, .string ByteArray.empty, .string ByteArray.empty], .slice none 0 0], []⟩ 8 (by kernel_rfl) (by kernel_rfl) (by kernel_rfl) (by kernel_rfl)) ?_
  · intro W vs ds p h
    rw [Try.params3] at h
    obtain ⟨v0, vs0, d0, ds0, p0, q0, _, rfl, _, _, r0⟩ := trodAll_cons h
    obtain ⟨v1, vs1, d1, ds1, p1, q1, _, rfl, _, _, r1⟩ := trodAll_cons r0
    obtain ⟨_, rfl, _⟩ := trodAll_nil r1
    rfl
  · intro W base args ds p hval hA _
    rw [Try.params3] at hA hval
    obtain ⟨v0, v1, d0, d1, p0, p1, rfl, rfl, rfl, h0, h1⟩ := trodAll_two hA
    obtain ⟨x, rfl, hx⟩ := open_op (hval 0 23 v0 rfl rfl) h0
    obtain ⟨A, l, c, rfl, hs, hch, hl⟩ := open_ops (hval 1 24 v1 rfl rfl) h1
    exact recs_law x A l c W hx hl hch hs
theorem recs_holds : Rows.TableRecsSaid :=
  OpenClaim.holds_of_wide 3 Try.f3 rfl rfl rfl rfl rfl rfl rfl ⟨rfl, rfl, rfl, rfl, rfl⟩ rfl rfl rfl rfl rfl (by kernel_rfl) Try.func3 (by kernel_rfl)
    (of_decide_eq_true (by kernel_rfl)) (by unfold Func.isWrapper; rw [if_neg (of_decide_eq_false (by kernel_rfl))]; exact ⟨rfl, rfl⟩)
    (fun os started H enc _ => recs_lifted os started H enc)
end Go.Proofs.Ythmkoehocjfjgaa
