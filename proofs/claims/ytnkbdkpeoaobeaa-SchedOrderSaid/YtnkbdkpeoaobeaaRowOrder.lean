/- For every input SchedOrder answers true and leaves its arguments as they were. No condition. -/
import Derived.Test.YtnkbdkpeoaobeaaOpen20
import Derived.Test.YtnkbdkpeoaobeaaSchedP

import Derived.Lib.SmallJoins
namespace Go.Proofs.Ytnkbdkpeoaobeaa
open Go.ChangeShapes Go.WideShapes Go.ChangeAt Go.RowKit Go.Deep Go.Joins

theorem list2 {α : Type} {l : List α} (h : l.length = 2) : ∃ a b, l = [a, b] := by
  match l, h with
  | [a, b], _ => exact ⟨a, b, rfl⟩
theorem open_item {H : Type} {enc : TypeId × Value → H} {W : World} {r : Reach} {b0 : Nat} {v : Value} {d : DataW H} {p : List MemPlace} (hv : Value.okWide Try.prog W r b0 37 v)
    (h : DataW.Trod enc Try.prog W 0 (fun _ => true) true 37 v d p) : ∃ x : It, v = .agg #[.string x.ch, .int .i64 x.ex, .int .u64 x.wo, .bool x.cl] ∧ x.came := by
  obtain ⟨v0, v1, v2, v3, y0, y1, y2, y3, n, rfl, _, _, t0, t1, t2, t3⟩ := open_agg4 Try.underlying37 (by kernel_rfl) (by kernel_rfl) hv h
  obtain ⟨s, hs, _, ws⟩ := DataW.trod_string Try.underlying9 t0
  obtain ⟨z1, hz1, _, w1⟩ := DataW.trod_int Try.underlying3 t1
  obtain ⟨z2, hz2, _, w2⟩ := DataW.trod_int Try.underlying35 t2
  obtain ⟨b, hb, _⟩ := DataW.trod_bool Try.underlying4 t3
  simp at hs hz1 hz2 hb
  subst hs hz1 hz2 hb
  exact ⟨⟨s, z1, z2, b⟩, rfl, ws, bd_u64 w2⟩

set_option maxRecDepth 100000 in
theorem order_lifted (os : Os) (started : os.Started) (H : Type) (enc : TypeId × Value → H) :
    ReturnsInHanded {} Try.checked os 7 .any (Rows.schedOrderSpec.pre6 enc Try.prog Try.f7 Rows.schedOrderRow.domain false) (Rows.schedOrderSpec.post enc Try.prog Try.f7 false true false false) := by
  refine law_lift started (by kernel_rfl) Try.func7 rfl (by kernel_rfl) (by rw [Try.params7]; intro t ht; simp at ht; rcases ht with rfl | rfl | rfl <;> exact ⟨by kernel_rfl, of_decide_eq_true (by kernel_rfl)⟩) ?_
    (ChangeSpec.witness6 (enc := enc) (C := Try.checked) false ⟨#[], #[.slice none 0 0, .agg #[.string ByteArray.empty, .int .i64 0, .int .u64 0, .bool false], .agg #[.int .i64 0, .int .i64 0]], []⟩ 8 (by kernel_rfl) (by kernel_rfl) (by kernel_rfl) (by kernel_rfl)) ?_
  · intro W vs ds p h
    rw [Try.params7] at h
    obtain ⟨v0, vs0, d0, ds0, p0, q0, _, rfl, _, _, r0⟩ := trodAll_cons h
    obtain ⟨v1, vs1, d1, ds1, p1, q1, _, rfl, _, _, r1⟩ := trodAll_cons r0
    obtain ⟨v2, vs2, d2, ds2, p2, q2, _, rfl, _, _, r2⟩ := trodAll_cons r1
    obtain ⟨_, rfl, _⟩ := trodAll_nil r2
    rfl
  · intro W base args ds p hval hA _
    rw [Try.params7] at hA hval
    obtain ⟨v0, v1, v2, d0, d1, d2, p0, p1, p2, rfl, rfl, rfl, h0, h1, h2⟩ := trodAll_three hA
    obtain ⟨A, l, c, rfl, hs, hch, hl⟩ := open_items (hval 0 22 v0 rfl rfl) h0
    obtain ⟨x, rfl, hx⟩ := open_item (hval 1 37 v1 rfl rfl) h1
    obtain ⟨zs, hz, rfl, hw⟩ := open_arr Try.underlying23 Try.underlying3 (by kernel_rfl) (by kernel_rfl) (hval 2 23 v2 rfl rfl) h2
    obtain ⟨t0, t1, rfl⟩ := list2 hz
    exact order_any A l c x t0 t1 W hx hl hch hs
theorem order_holds : Rows.SchedOrderSaid :=
  OpenClaim.holds_of_wide 7 Try.f7 rfl rfl rfl rfl rfl rfl rfl ⟨rfl, rfl, rfl, rfl, rfl⟩ rfl rfl rfl rfl rfl (by kernel_rfl) Try.func7 (by kernel_rfl)
    (of_decide_eq_true (by kernel_rfl)) (by unfold Func.isWrapper; rw [if_neg (of_decide_eq_false (by kernel_rfl))]; exact ⟨rfl, rfl⟩)
    (fun os started H enc _ => order_lifted os started H enc)
end Go.Proofs.Ytnkbdkpeoaobeaa
