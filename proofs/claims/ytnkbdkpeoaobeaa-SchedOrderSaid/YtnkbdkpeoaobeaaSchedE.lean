/- sched.ahead, and the sort. -/
import Derived.Test.YtnkbdkpeoaobeaaBase
import Derived.Test.YtnkbdkpeoaobeaaPlain20
import Derived.Test.YtnkbdkpeoaobeaaShelf

namespace Go.Proofs.Ytnkbdkpeoaobeaa
open Go.RowKit Go.Lib Go.Sort

def orI (a b : Int) : Int := if a ≠ 0 then a else b
set_option maxHeartbeats 1000000 in
theorem or2 (a b : Int) (g c : Nat) (w : World) (h0 : w.cell? ⟨g, 0, none⟩ = some (.int .i64 a)) (h1 : w.cell? ⟨g, 1, none⟩ = some (.int .i64 b)) :
    Calls Try.prog 30 #[.slice (some ⟨g, 0, none⟩) 2 c] w fun e w' => e = .returned (.int .i64 (orI a b)) ∧ w = w' := by
  by_cases ha : a = 0
  · have hb : orI a b = b := by simp [orI, ha]
    rw [hb]
    subst ha
    by_cases hb0 : b = 0
    · subst hb0
      clear hb
      go_enter Try.func30, Try.ntmps30
      go_wp2
      refine wp_loop_rounds 3 ?_
      rw [rounds_succ]
      go_wp2
      rw [rounds_succ]
      go_wp2
      rw [rounds_succ]
      go_wp2
      go_ret
      exact ⟨rfl, rfl⟩
    · have hb1 : (b != 0) = true := by simpa using hb0
      clear hb hb0
      go_enter Try.func30, Try.ntmps30
      go_wp2
      refine wp_loop_rounds 2 ?_
      rw [rounds_succ]
      go_wp2
      rw [rounds_succ]
      go_wp2
      go_ret
      exact ⟨rfl, rfl⟩
  · have hb : orI a b = a := by simp [orI, ha]
    rw [hb]
    have ha1 : (a != 0) = true := by simpa using ha
    clear hb ha
    go_enter Try.func30, Try.ntmps30
    go_wp2
    refine wp_loop_rounds 2 ?_
    rw [rounds_succ]
    go_wp2
    go_ret
    exact ⟨rfl, rfl⟩

def cfI (x y : It) : Int := orI (Lib.compareInt x.ex y.ex) (Lib.compareBytes x.ch.data.toList y.ch.data.toList)
set_option maxHeartbeats 1000000 in
theorem ahead_any (x y : It) (w : World) : Calls Try.prog 25 #[.agg #[.string x.ch, .int .i64 x.ex, .int .u64 x.wo, .bool x.cl], .agg #[.string y.ch, .int .i64 y.ex, .int .u64 y.wo, .bool y.cl]] w
    fun e w' => e = .returned (.int .i64 (cfI x y)) ∧ ∃ q os', w' = grow (w.drewN q) os' := by
  have h1 := fun W => Try.cmp_Compare_int x.ex y.ex W
  have h2 := fun W => Try.strings_Compare x.ch y.ch W
  unfold cfI
  generalize Lib.compareInt x.ex y.ex = p at h1 ⊢
  generalize Lib.compareBytes x.ch.data.toList y.ch.data.toList = q at h2 ⊢
  have H1 := Lib.hid h1
  have H2 := Lib.hid h2
  clear h1 h2
  go_enter Try.func25, Try.ntmps25
  go_wp2
  refine wp_region_still_tail 10 (by kernel_rfl) (by kernel_rfl) ?_
  change wpStill _ _ (World.drew _) (fun a' => wpList _ _ _ _ a' (World.drew _)) _ _
  simp only [List.take_succ_cons, List.take_zero, List.drop_succ_cons, List.drop_zero]
  repeat still_step
  still_call (H1.out _)
  repeat still_step
  still_call (H2.out _)
  refine wpStill_nil ?_
  go_wp2_with fail
  refine (or2 p q _ _ _ (by go_simp) (by go_simp)).mono ?_
  rintro e w' ⟨rfl, rfl⟩
  go_wp2
  go_ret
  exact ⟨rfl, 1, _, by rw [alloc_eq_grow, alloc_eq_grow, alloc_eq_grow, grow_grow, grow_grow]; rfl⟩
end Go.Proofs.Ytnkbdkpeoaobeaa
