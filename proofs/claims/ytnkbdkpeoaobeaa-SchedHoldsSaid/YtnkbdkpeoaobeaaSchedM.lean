/- SchedHolds: the walk. -/
import Derived.Test.YtnkbdkpeoaobeaaBase
import Derived.Test.YtnkbdkpeoaobeaaPlain20
import Derived.Test.YtnkbdkpeoaobeaaSchedA
import Derived.Test.YtnkbdkpeoaobeaaSchedK
import Derived.Test.YtnkbdkpeoaobeaaSchedL

namespace Go.Proofs.Ytnkbdkpeoaobeaa
open Go.RowKit

theorem quiet_left {P : Program} {f : FuncId} {args : Array Value} {w : World} {n : Nat} {v : Value}
    (h : Calls P f args (w.drewN n) fun e w' => e = .returned v ∧ w.drewN n = w') : Calls P f args (w.drewN n) fun e w'' => e = .returned v ∧ ∃ m, w'' = w.drewN m :=
  h.mono fun _ _ ⟨he, hm⟩ => ⟨he, n, hm.symm⟩
theorem holdsT {a b c d x : Int} (w : World) (ha : 0 ≤ a) (ha1 : a ≤ 1099511627776) (hb : 0 ≤ b) (hb1 : b ≤ 1099511627776) (hc : 0 ≤ c) (hc1 : c ≤ 1099511627776) (hd : 0 ≤ d) (hd1 : d ≤ 1099511627776) (h : a ≤ b ∧ b ≤ c ∧ c + d - 1 < x) :
    Calls Try.prog 20 #[.int .i64 a, .int .i64 b, .int .i64 c, .int .i64 d, .int .i64 x] w fun e w' => e = .returned (.bool true) ∧ w = w' := by
  have := sHolds a b c d x w ha ha1 hb hb1 hc hc1 hd hd1
  rwa [decide_eq_true h] at this

set_option maxRecDepth 100000 in
set_option maxHeartbeats 4000000 in
theorem holds_0 (a b c p q r s  : Int) (w : World) (ha : 0 ≤ a) (ha1 : a ≤ 65535) (hb : 0 ≤ b) (hb1 : b ≤ 65535) (hc : 0 ≤ c) (hc1 : c ≤ 65535) (hp : 0 ≤ p) (hp1 : p ≤ 65535) (hq : 0 ≤ q) (hq1 : q ≤ 65535) (hr : 0 ≤ r) (hr1 : r ≤ 65535)  :
    Calls Try.prog 4 #[.agg #[.int .u16 a, .int .u16 b, .int .u16 c], .agg #[.int .u16 p, .int .u16 q, .int .u16 r, .int .u16 s], .int .u32 0] w fun e w' => e = .returned (.bool true) ∧ Below w.heap.size w w' := by
  have b0 := ((Below.refl w.heap.size w).alloc (Nat.le_refl _) (.cells #[.int .u16 a, .int .u16 b, .int .u16 c] 46)).alloc (by simp) (.cells #[.int .u16 p, .int .u16 q, .int .u16 r, .int .u16 s] 47)
  obtain ⟨m, hm⟩ : ∃ m, m = 2 * (1 + a) + (1 + b) + (1 + c) := ⟨_, rfl⟩
  have Hm := Lib.hid hm
  have hm0 : 0 ≤ m := by omega
  have hm1 : m ≤ 300000 := by omega
  clear hm
  have HD : Hid (deadl (m) m = 0) := by show deadl _ _ = _; unfold deadl; rw [if_neg (by omega)]; omega
  have m1 : 0 ≤ p % (1 + a) := Int.emod_nonneg _ (by omega)
  have m2 : p % (1 + a) < 1 + a := Int.emod_lt_of_pos _ (by omega)
  have m3 : 0 ≤ q % (1 + a + 1) := Int.emod_nonneg _ (by omega)
  have m4 : q % (1 + a + 1) < 1 + a + 1 := Int.emod_lt_of_pos _ (by omega)
  have m5 : 0 ≤ r % (1 + b + 1) := Int.emod_nonneg _ (by omega)
  have m6 : r % (1 + b + 1) < 1 + b + 1 := Int.emod_lt_of_pos _ (by omega)
  go_enter Try.func4, Try.ntmps4
  go_wp2_with fail
  go_quiet (fail)
  go_wp2_with fail
  refine (mar_v ⟨⟨by omega, by omega⟩, ⟨by omega, by omega⟩, by omega, by omega⟩ (m := m) (by rw [Hm.out]) _).mono ?_
  rintro e w1 ⟨rfl, hb1'⟩
  have bx := (hb1'.cell (p := ⟨w.heap.size + 1, 0, none⟩) (by simp))
  have by' := (hb1'.cell (p := ⟨w.heap.size + 1, 1, none⟩) (by simp))
  have bz := (hb1'.cell (p := ⟨w.heap.size + 1, 2, none⟩) (by simp))
  have hc0 : w1.cell? ⟨w.heap.size + 1, 0, none⟩ = some (.int .u16 p) := bx.trans (by go_simp)
  have hc1' : w1.cell? ⟨w.heap.size + 1, 1, none⟩ = some (.int .u16 q) := by'.trans (by go_simp)
  have hc2 : w1.cell? ⟨w.heap.size + 1, 2, none⟩ = some (.int .u16 r) := bz.trans (by go_simp)
  clear bx by' bz
  have s1 := hb1'.size
  simp at s1
  have b1 := (below_drewN b0 _).trans (hb1'.mono (by simp; omega))
  clear hb1' b0
  go_wp2_with fail
  go_quiet (((go_at_call 14; go_must (exact quiet_left (deadT _ (by omega) (by omega) hm0 (by omega) (0) HD.out)))))
  go_wp2_with fail
  refine (lateT _ (by omega) (by omega) hm0 (by omega) true (decide_eq_true (by rw [HD.out]; omega))).mono ?_
  rintro e w2 ⟨rfl, rfl⟩
  go_wp2_with fail
  refine (holdsT _ (by omega) (by omega) (by omega) (by omega) (by omega) (by omega) (by omega) (by omega) ⟨by omega, by omega, by have := Hm.out; omega⟩).mono ?_
  rintro e w2 ⟨rfl, rfl⟩
  go_wp2_with fail
  refine (deadT _ (by omega) (by omega) hm0 (by omega) (0) HD.out).mono ?_
  rintro e w2 ⟨rfl, rfl⟩
  skip
  go_wp2_with fail
  refine (fixed_any _).mono ?_
  rintro e w7 ⟨rfl, hb7⟩
  go_wp2_with fail
  go_ret
  exact ⟨rfl, (below_drewN b1 _).trans (hb7.mono (by simp; omega))⟩
set_option maxRecDepth 100000 in
set_option maxHeartbeats 4000000 in
theorem holds_1 (a b c p q r s x : Int) (w : World) (ha : 0 ≤ a) (ha1 : a ≤ 65535) (hb : 0 ≤ b) (hb1 : b ≤ 65535) (hc : 0 ≤ c) (hc1 : c ≤ 65535) (hp : 0 ≤ p) (hp1 : p ≤ 65535) (hq : 0 ≤ q) (hq1 : q ≤ 65535) (hr : 0 ≤ r) (hr1 : r ≤ 65535) (hx : 1 ≤ x) (hxz : (x == 0) = false) (hx1 : x ≤ 4294967295) :
    Calls Try.prog 4 #[.agg #[.int .u16 a, .int .u16 b, .int .u16 c], .agg #[.int .u16 p, .int .u16 q, .int .u16 r, .int .u16 s], .int .u32 x] w fun e w' => e = .returned (.bool true) ∧ Below w.heap.size w w' := by
  have b0 := ((Below.refl w.heap.size w).alloc (Nat.le_refl _) (.cells #[.int .u16 a, .int .u16 b, .int .u16 c] 46)).alloc (by simp) (.cells #[.int .u16 p, .int .u16 q, .int .u16 r, .int .u16 s] 47)
  obtain ⟨m, hm⟩ : ∃ m, m = 2 * (1 + a) + (1 + b) + (1 + c) := ⟨_, rfl⟩
  have Hm := Lib.hid hm
  have hm0 : 0 ≤ m := by omega
  have hm1 : m ≤ 300000 := by omega
  clear hm
  have HD : Hid (deadl (m + x) m = x) := by show deadl _ _ = _; unfold deadl; rw [if_neg (by omega)]; omega
  have m1 : 0 ≤ p % (1 + a) := Int.emod_nonneg _ (by omega)
  have m2 : p % (1 + a) < 1 + a := Int.emod_lt_of_pos _ (by omega)
  have m3 : 0 ≤ q % (1 + a + 1) := Int.emod_nonneg _ (by omega)
  have m4 : q % (1 + a + 1) < 1 + a + 1 := Int.emod_lt_of_pos _ (by omega)
  have m5 : 0 ≤ r % (1 + b + 1) := Int.emod_nonneg _ (by omega)
  have m6 : r % (1 + b + 1) < 1 + b + 1 := Int.emod_lt_of_pos _ (by omega)
  go_enter Try.func4, Try.ntmps4
  go_wp2_with fail
  go_quiet (fail)
  go_wp2_with fail
  refine (mar_v ⟨⟨by omega, by omega⟩, ⟨by omega, by omega⟩, by omega, by omega⟩ (m := m) (by rw [Hm.out]) _).mono ?_
  rintro e w1 ⟨rfl, hb1'⟩
  have bx := (hb1'.cell (p := ⟨w.heap.size + 1, 0, none⟩) (by simp))
  have by' := (hb1'.cell (p := ⟨w.heap.size + 1, 1, none⟩) (by simp))
  have bz := (hb1'.cell (p := ⟨w.heap.size + 1, 2, none⟩) (by simp))
  have hc0 : w1.cell? ⟨w.heap.size + 1, 0, none⟩ = some (.int .u16 p) := bx.trans (by go_simp)
  have hc1' : w1.cell? ⟨w.heap.size + 1, 1, none⟩ = some (.int .u16 q) := by'.trans (by go_simp)
  have hc2 : w1.cell? ⟨w.heap.size + 1, 2, none⟩ = some (.int .u16 r) := bz.trans (by go_simp)
  clear bx by' bz
  have s1 := hb1'.size
  simp at s1
  have b1 := (below_drewN b0 _).trans (hb1'.mono (by simp; omega))
  clear hb1' b0
  go_wp2_with fail
  go_quiet (((go_at_call 14; go_must (exact quiet_left (deadT _ (by omega) (by omega) hm0 (by omega) (x) HD.out)))))
  go_wp2_with fail
  refine (lateT _ (by omega) (by omega) hm0 (by omega) true (decide_eq_true (by rw [HD.out]; omega))).mono ?_
  rintro e w2 ⟨rfl, rfl⟩
  go_wp2_with fail
  refine (holdsT _ (by omega) (by omega) (by omega) (by omega) (by omega) (by omega) (by omega) (by omega) ⟨by omega, by omega, by have := Hm.out; omega⟩).mono ?_
  rintro e w2 ⟨rfl, rfl⟩
  go_wp2_with fail
  refine (deadT _ (by omega) (by omega) hm0 (by omega) (x) HD.out).mono ?_
  rintro e w2 ⟨rfl, rfl⟩
  go_wp2_with fail
  refine (deadT _ (by omega) (by omega) hm0 (by omega) x HD.out).mono ?_
  rintro e w2 ⟨rfl, rfl⟩
  go_wp2_with fail
  refine (lateT _ (by omega) (by omega) hm0 (by omega) false (decide_eq_false (by rw [HD.out]; omega))).mono ?_
  rintro e w2 ⟨rfl, rfl⟩
  go_wp2_with fail
  refine (fixed_any _).mono ?_
  rintro e w7 ⟨rfl, hb7⟩
  go_wp2_with fail
  go_ret
  exact ⟨rfl, (below_drewN b1 _).trans (hb7.mono (by simp; omega))⟩
theorem holds_any (a b c p q r s x : Int) (w : World) (ha : 0 ≤ a) (ha1 : a ≤ 65535) (hb : 0 ≤ b) (hb1 : b ≤ 65535) (hc : 0 ≤ c) (hc1 : c ≤ 65535) (hp : 0 ≤ p) (hp1 : p ≤ 65535) (hq : 0 ≤ q) (hq1 : q ≤ 65535) (hr : 0 ≤ r) (hr1 : r ≤ 65535) (hx : 0 ≤ x) (hx1 : x ≤ 4294967295) :
    Calls Try.prog 4 #[.agg #[.int .u16 a, .int .u16 b, .int .u16 c], .agg #[.int .u16 p, .int .u16 q, .int .u16 r, .int .u16 s], .int .u32 x] w fun e w' => e = .returned (.bool true) ∧ Below w.heap.size w w' := by
  by_cases h : x = 0
  · subst h; exact holds_0 a b c p q r s w ha ha1 hb hb1 hc hc1 hp hp1 hq hq1 hr hr1
  · exact holds_1 a b c p q r s x w ha ha1 hb hb1 hc hc1 hp hp1 hq hq1 hr hr1 (by omega) (beq_eq_false_iff_ne.2 h) hx1
end Go.Proofs.Ytnkbdkpeoaobeaa
