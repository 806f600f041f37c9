/- SchedMargins and SchedHolds: the walks. -/
import Derived.Test.YtnkbdkpeoaobeaaBase
import Derived.Test.YtnkbdkpeoaobeaaPlain20
import Derived.Test.YtnkbdkpeoaobeaaSchedA
import Derived.Test.YtnkbdkpeoaobeaaSchedK

namespace Go.Proofs.Ytnkbdkpeoaobeaa
open Go.RowKit

theorem mar_v {a b c m : Int} (h : marOk a b c) (hm : m = 2 * a + b + c) (w : World) : Calls Try.prog 9 #[.int .i64 a, .int .i64 b, .int .i64 c] w fun e w' => e = .returned (.tuple #[.int .i64 m, .int .i64 0]) ∧ Below w.heap.size w w' := by
  have := sMargin a b c w
  rw [show marV a b c = 2 * a + b + c from if_pos h, show marE a b c = 0 from if_pos h] at this
  rw [hm]; exact this
theorem lateT {h x m : Int} (w : World) (hx : 0 ≤ x) (hx1 : x ≤ 1099511627776) (hm : 0 ≤ m) (hm1 : m ≤ 1099511627776) (b : Bool) (hb : decide (deadl x m ≤ h) = b) :
    Calls Try.prog 15 #[.int .i64 h, .int .i64 x, .int .i64 m] w fun e w' => e = .returned (.bool b) ∧ w = w' := by
  have := sLate h x m w hx hx1 hm hm1; rwa [hb] at this
theorem deadT {x m : Int} (w : World) (hx : 0 ≤ x) (hx1 : x ≤ 1099511627776) (hm : 0 ≤ m) (hm1 : m ≤ 1099511627776) (d : Int) (hd : deadl x m = d) :
    Calls Try.prog 14 #[.int .i64 x, .int .i64 m] w fun e w' => e = .returned (.int .i64 d) ∧ w = w' := by
  have := sDeadline x m w hx hx1 hm hm1; rwa [hd] at this

set_option maxRecDepth 100000 in
set_option maxHeartbeats 4000000 in
theorem margins_a (a b c : Int) (w : World) (ha : 0 ≤ a) (ha1 : a ≤ 65535) (hb : 0 ≤ b) (hb1 : b ≤ 65535) (hc : 0 ≤ c) (hc1 : c ≤ 65535) (m : Int) (hm : m = 2 * (1 + a) + (1 + b) + (1 + c)) (x : Int) (hxm : x < m) (hx : 0 ≤ x) (hx1 : x ≤ 4294967295) :
    Calls Try.prog 6 #[.agg #[.int .u16 a, .int .u16 b, .int .u16 c], .int .u32 x] w fun e w' => e = .returned (.bool true) ∧ Below w.heap.size w w' := by
  have b0 := (Below.refl w.heap.size w).alloc (Nat.le_refl _) (.cells #[.int .u16 a, .int .u16 b, .int .u16 c] 46)
  have Hm := Lib.hid hm
  have hm0 : 0 ≤ m := by omega
  have hm1 : m ≤ 1099511627776 := by omega
  have HD : Hid (deadl (x) m = 0) := by
    show deadl _ _ = _
    unfold deadl; rw [if_pos hxm]
  clear hm
  go_enter Try.func6, Try.ntmps6
  go_wp2_with fail
  go_quiet (fail)
  go_wp2_with fail
  refine (mar_v ⟨⟨by omega, by omega⟩, ⟨by omega, by omega⟩, by omega, by omega⟩ (m := m) (by rw [Hm.out]) _).mono ?_
  rintro e w1 ⟨rfl, hb1'⟩
  go_wp2_with fail
  refine (mar_v ⟨⟨by omega, by omega⟩, ⟨by omega, by omega⟩, by omega, by omega⟩ (m := m + 2) (by rw [Hm.out]; omega) _).mono ?_
  rintro e w2 ⟨rfl, hb2'⟩
  go_wp2_with fail
  refine (mar_v ⟨⟨by omega, by omega⟩, ⟨by omega, by omega⟩, by omega, by omega⟩ (m := m + 1) (by rw [Hm.out]; omega) _).mono ?_
  rintro e w3 ⟨rfl, hb3'⟩
  go_wp2_with fail
  refine (mar_v ⟨⟨by omega, by omega⟩, ⟨by omega, by omega⟩, by omega, by omega⟩ (m := m + 1) (by rw [Hm.out]; omega) _).mono ?_
  rintro e w4 ⟨rfl, hb4'⟩
  go_wp2_with fail
  refine (deadT _ (by omega) (by omega) hm0 hm1 (0) HD.out).mono ?_
  rintro e w5 ⟨rfl, rfl⟩
  go_wp2_with fail
  refine (lateT _ (by omega) (by omega) hm0 hm1 true (decide_eq_true (by rw [HD.out]; omega))).mono ?_
  rintro e w6 ⟨rfl, rfl⟩
  skip
  go_wp2_with fail
  refine (fixed_any _).mono ?_
  rintro e w7 ⟨rfl, hb7⟩
  go_wp2_with fail
  go_ret
  have s1 := hb1'.size
  have s2 := hb2'.size
  have s3 := hb3'.size
  have s4 := hb4'.size
  simp at s1
  exact ⟨rfl, (((((below_drewN b0 _).trans (hb1'.mono (by simp))).trans (hb2'.mono (by omega))).trans (hb3'.mono (by omega))).trans (hb4'.mono (by omega))).trans (hb7.mono (by omega))⟩
set_option maxRecDepth 100000 in
set_option maxHeartbeats 4000000 in
theorem margins_b (a b c : Int) (w : World) (ha : 0 ≤ a) (ha1 : a ≤ 65535) (hb : 0 ≤ b) (hb1 : b ≤ 65535) (hc : 0 ≤ c) (hc1 : c ≤ 65535) (m : Int) (hm : m = 2 * (1 + a) + (1 + b) + (1 + c)) (hx1 : m ≤ 4294967295)  :
    Calls Try.prog 6 #[.agg #[.int .u16 a, .int .u16 b, .int .u16 c], .int .u32 m] w fun e w' => e = .returned (.bool true) ∧ Below w.heap.size w w' := by
  have b0 := (Below.refl w.heap.size w).alloc (Nat.le_refl _) (.cells #[.int .u16 a, .int .u16 b, .int .u16 c] 46)
  have Hm := Lib.hid hm
  have hm0 : 0 ≤ m := by omega
  have hm1 : m ≤ 1099511627776 := by omega
  have HD : Hid (deadl (m) m = 0) := by
    show deadl _ _ = _
    unfold deadl; rw [if_neg (by omega)]; omega
  clear hm
  go_enter Try.func6, Try.ntmps6
  go_wp2_with fail
  go_quiet (fail)
  go_wp2_with fail
  refine (mar_v ⟨⟨by omega, by omega⟩, ⟨by omega, by omega⟩, by omega, by omega⟩ (m := m) (by rw [Hm.out]) _).mono ?_
  rintro e w1 ⟨rfl, hb1'⟩
  go_wp2_with fail
  refine (mar_v ⟨⟨by omega, by omega⟩, ⟨by omega, by omega⟩, by omega, by omega⟩ (m := m + 2) (by rw [Hm.out]; omega) _).mono ?_
  rintro e w2 ⟨rfl, hb2'⟩
  go_wp2_with fail
  refine (mar_v ⟨⟨by omega, by omega⟩, ⟨by omega, by omega⟩, by omega, by omega⟩ (m := m + 1) (by rw [Hm.out]; omega) _).mono ?_
  rintro e w3 ⟨rfl, hb3'⟩
  go_wp2_with fail
  refine (mar_v ⟨⟨by omega, by omega⟩, ⟨by omega, by omega⟩, by omega, by omega⟩ (m := m + 1) (by rw [Hm.out]; omega) _).mono ?_
  rintro e w4 ⟨rfl, hb4'⟩
  go_wp2_with fail
  refine (deadT _ (by omega) (by omega) hm0 hm1 (0) HD.out).mono ?_
  rintro e w5 ⟨rfl, rfl⟩
  go_wp2_with fail
  refine (lateT _ (by omega) (by omega) hm0 hm1 true (decide_eq_true (by rw [HD.out]; omega))).mono ?_
  rintro e w6 ⟨rfl, rfl⟩
  skip
  go_wp2_with fail
  refine (fixed_any _).mono ?_
  rintro e w7 ⟨rfl, hb7⟩
  go_wp2_with fail
  go_ret
  have s1 := hb1'.size
  have s2 := hb2'.size
  have s3 := hb3'.size
  have s4 := hb4'.size
  simp at s1
  exact ⟨rfl, (((((below_drewN b0 _).trans (hb1'.mono (by simp))).trans (hb2'.mono (by omega))).trans (hb3'.mono (by omega))).trans (hb4'.mono (by omega))).trans (hb7.mono (by omega))⟩
set_option maxRecDepth 100000 in
set_option maxHeartbeats 4000000 in
theorem margins_c (a b c : Int) (w : World) (ha : 0 ≤ a) (ha1 : a ≤ 65535) (hb : 0 ≤ b) (hb1 : b ≤ 65535) (hc : 0 ≤ c) (hc1 : c ≤ 65535) (m : Int) (hm : m = 2 * (1 + a) + (1 + b) + (1 + c)) (d : Int) (hd : 1 ≤ d) (hdz : (d == 0) = false) (hx1 : d + m ≤ 4294967295)  :
    Calls Try.prog 6 #[.agg #[.int .u16 a, .int .u16 b, .int .u16 c], .int .u32 (d + m)] w fun e w' => e = .returned (.bool true) ∧ Below w.heap.size w w' := by
  have b0 := (Below.refl w.heap.size w).alloc (Nat.le_refl _) (.cells #[.int .u16 a, .int .u16 b, .int .u16 c] 46)
  have Hm := Lib.hid hm
  have hm0 : 0 ≤ m := by omega
  have hm1 : m ≤ 1099511627776 := by omega
  have HD : Hid (deadl ((d + m)) m = d) := by
    show deadl _ _ = _
    unfold deadl; rw [if_neg (by omega)]; omega
  clear hm
  go_enter Try.func6, Try.ntmps6
  go_wp2_with fail
  go_quiet (fail)
  go_wp2_with fail
  refine (mar_v ⟨⟨by omega, by omega⟩, ⟨by omega, by omega⟩, by omega, by omega⟩ (m := m) (by rw [Hm.out]) _).mono ?_
  rintro e w1 ⟨rfl, hb1'⟩
  go_wp2_with fail
  refine (mar_v ⟨⟨by omega, by omega⟩, ⟨by omega, by omega⟩, by omega, by omega⟩ (m := m + 2) (by rw [Hm.out]; omega) _).mono ?_
  rintro e w2 ⟨rfl, hb2'⟩
  go_wp2_with fail
  refine (mar_v ⟨⟨by omega, by omega⟩, ⟨by omega, by omega⟩, by omega, by omega⟩ (m := m + 1) (by rw [Hm.out]; omega) _).mono ?_
  rintro e w3 ⟨rfl, hb3'⟩
  go_wp2_with fail
  refine (mar_v ⟨⟨by omega, by omega⟩, ⟨by omega, by omega⟩, by omega, by omega⟩ (m := m + 1) (by rw [Hm.out]; omega) _).mono ?_
  rintro e w4 ⟨rfl, hb4'⟩
  go_wp2_with fail
  refine (deadT _ (by omega) (by omega) hm0 hm1 (d) HD.out).mono ?_
  rintro e w5 ⟨rfl, rfl⟩
  go_wp2_with fail
  refine (lateT _ (by omega) (by omega) hm0 hm1 true (decide_eq_true (by rw [HD.out]; omega))).mono ?_
  rintro e w6 ⟨rfl, rfl⟩
  go_wp2_with fail
  refine (lateT _ (by omega) (by omega) hm0 hm1 false (decide_eq_false (by rw [HD.out]; omega))).mono ?_
  rintro e w6 ⟨rfl, rfl⟩
  go_wp2_with fail
  refine (fixed_any _).mono ?_
  rintro e w7 ⟨rfl, hb7⟩
  go_wp2_with fail
  go_ret
  have s1 := hb1'.size
  have s2 := hb2'.size
  have s3 := hb3'.size
  have s4 := hb4'.size
  simp at s1
  exact ⟨rfl, (((((below_drewN b0 _).trans (hb1'.mono (by simp))).trans (hb2'.mono (by omega))).trans (hb3'.mono (by omega))).trans (hb4'.mono (by omega))).trans (hb7.mono (by omega))⟩
theorem margins_any (a b c x : Int) (w : World) (ha : 0 ≤ a) (ha1 : a ≤ 65535) (hb : 0 ≤ b) (hb1 : b ≤ 65535) (hc : 0 ≤ c) (hc1 : c ≤ 65535) (hx : 0 ≤ x) (hx1 : x ≤ 4294967295) :
    Calls Try.prog 6 #[.agg #[.int .u16 a, .int .u16 b, .int .u16 c], .int .u32 x] w fun e w' => e = .returned (.bool true) ∧ Below w.heap.size w w' := by
  by_cases h1 : x < 2 * (1 + a) + (1 + b) + (1 + c)
  · exact margins_a a b c w ha ha1 hb hb1 hc hc1 _ rfl x h1 hx hx1
  · by_cases h2 : x = 2 * (1 + a) + (1 + b) + (1 + c)
    · subst h2; exact margins_b a b c w ha ha1 hb hb1 hc hc1 _ rfl hx1
    · have h3 := margins_c a b c w ha ha1 hb hb1 hc hc1 _ rfl (x - (2 * (1 + a) + (1 + b) + (1 + c))) (by omega) (beq_eq_false_iff_ne.2 (by omega)) (by omega)
      rwa [show x - (2 * (1 + a) + (1 + b) + (1 + c)) + (2 * (1 + a) + (1 + b) + (1 + c)) = x by omega] at h3
end Go.Proofs.Ytnkbdkpeoaobeaa
