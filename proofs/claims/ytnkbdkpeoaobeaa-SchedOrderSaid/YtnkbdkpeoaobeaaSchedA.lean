/- Walks of the plain functions of sched and its reference: Margin, Deadline, Late, Holds. -/
import Derived.Test.YtnkbdkpeoaobeaaBase
import Derived.Test.YtnkbdkpeoaobeaaPlain20

namespace Go.Proofs.Ytnkbdkpeoaobeaa
open Go.RowKit

set_option maxHeartbeats 400000 in
theorem sDeadline (x m : Int) (w : World) (hx : 0 ≤ x) (hx1 : x ≤ 1099511627776) (hm : 0 ≤ m) (hm1 : m ≤ 1099511627776) :
    Calls Try.prog 14 #[.int .i64 x, .int .i64 m] w fun e w' => e = .returned (.int .i64 (deadl x m)) ∧ w = w' := by
  go_enter Try.func14, Try.ntmps14
  go_wp2
  all_goals go_ret
  all_goals exact ⟨ret_int (by unfold deadl; split <;> omega), rfl⟩

set_option maxHeartbeats 400000 in
theorem rDeadline (x m : Int) (w : World) (hx : 0 ≤ x) (hx1 : x ≤ 1099511627776) (hm : 0 ≤ m) (hm1 : m ≤ 1099511627776) :
    Calls Try.prog 13 #[.int .i64 x, .int .i64 m] w fun e w' => e = .returned (.int .i64 (deadl x m)) ∧ w = w' := by
  go_enter Try.func13, Try.ntmps13
  go_wp2
  all_goals go_ret
  all_goals exact ⟨ret_int (by unfold deadl; split <;> omega), rfl⟩

set_option maxHeartbeats 400000 in
theorem sLate (h x m : Int) (w : World) (hx : 0 ≤ x) (hx1 : x ≤ 1099511627776) (hm : 0 ≤ m) (hm1 : m ≤ 1099511627776) :
    Calls Try.prog 15 #[.int .i64 h, .int .i64 x, .int .i64 m] w fun e w' => e = .returned (.bool (decide (deadl x m ≤ h))) ∧ w = w' := by
  go_enter Try.func15, Try.ntmps15
  go_wp2_with (go_at_call 14; refine (sDeadline x m _ hx hx1 hm hm1).mono ?_; rintro e w' ⟨rfl, rfl⟩)
  go_ret
  exact ⟨rfl, rfl⟩

set_option maxHeartbeats 400000 in
theorem sHolds (a b c d x : Int) (w : World) (ha : 0 ≤ a) (ha1 : a ≤ 1099511627776) (hb : 0 ≤ b) (hb1 : b ≤ 1099511627776) (hc : 0 ≤ c) (hc1 : c ≤ 1099511627776) (hd : 0 ≤ d) (hd1 : d ≤ 1099511627776)  :
    Calls Try.prog 20 #[.int .i64 a, .int .i64 b, .int .i64 c, .int .i64 d, .int .i64 x] w fun e w' => e = .returned (.bool (decide (a ≤ b ∧ b ≤ c ∧ c + d - 1 < x))) ∧ w = w' := by
  go_enter Try.func20, Try.ntmps20
  go_wp2
  all_goals go_ret
  all_goals exact ⟨ret_bool (by apply Bool.eq_iff_iff.2; simp <;> omega), rfl⟩

set_option maxHeartbeats 400000 in
theorem rMargin (a b c : Int) (w : World) :
    Calls Try.prog 10 #[.int .i64 a, .int .i64 b, .int .i64 c] w fun e w' => e = .returned (.tuple #[.int .i64 (marV a b c), .int .i64 (marE a b c)]) ∧ w = w' := by
  by_cases h : marOk a b c
  · have hV : marV a b c = 2 * a + b + c := if_pos h
    have hE : marE a b c = 0 := if_pos h
    rw [hV, hE]
    obtain ⟨⟨h1, h2⟩, ⟨h3, h4⟩, h5, h6⟩ := h
    clear hV hE
    go_enter Try.func10, Try.ntmps10
    go_wp2
    all_goals go_ret2
    all_goals exact ⟨ret_ii (by omega) rfl, rfl⟩
  · have hV : marV a b c = 0 := if_neg h
    have hE : marE a b c = 1 := if_neg h
    rw [hV, hE]
    clear hV hE
    have H := Lib.hid h
    clear h
    go_enter Try.func10, Try.ntmps10
    go_wp2
    all_goals first | (exfalso; exact H.out ⟨⟨by omega, by omega⟩, ⟨by omega, by omega⟩, by omega, by omega⟩) | (go_ret2; exact ⟨rfl, rfl⟩)

/- the closure of odd; the search -/
set_option maxHeartbeats 400000 in
theorem odd1 (n : Int) (w : World) : Calls Try.prog 28 #[.int .i64 n] w fun e w' => e = .returned (.bool (oddI n)) ∧ w = w' := by
  go_enter Try.func28, Try.ntmps28
  go_wp2
  all_goals go_ret
  all_goals exact ⟨ret_bool (by unfold oddI; apply Bool.eq_iff_iff.2; simp <;> omega), rfl⟩
def intC (n : Int) : List Value := [.int .i64 n]
def oddAt (l : List Int) : Int := if l.any oddI then (l.findIdx oddI : Nat) else -1
set_option maxHeartbeats 400000 in
theorem oddIndex (A : Option Addr) (l : List Int) (c : Nat) (w : World) (hl : l.length ≤ 4096) (hs : Sl w w.heap.size 1 intC A l) :
    Calls Try.prog 33 #[.slice A l.length c, .func (.func 28) #[] #[]] w fun e w' => e = .returned (.int .i64 (oddAt l)) ∧ w = w' := by
  go_enter Try.func33, Try.ntmps33
  go_wp2
  go_loop [5, 8] (fun _ i => ∃ k : Nat, k ≤ l.length ∧ i = .int .i64 k ∧ (l.take k).any oddI = false) (fun _ i => l.length - (intOf i).toNat)
  case atStart => exact ⟨0, Nat.zero_le _, rfl, rfl⟩
  case round =>
    obtain ⟨k, hk, rfl, hno⟩ := hrel
    have Hno := Lib.hid hno
    clear hno
    by_cases hlt : k < l.length
    · obtain ⟨b, off, rfl, hbB, hc⟩ := hs.at_ hlt
      have hc0 : w.cell? ⟨b, off + k, none⟩ = some (.int .i64 l[k]) := by have := hc 0 _ rfl; rwa [Nat.mul_one] at this
      clear hc
      have e1 := Lib.hid (List.take_succ_eq_append_getElem hlt)
      generalize hx : l[k] = x at hc0 e1
      have Hx := Lib.hid hx
      clear hx
      by_cases ho : oddI x = true
      · go_wp2_with (go_at_call 28; refine (odd1 x _).mono ?_; rintro e w' ⟨rfl, rfl⟩)
        go_ret
        refine ⟨ret_int ?_, rfl⟩
        have ha : l.any oddI = true := List.any_eq_true.2 ⟨x, by rw [← Hx.out]; exact List.getElem_mem hlt, ho⟩
        rw [oddAt, if_pos ha]
        have : l.findIdx oddI = k := by
          rw [List.findIdx_eq hlt]
          refine ⟨by rw [Hx.out]; exact ho, fun j hj => ?_⟩
          have := List.any_eq_false.1 Hno.out (l[j]'(by omega)) (by rw [List.mem_take_iff_getElem]; exact ⟨j, by omega, rfl⟩)
          simpa using this
        rw [this]
      · have ho' : oddI x = false := by simpa using ho
        clear ho
        go_wp2_with (go_at_call 28; refine (odd1 x _).mono ?_; rintro e w' ⟨rfl, rfl⟩)
        go_round
        case rel => exact ⟨k + 1, by omega, by go_num, by rw [e1.out, List.any_append, Hno.out]; simp [ho']⟩
        case measure => simp [intOf]; omega
    · go_wp2
      go_ret
      refine ⟨ret_int ?_, rfl⟩
      obtain rfl : k = l.length := by omega
      have := Hno.out
      rw [List.take_length] at this
      rw [oddAt, this]; rfl

set_option maxHeartbeats 400000 in
theorem oddHas (A : Option Addr) (l : List Int) (c : Nat) (w : World) (hl : l.length ≤ 4096) (hs : Sl w w.heap.size 1 intC A l) :
    Calls Try.prog 27 #[.slice A l.length c, .func (.func 28) #[] #[]] w fun e w' => e = .returned (.bool (l.any oddI)) ∧ w = w' := by
  have h := oddIndex A l c w hl hs
  have ha : decide (0 ≤ oddAt l) = l.any oddI := by
    unfold oddAt; split
    · next h => rw [h]; simp
    · next h => simp only [Bool.not_eq_true] at h; rw [h]; rfl
  generalize oddAt l = r at h ha
  generalize l.any oddI = q at ha
  subst ha
  have H := Lib.hid h
  clear h hs
  go_enter Try.func27, Try.ntmps27
  go_wp2_with (go_at_call 33; refine H.out.mono ?_; rintro e w' ⟨rfl, rfl⟩)
  go_ret
  exact ⟨rfl, rfl⟩

set_option maxHeartbeats 400000 in
theorem sOdd (A : Option Addr) (l : List Int) (c : Nat) (w : World) (hl : l.length ≤ 4096) (hs : Sl w w.heap.size 1 intC A l) :
    Calls Try.prog 21 #[.slice A l.length c] w fun e w' => e = .returned (.bool (l.any oddI)) ∧ w = w' := by
  have h := oddHas A l c w hl hs
  generalize l.any oddI = q at h
  have H := Lib.hid h
  clear h hs
  go_enter Try.func21, Try.ntmps21
  go_wp2_with (go_at_call 27; refine H.out.mono ?_; rintro e w' ⟨rfl, rfl⟩)
  go_ret
  exact ⟨rfl, rfl⟩

set_option maxHeartbeats 400000 in
theorem sMargin (a b c : Int) (w : World) :
    Calls Try.prog 9 #[.int .i64 a, .int .i64 b, .int .i64 c] w fun e w' => e = .returned (.tuple #[.int .i64 (marV a b c), .int .i64 (marE a b c)]) ∧ Below w.heap.size w w' := by
  have hs : Sl (w.alloc (.cells #[.int .i64 a, .int .i64 b, .int .i64 c] 3)) (w.alloc (.cells #[.int .i64 a, .int .i64 b, .int .i64 c] 3)).heap.size 1 intC (some ⟨w.heap.size, 0, none⟩) [a, b, c] := by
    intro _
    refine ⟨_, _, rfl, by simp, fun i x hx j u hu => ?_⟩
    rw [World.cell?_alloc_at _ _ _ _ rfl]
    match i, j, hx, hu with
    | 0, 0, hx, hu => simp at hx; subst hx; simpa [intC] using hu
    | 1, 0, hx, hu => simp at hx; subst hx; simpa [intC] using hu
    | 2, 0, hx, hu => simp at hx; subst hx; simpa [intC] using hu
    | i + 3, _, hx, hu => simp at hx
    | _, j + 1, hx, hu => simp [intC] at hu
  have h := sOdd _ [a, b, c] 3 _ (by simp) hs
  have hq : [a, b, c].any oddI = decide (¬ marOk a b c) := by
    rw [Bool.eq_iff_iff]; simp [oddI, marOk]; omega
  rw [hq] at h
  clear hq hs
  have H := Lib.hid h
  clear h
  by_cases hm : marOk a b c
  · have hV : marV a b c = 2 * a + b + c := if_pos hm
    have hE : marE a b c = 0 := if_pos hm
    have hd : decide (¬ marOk a b c) = false := by simpa using hm
    rw [hd] at H
    rw [hV, hE]
    obtain ⟨⟨h1, h2⟩, ⟨h3, h4⟩, h5, h6⟩ := hm
    clear hV hE hd
    go_enter Try.func9, Try.ntmps9
    go_wp2_with (go_at_call 21; refine H.out.mono ?_; rintro e w' ⟨rfl, rfl⟩)
    go_ret2
    exact ⟨rfl, (Below.refl _ _).alloc (Nat.le_refl _) _⟩
  · have hV : marV a b c = 0 := if_neg hm
    have hE : marE a b c = 1 := if_neg hm
    have hd : decide (¬ marOk a b c) = true := by simpa using hm
    rw [hd] at H
    rw [hV, hE]
    clear hV hE hd hm
    go_enter Try.func9, Try.ntmps9
    go_wp2_with (go_at_call 21; refine H.out.mono ?_; rintro e w' ⟨rfl, rfl⟩)
    go_ret2
    exact ⟨rfl, (Below.refl _ _).alloc (Nat.le_refl _) _⟩
end Go.Proofs.Ytnkbdkpeoaobeaa
