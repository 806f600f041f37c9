/- the reference's Less; two lists of texts that are the same. -/
import Derived.Test.YtnkbdkpeoaobeaaBase
import Derived.Test.YtnkbdkpeoaobeaaPlain20d

namespace Go.Proofs.Ytnkbdkpeoaobeaa
open Go.RowKit

set_option maxHeartbeats 1000000 in
theorem rLess (s t : ByteArray) (w : World) (hs : s.size ≤ maxLen) (ht : t.size ≤ maxLen) :
    Calls Try.prog 26 #[.string s, .string t] w fun e w' => e = .returned (.bool (ltB s.data.toList t.data.toList)) ∧ ∃ n, w' = w.drewN n := by
  unfold maxLen at hs ht
  go_enter Try.func26, Try.ntmps26
  go_wp2
  go_loopw [5] (fun i wr => ∃ k : Nat, k ≤ s.size ∧ k ≤ t.size ∧ i = .int .i64 k ∧ s.data.toList.take k = t.data.toList.take k ∧ ∃ n, wr = w.drewN n) (fun i _ => s.size - (intOf i).toNat)
  case atStart => exact ⟨0, Nat.zero_le _, Nat.zero_le _, rfl, rfl, 0, rfl⟩
  case round =>
    obtain ⟨k, hk, hk', rfl, he, n, rfl⟩ := hrel
    have HE := Lib.hid he
    clear he
    by_cases h1 : k < s.size
    · by_cases h2 : k < t.size
      · go_wp2_with fail
        go_quiet (fail)
        go_wp2_with fail
        · go_quiet (fail)
          go_wp2_with fail
          go_ret
          exact ⟨ret_bool (less_at h1 h2 HE.out (by assumption)).symm, _, by rw [World.drewN_drewN, World.drewN_drewN]⟩
        · go_roundw
          case rel => exact ⟨k + 1, by omega, by omega, by go_num, take_more h1 h2 HE.out (by assumption), _, rfl⟩
          case measure => simp [intOf]; omega
      · go_wp2_with fail
        go_ret
        exact ⟨ret_bool (less_end HE.out (.inr ⟨by omega, hk⟩)).symm, _, rfl⟩
    · go_wp2_with fail
      go_ret
      exact ⟨ret_bool (less_end HE.out (.inl ⟨by omega, hk'⟩)).symm, _, rfl⟩

theorem rLess_v (s t : ByteArray) (b : Bool) (w : World) (hs : s.size ≤ maxLen) (ht : t.size ≤ maxLen) (hb : ltB s.data.toList t.data.toList = b) :
    Calls Try.prog 26 #[.string s, .string t] w fun e w' => e = .returned (.bool b) ∧ ∃ n, w' = w.drewN n := by
  have := rLess s t w hs ht; rwa [hb] at this
theorem str_neb {x y : ByteArray} (h : x ≠ y) : (x.toList == y.toList) = false := by
  rw [beq_eq_false_iff_ne]
  intro e
  rw [Lib.toList_data, Lib.toList_data] at e
  exact h (ByteArray.ext (Array.ext' e))
def SameTo (w : World) (b : Bool) (e : Ending) (w' : World) : Prop := e = .returned (.bool b) ∧ ∃ n, w' = w.drewN n
set_option maxHeartbeats 1000000 in
theorem same_ne (A B : Option Addr) (l r : List ByteArray) (c d : Nat) (w : World) (hlr : l.length ≠ r.length) (hl : l.length ≤ 4096) (hr : r.length ≤ 4096) :
    Calls Try.prog 16 #[.slice A l.length c, .slice B r.length d] w (SameTo w (decide (l = r))) := by
  have hd : decide (l = r) = false := decide_eq_false (fun e => hlr (by rw [e]))
  rw [hd]
  have h1 : ((l.length : Int) != (r.length : Int)) = true := by rw [bne_iff_ne]; omega
  clear hd
  go_enter Try.func16, Try.ntmps16
  go_wp2
  go_ret
  exact ⟨rfl, 0, rfl⟩
set_option maxHeartbeats 1000000 in
theorem same_eq (A B : Option Addr) (l r : List ByteArray) (c d : Nat) (w : World) (hlr : l.length = r.length) (hl : l.length ≤ 4096) (hsl : Sl w w.heap.size 1 strC A l) (hsr : Sl w w.heap.size 1 strC B r) :
    Calls Try.prog 16 #[.slice A l.length c, .slice B l.length d] w (SameTo w (decide (l = r))) := by
  have HLR := Lib.hid hlr
  clear hlr
  have h1 : ((l.length : Int) != (l.length : Int)) = false := by simp
  go_enter Try.func16, Try.ntmps16
  go_wp2
  go_loopw [5] (fun i wr => ∃ k : Nat, k ≤ l.length ∧ i = .int .i64 k ∧ l.take k = r.take k ∧ ∃ n, wr = w.drewN n) (fun i _ => l.length - (intOf i).toNat)
  case atStart => exact ⟨0, Nat.zero_le _, rfl, rfl, 0, rfl⟩
  case round =>
    obtain ⟨k, hk, rfl, he, n, rfl⟩ := hrel
    have HE := Lib.hid he
    clear he
    by_cases h2 : k < l.length
    · have hkr : k < r.length := by have := HLR.out; omega
      obtain ⟨b, off, rfl, hbB, hc⟩ := hsl.at_ h2
      obtain ⟨b', off', rfl, hbB', hc'⟩ := hsr.at_ hkr
      have HT := Lib.hid (List.take_succ_eq_append_getElem h2)
      have HT' := Lib.hid (List.take_succ_eq_append_getElem hkr)
      generalize hx : l[k] = x at hc HT
      generalize hx' : r[k] = x' at hc' HT'
      have Hx := Lib.hid hx
      have Hx' := Lib.hid hx'
      clear hx hx'
      have hc0 : w.cell? ⟨b, off + k, none⟩ = some (.string x) := by have := hc 0 _ rfl; rwa [Nat.mul_one] at this
      have hc0' : w.cell? ⟨b', off' + k, none⟩ = some (.string x') := by have := hc' 0 _ rfl; rwa [Nat.mul_one] at this
      clear hc hc'
      by_cases hxx : x = x'
      · subst hxx
        have hq : (x.toList != x.toList) = false := by simp
        go_wp2_with fail
        go_quiet (fail)
        go_wp2_with fail
        go_roundw
        case rel => exact ⟨k + 1, by omega, by go_num, by rw [HT.out, HT'.out, HE.out], _, rfl⟩
        case measure => simp [intOf]; omega
      · have hq : (x.toList == x'.toList) = false := str_neb hxx
        have hn : decide (l = r) = false := decide_eq_false (fun e => hxx (by rw [← Hx.out, ← Hx'.out]; simp only [e]))
        have HN := Lib.hid hn
        clear hn hxx
        go_wp2_with fail
        go_quiet (fail)
        go_wp2_with fail
        go_ret
        exact ⟨ret_bool HN.out.symm, _, World.drewN_drewN _ _ _⟩
    · go_wp2_with fail
      go_ret
      refine ⟨ret_bool ?_, n, rfl⟩
      obtain rfl : k = l.length := by omega
      have := HE.out
      rw [List.take_length, HLR.out, List.take_length] at this
      simp [this]
end Go.Proofs.Ytnkbdkpeoaobeaa
