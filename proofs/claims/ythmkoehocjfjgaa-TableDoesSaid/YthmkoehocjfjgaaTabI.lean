/- the reference's Less and Same; the law's rows. -/
import Derived.Test.YthmkoehocjfjgaaTabH
import Derived.Test.YthmkoehocjfjgaaAnyB

import Derived.Deep.RegionHeld3
import Derived.Laws.StructEq
namespace Go.Proofs.Ythmkoehocjfjgaa
open Go.RowKit Go.Maps Go.WideMaps

set_option maxHeartbeats 1000000 in
theorem rLess (s t : ByteArray) (w : World) (hs : s.size ≤ maxLen) (ht : t.size ≤ maxLen) :
    Calls Try.prog 23 #[.string s, .string t] w fun e w' => e = .returned (.bool (ltB s.data.toList t.data.toList)) ∧ ∃ n, w' = w.drewN n := by
  have _u : True := (fun _ _ => trivial) hs ht
  unfold maxLen at hs ht
  go_enter Try.func23, Try.ntmps23
  go_wp2
  go_loopw [5] (fun i wr => ∃ k : Nat, k ≤ s.size ∧ k ≤ t.size ∧ i = .int .i64 k ∧ s.data.toList.take k = t.data.toList.take k ∧ ∃ n, wr = w.drewN n) (fun i _ => s.size - (intOf i).toNat)
  case atStart => exact ⟨0, Nat.zero_le _, Nat.zero_le _, rfl, rfl, 0, rfl⟩
  case round =>
    obtain ⟨k, hk, hk', rfl, he, n, rfl⟩ := hrel
    have HE := Lib.hid he
    clear he
    by_cases h1 : k < s.size
    · by_cases h2 : k < t.size
      · go_wp2_with fail
        go_quiet (fail)
        go_wp2_with fail
        · go_quiet (fail)
          go_wp2_with fail
          go_ret
          exact ⟨ret_bool (less_at h1 h2 HE.out (by assumption)).symm, _, by rw [World.drewN_drewN, World.drewN_drewN]⟩
        · go_roundw
          case rel => exact ⟨k + 1, by omega, by omega, by go_num, take_more h1 h2 HE.out (by assumption), _, rfl⟩
          case measure => simp [intOf]; omega
      · go_wp2_with fail
        go_ret
        exact ⟨ret_bool (less_end HE.out (.inr ⟨by omega, hk⟩)).symm, _, rfl⟩
    · go_wp2_with fail
      go_ret
      exact ⟨ret_bool (less_end HE.out (.inl ⟨by omega, hk'⟩)).symm, _, rfl⟩
def rowC (p : KV) : List Value := [.string p.1, .string p.2]
theorem rowC_len (p : KV) : (rowC p).length = 2 := rfl
theorem rowC_one (p : KV) : ∀ u ∈ rowC p, u.oneCell' = true := by intro u hu; simp [rowC] at hu; rcases hu with rfl | rfl <;> rfl
theorem str_neb {x y : ByteArray} (h : x ≠ y) : (x.toList == y.toList) = false := by
  rw [beq_eq_false_iff_ne]
  intro e
  rw [Lib.toList_data, Lib.toList_data] at e
  exact h (ByteArray.ext (Array.ext' e))
theorem rowEqIn (W : World) (d : Nat) (a b c e : ByteArray) : (Op.equalIn (d + 2) 48 (.agg #[.string a, .string b]) (.agg #[.string c, .string e])).run Try.prog W = .ok ((a.toList == c.toList) && (b.toList == e.toList)) W := by
  rw [run_equalIn_struct W (d + 1) 48 _ _ (by kernel_rfl) (by kernel_rfl)]
  simp [Program.fieldsOf, Try.underlying48, Op.eqFields, go_sem]
  by_cases h1 : a.toList = c.toList <;> by_cases h2 : b.toList = e.toList <;> simp [h1, h2]
theorem rowNeq (W : World) (a b c e : ByteArray) : (binOp .neq 48 (.agg #[.string a, .string b]) (.agg #[.string c, .string e])).run Try.prog W = .ok (.bool (!((a.toList == c.toList) && (b.toList == e.toList)))) W := by
  rw [run_neq_struct, rowEqIn W 9998]; rfl
theorem rowGuard (W : World) (x y : Operand) (xs ys : Array Value) : (eqGuard .neq 48 x y (.agg xs) (.agg ys)).run Try.prog W = .ok () W :=
  run_eqGuard_agg W .neq 48 x y xs ys (by kernel_rfl)
def SameTo (w : World) (b : Bool) (e : Ending) (w' : World) : Prop := e = .returned (.bool b) ∧ ∃ n, w' = w.drewN n
set_option maxHeartbeats 1000000 in
theorem same_ne (A B : Option Addr) (l r : List KV) (c d : Nat) (w : World) (hlr : l.length ≠ r.length) (hl : l.length ≤ 4096) (hr : r.length ≤ 4096) :
    Calls Try.prog 17 #[.slice A l.length c, .slice B r.length d] w (SameTo w (decide (l = r))) := by
  have _u : True := (fun _ _ => trivial) hl hr
  have hd : decide (l = r) = false := decide_eq_false (fun e => hlr (by rw [e]))
  rw [hd]
  have h1 : ((l.length : Int) != (r.length : Int)) = true := by rw [bne_iff_ne]; omega
  clear hd
  go_enter Try.func17, Try.ntmps17
  go_wp2
  go_ret
  exact ⟨rfl, 0, rfl⟩
set_option maxRecDepth 100000 in
set_option maxHeartbeats 1000000 in
theorem same_eq (A B : Option Addr) (l r : List KV) (c d : Nat) (w : World) (hlr : l.length = r.length) (hl : l.length ≤ 4096) (hsl : Sl w w.heap.size 2 rowC A l) (hsr : Sl w w.heap.size 2 rowC B r) :
    Calls Try.prog 17 #[.slice A l.length c, .slice B l.length d] w (SameTo w (decide (l = r))) := by
  have HLR := Lib.hid hlr
  clear hlr
  have h1 : ((l.length : Int) != (l.length : Int)) = false := by simp
  go_enter Try.func17, Try.ntmps17
  go_wp2
  go_loopw [5] (fun i wr => ∃ k : Nat, k ≤ l.length ∧ i = .int .i64 k ∧ l.take k = r.take k ∧ ∃ n, wr = w.drewN n) (fun i _ => l.length - (intOf i).toNat)
  case atStart => exact ⟨0, Nat.zero_le _, rfl, rfl, 0, rfl⟩
  case round =>
    obtain ⟨k, hk, rfl, he, n, rfl⟩ := hrel
    have HE := Lib.hid he
    clear he
    by_cases h2 : k < l.length
    · have hkr : k < r.length := by have := HLR.out; omega
      obtain ⟨b, off, rfl, hbB, hc⟩ := hsl.at_ h2
      obtain ⟨b', off', rfl, hbB', hc'⟩ := hsr.at_ hkr
      have HT := Lib.hid (List.take_succ_eq_append_getElem h2)
      have HT' := Lib.hid (List.take_succ_eq_append_getElem hkr)
      generalize hx : l[k] = x at hc HT
      generalize hx' : r[k] = x' at hc' HT'
      have Hx := Lib.hid hx
      have Hx' := Lib.hid hx'
      clear hx hx'
      obtain ⟨x0, x1⟩ := x
      obtain ⟨z0, z1⟩ := x'
      have hc0 : w.cell? ⟨b, off + k * 2, none⟩ = some (.string x0) := hc 0 _ rfl
      have hc1 : w.cell? ⟨b, off + k * 2 + 1, none⟩ = some (.string x1) := hc 1 _ rfl
      have hd0 : w.cell? ⟨b', off' + k * 2, none⟩ = some (.string z0) := hc' 0 _ rfl
      have hd1 : w.cell? ⟨b', off' + k * 2 + 1, none⟩ = some (.string z1) := hc' 1 _ rfl
      clear hc hc'
      have kn := rowNeq
      have kg := rowGuard
      by_cases hxx : x0 = z0 ∧ x1 = z1
      · obtain ⟨rfl, rfl⟩ := hxx
        have hq0 : (x0.toList == x0.toList) = true := by simp
        have hq1 : (x1.toList == x1.toList) = true := by simp
        go_wp2_with fail
        go_quiet (fail)
        go_wp2_with fail
        go_roundw
        case rel => exact ⟨k + 1, by omega, by go_num, by rw [HT.out, HT'.out, HE.out], _, rfl⟩
        case measure => simp [intOf]; omega
      · have hn : decide (l = r) = false := decide_eq_false (fun e => hxx (by
          have := Hx.out
          simp only [e] at this
          rw [Hx'.out] at this
          injection this with h1 h2
          exact ⟨h1.symm, h2.symm⟩))
        have HN := Lib.hid hn
        have hq : ((x0.toList == z0.toList) && (x1.toList == z1.toList)) = false := by
          rcases Classical.not_and_iff_not_or_not.1 hxx with h | h
          · rw [str_neb h]; rfl
          · rw [str_neb h, Bool.and_false]
        clear hn hxx
        have kn1 := fun W => (kn W x0 x1 z0 z1).trans (by rw [hq]; rfl : _ = Result.ok (.bool true) W)
        clear kn hq
        go_wp2_with fail
        go_quiet (fail)
        go_wp2_with fail
        go_ret
        exact ⟨ret_bool HN.out.symm, _, by first | rfl | exact World.drewN_drewN _ _ _⟩
    · go_wp2_with fail
      go_ret
      refine ⟨ret_bool ?_, n, rfl⟩
      obtain rfl : k = l.length := by omega
      have := HE.out
      rw [List.take_length, HLR.out, List.take_length] at this
      simp [this]
end Go.Proofs.Ythmkoehocjfjgaa
