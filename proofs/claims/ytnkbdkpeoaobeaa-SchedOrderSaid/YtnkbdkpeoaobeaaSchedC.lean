/- sched.Next and its reference. -/
import Derived.Test.YtnkbdkpeoaobeaaBase
import Derived.Test.YtnkbdkpeoaobeaaPlain20
import Derived.Test.YtnkbdkpeoaobeaaSchedA
import Derived.Test.YtnkbdkpeoaobeaaSchedB

namespace Go.Proofs.Ytnkbdkpeoaobeaa
open Go.RowKit

set_option maxHeartbeats 1000000 in
theorem rNext (A : Option Addr) (l : List It) (c : Nat) (m : Int) (w : World) (hl : l.length ≤ 4096) (hok : ∀ x ∈ l, x.ok) (hm : 0 ≤ m) (hm1 : m ≤ 1099511627776) (hs : Sl w w.heap.size 4 It.cells A l) :
    Calls Try.prog 12 #[.slice A l.length c, .int .i64 m] w fun e w' => e = .returned (.tuple #[.int .i64 (nextTo m l).1, .bool (nextTo m l).2]) ∧ w = w' := by
  go_enter Try.func12, Try.ntmps12
  go_wp2
  go_loop [6, 7, 8, 9] (fun a b i _ => ∃ k : Nat, k ≤ l.length ∧ i = .int .i64 k ∧ a = .int .i64 (nextTo m (l.take k)).1 ∧ b = .bool (nextTo m (l.take k)).2) (fun _ _ i _ => l.length - (intOf i).toNat)
  case atStart => exact ⟨0, Nat.zero_le _, rfl, rfl, rfl⟩
  case round =>
    obtain ⟨k, hk, rfl, rfl, rfl⟩ := hrel
    by_cases hlt : k < l.length
    · obtain ⟨b, off, rfl, hbB, hc⟩ := hs.at_ hlt
      have HS := Lib.hid (nextTo_snoc m l k hlt)
      have hx0 := hok _ (List.getElem_mem hlt)
      generalize hx : l[k] = x at hc HS hx0
      clear hx
      have hc1 : w.cell? ⟨b, off + k * 4 + 1, none⟩ = some (.int .i64 x.ex) := hc 1 _ rfl
      have hc2 : w.cell? ⟨b, off + k * 4 + 2, none⟩ = some (.int .u64 x.wo) := hc 2 _ rfl
      have hc3 : w.cell? ⟨b, off + k * 4 + 3, none⟩ = some (.bool x.cl) := hc 3 _ rfl
      clear hc
      obtain ⟨o1, o2, o3, o4⟩ := hx0
      generalize nextTo m (l.take k) = q at HS
      obtain ⟨n, is⟩ := q
      have hd := deadl_bd (m := m) o1 hm
      generalize hdd : deadl x.ex m = d at hd
      have Hd := Lib.hid hdd
      clear hdd
      by_cases hw : 10 < x.wo
      · by_cases hcl : x.cl = true
        all_goals
          (try simp only [Bool.not_eq_true] at hcl)
          have HH : Hid (headI m x = if x.cl then 0 else d) := by show _ = _; rw [← Hd.out]; rfl
          rw [hcl] at hc3 HH
          clear hcl
          cases is
          all_goals
            have HN := Lib.hid (HS.out.trans ((if_pos hw).trans (by rw [HH.out])))
            clear HS HH
            go_wp2_with (go_at_call 13; refine (rDeadline x.ex m _ o1 (by omega) hm hm1).mono ?_; rw [Hd.out]; rintro e w' ⟨rfl, rfl⟩)
            all_goals
              go_round
              case rel => exact ⟨k + 1, by omega, by go_num, congrArg (Value.int .i64) (by rw [HN.out]; simp <;> split <;> first | rfl | omega | (simp; done)), congrArg Value.bool (by rw [HN.out]; simp <;> split <;> rfl)⟩
              case measure => simp [intOf]; omega
      · go_wp2
        go_round
        case rel => exact ⟨k + 1, by omega, by go_num, by rw [HS.out, if_neg hw], by rw [HS.out, if_neg hw]⟩
        case measure => simp [intOf]; omega
    · go_wp2
      go_ret2
      obtain rfl : k = l.length := by omega
      rw [List.take_length]
      exact ⟨rfl, rfl⟩
end Go.Proofs.Ytnkbdkpeoaobeaa
