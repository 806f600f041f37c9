/- sched.worth: those that are worth a claim. -/
import Derived.Test.YtnkbdkpeoaobeaaBase
import Derived.Test.YtnkbdkpeoaobeaaPlain20

namespace Go.Proofs.Ytnkbdkpeoaobeaa
open Go.RowKit
theorem info37 : (Try.prog.info? 37).map (fun i => (i.zero, i.size, i.bytes)) = some (some (.agg #[.string ByteArray.empty, .int .i64 0, .int .u64 0, .bool false]), 4, 40) := by kernel_rfl

set_option maxHeartbeats 400000 in
theorem worth_any (A : Option Addr) (l : List It) (c : Nat) (w : World) (hl : l.length ≤ 4096) (hs : Sl w w.heap.size 4 It.cells A l) :
    Calls Try.prog 22 #[.slice A l.length c] w fun e w' => ∃ v, e = .returned v ∧ w'.ownsRow w.heap.size 37 4 v (worthL l).length ((worthL l).flatMap It.cells) ∧ Below w.heap.size w w' := by
  obtain ⟨i0, hi, hz0, hz1, hz2⟩ := info_parts info37
  go_enter Try.func22, Try.ntmps22
  go_wp2
  go_loopw [3, 5, 8] (fun v b i wr => ∃ k : Nat, k ≤ l.length ∧ i = .int .i64 k ∧ wr.ownsRow w.heap.size 37 4 v (worthL (l.take k)).length ((worthL (l.take k)).flatMap It.cells) ∧ Below w.heap.size w wr) (fun _ _ i _ => l.length - (intOf i).toNat)
  case atStart => exact ⟨0, Nat.zero_le _, rfl, ⟨by simp [worthL], .inl ⟨rfl, by simp [worthL]⟩⟩, Below.refl _ _⟩
  case round =>
    obtain ⟨k, hk, rfl, hown, hb⟩ := hrel
    by_cases hlt : k < l.length
    · obtain ⟨b, off, rfl, hbB, hc⟩ := (hs.below hb).at_ hlt
      generalize hx : l[k] = x at hc
      have Hx := Lib.hid hx
      clear hx
      have hc0 : wr.cell? ⟨b, off + k * 4, none⟩ = some (.string x.ch) := hc 0 _ rfl
      have hc1 : wr.cell? ⟨b, off + k * 4 + 1, none⟩ = some (.int .i64 x.ex) := hc 1 _ rfl
      have hc2 : wr.cell? ⟨b, off + k * 4 + 2, none⟩ = some (.int .u64 x.wo) := hc 2 _ rfl
      have hc3 : wr.cell? ⟨b, off + k * 4 + 3, none⟩ = some (.bool x.cl) := hc 3 _ rfl
      clear hc
      have hB := hb.size
      have hwl := worth_len (l.take k)
      have htl : (l.take k).length = k := by simp; omega
      have HS := Lib.hid (worth_snoc l k hlt)
      generalize worthL (l.take k) = wk at hown hwl HS
      have Hhz := Lib.hid hz0
      clear hz0
      by_cases hw : 10 < x.wo
      · go_wp2_with (at_builtin; refine wpList_append_own _ rfl (.tmp 15) (.tmp 17) _ rfl w.heap.size 37 i0 _ 4 40 Try.underlying22 hi Hhz.out hz1 hz2 rfl (by decide) u3 wk.length (wk.flatMap It.cells) rfl ((hown.alloc _).alloc _) ⟨wr.heap.size + 1, 0, none⟩ 1 1 x.cells rfl rfl (news_alloc _ _ _ _ _ rfl (by simp)) x.cells_one (by simp only [maxLen]; omega) (by omega) (by simp; omega) ?_; intro v' w1 hown1 hg1 _)
        go_roundw
        case rel =>
          refine ⟨k + 1, by omega, by go_num, ?_, (((Below.refl _ _).trans hb).alloc hB _).alloc (by simp; omega) _ |>.grown hg1 (by simp; omega) (fun g hg => (hown.lt g hg).1)⟩
          rw [HS.out, Hx.out, if_pos hw]
          simpa using hown1
        case measure => simp [intOf]; omega
      · go_wp2
        go_roundw
        case rel =>
          refine ⟨k + 1, by omega, by go_num, ?_, hb.alloc hB _⟩
          rw [HS.out, Hx.out, if_neg hw]
          simpa using hown.alloc _
        case measure => simp [intOf]; omega
    · go_wp2
      go_ret
      obtain rfl : k = l.length := by omega
      rw [List.take_length] at hown
      exact ⟨_, rfl, hown, hb⟩
end Go.Proofs.Ytnkbdkpeoaobeaa
