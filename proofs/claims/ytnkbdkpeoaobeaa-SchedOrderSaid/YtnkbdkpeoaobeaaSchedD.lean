/- sched.Next. -/
import Derived.Test.YtnkbdkpeoaobeaaBase
import Derived.Test.YtnkbdkpeoaobeaaPlain20
import Derived.Test.YtnkbdkpeoaobeaaPlain20b
import Derived.Test.YtnkbdkpeoaobeaaSchedA
import Derived.Test.YtnkbdkpeoaobeaaSchedB
import Derived.Test.YtnkbdkpeoaobeaaShelf

namespace Go.Proofs.Ytnkbdkpeoaobeaa
open Go.RowKit
theorem own_form {w : World} {base size n : Nat} {e : TypeId} {v : Value} {xs : List Value} (h : w.ownsRow base e size v n xs) : ∃ A c, v = .slice A n c := by
  rcases h.2 with ⟨rfl, rfl⟩ | ⟨g, cap, cur, rfl, _⟩
  · exact ⟨none, 0, rfl⟩
  · exact ⟨_, _, rfl⟩
theorem info3 : (Try.prog.info? 3).map (fun i => (i.zero, i.size, i.bytes)) = some (some (.int .i64 0), 1, 8) := by kernel_rfl
theorem one_int {k : IntKind} (n : Int) : ∀ u ∈ [Value.int k n], u.oneCell' = true := by intro u hu; simp at hu; subst hu; rfl
theorem flat_int (l : List Int) : l.flatMap intC = l.map (Value.int .i64) := by induction l <;> simp_all [intC]

set_option maxHeartbeats 1000000 in
theorem sNext (A : Option Addr) (l : List It) (c : Nat) (m : Int) (w : World) (hl : l.length ≤ 4096) (hok : ∀ x ∈ l, x.ok) (hm : 0 ≤ m) (hm1 : m ≤ 1099511627776) (hs : Sl w w.heap.size 4 It.cells A l) :
    Calls Try.prog 11 #[.slice A l.length c, .int .i64 m] w fun e w' => e = .returned (.tuple #[.int .i64 (nextTo m l).1, .bool (nextTo m l).2]) ∧ Below w.heap.size w w' := by
  have hW := worth_any A l c w hl hs
  have hwl := worth_len l
  have hwok : ∀ x ∈ worthL l, x.ok := fun x hx => hok x (List.mem_filter.1 hx).1
  have HN := Lib.hid (nextTo_min m l)
  generalize worthL l = wl at hW hwl hwok HN
  obtain ⟨i0, hi, hz0, hz1, hz2⟩ := info_parts info3
  have Hz := Lib.hid hz0
  have HW := Lib.hid hW
  have HS := Lib.hid hs
  clear hz0 hW hs hok
  go_enter Try.func11, Try.ntmps11
  go_wp2_with fail
  refine HW.out.mono ?_
  rintro e w1 ⟨v, rfl, hown, hb1⟩
  obtain ⟨A1, c1, rfl⟩ := own_form hown
  have hs1 := Sl.of_own It.cells_len hown
  clear hown
  have hz1' := hb1.size
  go_wp2_with fail
  go_loopw [6, 8, 9, 13] (fun v _ _ i wr => ∃ k : Nat, k ≤ wl.length ∧ i = .int .i64 k ∧ wr.ownsRow w1.heap.size 3 1 v k ((wl.take k).map fun x => .int .i64 (headI m x)) ∧ Below w1.heap.size w1 wr) (fun _ _ _ i _ => wl.length - (intOf i).toNat)
  case atStart => exact ⟨0, Nat.zero_le _, rfl, ⟨by simp, .inl ⟨rfl, rfl⟩⟩, Below.refl _ _⟩
  case round =>
    obtain ⟨k, hk, rfl, hown, hb⟩ := hrel
    have hB := hb.size
    by_cases hlt : k < wl.length
    · obtain ⟨b, off, rfl, hbB, hc⟩ := (hs1.below hb).at_ hlt
      have HT := Lib.hid (List.take_succ_eq_append_getElem hlt)
      have hx0 := hwok _ (List.getElem_mem hlt)
      generalize hx : wl[k] = x at hc HT hx0
      clear hx
      have hc0 : wr.cell? ⟨b, off + k * 4, none⟩ = some (.string x.ch) := hc 0 _ rfl
      have hc1 : wr.cell? ⟨b, off + k * 4 + 1, none⟩ = some (.int .i64 x.ex) := hc 1 _ rfl
      have hc2 : wr.cell? ⟨b, off + k * 4 + 2, none⟩ = some (.int .u64 x.wo) := hc 2 _ rfl
      have hc3 : wr.cell? ⟨b, off + k * 4 + 3, none⟩ = some (.bool x.cl) := hc 3 _ rfl
      clear hc
      obtain ⟨o1, o2, o3, o4⟩ := hx0
      have HH : Hid (headI m x = if x.cl then 0 else deadl x.ex m) := Lib.hid rfl
      by_cases hcl : x.cl = true
      · rw [hcl] at hc3
        have HH : Hid (headI m x = 0) := by show headI m x = 0; rw [headI, hcl]; rfl
        clear hcl
        go_wp2_with (first
          | (go_at_call 14; refine (sDeadline x.ex m _ o1 (by omega) hm hm1).mono ?_; rintro e w' ⟨rfl, rfl⟩)
          | (at_builtin; refine wpList_append_own _ rfl (.tmp 23) (.tmp 25) _ rfl w1.heap.size 3 i0 _ 1 8 Try.underlying56 hi Hz.out hz1 hz2 rfl (by decide) u6 k _ rfl ((hown.alloc _).alloc _) ⟨wr.heap.size + 1, 0, none⟩ 1 1 [.int .i64 0] rfl rfl (news_alloc _ _ _ _ _ rfl (by simp)) (one_int _) (by simp only [maxLen]; omega) (by omega) (by simp; omega) ?_; intro v' w2 hown1 hg1 _))
        go_roundw
        case rel =>
          refine ⟨k + 1, by omega, by go_num, ?_, ((hb.alloc hB _).alloc (by simp; omega) _).grown hg1 (by simp; omega) (fun g hg => (hown.lt g hg).1)⟩
          rw [HT.out, List.map_append, List.map_singleton, HH.out]
          exact hown1
        case measure => simp [intOf]; omega
      · simp only [Bool.not_eq_true] at hcl
        rw [hcl] at hc3
        have HH : Hid (headI m x = deadl x.ex m) := by show headI m x = _; rw [headI, hcl]; rfl
        clear hcl
        go_wp2_with (first
          | (go_at_call 14; refine (sDeadline x.ex m _ o1 (by omega) hm hm1).mono ?_; rintro e w' ⟨rfl, rfl⟩)
          | (at_builtin; refine wpList_append_own _ rfl (.tmp 23) (.tmp 25) _ rfl w1.heap.size 3 i0 _ 1 8 Try.underlying56 hi Hz.out hz1 hz2 rfl (by decide) u6 k _ rfl ((hown.alloc _).alloc _) ⟨wr.heap.size + 1, 0, none⟩ 1 1 [.int .i64 (deadl x.ex m)] rfl rfl (news_alloc _ _ _ _ _ rfl (by simp)) (one_int _) (by simp only [maxLen]; omega) (by omega) (by simp; omega) ?_; intro v' w2 hown1 hg1 _))
        go_roundw
        case rel =>
          refine ⟨k + 1, by omega, by go_num, ?_, ((hb.alloc hB _).alloc (by simp; omega) _).grown hg1 (by simp; omega) (fun g hg => (hown.lt g hg).1)⟩
          rw [HT.out, List.map_append, List.map_singleton, HH.out]
          exact hown1
        case measure => simp [intOf]; omega
    · obtain rfl : k = wl.length := by omega
      rw [List.take_length] at hown
      clear hs1
      by_cases h0 : wl = []
      · subst h0
        have hN : Hid (nextTo m l = (0, false)) := HN.out.trans (if_pos rfl)
        obtain ⟨A2, c2, rfl⟩ := own_form hown
        clear hown HN
        go_wp2
        go_ret2
        exact ⟨ret_ib (congrArg Prod.fst hN.out).symm (congrArg Prod.snd hN.out).symm, hb1.trans (hb.mono hz1')⟩
      · have hN : Hid (nextTo m l = (Lib.minOf (wl.map (headI m)), true)) := HN.out.trans (if_neg h0)
        have hpos : 0 < wl.length := List.length_pos_iff.2 h0
        clear HN h0
        obtain ⟨g, cap, rfl, hgb, hglt⟩ := hown.form hpos
        have hcell := hown.cells (g := g) rfl
        have hM := Try.slices_Min_int g 0 wl.length cap (wl.map (headI m)) wr hpos (by simp) (by omega) (fun j hj => by
          have hj' : j < wl.length := by simpa using hj
          have := hcell j (.int .i64 (headI m wl[j])) (by rw [List.getElem?_map, List.getElem?_eq_getElem hj']; rfl)
          rw [addr_add0] at this
          rw [Nat.zero_add, this, List.getD_eq_getElem?_getD, List.getElem?_map, List.getElem?_eq_getElem hj']; rfl)
        rw [List.take_of_length_le (by simp)] at hM
        generalize Lib.minOf (wl.map (headI m)) = r at hM hN
        have HM := Lib.hid hM
        clear hM hcell hown
        go_wp2_with (go_at_call 23; refine HM.out.mono ?_; rintro e w' ⟨rfl, rfl⟩)
        go_ret2
        exact ⟨ret_ib (congrArg Prod.fst hN.out).symm (congrArg Prod.snd hN.out).symm, hb1.trans (hb.mono hz1')⟩
end Go.Proofs.Ytnkbdkpeoaobeaa
