/- sched.Due. -/
import Derived.Test.YtnkbdkpeoaobeaaBase
import Derived.Test.YtnkbdkpeoaobeaaPlain20
import Derived.Test.YtnkbdkpeoaobeaaPlain20d
import Derived.Test.YtnkbdkpeoaobeaaSchedA
import Derived.Test.YtnkbdkpeoaobeaaSchedB
import Derived.Test.YtnkbdkpeoaobeaaSchedD
import Derived.Test.YtnkbdkpeoaobeaaSchedF

import Derived.Deep.Onto
namespace Go.Proofs.Ytnkbdkpeoaobeaa
open Go.RowKit

theorem info9 : (Try.prog.info? 9).map (fun i => (i.zero, i.size, i.bytes)) = some (some (.string ByteArray.empty), 1, 16) := by kernel_rfl
theorem one_str (s : ByteArray) : ∀ u ∈ [Value.string s], u.oneCell' = true := by intro u hu; simp at hu; subst hu; rfl
theorem flat_str (l : List ByteArray) : l.flatMap strC = l.map Value.string := by induction l <;> simp_all [strC]
theorem late_snoc {h m : Int} {l : List It} {k : Nat} (hk : k < l.length) : ((l.take (k + 1)).filter (lateI h m)).map It.ch = ((l.take k).filter (lateI h m)).map It.ch ++ (if lateI h m l[k] then [l[k].ch] else []) := by
  rw [List.take_succ_eq_append_getElem hk, List.filter_append, List.map_append]
  cases hc : lateI h m l[k] <;> simp [List.filter_cons, hc]

set_option maxHeartbeats 2000000 in
theorem sDue (A : Option Addr) (l : List It) (c : Nat) (h m : Int) (w : World) (hl : l.length ≤ 19) (hok : ∀ x ∈ l, x.ok) (hm : 0 ≤ m) (hm1 : m ≤ 1099511627776) (hs : Sl w w.heap.size 4 It.cells A l) :
    Calls Try.prog 17 #[.slice A l.length c, .int .i64 h, .int .i64 m] w fun e w' => ∃ v, e = .returned v ∧ w'.ownsRow w.heap.size 9 1 v (dueI h m l).length (((dueI h m l).map It.ch).map Value.string) ∧ Below w.heap.size w w' := by
  have hW := worth_any A l c w (by omega) hs
  have hwl := worth_len l
  have hwok : ∀ x ∈ worthL l, x.ok := fun x hx => hok x (List.mem_filter.1 hx).1
  have HN := Lib.hid (fun l' (hp : l'.Perm (worthL l)) (hs : Asc l') => due_names (h := h) (m := m) hp hs)
  have hlen : (dueI h m l).length = ((dueI h m l).map It.ch).length := by simp
  rw [hlen]
  generalize (dueI h m l).map It.ch = nms at HN ⊢
  clear hlen
  generalize worthL l = wl at hW hwl hwok HN
  obtain ⟨i0, hi, hz0, hz1, hz2⟩ := info_parts info9
  have Hz := Lib.hid hz0
  have HW := Lib.hid hW
  clear hz0 hW hs hok
  go_enter Try.func17, Try.ntmps17
  go_wp2_with fail
  refine HW.out.mono ?_
  rintro e w1 ⟨v, rfl, hown, hb1⟩
  obtain ⟨A1, c1, rfl⟩ := own_form hown
  have HS := Lib.hid (stable_any A1 wl c1 w.heap.size w1 (by omega) hb1.size hown)
  clear hown
  have hz1' := hb1.size
  go_wp2_with fail
  refine HS.out.mono ?_
  rintro e w2 ⟨rfl, hb2, l', hp, hasc, hs2⟩
  have hlen : l'.length = wl.length := hp.length_eq
  have hlok : ∀ x ∈ l', x.ok := fun x hx => hwok x (hp.mem_iff.1 hx)
  have hz2' := hb2.size
  have HN' := Lib.hid (HN.out l' hp hasc)
  have hn19 : l'.length ≤ 19 := by omega
  rw [← hlen]
  clear HN HS hp hasc hwok
  go_wp2_with fail
  go_loopw [8, 10, 17] (fun v _ i wr => ∃ k : Nat, k ≤ l'.length ∧ i = .int .i64 k ∧ wr.ownsRow w2.heap.size 9 1 v (((l'.take k).filter (lateI h m)).map It.ch).length ((((l'.take k).filter (lateI h m)).map It.ch).map Value.string) ∧ Below w2.heap.size w2 wr) (fun _ _ i _ => l'.length - (intOf i).toNat)
  case atStart => exact ⟨0, Nat.zero_le _, rfl, ⟨by simp, .inl ⟨rfl, by simp⟩⟩, Below.refl _ _⟩
  case round =>
    obtain ⟨k, hk, rfl, hown, hb⟩ := hrel
    have hB := hb.size
    have htl : (((l'.take k).filter (lateI h m)).map It.ch).length ≤ k := by
      rw [List.length_map]; exact Nat.le_trans (List.length_filter_le _ _) (List.length_take_le _ _)
    by_cases hlt : k < l'.length
    · obtain ⟨b, off, rfl, hbB, hc⟩ := (hs2.below hb).at_ hlt
      have HT := Lib.hid (late_snoc (h := h) (m := m) hlt)
      have hx0 := hlok _ (List.getElem_mem hlt)
      generalize hx : l'[k] = x at hc HT hx0
      clear hx
      have hc0 : wr.cell? ⟨b, off + k * 4, none⟩ = some (.string x.ch) := hc 0 _ rfl
      have hc1 : wr.cell? ⟨b, off + k * 4 + 1, none⟩ = some (.int .i64 x.ex) := hc 1 _ rfl
      have hc2 : wr.cell? ⟨b, off + k * 4 + 2, none⟩ = some (.int .u64 x.wo) := hc 2 _ rfl
      have hc3 : wr.cell? ⟨b, off + k * 4 + 3, none⟩ = some (.bool x.cl) := hc 3 _ rfl
      clear hc hlok hs2
      obtain ⟨o1, o2, o3, o4⟩ := hx0
      generalize ((l'.take k).filter (lateI h m)).map It.ch = tk at hown HT htl
      by_cases hcl : x.cl = true
      · rw [hcl] at hc3
        have HL : Hid (lateI h m x = true) := by show lateI h m x = true; rw [lateI, hcl]; rfl
        clear hcl
        go_wp2_with (at_builtin; refine wpList_append_own _ rfl (.tmp 30) (.tmp 33) _ rfl w2.heap.size 9 i0 _ 1 16 Try.underlying40 hi Hz.out hz1 hz2 rfl (by decide) u8 tk.length _ rfl ((hown.alloc _).alloc _) ⟨wr.heap.size + 1, 0, none⟩ 1 1 [.string x.ch] rfl rfl (news_alloc _ _ _ _ _ rfl (by simp)) (one_str _) (by simp only [maxLen]; omega) (by omega) (by simp; omega) ?_; intro v' w3 hown1 hg1 _)
        go_roundw
        case rel =>
          refine ⟨k + 1, by omega, by go_num, ?_, ((hb.alloc hB _).alloc (by simp; omega) _).grown hg1 (by simp; omega) (fun g hg => (hown.lt g hg).1)⟩
          rw [HT.out, if_pos HL.out, List.map_append, List.length_append]
          exact hown1
        case measure => simp [intOf]; omega
      · simp only [Bool.not_eq_true] at hcl
        rw [hcl] at hc3
        by_cases hd : deadl x.ex m ≤ h
        · have HL : Hid (lateI h m x = true) := by show lateI h m x = true; rw [lateI, hcl]; simpa using hd
          clear hcl
          go_wp2_with (first | (go_at_call 15; refine (sLate h x.ex m _ o1 (by omega) hm hm1).mono ?_; rintro e w' ⟨rfl, rfl⟩) | (at_builtin; refine wpList_append_own _ rfl (.tmp 30) (.tmp 33) _ rfl w2.heap.size 9 i0 _ 1 16 Try.underlying40 hi Hz.out hz1 hz2 rfl (by decide) u8 tk.length _ rfl ((hown.alloc _).alloc _) ⟨wr.heap.size + 1, 0, none⟩ 1 1 [.string x.ch] rfl rfl (news_alloc _ _ _ _ _ rfl (by simp)) (one_str _) (by simp only [maxLen]; omega) (by omega) (by simp; omega) ?_; intro v' w3 hown1 hg1 _))
          go_roundw
          case rel =>
            refine ⟨k + 1, by omega, by go_num, ?_, ((hb.alloc hB _).alloc (by simp; omega) _).grown hg1 (by simp; omega) (fun g hg => (hown.lt g hg).1)⟩
            rw [HT.out, if_pos HL.out, List.map_append, List.length_append]
            exact hown1
          case measure => simp [intOf]; omega
        · have HL : Hid (lateI h m x = false) := by show lateI h m x = false; rw [lateI, hcl]; simpa using hd
          clear hcl
          go_wp2_with (go_at_call 15; refine (sLate h x.ex m _ o1 (by omega) hm hm1).mono ?_; rintro e w' ⟨rfl, rfl⟩)
          go_roundw
          case rel =>
            refine ⟨k + 1, by omega, by go_num, ?_, hb.alloc hB _⟩
            rw [HT.out, if_neg (by rw [HL.out]; simp), List.append_nil]
            exact hown.alloc _
          case measure => simp [intOf]; omega
    · obtain rfl : k = l'.length := by omega
      rw [List.take_length] at hown
      go_wp2
      go_ret
      rw [HN'.out] at hown
      exact ⟨_, rfl, hown.mono (by omega), hb1.trans (hb2.trans (hb.mono (by omega)))⟩
end Go.Proofs.Ytnkbdkpeoaobeaa
