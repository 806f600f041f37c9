/- SchedTells: the walk. -/
import Derived.Test.YtnkbdkpeoaobeaaBase
import Derived.Test.YtnkbdkpeoaobeaaPlain20
import Derived.Test.YtnkbdkpeoaobeaaPlain20b
import Derived.Test.YtnkbdkpeoaobeaaPlain20c
import Derived.Test.YtnkbdkpeoaobeaaSchedA
import Derived.Test.YtnkbdkpeoaobeaaSchedC
import Derived.Test.YtnkbdkpeoaobeaaSchedD
import Derived.Test.YtnkbdkpeoaobeaaSchedG
import Derived.Test.YtnkbdkpeoaobeaaSchedH
import Derived.Test.YtnkbdkpeoaobeaaSchedI
import Derived.Test.YtnkbdkpeoaobeaaSchedJ
import Derived.Test.YtnkbdkpeoaobeaaSchedK
import Derived.Test.YtnkbdkpeoaobeaaSchedL
import Derived.Test.YtnkbdkpeoaobeaaOpen20

namespace Go.Proofs.Ytnkbdkpeoaobeaa
open Go.RowKit

theorem rDue_names {A : Option Addr} {l : List It} {c : Nat} {h m : Int} {w : World} (hl : l.length ≤ 4096) (hok : ∀ x ∈ l, x.ok ∧ x.ch.size ≤ maxLen) (hm : 0 ≤ m) (hm1 : m ≤ 1099511627776) (hs : Sl w w.heap.size 4 It.cells A l) :
    Calls Try.prog 18 #[.slice A l.length c, .int .i64 h, .int .i64 m] w fun e w' => ∃ A' c', e = .returned (.slice A' ((dueI h m l).map It.ch).length c') ∧ Sl w' w'.heap.size 1 strC A' ((dueI h m l).map It.ch) ∧ Below w.heap.size w w' := by
  refine (rDue A l c h m w hl hok hm hm1 hs).mono ?_
  rintro e w' ⟨v, rfl, hown, hb⟩
  obtain ⟨A', c', rfl⟩ := own_form hown
  have hlen : (dueI h m l).length = ((dueI h m l).map It.ch).length := by simp
  rw [hlen] at hown ⊢
  exact ⟨A', c', rfl, Sl.of_own (enc := strC) (fun _ => rfl) (by rw [flat_str]; exact hown), hb⟩
theorem sDue_names {A : Option Addr} {l : List It} {c : Nat} {h m : Int} {w : World} (hl : l.length ≤ 19) (hok : ∀ x ∈ l, x.ok) (hm : 0 ≤ m) (hm1 : m ≤ 1099511627776) (hs : Sl w w.heap.size 4 It.cells A l) :
    Calls Try.prog 17 #[.slice A l.length c, .int .i64 h, .int .i64 m] w fun e w' => ∃ A' c', e = .returned (.slice A' ((dueI h m l).map It.ch).length c') ∧ Sl w' w'.heap.size 1 strC A' ((dueI h m l).map It.ch) ∧ Below w.heap.size w w' := by
  refine (sDue A l c h m w hl hok hm hm1 hs).mono ?_
  rintro e w' ⟨v, rfl, hown, hb⟩
  obtain ⟨A', c', rfl⟩ := own_form hown
  have hlen : (dueI h m l).length = ((dueI h m l).map It.ch).length := by simp
  rw [hlen] at hown ⊢
  exact ⟨A', c', rfl, Sl.of_own (enc := strC) (fun _ => rfl) (by rw [flat_str]; exact hown), hb⟩
/-- the cut items, in memory -/
theorem items_sl {A : Option Addr} {l : List It} {c : Nat} {w : World} (hl : l.length ≤ maxLen) (hch : ∀ x ∈ l, x.came) (hs : Sl w w.heap.size 4 It.cells A l) :
    Calls Try.prog 8 #[.slice A l.length c] w fun e w' => ∃ A1 c1 A2 c2, e = .returned (.tuple #[.slice A1 ((l.take 12).map cutI).length c1, .slice A2 ((l.take 12).map cutI).length c2]) ∧
      Sl w' w'.heap.size 4 It.cells A1 ((l.take 12).map cutI) ∧ Sl w' w'.heap.size 4 It.cells A2 ((l.take 12).map cutI) ∧ Below w.heap.size w w' := by
  refine (items_any A l c w (by unfold maxLen at hl; omega) (fun x hx => (hch x hx).1) hs).mono ?_
  rintro e w' ⟨v, v', rfl, h1, h2, hb⟩
  obtain ⟨A1, c1, rfl⟩ := own_form h1
  obtain ⟨A2, c2, rfl⟩ := own_form h2
  exact ⟨A1, c1, A2, c2, rfl, Sl.of_own It.cells_len h1, Sl.of_own It.cells_len h2, hb⟩
theorem cut_len (l : List It) : ((l.take 12).map cutI).length ≤ 12 := by simp; omega

set_option maxRecDepth 100000 in
set_option maxHeartbeats 8000000 in
theorem tells_any (A : Option Addr) (l : List It) (c0 : Nat) (t0 t1 a b c : Int) (w : World) (hl : l.length ≤ maxLen) (hch : ∀ x ∈ l, x.came) (hs : Sl w w.heap.size 4 It.cells A l) :
    Calls Try.prog 3 #[.slice A l.length c0, .agg #[.int .i64 t0, .int .i64 t1], .agg #[.int .i64 a, .int .i64 b, .int .i64 c]] w fun e w' => e = .returned (.bool true) ∧ Below w.heap.size w w' := by
  have b0 := ((Below.refl w.heap.size w).alloc (Nat.le_refl _) (.cells #[.int .i64 t0, .int .i64 t1] 23)).alloc (by simp) (.cells #[.int .i64 a, .int .i64 b, .int .i64 c] 24)
  have hs0 := ((hs.alloc (Nat.le_refl _) (.cells #[.int .i64 t0, .int .i64 t1] 23)).alloc (by simp) (.cells #[.int .i64 a, .int .i64 b, .int .i64 c] 24)).more (B' := ((w.alloc (.cells #[.int .i64 t0, .int .i64 t1] 23)).alloc (.cells #[.int .i64 a, .int .i64 b, .int .i64 c] 24)).heap.size) (by simp; omega)
  have HI := Lib.hid (items_sl (c := c0) hl hch hs0)
  have hok := cutI_ok hch
  have hn12 := cut_len l
  generalize (l.take 12).map cutI = L at HI hok hn12
  have bm := maskI_bd t1
  obtain ⟨m, hm⟩ : ∃ m, bits .and .i64 t1 1099511627775 = m := ⟨_, rfl⟩
  obtain ⟨h, hh⟩ : ∃ h, bits .and .i64 t0 1099511627775 = h := ⟨_, rfl⟩
  rw [show maskI t1 = m from hm] at bm
  obtain ⟨bm0, bm1⟩ := bm
  have HOK := Lib.hid hok
  have k1 := fun W => sMargin a b c W
  have k2 := fun W => rMargin a b c W
  generalize marV a b c = mv at k1 k2
  generalize marE a b c = me at k1 k2
  have K1 := Lib.hid k1
  have K2 := Lib.hid k2
  have k3 := fun (W : World) (A : Option Addr) (cc : Nat) (hs : Sl W W.heap.size 4 It.cells A L) => sNext A L cc m W (by omega) (fun x hx => (HOK.out x hx).1) bm0 (by omega) hs
  have k4 := fun (W : World) (A : Option Addr) (cc : Nat) (hs : Sl W W.heap.size 4 It.cells A L) => rNext A L cc m W (by omega) (fun x hx => (HOK.out x hx).1) bm0 (by omega) hs
  generalize nextTo m L = qq at k3 k4
  obtain ⟨q1, q2⟩ := qq
  have k5 := fun (W : World) (A : Option Addr) (cc : Nat) (hs : Sl W W.heap.size 4 It.cells A L) => sDue_names (c := cc) (h := h) (m := m) (w := W) (by omega) (fun x hx => (HOK.out x hx).1) bm0 (by omega) hs
  have k6 := fun (W : World) (A : Option Addr) (cc : Nat) (hs : Sl W W.heap.size 4 It.cells A L) => rDue_names (c := cc) (h := h) (m := m) (w := W) (by omega) HOK.out bm0 (by omega) hs
  have hnl : ((dueI h m L).map It.ch).length ≤ 4096 := by
    rw [List.length_map, (dueI_perm h m L).length_eq]
    exact Nat.le_trans (List.length_filter_le _ _) (by omega)
  generalize (dueI h m L).map It.ch = nms at k5 k6 hnl
  have K5 := Lib.hid k5
  have K6 := Lib.hid k6
  have HNL := Lib.hid hnl
  have K3 := Lib.hid k3
  have K4 := Lib.hid k4
  clear k1 k2 k3 k4 k5 k6 hnl
  have B0 := Lib.hid b0
  clear hs hs0 hch hok b0
  go_enter Try.func3, Try.ntmps3
  go_wp2_with fail
  refine HI.out.mono ?_
  rintro e w1 ⟨A1, c1, A2, c2, rfl, hs1, hs2, hb1⟩
  have f0 : w1.cell? ⟨w.heap.size, 0, none⟩ = some (.int .i64 t0) := (hb1.cell (p := ⟨w.heap.size, 0, none⟩) (by simp; omega)).trans (by go_simp)
  have f1 : w1.cell? ⟨w.heap.size, 1, none⟩ = some (.int .i64 t1) := (hb1.cell (p := ⟨w.heap.size, 1, none⟩) (by simp; omega)).trans (by go_simp)
  have g0 : w1.cell? ⟨w.heap.size + 1, 0, none⟩ = some (.int .i64 a) := (hb1.cell (p := ⟨w.heap.size + 1, 0, none⟩) (by simp)).trans (by go_simp)
  have g1 : w1.cell? ⟨w.heap.size + 1, 1, none⟩ = some (.int .i64 b) := (hb1.cell (p := ⟨w.heap.size + 1, 1, none⟩) (by simp)).trans (by go_simp)
  have g2 : w1.cell? ⟨w.heap.size + 1, 2, none⟩ = some (.int .i64 c) := (hb1.cell (p := ⟨w.heap.size + 1, 2, none⟩) (by simp)).trans (by go_simp)
  have z1 := hb1.size
  simp at z1
  have B1 := Lib.hid (B0.out.trans (hb1.mono (by simp; omega)))
  clear hb1
  go_wp2_with fail
  go_quiet (fail)
  go_wp2_with fail
  refine (K1.out _).mono ?_
  rintro e w2 ⟨rfl, hb2⟩
  have g0' : w2.cell? ⟨w.heap.size + 1, 0, none⟩ = some (.int .i64 a) := (hb2.cell (p := ⟨w.heap.size + 1, 0, none⟩) (by simp; omega)).trans g0
  have g1' : w2.cell? ⟨w.heap.size + 1, 1, none⟩ = some (.int .i64 b) := (hb2.cell (p := ⟨w.heap.size + 1, 1, none⟩) (by simp; omega)).trans g1
  have g2' : w2.cell? ⟨w.heap.size + 1, 2, none⟩ = some (.int .i64 c) := (hb2.cell (p := ⟨w.heap.size + 1, 2, none⟩) (by simp; omega)).trans g2
  have z2 := hb2.size
  simp at z2
  have B2 := Lib.hid ((below_drewN B1.out nq).trans (hb2.mono (by simp; omega)))
  have hs1' := Lib.hid (((hs1.drewN nq).below hb2).more z2)
  have hs2' := Lib.hid (((hs2.drewN nq).below hb2).more z2)
  clear hb2 hs1 hs2 f0 f1 g0 g1 g2
  go_wp2_with fail
  refine (K2.out _).mono ?_
  rintro e w' ⟨rfl, rfl⟩
  go_wp2_with fail
  refine (K3.out _ _ _ hs1'.out).mono ?_
  rintro e w3 ⟨rfl, hb3⟩
  have z3 := hb3.size
  have B3 := Lib.hid (B2.out.trans (hb3.mono (by omega)))
  have hs1'' := (hs1'.out.below hb3).more z3
  have hs2'' := Lib.hid ((hs2'.out.below hb3).more z3)
  clear hb3 hs1' hs2' g0' g1' g2' B2 B1 B0
  go_wp2_with fail
  refine (K4.out _ _ _ hs2''.out).mono ?_
  rintro e w' ⟨rfl, rfl⟩
  go_wp2_with fail
  go_loop [19, 20] (fun i _ => ∃ k : Nat, k ≤ L.length ∧ i = .int .i64 k) (fun i _ => L.length - (intOf i).toNat)
  case atStart => exact ⟨0, Nat.zero_le _, rfl⟩
  case round =>
    obtain ⟨k, hk, rfl⟩ := hrel
    by_cases hlt : k < L.length
    · obtain ⟨b', off, rfl, hbB, hc⟩ := hs1''.at_ hlt
      have hx0 := (HOK.out _ (List.getElem_mem hlt)).1
      generalize hx : L[k] = x at hc hx0
      clear hx
      have hc1 : w3.cell? ⟨b', off + k * 4 + 1, none⟩ = some (.int .i64 x.ex) := hc 1 _ rfl
      clear hc
      obtain ⟨o1, o2, o3, o4⟩ := hx0
      have j1 := fun W => sDeadline x.ex m W o1 (by omega) bm0 (by omega)
      have j2 := fun W => rDeadline x.ex m W o1 (by omega) bm0 (by omega)
      have j3 := fun W => sLate h x.ex m W o1 (by omega) bm0 (by omega)
      generalize deadl x.ex m = d at j1 j2 j3
      have J1 := Lib.hid j1
      have J2 := Lib.hid j2
      have J3 := Lib.hid j3
      clear j1 j2 j3
      go_wp2_with (first
        | (go_at_call 13; refine (J2.out _).mono ?_; rintro e w' ⟨rfl, rfl⟩)
        | (go_at_call 14; refine (J1.out _).mono ?_; rintro e w' ⟨rfl, rfl⟩)
        | (go_at_call 15; refine (J3.out _).mono ?_; rintro e w' ⟨rfl, rfl⟩))
      go_round
      case rel => exact ⟨k + 1, by omega, by go_num⟩
      case measure => simp [intOf]; omega
    · go_wp2_with fail
      refine (K5.out _ _ _ hs1'').mono ?_
      rintro e w4 ⟨A4, c4, rfl, hs4, hb4⟩
      have z4 := hb4.size
      have B4 := Lib.hid (B3.out.trans (hb4.mono (by omega)))
      have hs2w := Lib.hid ((hs2''.out.below hb4).more z4)
      clear hb4
      go_wp2_with fail
      refine (K6.out _ _ _ hs2w.out).mono ?_
      rintro e w5 ⟨A5, c5, rfl, hs5, hb5⟩
      have z5 := hb5.size
      have B5 := Lib.hid (B4.out.trans (hb5.mono (by omega)))
      have hs4' := Lib.hid ((hs4.below hb5).more z5)
      have HS5 := Lib.hid hs5
      clear hb5 hs4 hs5
      go_wp2_with fail
      refine (same_eq A4 A5 nms nms c4 c5 _ rfl HNL.out hs4'.out HS5.out).mono ?_
      rintro e w6 ⟨he, n, rfl⟩
      rw [decide_eq_true rfl] at he
      subst he
      go_wp2_with fail
      refine (fixed_any _).mono ?_
      rintro e w7 ⟨rfl, hb7⟩
      go_wp2_with fail
      go_ret
      exact ⟨rfl, (below_drewN B5.out n).trans (hb7.mono (by simp; omega))⟩
end Go.Proofs.Ytnkbdkpeoaobeaa
