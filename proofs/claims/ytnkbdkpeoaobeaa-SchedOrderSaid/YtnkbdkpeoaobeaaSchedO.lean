/- SchedGrows: the walk. -/
import Derived.Test.YtnkbdkpeoaobeaaSchedN
import Derived.Test.YtnkbdkpeoaobeaaPlain20e

namespace Go.Proofs.Ytnkbdkpeoaobeaa
open Go.RowKit
theorem mask39_bd (x : Int) : 0 ≤ bits .and .i64 x 549755813887 := by
  have h : bits .and .i64 x 549755813887 = IntKind.i64.wrap ((BitVec.ofInt 64 x &&& BitVec.ofInt 64 549755813887).toNat : Int) := rfl
  have h1 : (BitVec.ofInt 64 x &&& BitVec.ofInt 64 549755813887).toNat ≤ 549755813887 := by
    rw [BitVec.toNat_and]; exact Nat.and_le_right
  rw [h, IntKind.wrap_i64]; omega
theorem mask39_le (x : Int) : bits .and .i64 x 549755813887 ≤ 549755813887 := by
  have h : bits .and .i64 x 549755813887 = IntKind.i64.wrap ((BitVec.ofInt 64 x &&& BitVec.ofInt 64 549755813887).toNat : Int) := rfl
  have h1 : (BitVec.ofInt 64 x &&& BitVec.ofInt 64 549755813887).toNat ≤ 549755813887 := by
    rw [BitVec.toNat_and]; exact Nat.and_le_right
  rw [h, IntKind.wrap_i64]; omega

set_option maxRecDepth 100000 in
set_option maxHeartbeats 16000000 in
theorem grows_any (A : Option Addr) (l : List It) (c0 : Nat) (t0 t1 d : Int) (w : World) (hd0 : 0 ≤ d) (hd1 : d ≤ 65535) (hl : l.length ≤ maxLen) (hch : ∀ x ∈ l, x.came) (hs : Sl w w.heap.size 4 It.cells A l) :
    Calls Try.prog 5 #[.slice A l.length c0, .agg #[.int .i64 t0, .int .i64 t1], .int .u16 d] w fun e w' => e = .returned (.bool true) ∧ Below w.heap.size w w' := by
  have b0 := (Below.refl w.heap.size w).alloc (Nat.le_refl _) (.cells #[.int .i64 t0, .int .i64 t1] 23)
  have hs0 := (hs.alloc (Nat.le_refl _) (.cells #[.int .i64 t0, .int .i64 t1] 23)).more (B' := (w.alloc (.cells #[.int .i64 t0, .int .i64 t1] 23)).heap.size) (by simp)
  have HI := Lib.hid (items_sl (c := c0) hl hch hs0)
  have hok := cutI_ok hch
  have hn12 := cut_len l
  generalize (l.take 12).map cutI = L at HI hok hn12
  have bm := maskI_bd t1
  have bh := mask39_bd t0
  have bh1 := mask39_le t0
  obtain ⟨m, hm⟩ : ∃ m, bits .and .i64 t1 1099511627775 = m := ⟨_, rfl⟩
  obtain ⟨h, hh⟩ : ∃ h, bits .and .i64 t0 549755813887 = h := ⟨_, rfl⟩
  rw [show maskI t1 = m from hm] at bm
  rw [hh] at bh bh1
  obtain ⟨bm0, bm1⟩ := bm
  have HOK := Lib.hid hok
  have k3 := fun (W : World) (A : Option Addr) (cc : Nat) (hs : Sl W W.heap.size 4 It.cells A L) => sNext A L cc m W (by omega) (fun x hx => (HOK.out x hx).1) bm0 (by omega) hs
  have k5 := fun (W : World) (A : Option Addr) (cc : Nat) (hs : Sl W W.heap.size 4 It.cells A L) => sDue_names (c := cc) (h := h) (m := m) (w := W) (by omega) (fun x hx => (HOK.out x hx).1) bm0 (by omega) hs
  have k6 := fun (W : World) (A : Option Addr) (cc : Nat) (hs : Sl W W.heap.size 4 It.cells A L) => sDue_names (c := cc) (h := h + d) (m := m) (w := W) (by omega) (fun x hx => (HOK.out x hx).1) bm0 (by omega) hs
  have tw : ∀ cc, timesOf cc ((dueI h m L).map It.ch) = wantOf h m cc L := fun cc => times_due h m cc L
  have tm : ∀ cc, timesOf cc ((dueI h m L).map It.ch) ≤ timesOf cc ((dueI (h + d) m L).map It.ch) := fun cc => by rw [times_due, times_due]; exact want_more cc L hd0
  have tl : ((dueI h m L).map It.ch).length ≤ ((dueI (h + d) m L).map It.ch).length := by rw [List.length_map, List.length_map]; exact due_more L hd0
  have t12 : ((dueI (h + d) m L).map It.ch).length ≤ 12 := by
    rw [List.length_map, (dueI_perm (h + d) m L).length_eq]; exact Nat.le_trans (List.length_filter_le _ _) hn12
  have tn : (dueI h m L).map It.ch = [] ∨ (nextTo m L).2 = true := by
    by_cases hz : dueI h m L = []
    · left; rw [hz]; rfl
    · right; rw [next_is]; exact decide_eq_true (worth_of_due hz)
  have to' : (nextTo m L).2 = false ∨ h < (nextTo m L).1 ∨ 0 < ((dueI h m L).map It.ch).length := by
    by_cases hz : dueI h m L = []
    · by_cases hw : worthL L = []
      · left; rw [next_is]; exact decide_eq_false (fun e => e hw)
      · right; left; exact next_over hz bh hw
    · right; right; rw [List.length_map]; exact List.length_pos_iff.2 hz
  generalize (dueI h m L).map It.ch = NX at k5 tw tm tl tn to'
  generalize (dueI (h + d) m L).map It.ch = NY at k6 tm tl t12
  generalize nextTo m L = qq at k3 tn to'
  obtain ⟨q1, q2⟩ := qq
  have K3 := Lib.hid k3
  have K5 := Lib.hid k5
  have K6 := Lib.hid k6
  have TW := Lib.hid tw
  have TM := Lib.hid tm
  have TN := Lib.hid tn
  have TO := Lib.hid to'
  have B0 := Lib.hid b0
  clear hs hs0 hch hok b0 k3 k5 k6 tw tm tn to'
  go_enter Try.func5, Try.ntmps5
  go_wp2_with fail
  refine HI.out.mono ?_
  rintro e w1 ⟨A1, c1, A2, c2, rfl, hs1, hs2, hb1⟩
  have f0 : w1.cell? ⟨w.heap.size, 0, none⟩ = some (.int .i64 t0) := (hb1.cell (p := ⟨w.heap.size, 0, none⟩) (by simp)).trans (by go_simp)
  have f1 : w1.cell? ⟨w.heap.size, 1, none⟩ = some (.int .i64 t1) := (hb1.cell (p := ⟨w.heap.size, 1, none⟩) (by simp)).trans (by go_simp)
  have z1 := hb1.size
  simp at z1
  have B1 := Lib.hid (B0.out.trans (hb1.mono (by simp)))
  clear hb1 hs2
  go_wp2_with fail
  go_quiet (fail)
  go_wp2_with fail
  refine (K5.out _ _ _ (hs1.drewN _)).mono ?_
  rintro e w2 ⟨A3, c3, rfl, hs3, hb2⟩
  have z2 := hb2.size
  simp at z2
  have B2 := Lib.hid ((below_drewN B1.out _).trans (hb2.mono (by simp; omega)))
  have hs1' := Lib.hid (((hs1.drewN _).below hb2).more z2)
  clear hb2 hs1 f0 f1
  go_wp2_with fail
  refine (K6.out _ _ _ hs1'.out).mono ?_
  rintro e w3 ⟨A4, c4, rfl, hs4, hb3⟩
  have z3 := hb3.size
  have B3 := Lib.hid (B2.out.trans (hb3.mono (by omega)))
  have hs1w := (hs1'.out.below hb3).more z3
  have hs3 := (hs3.below hb3).more z3
  clear hb3 hs1' B2 B1 B0
  go_wp2_with fail
  go_loopw [13, 14, 15, 16, 17, 18, 19] (fun i _ _ _ _ _ _ wq => ∃ k q : Nat, k ≤ L.length ∧ i = .int .i64 k ∧ wq = w3.drewN q) (fun i _ _ _ _ _ _ _ => L.length - (intOf i).toNat)
  case atStart => exact ⟨0, 0, Nat.zero_le _, rfl, rfl⟩
  case round =>
    obtain ⟨k, q0, hk, rfl, rfl⟩ := hrel
    by_cases hlt : k < L.length
    · obtain ⟨b', off, rfl, hbB, hc⟩ := hs1w.at_ hlt
      generalize hx : L[k] = x at hc
      clear hx
      have hc0 : w3.cell? ⟨b', off + k * 4, none⟩ = some (.string x.ch) := hc 0 _ rfl
      clear hc
      generalize x.ch = cc at hc0
      go_wp2_with fail
      go_loopw [14, 17] (fun v i wq => ∃ p q : Nat, p ≤ NX.length ∧ i = .int .i64 p ∧ v = .int .i64 (timesOf cc (NX.take p)) ∧ wq = w3.drewN q) (fun _ i _ => NX.length - (intOf i).toNat)
      case atStart => exact ⟨0, _, Nat.zero_le _, rfl, rfl, rfl⟩
      case round =>
        obtain ⟨p, q, hp, rfl, rfl, rfl⟩ := hrel
        have htl := times_le cc (NX.take p)
        have htl' : (NX.take p).length ≤ p := List.length_take_le _ _
        by_cases hpl : p < NX.length
        · obtain ⟨bx, ofx, rfl, _, hcx⟩ := hs3.at_ hpl
          have HT := Lib.hid (times_snoc cc NX p hpl)
          generalize hy : NX[p] = y at hcx HT
          clear hy
          have hcy : w3.cell? ⟨bx, ofx + p, none⟩ = some (.string y) := by have := hcx 0 _ rfl; rwa [Nat.mul_one] at this
          clear hcx
          generalize timesOf cc (NX.take p) = tp at HT htl ⊢
          by_cases hyc : y = cc
          · have HN : Hid (timesOf cc (NX.take (p + 1)) = tp + 1) := HT.out.trans (by rw [if_pos hyc])
            clear HT
            subst hyc
            have hq : (y.toList == y.toList) = true := by simp
            go_wp2_with fail
            go_quiet (fail)
            go_wp2_with fail
            go_roundw
            case rel => exact ⟨p + 1, _, by omega, by go_num, by rw [HN.out]; go_num, rfl⟩
            case measure => simp [intOf]; omega
          · have hq : (y.toList == cc.toList) = false := str_neb hyc
            have HN : Hid (timesOf cc (NX.take (p + 1)) = tp) := HT.out.trans (by rw [if_neg hyc, Nat.add_zero])
            clear HT hyc
            go_wp2_with fail
            go_quiet (fail)
            go_wp2_with fail
            go_roundw
            case rel => exact ⟨p + 1, _, by omega, by go_num, by rw [HN.out], rfl⟩
            case measure => simp [intOf]; omega
        · obtain rfl : p = NX.length := by omega
          rw [List.take_length]
          have eX := Lib.hid (TW.out cc)
          go_wp2_with fail
          go_loopw [15, 18] (fun v i wq => ∃ p q : Nat, p ≤ NY.length ∧ i = .int .i64 p ∧ v = .int .i64 (timesOf cc (NY.take p)) ∧ wq = w3.drewN q) (fun _ i _ => NY.length - (intOf i).toNat)
          case atStart => exact ⟨0, _, Nat.zero_le _, rfl, rfl, rfl⟩
          case round =>
            obtain ⟨p, q, hp, rfl, rfl, rfl⟩ := hrel
            have htl := times_le cc (NY.take p)
            have htl' : (NY.take p).length ≤ p := List.length_take_le _ _
            by_cases hpl : p < NY.length
            · obtain ⟨bx, ofx, rfl, _, hcx⟩ := hs4.at_ hpl
              have HT := Lib.hid (times_snoc cc NY p hpl)
              generalize hy : NY[p] = y at hcx HT
              clear hy
              have hcy : w3.cell? ⟨bx, ofx + p, none⟩ = some (.string y) := by have := hcx 0 _ rfl; rwa [Nat.mul_one] at this
              clear hcx
              generalize timesOf cc (NY.take p) = tp at HT htl ⊢
              by_cases hyc : y = cc
              · have HN : Hid (timesOf cc (NY.take (p + 1)) = tp + 1) := HT.out.trans (by rw [if_pos hyc])
                clear HT
                subst hyc
                have hq : (y.toList == y.toList) = true := by simp
                go_wp2_with fail
                go_quiet (fail)
                go_wp2_with fail
                go_roundw
                case rel => exact ⟨p + 1, _, by omega, by go_num, by rw [HN.out]; go_num, rfl⟩
                case measure => simp [intOf]; omega
              · have hq : (y.toList == cc.toList) = false := str_neb hyc
                have HN : Hid (timesOf cc (NY.take (p + 1)) = tp) := HT.out.trans (by rw [if_neg hyc, Nat.add_zero])
                clear HT hyc
                go_wp2_with fail
                go_quiet (fail)
                go_wp2_with fail
                go_roundw
                case rel => exact ⟨p + 1, _, by omega, by go_num, by rw [HN.out], rfl⟩
                case measure => simp [intOf]; omega
            · obtain rfl : p = NY.length := by omega
              rw [List.take_length]
              go_wp2_with fail
              go_loopw [16, 19] (fun v i wq => ∃ p q : Nat, p ≤ L.length ∧ i = .int .i64 p ∧ v = .int .i64 (wantOf h m cc (L.take p)) ∧ wq = w3.drewN q) (fun _ i _ => L.length - (intOf i).toNat)
              case atStart => exact ⟨0, _, Nat.zero_le _, rfl, rfl, rfl⟩
              case round =>
                obtain ⟨p, q, hp, rfl, rfl, rfl⟩ := hrel
                have htl := want_le h m cc (L.take p)
                have htl' : (L.take p).length ≤ p := List.length_take_le _ _
                by_cases hpl : p < L.length
                · obtain ⟨bz, ofz, ez, _, hcz⟩ := hs1w.at_ hpl
                  injection ez with ez
                  injection ez with ez1 ez2
                  subst ez1 ez2
                  have HT := Lib.hid (want_snoc h m cc L p hpl)
                  have hy0 := (HOK.out _ (List.getElem_mem hpl)).1
                  generalize hy : L[p] = y at hcz HT hy0
                  clear hy
                  have hd0 : w3.cell? ⟨b', off + p * 4, none⟩ = some (.string y.ch) := hcz 0 _ rfl
                  have hd1 : w3.cell? ⟨b', off + p * 4 + 1, none⟩ = some (.int .i64 y.ex) := hcz 1 _ rfl
                  have hd2 : w3.cell? ⟨b', off + p * 4 + 2, none⟩ = some (.int .u64 y.wo) := hcz 2 _ rfl
                  have hd3 : w3.cell? ⟨b', off + p * 4 + 3, none⟩ = some (.bool y.cl) := hcz 3 _ rfl
                  clear hcz
                  obtain ⟨o1, o2, o3, o4⟩ := hy0
                  generalize wantOf h m cc (L.take p) = tp at HT htl ⊢
                  by_cases hyc : y.ch = cc
                  · rw [hyc] at hd0
                    have hq : (cc.toList == cc.toList) = true := by simp
                    by_cases hw : 10 < y.wo
                    · have hwd : decide (10 < y.wo) = true := decide_eq_true hw
                      by_cases hcl : y.cl = true
                      · rw [hcl] at hd3
                        have HG : Hid (y.ch = cc ∧ goodI h m y = true) := ⟨hyc, by simp [goodI, hw, hcl]⟩
                        clear hyc hcl
                        have HN : Hid (wantOf h m cc (L.take (p + 1)) = tp + 1) := HT.out.trans (by first | (rw [if_pos HG.out]; done) | (rw [if_neg HG.out]; done))
                        clear HT HG
                        go_wp2_with fail
                        go_quiet (fail)
                        go_wp2_with fail
                        go_roundw
                        case rel => exact ⟨p + 1, _, by omega, by go_num, by rw [HN.out]; first | go_num | rfl, rfl⟩
                        case measure => simp [intOf]; omega
                      · simp only [Bool.not_eq_true] at hcl
                        rw [hcl] at hd3
                        by_cases hd : deadl y.ex m ≤ h
                        · have HG : Hid (y.ch = cc ∧ goodI h m y = true) := ⟨hyc, by simp [goodI, hw, hcl, hd]⟩
                          have HL := Lib.hid (fun W => lateT (h := h) W o1 (by omega) bm0 (by omega) true (decide_eq_true hd))
                          clear hyc hcl
                          have HN : Hid (wantOf h m cc (L.take (p + 1)) = tp + 1) := HT.out.trans (by first | (rw [if_pos HG.out]; done) | (rw [if_neg HG.out]; done))
                          clear HT HG
                          go_wp2_with fail
                          go_quiet (((go_at_call 15; exact quiet_add_left (HL.out _))))
                          go_wp2_with fail
                          go_roundw
                          case rel => exact ⟨p + 1, _, by omega, by go_num, by rw [HN.out]; first | go_num | rfl, rfl⟩
                          case measure => simp [intOf]; omega
                        · have HG : Hid (¬ (y.ch = cc ∧ goodI h m y = true)) := fun hh => by have := hh.2; simp [goodI, hw, hcl, hd] at this
                          have HL := Lib.hid (fun W => lateT (h := h) W o1 (by omega) bm0 (by omega) false (decide_eq_false hd))
                          clear hyc hcl
                          have HN : Hid (wantOf h m cc (L.take (p + 1)) = tp + 0) := HT.out.trans (by first | (rw [if_pos HG.out]; done) | (rw [if_neg HG.out]; done))
                          clear HT HG
                          go_wp2_with fail
                          go_quiet (((go_at_call 15; exact quiet_add_left (HL.out _))))
                          go_wp2_with fail
                          go_roundw
                          case rel => exact ⟨p + 1, _, by omega, by go_num, by rw [HN.out]; first | go_num | rfl, rfl⟩
                          case measure => simp [intOf]; omega
                    · have hwd : decide (10 < y.wo) = false := decide_eq_false hw
                      have HG : Hid (¬ (y.ch = cc ∧ goodI h m y = true)) := fun hh => by have := hh.2; simp [goodI, hw] at this
                      clear hyc
                      have HN : Hid (wantOf h m cc (L.take (p + 1)) = tp + 0) := HT.out.trans (by first | (rw [if_pos HG.out]; done) | (rw [if_neg HG.out]; done))
                      clear HT HG
                      go_wp2_with fail
                      go_quiet (fail)
                      go_wp2_with fail
                      go_roundw
                      case rel => exact ⟨p + 1, _, by omega, by go_num, by rw [HN.out]; first | go_num | rfl, rfl⟩
                      case measure => simp [intOf]; omega
                  · have hq : (y.ch.toList == cc.toList) = false := str_neb hyc
                    have HG : Hid (¬ (y.ch = cc ∧ goodI h m y = true)) := fun hh => hyc hh.1
                    clear hyc
                    have HN : Hid (wantOf h m cc (L.take (p + 1)) = tp + 0) := HT.out.trans (by first | (rw [if_pos HG.out]; done) | (rw [if_neg HG.out]; done))
                    clear HT HG
                    go_wp2_with fail
                    go_quiet (fail)
                    go_wp2_with fail
                    go_roundw
                    case rel => exact ⟨p + 1, _, by omega, by go_num, by rw [HN.out]; first | go_num | rfl, rfl⟩
                    case measure => simp [intOf]; omega
                · obtain rfl : p = L.length := by omega
                  rw [List.take_length]
                  have HA := Lib.hid (TW.out cc)
                  have HB := Lib.hid (TM.out cc)
                  generalize timesOf cc NX = ta at HA HB ⊢
                  generalize timesOf cc NY = tb at HB ⊢
                  generalize wantOf h m cc L = tw at HA ⊢
                  obtain rfl : ta = tw := HA.out
                  have hle := HB.out
                  have hq1 : ((ta : Int) != ta) = false := by simp
                  have hq2 : decide ((tb : Int) < ta) = false := decide_eq_false (by omega)
                  go_wp2_with fail
                  go_roundw
                  case rel => exact ⟨k + 1, _, by omega, by go_num, rfl⟩
                  case measure => simp [intOf]; omega
    · go_wp2_with fail
      have hs1q := hs1w.drewN q0
      refine (K3.out _ _ _ hs1q).mono ?_
      rintro e w4 ⟨rfl, hb4⟩
      have z4 := hb4.size
      simp at z4
      have B4 := Lib.hid ((below_drewN B3.out q0).trans (hb4.mono (by simp; omega)))
      clear hb4 hs1q hs1w hs3 hs4 B3
      by_cases hz : NX.length = 0
      · have hNX : NX = [] := List.eq_nil_of_length_eq_zero hz
        subst hNX
        cases q2
        · go_wp2_with fail
          refine (fixed_any _).mono ?_
          rintro e w7 ⟨rfl, hb7⟩
          go_wp2_with fail
          go_ret
          exact ⟨rfl, B4.out.trans (hb7.mono (by omega))⟩
        · have hq : h < q1 := by
            rcases TO.out with h1 | h1 | h1
            · cases h1
            · exact h1
            · simp at h1
          go_wp2_with fail
          refine (fixed_any _).mono ?_
          rintro e w7 ⟨rfl, hb7⟩
          go_wp2_with fail
          go_ret
          exact ⟨rfl, B4.out.trans (hb7.mono (by omega))⟩
      · have hzb : ((NX.length : Int) == 0) = false := beq_eq_false_iff_ne.2 (by omega)
        have hzp : 0 < NX.length := by omega
        have hqt : q2 = true := by
          rcases TN.out with h1 | h1
          · exfalso; apply hz; rw [h1]; rfl
          · exact h1
        subst hqt
        clear hz
        by_cases hq : h < q1
        · go_wp2_with fail
          refine (fixed_any _).mono ?_
          rintro e w7 ⟨rfl, hb7⟩
          go_wp2_with fail
          go_ret
          exact ⟨rfl, B4.out.trans (hb7.mono (by omega))⟩
        · go_wp2_with fail
          refine (fixed_any _).mono ?_
          rintro e w7 ⟨rfl, hb7⟩
          go_wp2_with fail
          go_ret
          exact ⟨rfl, B4.out.trans (hb7.mono (by omega))⟩
end Go.Proofs.Ytnkbdkpeoaobeaa
