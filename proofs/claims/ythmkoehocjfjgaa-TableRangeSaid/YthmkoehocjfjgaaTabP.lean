/- TableRange: the walk. -/
import Derived.Test.YthmkoehocjfjgaaTabO

namespace Go.Proofs.Ythmkoehocjfjgaa
open Go.RowKit Go.Maps Go.WideMaps Go.Sort Go.Shelf

theorem own_alq {w : World} {base k n : Nat} {e : TypeId} {v : Value} {xs : List Value} (h : w.ownsRow base e k v n xs) (q : Nat) (o : Obj) : ((w.drewN q).alloc o).ownsRow base e k v n xs := World.ownsRow.alloc (w := w.drewN q) h o
set_option maxRecDepth 100000 in
set_option maxHeartbeats 16000000 in
theorem range_any (u : Int) (A : Option Addr) (l : List Op3) (c : Nat) (f : ByteArray) (w : World) (h0 : 0 ≤ u) (h1 : u ≤ 255) (hl : l.length ≤ maxLen) (hf : f.size ≤ maxLen) (hch : ∀ x ∈ l, x.came) (hs : Sl w w.heap.size 3 Op3.cells A l) :
    Calls Try.prog 5 #[.int .u8 u, .slice A l.length c, .string f] w fun e w' => e = .returned (.bool true) ∧ Below w.heap.size w w' := by
  have _u : True := (fun _ => trivial) hl
  unfold maxLen at hl
  obtain ⟨m, hm⟩ : ∃ m : Int, m = 1 + u % 16 := ⟨_, rfl⟩
  have hm1 : 1 ≤ m := by omega
  have hm2 : m ≤ 16 := by omega
  have HM := Lib.hid hm
  have HS := Lib.hid hs
  have HCH := Lib.hid hch
  clear hs hch
  go_enter Try.func5, Try.ntmps5
  go_wp2_with fail
  rw [← HM.out]
  clear hm
  refine (new_ok m _ hm1 (by omega)).mono ?_
  rintro e w1 ⟨tb, mb, rfl, ht, htb, hmb, hb1⟩
  have HT1 := Lib.hid ht
  have HB1 := Lib.hid hb1
  clear ht hb1
  obtain ⟨X, HX, HX1⟩ : ∃ X : World → Prop, Hid (∀ W W', Ch [mb] W W' → X W → X W') ∧ Hid (X w1) := ⟨fun _ => True, fun _ _ _ h => h, trivial⟩
  go_wp2_with fail
  go_loopw [9] (fun i wr => ∃ (k : Nat) (T : List KV), k ≤ l.length ∧ k ≤ 40 ∧ i = .int .i64 k ∧ Hid (TabAt wr tb mb m T) ∧ Hid (Good m T ∧ May T) ∧ Hid (Below w.heap.size w wr) ∧ Hid (X wr)) (fun i _ => l.length - (intOf i).toNat)
  case atStart => exact ⟨0, [], Nat.zero_le _, Nat.zero_le _, rfl, HT1, ⟨Good.nil m (by omega), fun p hp => by cases hp⟩, HB1, HX1⟩
  case round =>
    obtain ⟨k, T, hk, hk40, rfl, HT, HG, HB, HXW⟩ := hrel
    have hzw := HB.out.size
    have hmbw : mb < wr.heap.size := HT.out.2.lt
    have htbw : tb < wr.heap.size := HT.out.1.lt
    have hT16 : (T.length : Int) ≤ m := HG.out.1.2.1
    by_cases hlt : k < l.length ∧ k < 40
    · obtain ⟨hlt, hlt4⟩ := hlt
      obtain ⟨b, off, rfl, hbB, hc⟩ := (HS.out.below HB.out).at_ hlt
      have hx := HCH.out _ (List.getElem_mem hlt)
      generalize l[k] = x at hc hx
      have hc0 : wr.cell? ⟨b, off + k * 3, none⟩ = some (.int .i64 x.kd) := hc 0 _ rfl
      have hc1 : wr.cell? ⟨b, off + k * 3 + 1, none⟩ = some (.string x.ke) := hc 1 _ rfl
      have hc2 : wr.cell? ⟨b, off + k * 3 + 2, none⟩ = some (.string x.va) := hc 2 _ rfl
      clear hc
      have hcut := fun W => cut_any x W hx
      have hck : (cutB 70 x.ke).size ≤ 70 := cutB_size (n := 70) x.ke
      have hcv : (cutB 2100 x.va).size ≤ 2100 := cutB_size (n := 2100) x.va
      have hckm : (cutB 70 x.ke).size ≤ maxLen := by unfold maxLen; omega
      have hcvm : (cutB 2100 x.va).size ≤ maxLen := by unfold maxLen; omega
      generalize cutB 70 x.ke = ck at hcut hck hckm
      generalize cutB 2100 x.va = cv at hcut hcv hcvm
      have HCUT := Lib.hid hcut
      have hT1000 : T.length ≤ 1000 := by omega
      clear hcut hx hck hcv
      by_cases hkd : x.kd = 1
      · have hkb : (x.kd == 1) = true := beq_iff_eq.2 hkd
        clear hkd
        have HG2 := Lib.hid (And.intro (HG.out.1.del ck) (HG.out.2.del ck))
        have hdel := fun W h => del_any tb mb m T ck W hckm h
        generalize delT ck T = T2 at hdel HG2
        generalize delE ck T = z2 at hdel
        have HDEL := Lib.hid hdel
        clear hdel
        go_wp2_with (first
          | (go_at_call 8; refine (HCUT.out _).mono ?_; rintro e w2 ⟨rfl, hb2⟩; have HB2 := Lib.hid (HB.out.trans (hb2.mono hzw)); have HT2 := Lib.hid (HT.out.ch (Ch.of_below hb2 []) (by simp) (by simp)); have hz2 := hb2.size; have HX2 := Lib.hid (HX.out _ _ (Ch.of_below hb2 _) HXW.out); clear hb2)
          | (go_at_call 16; refine (HDEL.out _ (by exact HT2.out.al _)).mono ?_; rintro e w4 ⟨rfl, ht, hc⟩; have HT4 := Lib.hid ht; have HB4 := Lib.hid (((HB2.out.alloc (by omega) _)).trans (hc.below (by simp; omega) (by simp; omega))); have HX4 := Lib.hid (HX.out _ _ hc (HX.out _ _ (Ch.alloc _ _ _) HX2.out)); clear ht hc))
        go_roundw
        case rel => exact ⟨k + 1, T2, by omega, by omega, by go_num, HT4, HG2, HB4, HX4⟩
        case measure => simp [intOf]; omega
      · have hkb : (x.kd == 1) = false := beq_eq_false_iff_ne.2 hkd
        clear hkd
        have HG2 := Lib.hid (And.intro (HG.out.1.put ck cv) (May.put (m := m) HG.out.2 ck cv))
        have hput := fun W h => put_any tb mb m T ck cv W hckm hcvm hT1000 HG.out.1.1 h
        generalize putR m ck cv T = T2 at hput HG2
        generalize putE m ck cv T = z2 at hput
        have HPUT := Lib.hid hput
        clear hput
        go_wp2_with (first
          | (go_at_call 8; refine (HCUT.out _).mono ?_; rintro e w2 ⟨rfl, hb2⟩; have HB2 := Lib.hid (HB.out.trans (hb2.mono hzw)); have HT2 := Lib.hid (HT.out.ch (Ch.of_below hb2 []) (by simp) (by simp)); have hz2 := hb2.size; have HX2 := Lib.hid (HX.out _ _ (Ch.of_below hb2 _) HXW.out); clear hb2)
          | (go_at_call 14; refine (HPUT.out _ (by exact HT2.out.al _)).mono ?_; rintro e w4 ⟨rfl, ht, hc⟩; have HT4 := Lib.hid ht; have HB4 := Lib.hid (((HB2.out.alloc (by omega) _)).trans (hc.below (by simp; omega) (by simp; omega))); have HX4 := Lib.hid (HX.out _ _ hc (HX.out _ _ (Ch.alloc _ _ _) HX2.out)); clear ht hc))
        go_roundw
        case rel => exact ⟨k + 1, T2, by omega, by omega, by go_num, HT4, HG2, HB4, HX4⟩
        case measure => simp [intOf]; omega
    have hT1000 : T.length ≤ 1000 := by omega
    have hok : ∀ p ∈ T, p.1.size ≤ maxLen := fun p hp => by have := (HG.out.1.2.2 p hp).1; unfold maxLen; omega
    have hex : (¬ k < l.length) ∨ (k < l.length ∧ ¬ k < 40) := by omega
    clear hlt
    have HX5 := HXW
    rcases hex with h40 | ⟨h41, h40⟩
    all_goals
      go_wp2_with fail
      refine (trows_c tb mb m T T ⟨#[]⟩ _ hT1000 HG.out.1.1 hok HT.out (rowsFrom_all T)).mono ?_
      rintro e w5 ⟨A5, c5, rfl, ho5, hb5⟩
      have hz5 := hb5.size
      have HT5 := Lib.hid (HT.out.ch (Ch.of_below hb5 []) (by simp) (by simp))
      have HB5 := Lib.hid (HB.out.trans (hb5.mono hzw))
      have S5 := Lib.hid (Sl.of_own rowC_len ho5)
      clear ho5 hb5
      go_wp2_with fail
      refine (rows_any A5 T c5 _ (by omega) S5.out).mono ?_
      rintro e w6 ⟨v6, rfl, ho6, hb6⟩
      obtain ⟨A6, c6, rfl⟩ := own_form ho6
      have hz6 := hb6.size
      have HT6 := Lib.hid (HT5.out.ch (Ch.of_below hb6 []) (by simp) (by simp))
      have HB6 := Lib.hid (HB5.out.trans (hb6.mono (by omega)))
      have S6 := Lib.hid (Sl.of_own rowC_len ho6)
      clear ho6 hb6 S5
      obtain ⟨i0, hi, hz0, hz1, hz2⟩ := info_parts infoR15
      have Hz := Lib.hid hz0
      clear hz0
      go_wp2_with fail
      go_loopw [12, 13] (fun v i wq => ∃ j : Nat, j ≤ T.length ∧ i = .int .i64 j ∧ wq.ownsRow w6.heap.size 48 2 v (rowsFrom f (T.take j)).length ((rowsFrom f (T.take j)).flatMap rowC) ∧ Hid (Below w6.heap.size w6 wq)) (fun _ i _ => T.length - (intOf i).toNat)
      case atStart => exact ⟨0, Nat.zero_le _, rfl, own_empty (heap_alloc_new _ _) (Nat.le_refl _), (Below.refl _ _).alloc (Nat.le_refl _) _⟩
      case round =>
        obtain ⟨j, hj, rfl, hown, HBq⟩ := hrel
        have hBq := HBq.out.size
        have htl : (rowsFrom f (T.take j)).length ≤ j := Nat.le_trans (List.length_filter_le _ _) (List.length_take_le _ _)
        by_cases hjl : j < T.length
        · obtain ⟨b6, off6, rfl, hbB6, hc6⟩ := (S6.out.below HBq.out).at_ hjl
          have HF := Lib.hid (rowsFrom_snoc (f := f) hjl)
          have hsz := hok _ (List.getElem_mem hjl)
          generalize T[j] = p at hc6 HF hsz
          obtain ⟨p0, p1⟩ := p
          have d0 : wr.cell? ⟨b6, off6 + j * 2, none⟩ = some (.string p0) := hc6 0 _ rfl
          have d1 : wr.cell? ⟨b6, off6 + j * 2 + 1, none⟩ = some (.string p1) := hc6 1 _ rfl
          dsimp only at hsz
          clear hc6
          cases hcmp : ltB p0.data.toList f.data.toList
          · have HN : Hid (rowsFrom f (T.take (j + 1)) = rowsFrom f (T.take j) ++ [(p0, p1)]) := by
              show _ = _
              rw [HF.out, if_neg (by show ¬ ltB p0.data.toList f.data.toList = true; rw [hcmp]; decide)]
            have HCMP := Lib.hid hcmp
            generalize rowsFrom f (T.take j) = rk at hown HN htl
            clear hcmp HF
            go_wp2_with fail
            refine (rLess_v p0 f false _ hsz hf HCMP.out).mono ?_
            rintro e w7 ⟨rfl, q, rfl⟩
            go_wp2_with (at_builtin; refine wpList_append_own _ rfl (.tmp 74) (.tmp 79) _ rfl w6.heap.size 48 i0 _ 2 32 Try.underlying35 hi Hz.out hz1 hz2 rfl (by decide) u12 rk.length _ rfl (own_alq hown q _) ⟨wr.heap.size, 0, none⟩ 1 1 (rowC (p0, p1)) rfl rfl (news_alloc _ _ _ _ _ rfl rfl) (rowC_one _) (by simp only [maxLen]; omega) (by omega) (by simp; omega) ?_; intro v' w8 hown1 hg1 _)
            go_roundw
            case rel =>
              refine ⟨j + 1, by omega, by go_num, ?_, (((HBq.out.trans ((Ch.drewN [] _ _).below hBq (by simp))).alloc hBq _).grown hg1 (by simp; omega) (fun g hg => (hown.lt g hg).1))⟩
              rw [HN.out, List.length_append, List.flatMap_append]
              simpa using hown1
            case measure => simp [intOf]; omega
          · have HN : Hid (rowsFrom f (T.take (j + 1)) = rowsFrom f (T.take j)) := by
              show _ = _
              rw [HF.out, if_pos (by exact hcmp), List.append_nil]
            have HCMP := Lib.hid hcmp
            clear hcmp HF
            go_wp2_with fail
            refine (rLess_v p0 f true _ hsz hf HCMP.out).mono ?_
            rintro e w7 ⟨rfl, q, rfl⟩
            go_wp2_with fail
            go_roundw
            case rel =>
              refine ⟨j + 1, by omega, by go_num, ?_, HBq.out.trans ((Ch.drewN [] _ _).below hBq (by simp))⟩
              rw [HN.out]; exact hown
            case measure => simp [intOf]; omega
        · obtain rfl : j = T.length := by omega
          rw [List.take_length] at hown
          have hTq := Lib.hid (HT6.out.ch (Ch.of_below HBq.out []) (by simp) (by simp))
          have hzB := HB6.out.size
          have HB7 := Lib.hid (HB6.out.trans (HBq.out.mono hzB))
          have hle : ((T.length : Int) == (T.length : Int)) = true := by simp
          have hRl : (rowsFrom f T).length ≤ 1000 := Nat.le_trans (List.length_filter_le _ _) hT1000
          obtain ⟨Ap, cp, rfl⟩ := own_form hown
          have SP := Lib.hid (Sl.of_own rowC_len hown)
          generalize hR : rowsFrom f T = R at SP hRl
          have HR := Lib.hid hR
          clear hown hR
          go_wp2_with fail
          refine (len_any tb mb m T _ hTq.out).mono ?_
          rintro e w' ⟨rfl, rfl⟩
          go_wp2_with fail
          refine (trows_c tb mb m T R f _ hT1000 HG.out.1.1 hok hTq.out HR.out).mono ?_
          rintro e w9 ⟨A9, c9, rfl, ho9, hb9⟩
          have hz7 := HB7.out.size
          have hz9 := hb9.size
          have S9 := Lib.hid (Sl.of_own rowC_len ho9)
          have SP9 := Lib.hid ((SP.out.below hb9).more hz9)
          have HB9 := Lib.hid (HB7.out.trans (hb9.mono hz7))
          clear ho9 hb9 SP
          go_wp2_with fail
          refine (rows_any A9 R c9 _ (by omega) S9.out).mono ?_
          rintro e wa ⟨va, rfl, hoa, hba⟩
          obtain ⟨Aa, ca, rfl⟩ := own_form hoa
          have hza := hba.size
          have SA := Lib.hid (Sl.of_own rowC_len hoa)
          have SPA := Lib.hid ((SP9.out.below hba).more hza)
          have HBA := Lib.hid (HB9.out.trans (hba.mono (by omega)))
          clear hoa hba SP9 S9
          go_wp2_with fail
          refine (same_c Aa Ap R R ca cp _ rfl (by omega) SA.out SPA.out).mono ?_
          rintro e wb ⟨rfl, hbb⟩
          have hzA := HBA.out.size
          have HBB := Lib.hid (HBA.out.trans (hbb.mono hzA))
          clear hbb
          go_wp2_with fail
          refine (fixed_any _).mono ?_
          rintro e wc ⟨rfl, hbc⟩
          have hzB2 := HBB.out.size
          go_wp2_with fail
          go_ret
          exact ⟨rfl, HBB.out.trans (hbc.mono hzB2)⟩
end Go.Proofs.Ythmkoehocjfjgaa
