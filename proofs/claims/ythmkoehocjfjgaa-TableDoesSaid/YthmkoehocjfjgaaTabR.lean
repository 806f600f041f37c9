/- TableMakes: the walk. -/
import Derived.Test.YthmkoehocjfjgaaTabQ

namespace Go.Proofs.Ythmkoehocjfjgaa
open Go.RowKit Go.Maps Go.WideMaps Go.Sort Go.Shelf

theorem do_v (tb mb : Nat) (m : Int) (T T' : List KV) (s : ByteArray) (z : Int) (w : World) (hs : s.size ≤ maxLen) (hT : T.length ≤ 1000) (hsrt : Srt T) (h : TabAt w tb mb m T) (hz : doE m T s = z) (hT' : doT m T s = T') :
    Calls Try.prog 15 #[.pointer (some ⟨tb, 0, none⟩), .string s] w fun e w' => e = .returned (.int .i64 z) ∧ TabAt w' tb mb m T' ∧ Ch [mb] w w' := by
  have h1 := do_any tb mb m T s w hs hT hsrt h
  unfold DoAt at h1
  rwa [hz, hT'] at h1
theorem at2_end (n : Nat) (T : List KV) : At2 n T.length T = T := by
  unfold At2; split
  · rw [List.take_length]
  · rfl
theorem at2_next (n : Nat) (T : List KV) : At2 (n + 1) 0 T = T := by
  unfold At2; rw [if_neg (by omega)]
theorem at2_len (n i : Nat) (T : List KV) : (At2 n i T).length ≤ T.length := by
  unfold At2; split
  · exact List.length_take_le' _ _
  · exact Nat.le_refl _
theorem at2_srt {n i : Nat} {T : List KV} (h : Srt T) : Srt (At2 n i T) := by
  unfold At2; split
  · exact h.sublist (List.take_sublist _ _)
  · exact h
theorem putRec_size (k v : ByteArray) : (putRecB k v).size ≤ maxLen := by
  unfold putRecB
  split
  · next h =>
    obtain ⟨_, h2, h3⟩ := mayB_bd h
    have := recTo_size 80 [k, v] (by intro t ht; simp at ht; rcases ht with rfl | rfl <;> omega)
    simp only [List.length_cons, List.length_nil] at this
    unfold maxLen; omega
  · simp [maxLen]
theorem recsOf_len (T : List KV) : (recsOf T).length = T.length := List.length_map ..
theorem recsOf_at {T : List KV} {j : Nat} (hj : j < T.length) : (recsOf T)[j]'(by rw [recsOf_len]; exact hj) = putRecB (T[j]).1 (T[j]).2 := by simp [recsOf]
theorem sl_recs {w : World} {B n c : Nat} {A : Option Addr} {T : List KV} (h : w.ownsRow B 9 1 (.slice A n c) T.length ((recsOf T).map Value.string)) : Sl w w.heap.size 1 strC A (recsOf T) := by
  rw [← recsOf_len T, ← flat_strC] at h
  exact Sl.of_own (enc := strC) (fun _ => rfl) h
set_option maxRecDepth 100000 in
set_option maxHeartbeats 16000000 in
theorem makes_any (u : Int) (A : Option Addr) (l : List Op3) (c : Nat) (w : World) (h0 : 0 ≤ u) (h1 : u ≤ 255) (hl : l.length ≤ maxLen) (hch : ∀ x ∈ l, x.came) (hs : Sl w w.heap.size 3 Op3.cells A l) :
    Calls Try.prog 6 #[.int .u8 u, .slice A l.length c] w fun e w' => e = .returned (.bool true) ∧ Below w.heap.size w w' := by
  have _u : True := (fun _ => trivial) hl
  unfold maxLen at hl
  obtain ⟨m, hm⟩ : ∃ m : Int, m = 1 + u % 16 := ⟨_, rfl⟩
  have hm1 : 1 ≤ m := by omega
  have hm2 : m ≤ 16 := by omega
  have HM := Lib.hid hm
  have HS := Lib.hid hs
  have HCH := Lib.hid hch
  clear hs hch
  go_enter Try.func6, Try.ntmps6
  go_wp2_with fail
  rw [← HM.out]
  clear hm
  refine (new_ok m _ hm1 (by omega)).mono ?_
  rintro e w0 ⟨tb, mb, rfl, ht, htb, hmb, hb1⟩
  have HT0 := Lib.hid ht
  have HB0 := Lib.hid hb1
  have htb0 : tb < w0.heap.size := ht.1.lt
  have hmb0 : mb < w0.heap.size := ht.2.lt
  have hz0 := hb1.size
  clear ht hb1
  go_wp2_with fail
  refine (new_ok m _ hm1 (by omega)).mono ?_
  rintro e w1 ⟨cb, cm, rfl, htc, hcb, hcm, hb1⟩
  have HTC := Lib.hid htc
  have HT1 := Lib.hid (HT0.out.ch (Ch.of_below hb1 []) (by simp) (by simp))
  have HB1 := Lib.hid (HB0.out.trans (hb1.mono hz0))
  clear htc hb1
  obtain ⟨X, HX, HX1, HXO⟩ : ∃ X : World → Prop, Hid (∀ W W', Ch [mb] W W' → X W → X W') ∧ Hid (X w1) ∧ Hid (∀ W, X W → TabAt W cb cm m []) :=
    ⟨fun W => TabAt W cb cm m [], fun W W' hc h => h.ch hc (by simp; omega) (by simp; omega), HTC.out, fun _ h => h⟩
  go_wp2_with fail
  go_loopw [10] (fun i wr => ∃ (k : Nat) (T : List KV), k ≤ l.length ∧ k ≤ 40 ∧ i = .int .i64 k ∧ Hid (TabAt wr tb mb m T) ∧ Hid (Good m T ∧ May T) ∧ Hid (Below w.heap.size w wr) ∧ Hid (X wr)) (fun i _ => l.length - (intOf i).toNat)
  case atStart => exact ⟨0, [], Nat.zero_le _, Nat.zero_le _, rfl, HT1, ⟨Good.nil m (by omega), fun p hp => by cases hp⟩, HB1, HX1⟩
  case round =>
    obtain ⟨k, T, hk, hk40, rfl, HT, HG, HB, HXW⟩ := hrel
    have hzw := HB.out.size
    have hmbw : mb < wr.heap.size := HT.out.2.lt
    have htbw : tb < wr.heap.size := HT.out.1.lt
    have hT16 : (T.length : Int) ≤ m := HG.out.1.2.1
    by_cases hlt : k < l.length ∧ k < 40
    · obtain ⟨hlt, hlt4⟩ := hlt
      obtain ⟨b, off, rfl, hbB, hc⟩ := (HS.out.below HB.out).at_ hlt
      have hx := HCH.out _ (List.getElem_mem hlt)
      generalize l[k] = x at hc hx
      have hc0 : wr.cell? ⟨b, off + k * 3, none⟩ = some (.int .i64 x.kd) := hc 0 _ rfl
      have hc1 : wr.cell? ⟨b, off + k * 3 + 1, none⟩ = some (.string x.ke) := hc 1 _ rfl
      have hc2 : wr.cell? ⟨b, off + k * 3 + 2, none⟩ = some (.string x.va) := hc 2 _ rfl
      clear hc
      have hcut := fun W => cut_any x W hx
      have hck : (cutB 70 x.ke).size ≤ 70 := cutB_size (n := 70) x.ke
      have hcv : (cutB 2100 x.va).size ≤ 2100 := cutB_size (n := 2100) x.va
      have hckm : (cutB 70 x.ke).size ≤ maxLen := by unfold maxLen; omega
      have hcvm : (cutB 2100 x.va).size ≤ maxLen := by unfold maxLen; omega
      generalize cutB 70 x.ke = ck at hcut hck hckm
      generalize cutB 2100 x.va = cv at hcut hcv hcvm
      have HCUT := Lib.hid hcut
      have hT1000 : T.length ≤ 1000 := by omega
      clear hcut hx hck hcv
      by_cases hkd : x.kd = 1
      · have hkb : (x.kd == 1) = true := beq_iff_eq.2 hkd
        clear hkd
        have HG2 := Lib.hid (And.intro (HG.out.1.del ck) (HG.out.2.del ck))
        have hdel := fun W h => del_any tb mb m T ck W hckm h
        generalize delT ck T = T2 at hdel HG2
        generalize delE ck T = z2 at hdel
        have HDEL := Lib.hid hdel
        clear hdel
        go_wp2_with (first
          | (go_at_call 8; refine (HCUT.out _).mono ?_; rintro e w2 ⟨rfl, hb2⟩; have HB2 := Lib.hid (HB.out.trans (hb2.mono hzw)); have HT2 := Lib.hid (HT.out.ch (Ch.of_below hb2 []) (by simp) (by simp)); have hz2 := hb2.size; have HX2 := Lib.hid (HX.out _ _ (Ch.of_below hb2 _) HXW.out); clear hb2)
          | (go_at_call 16; refine (HDEL.out _ (by exact HT2.out.al _)).mono ?_; rintro e w4 ⟨rfl, ht, hc⟩; have HT4 := Lib.hid ht; have HB4 := Lib.hid (((HB2.out.alloc (by omega) _)).trans (hc.below (by simp; omega) (by simp; omega))); have HX4 := Lib.hid (HX.out _ _ hc (HX.out _ _ (Ch.alloc _ _ _) HX2.out)); clear ht hc))
        go_roundw
        case rel => exact ⟨k + 1, T2, by omega, by omega, by go_num, HT4, HG2, HB4, HX4⟩
        case measure => simp [intOf]; omega
      · have hkb : (x.kd == 1) = false := beq_eq_false_iff_ne.2 hkd
        clear hkd
        have HG2 := Lib.hid (And.intro (HG.out.1.put ck cv) (May.put (m := m) HG.out.2 ck cv))
        have hput := fun W h => put_any tb mb m T ck cv W hckm hcvm hT1000 HG.out.1.1 h
        generalize putR m ck cv T = T2 at hput HG2
        generalize putE m ck cv T = z2 at hput
        have HPUT := Lib.hid hput
        clear hput
        go_wp2_with (first
          | (go_at_call 8; refine (HCUT.out _).mono ?_; rintro e w2 ⟨rfl, hb2⟩; have HB2 := Lib.hid (HB.out.trans (hb2.mono hzw)); have HT2 := Lib.hid (HT.out.ch (Ch.of_below hb2 []) (by simp) (by simp)); have hz2 := hb2.size; have HX2 := Lib.hid (HX.out _ _ (Ch.of_below hb2 _) HXW.out); clear hb2)
          | (go_at_call 14; refine (HPUT.out _ (by exact HT2.out.al _)).mono ?_; rintro e w4 ⟨rfl, ht, hc⟩; have HT4 := Lib.hid ht; have HB4 := Lib.hid (((HB2.out.alloc (by omega) _)).trans (hc.below (by simp; omega) (by simp; omega))); have HX4 := Lib.hid (HX.out _ _ hc (HX.out _ _ (Ch.alloc _ _ _) HX2.out)); clear ht hc))
        go_roundw
        case rel => exact ⟨k + 1, T2, by omega, by omega, by go_num, HT4, HG2, HB4, HX4⟩
        case measure => simp [intOf]; omega
    have hT1000 : T.length ≤ 1000 := by omega
    have hok : ∀ p ∈ T, p.1.size ≤ maxLen := fun p hp => by have := (HG.out.1.2.2 p hp).1; unfold maxLen; omega
    have hex : (¬ k < l.length) ∨ (k < l.length ∧ ¬ k < 40) := by omega
    clear hlt
    have HC0 := Lib.hid (HXO.out _ HXW.out)
    have hcbw : cb < wr.heap.size := HC0.out.1.lt
    have hcmw : cm < wr.heap.size := HC0.out.2.lt
    have hok2 : ∀ p ∈ T, p.1.size ≤ maxLen ∧ p.2.size ≤ maxLen := fun p hp => by have := HG.out.1.2.2 p hp; unfold maxLen; omega
    have HOK := Lib.hid hok
    have HOK2 := Lib.hid hok2
    clear hok hok2 HXW
    rcases hex with h40 | ⟨h41, h40⟩
    all_goals
      go_wp2_with fail
      refine (recs_any tb mb m T _ hT1000 HG.out.1.1 HOK2.out HT.out).mono ?_
      rintro e w5 ⟨A5, c5, rfl, ho5, hb5⟩
      have hz5 := hb5.size
      have HT5 := Lib.hid (HT.out.ch (Ch.of_below hb5 []) (by simp) (by simp))
      have HC5 := Lib.hid (HC0.out.ch (Ch.of_below hb5 []) (by simp) (by simp))
      have HB5 := Lib.hid (HB.out.trans (hb5.mono hzw))
      have HO5 := Lib.hid ho5
      obtain ⟨W0, hW0⟩ : ∃ n, wr.heap.size = n := ⟨_, rfl⟩
      rw [hW0] at HO5 hcmw hcbw hz5
      clear ho5 hb5 hW0
      go_wp2_with fail
      go_loopw [13] (fun i wq => ∃ n : Nat, n ≤ 2 ∧ i = .int .i64 n ∧ Hid (TabAt wq cb cm m (At2 n 0 T)) ∧ Hid (TabAt wq tb mb m T) ∧ Hid (wq.ownsRow W0 9 1 (.slice A5 T.length c5) T.length ((recsOf T).map Value.string)) ∧ Hid (Below w.heap.size w wq)) (fun i _ => 2 - (intOf i).toNat)
      case atStart => exact ⟨0, by omega, rfl, by simpa [At2] using HC5, HT5, HO5, HB5⟩
      case round =>
        obtain ⟨n, hn, rfl, HCn, HTn, HOn, HBn⟩ := hrel
        have hzn := HBn.out.size
        by_cases hn2 : n < 2
        · have hnb : decide ((n : Int) < 2) = true := decide_eq_true (by omega)
          go_wp2_with fail
          go_loopw [14] (fun i wq => ∃ j : Nat, j ≤ T.length ∧ i = .int .i64 j ∧ Hid (TabAt wq cb cm m (At2 n j T)) ∧ Hid (TabAt wq tb mb m T) ∧ Hid (wq.ownsRow W0 9 1 (.slice A5 T.length c5) T.length ((recsOf T).map Value.string)) ∧ Hid (Below w.heap.size w wq)) (fun i _ => T.length - (intOf i).toNat)
          case atStart => exact ⟨0, Nat.zero_le _, rfl, HCn, HTn, HOn, HBn⟩
          case round =>
            obtain ⟨j, hj, rfl, HCj, HTj, HOj, HBj⟩ := hrel
            have hzj := HBj.out.size
            have hcl := at2_len n j T
            have hcs := Lib.hid (at2_srt (n := n) (i := j) HG.out.1.1)
            by_cases hjl : j < T.length
            · obtain ⟨b5, off5, rfl, hbB5, hc5⟩ := (sl_recs HOj.out).at_ (i := j) (by rw [recsOf_len]; exact hjl)
              rw [recsOf_at hjl] at hc5
              have hst := at2_step HG.out.1 HG.out.2 n hjl
              have hsz := putRec_size (T[j]).1 (T[j]).2
              generalize putRecB (T[j]).1 (T[j]).2 = q at hc5 hst hsz
              have d0 : wr.cell? ⟨b5, off5 + j, none⟩ = some (.string q) := by have := hc5 0 _ rfl; rwa [Nat.mul_one] at this
              generalize hS2 : At2 n (j + 1) T = S2 at hst
              have HS2 := Lib.hid hS2
              clear hS2
              generalize At2 n j T = S1 at hst HCj hcl hcs
              have HST := Lib.hid hst
              have hcmj : cm < W0 := hcmw
              clear hst hc5
              go_wp2_with fail
              refine (do_v cb cm m S1 S2 q 0 _ hsz (by omega) hcs.out HCj.out HST.out.1 HST.out.2).mono ?_
              rintro e w7 ⟨rfl, ht7, hc7⟩
              have HC7 := Lib.hid ht7
              have HT7 := Lib.hid (HTj.out.ch hc7 (by simp; omega) (by simp; omega))
              have HO7 := Lib.hid (own_ch HOj.out hc7 (by simp; omega))
              have HB7 := Lib.hid (HBj.out.trans (hc7.below hzj (by simp; omega)))
              clear ht7 hc7
              go_wp2_with fail
              go_roundw
              case rel => exact ⟨j + 1, by omega, by go_num, by rw [HS2.out]; exact HC7, HT7, HO7, HB7⟩
              case measure => simp [intOf]; omega
            · obtain rfl : j = T.length := by omega
              have HCT : Hid (TabAt wr cb cm m T) := by have := HCj.out; rw [at2_end] at this; exact this
              clear HCj hcs
              go_wp2_with fail
              refine (trows_c cb cm m T T ⟨#[]⟩ _ hT1000 HG.out.1.1 HOK.out HCT.out (rowsFrom_all T)).mono ?_
              rintro e w6 ⟨A6, c6, rfl, ho6, hb6⟩
              have HC6 := Lib.hid (HCT.out.ch (Ch.of_below hb6 []) (by simp) (by simp))
              have HT6 := Lib.hid (HTj.out.ch (Ch.of_below hb6 []) (by simp) (by simp))
              have HO6 := Lib.hid (own_ch HOj.out (Ch.of_below hb6 []) (by simp))
              have HB6 := Lib.hid (HBj.out.trans (hb6.mono HBj.out.size))
              have S6 := Lib.hid (Sl.of_own rowC_len ho6)
              clear ho6 hb6
              go_wp2_with fail
              refine (rows_any A6 T c6 _ (by omega) S6.out).mono ?_
              rintro e w7 ⟨v7, rfl, ho7, hb7⟩
              obtain ⟨A7, c7, rfl⟩ := own_form ho7
              have HC7 := Lib.hid (HC6.out.ch (Ch.of_below hb7 []) (by simp) (by simp))
              have HT7 := Lib.hid (HT6.out.ch (Ch.of_below hb7 []) (by simp) (by simp))
              have HO7 := Lib.hid (own_ch HO6.out (Ch.of_below hb7 []) (by simp))
              have HB7 := Lib.hid (HB6.out.trans (hb7.mono HB6.out.size))
              have S7 := Lib.hid (Sl.of_own rowC_len ho7)
              clear ho7 hb7 S6
              go_wp2_with fail
              refine (trows_c tb mb m T T ⟨#[]⟩ _ hT1000 HG.out.1.1 HOK.out HT7.out (rowsFrom_all T)).mono ?_
              rintro e w8 ⟨A8, c8, rfl, ho8, hb8⟩
              have HC8 := Lib.hid (HC7.out.ch (Ch.of_below hb8 []) (by simp) (by simp))
              have HT8 := Lib.hid (HT7.out.ch (Ch.of_below hb8 []) (by simp) (by simp))
              have HO8 := Lib.hid (own_ch HO7.out (Ch.of_below hb8 []) (by simp))
              have HB8 := Lib.hid (HB7.out.trans (hb8.mono HB7.out.size))
              have S8 := Lib.hid (Sl.of_own rowC_len ho8)
              have S78 := Lib.hid ((S7.out.below hb8).more hb8.size)
              clear ho8 hb8 S7
              go_wp2_with fail
              refine (rows_any A8 T c8 _ (by omega) S8.out).mono ?_
              rintro e w9 ⟨v9, rfl, ho9, hb9⟩
              obtain ⟨A9, c9, rfl⟩ := own_form ho9
              have HC9 := Lib.hid (HC8.out.ch (Ch.of_below hb9 []) (by simp) (by simp))
              have HT9 := Lib.hid (HT8.out.ch (Ch.of_below hb9 []) (by simp) (by simp))
              have HO9 := Lib.hid (own_ch HO8.out (Ch.of_below hb9 []) (by simp))
              have HB9 := Lib.hid (HB8.out.trans (hb9.mono HB8.out.size))
              have S9 := Lib.hid (Sl.of_own rowC_len ho9)
              have S79 := Lib.hid ((S78.out.below hb9).more hb9.size)
              clear ho9 hb9 S8 S78
              go_wp2_with fail
              refine (same_c A7 A9 T T c7 c9 _ rfl (by omega) S79.out S9.out).mono ?_
              rintro e wa ⟨rfl, hba⟩
              have HCa := Lib.hid (HC9.out.ch (Ch.of_below hba []) (by simp) (by simp))
              have HTa := Lib.hid (HT9.out.ch (Ch.of_below hba []) (by simp) (by simp))
              have HOa := Lib.hid (own_ch HO9.out (Ch.of_below hba []) (by simp))
              have HBa := Lib.hid (HB9.out.trans (hba.mono HB9.out.size))
              clear hba
              go_wp2_with fail
              go_roundw
              case rel => exact ⟨n + 1, by omega, by go_num, by rw [at2_next]; exact HCa, HTa, HOa, HBa⟩
              case measure => simp [intOf]; omega
        · obtain rfl : n = 2 := by omega
          have hle : ((T.length : Int) == (T.length : Int)) = true := by simp
          go_wp2_with fail
          refine (len_any tb mb m T _ HTn.out).mono ?_
          rintro e w' ⟨rfl, rfl⟩
          go_wp2_with fail
          refine (fixed_any _).mono ?_
          rintro e wc ⟨rfl, hbc⟩
          go_wp2_with fail
          go_ret
          exact ⟨rfl, HBn.out.trans (hbc.mono hzn)⟩
end Go.Proofs.Ythmkoehocjfjgaa
