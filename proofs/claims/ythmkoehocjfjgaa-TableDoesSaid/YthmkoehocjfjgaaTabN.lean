/- TableKeeps: the walk. -/
import Derived.Test.YthmkoehocjfjgaaTabM

namespace Go.Proofs.Ythmkoehocjfjgaa
open Go.RowKit Go.Maps Go.WideMaps Go.Sort Go.Shelf

/-- rows that a table may have -/
def Good (m : Int) (T : List KV) : Prop := Srt T ∧ (T.length : Int) ≤ m ∧ ∀ p ∈ T, p.1.size ≤ 64 ∧ p.2.size ≤ 2048
theorem Good.nil (m : Int) (h : 0 ≤ m) : Good m [] := ⟨List.Pairwise.nil, by simpa using h, by simp⟩
theorem Good.del {m : Int} {T : List KV} (h : Good m T) (k : ByteArray) : Good m (delT k T) := by
  obtain ⟨h1, h2, h3⟩ := h
  refine ⟨delT_srt h1 k, ?_, fun p hp => h3 p (List.mem_filter.1 hp).1⟩
  have := delT_len k T h1
  split at this <;> omega
theorem putT_mem {k v : ByteArray} : ∀ {T : List KV} {p : KV}, p ∈ putT k v T → p = (k, v) ∨ p ∈ T
  | [], p, h => by simp [putT] at h; exact .inl h
  | q :: r, p, h => by
    unfold putT at h
    split at h
    · rcases List.mem_cons.1 h with h | h
      · exact .inl h
      · exact .inr h
    · split at h
      · rcases List.mem_cons.1 h with h | h
        · exact .inl h
        · exact .inr (List.mem_cons_of_mem _ h)
      · rcases List.mem_cons.1 h with h | h
        · exact .inr (by rw [h]; simp)
        · rcases putT_mem h with h | h
          · exact .inl h
          · exact .inr (List.mem_cons_of_mem _ h)
theorem Good.put {m : Int} {T : List KV} (h : Good m T) (k v : ByteArray) : Good m (putR m k v T) := by
  unfold putR
  split
  · next he =>
    obtain ⟨h1, h2, h3⟩ := h
    unfold putE at he
    split at he
    · cases he
    · next hm =>
      split at he
      · cases he
      · next hf =>
        have hb := mayB_bd (by simpa using hm)
        refine ⟨putT_srt h1 k v, ?_, fun p hp => ?_⟩
        · have := putT_len k v T h1
          split at this
          · omega
          · next hn =>
            have : ¬ m ≤ T.length := fun hh => hf ⟨by simpa using hn, hh⟩
            omega
        · rcases putT_mem hp with rfl | hp
          · exact ⟨hb.2.1, hb.2.2⟩
          · exact h3 p hp
  · exact h
theorem delE_val (k : ByteArray) (T : List KV) : delE k T = if (getT k T).isSome then 0 else 6 := by unfold delE; cases getT k T <;> rfl
theorem get_v (tb mb : Nat) (m : Int) (T : List KV) (k v : ByteArray) (z : Int) (w : World) (hk : k.size ≤ maxLen) (h : TabAt w tb mb m T) (hg : (getT k T).getD ByteArray.empty = v) (hz : delE k T = z) :
    Calls Try.prog 22 #[.pointer (some ⟨tb, 0, none⟩), .string k] w fun e w' => e = .returned (.tuple #[.string v, .int .i64 z]) ∧ w = w' := by
  have := get_any tb mb m T k w hk h; rwa [hg, hz] at this
theorem TabAt.al {w : World} {tb mb : Nat} {m : Int} {T : List KV} (h : TabAt w tb mb m T) (o : Obj) : TabAt (w.alloc o) tb mb m T := h.ch (Ch.alloc [] w o) (by simp) (by simp)
theorem rowsFrom_all (T : List KV) : rowsFrom ⟨#[]⟩ T = T := by
  unfold rowsFrom
  rw [List.filter_eq_self]
  intro p _
  show (!ltB (ky p) []) = true
  cases ky p <;> rfl
theorem srt_at {T : List KV} (h : Srt T) {j : Nat} (hj : j + 1 < T.length) : ltB (ky T[j]) (ky T[j + 1]) = true := List.pairwise_iff_getElem.1 h j (j + 1) (by omega) hj (by omega)
theorem rLess_v (s t : ByteArray) (b : Bool) (w : World) (hs : s.size ≤ maxLen) (ht : t.size ≤ maxLen) (hb : ltB s.data.toList t.data.toList = b) :
    Calls Try.prog 23 #[.string s, .string t] w fun e w' => e = .returned (.bool b) ∧ ∃ n, w' = w.drewN n := by
  have := rLess s t w hs ht; rwa [hb] at this
/-- what a put answers: it is done; it is full; it may not be -/
theorem put_facts (m : Int) (k v : ByteArray) (T : List KV) (h : Good m T) : (putE m k v T = 0 ∧ delE k (putR m k v T) = 0 ∧ (getT k (putR m k v T)).getD ByteArray.empty = v) ∨ (putE m k v T = 9 ∧ putR m k v T = T ∧ m ≤ T.length ∧ delE k T = 6) ∨ (putE m k v T = 1 ∧ putR m k v T = T) := by
  by_cases h1 : mayB k v = false
  · right; right
    have he : putE m k v T = 1 := by rw [putE, if_pos h1]
    exact ⟨he, putR_of (by rw [he]; decide)⟩
  · by_cases h2 : (getT k T).isNone ∧ m ≤ T.length
    · right; left
      have he : putE m k v T = 9 := by rw [putE, if_neg h1, if_pos h2]
      refine ⟨he, putR_of (by rw [he]; decide), h2.2, ?_⟩
      rw [delE, if_pos h2.1]
    · left
      have he : putE m k v T = 0 := by rw [putE, if_neg h1, if_neg h2]
      have hg : getT k (putR m k v T) = some v := by rw [putR_ok he, getT_put k v T h.1, if_pos rfl]
      refine ⟨he, ?_, ?_⟩
      · rw [delE_val, hg]; rfl
      · rw [hg]; rfl
set_option maxRecDepth 100000 in
set_option maxHeartbeats 8000000 in
theorem keeps_any (u : Int) (A : Option Addr) (l : List Op3) (c : Nat) (w : World) (h0 : 0 ≤ u) (h1 : u ≤ 255) (hl : l.length ≤ maxLen) (hch : ∀ x ∈ l, x.came) (hs : Sl w w.heap.size 3 Op3.cells A l) :
    Calls Try.prog 4 #[.int .u8 u, .slice A l.length c] w fun e w' => e = .returned (.bool true) ∧ Below w.heap.size w w' := by
  have _u : True := (fun _ => trivial) hl
  unfold maxLen at hl
  obtain ⟨m, hm⟩ : ∃ m : Int, m = 1 + u % 16 := ⟨_, rfl⟩
  have hm1 : 1 ≤ m := by omega
  have hm2 : m ≤ 16 := by omega
  have HM := Lib.hid hm
  have HS := Lib.hid hs
  have HCH := Lib.hid hch
  clear hs hch
  go_enter Try.func4, Try.ntmps4
  go_wp2_with fail
  rw [← HM.out]
  clear hm
  refine (new_ok m _ hm1 (by omega)).mono ?_
  rintro e w1 ⟨tb, mb, rfl, ht, htb, hmb, hb1⟩
  have HT1 := Lib.hid ht
  have HB1 := Lib.hid hb1
  clear ht hb1
  go_wp2_with fail
  go_loopw [8] (fun i wr => ∃ (k : Nat) (T : List KV), k ≤ l.length ∧ k ≤ 40 ∧ i = .int .i64 k ∧ Hid (TabAt wr tb mb m T) ∧ Hid (Good m T) ∧ Hid (Below w.heap.size w wr)) (fun i _ => l.length - (intOf i).toNat)
  case atStart => exact ⟨0, [], Nat.zero_le _, Nat.zero_le _, rfl, HT1, Good.nil m (by omega), HB1⟩
  case round =>
    obtain ⟨k, T, hk, hk40, rfl, HT, HG, HB⟩ := hrel
    have hzw := HB.out.size
    by_cases hlt : k < l.length
    · by_cases hlt4 : k < 40
      · obtain ⟨b, off, rfl, hbB, hc⟩ := (HS.out.below HB.out).at_ hlt
        have hx := HCH.out _ (List.getElem_mem hlt)
        generalize l[k] = x at hc hx
        have hc0 : wr.cell? ⟨b, off + k * 3, none⟩ = some (.int .i64 x.kd) := hc 0 _ rfl
        have hc1 : wr.cell? ⟨b, off + k * 3 + 1, none⟩ = some (.string x.ke) := hc 1 _ rfl
        have hc2 : wr.cell? ⟨b, off + k * 3 + 2, none⟩ = some (.string x.va) := hc 2 _ rfl
        clear hc
        have hcut := fun W => cut_any x W hx
        have hck : (cutB 70 x.ke).size ≤ 70 := cutB_size (n := 70) x.ke
        have hcv : (cutB 2100 x.va).size ≤ 2100 := cutB_size (n := 2100) x.va
        have hckm : (cutB 70 x.ke).size ≤ maxLen := by unfold maxLen; omega
        have hcvm : (cutB 2100 x.va).size ≤ maxLen := by unfold maxLen; omega
        generalize cutB 70 x.ke = ck at hcut hck hckm
        generalize cutB 2100 x.va = cv at hcut hcv hcvm
        have HCUT := Lib.hid hcut
        have hT1000 : T.length ≤ 1000 := by have := HG.out.2.1; omega
        have htbw : tb < wr.heap.size := HT.out.1.lt
        have hmbw : mb < wr.heap.size := HT.out.2.lt
        clear hcut hx hck hcv
        by_cases hkd : x.kd = 1
        · have hkb : (x.kd == 1) = true := beq_iff_eq.2 hkd
          clear hkd
          have HD2 : Hid (delE ck (delT ck T) = 6) := by show _ = _; rw [delE_val, getT_del, if_pos rfl]; rfl
          have HG2 := Lib.hid (HG.out.del ck)
          have hdl := delT_len ck T HG.out.1
          have hdel := fun W h => del_any tb mb m T ck W hckm h
          have hgv : ∃ gv, (getT ck T).getD ByteArray.empty = gv := ⟨_, rfl⟩
          obtain ⟨gv, hgv⟩ := hgv
          have HGV := Lib.hid hgv
          clear hgv
          by_cases hz : delE ck T = 0
          · have hsome : (getT ck T).isSome = true := by
              rw [delE_val] at hz
              split at hz
              · assumption
              · cases hz
            rw [if_pos hsome] at hdl
            have hpos : 1 ≤ T.length := by
              cases T with
              | nil => simp [getT] at hsome
              | cons _ _ => simp
            have HZ := Lib.hid hz
            rw [hz] at hdel
            clear hsome
            generalize delT ck T = T2 at HD2 HG2 hdl hdel
            have hlen : ((T2.length : Int) != (T.length : Int) - 1) = false := by rw [bne_eq_false_iff_eq]; omega
            have HDEL := Lib.hid hdel
            clear hz hdel hdl
            have tokL : True := trivial
            have tokG : True := trivial
            go_wp2_with (first
              | (go_at_call 8; refine (HCUT.out _).mono ?_; rintro e w2 ⟨rfl, hb2⟩; have HB2 := Lib.hid (HB.out.trans (hb2.mono hzw)); have HT2 := Lib.hid (HT.out.ch (Ch.of_below hb2 []) (by simp) (by simp)); have hz2 := hb2.size; clear hb2)
              | (go_at_call 21; have _t := tokL; refine (len_any tb mb m T _ (by exact HT2.out.al _)).mono ?_; rintro e w' ⟨rfl, rfl⟩; clear tokL)
              | (go_at_call 22; have _t := tokG; refine (get_v tb mb m T ck gv 0 _ hckm (by exact HT2.out.al _) HGV.out HZ.out).mono ?_; rintro e w' ⟨rfl, rfl⟩; clear tokG)
              | (go_at_call 16; refine (HDEL.out _ (by exact HT2.out.al _)).mono ?_; rintro e w4 ⟨rfl, ht, hc⟩; have HT4 := Lib.hid ht; have HB4 := Lib.hid (((HB2.out.alloc (by omega) _)).trans (hc.below (by simp; omega) (by simp; omega))); have ob : Blk w4 w2.heap.size 23 #[.int .i64 x.kd, .string ck, .string cv] := Blk.ch (Blk.new _ _ _) hc (by simp; omega); have o0 : w4.cell? ⟨w2.heap.size, 0, none⟩ = some (.int .i64 x.kd) := ob.cell 0; have o1 : w4.cell? ⟨w2.heap.size, 1, none⟩ = some (.string ck) := ob.cell 1; have o2 : w4.cell? ⟨w2.heap.size, 2, none⟩ = some (.string cv) := ob.cell 2; clear ht hc ob)
              | (go_at_call 22; refine (get_v tb mb m T2 ck _ 6 _ hckm HT4.out rfl HD2.out).mono ?_; rintro e w' ⟨rfl, rfl⟩)
              | (go_at_call 21; refine (len_any tb mb m T2 _ HT4.out).mono ?_; rintro e w' ⟨rfl, rfl⟩))
            go_roundw
            case rel => exact ⟨k + 1, T2, by omega, by omega, by go_num, HT4, HG2, HB4⟩
            case measure => simp [intOf]; omega
          · have hz6 : delE ck T = 6 := by
              rw [delE_val] at hz ⊢
              split at hz
              · exact absurd rfl hz
              · next h => rw [if_neg h]
            have HZ := Lib.hid hz6
            rw [hz6] at hdel
            generalize delT ck T = T2 at HD2 HG2 hdl hdel
            have HDEL := Lib.hid hdel
            clear hz hz6 hdel hdl
            have tokL : True := trivial
            have tokG : True := trivial
            go_wp2_with (first
              | (go_at_call 8; refine (HCUT.out _).mono ?_; rintro e w2 ⟨rfl, hb2⟩; have HB2 := Lib.hid (HB.out.trans (hb2.mono hzw)); have HT2 := Lib.hid (HT.out.ch (Ch.of_below hb2 []) (by simp) (by simp)); have hz2 := hb2.size; clear hb2)
              | (go_at_call 21; have _t := tokL; refine (len_any tb mb m T _ (by exact HT2.out.al _)).mono ?_; rintro e w' ⟨rfl, rfl⟩; clear tokL)
              | (go_at_call 22; have _t := tokG; refine (get_v tb mb m T ck gv 6 _ hckm (by exact HT2.out.al _) HGV.out HZ.out).mono ?_; rintro e w' ⟨rfl, rfl⟩; clear tokG)
              | (go_at_call 16; refine (HDEL.out _ (by exact HT2.out.al _)).mono ?_; rintro e w4 ⟨rfl, ht, hc⟩; have HT4 := Lib.hid ht; have HB4 := Lib.hid (((HB2.out.alloc (by omega) _)).trans (hc.below (by simp; omega) (by simp; omega))); have ob : Blk w4 w2.heap.size 23 #[.int .i64 x.kd, .string ck, .string cv] := Blk.ch (Blk.new _ _ _) hc (by simp; omega); have o0 : w4.cell? ⟨w2.heap.size, 0, none⟩ = some (.int .i64 x.kd) := ob.cell 0; have o1 : w4.cell? ⟨w2.heap.size, 1, none⟩ = some (.string ck) := ob.cell 1; have o2 : w4.cell? ⟨w2.heap.size, 2, none⟩ = some (.string cv) := ob.cell 2; clear ht hc ob)
              | (go_at_call 22; refine (get_v tb mb m T2 ck _ 6 _ hckm HT4.out rfl HD2.out).mono ?_; rintro e w' ⟨rfl, rfl⟩))
            go_roundw
            case rel => exact ⟨k + 1, T2, by omega, by omega, by go_num, HT4, HG2, HB4⟩
            case measure => simp [intOf]; omega
        · have hkb : (x.kd == 1) = false := beq_eq_false_iff_ne.2 hkd
          have hput := fun W h => put_any tb mb m T ck cv W hckm hcvm hT1000 HG.out.1 h
          have HG2 := Lib.hid (HG.out.put ck cv)
          have hgv : ∃ gv, (getT ck T).getD ByteArray.empty = gv := ⟨_, rfl⟩
          obtain ⟨gv, hgv⟩ := hgv
          have HGV := Lib.hid hgv
          have hfacts := put_facts m ck cv T HG.out
          obtain ⟨z2, hz2'⟩ : ∃ z, delE ck (putR m ck cv T) = z := ⟨_, rfl⟩
          obtain ⟨gv2, hgv2⟩ : ∃ z, (getT ck (putR m ck cv T)).getD ByteArray.empty = z := ⟨_, rfl⟩
          rw [hz2', hgv2] at hfacts
          generalize putR m ck cv T = T2 at hput HG2 hfacts hz2' hgv2
          generalize putE m ck cv T = z at hput hfacts
          obtain ⟨zh, hzh⟩ : ∃ z, delE ck T = z := ⟨_, rfl⟩
          rw [hzh] at hfacts
          have HZ := Lib.hid hzh
          have HZ2 := Lib.hid hz2'
          have HGV2 := Lib.hid hgv2
          have HPUT := Lib.hid hput
          clear hkd hgv hzh hz2' hgv2 hput
          have hle2 : (T2.length : Int) ≤ m := HG2.out.2.1
          have hT2000 : T2.length ≤ 1000 := by omega
          have hgt : decide (m < (T2.length : Int)) = false := decide_eq_false (by omega)
          rcases hfacts with ⟨e1, e2, e3⟩ | ⟨e1, e2, hfull, e3⟩ | ⟨e1, e2⟩
          · subst e1 e2
            obtain rfl := e3.symm
            have hvv : (cv.toList != cv.toList) = false := by simp
            have tokL2 : True := trivial
            have tokL : True := trivial
            have tokG : True := trivial
            go_wp2_with (first
              | (go_at_call 8; refine (HCUT.out _).mono ?_; rintro e w2 ⟨rfl, hb2⟩; have HB2 := Lib.hid (HB.out.trans (hb2.mono hzw)); have HT2 := Lib.hid (HT.out.ch (Ch.of_below hb2 []) (by simp) (by simp)); have hz2 := hb2.size; clear hb2)
              | (go_at_call 21; have _t := tokL; refine (len_any tb mb m T _ (by exact HT2.out.al _)).mono ?_; rintro e w' ⟨rfl, rfl⟩; clear tokL)
              | (go_at_call 22; have _t := tokG; refine (get_v tb mb m T ck gv _ _ hckm (by exact HT2.out.al _) HGV.out HZ.out).mono ?_; rintro e w' ⟨rfl, rfl⟩; clear tokG)
              | (go_at_call 14; refine (HPUT.out _ (by exact HT2.out.al _)).mono ?_; rintro e w4 ⟨rfl, ht, hc⟩; have HT4 := Lib.hid ht; have HB4 := Lib.hid (((HB2.out.alloc (by omega) _)).trans (hc.below (by simp; omega) (by simp; omega))); have ob : Blk w4 w2.heap.size 23 #[.int .i64 x.kd, .string ck, .string cv] := Blk.ch (Blk.new _ _ _) hc (by simp; omega); have o0 : w4.cell? ⟨w2.heap.size, 0, none⟩ = some (.int .i64 x.kd) := ob.cell 0; have o1 : w4.cell? ⟨w2.heap.size, 1, none⟩ = some (.string ck) := ob.cell 1; have o2 : w4.cell? ⟨w2.heap.size, 2, none⟩ = some (.string cv) := ob.cell 2; clear ht hc ob)
              | (go_at_call 22; refine (get_v tb mb m _ ck _ _ _ hckm HT4.out HGV2.out HZ2.out).mono ?_; rintro e w' ⟨rfl, rfl⟩)
              | (go_at_call 21; refine (len_any tb mb m _ _ HT4.out).mono ?_; rintro e w' ⟨rfl, rfl⟩))
            refine (trows_c tb mb m T2 T2 ⟨#[]⟩ _ (by omega) HG2.out.1 (fun p hp => by have := (HG2.out.2.2 p hp).1; unfold maxLen; omega) HT4.out (rowsFrom_all T2)).mono ?_
            rintro e w5 ⟨A5, c5, rfl, ho5, hb5⟩
            have hz4 := HB4.out.size
            have hz5 := hb5.size
            have HT5 := Lib.hid (HT4.out.ch (Ch.of_below hb5 []) (by simp) (by simp))
            have S5 := Lib.hid (Sl.of_own rowC_len ho5)
            have HB5 := Lib.hid (HB4.out.trans (hb5.mono hz4))
            clear ho5 hb5 o0 o1 o2
            go_wp2_with fail
            go_loopw [20] (fun i wq => ∃ j q : Nat, j ≤ T2.length ∧ i = .int .i64 ((j : Int) + 1) ∧ wq = w5.drewN q) (fun i _ => (T2.length + 1) - (intOf i).toNat)
            case atStart => exact ⟨0, 0, Nat.zero_le _, rfl, rfl⟩
            case round =>
              obtain ⟨j, q, hj, rfl, rfl⟩ := hrel
              by_cases hjl : j + 1 < T2.length
              · obtain ⟨b5, off5, rfl, hbB5, hc5⟩ := S5.out.at_ (i := j) (by omega)
                obtain ⟨b6, off6, e6, hbB6, hc6⟩ := S5.out.at_ (i := j + 1) hjl
                injection e6 with e6
                injection e6 with e1 e2
                subst e1 e2
                have HLS := Lib.hid (srt_at HG2.out.1 hjl)
                have hsz1 := (HG2.out.2.2 _ (List.getElem_mem (show j < T2.length by omega))).1
                have hsz2 := (HG2.out.2.2 _ (List.getElem_mem hjl)).1
                generalize T2[j] = p at hc5 HLS hsz1
                generalize T2[j + 1] = p' at hc6 HLS hsz2
                have d0 : w5.cell? ⟨b5, off5 + j * 2, none⟩ = some (.string p.1) := hc5 0 _ rfl
                have d1 : w5.cell? ⟨b5, off5 + (j + 1) * 2, none⟩ = some (.string p'.1) := hc6 0 _ rfl
                have q1 : p.1.size ≤ maxLen := by unfold maxLen; omega
                have q2 : p'.1.size ≤ maxLen := by unfold maxLen; omega
                have q3 : (0 : Int) ≤ (j : Int) := by omega
                have q4 : (j : Int) < (T2.length : Int) := by omega
                have q5 : (j : Int) + 1 < (T2.length : Int) := by omega
                have q6 : IntKind.i64.wrap ((j : Int) + 1 - 1) = (j : Int) := by rw [IntWalk.i64_in _ (by omega)]; omega
                clear hc5 hc6 hsz1 hsz2
                go_wp2_with fail
                go_quiet (((go_at_call 23; exact quiet_add (rLess_v p.1 p'.1 true _ q1 q2 HLS.out))))
                go_wp2_with fail
                go_roundw
                case rel => exact ⟨j + 1, _, by omega, by go_num, by first | rfl | rw [World.drewN_drewN]⟩
                case measure => simp [intOf]; omega
              · go_wp2_with fail
                go_roundw
                case rel => exact ⟨k + 1, T2, by omega, by omega, by go_num, HT5.out.ch (Ch.drewN [] _ _) (by simp) (by simp), HG2, HB5.out.trans ((Ch.drewN [] _ _).below (by omega) (by simp))⟩
                case measure => simp [intOf]; omega
          · subst e1 e3
            obtain rfl := e2.symm
            have hlt9 : decide ((T.length : Int) < m) = false := decide_eq_false (by omega)
            have tokL2 : True := trivial
            have tokL : True := trivial
            have tokG : True := trivial
            go_wp2_with (first
              | (go_at_call 8; refine (HCUT.out _).mono ?_; rintro e w2 ⟨rfl, hb2⟩; have HB2 := Lib.hid (HB.out.trans (hb2.mono hzw)); have HT2 := Lib.hid (HT.out.ch (Ch.of_below hb2 []) (by simp) (by simp)); have hz2 := hb2.size; clear hb2)
              | (go_at_call 21; have _t := tokL; refine (len_any tb mb m T _ (by exact HT2.out.al _)).mono ?_; rintro e w' ⟨rfl, rfl⟩; clear tokL)
              | (go_at_call 22; have _t := tokG; refine (get_v tb mb m T ck gv _ _ hckm (by exact HT2.out.al _) HGV.out HZ.out).mono ?_; rintro e w' ⟨rfl, rfl⟩; clear tokG)
              | (go_at_call 14; refine (HPUT.out _ (by exact HT2.out.al _)).mono ?_; rintro e w4 ⟨rfl, ht, hc⟩; have HT4 := Lib.hid ht; have HB4 := Lib.hid (((HB2.out.alloc (by omega) _)).trans (hc.below (by simp; omega) (by simp; omega))); have ob : Blk w4 w2.heap.size 23 #[.int .i64 x.kd, .string ck, .string cv] := Blk.ch (Blk.new _ _ _) hc (by simp; omega); have o0 : w4.cell? ⟨w2.heap.size, 0, none⟩ = some (.int .i64 x.kd) := ob.cell 0; have o1 : w4.cell? ⟨w2.heap.size, 1, none⟩ = some (.string ck) := ob.cell 1; have o2 : w4.cell? ⟨w2.heap.size, 2, none⟩ = some (.string cv) := ob.cell 2; clear ht hc ob)
              | (go_at_call 22; refine (get_v tb mb m _ ck _ _ _ hckm HT4.out HGV2.out HZ2.out).mono ?_; rintro e w' ⟨rfl, rfl⟩)
              | (go_at_call 21; refine (len_any tb mb m _ _ HT4.out).mono ?_; rintro e w' ⟨rfl, rfl⟩))
            refine (trows_c tb mb m T T ⟨#[]⟩ _ (by omega) HG2.out.1 (fun p hp => by have := (HG2.out.2.2 p hp).1; unfold maxLen; omega) HT4.out (rowsFrom_all T)).mono ?_
            rintro e w5 ⟨A5, c5, rfl, ho5, hb5⟩
            have hz4 := HB4.out.size
            have hz5 := hb5.size
            have HT5 := Lib.hid (HT4.out.ch (Ch.of_below hb5 []) (by simp) (by simp))
            have S5 := Lib.hid (Sl.of_own rowC_len ho5)
            have HB5 := Lib.hid (HB4.out.trans (hb5.mono hz4))
            clear ho5 hb5 o0 o1 o2
            go_wp2_with fail
            go_loopw [20] (fun i wq => ∃ j q : Nat, j ≤ T.length ∧ i = .int .i64 ((j : Int) + 1) ∧ wq = w5.drewN q) (fun i _ => (T.length + 1) - (intOf i).toNat)
            case atStart => exact ⟨0, 0, Nat.zero_le _, rfl, rfl⟩
            case round =>
              obtain ⟨j, q, hj, rfl, rfl⟩ := hrel
              by_cases hjl : j + 1 < T.length
              · obtain ⟨b5, off5, rfl, hbB5, hc5⟩ := S5.out.at_ (i := j) (by omega)
                obtain ⟨b6, off6, e6, hbB6, hc6⟩ := S5.out.at_ (i := j + 1) hjl
                injection e6 with e6
                injection e6 with e1 e2
                subst e1 e2
                have HLS := Lib.hid (srt_at HG2.out.1 hjl)
                have hsz1 := (HG2.out.2.2 _ (List.getElem_mem (show j < T.length by omega))).1
                have hsz2 := (HG2.out.2.2 _ (List.getElem_mem hjl)).1
                generalize T[j] = p at hc5 HLS hsz1
                generalize T[j + 1] = p' at hc6 HLS hsz2
                have d0 : w5.cell? ⟨b5, off5 + j * 2, none⟩ = some (.string p.1) := hc5 0 _ rfl
                have d1 : w5.cell? ⟨b5, off5 + (j + 1) * 2, none⟩ = some (.string p'.1) := hc6 0 _ rfl
                have q1 : p.1.size ≤ maxLen := by unfold maxLen; omega
                have q2 : p'.1.size ≤ maxLen := by unfold maxLen; omega
                have q3 : (0 : Int) ≤ (j : Int) := by omega
                have q4 : (j : Int) < (T.length : Int) := by omega
                have q5 : (j : Int) + 1 < (T.length : Int) := by omega
                have q6 : IntKind.i64.wrap ((j : Int) + 1 - 1) = (j : Int) := by rw [IntWalk.i64_in _ (by omega)]; omega
                clear hc5 hc6 hsz1 hsz2
                go_wp2_with fail
                go_quiet (((go_at_call 23; exact quiet_add (rLess_v p.1 p'.1 true _ q1 q2 HLS.out))))
                go_wp2_with fail
                go_roundw
                case rel => exact ⟨j + 1, _, by omega, by go_num, by first | rfl | rw [World.drewN_drewN]⟩
                case measure => simp [intOf]; omega
              · go_wp2_with fail
                go_roundw
                case rel => exact ⟨k + 1, T, by omega, by omega, by go_num, HT5.out.ch (Ch.drewN [] _ _) (by simp) (by simp), HG2, HB5.out.trans ((Ch.drewN [] _ _).below (by omega) (by simp))⟩
                case measure => simp [intOf]; omega
          · subst e1
            obtain rfl := e2.symm
            have tokL2 : True := trivial
            have tokL : True := trivial
            have tokG : True := trivial
            go_wp2_with (first
              | (go_at_call 8; refine (HCUT.out _).mono ?_; rintro e w2 ⟨rfl, hb2⟩; have HB2 := Lib.hid (HB.out.trans (hb2.mono hzw)); have HT2 := Lib.hid (HT.out.ch (Ch.of_below hb2 []) (by simp) (by simp)); have hz2 := hb2.size; clear hb2)
              | (go_at_call 21; have _t := tokL; refine (len_any tb mb m T _ (by exact HT2.out.al _)).mono ?_; rintro e w' ⟨rfl, rfl⟩; clear tokL)
              | (go_at_call 22; have _t := tokG; refine (get_v tb mb m T ck gv _ _ hckm (by exact HT2.out.al _) HGV.out HZ.out).mono ?_; rintro e w' ⟨rfl, rfl⟩; clear tokG)
              | (go_at_call 14; refine (HPUT.out _ (by exact HT2.out.al _)).mono ?_; rintro e w4 ⟨rfl, ht, hc⟩; have HT4 := Lib.hid ht; have HB4 := Lib.hid (((HB2.out.alloc (by omega) _)).trans (hc.below (by simp; omega) (by simp; omega))); have ob : Blk w4 w2.heap.size 23 #[.int .i64 x.kd, .string ck, .string cv] := Blk.ch (Blk.new _ _ _) hc (by simp; omega); have o0 : w4.cell? ⟨w2.heap.size, 0, none⟩ = some (.int .i64 x.kd) := ob.cell 0; have o1 : w4.cell? ⟨w2.heap.size, 1, none⟩ = some (.string ck) := ob.cell 1; have o2 : w4.cell? ⟨w2.heap.size, 2, none⟩ = some (.string cv) := ob.cell 2; clear ht hc ob)
              | (go_at_call 22; refine (get_v tb mb m _ ck _ _ _ hckm HT4.out HGV2.out HZ2.out).mono ?_; rintro e w' ⟨rfl, rfl⟩)
              | (go_at_call 21; refine (len_any tb mb m _ _ HT4.out).mono ?_; rintro e w' ⟨rfl, rfl⟩))
            refine (trows_c tb mb m T T ⟨#[]⟩ _ (by omega) HG2.out.1 (fun p hp => by have := (HG2.out.2.2 p hp).1; unfold maxLen; omega) HT4.out (rowsFrom_all T)).mono ?_
            rintro e w5 ⟨A5, c5, rfl, ho5, hb5⟩
            have hz4 := HB4.out.size
            have hz5 := hb5.size
            have HT5 := Lib.hid (HT4.out.ch (Ch.of_below hb5 []) (by simp) (by simp))
            have S5 := Lib.hid (Sl.of_own rowC_len ho5)
            have HB5 := Lib.hid (HB4.out.trans (hb5.mono hz4))
            clear ho5 hb5 o0 o1 o2
            go_wp2_with fail
            go_loopw [20] (fun i wq => ∃ j q : Nat, j ≤ T.length ∧ i = .int .i64 ((j : Int) + 1) ∧ wq = w5.drewN q) (fun i _ => (T.length + 1) - (intOf i).toNat)
            case atStart => exact ⟨0, 0, Nat.zero_le _, rfl, rfl⟩
            case round =>
              obtain ⟨j, q, hj, rfl, rfl⟩ := hrel
              by_cases hjl : j + 1 < T.length
              · obtain ⟨b5, off5, rfl, hbB5, hc5⟩ := S5.out.at_ (i := j) (by omega)
                obtain ⟨b6, off6, e6, hbB6, hc6⟩ := S5.out.at_ (i := j + 1) hjl
                injection e6 with e6
                injection e6 with e1 e2
                subst e1 e2
                have HLS := Lib.hid (srt_at HG2.out.1 hjl)
                have hsz1 := (HG2.out.2.2 _ (List.getElem_mem (show j < T.length by omega))).1
                have hsz2 := (HG2.out.2.2 _ (List.getElem_mem hjl)).1
                generalize T[j] = p at hc5 HLS hsz1
                generalize T[j + 1] = p' at hc6 HLS hsz2
                have d0 : w5.cell? ⟨b5, off5 + j * 2, none⟩ = some (.string p.1) := hc5 0 _ rfl
                have d1 : w5.cell? ⟨b5, off5 + (j + 1) * 2, none⟩ = some (.string p'.1) := hc6 0 _ rfl
                have q1 : p.1.size ≤ maxLen := by unfold maxLen; omega
                have q2 : p'.1.size ≤ maxLen := by unfold maxLen; omega
                have q3 : (0 : Int) ≤ (j : Int) := by omega
                have q4 : (j : Int) < (T.length : Int) := by omega
                have q5 : (j : Int) + 1 < (T.length : Int) := by omega
                have q6 : IntKind.i64.wrap ((j : Int) + 1 - 1) = (j : Int) := by rw [IntWalk.i64_in _ (by omega)]; omega
                clear hc5 hc6 hsz1 hsz2
                go_wp2_with fail
                go_quiet (((go_at_call 23; exact quiet_add (rLess_v p.1 p'.1 true _ q1 q2 HLS.out))))
                go_wp2_with fail
                go_roundw
                case rel => exact ⟨j + 1, _, by omega, by go_num, by first | rfl | rw [World.drewN_drewN]⟩
                case measure => simp [intOf]; omega
              · go_wp2_with fail
                go_roundw
                case rel => exact ⟨k + 1, T, by omega, by omega, by go_num, HT5.out.ch (Ch.drewN [] _ _) (by simp) (by simp), HG2, HB5.out.trans ((Ch.drewN [] _ _).below (by omega) (by simp))⟩
                case measure => simp [intOf]; omega
      · go_wp2_with fail
        refine (fixed_any _).mono ?_
        rintro e w7 ⟨rfl, hb7⟩
        go_wp2_with fail
        go_ret
        exact ⟨rfl, HB.out.trans (hb7.mono hzw)⟩
    · go_wp2_with fail
      refine (fixed_any _).mono ?_
      rintro e w7 ⟨rfl, hb7⟩
      go_wp2_with fail
      go_ret
      exact ⟨rfl, HB.out.trans (hb7.mono hzw)⟩
end Go.Proofs.Ythmkoehocjfjgaa
