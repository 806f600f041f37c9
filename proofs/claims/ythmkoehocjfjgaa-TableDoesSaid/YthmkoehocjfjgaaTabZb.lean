/- TableDoes: the walk, of 1 to 16 rows. -/
import Derived.Test.YthmkoehocjfjgaaTabY

namespace Go.Proofs.Ythmkoehocjfjgaa
open Go.RowKit Go.Maps Go.WideMaps Go.Sort Go.Shelf

set_option maxRecDepth 100000 in
set_option maxHeartbeats 32000000 in
theorem does_low (most : Int) (A : Option Addr) (l : List Op3) (c : Nat) (fr : ByteArray) (w : World) (h1 : 1 ≤ most) (h2 : most ≤ 16) (hfr : fr.size ≤ maxLen) (hl : l.length ≤ maxLen) (hch : ∀ x ∈ l, x.came) (hs : Sl w w.heap.size 3 Op3.cells A l) :
    Calls Try.prog 7 #[.int .i64 most, .slice A l.length c, .string fr] w fun e w' => e = .returned (.bool true) ∧ Below w.heap.size w w' := by
  have _u : True := (fun _ _ _ => trivial) hl h1 h2
  unfold maxLen at hl
  have HFR := Lib.hid hfr
  have HS := Lib.hid hs
  have HCH := Lib.hid hch
  clear hs hch hfr
  go_enter Try.func7, Try.ntmps7
  go_wp2_with fail
  refine (new_ok most _ (by omega) (by omega)).mono ?_
  rintro e w1 ⟨tb0, mb0, rfl, hta, htb0, hmb0, hb1⟩
  have HTA := Lib.hid hta
  have HB1 := Lib.hid hb1
  have hz1 := hb1.size
  clear hta hb1
  go_wp2_with fail
  refine (rnew_ok most _ (by omega) (by omega)).mono ?_
  rintro e w2 ⟨tr, rfl, hr2, htr, hb2⟩
  have HT2 := Lib.hid (HTA.out.ch (Ch.of_below hb2 []) (by simp) (by simp))
  have HB2 := Lib.hid (HB1.out.trans (hb2.mono hz1))
  have HR2 := Lib.hid hr2
  have hz2 := hb2.size
  clear hr2 hb2
  go_wp2_with fail
  go_loopw [8, 12] (fun tv i wr => ∃ (k : Nat) (T : List KV) (tb mb : Nat), k ≤ l.length ∧ k ≤ 40 ∧ i = .int .i64 k ∧ tv = .pointer (some ⟨tb, 0, none⟩) ∧ w.heap.size ≤ mb ∧ Hid (TabAt wr tb mb (most) T) ∧ Hid (RT wr tr (most) T) ∧ Hid (Good (most) T) ∧ Hid (Below w.heap.size w wr)) (fun _ i _ => l.length - (intOf i).toNat)
  case atStart => exact ⟨0, [], tb0, mb0, Nat.zero_le _, Nat.zero_le _, rfl, rfl, hmb0, HT2, HR2, Good.nil _ (by omega), HB2⟩
  case round =>
    obtain ⟨k, T, tb, mb, hk, hk40, rfl, rfl, hmb, HT, HR, HG, HB⟩ := hrel
    have hzw := HB.out.size
    have hmbw : mb < wr.heap.size := HT.out.2.lt
    have htbw : tb < wr.heap.size := HT.out.1.lt
    have htrw : tr < wr.heap.size := HR.out.lt
    have hT16 : (T.length : Int) ≤ most := HG.out.2.1
    have hT1000 : T.length ≤ 1000 := by omega
    have HOK := Lib.hid (HG.out.okT (by omega))
    by_cases hlt : k < l.length ∧ k < 40
    · obtain ⟨hlt, hlt4⟩ := hlt
      obtain ⟨b, off, rfl, hbB, hc⟩ := (HS.out.below HB.out).at_ hlt
      have hx := HCH.out _ (List.getElem_mem hlt)
      generalize l[k] = x at hc hx
      have hc0 : wr.cell? ⟨b, off + k * 3, none⟩ = some (.int .i64 x.kd) := hc 0 _ rfl
      have hc1 : wr.cell? ⟨b, off + k * 3 + 1, none⟩ = some (.string x.ke) := hc 1 _ rfl
      have hc2 : wr.cell? ⟨b, off + k * 3 + 2, none⟩ = some (.string x.va) := hc 2 _ rfl
      clear hc
      have hcut := fun W => cut_any x W hx
      have hck : (cutB 70 x.ke).size ≤ 70 := cutB_size (n := 70) x.ke
      have hcv : (cutB 2100 x.va).size ≤ 2100 := cutB_size (n := 2100) x.va
      have hckm : (cutB 70 x.ke).size ≤ maxLen := by unfold maxLen; omega
      have hcvm : (cutB 2100 x.va).size ≤ maxLen := by unfold maxLen; omega
      generalize cutB 70 x.ke = ck at hcut hck hckm
      generalize cutB 2100 x.va = cv at hcut hcv hcvm
      have HCUT := Lib.hid hcut
      clear hcut hx hck hcv
      have ARMCUT : True := trivial
      by_cases hk0 : x.kd = 0
      · have hkb0 : (x.kd == 0) = true := beq_iff_eq.2 hk0
        have HG2 := Lib.hid (HG.out.put ck cv)
        have hput := fun W h => put_any tb mb (most) T ck cv W hckm hcvm hT1000 HG.out.1 h
        have hrput := fun W h => rput_any tr (most) T ck cv W hckm hcvm HOK.out HG.out.1 h
        generalize putR (most) ck cv T = T2 at hput hrput HG2
        generalize putE (most) ck cv T = z at hput hrput
        have HPUT := Lib.hid hput
        have HRPUT := Lib.hid hrput
        have hzz : ((z : Int) == z) = true := by simp
        clear hput hrput hk0
        go_wp2_with (go_at_call 8; refine (HCUT.out _).mono ?_; rintro e w3 ⟨rfl, hb3⟩; have HB3 := Lib.hid (HB.out.trans (hb3.mono hzw)); have hz3 := hb3.size; have HC3 := Lib.hid (Ch.of_below hb3 []); clear hb3 hc0 hc1 hc2)
        have xb : Blk (w3.alloc (.cells #[.int .i64 x.kd, .string ck, .string cv] 23)) w3.heap.size 23 #[.int .i64 x.kd, .string ck, .string cv] := Blk.new _ _ _
        have HST0 : Hid (DS w.heap.size w w3.heap.size #[.int .i64 x.kd, .string ck, .string cv] tb mb tr (most) T T (w3.alloc (.cells #[.int .i64 x.kd, .string ck, .string cv] 23)).drew) :=
          ⟨(HT.out.ch HC3.out (by simp) (by simp)).al _, (HR.out.ch0 HC3.out).ch0 (Ch.dr (Ch.alloc [] _ _)), xb, (HB3.out.alloc (by omega) _).drew⟩
        go_region_held3 (fun w' => w'.cell? ⟨w3.heap.size, 1, none⟩ = some (.string ck) ∧ w'.cell? ⟨w3.heap.size, 2, none⟩ = some (.string cv))
          (first
            | go_keep
            | (go_split_ands
               refine ⟨?_, ?_⟩
               · assumption
               · assumption))
          ((first
            | (go_at_call 14; refine (HPUT.out _ HST0.out.a).mono ?_; rintro e w4 ⟨rfl, ht, hch⟩; have HST4 := Lib.hid (HST0.out.pa (Nat.le_refl _) hmb ht hch); have k1 : w4.cell? ⟨w3.heap.size, 1, none⟩ = some (.string ck) := HST4.out.x.cell 1; have k2 : w4.cell? ⟨w3.heap.size, 2, none⟩ = some (.string cv) := HST4.out.x.cell 2; clear ht hch)
            | (go_at_call 26; refine (HRPUT.out _ HST4.out.r).mono ?_; rintro e w5 ⟨rfl, ht, hch⟩; have HSTZ := Lib.hid (HST4.out.pr (Nat.le_refl _) (by omega) ht hch); have q1 : w5.cell? ⟨w3.heap.size, 1, none⟩ = some (.string ck) := HSTZ.out.x.cell 1; have q2 : w5.cell? ⟨w3.heap.size, 2, none⟩ = some (.string cv) := HSTZ.out.x.cell 2; clear ht hch)))
        clear k1 k2
        have e1 := q1
        clear q1 q2
        have HOK2 := Lib.hid (HG2.out.okT (by omega))
        have hTT : T2.length ≤ 1000 := HOK2.out.1
        have hkok : ∀ p ∈ T2, p.1.size ≤ maxLen := fun p hp => (HOK2.out.2 p hp).1
        obtain ⟨RF, hRF⟩ : ∃ RF, rowsFrom fr T2 = RF := ⟨_, rfl⟩
        have hRFl : RF.length ≤ T2.length := by rw [← hRF]; exact List.length_filter_le _ _
        obtain ⟨gv, hgv⟩ : ∃ g, (getT ck T2).getD ByteArray.empty = g := ⟨_, rfl⟩
        obtain ⟨de, hde⟩ : ∃ z, delE ck T2 = z := ⟨_, rfl⟩
        have HRF := Lib.hid hRF
        have HGV := Lib.hid hgv
        have HDE := Lib.hid hde
        have HKOK := Lib.hid hkok
        obtain ⟨Ar, cr, hbr, hor⟩ := HSTZ.out.r
        have DZ : Hid (DT w.heap.size w w3.heap.size #[.int .i64 x.kd, .string ck, .string cv] tb mb tr (most) T2 Ar cr w5) := ⟨HSTZ.out, hbr, Sl.of_own rowC_len hor⟩
        have D0 : Hid (DT w.heap.size w w3.heap.size #[.int .i64 x.kd, .string ck, .string cv] tb mb tr (most) T2 Ar cr w5.drew) := DZ.out.bel (Nat.le_refl _) (Below.refl _ _).drew
        have r0 : w5.cell? ⟨tr, 0, none⟩ = some (.slice Ar T2.length cr) := hbr.cell 0
        have r0d : w5.drew.cell? ⟨tr, 0, none⟩ = some (.slice Ar T2.length cr) := D0.out.k.cell 0
        have hln : ((T2.length : Int) != (T2.length : Int)) = false := by simp
        have hgn : (gv.toList != gv.toList) = false := by simp
        have hdn : ((de : Int) != de) = false := by simp
        have tokR : True := trivial
        have tokS : True := trivial
        have tokr : True := trivial
        clear hRF hgv hde hkok hbr hor
        go_wp2_with fail
        go_region_held3 (fun w' => w'.cell? ⟨tr, 0, none⟩ = some (.slice Ar T2.length cr))
          (first
            | go_keep
            | assumption)
          ((first
            | (go_at_call 21; refine (len_any tb mb (most) T2 _ (by exact D0.out.d.a)).mono ?_; rintro e w' ⟨rfl, rfl⟩)
            | (go_at_call 19; have _t := tokR; refine (trows_c tb mb (most) T2 T2 ⟨#[]⟩ _ hTT HG2.out.1 HKOK.out (by exact D0.out.d.a) (rowsFrom_all T2)).mono ?_; rintro e wa ⟨Aa, ca, rfl, hoa, hba⟩; have Da := Lib.hid (D0.out.bel (Nat.le_refl _) hba); have ra : wa.cell? ⟨tr, 0, none⟩ = some (.slice Ar T2.length cr) := Da.out.k.cell 0; have Sa := Lib.hid (Sl.of_own rowC_len hoa); clear hoa hba tokR)
            | (go_at_call 18; have _t := tokr; refine (rows_any Aa T2 ca _ (by omega) Sa.out).mono ?_; rintro e wb ⟨vb, rfl, hob, hbb⟩; obtain ⟨Ab, cb, rfl⟩ := own_form hob; have Db := Lib.hid (Da.out.bel (Nat.le_refl _) hbb); have rb : wb.cell? ⟨tr, 0, none⟩ = some (.slice Ar T2.length cr) := Db.out.k.cell 0; have Sb := Lib.hid (Sl.of_own rowC_len hob); clear hob hbb tokr)
            | (go_at_call 17; have _t := tokS; refine (same_c Ab Ar T2 T2 cb cr _ rfl (by omega) Sb.out Db.out.s).mono ?_; rintro e wc ⟨rfl, hbc⟩; have Dc := Lib.hid (Db.out.bel (Nat.le_refl _) hbc); have rc : wc.cell? ⟨tr, 0, none⟩ = some (.slice Ar T2.length cr) := Dc.out.k.cell 0; clear hbc tokS)
            | (go_at_call 19; refine (trows_c tb mb (most) T2 RF fr _ hTT HG2.out.1 HKOK.out Dc.out.d.a HRF.out).mono ?_; rintro e wd ⟨Ad, cd, rfl, hod, hbd⟩; have Dd := Lib.hid (Dc.out.bel (Nat.le_refl _) hbd); have rd : wd.cell? ⟨tr, 0, none⟩ = some (.slice Ar T2.length cr) := Dd.out.k.cell 0; have Sd := Lib.hid (Sl.of_own rowC_len hod); clear hod hbd)
            | (go_at_call 18; refine (rows_any Ad RF cd _ (by omega) Sd.out).mono ?_; rintro e we ⟨ve, rfl, hoe, hbe⟩; obtain ⟨Ae, ce, rfl⟩ := own_form hoe; have De := Lib.hid (Dd.out.bel (Nat.le_refl _) hbe); have re : we.cell? ⟨tr, 0, none⟩ = some (.slice Ar T2.length cr) := De.out.k.cell 0; have Se := Lib.hid (Sl.of_own rowC_len hoe); clear hoe hbe)
            | (go_at_call 30; refine (rrows_any tr (most) T2 RF fr _ HFR.out HOK2.out HG2.out.1 De.out.d.r HRF.out).mono ?_; rintro e wf ⟨Af, cf, rfl, hsf, hbf⟩; have Df := Lib.hid (De.out.bel (Nat.le_refl _) hbf); have rf : wf.cell? ⟨tr, 0, none⟩ = some (.slice Ar T2.length cr) := Df.out.k.cell 0; have Sf := Lib.hid hsf; have Sef := Lib.hid ((Se.out.below hbf).more hbf.size); clear hsf hbf)
            | (go_at_call 17; refine (same_c Ae Af RF RF ce cf _ rfl (by omega) Sef.out Sf.out).mono ?_; rintro e wg ⟨rfl, hbg⟩; have Dg := Lib.hid (Df.out.bel (Nat.le_refl _) hbg); have rg : wg.cell? ⟨tr, 0, none⟩ = some (.slice Ar T2.length cr) := Dg.out.k.cell 0; have xg : wg.cell? ⟨w3.heap.size, 1, none⟩ = some (.string ck) := Dg.out.d.x.cell 1; clear hbg)))
        go_wp2_with (first
          | (go_at_call 22; refine (get_v tb mb (most) T2 ck gv de _ hckm (by exact Dg.out.d.a) HGV.out HDE.out).mono ?_; rintro e w' ⟨rfl, rfl⟩)
          | (go_at_call 31; refine (rget_v tr (most) T2 ck gv de _ hckm HOK2.out HG2.out.1 (by exact Dg.out.d.r) HGV.out HDE.out).mono ?_; rintro e w' ⟨rfl, ng, rfl⟩))
        go_roundw
        case rel => exact ⟨k + 1, T2, tb, mb, by omega, by omega, by go_num, rfl, hmb, Dg.out.d.a.ch (Ch.drewN [] _ _) (by simp) (by simp), Dg.out.d.r.ch0 (Ch.drewN [] _ _), HG2, Dg.out.d.bl.trans ((Ch.drewN [] _ _).below (by have := Dg.out.d.bl.size; omega) (by simp))⟩
        case measure => simp [intOf]; omega
      · have hkb0 : (x.kd == 0) = false := beq_eq_false_iff_ne.2 hk0
        by_cases hk1 : x.kd = 1
        · have hkb1 : (x.kd == 1) = true := beq_iff_eq.2 hk1
          have HG2 := Lib.hid (HG.out.del ck)
          have hput := fun W h => del_any tb mb (most) T ck W hckm h
          have hrput := fun W h => rdel_any tr (most) T ck W hckm HOK.out HG.out.1 h
          generalize delT ck T = T2 at hput hrput HG2
          generalize delE ck T = z at hput hrput
          have HPUT := Lib.hid hput
          have HRPUT := Lib.hid hrput
          have hzz : ((z : Int) == z) = true := by simp
          clear hput hrput hk0 hk1
          go_wp2_with (go_at_call 8; refine (HCUT.out _).mono ?_; rintro e w3 ⟨rfl, hb3⟩; have HB3 := Lib.hid (HB.out.trans (hb3.mono hzw)); have hz3 := hb3.size; have HC3 := Lib.hid (Ch.of_below hb3 []); clear hb3 hc0 hc1 hc2)
          have xb : Blk (w3.alloc (.cells #[.int .i64 x.kd, .string ck, .string cv] 23)) w3.heap.size 23 #[.int .i64 x.kd, .string ck, .string cv] := Blk.new _ _ _
          have HST0 : Hid (DS w.heap.size w w3.heap.size #[.int .i64 x.kd, .string ck, .string cv] tb mb tr (most) T T (w3.alloc (.cells #[.int .i64 x.kd, .string ck, .string cv] 23)).drew) :=
            ⟨(HT.out.ch HC3.out (by simp) (by simp)).al _, (HR.out.ch0 HC3.out).ch0 (Ch.dr (Ch.alloc [] _ _)), xb, (HB3.out.alloc (by omega) _).drew⟩
          go_region_held3 (fun w' => w'.cell? ⟨w3.heap.size, 1, none⟩ = some (.string ck) ∧ w'.cell? ⟨w3.heap.size, 2, none⟩ = some (.string cv))
            (first
              | go_keep
              | (go_split_ands
                 refine ⟨?_, ?_⟩
                 · assumption
                 · assumption))
            ((first
              | (go_at_call 16; refine (HPUT.out _ HST0.out.a).mono ?_; rintro e w4 ⟨rfl, ht, hch⟩; have HST4 := Lib.hid (HST0.out.pa (Nat.le_refl _) hmb ht hch); have k1 : w4.cell? ⟨w3.heap.size, 1, none⟩ = some (.string ck) := HST4.out.x.cell 1; have k2 : w4.cell? ⟨w3.heap.size, 2, none⟩ = some (.string cv) := HST4.out.x.cell 2; clear ht hch)
              | (go_at_call 27; refine (HRPUT.out _ HST4.out.r).mono ?_; rintro e w5 ⟨rfl, ht, hch⟩; have HSTZ := Lib.hid (HST4.out.pr (Nat.le_refl _) (by omega) ht hch); have q1 : w5.cell? ⟨w3.heap.size, 1, none⟩ = some (.string ck) := HSTZ.out.x.cell 1; have q2 : w5.cell? ⟨w3.heap.size, 2, none⟩ = some (.string cv) := HSTZ.out.x.cell 2; clear ht hch)))
          clear k1 k2
          have e1 := q1
          clear q1 q2
          have HOK2 := Lib.hid (HG2.out.okT (by omega))
          have hTT : T2.length ≤ 1000 := HOK2.out.1
          have hkok : ∀ p ∈ T2, p.1.size ≤ maxLen := fun p hp => (HOK2.out.2 p hp).1
          obtain ⟨RF, hRF⟩ : ∃ RF, rowsFrom fr T2 = RF := ⟨_, rfl⟩
          have hRFl : RF.length ≤ T2.length := by rw [← hRF]; exact List.length_filter_le _ _
          obtain ⟨gv, hgv⟩ : ∃ g, (getT ck T2).getD ByteArray.empty = g := ⟨_, rfl⟩
          obtain ⟨de, hde⟩ : ∃ z, delE ck T2 = z := ⟨_, rfl⟩
          have HRF := Lib.hid hRF
          have HGV := Lib.hid hgv
          have HDE := Lib.hid hde
          have HKOK := Lib.hid hkok
          obtain ⟨Ar, cr, hbr, hor⟩ := HSTZ.out.r
          have DZ : Hid (DT w.heap.size w w3.heap.size #[.int .i64 x.kd, .string ck, .string cv] tb mb tr (most) T2 Ar cr w5) := ⟨HSTZ.out, hbr, Sl.of_own rowC_len hor⟩
          have D0 : Hid (DT w.heap.size w w3.heap.size #[.int .i64 x.kd, .string ck, .string cv] tb mb tr (most) T2 Ar cr w5.drew) := DZ.out.bel (Nat.le_refl _) (Below.refl _ _).drew
          have r0 : w5.cell? ⟨tr, 0, none⟩ = some (.slice Ar T2.length cr) := hbr.cell 0
          have r0d : w5.drew.cell? ⟨tr, 0, none⟩ = some (.slice Ar T2.length cr) := D0.out.k.cell 0
          have hln : ((T2.length : Int) != (T2.length : Int)) = false := by simp
          have hgn : (gv.toList != gv.toList) = false := by simp
          have hdn : ((de : Int) != de) = false := by simp
          have tokR : True := trivial
          have tokS : True := trivial
          have tokr : True := trivial
          clear hRF hgv hde hkok hbr hor
          go_wp2_with fail
          go_region_held3 (fun w' => w'.cell? ⟨tr, 0, none⟩ = some (.slice Ar T2.length cr))
            (first
              | go_keep
              | assumption)
            ((first
              | (go_at_call 21; refine (len_any tb mb (most) T2 _ (by exact D0.out.d.a)).mono ?_; rintro e w' ⟨rfl, rfl⟩)
              | (go_at_call 19; have _t := tokR; refine (trows_c tb mb (most) T2 T2 ⟨#[]⟩ _ hTT HG2.out.1 HKOK.out (by exact D0.out.d.a) (rowsFrom_all T2)).mono ?_; rintro e wa ⟨Aa, ca, rfl, hoa, hba⟩; have Da := Lib.hid (D0.out.bel (Nat.le_refl _) hba); have ra : wa.cell? ⟨tr, 0, none⟩ = some (.slice Ar T2.length cr) := Da.out.k.cell 0; have Sa := Lib.hid (Sl.of_own rowC_len hoa); clear hoa hba tokR)
              | (go_at_call 18; have _t := tokr; refine (rows_any Aa T2 ca _ (by omega) Sa.out).mono ?_; rintro e wb ⟨vb, rfl, hob, hbb⟩; obtain ⟨Ab, cb, rfl⟩ := own_form hob; have Db := Lib.hid (Da.out.bel (Nat.le_refl _) hbb); have rb : wb.cell? ⟨tr, 0, none⟩ = some (.slice Ar T2.length cr) := Db.out.k.cell 0; have Sb := Lib.hid (Sl.of_own rowC_len hob); clear hob hbb tokr)
              | (go_at_call 17; have _t := tokS; refine (same_c Ab Ar T2 T2 cb cr _ rfl (by omega) Sb.out Db.out.s).mono ?_; rintro e wc ⟨rfl, hbc⟩; have Dc := Lib.hid (Db.out.bel (Nat.le_refl _) hbc); have rc : wc.cell? ⟨tr, 0, none⟩ = some (.slice Ar T2.length cr) := Dc.out.k.cell 0; clear hbc tokS)
              | (go_at_call 19; refine (trows_c tb mb (most) T2 RF fr _ hTT HG2.out.1 HKOK.out Dc.out.d.a HRF.out).mono ?_; rintro e wd ⟨Ad, cd, rfl, hod, hbd⟩; have Dd := Lib.hid (Dc.out.bel (Nat.le_refl _) hbd); have rd : wd.cell? ⟨tr, 0, none⟩ = some (.slice Ar T2.length cr) := Dd.out.k.cell 0; have Sd := Lib.hid (Sl.of_own rowC_len hod); clear hod hbd)
              | (go_at_call 18; refine (rows_any Ad RF cd _ (by omega) Sd.out).mono ?_; rintro e we ⟨ve, rfl, hoe, hbe⟩; obtain ⟨Ae, ce, rfl⟩ := own_form hoe; have De := Lib.hid (Dd.out.bel (Nat.le_refl _) hbe); have re : we.cell? ⟨tr, 0, none⟩ = some (.slice Ar T2.length cr) := De.out.k.cell 0; have Se := Lib.hid (Sl.of_own rowC_len hoe); clear hoe hbe)
              | (go_at_call 30; refine (rrows_any tr (most) T2 RF fr _ HFR.out HOK2.out HG2.out.1 De.out.d.r HRF.out).mono ?_; rintro e wf ⟨Af, cf, rfl, hsf, hbf⟩; have Df := Lib.hid (De.out.bel (Nat.le_refl _) hbf); have rf : wf.cell? ⟨tr, 0, none⟩ = some (.slice Ar T2.length cr) := Df.out.k.cell 0; have Sf := Lib.hid hsf; have Sef := Lib.hid ((Se.out.below hbf).more hbf.size); clear hsf hbf)
              | (go_at_call 17; refine (same_c Ae Af RF RF ce cf _ rfl (by omega) Sef.out Sf.out).mono ?_; rintro e wg ⟨rfl, hbg⟩; have Dg := Lib.hid (Df.out.bel (Nat.le_refl _) hbg); have rg : wg.cell? ⟨tr, 0, none⟩ = some (.slice Ar T2.length cr) := Dg.out.k.cell 0; have xg : wg.cell? ⟨w3.heap.size, 1, none⟩ = some (.string ck) := Dg.out.d.x.cell 1; clear hbg)))
          go_wp2_with (first
            | (go_at_call 22; refine (get_v tb mb (most) T2 ck gv de _ hckm (by exact Dg.out.d.a) HGV.out HDE.out).mono ?_; rintro e w' ⟨rfl, rfl⟩)
            | (go_at_call 31; refine (rget_v tr (most) T2 ck gv de _ hckm HOK2.out HG2.out.1 (by exact Dg.out.d.r) HGV.out HDE.out).mono ?_; rintro e w' ⟨rfl, ng, rfl⟩))
          go_roundw
          case rel => exact ⟨k + 1, T2, tb, mb, by omega, by omega, by go_num, rfl, hmb, Dg.out.d.a.ch (Ch.drewN [] _ _) (by simp) (by simp), Dg.out.d.r.ch0 (Ch.drewN [] _ _), HG2, Dg.out.d.bl.trans ((Ch.drewN [] _ _).below (by have := Dg.out.d.bl.size; omega) (by simp))⟩
          case measure => simp [intOf]; omega
        · have hkb1 : (x.kd == 1) = false := beq_eq_false_iff_ne.2 hk1
          by_cases hk2 : x.kd = 2
          · have hkb2 : (x.kd == 2) = true := beq_iff_eq.2 hk2
            have HG2 := Lib.hid (HG.out.doT cv)
            have hput := fun W h => do_v tb mb (most) T _ cv _ W hcvm hT1000 HG.out.1 h rfl rfl
            have hrput : ∀ W, RT W tr (most) T → Calls Try.prog _ _ W _ := fun W h => rdo_any tr (most) T cv W hcvm HOK.out HG.out.1 h
            unfold RDoAt at hrput
            generalize doT (most) T cv = T2 at hput hrput HG2
            generalize doE (most) T cv = z at hput hrput
            have HPUT := Lib.hid hput
            have HRPUT := Lib.hid hrput
            have hzz : ((z : Int) == z) = true := by simp
            clear hput hrput hk0 hk1 hk2
            go_wp2_with (go_at_call 8; refine (HCUT.out _).mono ?_; rintro e w3 ⟨rfl, hb3⟩; have HB3 := Lib.hid (HB.out.trans (hb3.mono hzw)); have hz3 := hb3.size; have HC3 := Lib.hid (Ch.of_below hb3 []); clear hb3 hc0 hc1 hc2)
            have xb : Blk (w3.alloc (.cells #[.int .i64 x.kd, .string ck, .string cv] 23)) w3.heap.size 23 #[.int .i64 x.kd, .string ck, .string cv] := Blk.new _ _ _
            have HST0 : Hid (DS w.heap.size w w3.heap.size #[.int .i64 x.kd, .string ck, .string cv] tb mb tr (most) T T (w3.alloc (.cells #[.int .i64 x.kd, .string ck, .string cv] 23)).drew) :=
              ⟨(HT.out.ch HC3.out (by simp) (by simp)).al _, (HR.out.ch0 HC3.out).ch0 (Ch.dr (Ch.alloc [] _ _)), xb, (HB3.out.alloc (by omega) _).drew⟩
            go_region_held3 (fun w' => w'.cell? ⟨w3.heap.size, 1, none⟩ = some (.string ck) ∧ w'.cell? ⟨w3.heap.size, 2, none⟩ = some (.string cv))
              (first
                | go_keep
                | (go_split_ands
                   refine ⟨?_, ?_⟩
                   · assumption
                   · assumption))
              ((first
                | (go_at_call 15; refine (HPUT.out _ HST0.out.a).mono ?_; rintro e w4 ⟨rfl, ht, hch⟩; have HST4 := Lib.hid (HST0.out.pa (Nat.le_refl _) hmb ht hch); have k1 : w4.cell? ⟨w3.heap.size, 1, none⟩ = some (.string ck) := HST4.out.x.cell 1; have k2 : w4.cell? ⟨w3.heap.size, 2, none⟩ = some (.string cv) := HST4.out.x.cell 2; clear ht hch)
                | (go_at_call 28; refine (HRPUT.out _ HST4.out.r).mono ?_; rintro e w5 ⟨rfl, ht, hch⟩; have HSTZ := Lib.hid (HST4.out.pr (Nat.le_refl _) (by omega) ht hch); have q1 : w5.cell? ⟨w3.heap.size, 1, none⟩ = some (.string ck) := HSTZ.out.x.cell 1; have q2 : w5.cell? ⟨w3.heap.size, 2, none⟩ = some (.string cv) := HSTZ.out.x.cell 2; clear ht hch)))
            clear k1 k2
            have e1 := q1
            clear q1 q2
            have HOK2 := Lib.hid (HG2.out.okT (by omega))
            have hTT : T2.length ≤ 1000 := HOK2.out.1
            have hkok : ∀ p ∈ T2, p.1.size ≤ maxLen := fun p hp => (HOK2.out.2 p hp).1
            obtain ⟨RF, hRF⟩ : ∃ RF, rowsFrom fr T2 = RF := ⟨_, rfl⟩
            have hRFl : RF.length ≤ T2.length := by rw [← hRF]; exact List.length_filter_le _ _
            obtain ⟨gv, hgv⟩ : ∃ g, (getT ck T2).getD ByteArray.empty = g := ⟨_, rfl⟩
            obtain ⟨de, hde⟩ : ∃ z, delE ck T2 = z := ⟨_, rfl⟩
            have HRF := Lib.hid hRF
            have HGV := Lib.hid hgv
            have HDE := Lib.hid hde
            have HKOK := Lib.hid hkok
            obtain ⟨Ar, cr, hbr, hor⟩ := HSTZ.out.r
            have DZ : Hid (DT w.heap.size w w3.heap.size #[.int .i64 x.kd, .string ck, .string cv] tb mb tr (most) T2 Ar cr w5) := ⟨HSTZ.out, hbr, Sl.of_own rowC_len hor⟩
            have D0 : Hid (DT w.heap.size w w3.heap.size #[.int .i64 x.kd, .string ck, .string cv] tb mb tr (most) T2 Ar cr w5.drew) := DZ.out.bel (Nat.le_refl _) (Below.refl _ _).drew
            have r0 : w5.cell? ⟨tr, 0, none⟩ = some (.slice Ar T2.length cr) := hbr.cell 0
            have r0d : w5.drew.cell? ⟨tr, 0, none⟩ = some (.slice Ar T2.length cr) := D0.out.k.cell 0
            have hln : ((T2.length : Int) != (T2.length : Int)) = false := by simp
            have hgn : (gv.toList != gv.toList) = false := by simp
            have hdn : ((de : Int) != de) = false := by simp
            have tokR : True := trivial
            have tokS : True := trivial
            have tokr : True := trivial
            clear hRF hgv hde hkok hbr hor
            go_wp2_with fail
            go_region_held3 (fun w' => w'.cell? ⟨tr, 0, none⟩ = some (.slice Ar T2.length cr))
              (first
                | go_keep
                | assumption)
              ((first
                | (go_at_call 21; refine (len_any tb mb (most) T2 _ (by exact D0.out.d.a)).mono ?_; rintro e w' ⟨rfl, rfl⟩)
                | (go_at_call 19; have _t := tokR; refine (trows_c tb mb (most) T2 T2 ⟨#[]⟩ _ hTT HG2.out.1 HKOK.out (by exact D0.out.d.a) (rowsFrom_all T2)).mono ?_; rintro e wa ⟨Aa, ca, rfl, hoa, hba⟩; have Da := Lib.hid (D0.out.bel (Nat.le_refl _) hba); have ra : wa.cell? ⟨tr, 0, none⟩ = some (.slice Ar T2.length cr) := Da.out.k.cell 0; have Sa := Lib.hid (Sl.of_own rowC_len hoa); clear hoa hba tokR)
                | (go_at_call 18; have _t := tokr; refine (rows_any Aa T2 ca _ (by omega) Sa.out).mono ?_; rintro e wb ⟨vb, rfl, hob, hbb⟩; obtain ⟨Ab, cb, rfl⟩ := own_form hob; have Db := Lib.hid (Da.out.bel (Nat.le_refl _) hbb); have rb : wb.cell? ⟨tr, 0, none⟩ = some (.slice Ar T2.length cr) := Db.out.k.cell 0; have Sb := Lib.hid (Sl.of_own rowC_len hob); clear hob hbb tokr)
                | (go_at_call 17; have _t := tokS; refine (same_c Ab Ar T2 T2 cb cr _ rfl (by omega) Sb.out Db.out.s).mono ?_; rintro e wc ⟨rfl, hbc⟩; have Dc := Lib.hid (Db.out.bel (Nat.le_refl _) hbc); have rc : wc.cell? ⟨tr, 0, none⟩ = some (.slice Ar T2.length cr) := Dc.out.k.cell 0; clear hbc tokS)
                | (go_at_call 19; refine (trows_c tb mb (most) T2 RF fr _ hTT HG2.out.1 HKOK.out Dc.out.d.a HRF.out).mono ?_; rintro e wd ⟨Ad, cd, rfl, hod, hbd⟩; have Dd := Lib.hid (Dc.out.bel (Nat.le_refl _) hbd); have rd : wd.cell? ⟨tr, 0, none⟩ = some (.slice Ar T2.length cr) := Dd.out.k.cell 0; have Sd := Lib.hid (Sl.of_own rowC_len hod); clear hod hbd)
                | (go_at_call 18; refine (rows_any Ad RF cd _ (by omega) Sd.out).mono ?_; rintro e we ⟨ve, rfl, hoe, hbe⟩; obtain ⟨Ae, ce, rfl⟩ := own_form hoe; have De := Lib.hid (Dd.out.bel (Nat.le_refl _) hbe); have re : we.cell? ⟨tr, 0, none⟩ = some (.slice Ar T2.length cr) := De.out.k.cell 0; have Se := Lib.hid (Sl.of_own rowC_len hoe); clear hoe hbe)
                | (go_at_call 30; refine (rrows_any tr (most) T2 RF fr _ HFR.out HOK2.out HG2.out.1 De.out.d.r HRF.out).mono ?_; rintro e wf ⟨Af, cf, rfl, hsf, hbf⟩; have Df := Lib.hid (De.out.bel (Nat.le_refl _) hbf); have rf : wf.cell? ⟨tr, 0, none⟩ = some (.slice Ar T2.length cr) := Df.out.k.cell 0; have Sf := Lib.hid hsf; have Sef := Lib.hid ((Se.out.below hbf).more hbf.size); clear hsf hbf)
                | (go_at_call 17; refine (same_c Ae Af RF RF ce cf _ rfl (by omega) Sef.out Sf.out).mono ?_; rintro e wg ⟨rfl, hbg⟩; have Dg := Lib.hid (Df.out.bel (Nat.le_refl _) hbg); have rg : wg.cell? ⟨tr, 0, none⟩ = some (.slice Ar T2.length cr) := Dg.out.k.cell 0; have xg : wg.cell? ⟨w3.heap.size, 1, none⟩ = some (.string ck) := Dg.out.d.x.cell 1; clear hbg)))
            go_wp2_with (first
              | (go_at_call 22; refine (get_v tb mb (most) T2 ck gv de _ hckm (by exact Dg.out.d.a) HGV.out HDE.out).mono ?_; rintro e w' ⟨rfl, rfl⟩)
              | (go_at_call 31; refine (rget_v tr (most) T2 ck gv de _ hckm HOK2.out HG2.out.1 (by exact Dg.out.d.r) HGV.out HDE.out).mono ?_; rintro e w' ⟨rfl, ng, rfl⟩))
            go_roundw
            case rel => exact ⟨k + 1, T2, tb, mb, by omega, by omega, by go_num, rfl, hmb, Dg.out.d.a.ch (Ch.drewN [] _ _) (by simp) (by simp), Dg.out.d.r.ch0 (Ch.drewN [] _ _), HG2, Dg.out.d.bl.trans ((Ch.drewN [] _ _).below (by have := Dg.out.d.bl.size; omega) (by simp))⟩
            case measure => simp [intOf]; omega
          · have hkb2 : (x.kd == 2) = false := beq_eq_false_iff_ne.2 hk2
            have HG2 := HG
            clear hk0 hk1 hk2
            have hsp := fun W h => put_any tb mb (most) T ⟨#[115, 112, 111, 105, 108, 116]⟩ ⟨#[120]⟩ W (by unfold maxLen; decide) (by unfold maxLen; decide) hT1000 HG.out.1 h
            generalize putR (most) ⟨#[115, 112, 111, 105, 108, 116]⟩ ⟨#[120]⟩ T = T9 at hsp
            generalize putE (most) ⟨#[115, 112, 111, 105, 108, 116]⟩ ⟨#[120]⟩ T = z9 at hsp
            have HSP := Lib.hid hsp
            clear hsp
            go_wp2_with (go_at_call 8; refine (HCUT.out _).mono ?_; rintro e w3 ⟨rfl, hb3⟩; have HB3 := Lib.hid (HB.out.trans (hb3.mono hzw)); have hz3 := hb3.size; have HC3 := Lib.hid (Ch.of_below hb3 []); clear hb3 hc0 hc1 hc2)
            have xb : Blk (w3.alloc (.cells #[.int .i64 x.kd, .string ck, .string cv] 23)) w3.heap.size 23 #[.int .i64 x.kd, .string ck, .string cv] := Blk.new _ _ _
            have HST0 : Hid (DS w.heap.size w w3.heap.size #[.int .i64 x.kd, .string ck, .string cv] tb mb tr (most) T T (w3.alloc (.cells #[.int .i64 x.kd, .string ck, .string cv] 23))) :=
              ⟨(HT.out.ch HC3.out (by simp) (by simp)).al _, (HR.out.ch0 HC3.out).ch0 (Ch.alloc [] _ _), xb, HB3.out.alloc (by omega) _⟩
            refine (copy_any tb mb (most) T _ HST0.out.a).mono ?_
            rintro e w4 ⟨tc, mc, rfl, ht4, htc, hmc, hb4⟩
            simp at htc hmc
            have HST4 := Lib.hid (HST0.out.bel (Nat.le_refl _) hb4)
            have HT4 := Lib.hid ht4
            clear ht4 hb4 xb HST0
            go_wp2_with fail
            refine (HSP.out _ HST4.out.a).mono ?_
            rintro e w5 ⟨rfl, ht5, hc5⟩
            have HSTZ : Hid (DS w.heap.size w w3.heap.size #[.int .i64 x.kd, .string ck, .string cv] tc mc tr (most) T T w5) :=
              ⟨HT4.out.ch hc5 (by simp; omega) (by simp; omega), HST4.out.r.ch_map HST4.out.a.2 hc5, Blk.ch HST4.out.x hc5 (by have := HST4.out.a.2.ne_blk HST4.out.x; simp; omega), HST4.out.bl.trans (hc5.below (by have := HST4.out.bl.size; omega) (by simp; omega))⟩
            have hmc2 : w.heap.size ≤ mc := by omega
            clear ht5 hc5 HST4 HT4
            have HOK2 := Lib.hid (HG2.out.okT (by omega))
            have hTT : T.length ≤ 1000 := HOK2.out.1
            have hkok : ∀ p ∈ T, p.1.size ≤ maxLen := fun p hp => (HOK2.out.2 p hp).1
            obtain ⟨RF, hRF⟩ : ∃ RF, rowsFrom fr T = RF := ⟨_, rfl⟩
            have hRFl : RF.length ≤ T.length := by rw [← hRF]; exact List.length_filter_le _ _
            obtain ⟨gv, hgv⟩ : ∃ g, (getT ck T).getD ByteArray.empty = g := ⟨_, rfl⟩
            obtain ⟨de, hde⟩ : ∃ z, delE ck T = z := ⟨_, rfl⟩
            have HRF := Lib.hid hRF
            have HGV := Lib.hid hgv
            have HDE := Lib.hid hde
            have HKOK := Lib.hid hkok
            obtain ⟨Ar, cr, hbr, hor⟩ := HSTZ.out.r
            have DZ : Hid (DT w.heap.size w w3.heap.size #[.int .i64 x.kd, .string ck, .string cv] tc mc tr (most) T Ar cr w5) := ⟨HSTZ.out, hbr, Sl.of_own rowC_len hor⟩
            have D0 : Hid (DT w.heap.size w w3.heap.size #[.int .i64 x.kd, .string ck, .string cv] tc mc tr (most) T Ar cr w5.drew) := DZ.out.bel (Nat.le_refl _) (Below.refl _ _).drew
            have r0 : w5.cell? ⟨tr, 0, none⟩ = some (.slice Ar T.length cr) := hbr.cell 0
            have r0d : w5.drew.cell? ⟨tr, 0, none⟩ = some (.slice Ar T.length cr) := D0.out.k.cell 0
            have hln : ((T.length : Int) != (T.length : Int)) = false := by simp
            have hgn : (gv.toList != gv.toList) = false := by simp
            have hdn : ((de : Int) != de) = false := by simp
            have tokR : True := trivial
            have tokS : True := trivial
            have tokr : True := trivial
            clear hRF hgv hde hkok hbr hor
            go_wp2_with fail
            go_region_held3 (fun w' => w'.cell? ⟨tr, 0, none⟩ = some (.slice Ar T.length cr))
              (first
                | go_keep
                | assumption)
              ((first
                | (go_at_call 21; refine (len_any tc mc (most) T _ (by exact D0.out.d.a)).mono ?_; rintro e w' ⟨rfl, rfl⟩)
                | (go_at_call 19; have _t := tokR; refine (trows_c tc mc (most) T T ⟨#[]⟩ _ hTT HG2.out.1 HKOK.out (by exact D0.out.d.a) (rowsFrom_all T)).mono ?_; rintro e wa ⟨Aa, ca, rfl, hoa, hba⟩; have Da := Lib.hid (D0.out.bel (Nat.le_refl _) hba); have ra : wa.cell? ⟨tr, 0, none⟩ = some (.slice Ar T.length cr) := Da.out.k.cell 0; have Sa := Lib.hid (Sl.of_own rowC_len hoa); clear hoa hba tokR)
                | (go_at_call 18; have _t := tokr; refine (rows_any Aa T ca _ (by omega) Sa.out).mono ?_; rintro e wb ⟨vb, rfl, hob, hbb⟩; obtain ⟨Ab, cb, rfl⟩ := own_form hob; have Db := Lib.hid (Da.out.bel (Nat.le_refl _) hbb); have rb : wb.cell? ⟨tr, 0, none⟩ = some (.slice Ar T.length cr) := Db.out.k.cell 0; have Sb := Lib.hid (Sl.of_own rowC_len hob); clear hob hbb tokr)
                | (go_at_call 17; have _t := tokS; refine (same_c Ab Ar T T cb cr _ rfl (by omega) Sb.out Db.out.s).mono ?_; rintro e wc ⟨rfl, hbc⟩; have Dc := Lib.hid (Db.out.bel (Nat.le_refl _) hbc); have rc : wc.cell? ⟨tr, 0, none⟩ = some (.slice Ar T.length cr) := Dc.out.k.cell 0; clear hbc tokS)
                | (go_at_call 19; refine (trows_c tc mc (most) T RF fr _ hTT HG2.out.1 HKOK.out Dc.out.d.a HRF.out).mono ?_; rintro e wd ⟨Ad, cd, rfl, hod, hbd⟩; have Dd := Lib.hid (Dc.out.bel (Nat.le_refl _) hbd); have rd : wd.cell? ⟨tr, 0, none⟩ = some (.slice Ar T.length cr) := Dd.out.k.cell 0; have Sd := Lib.hid (Sl.of_own rowC_len hod); clear hod hbd)
                | (go_at_call 18; refine (rows_any Ad RF cd _ (by omega) Sd.out).mono ?_; rintro e we ⟨ve, rfl, hoe, hbe⟩; obtain ⟨Ae, ce, rfl⟩ := own_form hoe; have De := Lib.hid (Dd.out.bel (Nat.le_refl _) hbe); have re : we.cell? ⟨tr, 0, none⟩ = some (.slice Ar T.length cr) := De.out.k.cell 0; have Se := Lib.hid (Sl.of_own rowC_len hoe); clear hoe hbe)
                | (go_at_call 30; refine (rrows_any tr (most) T RF fr _ HFR.out HOK2.out HG2.out.1 De.out.d.r HRF.out).mono ?_; rintro e wf ⟨Af, cf, rfl, hsf, hbf⟩; have Df := Lib.hid (De.out.bel (Nat.le_refl _) hbf); have rf : wf.cell? ⟨tr, 0, none⟩ = some (.slice Ar T.length cr) := Df.out.k.cell 0; have Sf := Lib.hid hsf; have Sef := Lib.hid ((Se.out.below hbf).more hbf.size); clear hsf hbf)
                | (go_at_call 17; refine (same_c Ae Af RF RF ce cf _ rfl (by omega) Sef.out Sf.out).mono ?_; rintro e wg ⟨rfl, hbg⟩; have Dg := Lib.hid (Df.out.bel (Nat.le_refl _) hbg); have rg : wg.cell? ⟨tr, 0, none⟩ = some (.slice Ar T.length cr) := Dg.out.k.cell 0; have xg : wg.cell? ⟨w3.heap.size, 1, none⟩ = some (.string ck) := Dg.out.d.x.cell 1; clear hbg)))
            go_wp2_with (first
              | (go_at_call 22; refine (get_v tc mc (most) T ck gv de _ hckm (by exact Dg.out.d.a) HGV.out HDE.out).mono ?_; rintro e w' ⟨rfl, rfl⟩)
              | (go_at_call 31; refine (rget_v tr (most) T ck gv de _ hckm HOK2.out HG2.out.1 (by exact Dg.out.d.r) HGV.out HDE.out).mono ?_; rintro e w' ⟨rfl, ng, rfl⟩))
            go_roundw
            case rel => exact ⟨k + 1, T, tc, mc, by omega, by omega, by go_num, rfl, hmc2, Dg.out.d.a.ch (Ch.drewN [] _ _) (by simp) (by simp), Dg.out.d.r.ch0 (Ch.drewN [] _ _), HG2, Dg.out.d.bl.trans ((Ch.drewN [] _ _).below (by have := Dg.out.d.bl.size; omega) (by simp))⟩
            case measure => simp [intOf]; omega
    · have hex : (¬ k < l.length) ∨ (k < l.length ∧ ¬ k < 40) := by omega
      clear hlt
      rcases hex with h40 | ⟨h41, h40⟩
      all_goals
        go_wp2_with fail
        refine (fixed_any _).mono ?_
        rintro e wc ⟨rfl, hbc⟩
        go_wp2_with fail
        go_ret
        exact ⟨rfl, HB.out.trans (hbc.mono hzw)⟩
end Go.Proofs.Ythmkoehocjfjgaa
