/- TableRecs: the walk. -/
import Derived.Test.YthmkoehocjfjgaaTabS

import Derived.Deep.RegionHeld3
namespace Go.Proofs.Ythmkoehocjfjgaa
open Go.RowKit Go.Maps Go.WideMaps Go.Sort Go.Shelf

theorem recTo_one (kind : Int) (k : ByteArray) : recTo kind [k] = strOfNums [kind] ++ (blobB k ++ ByteArray.empty) := by
  refine ba_ext ?_
  show ((ByteArray.empty ++ strOfNums [kind]) ++ blobB k).data.toList = _
  simp only [ba_app]
  simp
theorem pRec_del {k : ByteArray} (h : mayB k ByteArray.empty = true) : pRec (delRecB k) = (0, k, ByteArray.empty, 68) := by
  obtain ⟨h1, h2, h3⟩ := mayB_bd h
  have e : delRecB k = strOfNums [68] ++ (blobB k ++ ByteArray.empty) := by rw [delRecB, if_pos h, recTo_one]
  have hk : byteI (delRecB k) 0 = 68 := by rw [e, byteI_app _ _ _ (by rw [num1_size]; omega)]; exact byteI_num _ _ (by omega) (by omega)
  have hs : (delRecB k).size ≠ 0 := by rw [e, ByteArray.size_append, num1_size]; omega
  have hx : (delRecB k).extract 1 (delRecB k).size = blobB k ++ ByteArray.empty := by
    have := ext_app_right (strOfNums [68]) (blobB k ++ ByteArray.empty)
    rw [num1_size, ← e] at this
    exact this
  unfold pRec
  rw [if_neg hs, if_neg (by rw [hk]; decide), hx, hk, rBlob_blob (by omega) (by omega)]
  dsimp only
  have he : endE ByteArray.empty 0 = 0 := rfl
  have he' : ¬ ((68 : Int) = 80) := by decide
  simp only [if_neg he', he]
  rw [if_neg (fun h => h rfl), if_neg (by omega)]
theorem delRec_size (k : ByteArray) : (delRecB k).size ≤ maxLen := by
  unfold delRecB
  split
  · next h =>
    obtain ⟨_, h2, h3⟩ := mayB_bd h
    have := recTo_size 68 [k] (by intro t ht; simp at ht; subst ht; omega)
    simp only [List.length_cons, List.length_nil] at this
    unfold maxLen; omega
  · simp [maxLen]
theorem do_put (m : Int) (k v : ByteArray) (T : List KV) (h : mayB k v = true) : doE m T (putRecB k v) = putE m k v T ∧ doT m T (putRecB k v) = putR m k v T := by
  rw [doE, doT, pRec_put h]
  exact ⟨by rw [if_neg (fun h => h rfl)]; exact if_pos rfl, by rw [if_neg (fun h => h rfl)]; exact if_pos rfl⟩
theorem do_del (m : Int) (k : ByteArray) (T : List KV) (h : mayB k ByteArray.empty = true) : doE m T (delRecB k) = delE k T ∧ doT m T (delRecB k) = delT k T := by
  rw [doE, doT, pRec_del h]
  exact ⟨by rw [if_neg (fun h => h rfl)]; exact if_neg (by decide : ¬ (68 : Int) = 80), by rw [if_neg (fun h => h rfl)]; exact if_neg (by decide : ¬ (68 : Int) = 80)⟩
theorem isEmpty_of {s : ByteArray} (h : s = ByteArray.empty) : (!s.toList.isEmpty) = false := by subst h; rw [Lib.toList_data]; rfl
theorem nonEmpty_of {s : ByteArray} (h : s.size ≠ 0) : (!s.toList.isEmpty) = true := by
  have : ¬ s.toList = [] := fun e => h (str_nil e)
  simp [this]
theorem putRec_ne {k v : ByteArray} (h : mayB k v = true) : (putRecB k v).size ≠ 0 := by
  rw [putRecB, if_pos h, recTo_two, ByteArray.size_append, num1_size]; omega
theorem delRec_ne {k : ByteArray} (h : mayB k ByteArray.empty = true) : (delRecB k).size ≠ 0 := by
  rw [delRecB, if_pos h, recTo_one, ByteArray.size_append, num1_size]; omega
/-- what stands while the two tables go together -/
structure RS (w : World) (ob : Nat) (vo : Array Value) (xg : Nat) (vx : Array Value) (ta ma tb mb : Nat) (T1 T2 : List KV) (W : World) : Prop where
  a : TabAt W ta ma 8 T1
  b : TabAt W tb mb 8 T2
  o : Blk W ob 23 vo
  x : Blk W xg 23 vx
  bl : Below w.heap.size w W
def Dist (B ob xg ta ma tb mb : Nat) : Prop := B ≤ ma ∧ B ≤ mb ∧ ma ≠ tb ∧ ma ≠ mb ∧ ma ≠ ob ∧ ma ≠ xg ∧ mb ≠ ta ∧ mb ≠ ob ∧ mb ≠ xg
section
variable {w W W' : World} {ob xg ta ma tb mb : Nat} {vo vx : Array Value} {T1 T2 T' : List KV}
theorem RS.bel (h : RS w ob vo xg vx ta ma tb mb T1 T2 W) (hb : Below W.heap.size W W') : RS w ob vo xg vx ta ma tb mb T1 T2 W' :=
  ⟨h.a.ch (Ch.of_below hb []) (by simp) (by simp), h.b.ch (Ch.of_below hb []) (by simp) (by simp), Blk.bel h.o hb, Blk.bel h.x hb, h.bl.trans (hb.mono h.bl.size)⟩
theorem RS.pa (h : RS w ob vo xg vx ta ma tb mb T1 T2 W) (d : Dist w.heap.size ob xg ta ma tb mb) (ht : TabAt W' ta ma 8 T') (hc : Ch [ma] W W') : RS w ob vo xg vx ta ma tb mb T' T2 W' := by
  obtain ⟨d1, d2, d3, d4, d5, d6, d7, d8, d9⟩ := d
  exact ⟨ht, h.b.ch hc (by simp; omega) (by simp; omega), Blk.ch h.o hc (by simp; omega), Blk.ch h.x hc (by simp; omega), h.bl.trans (hc.below h.bl.size (by simp; omega))⟩
theorem RS.pb (h : RS w ob vo xg vx ta ma tb mb T1 T2 W) (d : Dist w.heap.size ob xg ta ma tb mb) (ht : TabAt W' tb mb 8 T') (hc : Ch [mb] W W') : RS w ob vo xg vx ta ma tb mb T1 T' W' := by
  obtain ⟨d1, d2, d3, d4, d5, d6, d7, d8, d9⟩ := d
  exact ⟨h.a.ch hc (by simp; omega) (by simp; omega), ht, Blk.ch h.o hc (by simp; omega), Blk.ch h.x hc (by simp; omega), h.bl.trans (hc.below h.bl.size (by simp; omega))⟩
end
set_option maxRecDepth 100000 in
set_option maxHeartbeats 16000000 in
theorem recs_law (o : Op3) (A : Option Addr) (l : List Op3) (c : Nat) (w : World) (ho : o.came) (hl : l.length ≤ maxLen) (hch : ∀ x ∈ l, x.came) (hs : Sl w w.heap.size 3 Op3.cells A l) :
    Calls Try.prog 3 #[.agg #[.int .i64 o.kd, .string o.ke, .string o.va], .slice A l.length c] w fun e w' => e = .returned (.bool true) ∧ Below w.heap.size w w' := by
  have _u : True := (fun _ => trivial) hl
  unfold maxLen at hl
  have HS := Lib.hid hs
  have HCH := Lib.hid hch
  have hcuto := fun W => cut_any o W ho
  have hok1 : (cutB 70 o.ke).size ≤ 70 := cutB_size (n := 70) o.ke
  have hov1 : (cutB 2100 o.va).size ≤ 2100 := cutB_size (n := 2100) o.va
  have hokm : (cutB 70 o.ke).size ≤ maxLen := by unfold maxLen; omega
  have hovm : (cutB 2100 o.va).size ≤ maxLen := by unfold maxLen; omega
  generalize cutB 70 o.ke = ok at hcuto hokm
  generalize cutB 2100 o.va = ov at hcuto hovm
  have HCO := Lib.hid hcuto
  clear hs hch hcuto hok1 hov1 ho
  go_enter Try.func3, Try.ntmps3
  go_wp2_with fail
  refine (HCO.out _).mono ?_
  rintro e w0 ⟨rfl, hb0⟩
  have HB0 := Lib.hid (((Below.refl w.heap.size w).alloc (Nat.le_refl _) (.cells #[.int .i64 o.kd, .string o.ke, .string o.va] 23)).trans (hb0.mono (by simp)))
  have ob0 : Blk w0 w.heap.size 23 #[.int .i64 o.kd, .string o.ke, .string o.va] := Blk.bel (Blk.new w _ _) hb0
  have oc0 : w0.cell? ⟨w.heap.size, 0, none⟩ = some (.int .i64 o.kd) := ob0.cell 0
  have oc1 : w0.cell? ⟨w.heap.size, 1, none⟩ = some (.string o.ke) := ob0.cell 1
  have oc2 : w0.cell? ⟨w.heap.size, 2, none⟩ = some (.string o.va) := ob0.cell 2
  have of0 : w0.frozen? ⟨w.heap.size, 0, none⟩ = false := ob0.frozen 0
  have of1 : w0.frozen? ⟨w.heap.size, 1, none⟩ = false := ob0.frozen 1
  have of2 : w0.frozen? ⟨w.heap.size, 2, none⟩ = false := ob0.frozen 2
  have hz0 := hb0.size
  simp at hz0
  clear hb0
  go_wp2_with fail
  refine (new_ok 8 _ (by omega) (by omega)).mono ?_
  rintro e w1 ⟨ta, ma, rfl, hta, hta1, hma1, hb1⟩
  simp at hta1 hma1
  have OB1 : Hid (Blk w1 w.heap.size 23 #[.int .i64 o.kd, .string ok, .string ov]) := Blk.bel (Blk.set_ (Blk.set_ (Blk.set_ ob0 0 _) 1 _) 2 _) hb1
  have HTA := Lib.hid hta
  have HB1 : Hid (Below w.heap.size w w1) := ((((HB0.out.setCell (Nat.le_refl _) _).setCell (Nat.le_refl _) _).setCell (Nat.le_refl _) _)).trans (hb1.mono (by simp; omega))
  have hta2 : ta < w1.heap.size := hta.1.lt
  have hma2 : ma < w1.heap.size := hta.2.lt
  have hz1 := hb1.size
  simp at hz1
  clear hta hb1 ob0 oc0 oc1 oc2 of0 of1 of2
  go_wp2_with fail
  refine (new_ok 8 _ (by omega) (by omega)).mono ?_
  rintro e w2 ⟨tb, mb, rfl, htb, htb1, hmb1, hb2⟩
  have OB2 := Lib.hid (Blk.bel OB1.out hb2)
  have HTA2 := Lib.hid (HTA.out.ch (Ch.of_below hb2 []) (by simp) (by simp))
  have HTB2 := Lib.hid htb
  have HB2 := Lib.hid (HB1.out.trans (hb2.mono (by omega)))
  have htb2 : tb < w2.heap.size := htb.1.lt
  have hmb2 : mb < w2.heap.size := htb.2.lt
  clear htb hb2
  go_wp2_with fail
  go_loopw [9] (fun i wr => ∃ (k : Nat) (T : List KV), k ≤ l.length ∧ k ≤ 20 ∧ i = .int .i64 k ∧ Hid (TabAt wr ta ma 8 T) ∧ Hid (TabAt wr tb mb 8 T) ∧ Hid (Good 8 T) ∧ Hid (Below w.heap.size w wr) ∧ Hid (Blk wr w.heap.size 23 #[.int .i64 o.kd, .string ok, .string ov])) (fun i _ => l.length - (intOf i).toNat)
  case atStart => exact ⟨0, [], Nat.zero_le _, Nat.zero_le _, rfl, HTA2, HTB2, Good.nil 8 (by omega), HB2, OB2⟩
  case round =>
    obtain ⟨k, T, hk, hk20, rfl, HA, HBt, HG, HB, HO⟩ := hrel
    have hzw := HB.out.size
    have hmaw : ma < wr.heap.size := HA.out.2.lt
    have htaw : ta < wr.heap.size := HA.out.1.lt
    have hmbw : mb < wr.heap.size := HBt.out.2.lt
    have htbw : tb < wr.heap.size := HBt.out.1.lt
    have how : w.heap.size < wr.heap.size := HO.out.lt
    have hT8 : (T.length : Int) ≤ 8 := HG.out.2.1
    have hT1000 : T.length ≤ 1000 := by omega
    by_cases hlt : k < l.length ∧ k < 20
    · obtain ⟨hlt, hlt4⟩ := hlt
      obtain ⟨b, off, rfl, hbB, hc⟩ := (HS.out.below HB.out).at_ hlt
      have hx := HCH.out _ (List.getElem_mem hlt)
      generalize l[k] = x at hc hx
      have hc0 : wr.cell? ⟨b, off + k * 3, none⟩ = some (.int .i64 x.kd) := hc 0 _ rfl
      have hc1 : wr.cell? ⟨b, off + k * 3 + 1, none⟩ = some (.string x.ke) := hc 1 _ rfl
      have hc2 : wr.cell? ⟨b, off + k * 3 + 2, none⟩ = some (.string x.va) := hc 2 _ rfl
      clear hc
      have hcut := fun W => cut_any x W hx
      have hck : (cutB 70 x.ke).size ≤ 70 := cutB_size (n := 70) x.ke
      have hcv : (cutB 2100 x.va).size ≤ 2100 := cutB_size (n := 2100) x.va
      have hckm : (cutB 70 x.ke).size ≤ maxLen := by unfold maxLen; omega
      have hcvm : (cutB 2100 x.va).size ≤ maxLen := by unfold maxLen; omega
      generalize cutB 70 x.ke = ck at hcut hck hckm
      generalize cutB 2100 x.va = cv at hcut hcv hcvm
      have HCUT := Lib.hid hcut
      clear hcut hx hck hcv
      have hpr := fun W => putRec_any ck cv W hckm hcvm
      have hdr := fun W => delRec_any ck W hckm
      have hrpr := fun W => rputRec_any ck cv W hckm hcvm
      have hrdr := fun W => rdelRec_any ck W hckm
      obtain ⟨pr, hpq⟩ : ∃ q, putRecB ck cv = q := ⟨_, rfl⟩
      obtain ⟨dr, hdq⟩ : ∃ q, delRecB ck = q := ⟨_, rfl⟩
      have hprm : pr.size ≤ maxLen := by rw [← hpq]; exact putRec_size ck cv
      have hdrm : dr.size ≤ maxLen := by rw [← hdq]; exact delRec_size ck
      rw [hpq] at hpr hrpr
      rw [hdq] at hdr hrdr
      have HPR := Lib.hid hpr
      have HDR := Lib.hid hdr
      have HRPR := Lib.hid hrpr
      have HRDR := Lib.hid hrdr
      have HPQ := Lib.hid hpq
      have HDQ := Lib.hid hdq
      have hnp : (pr.toList != pr.toList) = false := by simp
      have hnd : (dr.toList != dr.toList) = false := by simp
      clear hpr hdr hrpr hrdr hpq hdq
      go_wp2_with (go_at_call 8; refine (HCUT.out _).mono ?_; rintro e w3 ⟨rfl, hb3⟩; have HB3 := Lib.hid (HB.out.trans (hb3.mono hzw)); have hz3 := hb3.size; have HC3 := Lib.hid (Ch.of_below hb3 []); clear hb3 hc0 hc1 hc2)
      have xb : Blk (w3.alloc (.cells #[.int .i64 x.kd, .string ck, .string cv] 23)) w3.heap.size 23 #[.int .i64 x.kd, .string ck, .string cv] := Blk.new _ _ _
      go_region_held3 (fun w' => w'.cell? ⟨w3.heap.size, 0, none⟩ = some (.int .i64 x.kd) ∧ w'.cell? ⟨w3.heap.size, 1, none⟩ = some (.string ck) ∧ w'.cell? ⟨w3.heap.size, 2, none⟩ = some (.string cv))
        (first
          | go_keep
          | (go_split_ands
             refine ⟨?_, ?_, ?_⟩
             · (rw [hX.cell (by simp <;> omega)]; assumption)
             · (rw [hX.cell (by simp <;> omega)]; assumption)
             · (rw [hX.cell (by simp <;> omega)]; assumption)))
        ((first
          | (go_at_call 10; refine (HPR.out _).mono ?_; rintro e w4 ⟨rfl, hX⟩; have hX4 := hX; have hzX := hX.size; simp at hzX)
          | (go_at_call 11; refine (HDR.out _).mono ?_; rintro e w5 ⟨rfl, hX⟩; have hX5 := hX)))
      have HST0 : Hid (RS w w.heap.size #[.int .i64 o.kd, .string ok, .string ov] w3.heap.size #[.int .i64 x.kd, .string ck, .string cv] ta ma tb mb T T (w3.alloc (.cells #[.int .i64 x.kd, .string ck, .string cv] 23)).drew) :=
        ⟨(HA.out.ch HC3.out (by simp) (by simp)).al _, (HBt.out.ch HC3.out (by simp) (by simp)).al _, Blk.alloc (Blk.ch HO.out HC3.out (by simp)) _, xb, (HB3.out.alloc (by omega) _).drew⟩
      have HST5 := Lib.hid ((HST0.out.bel hX4).bel hX5)
      have HDI : Hid (Dist w.heap.size w.heap.size w3.heap.size ta ma tb mb) := by unfold Dist; show _ ∧ _; omega
      have d0 : w5.cell? ⟨w3.heap.size, 0, none⟩ = some (.int .i64 x.kd) := HST5.out.x.cell 0
      have d1 : w5.cell? ⟨w3.heap.size, 1, none⟩ = some (.string ck) := HST5.out.x.cell 1
      have d2 : w5.cell? ⟨w3.heap.size, 2, none⟩ = some (.string cv) := HST5.out.x.cell 2
      clear hX4 hX5 xb HST0 HC3 hzX HB3
      by_cases hk0 : x.kd = 0
      · have hkb0 : (x.kd == 0) = true := beq_iff_eq.2 hk0
        have hkb1 : (x.kd == 1) = false := beq_eq_false_iff_ne.2 (by omega)
        clear hk0
        cases hm : mayB ck cv with
        | true =>
          have hne : (!pr.toList.isEmpty) = true := by rw [← HPQ.out]; exact nonEmpty_of (putRec_ne hm)
          have hdo := do_put 8 ck cv T hm
          rw [HPQ.out] at hdo
          have HG2 := Lib.hid (HG.out.put ck cv)
          have hput := fun W h => put_any ta ma 8 T ck cv W hckm hcvm hT1000 HG.out.1 h
          generalize putR 8 ck cv T = T2 at hdo HG2 hput
          generalize putE 8 ck cv T = z at hdo hput
          have HDO := Lib.hid hdo
          have HPUT := Lib.hid hput
          have hzz : ((z : Int) != z) = false := by simp
          clear hm hdo hput
          go_wp2_with (first
            | (go_at_call 12; refine (HRPR.out _).mono ?_; rintro e w6 ⟨rfl, hb⟩; have HST6 := Lib.hid (HST5.out.bel hb); have e0 : w6.cell? ⟨w3.heap.size, 0, none⟩ = some (.int .i64 x.kd) := HST6.out.x.cell 0; have e1 : w6.cell? ⟨w3.heap.size, 1, none⟩ = some (.string ck) := HST6.out.x.cell 1; have e2 : w6.cell? ⟨w3.heap.size, 2, none⟩ = some (.string cv) := HST6.out.x.cell 2; clear hb d0 d1 d2)
              | (go_at_call 13; refine (HRDR.out _).mono ?_; rintro e w7 ⟨rfl, hb⟩; have HST7 := Lib.hid (HST6.out.bel hb); have g0 : w7.cell? ⟨w3.heap.size, 0, none⟩ = some (.int .i64 x.kd) := HST7.out.x.cell 0; have g1 : w7.cell? ⟨w3.heap.size, 1, none⟩ = some (.string ck) := HST7.out.x.cell 1; have g2 : w7.cell? ⟨w3.heap.size, 2, none⟩ = some (.string cv) := HST7.out.x.cell 2; clear hb e0 e1 e2)
            | (go_at_call 14; refine (HPUT.out _ HST7.out.a).mono ?_; rintro e w8 ⟨rfl, ht, hc⟩; have HST8 := Lib.hid (HST7.out.pa HDI.out ht hc); have h0 : w8.cell? ⟨w3.heap.size, 0, none⟩ = some (.int .i64 x.kd) := HST8.out.x.cell 0; clear ht hc g0 g1 g2)
              | (go_at_call 15; refine (do_v tb mb 8 T T2 pr z _ (by assumption) hT1000 HG.out.1 HST8.out.b HDO.out.1 HDO.out.2).mono ?_; rintro e w9 ⟨rfl, ht, hc⟩; have HSTZ := Lib.hid (HST8.out.pb HDI.out ht hc); have i0 : w9.cell? ⟨w3.heap.size, 0, none⟩ = some (.int .i64 x.kd) := HSTZ.out.x.cell 0; clear ht hc h0))
          clear i0
          refine (trows_c ta ma 8 T2 T2 ⟨#[]⟩ _ (by have := HG2.out.2.1; omega) HG2.out.1 (fun p hp => by have := (HG2.out.2.2 p hp).1; unfold maxLen; omega) HSTZ.out.a (rowsFrom_all T2)).mono ?_
          rintro e wa ⟨Aa, ca, rfl, hoa, hba⟩
          have HSTa := Lib.hid (HSTZ.out.bel hba)
          have Sa := Lib.hid (Sl.of_own rowC_len hoa)
          have HL4 : T2.length ≤ 1000 := by have := HG2.out.2.1; omega
          clear hoa hba
          go_wp2_with fail
          refine (rows_any Aa T2 ca _ (by omega) Sa.out).mono ?_
          rintro e wb ⟨vb, rfl, hob, hbb⟩
          obtain ⟨Ab, cb, rfl⟩ := own_form hob
          have HSTb := Lib.hid (HSTa.out.bel hbb)
          have Sb := Lib.hid (Sl.of_own rowC_len hob)
          clear hob hbb Sa HSTa
          go_wp2_with fail
          refine (trows_c tb mb 8 T2 T2 ⟨#[]⟩ _ (by omega) HG2.out.1 (fun p hp => by have := (HG2.out.2.2 p hp).1; unfold maxLen; omega) HSTb.out.b (rowsFrom_all T2)).mono ?_
          rintro e wc ⟨Ac, cc, rfl, hoc, hbc⟩
          have HSTc := Lib.hid (HSTb.out.bel hbc)
          have Sc := Lib.hid (Sl.of_own rowC_len hoc)
          have Sbc := Lib.hid ((Sb.out.below hbc).more hbc.size)
          clear hoc hbc Sb HSTb
          go_wp2_with fail
          refine (rows_any Ac T2 cc _ (by omega) Sc.out).mono ?_
          rintro e wd ⟨vd, rfl, hod, hbd⟩
          obtain ⟨Ad, cd, rfl⟩ := own_form hod
          have HSTd := Lib.hid (HSTc.out.bel hbd)
          have Sd := Lib.hid (Sl.of_own rowC_len hod)
          have Sbd := Lib.hid ((Sbc.out.below hbd).more hbd.size)
          clear hod hbd Sc HSTc Sbc
          go_wp2_with fail
          refine (same_c Ab Ad T2 T2 cb cd _ rfl (by omega) Sbd.out Sd.out).mono ?_
          rintro e we ⟨rfl, hbe⟩
          have HSTe := Lib.hid (HSTd.out.bel hbe)
          clear hbe HSTd Sbd Sd
          go_wp2_with fail
          go_roundw
          case rel => exact ⟨k + 1, T2, by omega, by omega, by go_num, HSTe.out.a, HSTe.out.b, HG2, HSTe.out.bl, HSTe.out.o⟩
          case measure => simp [intOf]; omega
        | false =>
          have hne : (!pr.toList.isEmpty) = false := by rw [← HPQ.out, putRecB, hm]; exact isEmpty_of rfl
          have HG2 := HG
          clear hm
          go_wp2_with (first
            | (go_at_call 12; refine (HRPR.out _).mono ?_; rintro e w6 ⟨rfl, hb⟩; have HST6 := Lib.hid (HST5.out.bel hb); have e0 : w6.cell? ⟨w3.heap.size, 0, none⟩ = some (.int .i64 x.kd) := HST6.out.x.cell 0; have e1 : w6.cell? ⟨w3.heap.size, 1, none⟩ = some (.string ck) := HST6.out.x.cell 1; have e2 : w6.cell? ⟨w3.heap.size, 2, none⟩ = some (.string cv) := HST6.out.x.cell 2; clear hb d0 d1 d2)
              | (go_at_call 13; refine (HRDR.out _).mono ?_; rintro e w7 ⟨rfl, hb⟩; have HST7 := Lib.hid (HST6.out.bel hb); have g0 : w7.cell? ⟨w3.heap.size, 0, none⟩ = some (.int .i64 x.kd) := HST7.out.x.cell 0; have g1 : w7.cell? ⟨w3.heap.size, 1, none⟩ = some (.string ck) := HST7.out.x.cell 1; have g2 : w7.cell? ⟨w3.heap.size, 2, none⟩ = some (.string cv) := HST7.out.x.cell 2; clear hb e0 e1 e2))
          clear g0 g1 g2
          refine (trows_c ta ma 8 T T ⟨#[]⟩ _ (by have := HG2.out.2.1; omega) HG2.out.1 (fun p hp => by have := (HG2.out.2.2 p hp).1; unfold maxLen; omega) HST7.out.a (rowsFrom_all T)).mono ?_
          rintro e wa ⟨Aa, ca, rfl, hoa, hba⟩
          have HSTa := Lib.hid (HST7.out.bel hba)
          have Sa := Lib.hid (Sl.of_own rowC_len hoa)
          have HL4 : T.length ≤ 1000 := by have := HG2.out.2.1; omega
          clear hoa hba
          go_wp2_with fail
          refine (rows_any Aa T ca _ (by omega) Sa.out).mono ?_
          rintro e wb ⟨vb, rfl, hob, hbb⟩
          obtain ⟨Ab, cb, rfl⟩ := own_form hob
          have HSTb := Lib.hid (HSTa.out.bel hbb)
          have Sb := Lib.hid (Sl.of_own rowC_len hob)
          clear hob hbb Sa HSTa
          go_wp2_with fail
          refine (trows_c tb mb 8 T T ⟨#[]⟩ _ (by omega) HG2.out.1 (fun p hp => by have := (HG2.out.2.2 p hp).1; unfold maxLen; omega) HSTb.out.b (rowsFrom_all T)).mono ?_
          rintro e wc ⟨Ac, cc, rfl, hoc, hbc⟩
          have HSTc := Lib.hid (HSTb.out.bel hbc)
          have Sc := Lib.hid (Sl.of_own rowC_len hoc)
          have Sbc := Lib.hid ((Sb.out.below hbc).more hbc.size)
          clear hoc hbc Sb HSTb
          go_wp2_with fail
          refine (rows_any Ac T cc _ (by omega) Sc.out).mono ?_
          rintro e wd ⟨vd, rfl, hod, hbd⟩
          obtain ⟨Ad, cd, rfl⟩ := own_form hod
          have HSTd := Lib.hid (HSTc.out.bel hbd)
          have Sd := Lib.hid (Sl.of_own rowC_len hod)
          have Sbd := Lib.hid ((Sbc.out.below hbd).more hbd.size)
          clear hod hbd Sc HSTc Sbc
          go_wp2_with fail
          refine (same_c Ab Ad T T cb cd _ rfl (by omega) Sbd.out Sd.out).mono ?_
          rintro e we ⟨rfl, hbe⟩
          have HSTe := Lib.hid (HSTd.out.bel hbe)
          clear hbe HSTd Sbd Sd
          go_wp2_with fail
          go_roundw
          case rel => exact ⟨k + 1, T, by omega, by omega, by go_num, HSTe.out.a, HSTe.out.b, HG2, HSTe.out.bl, HSTe.out.o⟩
          case measure => simp [intOf]; omega
      · have hkb0 : (x.kd == 0) = false := beq_eq_false_iff_ne.2 hk0
        by_cases hk1 : x.kd = 1
        · have hkb1 : (x.kd == 1) = true := beq_iff_eq.2 hk1
          clear hk0 hk1
          cases hm : mayB ck ByteArray.empty with
          | true =>
            have hne : (!dr.toList.isEmpty) = true := by rw [← HDQ.out]; exact nonEmpty_of (delRec_ne hm)
            have hdo := do_del 8 ck T hm
            rw [HDQ.out] at hdo
            have HG2 := Lib.hid (HG.out.del ck)
            have hput := fun W h => del_any ta ma 8 T ck W hckm h
            generalize delT ck T = T2 at hdo HG2 hput
            generalize delE ck T = z at hdo hput
            have HDO := Lib.hid hdo
            have HPUT := Lib.hid hput
            have hzz : ((z : Int) != z) = false := by simp
            clear hm hdo hput
            go_wp2_with (first
              | (go_at_call 12; refine (HRPR.out _).mono ?_; rintro e w6 ⟨rfl, hb⟩; have HST6 := Lib.hid (HST5.out.bel hb); have e0 : w6.cell? ⟨w3.heap.size, 0, none⟩ = some (.int .i64 x.kd) := HST6.out.x.cell 0; have e1 : w6.cell? ⟨w3.heap.size, 1, none⟩ = some (.string ck) := HST6.out.x.cell 1; have e2 : w6.cell? ⟨w3.heap.size, 2, none⟩ = some (.string cv) := HST6.out.x.cell 2; clear hb d0 d1 d2)
                | (go_at_call 13; refine (HRDR.out _).mono ?_; rintro e w7 ⟨rfl, hb⟩; have HST7 := Lib.hid (HST6.out.bel hb); have g0 : w7.cell? ⟨w3.heap.size, 0, none⟩ = some (.int .i64 x.kd) := HST7.out.x.cell 0; have g1 : w7.cell? ⟨w3.heap.size, 1, none⟩ = some (.string ck) := HST7.out.x.cell 1; have g2 : w7.cell? ⟨w3.heap.size, 2, none⟩ = some (.string cv) := HST7.out.x.cell 2; clear hb e0 e1 e2)
              | (go_at_call 16; refine (HPUT.out _ HST7.out.a).mono ?_; rintro e w8 ⟨rfl, ht, hc⟩; have HST8 := Lib.hid (HST7.out.pa HDI.out ht hc); have h0 : w8.cell? ⟨w3.heap.size, 0, none⟩ = some (.int .i64 x.kd) := HST8.out.x.cell 0; clear ht hc g0 g1 g2)
                | (go_at_call 15; refine (do_v tb mb 8 T T2 dr z _ (by assumption) hT1000 HG.out.1 HST8.out.b HDO.out.1 HDO.out.2).mono ?_; rintro e w9 ⟨rfl, ht, hc⟩; have HSTZ := Lib.hid (HST8.out.pb HDI.out ht hc); have i0 : w9.cell? ⟨w3.heap.size, 0, none⟩ = some (.int .i64 x.kd) := HSTZ.out.x.cell 0; clear ht hc h0))
            clear i0
            refine (trows_c ta ma 8 T2 T2 ⟨#[]⟩ _ (by have := HG2.out.2.1; omega) HG2.out.1 (fun p hp => by have := (HG2.out.2.2 p hp).1; unfold maxLen; omega) HSTZ.out.a (rowsFrom_all T2)).mono ?_
            rintro e wa ⟨Aa, ca, rfl, hoa, hba⟩
            have HSTa := Lib.hid (HSTZ.out.bel hba)
            have Sa := Lib.hid (Sl.of_own rowC_len hoa)
            have HL4 : T2.length ≤ 1000 := by have := HG2.out.2.1; omega
            clear hoa hba
            go_wp2_with fail
            refine (rows_any Aa T2 ca _ (by omega) Sa.out).mono ?_
            rintro e wb ⟨vb, rfl, hob, hbb⟩
            obtain ⟨Ab, cb, rfl⟩ := own_form hob
            have HSTb := Lib.hid (HSTa.out.bel hbb)
            have Sb := Lib.hid (Sl.of_own rowC_len hob)
            clear hob hbb Sa HSTa
            go_wp2_with fail
            refine (trows_c tb mb 8 T2 T2 ⟨#[]⟩ _ (by omega) HG2.out.1 (fun p hp => by have := (HG2.out.2.2 p hp).1; unfold maxLen; omega) HSTb.out.b (rowsFrom_all T2)).mono ?_
            rintro e wc ⟨Ac, cc, rfl, hoc, hbc⟩
            have HSTc := Lib.hid (HSTb.out.bel hbc)
            have Sc := Lib.hid (Sl.of_own rowC_len hoc)
            have Sbc := Lib.hid ((Sb.out.below hbc).more hbc.size)
            clear hoc hbc Sb HSTb
            go_wp2_with fail
            refine (rows_any Ac T2 cc _ (by omega) Sc.out).mono ?_
            rintro e wd ⟨vd, rfl, hod, hbd⟩
            obtain ⟨Ad, cd, rfl⟩ := own_form hod
            have HSTd := Lib.hid (HSTc.out.bel hbd)
            have Sd := Lib.hid (Sl.of_own rowC_len hod)
            have Sbd := Lib.hid ((Sbc.out.below hbd).more hbd.size)
            clear hod hbd Sc HSTc Sbc
            go_wp2_with fail
            refine (same_c Ab Ad T2 T2 cb cd _ rfl (by omega) Sbd.out Sd.out).mono ?_
            rintro e we ⟨rfl, hbe⟩
            have HSTe := Lib.hid (HSTd.out.bel hbe)
            clear hbe HSTd Sbd Sd
            go_wp2_with fail
            go_roundw
            case rel => exact ⟨k + 1, T2, by omega, by omega, by go_num, HSTe.out.a, HSTe.out.b, HG2, HSTe.out.bl, HSTe.out.o⟩
            case measure => simp [intOf]; omega
          | false =>
            have hne : (!dr.toList.isEmpty) = false := by rw [← HDQ.out, delRecB, hm]; exact isEmpty_of rfl
            have HG2 := HG
            clear hm
            go_wp2_with (first
              | (go_at_call 12; refine (HRPR.out _).mono ?_; rintro e w6 ⟨rfl, hb⟩; have HST6 := Lib.hid (HST5.out.bel hb); have e0 : w6.cell? ⟨w3.heap.size, 0, none⟩ = some (.int .i64 x.kd) := HST6.out.x.cell 0; have e1 : w6.cell? ⟨w3.heap.size, 1, none⟩ = some (.string ck) := HST6.out.x.cell 1; have e2 : w6.cell? ⟨w3.heap.size, 2, none⟩ = some (.string cv) := HST6.out.x.cell 2; clear hb d0 d1 d2)
                | (go_at_call 13; refine (HRDR.out _).mono ?_; rintro e w7 ⟨rfl, hb⟩; have HST7 := Lib.hid (HST6.out.bel hb); have g0 : w7.cell? ⟨w3.heap.size, 0, none⟩ = some (.int .i64 x.kd) := HST7.out.x.cell 0; have g1 : w7.cell? ⟨w3.heap.size, 1, none⟩ = some (.string ck) := HST7.out.x.cell 1; have g2 : w7.cell? ⟨w3.heap.size, 2, none⟩ = some (.string cv) := HST7.out.x.cell 2; clear hb e0 e1 e2))
            clear g0 g1 g2
            refine (trows_c ta ma 8 T T ⟨#[]⟩ _ (by have := HG2.out.2.1; omega) HG2.out.1 (fun p hp => by have := (HG2.out.2.2 p hp).1; unfold maxLen; omega) HST7.out.a (rowsFrom_all T)).mono ?_
            rintro e wa ⟨Aa, ca, rfl, hoa, hba⟩
            have HSTa := Lib.hid (HST7.out.bel hba)
            have Sa := Lib.hid (Sl.of_own rowC_len hoa)
            have HL4 : T.length ≤ 1000 := by have := HG2.out.2.1; omega
            clear hoa hba
            go_wp2_with fail
            refine (rows_any Aa T ca _ (by omega) Sa.out).mono ?_
            rintro e wb ⟨vb, rfl, hob, hbb⟩
            obtain ⟨Ab, cb, rfl⟩ := own_form hob
            have HSTb := Lib.hid (HSTa.out.bel hbb)
            have Sb := Lib.hid (Sl.of_own rowC_len hob)
            clear hob hbb Sa HSTa
            go_wp2_with fail
            refine (trows_c tb mb 8 T T ⟨#[]⟩ _ (by omega) HG2.out.1 (fun p hp => by have := (HG2.out.2.2 p hp).1; unfold maxLen; omega) HSTb.out.b (rowsFrom_all T)).mono ?_
            rintro e wc ⟨Ac, cc, rfl, hoc, hbc⟩
            have HSTc := Lib.hid (HSTb.out.bel hbc)
            have Sc := Lib.hid (Sl.of_own rowC_len hoc)
            have Sbc := Lib.hid ((Sb.out.below hbc).more hbc.size)
            clear hoc hbc Sb HSTb
            go_wp2_with fail
            refine (rows_any Ac T cc _ (by omega) Sc.out).mono ?_
            rintro e wd ⟨vd, rfl, hod, hbd⟩
            obtain ⟨Ad, cd, rfl⟩ := own_form hod
            have HSTd := Lib.hid (HSTc.out.bel hbd)
            have Sd := Lib.hid (Sl.of_own rowC_len hod)
            have Sbd := Lib.hid ((Sbc.out.below hbd).more hbd.size)
            clear hod hbd Sc HSTc Sbc
            go_wp2_with fail
            refine (same_c Ab Ad T T cb cd _ rfl (by omega) Sbd.out Sd.out).mono ?_
            rintro e we ⟨rfl, hbe⟩
            have HSTe := Lib.hid (HSTd.out.bel hbe)
            clear hbe HSTd Sbd Sd
            go_wp2_with fail
            go_roundw
            case rel => exact ⟨k + 1, T, by omega, by omega, by go_num, HSTe.out.a, HSTe.out.b, HG2, HSTe.out.bl, HSTe.out.o⟩
            case measure => simp [intOf]; omega
        · have hkb1 : (x.kd == 1) = false := beq_eq_false_iff_ne.2 hk1
          have HG2 := HG
          clear hk0 hk1
          go_wp2_with (first
            | (go_at_call 12; refine (HRPR.out _).mono ?_; rintro e w6 ⟨rfl, hb⟩; have HST6 := Lib.hid (HST5.out.bel hb); have e0 : w6.cell? ⟨w3.heap.size, 0, none⟩ = some (.int .i64 x.kd) := HST6.out.x.cell 0; have e1 : w6.cell? ⟨w3.heap.size, 1, none⟩ = some (.string ck) := HST6.out.x.cell 1; have e2 : w6.cell? ⟨w3.heap.size, 2, none⟩ = some (.string cv) := HST6.out.x.cell 2; clear hb d0 d1 d2)
              | (go_at_call 13; refine (HRDR.out _).mono ?_; rintro e w7 ⟨rfl, hb⟩; have HST7 := Lib.hid (HST6.out.bel hb); have g0 : w7.cell? ⟨w3.heap.size, 0, none⟩ = some (.int .i64 x.kd) := HST7.out.x.cell 0; have g1 : w7.cell? ⟨w3.heap.size, 1, none⟩ = some (.string ck) := HST7.out.x.cell 1; have g2 : w7.cell? ⟨w3.heap.size, 2, none⟩ = some (.string cv) := HST7.out.x.cell 2; clear hb e0 e1 e2))
          clear g0 g1 g2
          refine (trows_c ta ma 8 T T ⟨#[]⟩ _ (by have := HG2.out.2.1; omega) HG2.out.1 (fun p hp => by have := (HG2.out.2.2 p hp).1; unfold maxLen; omega) HST7.out.a (rowsFrom_all T)).mono ?_
          rintro e wa ⟨Aa, ca, rfl, hoa, hba⟩
          have HSTa := Lib.hid (HST7.out.bel hba)
          have Sa := Lib.hid (Sl.of_own rowC_len hoa)
          have HL4 : T.length ≤ 1000 := by have := HG2.out.2.1; omega
          clear hoa hba
          go_wp2_with fail
          refine (rows_any Aa T ca _ (by omega) Sa.out).mono ?_
          rintro e wb ⟨vb, rfl, hob, hbb⟩
          obtain ⟨Ab, cb, rfl⟩ := own_form hob
          have HSTb := Lib.hid (HSTa.out.bel hbb)
          have Sb := Lib.hid (Sl.of_own rowC_len hob)
          clear hob hbb Sa HSTa
          go_wp2_with fail
          refine (trows_c tb mb 8 T T ⟨#[]⟩ _ (by omega) HG2.out.1 (fun p hp => by have := (HG2.out.2.2 p hp).1; unfold maxLen; omega) HSTb.out.b (rowsFrom_all T)).mono ?_
          rintro e wc ⟨Ac, cc, rfl, hoc, hbc⟩
          have HSTc := Lib.hid (HSTb.out.bel hbc)
          have Sc := Lib.hid (Sl.of_own rowC_len hoc)
          have Sbc := Lib.hid ((Sb.out.below hbc).more hbc.size)
          clear hoc hbc Sb HSTb
          go_wp2_with fail
          refine (rows_any Ac T cc _ (by omega) Sc.out).mono ?_
          rintro e wd ⟨vd, rfl, hod, hbd⟩
          obtain ⟨Ad, cd, rfl⟩ := own_form hod
          have HSTd := Lib.hid (HSTc.out.bel hbd)
          have Sd := Lib.hid (Sl.of_own rowC_len hod)
          have Sbd := Lib.hid ((Sbc.out.below hbd).more hbd.size)
          clear hod hbd Sc HSTc Sbc
          go_wp2_with fail
          refine (same_c Ab Ad T T cb cd _ rfl (by omega) Sbd.out Sd.out).mono ?_
          rintro e we ⟨rfl, hbe⟩
          have HSTe := Lib.hid (HSTd.out.bel hbe)
          clear hbe HSTd Sbd Sd
          go_wp2_with fail
          go_roundw
          case rel => exact ⟨k + 1, T, by omega, by omega, by go_num, HSTe.out.a, HSTe.out.b, HG2, HSTe.out.bl, HSTe.out.o⟩
          case measure => simp [intOf]; omega
    · have hex : (¬ k < l.length) ∨ (k < l.length ∧ ¬ k < 20) := by omega
      clear hlt
      have hpr := fun W => putRec_any ok ov W hokm hovm
      have hdr := fun W => delRec_any ok W hokm
      have hrpr := fun W => rputRec_any ok ov W hokm hovm
      have hrdr := fun W => rdelRec_any ok W hokm
      generalize putRecB ok ov = pr at hpr hrpr
      generalize delRecB ok = dr at hdr hrdr
      have HPR := Lib.hid hpr
      have HDR := Lib.hid hdr
      have HRPR := Lib.hid hrpr
      have HRDR := Lib.hid hrdr
      have hep : (pr.toList == pr.toList) = true := by simp
      have hed : (dr.toList == dr.toList) = true := by simp
      have p0 : wr.cell? ⟨w.heap.size, 0, none⟩ = some (.int .i64 o.kd) := HO.out.cell 0
      have p1 : wr.cell? ⟨w.heap.size, 1, none⟩ = some (.string ok) := HO.out.cell 1
      have p2 : wr.cell? ⟨w.heap.size, 2, none⟩ = some (.string ov) := HO.out.cell 2
      clear hpr hdr hrpr hrdr
      rcases hex with h40 | ⟨h41, h40⟩
      all_goals
        go_wp2_with fail
        go_region_held3 (fun w' => w'.cell? ⟨w.heap.size, 1, none⟩ = some (.string ok) ∧ w'.cell? ⟨w.heap.size, 2, none⟩ = some (.string ov))
          (first
            | go_keep
            | (go_split_ands
               refine ⟨?_, ?_⟩
               · (rw [hX.cell (by simp <;> omega)]; assumption)
               · (rw [hX.cell (by simp <;> omega)]; assumption)))
          ((first
            | (go_at_call 10; refine (HPR.out _).mono ?_; rintro e w4 ⟨rfl, hX⟩; have hX4 := hX; have hz4 := hX.size; try simp at hz4)
            | (go_at_call 12; refine (HRPR.out _).mono ?_; rintro e w5 ⟨rfl, hX⟩; have hX5 := hX; have hz5 := hX.size; try simp at hz5)
            | (go_at_call 11; refine (HDR.out _).mono ?_; rintro e w6 ⟨rfl, hX⟩; have hX6 := hX; have hz6 := hX.size; try simp at hz6)
            | (go_at_call 13; refine (HRDR.out _).mono ?_; rintro e w7 ⟨rfl, hX⟩; have hX7 := hX; have hz7 := hX.size; try simp at hz7)
            | (go_at_call 20; refine (fixed_any _).mono ?_; rintro e w8 ⟨rfl, hX⟩; have hX8 := hX; have hz8 := hX.size; try simp at hz8)))
        go_wp2_with fail
        go_ret
        exact ⟨rfl, (((((HB.out.drew).trans (hX4.mono (by simp; omega))).trans (hX5.mono (by omega))).trans (hX6.mono (by omega))).trans (hX7.mono (by omega))).trans (hX8.mono (by omega))⟩
end Go.Proofs.Ythmkoehocjfjgaa
