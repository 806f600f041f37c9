/- ChainDeep: the walk. -/
import Derived.Outline
import Derived.Test.YtjcinncphffgaaaGreatMjDpF
set_option linter.unusedVariables false
set_option linter.unusedSimpArgs false
namespace Go.Proofs.YtjcinncphffgaaaGreat
open Go.RowKit Go.Maps
set_option maxRecDepth 100000 in
set_option maxHeartbeats 8000000 in
theorem cdeeps_any (A0 : Option Addr) (l : List Ou) (c0 : Nat) (A1 : Option Addr) (os : List Om) (c1 : Nat) (w0 : World) (hsl : Sl w0 w0.heap.size 9 Ou.cl A0 l) (hl : l.length ≤ maxLen) (ham : ∀ o ∈ l, o.am < 18446744073709551616 ∧ o.unit < 18446744073709551616)
    (hos : Sl w0 w0.heap.size 5 Om.cl A1 os) (hoc : ∀ o ∈ os, OmCame w0 o) :
    Calls Tryz.prog 3 #[.slice A0 l.length c0, .slice A1 os.length c1] w0 fun e w' => e = .returned (.bool true) ∧ Below w0.heap.size w0 w' := by
  have HOU := outs11_any A0 l c0 w0 hsl hl
  have hA8 := cut_am ham 8
  have hL8 := cut_len l 8
  have HOS := Lib.hid hos
  have HOC := Lib.hid hoc
  clear hsl hl ham hos hoc
  go_enter Tryz.func3, Tryz.ntmps3
  go_wp2_with fail
  refine HOU.mono ?_
  rintro e V1 ⟨A, c, B, d, mm, rfl, hm, hO, _, HB⟩
  generalize (l.take 8).map cutO = L at hm hO hA8 hL8
  have HSO : Hid (Sl V1 V1.heap.size 9 Ou.cl A L) := Lib.hid (Sl.of_own ouLen9 (by rw [← hm]; exact hO))
  have HL8 := Lib.hid hL8
  replace HB := Lib.hid HB
  obtain rfl : mm = L.length := hm
  clear hO hL8 HOU
  cases hnw : newU L with
  | false =>
    go_wp2_with fail
    refine (cnew_no A L c V1 HSO.out (by have := HL8.out; omega) hnw).mono ?_
    rintro e W4 ⟨rfl, hb⟩
    replace HB := Lib.hid (HB.out.trans (hb.mono HB.out.size))
    clear hb
    go_wp2_with fail
    refine (fixed12_any _).mono ?_
    rintro e W5 ⟨rfl, hb⟩
    go_wp2_with fail
    go_ret
    exact ⟨rfl, HB.out.trans (hb.mono HB.out.size)⟩
  | true =>
    obtain ⟨hts, hT8⟩ := good_ts hnw HL8.out hA8
    have HTS := Lib.hid hts
    have HG0 := Lib.hid (Good.new (T0 := utN (firstB L) L) (firstB L) (firstB_size L))
    go_wp2_with fail
    refine (cnew_ok A L c V1 HSO.out hnw (fun o ho => (hA8 o ho).1)).mono ?_
    rintro e V2 ⟨cb, m0, rfl, hcb, hat, hb⟩
    have HCW : Hid (w0.heap.size ≤ cb) := Lib.hid (Nat.le_trans HB.out.size hcb)
    have HF : Hid (MkC w0 (utN (firstB L) L) cb m0 ⟨firstB L, [], utN (firstB L) L⟩ V2) := Lib.hid ⟨hat, HG0.out, HB.out.trans (hb.mono HB.out.size)⟩
    generalize utN (firstB L) L = T0 at HTS HF hT8
    generalize firstB L = f0 at HF
    have HT8 := Lib.hid hT8
    clear hat hb hcb hts HB HG0 hnw hA8 HSO HL8 hT8
    go_wp2_with fail
    go_loopw [9] (fun i wr => ∃ (k : Nat) (s : Cn) (m : CnM), k ≤ os.length ∧ k ≤ 8 ∧ i = .int .i64 k ∧ Hid (s.ls.length = k) ∧ Hid (MkC w0 T0 cb m s wr)) (fun i _ => 8 - (intOf i).toNat)
    case atStart => exact ⟨0, _, _, Nat.zero_le _, Nat.zero_le _, rfl, Lib.hid rfl, HF⟩
    case round =>
      clear HF
      obtain ⟨k, s, m, hk, hk6, rfl, HSL, HF⟩ := hrel
      obtain ⟨hsts, hsT⟩ := HF.out.good.ts HTS.out HT8.out (by have := HSL.out; omega)
      have HST := Lib.hid hsts
      have HSTL := Lib.hid hsT
      clear hsts hsT
      by_cases hlt : k < os.length ∧ k < 8
      rotate_left
      · have hd : (decide (k < os.length) = true ∧ decide ((k : Int) < 8) = false) ∨ decide (k < os.length) = false := by
          by_cases hkl : k < os.length
          · exact .inl ⟨decide_eq_true hkl, decide_eq_false (by omega)⟩
          · exact .inr (decide_eq_false hkl)
        clear hlt hk
        rcases hd with ⟨d3, d2⟩ | d3
        all_goals
          clear HTS HT8 HST HSTL HCW HOS HOC
          obtain ⟨n, hn⟩ : ∃ n, n = s.ls.length := ⟨_, rfl⟩
          have hn8 : n ≤ 8 := by rw [hn, HSL.out]; exact hk6
          have HN := Lib.hid hn
          clear hn HSL hk6
          go_wp2_with fail
          go_loopw [12] (fun i wr => ∃ h : Nat, 1 ≤ h ∧ h ≤ n + 1 ∧ i = .int .i64 h ∧ Hid (MkC w0 T0 cb m s wr)) (fun i _ => n + 1 - (intOf i).toNat)
          case atStart => exact ⟨1, Nat.le_refl _, by omega, rfl, HF⟩
          case round =>
            clear HF
            obtain ⟨h, h1, h2, rfl, HF⟩ := hrel
            go_wp2_with fail
            refine (cheight_any HF.out.cn).mono ?_
            rintro e Vq ⟨rfl, hq⟩
            rw [hq, ← HN.out]
            clear hq Vq
            by_cases hle : h ≤ n
            · have d1 : decide ((h : Int) ≤ (n : Int)) = true := decide_eq_true (by omega)
              have d1n : decide (h ≤ n) = true := decide_eq_true hle
              obtain ⟨h0, hh0⟩ : ∃ h0, h = h0 + 1 := ⟨h - 1, by omega⟩
              have HH0 := Lib.hid hh0
              clear hh0
              go_wp2_with fail
              refine (cat_any h h0 HF.out.cn HF.out.good.okk (by rw [← HN.out]; omega) HH0.out (by rw [← HN.out]; exact hle)).mono ?_
              rintro e V1 ⟨b, y, rfl, hy, hal, hm, hb⟩
              replace HF := Lib.hid (HF.out.go hb)
              have HBM := Lib.hid (hm V1 (SameB.refl _ _))
              have HY := Lib.hid hy
              have HAL := Lib.hid hal
              have hbh : b.h = (h : Int) := by
                have e1 : y.1.h = b.h := hal.h
                rw [← e1, HF.out.good.hgt h0 y hy, HH0.out]; omega
              have HBH := Lib.hid hbh
              have HBL : Hid (b.txs.length ≤ 8) := Lib.hid (by
                have h8 := (right_k (HF.out.good.okk y (List.mem_of_getElem? hy)).1).len
                have e2 : y.1.txs.length = b.txs.length := hal.txs.len
                omega)
              have HBT : Hid (∀ t ∈ b.txs, TxOk t ∧ ∃ t0 ∈ y.1.txs, t0.al t) := Lib.hid (fun t ht => by
                obtain ⟨j, hj, rfl⟩ := List.getElem_of_mem ht
                obtain ⟨t0, h5, h6⟩ := hal.txs.at_ (List.getElem?_eq_getElem hj)
                have h7 := (HF.out.good.okk y (List.mem_of_getElem? hy)).2 t0 (List.mem_of_getElem? h5)
                exact ⟨txok_al h6 h7, t0, List.mem_of_getElem? h5, h6⟩)
              clear hm hy hal hbh hb
              go_upto_region 15 with (refine wpList_store_part rfl 37 (.tmp 13) (.tmp 80) rfl V1.heap.size 0 (cs := zBm.cs) (Blk.new _ _ _) b.cs b.cs (by rfl) (by rfl) (Nat.le_refl 3) infoBk (bmcs_one _) (bm_over _ rfl) ?_; intro W4 hb1 hc1; have hb := bel_st' hc1; have HM : Hid (DpS w0 T0 cb m s b V1.heap.size W4) := Lib.hid ⟨HF.out.go hb, HBM.out.bel hb, hb1⟩; clear hb1 hc1 hb)
              clear HF HBM
              generalize V1.heap.size = g13 at HM ⊢
              have x0 : W4.cell? ⟨g13, 0, none⟩ = some (.int .i64 (h : Int)) := (HM.out.h13.cell 0).trans (by rw [← HBH.out]; rfl)
              have z0 : ((h : Int) != (h : Int)) = false := by rw [bne_self_eq_false]
              go_wp2_with fail
              clear x0 z0
              go_loopw [15] (fun i wr => ∃ j : Nat, j ≤ b.txs.length ∧ i = .int .i64 j ∧ Hid (DpS w0 T0 cb m s b g13 wr)) (fun i _ => b.txs.length - (intOf i).toNat)
              case atStart => exact ⟨0, Nat.zero_le _, rfl, HM⟩
              case round =>
                clear HM
                obtain ⟨j, hj, rfl, HM⟩ := hrel
                have x2 : wr.cell? ⟨g13, 2, none⟩ = some (.slice b.A b.txs.length b.c) := HM.out.h13.cell 2
                by_cases hjl : j < b.txs.length
                · have hj8 : j ≤ 8 := by have := HBL.out; omega
                  obtain ⟨ab, off, hbA, hab, hc⟩ := HM.out.bm.sl.at_ hjl
                  have k2 := (HM.out.bm.txs _ (List.getElem_mem hjl)).1
                  have k3 := HBT.out _ (List.getElem_mem hjl)
                  generalize b.txs[j] = x at hc k2 k3
                  have HC2 := Lib.hid hc
                  have HAB := Lib.hid hab
                  have HX := Lib.hid k3
                  have HXM := Lib.hid k2
                  rw [hbA] at x2
                  have HBA := Lib.hid hbA
                  have e0 : decide (j < b.txs.length) = true := decide_eq_true hjl
                  have n1 : (j : Int) < (b.txs.length : Int) := by omega
                  have KID := fun W (hm : x.mem W) => Lib.hid (id_gen x W hm HX.out.1.ins HX.out.1.outs HX.out.1.pf.len HX.out.1.out (Nat.le_trans (corex_size x) (by decide)))
                  obtain ⟨id, hid⟩ : ∃ id, id = idT x := ⟨_, rfl⟩
                  rw [← hid] at KID
                  have HID := Lib.hid hid
                  clear hc k2 k3 hbA hab hid
                  go_wp2_with (refine wpList_load_tx rfl (.tmp 101) rfl ab (off + j * 6) (by rfl) x HC2.out ?_)
                  refine (KID _ HXM.out).out.mono ?_
                  rintro e W1 ⟨rfl, hb⟩
                  replace HM := Lib.hid (HM.out.go hb)
                  replace HXM := Lib.hid (HXM.out.bel hb)
                  replace HC2 := Lib.hid (rows_bel HC2.out HAB.out hb)
                  replace HAB := Lib.hid (Nat.lt_of_lt_of_le HAB.out (Below.size hb))
                  clear hb KID x2
                  go_wp2_with fail
                  refine (cdeep_any id cb m s _ HM.out.ch.cn (by rw [HM.out.ch.cn.len, ← HN.out]; omega) HM.out.ch.small.1 HM.out.ch.small.2).mono ?_
                  rintro e W2 ⟨n1', rfl, hd, hb⟩
                  have hdd : 1 ≤ n1' ∧ n1' ≤ (n : Int) - h0 := by
                    obtain ⟨t0, ht0, ha⟩ := HX.out.2
                    have := HM.out.ch.deep hd HY.out ht0 (by rw [decide_eq_true_eq, HID.out]; exact al_id ha)
                    rwa [← HN.out] at this
                  have HDD := Lib.hid hdd
                  replace HM := Lib.hid (HM.out.go hb)
                  replace HXM := Lib.hid (HXM.out.bel hb)
                  replace HC2 := Lib.hid (rows_bel HC2.out HAB.out hb)
                  replace HAB := Lib.hid (Nat.lt_of_lt_of_le HAB.out (Below.size hb))
                  have hh1 := HH0.out
                  have f1 : decide (n1' < 1) = false := decide_eq_false (by omega)
                  have z1 : wrap64 ((n : Int) - (h : Int)) = (n : Int) - (h : Int) := IntWalk.wrap64_in _ ⟨by omega, by omega⟩
                  have z2 : wrap64 ((n : Int) - (h : Int) + 1) = (n : Int) - (h : Int) + 1 := IntWalk.wrap64_in _ ⟨by omega, by omega⟩
                  have z1b : IntKind.i64.wrap ((n : Int) - (h : Int)) = (n : Int) - (h : Int) := IntWalk.i64_in _ ⟨by omega, by omega⟩
                  have z2b : IntKind.i64.wrap ((n : Int) - (h : Int) + 1) = (n : Int) - (h : Int) + 1 := IntWalk.i64_in _ ⟨by omega, by omega⟩
                  have f2 : decide ((n : Int) - (h : Int) + 1 < n1') = false := decide_eq_false (by omega)
                  have f2' : decide (n1' > (n : Int) - (h : Int) + 1) = false := f2
                  clear hb hd hdd hh1
                  go_wp2_with fail
                  refine (cheight_any HM.out.ch.cn).mono ?_
                  rintro e Vq ⟨rfl, hq⟩
                  rw [hq, ← HN.out]
                  clear hq Vq
                  go_wp2_with fail
                  clear f1 f2 f2' HDD
                  go_loopw [17] (fun i wr => ∃ q : Nat, q ≤ x.ins.length ∧ i = .int .i64 q ∧ Hid (DpS w0 T0 cb m s b g13 wr) ∧ Hid (x.mem wr) ∧ Hid (ab < wr.heap.size) ∧ Hid (∀ j1 u, x.cl[j1]? = some u → wr.cell? ⟨ab, off + j * 6 + j1, none⟩ = some u)) (fun i _ => x.ins.length - (intOf i).toNat)
                  case atStart => exact ⟨0, Nat.zero_le _, rfl, HM, HXM, HAB, HC2⟩
                  case round =>
                    clear HM HXM HAB HC2
                    obtain ⟨q, hq, rfl, HM, HXM, HAB, HC2⟩ := hrel
                    have x2 : wr.cell? ⟨g13, 2, none⟩ = some (.slice (some ⟨ab, off, none⟩) b.txs.length b.c) := by rw [← HBA.out]; exact HM.out.h13.cell 2
                    have x3 : wr.cell? ⟨ab, off + j * 6, none⟩ = some (.slice x.A x.ins.length x.c) := HC2.out 0 _ rfl
                    by_cases hql : q < x.ins.length
                    · have hq8 : q ≤ 1000 := by have := HX.out.1.ins; omega
                      obtain ⟨ib, io, hiA, hib, hic⟩ := HXM.out.ins.at_ hql
                      have hzm : x.ins[q] ∈ x.ins := List.getElem_mem hql
                      generalize x.ins[q] = z at hic hzm
                      have HIC : Hid (∀ j1 u, (ptCl (z.tx, z.out))[j1]? = some u → wr.cell? ⟨ib, io + q * 4 + j1, none⟩ = some u) := Lib.hid (fun j1 u hu => by
                        match j1, hu with
                        | 0, hu => exact hic 0 u hu
                        | 1, hu => exact hic 1 u hu
                        | j1 + 2, hu => simp [ptCl] at hu)
                      rw [hiA] at x3
                      have e1 : decide (q < x.ins.length) = true := decide_eq_true hql
                      have n2 : (q : Int) < (x.ins.length : Int) := by omega
                      have KSP := fun W (hW : Below wr.heap.size wr W) => Lib.hid (cspent_any z.tx z.out cb m s W (HM.out.ch.cn.bel hW) (by rw [HM.out.ch.cn.len, ← HN.out]; omega) HM.out.ch.small.1 HM.out.ch.small.2)
                      have HZM := Lib.hid hzm
                      clear hic hib hiA hzm
                      go_wp2_with (refine wpList_load_pt rfl (.tmp 137) rfl ib (io + q * 4) (by rfl) z.tx z.out HIC.out ?_)
                      refine (KSP _ (Below.refl _ _)).out.mono ?_
                      rintro e W3 ⟨u, n2', rfl, hd, hb⟩
                      have hdd : 1 ≤ n2' ∧ n2' ≤ (n : Int) - h0 := by
                        obtain ⟨t0, ht0, ha⟩ := HX.out.2
                        have hz : t0.ins.any (spendsB z.tx z.out) = true := by
                          rw [ha.ins]
                          exact List.any_eq_true.2 ⟨z, HZM.out, by unfold spendsB; simp⟩
                        have := HM.out.ch.deep hd HY.out ht0 hz
                        rwa [← HN.out] at this
                      have hh1 := HH0.out
                      have f1 : decide (n2' < 1) = false := decide_eq_false (by omega)
                      have f2 : decide ((n : Int) - (h : Int) + 1 < n2') = false := decide_eq_false (by omega)
                      have f2' : decide (n2' > (n : Int) - (h : Int) + 1) = false := f2
                      replace HM := Lib.hid (HM.out.go hb)
                      replace HXM := Lib.hid (HXM.out.bel hb)
                      replace HC2 := Lib.hid (rows_bel HC2.out HAB.out hb)
                      replace HAB := Lib.hid (Nat.lt_of_lt_of_le HAB.out (Below.size hb))
                      clear hb hd hdd hh1 x2 x3 KSP HIC
                      go_upto_region 27 with (refine wpList_store_part rfl 53 (.tmp 18) (.tmp 140) rfl W3.heap.size 0 (cs := zTxK) (Blk.new _ _ _) u.cs u.cs (by rfl) (by rfl) (Nat.le_refl 6) infoTx (txncs_one u) (txn_over u rfl) ?_; intro W5 hb1 hc1; have hb := bel_st' hc1; have HMn := Lib.hid (HM.out.go hb); have HXMn := Lib.hid (HXM.out.bel hb); have HC2n := Lib.hid (rows_bel HC2.out HAB.out hb); have HABn := Lib.hid (Nat.lt_of_lt_of_le HAB.out (Below.size hb)); clear hb1 hc1 hb)
                      clear HM HXM HC2 HAB
                      go_wp2_with fail
                      refine (cheight_any HMn.out.ch.cn).mono ?_
                      rintro e Vq ⟨rfl, hq2⟩
                      rw [hq2, ← HN.out]
                      clear hq2 Vq
                      go_wp2_with fail
                      go_roundw
                      case rel => exact ⟨q + 1, by omega, by go_num, HMn, HXMn, HABn, HC2n⟩
                      case measure => simp [intOf]; omega
                    · have e1 : decide (q < x.ins.length) = false := decide_eq_false hql
                      clear hq hql
                      go_wp2_with fail
                      go_roundw
                      case rel => exact ⟨j + 1, by omega, by go_num, HM⟩
                      case measure => simp [intOf]; omega
                · have e0 : decide (j < b.txs.length) = false := decide_eq_false hjl
                  have HF := Lib.hid HM.out.ch
                  clear hj hjl
                  go_wp2_with fail
                  go_roundw
                  case rel => exact ⟨h + 1, by omega, by omega, by go_num, HF⟩
                  case measure => simp [intOf]; omega
            · obtain rfl : h = n + 1 := by omega
              have d1 : decide (((n + 1 : Nat) : Int) ≤ (n : Int)) = false := decide_eq_false (by omega)
              have d1n : decide (n + 1 ≤ n) = false := decide_eq_false (by omega)
              have d1x : decide ((n : Int) + 1 ≤ (n : Int)) = false := decide_eq_false (by omega)
              have d2 : decide ((n : Int) ≤ 8) = true := decide_eq_true (by omega)
              have d2n : decide (n ≤ 8) = true := decide_eq_true hn8
              clear hle h1 h2
              go_wp2_with fail
              refine (cheight_any HF.out.cn).mono ?_
              rintro e Vq ⟨rfl, hq⟩
              rw [hq, ← HN.out]
              clear hq Vq
              go_wp2_with fail
              refine (fixed12_any _).mono ?_
              rintro e W8 ⟨rfl, hb⟩
              go_wp2_with fail
              go_ret
              exact ⟨rfl, HF.out.bel.trans (hb.mono HF.out.bel.size)⟩
      obtain ⟨hlt, h6⟩ := hlt
      obtain ⟨ab, off, hA, hab, hc⟩ := HOS.out.at_ hlt
      have hcell : wr.cell? ⟨ab, off + k * 5 + 4, none⟩ = some (.slice (os[k]).A (os[k]).txs.length (os[k]).c) := (HF.out.bel.cell (p := ⟨ab, off + k * 5 + 4, none⟩) hab).trans (hc 4 _ rfl)
      have hco := (HOC.out _ (List.getElem_mem hlt)).bel HF.out.bel
      generalize os[k] = o at hcell hco
      have HTX := Lib.hid (txs12_any o.A o.txs o.c wr hco.sl hco.txs hco.len)
      have d1 : decide ((k : Int) < (os.length : Int)) = true := decide_eq_true (by omega)
      have d2 : decide ((k : Int) < 8) = true := decide_eq_true (by omega)
      have d3 : decide (k < os.length) = true := decide_eq_true hlt
      subst hA
      clear hc hco
      go_wp2_with fail
      refine HTX.out.mono ?_
      rintro e W1 ⟨A, D, c, B, mm, dd, rfl, hD6, hts⟩
      have HD := Lib.hid hts.mem
      have HDK := Lib.hid hts.ok
      replace HF := Lib.hid (HF.out.go hts.bel)
      clear hts hcell HTX
      go_wp2_with fail
      refine (cmake_any A D c HF.out.cn HF.out.good.okk HST.out (by have := HSL.out; omega) (by have := HSL.out; have := HSTL.out; omega) HD.out.1 (by omega) HD.out.2 HDK.out).mono ?_
      rintro e W3 ⟨b, rfl, hbh, hbp, hbt, hbm, hbx, hb⟩
      replace HF := Lib.hid (HF.out.go hb)
      have HP0 : Hid (pushC s b.bk = 0) := Lib.hid (make_push HF.out.good (by have := HSL.out; omega) D b.bk hbh hbp (by rw [show b.bk.h = _ from hbh]; exact hbt))
      have HBX := Lib.hid hbx
      have HBM := Lib.hid hbm
      have hb8 : b.txs.length ≤ 8 := (right_k (push_zero HP0.out).1).len
      clear hbh hbp hbt hbm hbx hb HD HDK
      go_wp2_with fail
      refine (cpush_any b HF.out.cn HF.out.good.okk HST.out (by have := HSL.out; omega) (by have := HSL.out; have := HSTL.out; omega) HBM.out (by omega) HBX.out).mono ?_
      rintro e W7 ⟨rfl, hpr⟩
      rw [HP0.out]
      obtain ⟨m2, kb, hal, hcn, hch⟩ := hpr.ok HP0.out
      have HF2 := Lib.hid (HF.out.to hch HCW.out (good_push HF.out.good HP0.out hal HBX.out) hcn)
      have HL2 : Hid ((pushS s kb).ls.length = k + 1) := Lib.hid (by rw [push_len, HSL.out])
      clear hpr hal hcn hch HF HST HP0 HBX HBM
      go_wp2_with fail
      go_roundw
      case rel => exact ⟨k + 1, _, _, by omega, by omega, by go_num, HL2, HF2⟩
      case measure => simp [intOf]; omega
end Go.Proofs.YtjcinncphffgaaaGreat
