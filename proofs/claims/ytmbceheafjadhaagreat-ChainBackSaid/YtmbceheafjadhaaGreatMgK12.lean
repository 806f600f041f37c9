/- The calls of law12 that came in, opened. ChainMakes: the walk. -/
import Derived.ChangeMaps5
import Derived.Outline
import Derived.Deep.RegionHeld3
import Derived.Test.YtmbceheafjadhaaGreatMgCrA
import Derived.Test.YtmbceheafjadhaaGreatMgK11
import Derived.Test.YtmbceheafjadhaaGreatMgK3
import Derived.Test.YtmbceheafjadhaaGreatMgK8
import Derived.Test.YtmbceheafjadhaaGreatMgK9
set_option linter.unusedVariables false
set_option linter.unusedSimpArgs false
namespace Go.Proofs.YtmbceheafjadhaaGreat
open Go.ChangeShapes Go.WideShapes Go.ChangeAt Go.RowKit Go.Deep
/-- a call: which, a block, transactions -/
structure Om where
  k : Int
  b : Bm
  A : Option Addr
  txs : List Txn
  c : Nat
def Om.cs (o : Om) : Array Value := #[.int .i64 o.k, .int .i64 o.b.h, .string o.b.prev, .slice o.b.A o.b.txs.length o.b.c, .slice o.A o.txs.length o.c]
def Om.cl (o : Om) : List Value := o.cs.toList
structure OmCame (w : World) (o : Om) : Prop where
  blk : BkCame w o.b
  sl : Sl w w.heap.size 6 Txn.cl o.A o.txs
  txs : ∀ t ∈ o.txs, TxCame w t
  len : o.txs.length ≤ maxLen
theorem OmCame.bel {w w' : World} {o : Om} (h : OmCame w o) (hb : Below w.heap.size w w') : OmCame w' o := ⟨h.blk.bel hb, (h.sl.below hb).more hb.size, fun t ht => (h.txs t ht).bel hb, h.len⟩
section
variable {H : Type} {enc : TypeId × Value → H} {w : World} {base : Nat} {sp : Nat → Bool} {held : Bool}
theorem cel_Om : Tryz.prog.cellsOf 38 = 5 := by kernel_rfl
theorem tr_Om {cs : List Value} (h : TR enc w base sp held 38 cs) : ∃ o : Om, cs = o.cl ∧ OmCame w o := by
  have f0 := tr_field h Tryz.underlying38 0 _ rfl 0 1 3 rfl rfl cel_int
  have f1 := tr_field h Tryz.underlying38 1 _ rfl 1 3 36 rfl rfl cel_Bk
  have f2 := tr_field h Tryz.underlying38 2 _ rfl 4 1 34 rfl rfl cel_Txs
  have hl := tr_len h Tryz.underlying38 5 cel_Om
  obtain ⟨x0, e0, b0⟩ := tr_int f0
  obtain ⟨b, e1, hb⟩ := tr_Bk f1
  obtain ⟨A2, x2, c2, e2, s2, q2, l2⟩ := tr_slice (en := Txn.cl) (Q := TxCame w) Tryz.underlying34 cel_Tx (fun _ => rfl) (by omega) (fun cs h => tr_Tx h) f2
  have hc : cs = (cs.drop 0).take 1 ++ ((cs.drop 1).take 3 ++ ((cs.drop 4).take 1)) := by
    have e := List.drop_zero (l := cs)
    rw [dt cs 0 1, dt cs 1 3, dt cs 4 1, dt_end hl, List.append_nil] at e
    exact e.symm
  rw [e0, e1, e2] at hc
  exact ⟨⟨x0, b, A2, x2, c2⟩, hc, hb, s2, q2, l2⟩
end
set_option maxRecDepth 100000 in
theorem open_oms {H : Type} {enc : TypeId × Value → H} {W : World} {r : Reach} {b0 : Nat} {v : Value} {d : DataW H} {p : List MemPlace} (hv : Value.okWide Tryz.prog W r b0 23 v)
    (h : DataW.Trod enc Tryz.prog W 0 (fun _ => true) true 23 v d p) : ∃ A l c, v = .slice A l.length c ∧ Sl W W.heap.size 5 Om.cl A l ∧ (∀ x ∈ l, OmCame W x) ∧ l.length ≤ maxLen := by
  obtain ⟨a0, len, cap, rfl⟩ := okWide_slice Tryz.underlying23 hv
  obtain ⟨A, l, c, hc, hs, hq, hl⟩ := tr_slice (en := Om.cl) (Q := OmCame W) Tryz.underlying23 cel_Om (fun _ => rfl) (by omega) (fun cs h => tr_Om h) (tr_cells h)
  injection hc with hc _
  exact ⟨A, l, c, hc, hs, hq, hl⟩
end Go.Proofs.YtmbceheafjadhaaGreat
namespace Go.Proofs.YtmbceheafjadhaaGreat
open Go.RowKit Go.Maps
/-- the chain of a law -/
structure MkC (w0 : World) (T0 : List En) (cb : Nat) (m : CnM) (s : Cn) (w : World) : Prop where
  cn : CnAt w cb m s
  good : Good T0 s
  bel : Below w0.heap.size w0 w
/-- the chain, what was told, and two blocks that were made -/
structure MwS (w0 : World) (T0 : List En) (cb : Nat) (m : CnM) (s : Cn) (A : Option Addr) (D : List Txn) (b d : Bm) (g13 g14 : Nat) (w : World) : Prop where
  ch0 : MkC w0 T0 cb m s w
  sl : Sl w w.heap.size 6 Txn.cl A D
  ts : ∀ t ∈ D, t.mem w ∧ TxOk t
  bm : b.mem w
  dm : d.mem w
  h13 : Blk w g13 36 b.cs
  h14 : Blk w g14 36 d.cs
section
variable {w0 w w' : World} {T0 : List En} {cb : Nat} {m m' : CnM} {s s' : Cn} {A : Option Addr} {D : List Txn} {b d : Bm} {g13 g14 : Nat}
theorem MkC.go (h : MkC w0 T0 cb m s w) (hb : Below w.heap.size w w') : MkC w0 T0 cb m s w' := ⟨h.cn.bel hb, h.good, h.bel.trans (hb.mono h.bel.size)⟩
theorem MkC.to (h : MkC w0 T0 cb m s w) (hc : Ch [cb] w w') (hw : w0.heap.size ≤ cb) (hg : Good T0 s') (hk : CnAt w' cb m' s') : MkC w0 T0 cb m' s' w' := ⟨hk, hg, h.bel.trans (hc.below h.bel.size (by simpa using hw))⟩
theorem MwS.go (h : MwS w0 T0 cb m s A D b d g13 g14 w) (hb : Below w.heap.size w w') : MwS w0 T0 cb m s A D b d g13 g14 w' :=
  ⟨h.ch0.go hb, (h.sl.below hb).more hb.size, fun t ht => ⟨(h.ts t ht).1.bel hb, (h.ts t ht).2⟩, h.bm.bel hb, h.dm.bel hb, h.h13.bel hb, h.h14.bel hb⟩
end
set_option maxRecDepth 100000 in
set_option maxHeartbeats 8000000 in
theorem cmakes_any (A0 : Option Addr) (l : List Ou) (c0 : Nat) (A1 : Option Addr) (os : List Om) (c1 : Nat) (w0 : World) (hsl : Sl w0 w0.heap.size 9 Ou.cl A0 l) (hl : l.length ≤ maxLen) (ham : ∀ o ∈ l, o.am < 18446744073709551616 ∧ o.unit < 18446744073709551616)
    (hos : Sl w0 w0.heap.size 5 Om.cl A1 os) (hoc : ∀ o ∈ os, OmCame w0 o) :
    Calls Tryz.prog 5 #[.slice A0 l.length c0, .slice A1 os.length c1] w0 fun e w' => e = .returned (.bool true) ∧ Below w0.heap.size w0 w' := by
  have HOU := outs11_any A0 l c0 w0 hsl hl
  have hA8 := cut_am ham 8
  have hL8 := cut_len l 8
  have HOS := Lib.hid hos
  have HOC := Lib.hid hoc
  clear hsl hl ham hos hoc
  go_enter Tryz.func5, Tryz.ntmps5
  go_wp2_with fail
  refine HOU.mono ?_
  rintro e V1 ⟨A, c, B, d, mm, rfl, hm, hO, _, HB⟩
  generalize (l.take 8).map cutO = L at hm hO hA8 hL8
  have HSO : Hid (Sl V1 V1.heap.size 9 Ou.cl A L) := Lib.hid (Sl.of_own ouLen9 (by rw [← hm]; exact hO))
  have HL8 := Lib.hid hL8
  replace HB := Lib.hid HB
  obtain rfl : mm = L.length := hm
  clear hO hL8 HOU
  cases hnw : newU L with
  | false =>
    go_wp2_with fail
    refine (cnew_no A L c V1 HSO.out (by have := HL8.out; omega) hnw).mono ?_
    rintro e W4 ⟨rfl, hb⟩
    replace HB := Lib.hid (HB.out.trans (hb.mono HB.out.size))
    clear hb
    go_wp2_with fail
    refine (fixed12_any _).mono ?_
    rintro e W5 ⟨rfl, hb⟩
    go_wp2_with fail
    go_ret
    exact ⟨rfl, HB.out.trans (hb.mono HB.out.size)⟩
  | true =>
    obtain ⟨hts, hT8⟩ := good_ts hnw HL8.out hA8
    have HTS := Lib.hid hts
    have HG0 := Lib.hid (Good.new (T0 := utN (firstB L) L) (firstB L) (firstB_size L))
    go_wp2_with fail
    refine (cnew_ok A L c V1 HSO.out hnw (fun o ho => (hA8 o ho).1)).mono ?_
    rintro e V2 ⟨cb, m0, rfl, hcb, hat, hb⟩
    have HCW : Hid (w0.heap.size ≤ cb) := Lib.hid (Nat.le_trans HB.out.size hcb)
    have HF : Hid (MkC w0 (utN (firstB L) L) cb m0 ⟨firstB L, [], utN (firstB L) L⟩ V2) := Lib.hid ⟨hat, HG0.out, HB.out.trans (hb.mono HB.out.size)⟩
    generalize utN (firstB L) L = T0 at HTS HF hT8
    generalize firstB L = f0 at HF
    have HT8 := Lib.hid hT8
    clear hat hb hcb hts HB HG0 hnw hA8 HSO HL8 hT8
    go_wp2_with fail
    go_loopw [9] (fun i wr => ∃ (k : Nat) (s : Cn) (m : CnM), k ≤ os.length ∧ k ≤ 6 ∧ i = .int .i64 k ∧ s.ls.length = k ∧ Hid (MkC w0 T0 cb m s wr)) (fun i _ => 6 - (intOf i).toNat)
    case atStart => exact ⟨0, _, _, Nat.zero_le _, Nat.zero_le _, rfl, rfl, HF⟩
    case round =>
      clear HF
      obtain ⟨k, s, m, hk, hk6, rfl, hsl, HF⟩ := hrel
      obtain ⟨hsts, hsT⟩ := HF.out.good.ts HTS.out HT8.out (by omega)
      have HST := Lib.hid hsts
      clear hsts
      by_cases hlt : k < os.length ∧ k < 6
      rotate_left
      · have dd : k < os.length → decide ((k : Int) < 6) = false := fun h => decide_eq_false (by omega)
        by_cases hkl : k < os.length
        · have d2 := dd hkl
          have d3 : decide (k < os.length) = true := decide_eq_true hkl
          clear dd hlt
          go_wp2_with fail
          refine (fixed12_any _).mono ?_
          rintro e W8 ⟨rfl, hb⟩
          go_wp2_with fail
          go_ret
          exact ⟨rfl, HF.out.bel.trans (hb.mono HF.out.bel.size)⟩
        · have d3 : decide (k < os.length) = false := decide_eq_false hkl
          clear dd hlt
          go_wp2_with fail
          refine (fixed12_any _).mono ?_
          rintro e W8 ⟨rfl, hb⟩
          go_wp2_with fail
          go_ret
          exact ⟨rfl, HF.out.bel.trans (hb.mono HF.out.bel.size)⟩
      obtain ⟨hlt, h6⟩ := hlt
      obtain ⟨ab, off, hA, hab, hc⟩ := HOS.out.at_ hlt
      have hcell : wr.cell? ⟨ab, off + k * 5 + 4, none⟩ = some (.slice (os[k]).A (os[k]).txs.length (os[k]).c) := (HF.out.bel.cell (p := ⟨ab, off + k * 5 + 4, none⟩) hab).trans (hc 4 _ rfl)
      have hco := (HOC.out _ (List.getElem_mem hlt)).bel HF.out.bel
      generalize os[k] = o at hcell hco
      have HTX := Lib.hid (txs12_any o.A o.txs o.c wr hco.sl hco.txs hco.len)
      have d1 : decide ((k : Int) < (os.length : Int)) = true := decide_eq_true (by omega)
      have d2 : decide ((k : Int) < 6) = true := decide_eq_true (by omega)
      have d3 : decide (k < os.length) = true := decide_eq_true hlt
      subst hA
      clear hc hco
      go_wp2_with fail
      refine HTX.out.mono ?_
      rintro e W1 ⟨A, D, c, B, mm, dd, rfl, hD6, hts⟩
      have HD := Lib.hid hts.mem
      have HDK := Lib.hid hts.ok
      replace HF := Lib.hid (HF.out.go hts.bel)
      clear hts hcell HTX
      go_wp2_with fail
      refine (ctip_any HF.out.cn HF.out.good.okk (by omega)).mono ?_
      rintro e W2 ⟨rfl, hb⟩
      replace HF := Lib.hid (HF.out.go hb)
      have HD2 : Hid (Sl W2 W2.heap.size 6 Txn.cl A D ∧ ∀ t ∈ D, t.mem W2 ∧ t.nz) := Lib.hid ⟨(HD.out.1.below hb).more hb.size, fun t ht => ⟨(HD.out.2 t ht).1.bel hb, (HD.out.2 t ht).2⟩⟩
      clear hb HD
      go_wp2_with fail
      refine (cmake_any A D c HF.out.cn HF.out.good.okk HST.out (by omega) (by omega) HD2.out.1 (by omega) HD2.out.2 HDK.out).mono ?_
      rintro e W3 ⟨b, rfl, hbh, hbp, hbt, hbm, hbx, hb⟩
      replace HF := Lib.hid (HF.out.go hb)
      have HP0 : Hid (pushC s b.bk = 0) := Lib.hid (make_push HF.out.good (by omega) D b.bk hbh hbp (by rw [show b.bk.h = _ from hbh]; exact hbt))
      have HBH := Lib.hid hbh
      have HBP := Lib.hid hbp
      have HBT := Lib.hid hbt
      have HSUB := Lib.hid (make_subA hbt)
      have HBX := Lib.hid hbx
      have HBM := Lib.hid hbm
      have HD3 : Hid (Sl W3 W3.heap.size 6 Txn.cl A D ∧ ∀ t ∈ D, t.mem W3 ∧ t.nz) := Lib.hid ⟨(HD2.out.1.below hb).more hb.size, fun t ht => ⟨(HD2.out.2 t ht).1.bel hb, (HD2.out.2 t ht).2⟩⟩
      have hb8 : b.txs.length ≤ 8 := (right_k (push_zero HP0.out).1).len
      clear hbh hbp hbt hbm hbx hb HD2
      go_wp2_with (refine wpList_store_part rfl 36 (.tmp 13) (.tmp 65) rfl W3.heap.size 0 (cs := zBm.cs) (Blk.new _ _ _) b.cs b.cs (by rfl) (by rfl) (Nat.le_refl 3) infoBk (bmcs_one _) (bm_over _ rfl) ?_; intro W4 hb1 hc1; have hb := bel_st' hc1; have H13 := Lib.hid hb1; replace HF := Lib.hid (HF.out.go hb); replace HBM := Lib.hid (HBM.out.bel hb); have HD4 : Hid (Sl W4 W4.heap.size 6 Txn.cl A D ∧ ∀ t ∈ D, t.mem W4 ∧ t.nz) := Lib.hid ⟨(HD3.out.1.below hb).more hb.size, fun t ht => ⟨(HD3.out.2 t ht).1.bel hb, (HD3.out.2 t ht).2⟩⟩; clear hb1 hc1 hb HD3)
      generalize W3.heap.size = g13 at H13 ⊢
      refine (cmake_any A D c HF.out.cn HF.out.good.okk HST.out (by omega) (by omega) HD4.out.1 (by omega) HD4.out.2 HDK.out).mono ?_
      rintro e W5 ⟨d, rfl, hdh, hdp, hdt, hdm, hdx, hb⟩
      replace HF := Lib.hid (HF.out.go hb)
      have HAL : Hid (b.bk.al d.bk) := Lib.hid ⟨HBH.out.trans hdh.symm, HBP.out.trans hdp.symm, HBT.out.trans hdt.symm⟩
      have HDX := Lib.hid hdx
      have HDM := Lib.hid hdm
      replace HBM := Lib.hid (HBM.out.bel hb)
      replace H13 := Lib.hid (H13.out.bel hb)
      have HD5 : Hid (Sl W5 W5.heap.size 6 Txn.cl A D ∧ ∀ t ∈ D, t.mem W5 ∧ TxOk t) := Lib.hid ⟨(HD4.out.1.below hb).more hb.size, fun t ht => ⟨(HD4.out.2 t ht).1.bel hb, HDK.out t ht⟩⟩
      clear hdh hdp hdt hdm hdx hb HD4 HBT HDK
      go_wp2_with (refine wpList_store_part rfl 36 (.tmp 14) (.tmp 68) rfl W5.heap.size 0 (cs := zBm.cs) (Blk.new _ _ _) d.cs d.cs (by rfl) (by rfl) (Nat.le_refl 3) infoBk (bmcs_one _) (bm_over _ rfl) ?_; intro W6 hb1 hc1; have hb := bel_st' hc1; have HM : Hid (MwS w0 T0 cb m s A D b d g13 W5.heap.size W6) := Lib.hid ⟨HF.out.go hb, (HD5.out.1.below hb).more hb.size, (fun t ht => ⟨(HD5.out.2 t ht).1.bel hb, (HD5.out.2 t ht).2⟩), HBM.out.bel hb, HDM.out.bel hb, H13.out.bel hb, hb1⟩; clear hb1 hc1 hb HD5 HF HBM HDM H13)
      generalize W5.heap.size = g14 at HM ⊢
      go_loopw [15, 16] (fun v15 v16 wr => ∃ (j a : Nat), j ≤ b.txs.length ∧ a ≤ D.length ∧ v15 = .int .i64 a ∧ v16 = .int .i64 j ∧ Hid (subA (b.txs.drop j) (D.drop a)) ∧ Hid (MwS w0 T0 cb m s A D b d g13 g14 wr)) (fun _ v16 _ => b.txs.length - (intOf v16).toNat)
      case atStart => exact ⟨0, 0, Nat.zero_le _, Nat.zero_le _, rfl, rfl, HSUB, HM⟩
      case round =>
        clear HM HSUB
        obtain ⟨j, a, hj, ha, rfl, rfl, HSUB, HM⟩ := hrel
        by_cases hjl : j < b.txs.length
        · have x2 := HM.out.h13.cell 2
          have x2' : wr.cell? ⟨g13, 2, none⟩ = some (.slice b.A b.txs.length b.c) := x2
          have e0 : decide (j < b.txs.length) = true := decide_eq_true hjl
          clear x2
          go_wp2_with fail
          clear x2'
          go_loopw [15] (fun v15 wr => ∃ (a : Nat), a ≤ D.length ∧ v15 = .int .i64 a ∧ Hid (subA (b.txs.drop j) (D.drop a)) ∧ Hid (MwS w0 T0 cb m s A D b d g13 g14 wr)) (fun v15 _ => D.length - (intOf v15).toNat)
          case atStart => exact ⟨a, ha, rfl, HSUB, HM⟩
          case round =>
            clear HM HSUB ha
            obtain ⟨a, ha, rfl, HSUB, HM⟩ := hrel
            have hal : a < D.length := by
              rcases Nat.lt_or_ge a D.length with h | h
              · exact h
              · exfalso
                have h1 := HSUB.out
                rw [List.drop_eq_nil_of_le h, List.drop_eq_getElem_cons hjl] at h1
                exact h1.pos
            obtain ⟨ab1, of1, rfl, _, hc⟩ := HM.out.sl.at_ hal
            obtain ⟨ab2, of2, hbA, _, hc2⟩ := HM.out.bm.sl.at_ hjl
            have hs1 : subA (b.txs[j] :: b.txs.drop (j + 1)) (D[a] :: D.drop (a + 1)) := by rw [← List.drop_eq_getElem_cons hjl, ← List.drop_eq_getElem_cons hal]; exact HSUB.out
            have HNO : Hid (sameZ D[a] b.txs[j] = false → subA (b.txs.drop j) (D.drop (a + 1))) := Lib.hid (fun h => by rw [List.drop_eq_getElem_cons hjl]; exact hs1.miss (fun e => by rw [(sameZ_iff _ _).2 e] at h; cases h))
            have HYE : Hid (subA (b.txs.drop (j + 1)) (D.drop (a + 1))) := Lib.hid hs1.hit
            have k1 := HM.out.ts _ (List.getElem_mem hal)
            have k2 := (HM.out.bm.txs _ (List.getElem_mem hjl)).1
            have k3 := HBX.out _ (List.getElem_mem hjl)
            generalize D[a] = x at hc HNO k1
            generalize b.txs[j] = y at hc2 HNO k2 k3
            have HSZ := fun W (hW : Below wr.heap.size wr W) => Lib.hid (csame_z x y W (k1.1.bel hW) (k2.bel hW) (by have := k1.2.ins; omega) (by have := k1.2.outs; omega) (by have := k3.outs; omega) (by have := k1.2.pf.len; omega))
            have HC1 := Lib.hid hc
            have HC2 := Lib.hid hc2
            have q3 := cell_rg (show wr.cell? ⟨g13, 2, none⟩ = some (.slice (some ⟨ab2, of2, none⟩) b.txs.length b.c) from (HM.out.h13.cell 2).trans (by rw [← hbA]; rfl))
            have hgl := HM.out.h13.lt
            have e1 : decide (a < D.length) = true := decide_eq_true hal
            have e1' : decide ((a : Int) < (D.length : Int)) = true := decide_eq_true (by omega)
            have n1 : (a : Int) < D.length := by omega
            have n2 : (j : Int) < b.txs.length := by omega
            clear hc hc2 hs1 k1 k2 k3 hbA HSUB
            generalize sameZ x y = z at HSZ HNO
            go_upto_region 16 with fail
            refine wp_region_quiet_below (by kernel_rfl) (by kernel_rfl) ?_
            repeat (first | go_big_quiet_skip | (go_big_quiet_want; first | ((first
                          | (refine quiet_load_row 70 (.tmp 83) rfl ab1 (of1 + a * 6) x.cl HC1.out x.cs (by rfl) (Array.toArray_toList ..) Tryz.underlying70 infoTx6 ?_; go_simp)
                          | (refine quiet_load_row 70 (.tmp 88) rfl ab2 (of2 + j * 6) y.cl HC2.out y.cs (by rfl) (Array.toArray_toList ..) Tryz.underlying70 infoTx6 ?_; go_simp)); go_big_quiet_on) | (go_big_quiet_op; first | go_big_quiet_on | go_big_quiet_call ((go_at_call 29; with_reducible exact Calls.rg fun W hW => (HSZ W hW).out)))))
            refine wpQuiet_nil ?_
            intro U hp
            have hb := bel_regrown hp
            clear hp
            replace HM := Lib.hid (HM.out.go hb)
            clear hb q3 HSZ HC1 HC2 hgl
            cases z with
            | false =>
              have HSUB := Lib.hid (HNO.out rfl)
              go_wp2_with fail
              go_roundw
              case rel => exact ⟨a + 1, by omega, by go_num, HSUB, HM⟩
              case measure => simp [intOf]; omega
            | true =>
              have e2 : decide ((D.length : Int) ≤ (a : Int)) = false := decide_eq_false (by omega)
              have e2' : decide (D.length ≤ a) = false := decide_eq_false (by omega)
              clear HNO
              go_wp2_with fail
              go_roundw
              case rel => exact ⟨j + 1, a + 1, by omega, by omega, by go_num, by go_num, HYE, HM⟩
              case measure => simp [intOf]; omega
        · have x2 := HM.out.h13.cell 2
          have x2' : wr.cell? ⟨g13, 2, none⟩ = some (.slice b.A b.txs.length b.c) := x2
          have e0 : decide (j < b.txs.length) = false := decide_eq_false hjl
          clear x2 HSUB hj ha
          go_upto_region 21 with fail
          have HSAME := fun W (hW : Below wr.heap.size wr W) => Lib.hid (bsame_al b d W (HM.out.bm.bel hW) (HM.out.dm.bel hW) HBX.out HDX.out HAL.out (by omega))
          have HTIP := fun W (hW : Below wr.heap.size wr W) => Lib.hid (ctip_any (HM.out.ch0.cn.bel hW) HM.out.ch0.good.okk (by omega))
          have HHEI := fun W (hW : Below wr.heap.size wr W) => Lib.hid (show Calls Tryz.prog 16 #[.pointer (some ⟨cb, 0, none⟩)] W fun e w' => e = .returned (.int .i64 (s.ls.length : Int)) ∧ Below W.heap.size W w' from (cheight_any (HM.out.ch0.cn.bel hW)).mono (fun e w' h => ⟨h.1, by rw [h.2]; exact Below.refl _ _⟩))
          have q0 := cell_rg (show wr.cell? ⟨g13, 0, none⟩ = some (.int .i64 ((s.ls.length : Int) + 1)) from (HM.out.h13.cell 0).trans (by rw [← HBH.out]; rfl))
          have q1 := cell_rg (show wr.cell? ⟨g13, 1, none⟩ = some (.string (tipC s)) from (HM.out.h13.cell 1).trans (by rw [← HBP.out]; rfl))
          have q2 := cell_rg (show wr.cell? ⟨g13, 2, none⟩ = some (.slice b.A b.txs.length b.c) from x2')
          have h13l := HM.out.h13.lt
          have h14l := HM.out.h14.lt
          have HX13 := Lib.hid HM.out.h13
          have HX14 := Lib.hid HM.out.h14
          have hlw : wrap64 ((s.ls.length : Int) + 1) = (s.ls.length : Int) + 1 := IntWalk.wrap64_in _ ⟨by omega, by omega⟩
          have htq : ((tipC s).toList == (tipC s).toList) = true := by simp
          have h8 : decide (8 < (b.txs.length : Int)) = false := decide_eq_false (by omega)
          have h8' : decide (8 < b.txs.length) = false := decide_eq_false (by omega)
          have hqq : ((s.ls.length : Int) + 1 == (s.ls.length : Int) + 1) = true := by simp
          have HKL := Lib.hid hsl
          clear x2' hsl
          try simp only [List.cons_append, List.nil_append, List.append]
          refine wp_region_head 33 (l1 := ?hL) ?hE (by kernel_rfl) ?hB ?hT (of_decide_eq_true (by kernel_rfl)) ?hH ?_
          case hE => simp only [List.take_succ_cons, List.take_zero]; rfl
          case hB => as_aux_lemma => kernel_rfl
          case hT => as_aux_lemma => kernel_rfl
          case hH => as_aux_lemma => kernel_rfl
          repeat (first | go_big_quiet_skip | (go_big_quiet_want; first | ((first
                      | (refine quiet_load_blk 36 (.tmp 13) rfl g13 0 3 HX13.out b.cs (by rfl) (bm_ext _) Tryz.underlying36 infoBk (Nat.le_refl 3) ?_; go_simp)
                      | (refine quiet_load_blk 36 (.tmp 14) rfl g14 0 3 HX14.out d.cs (by rfl) (bm_ext _) Tryz.underlying36 infoBk (Nat.le_refl 3) ?_; go_simp)); go_big_quiet_on) | (go_big_quiet_op; first | go_big_quiet_on | go_big_quiet_call ((first
                      | (go_at_call 30; with_reducible exact Calls.rg fun W hW => (HSAME W hW).out)
                      | (go_at_call 15; with_reducible exact Calls.rg fun W hW => (HTIP W hW).out)
                      | (go_at_call 16; with_reducible exact Calls.rg fun W hW => (HHEI W hW).out))))))
          refine wpQuiet_nil ?_
          intro U hp
          have hbU := bel_regrown hp
          replace HM := Lib.hid (HM.out.go hbU)
          clear hp hbU q0 q1 q2 HSAME HTIP HHEI HX13 HX14 h13l h14l
          change wpAny Tryz.prog .any _ _ (2 + 1) (firstN 36 33) _ _
          rw [show firstN 36 33 = #[true, true, true, true, true, true, true, true, true, true, true, true, true, true, true, true, true, true, true, true, true, true, true, true, true, true, true, true, true, true, true, true, true, false, false, false] from by as_aux_lemma => kernel_rfl]
          refine wpAny_ready (rs := [33]) (by kernel_rfl) (by simp) (AllReady.cons rfl (fun K hK => ?_) AllReady.nil)
          go_simp
          refine (cpush_any b HM.out.ch0.cn HM.out.ch0.good.okk HST.out (by have := HKL.out; omega) (by have := HKL.out; omega) HM.out.bm (by omega) HBX.out).mono ?_
          rintro e W7 ⟨rfl, hpr⟩
          rw [HP0.out]
          obtain ⟨m2, kb, hal, hcn, hch⟩ := hpr.ok HP0.out
          have HF2 := Lib.hid (HM.out.ch0.to hch HCW.out (good_push HM.out.ch0.good HP0.out hal HBX.out) hcn)
          have hl2 : (pushS s kb).ls.length = k + 1 := by rw [push_len, HKL.out]
          clear hpr hal hcn hch HM HST HP0 HBX
          go_simp
          refine hK _ _ ?_
          clear hK K
          rw [show (#[true, true, true, true, true, true, true, true, true, true, true, true, true, true, true, true, true, true, true, true, true, true, true, true, true, true, true, true, true, true, true, true, true, false, false, false] : Array Bool).setIfInBounds 33 true = #[true, true, true, true, true, true, true, true, true, true, true, true, true, true, true, true, true, true, true, true, true, true, true, true, true, true, true, true, true, true, true, true, true, true, false, false] from rfl]
          refine wpAny_lexrest 34 (l2 := ?rL) ?rE (by kernel_rfl) (by kernel_rfl) ?rB ?_
          case rE => simp only [List.drop_succ_cons, List.drop_zero]; rfl
          case rB => as_aux_lemma => kernel_rfl
          repeat (first | go_big_quiet_skip | (go_big_quiet_want; first | (fail; go_big_quiet_on) | (go_big_quiet_op; first | go_big_quiet_on | go_big_quiet_call (fail))))
          refine wpQuiet_nil ?_
          intro Z hp
          have hbZ := bel_regrown hp
          clear hp
          replace HF2 := Lib.hid (HF2.out.go hbZ)
          clear hbZ
          go_wp2_with fail
          go_roundw
          case rel => exact ⟨k + 1, _, _, by omega, by omega, by go_num, hl2, HF2⟩
          case measure => simp [intOf]; omega
end Go.Proofs.YtmbceheafjadhaaGreat
