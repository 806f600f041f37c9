/- UtxoCopies: the walk. -/
import Derived.Outline
import Derived.Test.YtdoebmikjgmnaaaGreatMgG44
import Derived.Test.YtdoebmikjgmnaaaGreatMgN5
set_option linter.unusedVariables false
set_option linter.unusedSimpArgs false
namespace Go.Proofs.YtdoebmikjgmnaaaGreat
open Go.RowKit Go.Maps
set_option maxRecDepth 100000 in
set_option maxHeartbeats 4000000 in
theorem ucopies_any (A0 : Option Addr) (l : List Ou) (c0 : Nat) (t0 : Txn) (h : Int) (w0 : World) (hsl : Sl w0 w0.heap.size 9 Ou.cl A0 l) (hl : l.length ≤ maxLen) (ham : ∀ o ∈ l, o.am < 18446744073709551616 ∧ o.unit < 18446744073709551616) (hcm : TxCame w0 t0) :
    Calls Tryz.prog 7 #[.slice A0 l.length c0, .agg t0.cs, .int .i64 h] w0 fun e w' => e = .returned (.bool true) ∧ Below w0.heap.size w0 w' := by
  have HOU := fun W (hW : Below w0.heap.size w0 W) => Lib.hid (outs11_any A0 l c0 W ((hsl.below hW).more hW.size) hl)
  have HCT := fun W (hW : Below w0.heap.size w0 W) => Lib.hid (tcut_any t0 W ⟨(hcm.mem.ins.below hW).more hW.size, (hcm.mem.outs.below hW).more hW.size, (hcm.mem.wins.below hW).more hW.size⟩ hcm.n1 hcm.n2 hcm.pf.len)
  have HOK := fun A c B d PA pc => Lib.hid (cutx_ok hcm A c B d PA pc)
  have hA8 := cut_am ham 8
  have hL8 := cut_len l 8
  clear hsl hl ham hcm
  have HX : Hid (Blk (w0.alloc (.cells t0.cs 53)) w0.heap.size 53 t0.cs) := Blk.new _ _ _
  have HB : Hid (Below w0.heap.size w0 (w0.alloc (.cells t0.cs 53))) := (Below.refl _ _).alloc (Nat.le_refl _) _
  go_enter Tryz.func7, Tryz.ntmps7
  go_upto_region 1 with fail
  generalize w0.alloc (.cells t0.cs 53) = W0 at HX HB ⊢
  go_wp2_with fail
  refine (HOU _ HB.out).out.mono ?_
  rintro e W1 ⟨A, c, B, d, m, rfl, hm, hO, _, hb⟩
  generalize (l.take 8).map cutO = L at hm hO hA8 hL8
  have HO := Lib.hid hO
  have HMM := Lib.hid hm
  replace HX := Lib.hid (HX.out.bel hb)
  replace HB := Lib.hid (HB.out.trans (hb.mono HB.out.size))
  clear hb hO hm HOU
  go_wp2_with (refine wpList_load_blk rfl 53 (.tmp 4) rfl w0.heap.size 0 6 HX.out t0.cs (by rfl) (txn_ext t0) Tryz.underlying53 infoTx (Nat.le_refl 6) ?_)
  refine (HCT _ HB.out).out.mono ?_
  have hwz1 := HX.out.lt
  rintro e W2 ⟨TA, TB, TP, k1, c1, k2, d1, k3, p1, rfl, hk1, hk2, hk3, r1, r2, r3, hb⟩
  rw [cutx_cs t0 TA k1 c1 TB k2 d1 TP k3 p1 hk1 hk2 hk3]
  have HTM := Lib.hid (cutx_mem t0 hk1 hk2 hk3 r1 r2 r3)
  have HTO := HOK TA c1 TB d1 TP p1
  have HNE := Lib.hid (mem_ne t0 c1 d1 p1 hwz1 r1 r2 r3)
  replace HX := Lib.hid (HX.out.bel hb)
  replace HO := Lib.hid (own_belT HO.out hb)
  replace HB := Lib.hid (HB.out.trans (hb.mono HB.out.size))
  clear hb r1 r2 r3 hk1 hk2 hk3 HCT HOK hwz1
  generalize cutX t0 TA c1 TB d1 TP p1 = t at HTM HTO HNE ⊢
  go_upto_region 3 with (refine wpList_store_part rfl 53 (.tmp 4) (.tmp 25) rfl w0.heap.size 0 HX.out t.cs t.cs (by rfl) (by rfl) (Nat.le_refl 6) infoTx (txncs_one t) (txn_over t rfl) ?_; intro W3 hb1 hc1; replace HTM := Lib.hid (mem_chT HTM.out hc1 HNE.out); replace HO := Lib.hid (own_chT HO.out hc1 HX.out.kdT (by decide)); replace HB : Hid (Below w0.heap.size w0 W3) := Lib.hid (HB.out.trans (hc1.below HB.out.size (by simp))); replace HX := Lib.hid hb1; clear hb1 hc1)
  have HSO : Hid (Sl W3 W3.heap.size 9 Ou.cl A L) := Lib.hid (Sl.of_own ouLen9 (by rw [← HMM.out]; exact HO.out))
  have HL8 := Lib.hid hL8
  obtain rfl : m = L.length := HMM.out
  clear HO HMM hL8
  cases hn : newU L with
  | false =>
    go_wp2_with fail
    refine (unew_no A L c W3 HSO.out (by have := HL8.out; omega) hn).mono ?_
    rintro e W4 ⟨rfl, hb⟩
    replace HB := Lib.hid (HB.out.trans (hb.mono HB.out.size))
    clear hb
    go_wp2_with fail
    refine (fixed11_any _).mono ?_
    rintro e W5 ⟨rfl, hb⟩
    go_wp2_with fail
    go_ret
    exact ⟨rfl, HB.out.trans (hb.mono HB.out.size)⟩
  | true =>
    have HTK := Lib.hid (tok_new hn HL8.out hA8)
    go_wp2_with fail
    refine (unew_ok A L c W3 HSO.out hn (fun o ho => (hA8 o ho).1)).mono ?_
    rintro e W4 ⟨sb, b, rfl, hsb, hbb, hset, hb⟩
    have HS := Lib.hid hset
    have HSB := Lib.hid (Nat.le_trans HB.out.size hsb)
    have HBB := Lib.hid (Nat.le_trans HB.out.size hbb)
    replace HX := Lib.hid (HX.out.bel hb)
    replace HTM := Lib.hid (HTM.out.bel hb)
    replace HB := Lib.hid (HB.out.trans (hb.mono HB.out.size))
    have hTl : (utN (firstB L) L).length = L.length := utN_len _ _
    have hTs := utN_srtK (firstB L) L
    generalize utN (firstB L) L = T at HTK HS hTl hTs
    clear hb hset hsb hbb HSO hA8
    have hT0 : 0 < T.length := HTK.out.pos
    have hT8 : T.length ≤ 8 := by have := HL8.out; omega
    have HTL := Lib.hid hTl
    have HTS := Lib.hid hTs
    clear hTl hTs
    go_upto_region 6 with fail
    have KA := all_n T.length sb b T W4 HS.out rfl (by omega) hT0
    go_wp2_with fail
    refine KA.mono ?_
    rintro e W5 ⟨A1, c1, rfl, hsl1, hb⟩
    have HSL := Lib.hid hsl1
    replace HX := Lib.hid (HX.out.bel hb)
    replace HTM := Lib.hid (HTM.out.bel hb)
    replace HS := Lib.hid (HS.out.bel hb)
    replace HB := Lib.hid (HB.out.trans (hb.mono HB.out.size))
    clear hb KA hsl1
    have KA := ucopy_any sb b T W5 HS.out
    go_wp2_with fail
    refine KA.mono ?_
    rintro e W6 ⟨sb2, b2, rfl, hsb2, hbb2, hset2, hb⟩
    have HS2 := Lib.hid hset2
    have hbl := HS.out.ut.lt
    have hsl := HS.out.hd.lt
    have hb12 : b ≠ b2 := by omega
    have hs12 : sb ≠ b2 := by omega
    have hw02 : w0.heap.size ≤ b2 := Nat.le_trans HB.out.size hbb2
    replace HX := Lib.hid (HX.out.bel hb)
    replace HTM := Lib.hid (HTM.out.bel hb)
    replace HS := Lib.hid (HS.out.bel hb)
    replace HSL := Lib.hid (sl_bel HSL.out hb)
    replace HB := Lib.hid (HB.out.trans (hb.mono HB.out.size))
    clear hb KA hset2 hsb2 hbb2 hbl hsl
    go_upto_region 10 with fail
    obtain ⟨ck, hck⟩ : ∃ c, c = checkE T t h := ⟨_, rfl⟩
    have KC := fun W (h1 : SetAt W sb b T) (h2 : t.mem W) => Lib.hid (check_any sb b T t h W h1 h2 HTK.out HTO.out)
    have KP := fun W (h1 : SetAt W sb2 b2 T) (h2 : t.mem W) => Lib.hid (apply_any sb2 b2 T t h W h1 h2 HTK.out HTO.out)
    rw [← hck] at KC KP
    clear hck
    refine wp_gen fun X0 hX => ?_
    rw [← hX] at HX HTM HS HS2 HSL HB
    clear hX
    go_cut [13, 14] from 52 to 59 (fun v13 v14 wx => v13 = .int .i64 ck ∧ v14 = .int .i64 ck ∧ Hid (SetAt wx sb b T) ∧ Hid (Sl wx wx.heap.size 11 En.cl A1 T) ∧ Hid (Below w0.heap.size w0 wx))
    case first =>
      refine wp_region_held_drew (S := fun W => Hid (Blk W w0.heap.size 53 t.cs)) (by kernel_rfl) (Lib.hid (HX.out.drewN 1)) (fun hS => ?_)
      have hd : Below X0.heap.size X0 X0.drew := (Below.refl _ _).drew
      replace HTM := Lib.hid (HTM.out.bel hd)
      replace HS := Lib.hid (HS.out.bel hd)
      replace HS2 := Lib.hid (HS2.out.bel hd)
      replace HSL := Lib.hid (sl_bel HSL.out hd)
      replace HB := Lib.hid (HB.out.trans (hd.mono HB.out.size))
      clear hd HX
      refine wpAnyH_genT fun X hX2 => ?_
      rw [← hX2] at HTM HS HS2 HSL HB hS
      clear hX2
      refine wpAnyH_take (i := 0) (v := ?_) rfl (by kernel_rfl) (by kernel_rfl) (by kernel_rfl) (fun _ _ _ h => h) (Or.inl ⟨by rfl, ?_⟩) hS ?_
      rotate_left
      · (intro w _; go_simp; try with_reducible rfl)
      refine wpAnyH_take (i := 1) (v := .agg t.cs) rfl (by kernel_rfl) (by kernel_rfl) (by kernel_rfl) (fun _ _ _ h => h) (yields_blk (by rfl) 53 (.tmp 4) (by rfl) w0.heap.size 0 6 (t := 53) (cs := t.cs) (fun W h => h.out) t.cs (by rfl) (txn_ext t) Tryz.underlying53 infoTx (Nat.le_refl 6)) hS ?_
      refine wpAnyH_take (i := 2) (v := ?_) rfl (by kernel_rfl) (by kernel_rfl) (by kernel_rfl) (fun _ _ _ h => h) (Or.inl ⟨by rfl, ?_⟩) hS ?_
      rotate_left
      · (intro w _; go_simp; try with_reducible rfl)
      refine wpAnyH_take (i := 4) (v := ?_) rfl (by kernel_rfl) (by kernel_rfl) (by kernel_rfl) (fun _ _ _ h => h) (Or.inl ⟨by rfl, ?_⟩) hS ?_
      rotate_left
      · (intro w _; go_simp; try with_reducible rfl)
      refine wpAnyH_take (i := 5) (v := .agg t.cs) rfl (by kernel_rfl) (by kernel_rfl) (by kernel_rfl) (fun _ _ _ h => h) (yields_blk (by rfl) 53 (.tmp 4) (by rfl) w0.heap.size 0 6 (t := 53) (cs := t.cs) (fun W h => h.out) t.cs (by rfl) (txn_ext t) Tryz.underlying53 infoTx (Nat.le_refl 6)) hS ?_
      refine wpAnyH_take (i := 6) (v := ?_) rfl (by kernel_rfl) (by kernel_rfl) (by kernel_rfl) (fun _ _ _ h => h) (Or.inl ⟨by rfl, ?_⟩) hS ?_
      rotate_left
      · (intro w _; go_simp; try with_reducible rfl)
      refine wpAnyH_ready (rs := [3]) (by kernel_rfl) (by simp) (AllReadyH.cons rfl (fun K hK => ?_) AllReadyH.nil)
      go_simp
      refine (KC X HS.out HTM.out).out.mono ?_
      rintro e Y ⟨rfl, hb⟩
      have hS1 := Lib.hid (hS.out.bel hb)
      go_simp
      refine hK.out _ _ hS1 (fun _ => ?_)
      clear hK K hS
      have hS := hS1
      clear hS1
      replace HTM := Lib.hid (HTM.out.bel hb)
      replace HS := Lib.hid (HS.out.bel hb)
      try replace HS2 := Lib.hid (HS2.out.bel hb)
      replace HSL := Lib.hid (sl_bel HSL.out hb)
      replace HB := Lib.hid (HB.out.trans (hb.mono HB.out.size))
      clear hb
      refine wpAnyH_ready (rs := [7]) (by kernel_rfl) (by simp) (AllReadyH.cons rfl (fun K hK => ?_) AllReadyH.nil)
      go_simp
      refine (KP Y HS2.out HTM.out).out.mono ?_
      rintro e Z ⟨rfl, hc, _⟩
      have hS1 := Lib.hid (hS.out.ch hc (by have := HS2.out.ut.ne_blk hS.out; simpa using Ne.symm this))
      go_simp
      refine hK.out _ _ hS1 (fun _ => ?_)
      clear hK K hS
      have hS := hS1
      clear hS1
      replace HTM := Lib.hid (HTM.out.map HS2.out.ut hc)
      replace HS : Hid (SetAt Z sb b T) := Lib.hid ⟨HS.out.hd.ch hc (by simpa using hs12), HS.out.ut.ch hc (by simpa using hb12)⟩
      replace HSL := Lib.hid (sl_map HSL.out HS2.out.ut hc)
      replace HB := Lib.hid (HB.out.trans (hc.below HB.out.size (by simpa using hw02)))
      clear hc HS2
      refine wpAnyH_take (i := 8) (v := ?_) rfl (by kernel_rfl) (by kernel_rfl) (by kernel_rfl) (fun _ _ _ h => h) (Or.inl ⟨by rfl, ?_⟩) hS ?_
      rotate_left
      · (intro w _; go_simp; try with_reducible rfl)
      refine wpAnyH_take (i := 9) (v := ?_) rfl (by kernel_rfl) (by kernel_rfl) (by kernel_rfl) (fun _ _ _ h => h) (Or.inl ⟨by rfl, ?_⟩) hS ?_
      rotate_left
      · (intro w _; go_simp; try with_reducible rfl)
      refine wpAnyH_done (by kernel_rfl) ?_ _
      go_simp
      go_wp2_with fail
      go_meet
      exact ⟨rfl, rfl, HS, HSL, HB⟩
    case rest =>
      clear HX HTM HS HS2 HSL HB KC KP hb12 hs12
      obtain ⟨rfl, rfl, HS, HSL, HB⟩ := hcut
      have KA := all_n T.length sb b T wc HS.out rfl (by omega) hT0
      go_wp2_with fail
      refine KA.mono ?_
      rintro e W7 ⟨A2, c2, rfl, hsl2, hb⟩
      have HSL2 := Lib.hid hsl2
      replace HS := Lib.hid (HS.out.bel hb)
      replace HSL := Lib.hid (sl_bel HSL.out hb)
      replace HB := Lib.hid (HB.out.trans (hb.mono HB.out.size))
      clear hb KA hsl2
      have e1 : (ck != ck) = false := by simp
      have e2 : ((T.length : Int) != (T.length : Int)) = false := by simp
      have e3 : ((T.length : Int) != (L.length : Int)) = false := by rw [HTL.out]; simp
      have e4 : (T.length != T.length) = false := by simp
      have e5 : (T.length != L.length) = false := by rw [HTL.out]; simp
      go_wp2_with fail
      clear e1 e2 e3 e4 e5
      go_loopw [16] (fun i wr => ∃ k : Nat, k ≤ T.length ∧ i = .int .i64 k ∧ Hid (SetAt wr sb b T) ∧ Hid (Sl wr wr.heap.size 11 En.cl A1 T) ∧ Hid (Sl wr wr.heap.size 11 En.cl A2 T) ∧ Hid (Below w0.heap.size w0 wr)) (fun i _ => T.length - (intOf i).toNat)
      case atStart => exact ⟨0, Nat.zero_le _, rfl, HS, HSL, HSL2, HB⟩
      case round =>
        clear HS HSL HSL2 HB
        obtain ⟨k, hk, rfl, HS, HSL, HSL2, HB⟩ := hrel
        by_cases hlt : k < T.length
        · obtain ⟨ab, off, hA, hab, hc⟩ := HSL.out.at_ hlt
          obtain ⟨ab2, off2, hA2, hab2, hc2⟩ := HSL2.out.at_ hlt
          have hxT : T[k] ∈ T := List.getElem_mem hlt
          have hg := getU_of_mem HTS.out hxT
          have hok := (HTK.out.tx _ hxT).ok
          have hord : ∀ (h0 : 0 < k) (b0 off0 : Nat), A1 = some ⟨b0, off0, none⟩ → ∃ y : En, ltP y.pt T[k].pt = true ∧ ∀ j u, y.cl[j]? = some u → wr.cell? ⟨b0, off0 + (k - 1) * 11 + j, none⟩ = some u := fun h0 b0 off0 he => by
            obtain ⟨b1, off1, h1, _, h2⟩ := HSL.out.at_ (show k - 1 < T.length by omega)
            rw [he] at h1
            injection h1 with h1
            injection h1 with e1 e2
            subst e1 e2
            exact ⟨T[k - 1], List.pairwise_iff_getElem.1 HTS.out (k - 1) k (by omega) hlt (by omega), h2⟩
          have HORD := Lib.hid hord
          generalize T[k] = x at hc hc2 hg hok HORD
          clear hord hxT
          subst hA hA2
          have HC := Lib.hid hc
          have HC2 := Lib.hid hc2
          have HG := Lib.hid (get_any sb b T x.tx x.out wr HS.out hok)
          rw [show getA T (x.tx, x.out) = .tuple #[.agg x.o.cs, .bool true] from by unfold getA; rw [show getU T (x.tx, x.out) = some x.o from hg]; rfl] at HG
          clear hc hc2 hg hok
          have d1 : decide ((k : Int) < (T.length : Int)) = true := decide_eq_true (by omega)
          have d2 : decide (k < T.length) = true := decide_eq_true hlt
          have hk0 : (0 : Int) ≤ (k : Int) := by omega
          have hkl : (k : Int) < (T.length : Int) := by omega
          go_wp2_with (refine wpList_load_pt rfl (.tmp 90) rfl ab (off + k * 11) (by rfl) x.tx x.out (fun j u hu => HC.out j u (by match j, hu with | 0, hu => exact hu | 1, hu => exact hu | j + 2, hu => simp [ptCl] at hu)) ?_)
          refine HG.out.mono ?_
          rintro e W8 ⟨rfl, hb⟩
          have HCW := Lib.hid (rows_bel HC.out hab hb)
          have HCW2 := Lib.hid (rows_bel HC2.out hab2 hb)
          replace HS := Lib.hid (HS.out.bel hb)
          replace HSL := Lib.hid (sl_bel HSL.out hb)
          replace HSL2 := Lib.hid (sl_bel HSL2.out hb)
          have hbz := hb.size
          replace HB := Lib.hid (HB.out.trans (hb.mono HB.out.size))
          have HORDW := Lib.hid (fun h0 => HORD.out h0 ab off rfl)
          clear HC HC2 HG HORD
          have d3 : (0 : Int) < (k : Int) ∨ ¬ (0 : Int) < (k : Int) := by omega
          rcases d3 with d3 | d3
          · obtain ⟨y, hly, hcy⟩ := HORDW.out (by omega)
            have HCY := Lib.hid (rows_bel hcy hab hb)
            have d4 : decide ((0 : Int) < (k : Int)) = true := decide_eq_true d3
            have d4n : decide (0 < k) = true := decide_eq_true (by omega)
            have z0 : (0 : Int) ≤ (k : Int) - 1 := by omega
            have z1 : (k : Int) - 1 < (T.length : Int) := by omega
            have z2 : ((k : Int) - 1).toNat = k - 1 := by omega
            have z3 : k - 1 < T.length := by omega
            have hlt2 : ltB y.tx.data.toList x.tx.data.toList = true ∨ (y.tx = x.tx ∧ y.out < x.out) := by
              have := hly
              unfold ltP at this
              simp only [Bool.or_eq_true, Bool.and_eq_true, decide_eq_true_eq] at this
              exact this
            have hgt : Op.bytesLess x.tx.toList y.tx.toList = false := by
              rw [bytesLess_ltBz]
              rcases hlt2 with h1 | ⟨h1, _⟩
              · cases hq : ltB x.tx.data.toList y.tx.data.toList with
                | false => rfl
                | true => have := ltB_trans _ _ _ h1 hq; rw [ltB_irrefl] at this; cases this
              · rw [h1]; exact ltB_irrefl _
            have hge : ((y.tx.toList == x.tx.toList) = false ∧ Op.bytesLess y.tx.toList x.tx.toList = true) ∨ ((y.tx.toList == x.tx.toList) = true ∧ decide (x.out ≤ y.out) = false) := by
              by_cases e : y.tx = x.tx
              · rcases hlt2 with h1 | ⟨_, h2⟩
                · rw [e, ltB_irrefl] at h1; cases h1
                · exact .inr ⟨by rw [e]; simp, decide_eq_false (by omega)⟩
              · refine .inl ⟨?_, by
                  rw [bytesLess_ltBz]
                  rcases hlt2 with h1 | ⟨h1, _⟩
                  · exact h1
                  · exact absurd h1 e⟩
                · cases hq : (y.tx.toList == x.tx.toList) with
                  | false => rfl
                  | true =>
                    have := eq_of_beq hq
                    rw [Lib.toList_data, Lib.toList_data] at this
                    exact absurd (ba_of_list this) e
            clear hly hcy hlt2 HORDW hb
            rcases hge with ⟨d5, d6⟩ | ⟨d5, d6⟩
            · have habW : ab < W8.heap.size := Nat.lt_of_lt_of_le hab hbz
              have habW2 : ab2 < W8.heap.size := Nat.lt_of_lt_of_le hab2 hbz
              go_upto_region 18 with (refine wpList_store_part rfl 41 (.tmp 17) (.tmp 93) rfl W8.heap.size 0 (cs := zOu.cs) (Blk.new _ _ _) x.o.cs x.o.cs (by rfl) (by rfl) (Nat.le_refl 9) infoOuC (oucs_one _) (ou_over _ rfl) ?_; intro W9 hb1 hc1; have H17 := Lib.hid hb1; have HBA : Hid (Below W8.heap.size W8 W9) := Lib.hid (bel_st' hc1); clear hb1 hc1)
              replace HS := Lib.hid (HS.out.bel HBA.out)
              replace HSL := Lib.hid (sl_bel HSL.out HBA.out)
              replace HSL2 := Lib.hid (sl_bel HSL2.out HBA.out)
              replace HB := Lib.hid (HB.out.trans (HBA.out.mono HB.out.size))
              have HCX := Lib.hid (rows_bel HCW.out habW HBA.out)
              have HCX2 := Lib.hid (rows_bel HCW2.out habW2 HBA.out)
              have cx0 := cell_rg (show W9.cell? ⟨ab, off + k * 11, none⟩ = some (.string x.tx) from HCX.out 0 _ rfl)
              have cx1 := cell_rg (show W9.cell? ⟨ab, off + k * 11 + 1, none⟩ = some (.int .i64 x.out) from HCX.out 1 _ rfl)
              (have cy0 := cell_rg (show World.cell? W9 ⟨ab, off + (k - 1) * 11, none⟩ = some (.string y.tx) from rows_bel HCY.out habW HBA.out 0 _ rfl); have cy1 := cell_rg (show World.cell? W9 ⟨ab, off + (k - 1) * 11 + 1, none⟩ = some (.int .i64 y.out) from rows_bel HCY.out habW HBA.out 1 _ rfl); clear HCY; have z4 : IntKind.i64.wrap ((k : Int) - 1) = (k : Int) - 1 := Go.IntWalk.i64_in _ (by omega))
              clear HCW HCW2 habW habW2 HBA hab hab2 hbz
              generalize W8.heap.size = g17 at H17 ⊢
              refine wp_region_bq ?bqL ?bqE (by kernel_rfl) ?bqB ?_
              case bqE => simp only [List.append] <;> rfl
              case bqB =>
                refine lex_start 78 #[false, false, false, false, false, false, false, false, false, false, false, false, false, false, false, false, false, false, false, false, false, false, false, false, false, false, false, false, false, false, false, false, false, false, false, false, false, false, false, false, false, false, false, false, false, false, false, false, false, false, false, false, false, false, false, false, false, false, false, false, false, false, false, false, false, false, false, false, false, false, false, false, false, false, false, false, false, false] (by kernel_rfl) (by kernel_rfl) (by kernel_rfl) ?_
                refine lex_chunk 16 62 0 #[false, false, false, false, false, false, false, false, false, false, false, false, false, false, false, false, false, false, false, false, false, false, false, false, false, false, false, false, false, false, false, false, false, false, false, false, false, false, false, false, false, false, false, false, false, false, false, false, false, false, false, false, false, false, false, false, false, false, false, false, false, false, false, false, false, false, false, false, false, false, false, false, false, false, false, false, false, false] #[true, true, true, true, true, true, true, true, true, true, true, true, true, true, true, true, false, false, false, false, false, false, false, false, false, false, false, false, false, false, false, false, false, false, false, false, false, false, false, false, false, false, false, false, false, false, false, false, false, false, false, false, false, false, false, false, false, false, false, false, false, false, false, false, false, false, false, false, false, false, false, false, false, false, false, false, false, false] (by as_aux_lemma => kernel_rfl) (by kernel_rfl) ?_
                refine lex_chunk 16 46 16 #[true, true, true, true, true, true, true, true, true, true, true, true, true, true, true, true, false, false, false, false, false, false, false, false, false, false, false, false, false, false, false, false, false, false, false, false, false, false, false, false, false, false, false, false, false, false, false, false, false, false, false, false, false, false, false, false, false, false, false, false, false, false, false, false, false, false, false, false, false, false, false, false, false, false, false, false, false, false] #[true, true, true, true, true, true, true, true, true, true, true, true, true, true, true, true, true, true, true, true, true, true, true, true, true, true, true, true, true, true, true, true, false, false, false, false, false, false, false, false, false, false, false, false, false, false, false, false, false, false, false, false, false, false, false, false, false, false, false, false, false, false, false, false, false, false, false, false, false, false, false, false, false, false, false, false, false, false] (by as_aux_lemma => kernel_rfl) (by kernel_rfl) ?_
                refine lex_chunk 16 30 32 #[true, true, true, true, true, true, true, true, true, true, true, true, true, true, true, true, true, true, true, true, true, true, true, true, true, true, true, true, true, true, true, true, false, false, false, false, false, false, false, false, false, false, false, false, false, false, false, false, false, false, false, false, false, false, false, false, false, false, false, false, false, false, false, false, false, false, false, false, false, false, false, false, false, false, false, false, false, false] #[true, true, true, true, true, true, true, true, true, true, true, true, true, true, true, true, true, true, true, true, true, true, true, true, true, true, true, true, true, true, true, true, true, true, true, true, true, true, true, true, true, true, true, true, true, true, true, true, false, false, false, false, false, false, false, false, false, false, false, false, false, false, false, false, false, false, false, false, false, false, false, false, false, false, false, false, false, false] (by as_aux_lemma => kernel_rfl) (by kernel_rfl) ?_
                refine lex_chunk 16 14 48 #[true, true, true, true, true, true, true, true, true, true, true, true, true, true, true, true, true, true, true, true, true, true, true, true, true, true, true, true, true, true, true, true, true, true, true, true, true, true, true, true, true, true, true, true, true, true, true, true, false, false, false, false, false, false, false, false, false, false, false, false, false, false, false, false, false, false, false, false, false, false, false, false, false, false, false, false, false, false] #[true, true, true, true, true, true, true, true, true, true, true, true, true, true, true, true, true, true, true, true, true, true, true, true, true, true, true, true, true, true, true, true, true, true, true, true, true, true, true, true, true, true, true, true, true, true, true, true, true, true, true, true, true, true, true, true, true, true, true, true, true, true, true, true, false, false, false, false, false, false, false, false, false, false, false, false, false, false] (by as_aux_lemma => kernel_rfl) (by kernel_rfl) ?_
                refine lex_chunk 14 0 64 #[true, true, true, true, true, true, true, true, true, true, true, true, true, true, true, true, true, true, true, true, true, true, true, true, true, true, true, true, true, true, true, true, true, true, true, true, true, true, true, true, true, true, true, true, true, true, true, true, true, true, true, true, true, true, true, true, true, true, true, true, true, true, true, true, false, false, false, false, false, false, false, false, false, false, false, false, false, false] #[true, true, true, true, true, true, true, true, true, true, true, true, true, true, true, true, true, true, true, true, true, true, true, true, true, true, true, true, true, true, true, true, true, true, true, true, true, true, true, true, true, true, true, true, true, true, true, true, true, true, true, true, true, true, true, true, true, true, true, true, true, true, true, true, true, true, true, true, true, true, true, true, true, true, true, true, true, true] (by as_aux_lemma => kernel_rfl) (by kernel_rfl) ?_
                as_aux_lemma => kernel_rfl
              repeat (first | go_big_quiet_skip | (go_big_quiet_want; first | ((first
                              | (refine quiet_load_row 43 (.tmp 97) rfl ab2 (off2 + k * 11) x.cl HCX2.out x.cs (by rfl) (Array.toArray_toList ..) Tryz.underlying43 infoEnt ?_; go_simp)
                              | (refine quiet_load_row 43 (.tmp 101) rfl ab (off + k * 11) x.cl HCX.out x.cs (by rfl) (Array.toArray_toList ..) Tryz.underlying43 infoEnt ?_; go_simp)
                              | (refine quiet_eqop .neq 43 (.tmp 98) (.tmp 102) rfl x.cs x.cs (by rfl) (by rfl) false (fun W => eqGuardN W .neq _ _ _ _ _ (by kernel_rfl)) (fun W => enNeq_self W x) ?_; go_simp)
                              | (refine quiet_load_blk 41 (.tmp 17) rfl g17 0 9 H17.out x.o.cs (by rfl) (ouv_ext x.o) Tryz.underlying41 infoOuC (Nat.le_refl 9) ?_; go_simp)
                              | (refine quiet_load_row 41 (.tmp 113) rfl ab (off + k * 11 + 2) x.o.cl (fun j u hu => by rw [Nat.add_assoc]; exact HCX.out (2 + j) u (ou_in x j u hu)) x.o.cs (by rfl) (Array.toArray_toList ..) Tryz.underlying41 infoOuC ?_; go_simp)
                              | (refine quiet_eqop .neq 41 (.tmp 109) (.tmp 114) rfl x.o.cs x.o.cs (by rfl) (by rfl) false (fun W => eqGuardN W .neq _ _ _ _ _ (by kernel_rfl)) (fun W => ouNeq_self W x.o) ?_; go_simp)); go_big_quiet_on) | (go_big_quiet_op; first | go_big_quiet_on | go_big_quiet_call (fail))))
              refine wpQuiet_nil ?_
              intro U hp
              have hb := bel_regrown hp
              clear hp
              replace HS := Lib.hid (HS.out.bel hb)
              replace HSL := Lib.hid (sl_bel HSL.out hb)
              replace HSL2 := Lib.hid (sl_bel HSL2.out hb)
              replace HB := Lib.hid (HB.out.trans (hb.mono HB.out.size))
              clear hb cx0 cx1 HCX HCX2 H17
              go_wp2_with fail
              go_roundw
              case rel => exact ⟨k + 1, by omega, by go_num, HS, HSL, HSL2, HB⟩
              case measure => simp [intOf]; omega
            · have habW : ab < W8.heap.size := Nat.lt_of_lt_of_le hab hbz
              have habW2 : ab2 < W8.heap.size := Nat.lt_of_lt_of_le hab2 hbz
              go_upto_region 18 with (refine wpList_store_part rfl 41 (.tmp 17) (.tmp 93) rfl W8.heap.size 0 (cs := zOu.cs) (Blk.new _ _ _) x.o.cs x.o.cs (by rfl) (by rfl) (Nat.le_refl 9) infoOuC (oucs_one _) (ou_over _ rfl) ?_; intro W9 hb1 hc1; have H17 := Lib.hid hb1; have HBA : Hid (Below W8.heap.size W8 W9) := Lib.hid (bel_st' hc1); clear hb1 hc1)
              replace HS := Lib.hid (HS.out.bel HBA.out)
              replace HSL := Lib.hid (sl_bel HSL.out HBA.out)
              replace HSL2 := Lib.hid (sl_bel HSL2.out HBA.out)
              replace HB := Lib.hid (HB.out.trans (HBA.out.mono HB.out.size))
              have HCX := Lib.hid (rows_bel HCW.out habW HBA.out)
              have HCX2 := Lib.hid (rows_bel HCW2.out habW2 HBA.out)
              have cx0 := cell_rg (show W9.cell? ⟨ab, off + k * 11, none⟩ = some (.string x.tx) from HCX.out 0 _ rfl)
              have cx1 := cell_rg (show W9.cell? ⟨ab, off + k * 11 + 1, none⟩ = some (.int .i64 x.out) from HCX.out 1 _ rfl)
              (have cy0 := cell_rg (show World.cell? W9 ⟨ab, off + (k - 1) * 11, none⟩ = some (.string y.tx) from rows_bel HCY.out habW HBA.out 0 _ rfl); have cy1 := cell_rg (show World.cell? W9 ⟨ab, off + (k - 1) * 11 + 1, none⟩ = some (.int .i64 y.out) from rows_bel HCY.out habW HBA.out 1 _ rfl); clear HCY; have z4 : IntKind.i64.wrap ((k : Int) - 1) = (k : Int) - 1 := Go.IntWalk.i64_in _ (by omega))
              clear HCW HCW2 habW habW2 HBA hab hab2 hbz
              generalize W8.heap.size = g17 at H17 ⊢
              refine wp_region_bq ?bqL ?bqE (by kernel_rfl) ?bqB ?_
              case bqE => simp only [List.append] <;> rfl
              case bqB =>
                refine lex_start 78 #[false, false, false, false, false, false, false, false, false, false, false, false, false, false, false, false, false, false, false, false, false, false, false, false, false, false, false, false, false, false, false, false, false, false, false, false, false, false, false, false, false, false, false, false, false, false, false, false, false, false, false, false, false, false, false, false, false, false, false, false, false, false, false, false, false, false, false, false, false, false, false, false, false, false, false, false, false, false] (by kernel_rfl) (by kernel_rfl) (by kernel_rfl) ?_
                refine lex_chunk 16 62 0 #[false, false, false, false, false, false, false, false, false, false, false, false, false, false, false, false, false, false, false, false, false, false, false, false, false, false, false, false, false, false, false, false, false, false, false, false, false, false, false, false, false, false, false, false, false, false, false, false, false, false, false, false, false, false, false, false, false, false, false, false, false, false, false, false, false, false, false, false, false, false, false, false, false, false, false, false, false, false] #[true, true, true, true, true, true, true, true, true, true, true, true, true, true, true, true, false, false, false, false, false, false, false, false, false, false, false, false, false, false, false, false, false, false, false, false, false, false, false, false, false, false, false, false, false, false, false, false, false, false, false, false, false, false, false, false, false, false, false, false, false, false, false, false, false, false, false, false, false, false, false, false, false, false, false, false, false, false] (by as_aux_lemma => kernel_rfl) (by kernel_rfl) ?_
                refine lex_chunk 16 46 16 #[true, true, true, true, true, true, true, true, true, true, true, true, true, true, true, true, false, false, false, false, false, false, false, false, false, false, false, false, false, false, false, false, false, false, false, false, false, false, false, false, false, false, false, false, false, false, false, false, false, false, false, false, false, false, false, false, false, false, false, false, false, false, false, false, false, false, false, false, false, false, false, false, false, false, false, false, false, false] #[true, true, true, true, true, true, true, true, true, true, true, true, true, true, true, true, true, true, true, true, true, true, true, true, true, true, true, true, true, true, true, true, false, false, false, false, false, false, false, false, false, false, false, false, false, false, false, false, false, false, false, false, false, false, false, false, false, false, false, false, false, false, false, false, false, false, false, false, false, false, false, false, false, false, false, false, false, false] (by as_aux_lemma => kernel_rfl) (by kernel_rfl) ?_
                refine lex_chunk 16 30 32 #[true, true, true, true, true, true, true, true, true, true, true, true, true, true, true, true, true, true, true, true, true, true, true, true, true, true, true, true, true, true, true, true, false, false, false, false, false, false, false, false, false, false, false, false, false, false, false, false, false, false, false, false, false, false, false, false, false, false, false, false, false, false, false, false, false, false, false, false, false, false, false, false, false, false, false, false, false, false] #[true, true, true, true, true, true, true, true, true, true, true, true, true, true, true, true, true, true, true, true, true, true, true, true, true, true, true, true, true, true, true, true, true, true, true, true, true, true, true, true, true, true, true, true, true, true, true, true, false, false, false, false, false, false, false, false, false, false, false, false, false, false, false, false, false, false, false, false, false, false, false, false, false, false, false, false, false, false] (by as_aux_lemma => kernel_rfl) (by kernel_rfl) ?_
                refine lex_chunk 16 14 48 #[true, true, true, true, true, true, true, true, true, true, true, true, true, true, true, true, true, true, true, true, true, true, true, true, true, true, true, true, true, true, true, true, true, true, true, true, true, true, true, true, true, true, true, true, true, true, true, true, false, false, false, false, false, false, false, false, false, false, false, false, false, false, false, false, false, false, false, false, false, false, false, false, false, false, false, false, false, false] #[true, true, true, true, true, true, true, true, true, true, true, true, true, true, true, true, true, true, true, true, true, true, true, true, true, true, true, true, true, true, true, true, true, true, true, true, true, true, true, true, true, true, true, true, true, true, true, true, true, true, true, true, true, true, true, true, true, true, true, true, true, true, true, true, false, false, false, false, false, false, false, false, false, false, false, false, false, false] (by as_aux_lemma => kernel_rfl) (by kernel_rfl) ?_
                refine lex_chunk 14 0 64 #[true, true, true, true, true, true, true, true, true, true, true, true, true, true, true, true, true, true, true, true, true, true, true, true, true, true, true, true, true, true, true, true, true, true, true, true, true, true, true, true, true, true, true, true, true, true, true, true, true, true, true, true, true, true, true, true, true, true, true, true, true, true, true, true, false, false, false, false, false, false, false, false, false, false, false, false, false, false] #[true, true, true, true, true, true, true, true, true, true, true, true, true, true, true, true, true, true, true, true, true, true, true, true, true, true, true, true, true, true, true, true, true, true, true, true, true, true, true, true, true, true, true, true, true, true, true, true, true, true, true, true, true, true, true, true, true, true, true, true, true, true, true, true, true, true, true, true, true, true, true, true, true, true, true, true, true, true] (by as_aux_lemma => kernel_rfl) (by kernel_rfl) ?_
                as_aux_lemma => kernel_rfl
              repeat (first | go_big_quiet_skip | (go_big_quiet_want; first | ((first
                              | (refine quiet_load_row 43 (.tmp 97) rfl ab2 (off2 + k * 11) x.cl HCX2.out x.cs (by rfl) (Array.toArray_toList ..) Tryz.underlying43 infoEnt ?_; go_simp)
                              | (refine quiet_load_row 43 (.tmp 101) rfl ab (off + k * 11) x.cl HCX.out x.cs (by rfl) (Array.toArray_toList ..) Tryz.underlying43 infoEnt ?_; go_simp)
                              | (refine quiet_eqop .neq 43 (.tmp 98) (.tmp 102) rfl x.cs x.cs (by rfl) (by rfl) false (fun W => eqGuardN W .neq _ _ _ _ _ (by kernel_rfl)) (fun W => enNeq_self W x) ?_; go_simp)
                              | (refine quiet_load_blk 41 (.tmp 17) rfl g17 0 9 H17.out x.o.cs (by rfl) (ouv_ext x.o) Tryz.underlying41 infoOuC (Nat.le_refl 9) ?_; go_simp)
                              | (refine quiet_load_row 41 (.tmp 113) rfl ab (off + k * 11 + 2) x.o.cl (fun j u hu => by rw [Nat.add_assoc]; exact HCX.out (2 + j) u (ou_in x j u hu)) x.o.cs (by rfl) (Array.toArray_toList ..) Tryz.underlying41 infoOuC ?_; go_simp)
                              | (refine quiet_eqop .neq 41 (.tmp 109) (.tmp 114) rfl x.o.cs x.o.cs (by rfl) (by rfl) false (fun W => eqGuardN W .neq _ _ _ _ _ (by kernel_rfl)) (fun W => ouNeq_self W x.o) ?_; go_simp)); go_big_quiet_on) | (go_big_quiet_op; first | go_big_quiet_on | go_big_quiet_call (fail))))
              refine wpQuiet_nil ?_
              intro U hp
              have hb := bel_regrown hp
              clear hp
              replace HS := Lib.hid (HS.out.bel hb)
              replace HSL := Lib.hid (sl_bel HSL.out hb)
              replace HSL2 := Lib.hid (sl_bel HSL2.out hb)
              replace HB := Lib.hid (HB.out.trans (hb.mono HB.out.size))
              clear hb cx0 cx1 HCX HCX2 H17
              go_wp2_with fail
              go_roundw
              case rel => exact ⟨k + 1, by omega, by go_num, HS, HSL, HSL2, HB⟩
              case measure => simp [intOf]; omega
          · have d4 : decide ((0 : Int) < (k : Int)) = false := decide_eq_false d3
            have d4n : decide (0 < k) = false := decide_eq_false (by omega)
            clear HORDW hb
            have habW : ab < W8.heap.size := Nat.lt_of_lt_of_le hab hbz
            have habW2 : ab2 < W8.heap.size := Nat.lt_of_lt_of_le hab2 hbz
            go_upto_region 18 with (refine wpList_store_part rfl 41 (.tmp 17) (.tmp 93) rfl W8.heap.size 0 (cs := zOu.cs) (Blk.new _ _ _) x.o.cs x.o.cs (by rfl) (by rfl) (Nat.le_refl 9) infoOuC (oucs_one _) (ou_over _ rfl) ?_; intro W9 hb1 hc1; have H17 := Lib.hid hb1; have HBA : Hid (Below W8.heap.size W8 W9) := Lib.hid (bel_st' hc1); clear hb1 hc1)
            replace HS := Lib.hid (HS.out.bel HBA.out)
            replace HSL := Lib.hid (sl_bel HSL.out HBA.out)
            replace HSL2 := Lib.hid (sl_bel HSL2.out HBA.out)
            replace HB := Lib.hid (HB.out.trans (HBA.out.mono HB.out.size))
            have HCX := Lib.hid (rows_bel HCW.out habW HBA.out)
            have HCX2 := Lib.hid (rows_bel HCW2.out habW2 HBA.out)
            have cx0 := cell_rg (show W9.cell? ⟨ab, off + k * 11, none⟩ = some (.string x.tx) from HCX.out 0 _ rfl)
            have cx1 := cell_rg (show W9.cell? ⟨ab, off + k * 11 + 1, none⟩ = some (.int .i64 x.out) from HCX.out 1 _ rfl)
            (have _u : True := trivial)
            clear HCW HCW2 habW habW2 HBA hab hab2 hbz
            generalize W8.heap.size = g17 at H17 ⊢
            refine wp_region_bq ?bqL ?bqE (by kernel_rfl) ?bqB ?_
            case bqE => simp only [List.append] <;> rfl
            case bqB =>
              refine lex_start 78 #[false, false, false, false, false, false, false, false, false, false, false, false, false, false, false, false, false, false, false, false, false, false, false, false, false, false, false, false, false, false, false, false, false, false, false, false, false, false, false, false, false, false, false, false, false, false, false, false, false, false, false, false, false, false, false, false, false, false, false, false, false, false, false, false, false, false, false, false, false, false, false, false, false, false, false, false, false, false] (by kernel_rfl) (by kernel_rfl) (by kernel_rfl) ?_
              refine lex_chunk 16 62 0 #[false, false, false, false, false, false, false, false, false, false, false, false, false, false, false, false, false, false, false, false, false, false, false, false, false, false, false, false, false, false, false, false, false, false, false, false, false, false, false, false, false, false, false, false, false, false, false, false, false, false, false, false, false, false, false, false, false, false, false, false, false, false, false, false, false, false, false, false, false, false, false, false, false, false, false, false, false, false] #[true, true, true, true, true, true, true, true, true, true, true, true, true, true, true, true, false, false, false, false, false, false, false, false, false, false, false, false, false, false, false, false, false, false, false, false, false, false, false, false, false, false, false, false, false, false, false, false, false, false, false, false, false, false, false, false, false, false, false, false, false, false, false, false, false, false, false, false, false, false, false, false, false, false, false, false, false, false] (by as_aux_lemma => kernel_rfl) (by kernel_rfl) ?_
              refine lex_chunk 16 46 16 #[true, true, true, true, true, true, true, true, true, true, true, true, true, true, true, true, false, false, false, false, false, false, false, false, false, false, false, false, false, false, false, false, false, false, false, false, false, false, false, false, false, false, false, false, false, false, false, false, false, false, false, false, false, false, false, false, false, false, false, false, false, false, false, false, false, false, false, false, false, false, false, false, false, false, false, false, false, false] #[true, true, true, true, true, true, true, true, true, true, true, true, true, true, true, true, true, true, true, true, true, true, true, true, true, true, true, true, true, true, true, true, false, false, false, false, false, false, false, false, false, false, false, false, false, false, false, false, false, false, false, false, false, false, false, false, false, false, false, false, false, false, false, false, false, false, false, false, false, false, false, false, false, false, false, false, false, false] (by as_aux_lemma => kernel_rfl) (by kernel_rfl) ?_
              refine lex_chunk 16 30 32 #[true, true, true, true, true, true, true, true, true, true, true, true, true, true, true, true, true, true, true, true, true, true, true, true, true, true, true, true, true, true, true, true, false, false, false, false, false, false, false, false, false, false, false, false, false, false, false, false, false, false, false, false, false, false, false, false, false, false, false, false, false, false, false, false, false, false, false, false, false, false, false, false, false, false, false, false, false, false] #[true, true, true, true, true, true, true, true, true, true, true, true, true, true, true, true, true, true, true, true, true, true, true, true, true, true, true, true, true, true, true, true, true, true, true, true, true, true, true, true, true, true, true, true, true, true, true, true, false, false, false, false, false, false, false, false, false, false, false, false, false, false, false, false, false, false, false, false, false, false, false, false, false, false, false, false, false, false] (by as_aux_lemma => kernel_rfl) (by kernel_rfl) ?_
              refine lex_chunk 16 14 48 #[true, true, true, true, true, true, true, true, true, true, true, true, true, true, true, true, true, true, true, true, true, true, true, true, true, true, true, true, true, true, true, true, true, true, true, true, true, true, true, true, true, true, true, true, true, true, true, true, false, false, false, false, false, false, false, false, false, false, false, false, false, false, false, false, false, false, false, false, false, false, false, false, false, false, false, false, false, false] #[true, true, true, true, true, true, true, true, true, true, true, true, true, true, true, true, true, true, true, true, true, true, true, true, true, true, true, true, true, true, true, true, true, true, true, true, true, true, true, true, true, true, true, true, true, true, true, true, true, true, true, true, true, true, true, true, true, true, true, true, true, true, true, true, false, false, false, false, false, false, false, false, false, false, false, false, false, false] (by as_aux_lemma => kernel_rfl) (by kernel_rfl) ?_
              refine lex_chunk 14 0 64 #[true, true, true, true, true, true, true, true, true, true, true, true, true, true, true, true, true, true, true, true, true, true, true, true, true, true, true, true, true, true, true, true, true, true, true, true, true, true, true, true, true, true, true, true, true, true, true, true, true, true, true, true, true, true, true, true, true, true, true, true, true, true, true, true, false, false, false, false, false, false, false, false, false, false, false, false, false, false] #[true, true, true, true, true, true, true, true, true, true, true, true, true, true, true, true, true, true, true, true, true, true, true, true, true, true, true, true, true, true, true, true, true, true, true, true, true, true, true, true, true, true, true, true, true, true, true, true, true, true, true, true, true, true, true, true, true, true, true, true, true, true, true, true, true, true, true, true, true, true, true, true, true, true, true, true, true, true] (by as_aux_lemma => kernel_rfl) (by kernel_rfl) ?_
              as_aux_lemma => kernel_rfl
            repeat (first | go_big_quiet_skip | (go_big_quiet_want; first | ((first
                          | (refine quiet_load_row 43 (.tmp 97) rfl ab2 (off2 + k * 11) x.cl HCX2.out x.cs (by rfl) (Array.toArray_toList ..) Tryz.underlying43 infoEnt ?_; go_simp)
                          | (refine quiet_load_row 43 (.tmp 101) rfl ab (off + k * 11) x.cl HCX.out x.cs (by rfl) (Array.toArray_toList ..) Tryz.underlying43 infoEnt ?_; go_simp)
                          | (refine quiet_eqop .neq 43 (.tmp 98) (.tmp 102) rfl x.cs x.cs (by rfl) (by rfl) false (fun W => eqGuardN W .neq _ _ _ _ _ (by kernel_rfl)) (fun W => enNeq_self W x) ?_; go_simp)
                          | (refine quiet_load_blk 41 (.tmp 17) rfl g17 0 9 H17.out x.o.cs (by rfl) (ouv_ext x.o) Tryz.underlying41 infoOuC (Nat.le_refl 9) ?_; go_simp)
                          | (refine quiet_load_row 41 (.tmp 113) rfl ab (off + k * 11 + 2) x.o.cl (fun j u hu => by rw [Nat.add_assoc]; exact HCX.out (2 + j) u (ou_in x j u hu)) x.o.cs (by rfl) (Array.toArray_toList ..) Tryz.underlying41 infoOuC ?_; go_simp)
                          | (refine quiet_eqop .neq 41 (.tmp 109) (.tmp 114) rfl x.o.cs x.o.cs (by rfl) (by rfl) false (fun W => eqGuardN W .neq _ _ _ _ _ (by kernel_rfl)) (fun W => ouNeq_self W x.o) ?_; go_simp)); go_big_quiet_on) | (go_big_quiet_op; first | go_big_quiet_on | go_big_quiet_call (fail))))
            refine wpQuiet_nil ?_
            intro U hp
            have hb := bel_regrown hp
            clear hp
            replace HS := Lib.hid (HS.out.bel hb)
            replace HSL := Lib.hid (sl_bel HSL.out hb)
            replace HSL2 := Lib.hid (sl_bel HSL2.out hb)
            replace HB := Lib.hid (HB.out.trans (hb.mono HB.out.size))
            clear hb cx0 cx1 HCX HCX2 H17
            go_wp2_with fail
            go_roundw
            case rel => exact ⟨k + 1, by omega, by go_num, HS, HSL, HSL2, HB⟩
            case measure => simp [intOf]; omega
        · have d1 : decide ((k : Int) < (T.length : Int)) = false := decide_eq_false (by omega)
          have d2 : decide (k < T.length) = false := decide_eq_false hlt
          go_wp2_with fail
          refine (fixed11_any _).mono ?_
          rintro e W5 ⟨rfl, hb⟩
          go_wp2_with fail
          go_ret
          exact ⟨rfl, HB.out.trans (hb.mono HB.out.size)⟩
end Go.Proofs.YtdoebmikjgmnaaaGreat
