/- law18's ClaimSigns: the walk. -/
import Derived.Outline
import Derived.Test.YtjcinncphffgaaaGreatMgFqC
import Derived.Test.YtjcinncphffgaaaGreatMgLsA
set_option linter.unusedVariables false
set_option linter.unusedSimpArgs false
namespace Go.Proofs.YtjcinncphffgaaaGreat
open Go.RowKit Go.Maps
set_option maxRecDepth 100000 in
set_option maxHeartbeats 4000000 in
theorem csigns_any (t : Txn) (s : ByteArray) (n : Nat) (w0 : World) (h : TxCame w0 t) (hs : s.size ≤ maxLen) (hn : n < 256) :
    Calls Tryz.prog 4 #[.agg t.cs, .string s, .int .u8 n] w0 fun e w' => e = .returned (.bool true) ∧ Below w0.heap.size w0 w' := by
  unfold maxLen at hs
  have HFX := fun W => Lib.hid (fixed18_any W)
  have HCUT := fun W (hb : Below w0.heap.size w0 W) => Lib.hid (tcut_x t W h hb)
  obtain ⟨r, hr⟩ : ∃ r, r = n % 3 := ⟨_, rfl⟩
  obtain ⟨m1, m2, m3, m4, m5, m6⟩ := mod3 n r hn hr
  have hr3 : r < 3 := by omega
  clear hr hn h
  go_enter Tryz.func4, Tryz.ntmps4
  go_wp2_with (refine wpList_load_blk rfl 53 (.tmp 3) rfl w0.heap.size 0 6 (Blk.new _ _ _) t.cs (by rfl) (txn_ext t) Tryz.underlying53 infoTx (Nat.le_refl 6) ?_)
  refine (HCUT _ ((Below.refl _ _).alloc (Nat.le_refl _) _)).out.mono ?_
  rintro e W1 ⟨u, rfl, hr1, hok, hb⟩
  have HT1 : Hid (Blk W1 w0.heap.size 53 t.cs) := Lib.hid ((Blk.new _ _ _).bel hb)
  have HB1 : Hid (Below w0.heap.size w0 W1) := Lib.hid (((Below.refl _ _).alloc (Nat.le_refl _) _).trans (hb.mono (by simp)))
  obtain ⟨N1, hN1⟩ : ∃ N1, N1 = (w0.alloc (.cells t.cs 53)).heap.size := ⟨_, rfl⟩
  rw [← hN1] at hr1
  have HR1 := Lib.hid hr1
  have HOK := Lib.hid hok
  rw [show (#[.slice u.A u.ins.length u.c, .slice u.B u.outs.length u.d, .int .u64 (u.p.am : Nat), .string u.p.sig, .string u.p.tok, .slice u.p.A u.p.l.length u.p.c] : Array Value) = u.cs from rfl]
  clear hr1 hok hb hN1 HCUT
  go_upto_region 2 with (refine wpList_store_part rfl 53 (.tmp 3) (.tmp 15) rfl w0.heap.size 0 HT1.out u.cs u.cs (by rfl) (by rfl) (Nat.le_refl 6) infoTx (txncs_one u) (txn_over u rfl) ?_; intro W2 hb2 hc2; have HT2 := Lib.hid hb2; have HR2 := Lib.hid (HR1.out.ch hc2 HT1.out.kdT (by decide) (by decide) (by decide)); have HB2 := Lib.hid (HB1.out.trans (hc2.below HB1.out.size (by simp))); clear hb2 hc2 HT1 HR1 HB1)
  go_wp2_with fail
  obtain ⟨sd, hsd⟩ : ∃ sd, sd = s.extract 0 (min (s.size : Int) 50).toNat := ⟨_, rfl⟩
  rw [← hsd]
  have hsz : sd.size ≤ 50 := by rw [hsd, ByteArray.size_extract]; omega
  clear hsd
  refine (mnew_any sd r _ (by omega) (by omega)).mono ?_
  rintro e W3 ⟨kb, cb, rfl, hkb, hcb, hk, hb⟩
  have HS : Hid (LsS w0 u N1 kb cb sd r 0 W3) := Lib.hid ⟨HT2.out.bel hb, HR2.out.bel hb, hk, HB2.out.trans (hb.mono HB2.out.size), by have := HT2.out.lt; omega⟩
  have HSZ := Lib.hid hsz
  clear hkb hcb hk hb HT2 HR2 HB2 hsz hs
  have hpw : 1 ≤ 2 ^ r ∧ 2 ^ r ≤ 4 := by rcases (show r = 0 ∨ r = 1 ∨ r = 2 by omega) with rfl | rfl | rfl <;> decide
  obtain ⟨L, hL⟩ : ∃ L, L = 2 ^ r := ⟨_, rfl⟩
  have HL := Lib.hid hL
  rw [← hL] at hpw
  clear hL m1 m2 m3 m4 m5 m6
  go_wp2_with fail
  go_loopw [9] (fun i wr => ∃ k q : Nat, k ≤ 6 ∧ i = .int .i64 k ∧ q ≤ L ∧ Hid (LsS w0 u N1 kb cb sd r q wr)) (fun i _ => 6 - (intOf i).toNat)
  case atStart => exact ⟨0, 0, by omega, rfl, by omega, HS⟩
  case round =>
    clear HS
    obtain ⟨k, q, hk6, rfl, hq, HS⟩ := hrel
    by_cases hlt : k < 6
    · have c0 := HS.out.ctr
      have k1 : (k : Int) < 6 := by omega
      have d1 : decide ((k : Int) < 6) = true := decide_eq_true k1
      go_wp2_with fail
      refine (kleft_any kb cb sd r (q) _ HS.out.key (by omega) (by omega)).mono ?_
      rintro e V1 ⟨rfl, n1, hV1⟩
      have hv := (show Below _ _ V1 from by rw [hV1]; exact (Ch.drewN [] _ n1).below (Nat.le_refl _) (by simp))
      replace HS := Lib.hid (HS.out.go hv)
      clear hV1 hv c0
      rw [← HL.out]
      obtain ⟨lf, hlf⟩ : ∃ lf : Int, lf = (L : Int) - (q : Int) := ⟨_, rfl⟩
      rw [← hlf]
      have HLF := Lib.hid hlf
      clear hlf
      go_wp2_with (refine wpList_load_blk rfl 53 (.tmp 3) rfl w0.heap.size 0 6 HS.out.hd u.cs (by rfl) (txn_ext u) Tryz.underlying53 infoTx (Nat.le_refl 6) ?_)
      cases hR : rightT u with
      | false =>
        refine (csigned_no u _ _ HS.out.rows.mem HOK.out.ins HOK.out.outs HOK.out.pf.len hR).mono ?_
        rintro e V2 ⟨rfl, hb⟩
        replace HS := Lib.hid (HS.out.go hb)
        clear hb
        go_upto_region 10 with (refine wpList_store_part rfl 53 (.tmp 11) (.tmp 47) rfl V2.heap.size 0 (cs := zTx) (Blk.new _ _ _) zTx zTx (by rfl) (by rfl) (Nat.le_refl 6) infoTx zTx_one (txn_over zT rfl) ?_; intro V3 hb1 hc1; have hb := bel_st' hc1; have H11 := Lib.hid hb1; replace HS := Lib.hid (HS.out.go hb); try (replace HR11 := Lib.hid (TxRows.bel HR11.out hb)); clear hb1 hc1 hb)
        try go_frame
        generalize V2.heap.size = g11 at H11 ⊢
        go_wp2_with (refine wpList_load_blk rfl 53 (.tmp 3) rfl w0.heap.size 0 6 HS.out.hd u.cs (by rfl) (txn_ext u) Tryz.underlying53 infoTx (Nat.le_refl 6) ?_)
        refine (right_gen u _ HS.out.rows.mem HOK.out.ins HOK.out.outs HOK.out.pf.len).mono ?_
        rintro e V4 ⟨rfl, hb⟩
        replace HS := Lib.hid (HS.out.go hb)
        replace H11 := Lib.hid (H11.out.bel hb)
        try (replace HR11 := Lib.hid (TxRows.bel HR11.out hb))
        rw [hR]
        clear hb
        have c0 := HS.out.ctr
        go_wp2_with fail
        refine (kleft_any kb cb sd r (q) _ HS.out.key (by omega) (by omega)).mono ?_
        rintro e V5 ⟨rfl, n1, hV1⟩
        have hv := (show Below _ _ V5 from by rw [hV1]; exact (Ch.drewN [] _ n1).below (Nat.le_refl _) (by simp))
        replace HS := Lib.hid (HS.out.go hv)
        replace H11 := Lib.hid (H11.out.bel hv)
        clear hV1 hv c0
        rw [← HL.out, ← HLF.out]
        have y0 : V5.cell? ⟨g11, 0, none⟩ = some (.slice none 0 0) := H11.out.cell 0
        have z0 : (lf != lf) = false := by simp
        go_wp2_with fail
        go_roundw
        case rel => exact ⟨k + 1, q, by omega, by go_num, hq, HS⟩
        case measure => simp [intOf]; omega
      | true =>
        by_cases hqL : q < L
        · have hq2 : q < 2 ^ r := by rw [← HL.out]; exact hqL
          have hr4 : r ≤ 4 := by omega
          refine (csigned_gen u kb cb r q sd _ HS.out.rows.mem HS.out.rows.nz HOK.out.pf.len HOK.out.out hR HS.out.key hr4 hq2 (by have := HSZ.out; omega)).mono ?_
          rintro e V2 ⟨A, c, B, d, PA, pc, rfl, hr2, hk2, hc2⟩
          have hs2 : (signB sd r q (coreX u)).size ≤ 400 := by rw [signB_size sd hq2]; omega
          have hv2 := ver_sign sd hr4 hq2 (coreX u)
          have hsg := SgV.mk_ hR hs2 HOK.out A c B d PA pc
          have hcz : (coreX u).size ≤ 900000 := by have := corex_size u; omega
          have hcg := HOK.out
          obtain ⟨v, hv⟩ : ∃ v, v = sgA (cpT u A c B d PA pc) (signB sd r q (coreX u)) := ⟨_, rfl⟩
          rw [← hv] at hr2 hsg ⊢
          obtain ⟨N2, hN2⟩ : ∃ N2, N2 = V1.heap.size := ⟨_, rfl⟩
          rw [← hN2] at hr2
          have HR11 := Lib.hid hr2
          replace HS := Lib.hid (HS.out.sign hk2 hc2)
          obtain ⟨cr, hcr⟩ : ∃ cr, cr = coreX u := ⟨_, rfl⟩
          rw [← hcr] at hs2 hv2 hcz hsg
          generalize signB sd r q cr = sg at hs2 hv2 hsg
          have HSV := Lib.hid hsg
          have HVF := fun W => Lib.hid (verify_any (rootB sd r) cr sg W (by omega) hcz)
          rw [hv2] at HVF
          have HC2 := fun W (hm : u.mem W) => Lib.hid (core_gen u W hm hcg.ins hcg.outs hcg.pf.len hcg.out)
          have HC1 := fun W (hm : v.mem W) => Lib.hid (core_gen v W hm HSV.out.ok.ins HSV.out.ok.outs HSV.out.ok.pf.len HSV.out.ok.out)
          rw [hsg.core, ← hcr] at HC1
          rw [← hcr] at HC2
          have HNS := fun W (h1 : v.mem W) (h2 : u.mem W) => Lib.hid ((nsame_gen v.p u.p W h1.wins h2.wins (by have := HSV.out.ok.pf.len; omega)).mono (fun e w' h => show e = .returned (.bool true) ∧ Below W.heap.size W w' from by
            obtain ⟨z, he, hz, hb⟩ := h
            exact ⟨by rw [he, hz.2 ⟨HSV.out.am, HSV.out.sig, HSV.out.tok, HSV.out.l⟩], hb⟩))
          have hlf1 : ((2 ^ r : Nat) : Int) - ((q + 1 : Nat) : Int) = lf - 1 := by rw [← HL.out, HLF.out]; omega
          have w1 : wrap64 (lf - 1) = lf - 1 := IntWalk.wrap64_in _ (by have := HLF.out; omega)
          have w2 : IntKind.i64.wrap (lf - 1) = lf - 1 := IntWalk.i64_in _ (by have := HLF.out; omega)
          have d0 : (lf == 0) = false := by rw [beq_eq_false_iff_ne]; have := HLF.out; omega
          have HW := Lib.hid (And.intro w1 w2)
          have HL1 := Lib.hid hlf1
          have HQ2 : Hid (q + 1 ≤ L) := Lib.hid hqL
          clear hr2 hk2 hc2 hs2 hv2 hsg hcz hcg hv hN2 hcr w1 w2 hlf1 hqL hq2 HLF
          go_upto_region 10 with (refine wpList_store_part rfl 53 (.tmp 11) (.tmp 47) rfl V2.heap.size 0 (cs := zTx) (Blk.new _ _ _) v.cs v.cs (by rfl) (by rfl) (Nat.le_refl 6) infoTx (txncs_one v) (txn_over v rfl) ?_; intro V3 hb1 hc1; have hb := bel_st' hc1; have H11 := Lib.hid hb1; replace HS := Lib.hid (HS.out.go hb); try (replace HR11 := Lib.hid (TxRows.bel HR11.out hb)); clear hb1 hc1 hb)
          try go_frame
          generalize V2.heap.size = g11 at H11 ⊢
          go_wp2_with (refine wpList_load_blk rfl 53 (.tmp 3) rfl w0.heap.size 0 6 HS.out.hd u.cs (by rfl) (txn_ext u) Tryz.underlying53 infoTx (Nat.le_refl 6) ?_)
          refine (right_gen u _ HS.out.rows.mem HOK.out.ins HOK.out.outs HOK.out.pf.len).mono ?_
          rintro e V4 ⟨rfl, hb⟩
          replace HS := Lib.hid (HS.out.go hb)
          replace H11 := Lib.hid (H11.out.bel hb)
          try (replace HR11 := Lib.hid (TxRows.bel HR11.out hb))
          rw [hR]
          clear hb
          go_upto_region 16 with fail
          have c0 := HS.out.ctr
          have y11 : V4.cell? ⟨g11, 0, none⟩ = some (.slice v.A u.ins.length v.c) := by rw [← HSV.out.len]; exact H11.out.cell 0
          have y3 : V4.cell? ⟨w0.heap.size, 0, none⟩ = some (.slice u.A u.ins.length u.c) := HS.out.hd.cell 0
          have z1 : ((u.ins.length : Int) != (u.ins.length : Int)) = false := by rw [bne_self_eq_false]
          have z2 : (lf - 1 != lf - 1) = false := by rw [bne_self_eq_false]
          have z3 : (cr.toList == cr.toList) = true := beq_self_eq_true _
          have z4 : (!(cr.toList == cr.toList)) = false := by rw [beq_self_eq_true]; rfl
          have v1 := HW.out.1
          have v2 := HW.out.2
          have KL := fun W (hb : Below V4.heap.size V4 W) => Lib.hid (kleft_any kb cb sd r (q + 1) W (HS.out.key.bel hb) hr4 (by have := HQ2.out; omega))
          rw [HL1.out] at KL
          have K1 := fun W (hb : Below V4.heap.size V4 W) => Lib.hid (HC1 W (HR11.out.bel hb).mem).out
          have K2 := fun W (hb : Below V4.heap.size V4 W) => Lib.hid (HC2 W (HS.out.rows.bel hb).mem).out
          have KN := fun W (hb : Below V4.heap.size V4 W) => Lib.hid (HNS W (HR11.out.bel hb).mem (HS.out.rows.bel hb).mem).out
          have H3 := Lib.hid HS.out.hd
          have x0 := cell_rg c0
          have x11 := cell_rg y11
          have x3 := cell_rg y3
          refine wp_region_quiet_below (by kernel_rfl) (by kernel_rfl) ?_
          repeat (first | go_big_quiet_skip | (go_big_quiet_want; first | ((first
                      | (refine quiet_load_blk 53 (.tmp 11) rfl g11 0 6 H11.out v.cs (by rfl) (txn_ext v) Tryz.underlying53 infoTx (Nat.le_refl 6) ?_; go_simp)
                      | (refine quiet_load_blk 53 (.tmp 3) rfl w0.heap.size 0 6 H3.out u.cs (by rfl) (txn_ext u) Tryz.underlying53 infoTx (Nat.le_refl 6) ?_; go_simp)
                      | (refine quiet_load_blk 51 (.tmp 108) rfl g11 2 4 H11.out v.p.cs (by rfl) (txn_pf v) Tryz.underlying51 infoPf (by show 6 ≤ 6; omega) ?_; go_simp)
                      | (refine quiet_load_blk 51 (.tmp 110) rfl w0.heap.size 2 4 H3.out u.p.cs (by rfl) (txn_pf u) Tryz.underlying51 infoPf (by show 6 ≤ 6; omega) ?_; go_simp)); go_big_quiet_on) | (go_big_quiet_op; first | go_big_quiet_on | go_big_quiet_call ((first
                      | (go_at_call 21; with_reducible exact Calls.rg_drew fun W hb => (KL W hb).out)
                      | (go_at_call 24; first | (with_reducible exact Calls.rg fun W hb => (K1 W hb).out) | (with_reducible exact Calls.rg fun W hb => (K2 W hb).out))
                      | (go_at_call 25; with_reducible exact Calls.rg fun W hb => (KN W hb).out))))))
          refine wpQuiet_nil ?_
          intro V5 hp
          have hb := bel_regrown hp
          clear hp
          replace HS := Lib.hid (HS.out.go hb)
          replace H11 := Lib.hid (H11.out.bel hb)
          replace HR11 := Lib.hid (HR11.out.bel hb)
          clear hb KL K1 K2 KN H3 x0 x11 x3 c0 y11 y3 z1 z2 z3 z4 v1 v2 HW HL1 HC1 HNS
          go_wp2_with fail
          go_loopw [13] (fun j wy => ∃ m : Nat, m ≤ u.ins.length ∧ j = .int .i64 m ∧ Hid (LsS w0 u N1 kb cb sd r (q + 1) wy) ∧ Hid (Blk wy g11 53 v.cs) ∧ Hid (TxRows N2 wy v)) (fun j _ => u.ins.length - (intOf j).toNat)
          case atStart => exact ⟨0, Nat.zero_le _, rfl, HS, H11, HR11⟩
          case round =>
            clear HS H11 HR11
            obtain ⟨m, hm, rfl, HS, H11, HR11⟩ := hrel
            have h1k : u.ins.length ≤ 1000 := HOK.out.ins
            have y11 : wr.cell? ⟨g11, 0, none⟩ = some (.slice v.A u.ins.length v.c) := by rw [← HSV.out.len]; exact H11.out.cell 0
            by_cases hml : m < u.ins.length
            · have hml' : m < v.ins.length := by rw [HSV.out.len]; exact hml
              obtain ⟨ib, io, hA, _, hc⟩ := HR11.out.mem.ins (List.ne_nil_of_length_pos (by omega))
              have f1 : wr.cell? ⟨ib, io + m * 4 + 3, none⟩ = some (.string sg) := by
                rw [hc m _ (List.getElem?_eq_getElem hml') 3 (.string v.ins[m].sig) rfl, HSV.out.sigs _ (List.getElem_mem hml')]
              have f0 : wr.cell? ⟨ib, io + 3, none⟩ = some (.string sg) := by
                have := hc 0 _ (List.getElem?_eq_getElem (show 0 < v.ins.length by omega)) 3 (.string (v.ins[0]'(by omega)).sig) rfl
                rw [HSV.out.sigs _ (List.getElem_mem (show 0 < v.ins.length by omega))] at this
                simpa using this
              rw [hA] at y11
              clear hA hc
              have e1 : (m : Int) < (u.ins.length : Int) := by omega
              have e2 : decide ((m : Int) < (u.ins.length : Int)) = true := decide_eq_true e1
              have e3 : (0 : Int) < (u.ins.length : Int) := by omega
              go_upto_region 21 with fail
              have z3 : (sg.toList == sg.toList) = true := beq_self_eq_true _
              have z4 : (!(sg.toList == sg.toList)) = false := by rw [beq_self_eq_true]; rfl
              have K2 := fun W (hb : Below wr.heap.size wr W) => Lib.hid (HC2 W (HS.out.rows.bel hb).mem).out
              have KV := fun W (hb : Below wr.heap.size wr W) => Lib.hid (HVF W).out
              have KR := fun W (hb : Below wr.heap.size wr W) => Lib.hid (kroot_any kb cb sd r (q + 1) W (HS.out.key.bel hb))
              have H3 := Lib.hid HS.out.hd
              have x11 := cell_rg y11
              have x1 := cell_rg f1
              have x2 := cell_rg f0
              refine wp_region_quiet_below (by kernel_rfl) (by kernel_rfl) ?_
              repeat (first | go_big_quiet_skip | (go_big_quiet_want; first | ((refine quiet_load_blk 53 (.tmp 3) rfl w0.heap.size 0 6 H3.out u.cs (by rfl) (txn_ext u) Tryz.underlying53 infoTx (Nat.le_refl 6) ?_; go_simp); go_big_quiet_on) | (go_big_quiet_op; first | go_big_quiet_on | go_big_quiet_call ((first
                              | (go_at_call 24; with_reducible exact Calls.rg fun W hb => (K2 W hb).out)
                              | (go_at_call 26; with_reducible exact Calls.rg fun W hb => (KV W hb).out)
                              | (with_reducible exact Calls.rg_same' fun W hb => (KR W hb).out))))))
              refine wpQuiet_nil ?_
              intro V6 hp
              have hb := bel_regrown hp
              clear hp
              replace HS := Lib.hid (HS.out.go hb)
              replace H11 := Lib.hid (H11.out.bel hb)
              replace HR11 := Lib.hid (HR11.out.bel hb)
              clear hb K2 KV KR H3 x11 x1 x2 y11 f1 f0
              go_wp2_with fail
              go_roundw
              case rel => exact ⟨m + 1, by omega, by go_num, HS, H11, HR11⟩
              case measure => simp [intOf]; omega
            · have hmm : m = u.ins.length := by omega
              have e2 : decide ((m : Int) < (u.ins.length : Int)) = false := decide_eq_false (by omega)
              have e2' : decide ((u.ins.length : Int) < (u.ins.length : Int)) = false := decide_eq_false (by omega)
              go_wp2_with fail
              go_roundw
              case rel => exact ⟨k + 1, q + 1, by omega, by go_num, HQ2.out, HS⟩
              case measure => simp [intOf]; omega
        · obtain rfl : lf = 0 := by have := HLF.out; omega
          refine (csigned_used u kb cb r q sd _ HS.out.rows.mem HOK.out.ins HOK.out.outs HOK.out.pf.len HOK.out.out hR HS.out.key (by omega) (by rw [← HL.out]; omega) (by omega)).mono ?_
          rintro e V2 ⟨rfl, hb⟩
          replace HS := Lib.hid (HS.out.go hb)
          clear hb
          go_upto_region 10 with (refine wpList_store_part rfl 53 (.tmp 11) (.tmp 47) rfl V2.heap.size 0 (cs := zTx) (Blk.new _ _ _) zTx zTx (by rfl) (by rfl) (Nat.le_refl 6) infoTx zTx_one (txn_over zT rfl) ?_; intro V3 hb1 hc1; have hb := bel_st' hc1; have H11 := Lib.hid hb1; replace HS := Lib.hid (HS.out.go hb); try (replace HR11 := Lib.hid (TxRows.bel HR11.out hb)); clear hb1 hc1 hb)
          try go_frame
          generalize V2.heap.size = g11 at H11 ⊢
          go_wp2_with (refine wpList_load_blk rfl 53 (.tmp 3) rfl w0.heap.size 0 6 HS.out.hd u.cs (by rfl) (txn_ext u) Tryz.underlying53 infoTx (Nat.le_refl 6) ?_)
          refine (right_gen u _ HS.out.rows.mem HOK.out.ins HOK.out.outs HOK.out.pf.len).mono ?_
          rintro e V4 ⟨rfl, hb⟩
          replace HS := Lib.hid (HS.out.go hb)
          replace H11 := Lib.hid (H11.out.bel hb)
          try (replace HR11 := Lib.hid (TxRows.bel HR11.out hb))
          rw [hR]
          clear hb
          have y0 : V4.cell? ⟨g11, 0, none⟩ = some (.slice none 0 0) := H11.out.cell 0
          go_wp2_with fail
          go_roundw
          case rel => exact ⟨k + 1, q, by omega, by go_num, hq, HS⟩
          case measure => simp [intOf]; omega
    · have hkl : k = 6 := by omega
      subst hkl
      go_wp2_with fail
      refine (HFX _).out.mono ?_
      rintro e V ⟨rfl, hb⟩
      go_wp2_with fail
      go_ret
      exact ⟨rfl, HS.out.bel.trans (hb.mono HS.out.bel.size)⟩
end Go.Proofs.YtjcinncphffgaaaGreat
