/- law18's ClaimPays: the walk. -/
import Derived.Outline
import Derived.Deep.RegionHeld3
import Derived.Deep.DeepCutAuto
import Derived.Deep.CutBlock
import Derived.Test.YtjcinncphffgaaaGreatMhFqC
import Derived.Test.YtjcinncphffgaaaGreatMhG44
import Derived.Test.YtjcinncphffgaaaGreatMhLaw17b
import Derived.Test.YtjcinncphffgaaaGreatMhLpB
import Derived.Test.YtjcinncphffgaaaGreatMhSmC
set_option linter.unusedVariables false
set_option linter.unusedSimpArgs false
namespace Go.Proofs.YtjcinncphffgaaaGreat
open Go.RowKit Go.Maps
set_option maxRecDepth 100000 in
set_option maxHeartbeats 60000000 in
theorem cpays18_any (s : ByteArray) (n0 n1 n2 n3 : Nat) (ht : Int) (w0 : World) (hs : s.size ≤ maxLen) (h0 : n0 < 4294967296) (h1 : n1 < 4294967296) (h2 : n2 < 4294967296) (h3 : n3 < 4294967296) :
    Calls Tryz.prog 6 #[.string s, .agg #[.int .u32 (n0 : Int), .int .u32 (n1 : Int), .int .u32 (n2 : Int), .int .u32 (n3 : Int)], .int .i64 ht] w0 fun e w' => e = .returned (.bool true) ∧ Below w0.heap.size w0 w' := by
  unfold maxLen at hs
  go_enter Tryz.func6, Tryz.ntmps6
  go_upto_region 2 with fail
  have hsz : (s.extract 0 (min (s.size : Int) 50).toNat).size ≤ 50 := by rw [ByteArray.size_extract]; omega
  generalize s.extract 0 (min (s.size : Int) 50).toNat = sd at hsz ⊢
  refine wp_gen fun W0 hW0 => ?_
  have HX : Hid (Blk W0 w0.heap.size 96 (bxU4 n0 n1 n2 n3)) := Lib.hid (by rw [hW0]; exact Blk.new _ _ _)
  have HB : Hid (Below w0.heap.size w0 W0) := Lib.hid (by rw [hW0]; exact (Below.refl _ _).alloc (Nat.le_refl _) _)
  clear hW0
  have hzc : (sd ++ (⟨#[99]⟩ : ByteArray)).size ≤ 1000000 := by rw [ByteArray.size_append]; show sd.size + 1 ≤ _; omega
  have hzg : (sd ++ (⟨#[103]⟩ : ByteArray)).size ≤ 1000000 := by rw [ByteArray.size_append]; show sd.size + 1 ≤ _; omega
  have HZC := Lib.hid hzc
  have HZG := Lib.hid hzg
  have HNC := fun W => Lib.hid (mnew_any (sd ++ (⟨#[99]⟩ : ByteArray)) 0 W (by decide) hzc)
  have HNG := fun W => Lib.hid (mnew_any (sd ++ (⟨#[103]⟩ : ByteArray)) 0 W (by decide) hzg)
  clear hzc hzg hs
  go_wp2_with fail
  refine (HNC _).out.mono ?_
  rintro e W1 ⟨kb, cb, rfl, hkb, hcb, hk, hb1⟩
  have HK := Lib.hid hk
  replace HX := Lib.hid (HX.out.bel hb1)
  have HQ1 := Lib.hid (show w0.heap.size ≤ cb from Nat.le_trans HB.out.size hcb)
  replace HB := Lib.hid (HB.out.trans (hb1.mono HB.out.size))
  clear hk hb1 hkb hcb HNC
  go_wp2_with fail
  generalize sd ++ (⟨#[99]⟩ : ByteArray) = sc at HK HZC ⊢
  refine (HNG _).out.mono ?_
  rintro e W2 ⟨kg, cg, rfl, hkg, hcg, hk, hb1⟩
  generalize sd ++ (⟨#[103]⟩ : ByteArray) = sg at hk HZG ⊢
  have HT : Hid (TwoK W2 kb cb sc 0 0 kg cg sg 0 0) := Lib.hid ⟨HK.out.bel hb1, hk, by have := HK.out.cnt.lt; omega⟩
  replace HX := Lib.hid (HX.out.bel hb1)
  have HQ2 := Lib.hid (show w0.heap.size ≤ cg from Nat.le_trans HB.out.size hcg)
  replace HB := Lib.hid (HB.out.trans (hb1.mono HB.out.size))
  clear hk hb1 hkg hcg HNG HK hsz
  go_upto_region 6 with fail
  try go_frame
  have hcl := rootB_size sc 0
  have hgt := rootB_size sg 0
  have KRC := fun W (hb : Below W2.heap.size W2 W) => Lib.hid (kroot_any kb cb sc 0 0 W (HT.out.kc.bel hb))
  have KRG := fun W (hb : Below W2.heap.size W2 W) => Lib.hid (kroot_any kg cg sg 0 0 W (HT.out.kg.bel hb))
  obtain ⟨cl, hcd⟩ : ∃ cl, cl = rootB sc 0 := ⟨_, rfl⟩
  obtain ⟨gt, hgd⟩ : ∃ gt, gt = rootB sg 0 := ⟨_, rfl⟩
  rw [← hcd] at hcl KRC
  rw [← hgd] at hgt KRG
  have HCD := Lib.hid hcd
  have HGD := Lib.hid hgd
  clear hcd hgd
  have HLK : Hid (LkOk1 cl gt (1 + n0) n1 5) := Lib.hid ⟨hcl, hgt, by omega, by omega, by omega, by omega, by omega⟩
  have K1 := fun W => Lib.hid (locked1_any cl gt (1 + n0) n1 5 W HLK.out)
  rw [show ((1 + n0 : Nat) : Int) = 1 + (n0 : Int) from by omega] at K1
  have q0 := cell_rg (show W2.cell? ⟨w0.heap.size, 0, none⟩ = some (.int .u32 (n0 : Int)) from HX.out.cell 0)
  have q1 := cell_rg (show W2.cell? ⟨w0.heap.size, 1, none⟩ = some (.int .u32 (n1 : Int)) from HX.out.cell 1)
  clear hcl hgt
  refine wp_region_head 11 (l1 := ?hL6) ?hE6 (by kernel_rfl) ?hB6 ?hT6 (of_decide_eq_true (by kernel_rfl)) ?hH6 ?_
  case hE6 => simp only [List.take_succ_cons, List.take_zero]; rfl
  case hB6 => as_aux_lemma => kernel_rfl
  case hT6 => as_aux_lemma => kernel_rfl
  case hH6 => as_aux_lemma => kernel_rfl
  repeat (first | go_big_quiet_skip | (go_big_quiet_want; first | (fail; go_big_quiet_on) | (go_big_quiet_op; first | go_big_quiet_on | go_big_quiet_call ((go_at_call 27; first | (with_reducible exact Calls.rg_same' fun W hW => (KRC W hW).out) | (with_reducible exact Calls.rg_same' fun W hW => (KRG W hW).out))))))
  refine wpQuiet_nil ?_
  intro U hp
  have hbU := bel_regrown hp
  clear hp
  change wpAny Tryz.prog .any _ _ (5 + 1) (firstN 17 11) _ _
  rw [show firstN 17 11 = #[true, true, true, true, true, true, true, true, true, true, true, false, false, false, false, false, false] from by as_aux_lemma => kernel_rfl]
  refine wpAny_ready (rs := [11]) (by kernel_rfl) (by simp) (AllReady.cons rfl (fun K hK => ?_) AllReady.nil)
  go_simp
  obtain ⟨T, hTT⟩ : ∃ T, T = lkT1 cl gt (1 + n0) n1 5 := ⟨_, rfl⟩
  have K2 := K1 U
  rw [← hTT] at K2
  refine K2.out.mono ?_
  rintro e W4 ⟨sb, b, A, c4, rfl, hsb, hbb, hset, hsl, hb⟩
  have hbV := hbU.trans (hb.mono hbU.size)
  have HS := Lib.hid hset
  have HL := Lib.hid hsl
  have HSB := Lib.hid (show w0.heap.size ≤ b from Nat.le_trans (Nat.le_trans HB.out.size hbU.size) hbb)
  replace HT := Lib.hid (HT.out.bel hbV)
  replace HX := Lib.hid (HX.out.bel hbV)
  replace HB := Lib.hid (HB.out.trans (hbV.mono HB.out.size))
  have hTl := lk1_len cl gt (1 + n0) n1 5
  rw [← hTT] at hTl
  have HTT := Lib.hid hTT
  clear hset hsl hb hsb hbb K1 K2 hbU hbV KRC KRG q0 q1 hTT
  go_simp
  refine hK _ _ ?_
  clear hK K
  rw [show (#[true, true, true, true, true, true, true, true, true, true, true, false, false, false, false, false, false] : Array Bool).setIfInBounds 11 true = #[true, true, true, true, true, true, true, true, true, true, true, true, false, false, false, false, false] from rfl]
  refine wpAny_lexrest 12 (l2 := ?rL6) ?rE6 (by kernel_rfl) (by kernel_rfl) ?rB6 ?_
  case rE6 => simp only [List.drop_succ_cons, List.drop_zero]; rfl
  case rB6 => as_aux_lemma => kernel_rfl
  repeat (first | go_big_quiet_skip | (go_big_quiet_want; first | (fail; go_big_quiet_on) | (go_big_quiet_op; first | go_big_quiet_on | go_big_quiet_call (fail))))
  refine wpQuiet_nil ?_
  intro Z hp
  have hbZ := bel_regrown hp
  clear hp
  replace HS := Lib.hid (HS.out.bel hbZ)
  replace HL := Lib.hid (sl_bel HL.out hbZ)
  replace HT := Lib.hid (HT.out.bel hbZ)
  replace HX := Lib.hid (HX.out.bel hbZ)
  replace HB := Lib.hid (HB.out.trans (hbZ.mono HB.out.size))
  clear hbZ
  go_wp2_with fail
  refine (pnew_any wTok 5 _ (by omega) (by omega) (by decide)).mono ?_
  rintro e W6 ⟨pb, rfl, hpb, hch, hb⟩
  have HV : Hid (LpV w0 kb cb sc 0 kg cg sg 0 sb b T pb (bxU4 n0 n1 n2 n3) W6) := Lib.hid ⟨HT.out.bel hb, HS.out.bel hb, HX.out.bel hb, hch, HB.out.trans (hb.mono HB.out.size), HQ1.out, HQ2.out, HSB.out⟩
  replace HL := Lib.hid (sl_bel HL.out hb)
  clear hb hch hpb HS HT HX HB HQ1 HQ2 HSB
  have hT1 := hTl.1
  have hT2 := hTl.2
  have HT2 := Lib.hid hTl
  have he0 : T[0]? = some (lpX cl gt (1 + n0) n1) := by rw [HTT.out, lk1_list]; rfl
  obtain ⟨ab, off, hA, hab, hc⟩ := HL.out (by intro q; rw [q] at hT1; simp at hT1)
  subst hA
  have HCA := Lib.hid hc
  have HAB := Lib.hid hab
  have HC0 : Hid (∀ j u, (lpX cl gt (1 + n0) n1).cl[j]? = some u → W6.cell? ⟨ab, off + j, none⟩ = some u) := Lib.hid (fun j u hu => by have := hc 0 _ he0 j u hu; simpa using this)
  clear hc hab he0 hTl HL
  have hT0 : 0 < T.length := hT1
  have d1 : decide ((T.length : Int) < 1) = false := decide_eq_false (by omega)
  have d1' : decide (T.length < 1) = false := decide_eq_false (by omega)
  have hi0 : (0 : Int) < (T.length : Int) := by omega
  have HLK5 := Lib.hid (lp_newB HLK.out)
  have KN := fun W => Lib.hid (xnew_any (lpX cl gt (1 + n0) n1) W (fitsB (lpX cl gt (1 + n0) n1).o) (fun W => fits_gen (lpX cl gt (1 + n0) n1).o W))
  rw [HLK5.out] at KN
  simp only [if_true] at KN
  obtain ⟨x, hxx⟩ : ∃ x, x = lpX cl gt (1 + n0) n1 := ⟨_, rfl⟩
  rw [← hxx] at KN HC0
  have HXX := Lib.hid hxx
  clear hxx HLK5
  go_wp2_with (refine wpList_load_en rfl (.tmp 94) rfl ab off (by rfl) x HC0.out ?_)
  refine (KN _).out.mono ?_
  rintro e V7 ⟨rfl, hb7⟩
  have HBW := Lib.hid hb7
  clear hb7 KN
  go_upto_region 11 with (refine wpList_store_part rfl 103 (.tmp 15) (.tmp 97) rfl V7.heap.size 0 (cs := zSt) (Blk.new _ _ _) (newS x).cs (newS x).cs (by rfl) (by rfl) (Nat.le_refl 20) infoSta (stcs_one _) (st_over _ rfl) ?_; intro W8 hb1 hc1; have hb := bel_st' hc1; (have H15 := Lib.hid hb1; have HB8 := Lib.hid hb); clear hb1 hc1 hb)
  replace H15 : Hid (StB W8 V7.heap.size (newS x)) := Lib.hid ⟨H15.out, 0, newS_ls _ _ _⟩
  have HGA : Hid (W6.heap.size ≤ V7.heap.size) := Lib.hid (Below.size HBW.out)
  replace HBW : Hid (Below W6.heap.size W6 W8) := Lib.hid (Below.trans HBW.out (Below.mono HB8.out (Below.size HBW.out)))
  clear HB8
  generalize V7.heap.size = a15 at H15 HGA ⊢
  have HLO : Hid (w0.heap.size ≤ a15) := Lib.hid (Nat.le_trans HV.out.bel.size HGA.out)
  have HQ0 : Hid ((1 < T.length → newS x = newS x) ∧ (1 = T.length → LpS (newS x) cl gt (1 + n0) n1)) := Lib.hid ⟨fun _ => rfl, fun q => by
    have hz : n1 = 0 := by
      by_cases q0 : n1 = 0
      · exact q0
      · have h := HTT.out
        rw [lk1_list, if_neg q0] at h
        rw [h] at q
        simp at q
    rw [HXX.out, hz]
    exact lp_new (by rw [← hz]; exact HLK.out)⟩
  clear d1 d1' hi0
  go_wp2_with fail
  go_loopw [16, 17] (fun u16 i wr => ∃ (k : Nat) (s : St), 1 ≤ k ∧ k ≤ T.length ∧ u16 = .int .i64 0 ∧ i = .int .i64 k ∧ Hid (Below W6.heap.size W6 wr) ∧ Hid (StB wr a15 s) ∧ Hid ((k < T.length → s = newS x) ∧ (k = T.length → LpS s cl gt (1 + n0) n1))) (fun _ i _ => T.length - (intOf i).toNat)
  case atStart => exact ⟨1, newS x, Nat.le_refl _, hT1, rfl, rfl, HBW, H15, Lib.hid ⟨fun _ => rfl, HQ0.out.2⟩⟩
  case round =>
    clear HBW H15 HQ0
    obtain ⟨k, s, hk1, hk2, rfl, rfl, HBW, H15, HQ⟩ := hrel
    by_cases hlt : k < T.length
    · obtain rfl : k = 1 := by omega
      have hlen : T.length = 2 := by omega
      have hnz : n1 ≠ 0 := by
        intro q0
        have h := HTT.out
        rw [lk1_list, if_pos q0] at h
        rw [h] at hlen
        simp at hlen
      have he1 : T[1]? = some (lpY cl gt (1 + n0) n1) := by rw [HTT.out, lk1_list, if_neg hnz]; rfl
      have HC1 : Hid (∀ W, Below W6.heap.size W6 W → ∀ j u, (lpY cl gt (1 + n0) n1).cl[j]? = some u → W.cell? ⟨ab, off + 11 + j, none⟩ = some u) := Lib.hid (fun W hW j u hu => by
        have := HCA.out 1 _ he1 j u hu
        rw [Nat.one_mul] at this
        exact (hW.cell (p := ⟨ab, off + 11 + j, none⟩) HAB.out).trans this)
      have KM := fun W (hW : Below wr.heap.size wr W) => Lib.hid (more_one HLK.out hnz ((HQ.out.1 hlt).trans (by rw [HXX.out])) W (H15.out.bel hW).mem)
      have d2 : decide (((1 : Nat) : Int) < (T.length : Int)) = true := decide_eq_true (by omega)
      have d2' : decide ((1 : Int) < (T.length : Int)) = true := decide_eq_true (by omega)
      have d2n : decide (1 < T.length) = true := decide_eq_true (by omega)
      have hi1 : (1 : Int) < (T.length : Int) := by omega
      have hi2 : (1 : Nat) < T.length := hlt
      obtain ⟨y, hyy⟩ : ∃ y, y = lpY cl gt (1 + n0) n1 := ⟨_, rfl⟩
      rw [← hyy] at HC1 KM
      have HLEN := Lib.hid hlen
      clear he1 hyy hnz hlen
      go_upto_region 14 with fail
      go_cut [18, 19] from 109 to 118 (fun v18 v19 wx => ∃ (g18 : Nat) (q : St), v18 = .pointer (some ⟨g18, 0, none⟩) ∧ v19 = .int .i64 0 ∧ Hid (Below wr.heap.size wr wx) ∧ Hid (StB wx g18 q) ∧ Hid (LpS q cl gt (1 + n0) n1))
      case first =>
        refine wp_region_held_drew (S := fun W => Hid (Below wr.heap.size wr W)) (by kernel_rfl) (Lib.hid (Below.refl _ _).drew) (fun hS0 => ?_)
        refine wpAnyH_genT fun X hX => ?_
        have hS : Hid (Below wr.heap.size wr X) := Lib.hid (by rw [hX]; exact (Below.refl _ _).drew)
        clear hX hS0
        refine wpAnyH_take (i := 0) (v := .agg s.cs) rfl (by kernel_rfl) (by kernel_rfl) (by kernel_rfl) (fun _ _ _ h => h) (yields_blk (by rfl) 103 (.tmp 15) (by rfl) a15 0 20 (t := 103) (cs := s.cs) (fun W h => (H15.out.bel h.out).blk) s.cs (by rfl) (st_ext _) Tryz.underlying103 infoSta (st_le _)) hS ?_
        refine wpAnyH_take (i := 1) (v := ?_) rfl (by kernel_rfl) (by kernel_rfl) (by kernel_rfl) (fun _ _ _ h => h) (Or.inl ⟨by rfl, ?_⟩) hS ?_
        rotate_left
        · (intro w _; go_simp; try with_reducible rfl)
        refine wpAnyH_take (i := 2) (v := ?_) rfl (by kernel_rfl) (by kernel_rfl) (by kernel_rfl) (fun _ _ _ h => h) (Or.inl ⟨by rfl, ?_⟩) hS ?_
        rotate_left
        · (intro w _; go_simp; try with_reducible rfl)
        refine wpAnyH_take (i := 3) (v := ?_) rfl (by kernel_rfl) (by kernel_rfl) (by kernel_rfl) (fun _ _ _ h => h) (Or.inl ⟨by rfl, ?_⟩) hS ?_
        rotate_left
        · (intro w _; go_simp; try with_reducible rfl)
        refine wpAnyH_take (i := 4) (v := .agg y.cs) rfl (by kernel_rfl) (by kernel_rfl) (by kernel_rfl) (fun _ _ _ h => h) (yields_en (by rfl) (.tmp 113) (by rfl) ab (off + 11) y (fun W h => HC1.out W (HBW.out.trans (h.out.mono HBW.out.size))) (by go_simp)) hS ?_
        refine wpAnyH_ready (rs := [5, 9]) (by kernel_rfl) (by simp) (AllReadyH.cons rfl (fun K hK => ?_) (AllReadyH.cons rfl (fun K hK => ?_) AllReadyH.nil))
        · go_simp
          refine (KM X hS.out).out.mono ?_
          rintro e X2 ⟨q, rfl, hb, hls, hq⟩
          have hS2 : Hid (Below wr.heap.size wr X2) := Lib.hid (hS.out.trans (Below.mono hb hS.out.size))
          obtain ⟨N, hls⟩ := hls
          have HROW := Lib.hid hls
          have HLSQ := Lib.hid hq
          (try replace HZ := Lib.hid (HZ.out.bel hb))
          clear hb hls hq
          go_simp
          refine hK.out _ _ hS2 (fun _ => ?_)
          clear hK K
          refine wpAnyH_take (i := 6) (v := ?_) rfl (by kernel_rfl) (by kernel_rfl) (by kernel_rfl) (fun _ _ _ h => h) (Or.inl ⟨by rfl, ?_⟩) hS2 ?_
          rotate_left
          · (intro w _; go_simp; try with_reducible rfl)
          refine wpAnyH_take (i := 7) (v := ?_) rfl (by kernel_rfl) (by kernel_rfl) (by kernel_rfl) (fun _ _ _ h => h) (Or.inl ⟨by rfl, ?_⟩) hS2 ?_
          rotate_left
          · (intro w _; go_simp; try with_reducible rfl)
          refine wpAnyH_take (i := 8) (v := ?_) rfl (by kernel_rfl) (by kernel_rfl) (by kernel_rfl) (fun _ _ _ h => h) (Or.inl ⟨by rfl, ?_⟩) hS2 ?_
          rotate_left
          · (intro w _; go_simp; try with_reducible rfl)
          refine wpAnyH_ready (rs := [9]) (by kernel_rfl) (by simp) (AllReadyH.cons rfl (fun K hK => ?_) AllReadyH.nil)
          go_simp
          have HBA : Hid (Below X2.heap.size X2 (X2.alloc (.cells zSt 103))) := Lib.hid ((Below.refl _ _).alloc (Nat.le_refl _) _)
          have hsq : Hid (Below wr.heap.size wr (X2.alloc (.cells zSt 103))) := Lib.hid (hS2.out.trans (HBA.out.mono hS2.out.size))
          refine hK.out _ _ hsq (fun _ => ?_)
          clear hK K
          refine wpAnyH_genT fun X3 hY => ?_
          replace hY : X3 = X2.alloc (.cells zSt 103) := hY
          have HZ : Hid (Blk X3 X2.heap.size 103 zSt) := Lib.hid (by rw [hY]; exact Blk.new _ _ _)
          have HGZ : Hid (wr.heap.size ≤ X2.heap.size) := Lib.hid hS2.out.size
          rw [← hY] at HBA hsq
          have hS3 : Hid (Below wr.heap.size wr X3) := hsq
          clear hY hsq
          try replace HROW := Lib.hid (HROW.out.bel HBA.out)
          clear HBA
          refine wpAnyH_ready (rs := [10]) (by kernel_rfl) (by simp) (AllReadyH.cons rfl (fun K hK => ?_) AllReadyH.nil)
          refine step_store_part (by rfl) 103 (.tmp 18) (.tmp 116) (by rfl) X2.heap.size 0 HZ.out q.cs q.cs (by go_simp) (by go_simp) (Nat.le_refl 20) infoSta (stcs_one _) (st_over _ rfl) ?_
          intro Z hz3 hz4
          have HSZ : Hid (Below wr.heap.size wr Z) := Lib.hid (hS3.out.trans (hz4.below hS3.out.size (by intro x hx; simp at hx; rw [hx]; exact HGZ.out)))
          refine hK.out _ _ HSZ (fun _ => ?_)
          clear hK K
          refine wpAnyH_take (i := 11) (v := ?_) rfl (by kernel_rfl) (by kernel_rfl) (by kernel_rfl) (fun _ _ _ h => h) (Or.inl ⟨by rfl, ?_⟩) HSZ ?_
          rotate_left
          · (intro w _; go_simp; try with_reducible rfl)
          refine wpAnyH_done (by kernel_rfl) ?_ _
          try go_simp
          try go_wp2_with fail
          go_meet
          exact ⟨_, q, rfl, rfl, HSZ, Lib.hid ⟨hz3, N, HROW.out.ch hz4 HZ.out.kdT⟩, HLSQ⟩
        · go_simp
          have HBA : Hid (Below X.heap.size X (X.alloc (.cells zSt 103))) := Lib.hid ((Below.refl _ _).alloc (Nat.le_refl _) _)
          have hsq : Hid (Below wr.heap.size wr (X.alloc (.cells zSt 103))) := Lib.hid (hS.out.trans (HBA.out.mono hS.out.size))
          refine hK.out _ _ hsq (fun _ => ?_)
          clear hK K
          refine wpAnyH_genT fun X2 hY => ?_
          replace hY : X2 = X.alloc (.cells zSt 103) := hY
          have HZ : Hid (Blk X2 X.heap.size 103 zSt) := Lib.hid (by rw [hY]; exact Blk.new _ _ _)
          have HGZ : Hid (wr.heap.size ≤ X.heap.size) := Lib.hid hS.out.size
          rw [← hY] at HBA hsq
          have hS2 : Hid (Below wr.heap.size wr X2) := hsq
          clear hY hsq
          try replace HROW := Lib.hid (HROW.out.bel HBA.out)
          clear HBA
          refine wpAnyH_ready (rs := [5]) (by kernel_rfl) (by simp) (AllReadyH.cons rfl (fun K hK => ?_) AllReadyH.nil)
          go_simp
          refine (KM X2 hS2.out).out.mono ?_
          rintro e X3 ⟨q, rfl, hb, hls, hq⟩
          have hS3 : Hid (Below wr.heap.size wr X3) := Lib.hid (hS2.out.trans (Below.mono hb hS2.out.size))
          obtain ⟨N, hls⟩ := hls
          have HROW := Lib.hid hls
          have HLSQ := Lib.hid hq
          (try replace HZ := Lib.hid (HZ.out.bel hb))
          clear hb hls hq
          go_simp
          refine hK.out _ _ hS3 (fun _ => ?_)
          clear hK K
          refine wpAnyH_take (i := 6) (v := ?_) rfl (by kernel_rfl) (by kernel_rfl) (by kernel_rfl) (fun _ _ _ h => h) (Or.inl ⟨by rfl, ?_⟩) hS3 ?_
          rotate_left
          · (intro w _; go_simp; try with_reducible rfl)
          refine wpAnyH_take (i := 7) (v := ?_) rfl (by kernel_rfl) (by kernel_rfl) (by kernel_rfl) (fun _ _ _ h => h) (Or.inl ⟨by rfl, ?_⟩) hS3 ?_
          rotate_left
          · (intro w _; go_simp; try with_reducible rfl)
          refine wpAnyH_take (i := 8) (v := ?_) rfl (by kernel_rfl) (by kernel_rfl) (by kernel_rfl) (fun _ _ _ h => h) (Or.inl ⟨by rfl, ?_⟩) hS3 ?_
          rotate_left
          · (intro w _; go_simp; try with_reducible rfl)
          refine wpAnyH_ready (rs := [10]) (by kernel_rfl) (by simp) (AllReadyH.cons rfl (fun K hK => ?_) AllReadyH.nil)
          refine step_store_part (by rfl) 103 (.tmp 18) (.tmp 116) (by rfl) X.heap.size 0 HZ.out q.cs q.cs (by go_simp) (by go_simp) (Nat.le_refl 20) infoSta (stcs_one _) (st_over _ rfl) ?_
          intro Z hz3 hz4
          have HSZ : Hid (Below wr.heap.size wr Z) := Lib.hid (hS3.out.trans (hz4.below hS3.out.size (by intro x hx; simp at hx; rw [hx]; exact HGZ.out)))
          refine hK.out _ _ HSZ (fun _ => ?_)
          clear hK K
          refine wpAnyH_take (i := 11) (v := ?_) rfl (by kernel_rfl) (by kernel_rfl) (by kernel_rfl) (fun _ _ _ h => h) (Or.inl ⟨by rfl, ?_⟩) HSZ ?_
          rotate_left
          · (intro w _; go_simp; try with_reducible rfl)
          refine wpAnyH_done (by kernel_rfl) ?_ _
          try go_simp
          try go_wp2_with fail
          go_meet
          exact ⟨_, q, rfl, rfl, HSZ, Lib.hid ⟨hz3, N, HROW.out.ch hz4 HZ.out.kdT⟩, HLSQ⟩
      case rest =>
        obtain ⟨g18, q, rfl, rfl, HBX, H18, HLS⟩ := hcut
        replace H15 := Lib.hid (H15.out.bel HBX.out)
        replace HBW := Lib.hid (HBW.out.trans (HBX.out.mono HBW.out.size))
        clear KM HQ HC1 HBX
        go_wp2_with (first
          | (refine wpList_load_blk rfl 103 (.tmp 18) rfl g18 0 20 H18.out.blk q.cs (by rfl) (st_ext _) Tryz.underlying103 infoSta (st_le _) ?_)
          | (refine wpList_store_part rfl 103 (.tmp 15) (.tmp 118) rfl a15 0 (cs := s.cs) H15.out.blk q.cs q.cs (by rfl) (by rfl) (st_le _) infoSta (stcs_one _) (st_over _ rfl) ?_; intro W13 hb1 hc1; have HBN := Lib.hid (HBW.out.trans (hc1.below HBW.out.size (by intro x hx; simp at hx; rw [hx]; exact HGA.out))); have H15' : Hid (StB W13 a15 q) := (by obtain ⟨N, hls⟩ := H18.out.ls; exact Lib.hid ⟨hb1, N, hls.ch hc1 H15.out.blk.kdT⟩); clear hb1 hc1))
        go_roundw
        case rel => exact ⟨2, q, by omega, by have := HLEN.out; omega, rfl, by go_num, HBN, H15', Lib.hid ⟨fun h => absurd h (by have := HLEN.out; omega), fun _ => HLS.out⟩⟩
        case measure => have hlen := HLEN.out; simp [intOf]; omega
    · obtain rfl : k = T.length := by omega
      have d2 : decide ((T.length : Int) < (T.length : Int)) = false := decide_eq_false (by omega)
      have d2n : decide (T.length < T.length) = false := decide_eq_false (by omega)
      have HLS := Lib.hid (HQ.out.2 rfl)
      clear hlt HQ hk1 hk2
      go_upto_region 17 with fail
      try go_frame
      have htx : x.tx.size = 16 := by rw [HXX.out]; exact lkX1_sz _ _ _ _ _
      have hxo : x.out = 0 := by rw [HXX.out]; rfl
      have HCW : Hid (∀ W, Below wr.heap.size wr W → W.cell? ⟨ab, off, none⟩ = some (.string x.tx) ∧ W.cell? ⟨ab, off + 1, none⟩ = some (.int .i64 0)) := Lib.hid (fun W hW => by
        have hW6 := HBW.out.trans (hW.mono HBW.out.size)
        refine ⟨(hW6.cell (p := ⟨ab, off, none⟩) HAB.out).trans (HC0.out 0 _ rfl), (hW6.cell (p := ⟨ab, off + 1, none⟩) HAB.out).trans ?_⟩
        have := HC0.out 1 _ rfl
        rwa [hxo] at this)
      replace HV := Lib.hid (HV.out.go HBW.out)
      have KNM := fun W => Lib.hid (cname_gen x.tx 0 W (by rw [htx]; decide))
      obtain ⟨nm, hnd⟩ : ∃ nm, nm = nameO x.tx 0 := ⟨_, rfl⟩
      have hnm : nm.size = 16 := by rw [hnd]; exact nameO_size _ _
      rw [← hnd] at KNM
      have KVO := fun W => Lib.hid (voucher_any nm n2 W (by omega) (by omega))
      have hvz : (vouchB nm n2).size ≤ 900000 := by rw [vouchB_size]; omega
      generalize vouchB nm n2 = vb at KVO hvz
      have q0 := cell_rg (HCW.out wr (Below.refl _ _)).1
      have q1 := cell_rg (HCW.out wr (Below.refl _ _)).2
      have q2 := cell_rg (show wr.cell? ⟨w0.heap.size, 2, none⟩ = some (.int .u32 (n2 : Int)) from HV.out.box.cell 2)
      have hrow : ∀ j u, (ptCl (x.tx, (0 : Int)))[j]? = some u → wr.cell? ⟨ab, off + j, none⟩ = some u := fun j u hu => by
        match j, hu with
        | 0, hu => injection hu with hu; subst hu; exact (HCW.out wr (Below.refl _ _)).1
        | 1, hu => injection hu with hu; subst hu; exact (HCW.out wr (Below.refl _ _)).2
        | j + 2, hu => simp [ptCl] at hu
      have HROWP := Lib.hid hrow
      have HVZ := Lib.hid hvz
      have hi0 : (0 : Int) < (T.length : Int) := by have := HT2.out.1; omega
      clear hnd hnm htx hxo HCW hrow hvz
      refine wp_region_head 10 (l1 := ?hL17) ?hE17 (by kernel_rfl) ?hB17 ?hT17 (of_decide_eq_true (by kernel_rfl)) ?hH17 ?_
      case hE17 => simp only [List.take_succ_cons, List.take_zero]; rfl
      case hB17 => as_aux_lemma => kernel_rfl
      case hT17 => as_aux_lemma => kernel_rfl
      case hH17 => as_aux_lemma => kernel_rfl
      repeat (first | go_big_quiet_skip | (go_big_quiet_want; first | ((refine quiet_load_row 57 (.tmp 124) rfl ab off (ptCl (x.tx, 0)) HROWP.out #[.string x.tx, .int .i64 0] (by rfl) (by rfl) Tryz.underlying57 infoPnt ?_; go_simp); go_big_quiet_on) | (go_big_quiet_op; first | go_big_quiet_on | go_big_quiet_call ((first
              | (go_at_call 34; with_reducible exact Calls.rg fun W _ => (KNM W).out)
              | (go_at_call 42; with_reducible exact Calls.rg fun W _ => (KVO W).out))))))
      refine wpQuiet_nil ?_
      intro U hp
      have hbU := bel_regrown hp
      clear hp
      change wpAny Tryz.prog .any _ _ (5 + 1) (firstN 16 10) _ _
      rw [show firstN 16 10 = #[true, true, true, true, true, true, true, true, true, true, false, false, false, false, false, false] from by as_aux_lemma => kernel_rfl]
      refine wpAny_ready (rs := [10]) (by kernel_rfl) (by simp) (AllReady.cons rfl (fun K hK => ?_) AllReady.nil)
      go_simp
      refine (ksign_ok kb cb sc vb 0 0 U (by decide) (by decide) HZC.out HVZ.out (HV.out.go hbU).two.kc).mono ?_
      rintro e V ⟨rfl, hk, hc⟩
      have hs1 : (signB sc 0 0 vb).size ≤ 400 := by rw [signB_size sc (by decide)]; decide
      generalize signB sc 0 0 vb = sv at hs1 ⊢
      have HS1 := Lib.hid hs1
      have H15U := H15.out.bel hbU
      replace H15 : Hid (StB V a15 s) := Lib.hid (H15U.ch hc (HV.out.go hbU).two.kc.cnt (by decide) (by decide) (by decide))
      replace HV := Lib.hid ((HV.out.go hbU).signC hk hc)
      clear hk hc hs1 hbU q0 q1 q2 H15U KNM KVO HVZ HROWP HBW HC0 HCA HAB
      go_simp
      refine hK _ _ ?_
      clear hK K
      rw [show (#[true, true, true, true, true, true, true, true, true, true, false, false, false, false, false, false] : Array Bool).setIfInBounds 10 true = #[true, true, true, true, true, true, true, true, true, true, true, false, false, false, false, false] from rfl]
      refine wpAny_lexrest 11 (l2 := ?rL17) ?rE17 (by kernel_rfl) (by kernel_rfl) ?rB17 ?_
      case rE17 => simp only [List.drop_succ_cons, List.drop_zero]; rfl
      case rB17 => as_aux_lemma => kernel_rfl
      repeat (first | go_big_quiet_skip | (go_big_quiet_want; first | (fail; go_big_quiet_on) | (go_big_quiet_op; first | go_big_quiet_on | go_big_quiet_call (fail))))
      refine wpQuiet_nil ?_
      intro Z hp
      have hbZ := bel_regrown hp
      clear hp
      replace HV := Lib.hid (HV.out.go hbZ)
      replace H15 := Lib.hid (H15.out.bel hbZ)
      clear hbZ
      have p2 := (show Z.cell? ⟨w0.heap.size, 2, none⟩ = some (.int .u32 (n2 : Int)) from HV.out.box.cell 2)
      go_wp2_with (refine wpList_load_blk rfl 103 (.tmp 15) rfl a15 0 20 H15.out.blk s.cs (by rfl) (st_ext _) Tryz.underlying103 infoSta (st_le _) ?_)
      refine (vou_one HLS.out n2 sv _ H15.out.mem (by omega) (by have := HS1.out; omega)).mono ?_
      rintro e V1 ⟨q, f, rfl, hb, ⟨N, hls⟩, hq⟩
      replace HV := Lib.hid (HV.out.go hb)
      replace H15 := Lib.hid (H15.out.bel hb)
      have HLQ := Lib.hid hls
      have HQ := Lib.hid hq
      clear hb hls hq
      go_upto_if 144 with (refine wpList_store_part rfl 103 (.tmp 22) (.tmp 141) rfl V1.heap.size 0 (cs := zSt) (Blk.new _ _ _) q.cs q.cs (by rfl) (by rfl) (Nat.le_refl 20) infoSta (stcs_one _) (st_over _ rfl) ?_; intro W2 hb1 hc1; have hb := bel_st' hc1; (have H22 := Lib.hid hb1; have HB2 := Lib.hid hb); clear hb1 hc1 hb)
      replace H22 : Hid (StB W2 V1.heap.size q) := Lib.hid ⟨H22.out, N, HLQ.out.bel HB2.out⟩
      replace HV := Lib.hid (HV.out.go HB2.out)
      replace H15 := Lib.hid (H15.out.bel HB2.out)
      clear HLQ HB2
      generalize V1.heap.size = g22 at H22 ⊢
      go_cut [] from 143 to 145 (fun wx => ∃ s' : St, Hid (LpV w0 kb cb sc 1 kg cg sg 0 sb b T pb (bxU4 n0 n1 n2 n3) wx) ∧ Hid (StB wx a15 s') ∧ Hid (LpS s' cl gt (1 + n0) n1))
      case first =>
        by_cases hf : f = 0
        · have g0 : (f == 0) = true := by rw [hf]; rfl
          have HLN := Lib.hid (HQ.out hf)
          clear hf HQ
          go_wp2_with (first
            | (refine wpList_load_blk rfl 103 (.tmp 22) rfl g22 0 20 H22.out.blk q.cs (by rfl) (st_ext _) Tryz.underlying103 infoSta (st_le _) ?_)
            | (refine wpList_store_part rfl 103 (.tmp 15) (.tmp 145) rfl a15 0 (cs := s.cs) H15.out.blk q.cs q.cs (by rfl) (by rfl) (st_le _) infoSta (stcs_one _) (st_over _ rfl) ?_; intro W13 hb1 hc1; have HVn := Lib.hid (HV.out.st H15.out.blk hc1 (by decide) (by decide) (by decide) (by decide) (by decide) (by decide) HLO.out); have H15' : Hid (StB W13 a15 q) := (by obtain ⟨N2, hl2⟩ := H22.out.ls; exact Lib.hid ⟨hb1, N2, hl2.ch hc1 H15.out.blk.kdT⟩); clear hb1 hc1))
          go_meet
          exact ⟨q, HVn, H15', HLN⟩
        · have g0 : (f == 0) = false := beq_eq_false_iff_ne.2 hf
          clear hf HQ
          go_wp2_with fail
          go_meet
          exact ⟨s, HV, H15, HLS⟩
      case rest =>
        clear HV H15 HLS H22 HQ
        obtain ⟨s, HV, H15, HLS⟩ := hcut
        have p3 := (show wc.cell? ⟨w0.heap.size, 3, none⟩ = some (.int .u32 (n3 : Int)) from HV.out.box.cell 3)
        obtain ⟨j, hj⟩ : ∃ j, j = n3 % 6 := ⟨_, rfl⟩
        have hj5 : j ≤ 5 := by omega
        have z1 : Int.tmod (n3 : Int) 6 = (j : Int) := by rw [Int.tmod_eq_emod_of_nonneg (by omega)]; omega
        have z2 : (n3 : Int) % 6 = (j : Int) := by omega
        have z3 : IntKind.i64.wrap (j : Int) = (j : Int) := IntWalk.i64_in _ (by omega)
        have z4 : wrap64 (j : Int) = (j : Int) := IntWalk.wrap64_in _ ⟨by omega, by omega⟩
        have z5 : IntKind.u32.wrap (j : Int) = (j : Int) := IntWalk.u32_in _ (by omega)
        clear hj
        go_wp2_with fail
        refine (ptoken_any pb 5 j wTok _ (by decide) hj5 HV.out.ch).mono ?_
        rintro e Vq ⟨rfl, hq⟩
        rw [← hq]
        clear hq Vq p3 z1 z2 z3 z4 z5
        generalize tokB wTok 5 j = tk
        clear hj5
        go_wp2_with (refine wpList_load_blk rfl 103 (.tmp 15) rfl a15 0 20 H15.out.blk s.cs (by rfl) (st_ext _) Tryz.underlying103 infoSta (st_le _) ?_)
        refine (tok_one HLS.out tk _ H15.out.mem).mono ?_
        rintro e V1 ⟨q, f, rfl, hb, ⟨N, hls⟩, hq⟩
        replace HV := Lib.hid (HV.out.go hb)
        replace H15 := Lib.hid (H15.out.bel hb)
        have HLQ := Lib.hid hls
        have HQ := Lib.hid hq
        clear hb hls hq
        go_upto_if 162 with (refine wpList_store_part rfl 103 (.tmp 26) (.tmp 159) rfl V1.heap.size 0 (cs := zSt) (Blk.new _ _ _) q.cs q.cs (by rfl) (by rfl) (Nat.le_refl 20) infoSta (stcs_one _) (st_over _ rfl) ?_; intro W2 hb1 hc1; have hb := bel_st' hc1; (have H22 := Lib.hid hb1; have HB2 := Lib.hid hb); clear hb1 hc1 hb)
        replace H22 : Hid (StB W2 V1.heap.size q) := Lib.hid ⟨H22.out, N, HLQ.out.bel HB2.out⟩
        replace HV := Lib.hid (HV.out.go HB2.out)
        replace H15 := Lib.hid (H15.out.bel HB2.out)
        clear HLQ HB2
        generalize V1.heap.size = g22 at H22 ⊢
        go_cut [] from 161 to 163 (fun wx => ∃ s' : St, Hid (LpV w0 kb cb sc 1 kg cg sg 0 sb b T pb (bxU4 n0 n1 n2 n3) wx) ∧ Hid (StB wx a15 s') ∧ Hid (LpS s' cl gt (1 + n0) n1))
        case first =>
          by_cases hf : f = 0
          · have g0 : (f == 0) = true := by rw [hf]; rfl
            have HLN := Lib.hid (HQ.out hf)
            clear hf HQ
            go_wp2_with (first
              | (refine wpList_load_blk rfl 103 (.tmp 26) rfl g22 0 20 H22.out.blk q.cs (by rfl) (st_ext _) Tryz.underlying103 infoSta (st_le _) ?_)
              | (refine wpList_store_part rfl 103 (.tmp 15) (.tmp 163) rfl a15 0 (cs := s.cs) H15.out.blk q.cs q.cs (by rfl) (by rfl) (st_le _) infoSta (stcs_one _) (st_over _ rfl) ?_; intro W13 hb1 hc1; have HVn := Lib.hid (HV.out.st H15.out.blk hc1 (by decide) (by decide) (by decide) (by decide) (by decide) (by decide) HLO.out); have H15' : Hid (StB W13 a15 q) := (by obtain ⟨N2, hl2⟩ := H22.out.ls; exact Lib.hid ⟨hb1, N2, hl2.ch hc1 H15.out.blk.kdT⟩); clear hb1 hc1))
            go_meet
            exact ⟨q, HVn, H15', HLN⟩
          · have g0 : (f == 0) = false := beq_eq_false_iff_ne.2 hf
            clear hf HQ
            go_wp2_with fail
            go_meet
            exact ⟨s, HV, H15, HLS⟩
        case rest =>
          clear HV H15 HLS H22 HQ
          obtain ⟨s, HV, H15, HLS⟩ := hcut
          obtain ⟨wv, hwv⟩ : ∃ v : Nat, worthV s = (v : Int) := ⟨(worthV s).toNat, by have : worthV s = paidV s s.faces := rfl; have := paidV_bd s s.faces; omega⟩
          have KW := fun W => Lib.hid (sworth_any s W HLS.out.inv.good.fit)
          rw [hwv] at KW
          have HWV := Lib.hid hwv
          have HW64 : Hid (wv < 18446744073709551616) := Lib.hid (by have : worthV s = paidV s s.faces := rfl; have := paidV_bd s s.faces; omega)
          have HSR := Lib.hid HV.out.set.ut.srt
          have HOK := Lib.hid HV.out.set.ut.ok
          clear hwv
          go_wp2_with (refine wpList_load_blk rfl 103 (.tmp 15) rfl a15 0 20 H15.out.blk s.cs (by rfl) (st_ext _) Tryz.underlying103 infoSta (st_le _) ?_)
          refine (KW _).out.mono ?_
          rintro e V1 ⟨rfl, hb⟩
          replace HV := Lib.hid (HV.out.go hb)
          replace H15 := Lib.hid (H15.out.bel hb)
          clear hb KW
          by_cases h10 : 10 < wv
          · have d1 : decide ((10 : Int) < (wv : Int)) = true := decide_eq_true (by omega)
            have d1' : decide ((wv : Int) > 10) = true := d1
            have d1n : decide (10 < wv) = true := decide_eq_true h10
            have d1x : decide (wv > 10) = true := d1n
            have HBE : Hid (buildE s = 0) := Lib.hid (by
              have h1 := HSR.out
              have h2 := HOK.out
              rw [HTT.out] at h1 h2
              rw [HLS.out.build HLK.out h1 h2, if_pos (by rw [HWV.out]; omega)])
            have HCO : Hid (coreX (buildX s none 0 none 0 none 0) = coreOn (lkT1 cl gt (1 + n0) n1 5) 2 (paysL s.lock (worthV s).toNat (wholeV s).toNat)) := Lib.hid (by
              have h1 := HSR.out
              have h2 := HOK.out
              rw [HTT.out] at h1 h2
              exact HLS.out.core HLK.out h1 h2 (by rw [HWV.out]; omega))
            have KM := fun W (h : Below V1.heap.size V1 W) => Lib.hid (mmake_ok s kg cg 0 0 sg W HLS.out.inv.good.fit (H15.out.bel h).mem (Nat.le_trans HLS.out.inv.tops (by decide)) HBE.out (HV.out.go h).two.kg (by decide) (by decide) HZG.out)
            rw [HCO.out] at KM
            obtain ⟨gv, hgv⟩ : ∃ gv, gv = signB sg 0 0 (coreOn (lkT1 cl gt (1 + n0) n1 5) 2 (paysL s.lock (worthV s).toNat (wholeV s).toNat)) := ⟨_, rfl⟩
            have HGV1 : Hid (gv.size ≤ 400) := Lib.hid (by rw [hgv, signB_size sg (by decide)]; decide)
            have HGV2 : Hid (verB gt (coreOn (lkT1 cl gt (1 + n0) n1 5) 2 (paysL s.lock (worthV s).toNat (wholeV s).toNat)) gv = true) := Lib.hid (by rw [hgv, HGD.out]; exact ver_sign sg (by decide) (by decide) _)
            rw [← hgv] at KM
            clear hgv HCO HBE
            go_wp2_with (refine wpList_load_blk rfl 103 (.tmp 15) rfl a15 0 20 H15.out.blk s.cs (by rfl) (st_ext _) Tryz.underlying103 infoSta (st_le _) ?_)
            refine (KM _ (Below.refl _ _)).out.mono ?_
            rintro e V2 ⟨A, c, B, d, PA, pc, rfl, hr, hk, hc⟩
            obtain ⟨u, hu⟩ : ∃ u, u = lpU s A c B d PA pc gv := ⟨_, rfl⟩
            rw [show sgA (buildX s A c B d PA pc) gv = u from hu.symm] at hr ⊢
            have HUU := Lib.hid hu
            have HRU := Lib.hid (hr.mono (Nat.zero_le _))
            replace HV := Lib.hid (HV.out.signG hk hc)
            clear hu hr hk hc KM H15
            go_upto_region 27 with (refine wpList_store_part rfl 53 (.tmp 29) (.tmp 170) rfl V2.heap.size 0 (cs := zTx) (Blk.new _ _ _) u.cs u.cs (by rfl) (by rfl) (Nat.le_refl 6) infoTx (txncs_one u) (txn_over u rfl) ?_; intro W4 hb1 hc1; have hb := bel_st' hc1; have H29 := Lib.hid hb1; have HVn := Lib.hid (HV.out.go hb); have HRn := Lib.hid (HRU.out.bel hb); clear hb1 hc1 hb)
            clear HV HRU
            generalize V2.heap.size = g29 at H29 ⊢
            go_upto_region 31 with fail
            try go_frame
            have h10w : 10 < worthV s := by rw [HWV.out]; omega
            have hwt : (worthV s).toNat = wv := by rw [HWV.out, Int.toNat_natCast]
            have HTK : Hid (TOk T) := Lib.hid (by
              have h2 := HOK.out
              rw [HTT.out] at h2 ⊢
              exact lk1_tok HLK.out h2)
            have HCK : Hid (checkE T u ht = 0) := Lib.hid (by
              have h1 := HSR.out
              have h2 := HOK.out
              rw [HTT.out] at h1 h2 ⊢
              rw [HUU.out]
              exact HLS.out.check HLK.out h1 h2 h10w (by omega) HGV1.out A c B d PA pc HGV2.out ht)
            have HTX : Hid (TxOk u) := Lib.hid (by rw [HUU.out]; exact HLS.out.ok A c B d PA pc gv)
            have hO : ∃ L, u.outs = payO (wv - 10) gt :: L := by
              rw [HUU.out, lpU_outs, HLS.out.outs h10w, hwt]
              exact ⟨_, rfl⟩
            obtain ⟨L, hL⟩ := hO
            obtain ⟨n, hn⟩ : ∃ n, n = u.outs.length := ⟨_, rfl⟩
            have hn1 : 1 ≤ n := by rw [hn, hL, List.length_cons]; omega
            have HL0 := Lib.hid hL
            have HN := Lib.hid hn
            have e1 : decide ((1 : Int) ≤ (n : Int)) = true := decide_eq_true (by omega)
            have e1' : decide ((n : Int) ≥ 1) = true := e1
            have e1n : decide (1 ≤ n) = true := decide_eq_true hn1
            have e1x : decide (n ≥ 1) = true := e1n
            have hi0 : (0 : Int) < (n : Int) := by omega
            have hi1 : 0 < n := hn1
            have w1 : IntKind.u64.wrap ((wv : Int) - 10) = ((wv - 10 : Nat) : Int) := by rw [IntWalk.u64_in _ (by have := HW64.out; omega)]; omega
            have KA := fun W (h : Below W4.heap.size W4 W) => Lib.hid (apply_any sb b T u ht W (HVn.out.set.bel h) (HRn.out.bel h).mem HTK.out HTX.out)
            rw [HCK.out] at KA
            clear h10w hwt hL hn HCK HTK HTX h10 d1 d1' d1n d1x
            refine wp_region_head 3 (l1 := ?hL31) ?hE31 (by kernel_rfl) ?hB31 ?hT31 (of_decide_eq_true (by kernel_rfl)) ?hH31 ?_
            case hE31 => simp only [List.take_succ_cons, List.take_zero]; rfl
            case hB31 => as_aux_lemma => kernel_rfl
            case hT31 => as_aux_lemma => kernel_rfl
            case hH31 => as_aux_lemma => kernel_rfl
            repeat (first | go_big_quiet_skip | (go_big_quiet_want; first | ((refine quiet_load_blk 53 (.tmp 29) rfl g29 0 6 H29.out u.cs (by rfl) (txn_ext u) Tryz.underlying53 infoTx (Nat.le_refl 6) ?_; go_simp); go_big_quiet_on) | (go_big_quiet_op; first | go_big_quiet_on | go_big_quiet_call (fail))))
            refine wpQuiet_nil ?_
            intro U hp
            have hbU := bel_regrown hp
            clear hp
            change wpAny Tryz.prog .any _ _ (23 + 1) (firstN 27 3) _ _
            rw [show firstN 27 3 = #[true, true, true, false, false, false, false, false, false, false, false, false, false, false, false, false, false, false, false, false, false, false, false, false, false, false, false] from by as_aux_lemma => kernel_rfl]
            refine wpAny_ready (rs := [3]) (by kernel_rfl) (by simp) (AllReady.cons rfl (fun K hK => ?_) AllReady.nil)
            go_simp
            refine (KA U hbU).out.mono ?_
            rintro e V5 ⟨rfl, hc5, hset⟩
            have HVU := HVn.out.go hbU
            have HKG : Hid (KeyAt V5 kg cg sg 0 1) := Lib.hid (HVU.two.kg.set HVU.set hc5)
            have H295 := Lib.hid ((H29.out.bel hbU).app HVU.set hc5)
            have HR5 := Lib.hid ((HRn.out.bel hbU).map HVU.set.ut hc5)
            have HB5 : Hid (Below w0.heap.size w0 V5) := Lib.hid (HVU.bel.trans (hc5.below HVU.bel.size (by simp; exact HVU.lo.2.2)))
            obtain ⟨ob, oo, hB, hro⟩ := out_rows HR5.out HL0.out (by simp)
            have y1 := cell_rg (show V5.cell? ⟨g29, 1, none⟩ = some (.slice (some ⟨ob, oo, none⟩) n u.d) from by rw [← hB, HN.out]; exact H295.out.cell 1)
            have hr0 : ∀ j v, (payO (wv - 10) gt).cl[j]? = some v → V5.cell? ⟨ob, oo + j, none⟩ = some v := fun j v hv => by simpa using hro 0 _ rfl j v hv
            have HRW := Lib.hid hr0
            have KRG := fun W (hb : Below V5.heap.size V5 W) => Lib.hid (kroot_any kg cg sg 0 1 W (HKG.out.bel hb))
            rw [← HGD.out] at KRG
            have kq : ∀ W, (binOp .eql 81 (.agg #[.int .i64 1, .int .u64 ((wv - 10 : Nat) : Int), .string gt, .string ByteArray.empty, .int .i64 0, .string ByteArray.empty, .int .u64 0, .int .i64 0, .string ByteArray.empty]) (.agg #[.int .i64 1, .int .u64 ((wv - 10 : Nat) : Int), .string gt, .string ByteArray.empty, .int .i64 0, .string ByteArray.empty, .int .u64 0, .int .i64 0, .string ByteArray.empty])).run Tryz.prog W = .ok (.bool true) W := fun W => ouEql_self W (payO (wv - 10) gt)
            clear hset hc5 hbU hB hro hr0 KA
            go_simp
            refine hK _ _ ?_
            clear hK K
            rw [show (#[true, true, true, false, false, false, false, false, false, false, false, false, false, false, false, false, false, false, false, false, false, false, false, false, false, false, false] : Array Bool).setIfInBounds 3 true = #[true, true, true, true, false, false, false, false, false, false, false, false, false, false, false, false, false, false, false, false, false, false, false, false, false, false, false] from rfl]
            refine wpAny_lexrest 4 (l2 := ?rL31) ?rE31 (by kernel_rfl) (by kernel_rfl) ?rB31 ?_
            case rE31 => simp only [List.drop_succ_cons, List.drop_zero]; rfl
            case rB31 => as_aux_lemma => kernel_rfl
            repeat (first | go_big_quiet_skip | (go_big_quiet_want; first | ((first
                          | (refine quiet_eql 81 (.tmp 207) (.tmp 212) rfl #[.int .i64 1, .int .u64 ((wv - 10 : Nat) : Int), .string gt, .string ByteArray.empty, .int .i64 0, .string ByteArray.empty, .int .u64 0, .int .i64 0, .string ByteArray.empty] #[.int .i64 1, .int .u64 ((wv - 10 : Nat) : Int), .string gt, .string ByteArray.empty, .int .i64 0, .string ByteArray.empty, .int .u64 0, .int .i64 0, .string ByteArray.empty] (by rfl) (by rfl) true (fun W => ouGuardE W _ _ _ _) kq ?_; go_simp)
                          | (refine quiet_load_row 81 (.tmp 206) rfl ob oo (payO (wv - 10) gt).cl HRW.out #[.int .i64 1, .int .u64 ((wv - 10 : Nat) : Int), .string gt, .string ByteArray.empty, .int .i64 0, .string ByteArray.empty, .int .u64 0, .int .i64 0, .string ByteArray.empty] (by rfl) (by rfl) Tryz.underlying81 infoOu9 ?_; go_simp)); go_big_quiet_on) | (go_big_quiet_op; first | go_big_quiet_on | go_big_quiet_call ((first
                          | (go_at_call 27; with_reducible exact Calls.rg_same' fun W hW => (KRG W hW).out)
                          | (go_at_call 28; with_reducible exact Calls.rg fun W _ => fixed18_any W))))))
            refine wpQuiet_nil ?_
            intro Z hp
            have hbZ := bel_regrown hp
            clear hp
            go_wp2_with fail
            go_ret
            exact ⟨rfl, HB5.out.trans (hbZ.mono HB5.out.size)⟩
          · have d1 : decide ((10 : Int) < (wv : Int)) = false := decide_eq_false (by omega)
            have d1' : decide ((wv : Int) > 10) = false := d1
            have d1n : decide (10 < wv) = false := decide_eq_false h10
            have d1x : decide (wv > 10) = false := d1n
            have HBE : Hid (buildE s = 11) := Lib.hid (by
              have h1 := HSR.out
              have h2 := HOK.out
              rw [HTT.out] at h1 h2
              rw [HLS.out.build HLK.out h1 h2, if_neg (by rw [HWV.out]; omega)])
            have KM := fun W kv (h : Below V1.heap.size V1 W) => Lib.hid (mmake_no s kv W HLS.out.inv.good.fit (H15.out.bel h).mem (Nat.le_trans HLS.out.inv.tops (by decide)) (by rw [HBE.out]; decide))
            rw [HBE.out] at KM
            clear HBE h10
            go_wp2_with (refine wpList_load_blk rfl 103 (.tmp 15) rfl a15 0 20 H15.out.blk s.cs (by rfl) (st_ext _) Tryz.underlying103 infoSta (st_le _) ?_)
            refine (KM _ _ (Below.refl _ _)).out.mono ?_
            rintro e V2 ⟨rfl, hb⟩
            replace HV := Lib.hid (HV.out.go hb)
            clear hb KM H15
            go_upto_region 27 with (refine wpList_store_part rfl 53 (.tmp 29) (.tmp 170) rfl V2.heap.size 0 (cs := zTx) (Blk.new _ _ _) zTx zTx (by rfl) (by rfl) (Nat.le_refl 6) infoTx zTx_one (txn_over zT rfl) ?_; intro W4 hb1 hc1; have hb := bel_st' hc1; have HVn := Lib.hid (HV.out.go hb); clear hb1 hc1 hb)
            go_wp2_with fail
            refine (fixed18_any _).mono ?_
            rintro e V5 ⟨rfl, hb⟩
            go_wp2_with fail
            go_ret
            exact ⟨rfl, HVn.out.bel.trans (hb.mono HVn.out.bel.size)⟩
end Go.Proofs.YtjcinncphffgaaaGreat
