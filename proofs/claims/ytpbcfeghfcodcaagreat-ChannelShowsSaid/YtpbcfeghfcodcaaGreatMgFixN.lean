/- law17's fixed: the walk. law17: what any calls keep. -/
import Derived.Outline
import Derived.Deep.RegionHeld3
import Derived.Deep.DeepCutAuto
import Derived.Deep.CutBlock
import Derived.Test.YtpbcfeghfcodcaaGreatMgCt
import Derived.Test.YtpbcfeghfcodcaaGreatMgCtE
import Derived.Test.YtpbcfeghfcodcaaGreatMgFix
import Derived.Test.YtpbcfeghfcodcaaGreatMgNote
import Derived.Test.YtpbcfeghfcodcaaGreatMgOpen17
set_option linter.unusedVariables false
set_option linter.unusedSimpArgs false
namespace Go.Proofs.YtpbcfeghfcodcaaGreat
open Go.RowKit Go.Maps
theorem new_e0_any (W : World) : Calls Tryz.prog 21 #[.agg e0C.cs] W fun e' w' => e' = .returned (.tuple #[.agg s0C.cs, .int .i64 0]) ∧ Below W.heap.size W w' := by
  have h := xnew_any e0C W true (fx_fits e0C fits_e0)
  rw [if_pos new_e0, if_pos new_e0] at h
  exact h
theorem new_e1_any (W : World) : Calls Tryz.prog 21 #[.agg e1C.cs] W fun e' w' => e' = .returned (.tuple #[.agg zSt, .int .i64 1]) ∧ Below W.heap.size W w' := by
  have h := xnew_any e1C W true (fx_fits e1C fits_e1)
  rw [if_neg (by rw [new_e1]; decide), if_neg (by rw [new_e1]; decide)] at h
  exact h
set_option maxRecDepth 100000 in
set_option maxHeartbeats 20000000 in
theorem fixed17_any (w0 : World) : Calls Tryz.prog 9 #[] w0 fun e w' => e = .returned (.bool true) ∧ Below w0.heap.size w0 w' := by
  have HNEW := fun W => Lib.hid (mnew_any sdC 1 W (by decide) (by decide))
  have HLCK := fun W => Lib.hid (locked_any rC rC 100 20 9 W lkOk_C)
  rw [lkT_C] at HLCK
  go_enter Tryz.func9, Tryz.ntmps9
  go_wp2_with fail
  refine (HNEW _).out.mono ?_
  rintro e W1 ⟨kb, kc, rfl, hkb, hkc, hk, hb⟩
  have HK := Lib.hid hk
  have HB := Lib.hid hb
  have HZK : Hid (w0.heap.size ≤ kc) := Lib.hid hkc
  clear hk hb HNEW hkb hkc
  go_wp2_with fail
  refine (kroot_any kb kc sdC 1 0 _ HK.out).mono ?_
  rintro e W2 ⟨rfl, rfl⟩
  go_wp2_with fail
  refine (kroot_any kb kc sdC 1 0 _ HK.out).mono ?_
  rintro e W2 ⟨rfl, rfl⟩
  rw [show rootB sdC 1 = rC from rfl]
  go_wp2_with fail
  refine (HLCK _).out.mono ?_
  rintro e W2 ⟨sb, b, A, c, rfl, _, _, _, hsl, hb⟩
  replace HK := Lib.hid (HK.out.bel hb)
  replace HB := Lib.hid (HB.out.trans (hb.mono HB.out.size))
  obtain ⟨ab, off, rfl, hlt, h0⟩ := hsl (by simp)
  have HE0 : Hid (∀ j u, e0C.cl[j]? = some u → W2.cell? ⟨ab, off + j, none⟩ = some u) := Lib.hid (fun j u hu => by have := h0 0 e0C rfl j u hu; simpa using this)
  have HE1 : Hid (∀ j u, e1C.cl[j]? = some u → W2.cell? ⟨ab, off + 11 + j, none⟩ = some u) := Lib.hid (fun j u hu => by have := h0 1 e1C rfl j u hu; simpa using this)
  have HLT := Lib.hid hlt
  clear hsl hb HLCK h0 hlt
  go_wp2_with (refine wpList_load_en rfl (.tmp 63) rfl ab off (by rfl) e0C HE0.out ?_)
  refine (new_e0_any _).mono ?_
  rintro e V5 ⟨rfl, hb5⟩
  have HV5 := Lib.hid hb5
  clear hb5
  go_wp2_with (first
    | (refine wpList_store_part rfl 35 (.tmp 5) (.tmp 66) rfl V5.heap.size 0 (cs := zSt) (Blk.new _ _ _) s0C.cs s0C.cs (by rfl) (by rfl) (Nat.le_refl 20) infoSta (stcs_one _) (st_over _ rfl) ?_; intro W5 hb1 hc1; have hb := bel_st' hc1; have HF : Hid (Fx w0 kb kc ab off V5.heap.size W5) := Lib.hid ⟨(HK.out.bel HV5.out).bel hb, ⟨hb1, 0, newS_ls _ _ _⟩, fun j u hu => (hb.cell (p := ⟨ab, off + j, none⟩) (Nat.lt_of_lt_of_le HLT.out HV5.out.size)).trans ((HV5.out.cell (p := ⟨ab, off + j, none⟩) HLT.out).trans (HE0.out j u hu)), fun j u hu => (hb.cell (p := ⟨ab, off + 11 + j, none⟩) (Nat.lt_of_lt_of_le HLT.out HV5.out.size)).trans ((HV5.out.cell (p := ⟨ab, off + 11 + j, none⟩) HLT.out).trans (HE1.out j u hu)), Nat.lt_of_lt_of_le HLT.out (Nat.le_trans HV5.out.size hb.size), (HB.out.trans (HV5.out.mono HB.out.size)).trans (hb.mono (Nat.le_trans HB.out.size HV5.out.size)), HZK.out⟩; clear hb1 hc1 hb)
    | (refine wpList_load_en rfl (.tmp 70) rfl ab (off + 11) (by rfl) e1C HF.out.e1 ?_))
  refine (new_e1_any _).mono ?_
  rintro e V7 ⟨rfl, hb7⟩
  replace HF := Lib.hid (HF.out.bel' hb7)
  clear hb7 HV5 HE0 HE1 HLT HB HK HZK
  generalize V5.heap.size = a5 at HF ⊢
  go_upto_region 9 with (refine wpList_store_part rfl 35 (.tmp 7) (.tmp 73) rfl V7.heap.size 0 (cs := zSt) (Blk.new _ _ _) zSt zSt (by rfl) (by rfl) (Nat.le_refl 20) infoSta zStO (zStV rfl) ?_; intro W7 hb1 hc1; have hb := bel_st' hc1; replace HF := Lib.hid (HF.out.bel' hb); clear hb1 hc1 hb)
  have HSC := Lib.hid HF.out.s0
  go_cut [9, 10] from 75 to 82 (fun u9 u10 wx => ∃ (a9 : Nat) (A : Option Addr) (c : Nat) (B : Option Addr) (d : Nat), u9 = .pointer (some ⟨a9, 0, none⟩) ∧ u10 = .int .i64 0 ∧ Hid (Fx w0 kb kc ab off a5 wx) ∧ Hid (StB wx a9 (t0C.lists A c B d)))
  case first =>
    refine wp_region_held_drew (S := fun W => Hid (Fx w0 kb kc ab off a5 W ∧ StB W a5 s0C)) (by kernel_rfl) (Lib.hid ⟨HF.out.bel' (Below.refl _ _).drew, HSC.out.bel (Below.refl _ _).drew⟩) (fun hS => ?_)
    refine wpAnyH_genT fun X hX => ?_
    rw [← hX] at hS
    clear hX HF HSC
    refine wpAnyH_take (i := 0) (v := .agg (St.cs s0C)) rfl (by kernel_rfl) (by kernel_rfl) (by kernel_rfl) (fun _ _ _ h => h) (yields_blk (by rfl) 35 (.tmp 5) (by rfl) a5 0 20 (t := 35) (cs := St.cs s0C) (fun W h => h.out.2.blk) (St.cs s0C) (by rfl) (st_ext _) Tryz.underlying35 infoSta (st_le _)) hS ?_
    refine wpAnyH_take (i := 1) (v := ?_) rfl (by kernel_rfl) (by kernel_rfl) (by kernel_rfl) (fun _ _ _ h => h) (Or.inl ⟨by rfl, ?_⟩) hS ?_
    rotate_left
    · (intro w _; go_simp; try with_reducible rfl)
    refine wpAnyH_take (i := 2) (v := ?_) rfl (by kernel_rfl) (by kernel_rfl) (by kernel_rfl) (fun _ _ _ h => h) (Or.inl ⟨by rfl, ?_⟩) hS ?_
    rotate_left
    · (intro w _; go_simp; try with_reducible rfl)
    refine wpAnyH_take (i := 3) (v := .agg e1C.cs) rfl (by kernel_rfl) (by kernel_rfl) (by kernel_rfl) (fun _ _ _ h => h) (yields_en (by rfl) (.tmp 78) (by rfl) ab (off + 11) e1C (fun W h => by first | exact h.out.1.e0 | exact h.out.1.e1) (by rfl)) hS ?_
    refine wpAnyH_ready (rs := [4, 8]) (by kernel_rfl) (by simp) (AllReadyH.cons rfl (fun K hK => ?_) (AllReadyH.cons rfl (fun K hK => ?_) AllReadyH.nil))
    · go_simp
      (refine (fx_more1 _).mono ?_; rintro e V ⟨A1, c1, B1, d1, rfl, hm, hb⟩; have HM := Lib.hid hm; clear hm)
      have hS1 := Lib.hid (And.intro (hS.out.1.bel' hb) (hS.out.2.bel hb))
      go_simp
      refine hK.out _ _ hS1 (fun _ => ?_)
      clear hK K
      refine wpAnyH_take (i := 5) (v := ?_) rfl (by kernel_rfl) (by kernel_rfl) (by kernel_rfl) (fun _ _ _ h => h) (Or.inl ⟨by rfl, ?_⟩) hS1 ?_
      rotate_left
      · (intro w _; go_simp; try with_reducible rfl)
      refine wpAnyH_take (i := 6) (v := ?_) rfl (by kernel_rfl) (by kernel_rfl) (by kernel_rfl) (fun _ _ _ h => h) (Or.inl ⟨by rfl, ?_⟩) hS1 ?_
      rotate_left
      · (intro w _; go_simp; try with_reducible rfl)
      refine wpAnyH_take (i := 7) (v := ?_) rfl (by kernel_rfl) (by kernel_rfl) (by kernel_rfl) (fun _ _ _ h => h) (Or.inl ⟨by rfl, ?_⟩) hS1 ?_
      rotate_left
      · (intro w _; go_simp; try with_reducible rfl)
      refine wpAnyH_ready (rs := [8]) (by kernel_rfl) (by simp) (AllReadyH.cons rfl (fun K hK => ?_) AllReadyH.nil)
      go_simp
      have hba : Below V.heap.size V (V.alloc (.cells zSt 35)) := (Below.refl _ _).alloc (Nat.le_refl _) _
      refine hK.out _ _ (Lib.hid (And.intro (hS1.out.1.bel' hba) (hS1.out.2.bel hba))) (fun _ => ?_)
      clear hK K
      refine wpAnyH_ready (rs := [9]) (by kernel_rfl) (by simp) (AllReadyH.cons rfl (fun K hK => ?_) AllReadyH.nil)
      refine step_store_part (by rfl) 35 (.tmp 9) (.tmp 81) (by rfl) V.heap.size 0 (Blk.new V _ _) (t0C.lists A1 c1 B1 d1).cs (t0C.lists A1 c1 B1 d1).cs (by rfl) (by rfl) (Nat.le_refl 20) infoSta (stcs_one _) (st_over _ rfl) ?_
      intro Y hb1 hc1
      have hbs := bel_st' hc1
      have hS2 := Lib.hid (And.intro (hS1.out.1.bel' hbs) (hS1.out.2.bel hbs))
      refine hK.out _ _ hS2 (fun _ => ?_)
      clear hK K
      refine wpAnyH_take (i := 10) (v := ?_) rfl (by kernel_rfl) (by kernel_rfl) (by kernel_rfl) (fun _ _ _ h => h) (Or.inl ⟨by rfl, ?_⟩) hS2 ?_
      rotate_left
      · (intro w _; go_simp; try with_reducible rfl)
      refine wpAnyH_done (by kernel_rfl) ?_ _
      try go_simp
      try go_wp2_with fail
      go_meet
      exact ⟨_, A1, c1, B1, d1, rfl, rfl, Lib.hid hS2.out.1, Lib.hid (StB.mk_ hb1 (by first | exact HM.out.bel hbs | exact HM.out.ch hc1 hkd))⟩
    · go_simp
      have hba : Below X.heap.size X (X.alloc (.cells zSt 35)) := (Below.refl _ _).alloc (Nat.le_refl _) _
      have hS0 := Lib.hid (And.intro (hS.out.1.bel' hba) (hS.out.2.bel hba))
      refine hK.out _ _ hS0 (fun _ => ?_)
      clear hK K
      have hZN : Blk (X.alloc (.cells zSt 35)) X.heap.size 35 zSt := Blk.new _ _ _
      refine wpAnyH_genT fun X1 hX1 => ?_
      replace hX1 : X1 = X.alloc (.cells zSt 35) := hX1
      rw [← hX1] at hba hS0 hZN
      clear hX1
      refine wpAnyH_ready (rs := [4]) (by kernel_rfl) (by simp) (AllReadyH.cons rfl (fun K hK => ?_) AllReadyH.nil)
      go_simp
      (refine (fx_more1 _).mono ?_; rintro e V ⟨A1, c1, B1, d1, rfl, hm, hb⟩; have HM := Lib.hid hm; clear hm)
      have hS1 := Lib.hid (And.intro (hS0.out.1.bel' hb) (hS0.out.2.bel hb))
      have HZN := Lib.hid (hZN.bel hb)
      have hkd := HZN.out.kdT
      have hbx : Below X.heap.size X V := hba.trans (hb.mono hba.size)
      clear hZN hba
      go_simp
      refine hK.out _ _ hS1 (fun _ => ?_)
      clear hK K
      refine wpAnyH_take (i := 5) (v := ?_) rfl (by kernel_rfl) (by kernel_rfl) (by kernel_rfl) (fun _ _ _ h => h) (Or.inl ⟨by rfl, ?_⟩) hS1 ?_
      rotate_left
      · (intro w _; go_simp; try with_reducible rfl)
      refine wpAnyH_take (i := 6) (v := ?_) rfl (by kernel_rfl) (by kernel_rfl) (by kernel_rfl) (fun _ _ _ h => h) (Or.inl ⟨by rfl, ?_⟩) hS1 ?_
      rotate_left
      · (intro w _; go_simp; try with_reducible rfl)
      refine wpAnyH_take (i := 7) (v := ?_) rfl (by kernel_rfl) (by kernel_rfl) (by kernel_rfl) (fun _ _ _ h => h) (Or.inl ⟨by rfl, ?_⟩) hS1 ?_
      rotate_left
      · (intro w _; go_simp; try with_reducible rfl)
      refine wpAnyH_ready (rs := [9]) (by kernel_rfl) (by simp) (AllReadyH.cons rfl (fun K hK => ?_) AllReadyH.nil)
      refine step_store_part (by rfl) 35 (.tmp 9) (.tmp 81) (by rfl) X.heap.size 0 HZN.out (t0C.lists A1 c1 B1 d1).cs (t0C.lists A1 c1 B1 d1).cs (by rfl) (by rfl) (Nat.le_refl 20) infoSta (stcs_one _) (st_over _ rfl) ?_
      intro Y hb1 hc1
      have hby : Below X.heap.size X Y := hbx.trans (hc1.below hbx.size (by simp))
      have hS2 := Lib.hid (And.intro (hS.out.1.bel' hby) (hS.out.2.bel hby))
      refine hK.out _ _ hS2 (fun _ => ?_)
      clear hK K
      refine wpAnyH_take (i := 10) (v := ?_) rfl (by kernel_rfl) (by kernel_rfl) (by kernel_rfl) (fun _ _ _ h => h) (Or.inl ⟨by rfl, ?_⟩) hS2 ?_
      rotate_left
      · (intro w _; go_simp; try with_reducible rfl)
      refine wpAnyH_done (by kernel_rfl) ?_ _
      try go_simp
      try go_wp2_with fail
      go_meet
      exact ⟨_, A1, c1, B1, d1, rfl, rfl, Lib.hid hS2.out.1, Lib.hid (StB.mk_ hb1 (by first | exact HM.out.bel hbs | exact HM.out.ch hc1 hkd))⟩
  case rest =>
    clear HF HSC
    obtain ⟨a9, A9, c9, B9, d9, rfl, rfl, HF, H9⟩ := hcut
    have HSC := H9
    go_upto_region 10 with fail
    go_cut [11, 12] from 83 to 90 (fun u11 u12 wx => ∃ (a11 : Nat), u11 = .pointer (some ⟨a11, 0, none⟩) ∧ u12 = .int .i64 7 ∧ Hid (Fx w0 kb kc ab off a5 wx) ∧ Hid (StB wx a9 (t0C.lists A9 c9 B9 d9)))
    case first =>
      refine wp_region_held_drew (S := fun W => Hid (Fx w0 kb kc ab off a5 W ∧ StB W a9 (t0C.lists A9 c9 B9 d9))) (by kernel_rfl) (Lib.hid ⟨HF.out.bel' (Below.refl _ _).drew, HSC.out.bel (Below.refl _ _).drew⟩) (fun hS => ?_)
      refine wpAnyH_genT fun X hX => ?_
      rw [← hX] at hS
      clear hX HF HSC
      refine wpAnyH_take (i := 0) (v := .agg (St.cs (t0C.lists A9 c9 B9 d9))) rfl (by kernel_rfl) (by kernel_rfl) (by kernel_rfl) (fun _ _ _ h => h) (yields_blk (by rfl) 35 (.tmp 9) (by rfl) a9 0 20 (t := 35) (cs := St.cs (t0C.lists A9 c9 B9 d9)) (fun W h => h.out.2.blk) (St.cs (t0C.lists A9 c9 B9 d9)) (by rfl) (st_ext _) Tryz.underlying35 infoSta (st_le _)) hS ?_
      refine wpAnyH_take (i := 1) (v := ?_) rfl (by kernel_rfl) (by kernel_rfl) (by kernel_rfl) (fun _ _ _ h => h) (Or.inl ⟨by rfl, ?_⟩) hS ?_
      rotate_left
      · (intro w _; go_simp; try with_reducible rfl)
      refine wpAnyH_take (i := 2) (v := ?_) rfl (by kernel_rfl) (by kernel_rfl) (by kernel_rfl) (fun _ _ _ h => h) (Or.inl ⟨by rfl, ?_⟩) hS ?_
      rotate_left
      · (intro w _; go_simp; try with_reducible rfl)
      refine wpAnyH_take (i := 3) (v := .agg e1C.cs) rfl (by kernel_rfl) (by kernel_rfl) (by kernel_rfl) (fun _ _ _ h => h) (yields_en (by rfl) (.tmp 86) (by rfl) ab (off + 11) e1C (fun W h => by first | exact h.out.1.e0 | exact h.out.1.e1) (by rfl)) hS ?_
      refine wpAnyH_ready (rs := [4, 8]) (by kernel_rfl) (by simp) (AllReadyH.cons rfl (fun K hK => ?_) (AllReadyH.cons rfl (fun K hK => ?_) AllReadyH.nil))
      · go_simp
        (refine (fx_more2 A9 c9 B9 d9 _ (by first | exact hS0.out.2.mem | exact hS.out.2.mem)).mono ?_; rintro e V ⟨rfl, hb⟩)
        have hS1 := Lib.hid (And.intro (hS.out.1.bel' hb) (hS.out.2.bel hb))
        go_simp
        refine hK.out _ _ hS1 (fun _ => ?_)
        clear hK K
        refine wpAnyH_take (i := 5) (v := ?_) rfl (by kernel_rfl) (by kernel_rfl) (by kernel_rfl) (fun _ _ _ h => h) (Or.inl ⟨by rfl, ?_⟩) hS1 ?_
        rotate_left
        · (intro w _; go_simp; try with_reducible rfl)
        refine wpAnyH_take (i := 6) (v := ?_) rfl (by kernel_rfl) (by kernel_rfl) (by kernel_rfl) (fun _ _ _ h => h) (Or.inl ⟨by rfl, ?_⟩) hS1 ?_
        rotate_left
        · (intro w _; go_simp; try with_reducible rfl)
        refine wpAnyH_take (i := 7) (v := ?_) rfl (by kernel_rfl) (by kernel_rfl) (by kernel_rfl) (fun _ _ _ h => h) (Or.inl ⟨by rfl, ?_⟩) hS1 ?_
        rotate_left
        · (intro w _; go_simp; try with_reducible rfl)
        refine wpAnyH_ready (rs := [8]) (by kernel_rfl) (by simp) (AllReadyH.cons rfl (fun K hK => ?_) AllReadyH.nil)
        go_simp
        have hba : Below V.heap.size V (V.alloc (.cells zSt 35)) := (Below.refl _ _).alloc (Nat.le_refl _) _
        refine hK.out _ _ (Lib.hid (And.intro (hS1.out.1.bel' hba) (hS1.out.2.bel hba))) (fun _ => ?_)
        clear hK K
        refine wpAnyH_ready (rs := [9]) (by kernel_rfl) (by simp) (AllReadyH.cons rfl (fun K hK => ?_) AllReadyH.nil)
        refine step_store_part (by rfl) 35 (.tmp 11) (.tmp 89) (by rfl) V.heap.size 0 (Blk.new V _ _) zSt zSt (by rfl) (by rfl) (Nat.le_refl 20) infoSta zStO (zStV rfl) ?_
        intro Y hb1 hc1
        have hbs := bel_st' hc1
        have hS2 := Lib.hid (And.intro (hS1.out.1.bel' hbs) (hS1.out.2.bel hbs))
        refine hK.out _ _ hS2 (fun _ => ?_)
        clear hK K
        refine wpAnyH_take (i := 10) (v := ?_) rfl (by kernel_rfl) (by kernel_rfl) (by kernel_rfl) (fun _ _ _ h => h) (Or.inl ⟨by rfl, ?_⟩) hS2 ?_
        rotate_left
        · (intro w _; go_simp; try with_reducible rfl)
        refine wpAnyH_done (by kernel_rfl) ?_ _
        try go_simp
        try go_wp2_with fail
        go_meet
        exact ⟨_, rfl, rfl, Lib.hid hS2.out.1, Lib.hid hS2.out.2⟩
      · go_simp
        have hba : Below X.heap.size X (X.alloc (.cells zSt 35)) := (Below.refl _ _).alloc (Nat.le_refl _) _
        have hS0 := Lib.hid (And.intro (hS.out.1.bel' hba) (hS.out.2.bel hba))
        refine hK.out _ _ hS0 (fun _ => ?_)
        clear hK K
        have hZN : Blk (X.alloc (.cells zSt 35)) X.heap.size 35 zSt := Blk.new _ _ _
        refine wpAnyH_genT fun X1 hX1 => ?_
        replace hX1 : X1 = X.alloc (.cells zSt 35) := hX1
        rw [← hX1] at hba hS0 hZN
        clear hX1
        refine wpAnyH_ready (rs := [4]) (by kernel_rfl) (by simp) (AllReadyH.cons rfl (fun K hK => ?_) AllReadyH.nil)
        go_simp
        (refine (fx_more2 A9 c9 B9 d9 _ (by first | exact hS0.out.2.mem | exact hS.out.2.mem)).mono ?_; rintro e V ⟨rfl, hb⟩)
        have hS1 := Lib.hid (And.intro (hS0.out.1.bel' hb) (hS0.out.2.bel hb))
        have HZN := Lib.hid (hZN.bel hb)
        have hkd := HZN.out.kdT
        have hbx : Below X.heap.size X V := hba.trans (hb.mono hba.size)
        clear hZN hba
        go_simp
        refine hK.out _ _ hS1 (fun _ => ?_)
        clear hK K
        refine wpAnyH_take (i := 5) (v := ?_) rfl (by kernel_rfl) (by kernel_rfl) (by kernel_rfl) (fun _ _ _ h => h) (Or.inl ⟨by rfl, ?_⟩) hS1 ?_
        rotate_left
        · (intro w _; go_simp; try with_reducible rfl)
        refine wpAnyH_take (i := 6) (v := ?_) rfl (by kernel_rfl) (by kernel_rfl) (by kernel_rfl) (fun _ _ _ h => h) (Or.inl ⟨by rfl, ?_⟩) hS1 ?_
        rotate_left
        · (intro w _; go_simp; try with_reducible rfl)
        refine wpAnyH_take (i := 7) (v := ?_) rfl (by kernel_rfl) (by kernel_rfl) (by kernel_rfl) (fun _ _ _ h => h) (Or.inl ⟨by rfl, ?_⟩) hS1 ?_
        rotate_left
        · (intro w _; go_simp; try with_reducible rfl)
        refine wpAnyH_ready (rs := [9]) (by kernel_rfl) (by simp) (AllReadyH.cons rfl (fun K hK => ?_) AllReadyH.nil)
        refine step_store_part (by rfl) 35 (.tmp 11) (.tmp 89) (by rfl) X.heap.size 0 HZN.out zSt zSt (by rfl) (by rfl) (Nat.le_refl 20) infoSta zStO (zStV rfl) ?_
        intro Y hb1 hc1
        have hby : Below X.heap.size X Y := hbx.trans (hc1.below hbx.size (by simp))
        have hS2 := Lib.hid (And.intro (hS.out.1.bel' hby) (hS.out.2.bel hby))
        refine hK.out _ _ hS2 (fun _ => ?_)
        clear hK K
        refine wpAnyH_take (i := 10) (v := ?_) rfl (by kernel_rfl) (by kernel_rfl) (by kernel_rfl) (fun _ _ _ h => h) (Or.inl ⟨by rfl, ?_⟩) hS2 ?_
        rotate_left
        · (intro w _; go_simp; try with_reducible rfl)
        refine wpAnyH_done (by kernel_rfl) ?_ _
        try go_simp
        try go_wp2_with fail
        go_meet
        exact ⟨_, rfl, rfl, Lib.hid hS2.out.1, Lib.hid hS2.out.2⟩
    case rest =>
      clear HF HSC H9
      obtain ⟨a11, rfl, rfl, HF, H9⟩ := hcut
      have HSC := H9
      go_upto_region 11 with fail
      go_cut [13, 14] from 91 to 98 (fun u13 u14 wx => ∃ (a13 : Nat), u13 = .pointer (some ⟨a13, 0, none⟩) ∧ u14 = .int .i64 13 ∧ Hid (Fx w0 kb kc ab off a5 wx) ∧ Hid (StB wx a9 (t0C.lists A9 c9 B9 d9)))
      case first =>
        refine wp_region_held_drew (S := fun W => Hid (Fx w0 kb kc ab off a5 W ∧ StB W a9 (t0C.lists A9 c9 B9 d9))) (by kernel_rfl) (Lib.hid ⟨HF.out.bel' (Below.refl _ _).drew, HSC.out.bel (Below.refl _ _).drew⟩) (fun hS => ?_)
        refine wpAnyH_genT fun X hX => ?_
        rw [← hX] at hS
        clear hX HF HSC
        refine wpAnyH_take (i := 0) (v := .agg (St.cs s0C)) rfl (by kernel_rfl) (by kernel_rfl) (by kernel_rfl) (fun _ _ _ h => h) (yields_blk (by rfl) 35 (.tmp 5) (by rfl) a5 0 20 (t := 35) (cs := St.cs s0C) (fun W h => h.out.1.s0.blk) (St.cs s0C) (by rfl) (st_ext _) Tryz.underlying35 infoSta (st_le _)) hS ?_
        refine wpAnyH_take (i := 1) (v := ?_) rfl (by kernel_rfl) (by kernel_rfl) (by kernel_rfl) (fun _ _ _ h => h) (Or.inl ⟨by rfl, ?_⟩) hS ?_
        rotate_left
        · (intro w _; go_simp; try with_reducible rfl)
        refine wpAnyH_take (i := 2) (v := ?_) rfl (by kernel_rfl) (by kernel_rfl) (by kernel_rfl) (fun _ _ _ h => h) (Or.inl ⟨by rfl, ?_⟩) hS ?_
        rotate_left
        · (intro w _; go_simp; try with_reducible rfl)
        refine wpAnyH_take (i := 3) (v := .agg e0C.cs) rfl (by kernel_rfl) (by kernel_rfl) (by kernel_rfl) (fun _ _ _ h => h) (yields_en (by rfl) (.tmp 94) (by rfl) ab (off) e0C (fun W h => by first | exact h.out.1.e0 | exact h.out.1.e1) (by rfl)) hS ?_
        refine wpAnyH_ready (rs := [4, 8]) (by kernel_rfl) (by simp) (AllReadyH.cons rfl (fun K hK => ?_) (AllReadyH.cons rfl (fun K hK => ?_) AllReadyH.nil))
        · go_simp
          (refine (fx_more3 _).mono ?_; rintro e V ⟨rfl, hb⟩)
          have hS1 := Lib.hid (And.intro (hS.out.1.bel' hb) (hS.out.2.bel hb))
          go_simp
          refine hK.out _ _ hS1 (fun _ => ?_)
          clear hK K
          refine wpAnyH_take (i := 5) (v := ?_) rfl (by kernel_rfl) (by kernel_rfl) (by kernel_rfl) (fun _ _ _ h => h) (Or.inl ⟨by rfl, ?_⟩) hS1 ?_
          rotate_left
          · (intro w _; go_simp; try with_reducible rfl)
          refine wpAnyH_take (i := 6) (v := ?_) rfl (by kernel_rfl) (by kernel_rfl) (by kernel_rfl) (fun _ _ _ h => h) (Or.inl ⟨by rfl, ?_⟩) hS1 ?_
          rotate_left
          · (intro w _; go_simp; try with_reducible rfl)
          refine wpAnyH_take (i := 7) (v := ?_) rfl (by kernel_rfl) (by kernel_rfl) (by kernel_rfl) (fun _ _ _ h => h) (Or.inl ⟨by rfl, ?_⟩) hS1 ?_
          rotate_left
          · (intro w _; go_simp; try with_reducible rfl)
          refine wpAnyH_ready (rs := [8]) (by kernel_rfl) (by simp) (AllReadyH.cons rfl (fun K hK => ?_) AllReadyH.nil)
          go_simp
          have hba : Below V.heap.size V (V.alloc (.cells zSt 35)) := (Below.refl _ _).alloc (Nat.le_refl _) _
          refine hK.out _ _ (Lib.hid (And.intro (hS1.out.1.bel' hba) (hS1.out.2.bel hba))) (fun _ => ?_)
          clear hK K
          refine wpAnyH_ready (rs := [9]) (by kernel_rfl) (by simp) (AllReadyH.cons rfl (fun K hK => ?_) AllReadyH.nil)
          refine step_store_part (by rfl) 35 (.tmp 13) (.tmp 97) (by rfl) V.heap.size 0 (Blk.new V _ _) zSt zSt (by rfl) (by rfl) (Nat.le_refl 20) infoSta zStO (zStV rfl) ?_
          intro Y hb1 hc1
          have hbs := bel_st' hc1
          have hS2 := Lib.hid (And.intro (hS1.out.1.bel' hbs) (hS1.out.2.bel hbs))
          refine hK.out _ _ hS2 (fun _ => ?_)
          clear hK K
          refine wpAnyH_take (i := 10) (v := ?_) rfl (by kernel_rfl) (by kernel_rfl) (by kernel_rfl) (fun _ _ _ h => h) (Or.inl ⟨by rfl, ?_⟩) hS2 ?_
          rotate_left
          · (intro w _; go_simp; try with_reducible rfl)
          refine wpAnyH_done (by kernel_rfl) ?_ _
          try go_simp
          try go_wp2_with fail
          go_meet
          exact ⟨_, rfl, rfl, Lib.hid hS2.out.1, Lib.hid hS2.out.2⟩
        · go_simp
          have hba : Below X.heap.size X (X.alloc (.cells zSt 35)) := (Below.refl _ _).alloc (Nat.le_refl _) _
          have hS0 := Lib.hid (And.intro (hS.out.1.bel' hba) (hS.out.2.bel hba))
          refine hK.out _ _ hS0 (fun _ => ?_)
          clear hK K
          have hZN : Blk (X.alloc (.cells zSt 35)) X.heap.size 35 zSt := Blk.new _ _ _
          refine wpAnyH_genT fun X1 hX1 => ?_
          replace hX1 : X1 = X.alloc (.cells zSt 35) := hX1
          rw [← hX1] at hba hS0 hZN
          clear hX1
          refine wpAnyH_ready (rs := [4]) (by kernel_rfl) (by simp) (AllReadyH.cons rfl (fun K hK => ?_) AllReadyH.nil)
          go_simp
          (refine (fx_more3 _).mono ?_; rintro e V ⟨rfl, hb⟩)
          have hS1 := Lib.hid (And.intro (hS0.out.1.bel' hb) (hS0.out.2.bel hb))
          have HZN := Lib.hid (hZN.bel hb)
          have hkd := HZN.out.kdT
          have hbx : Below X.heap.size X V := hba.trans (hb.mono hba.size)
          clear hZN hba
          go_simp
          refine hK.out _ _ hS1 (fun _ => ?_)
          clear hK K
          refine wpAnyH_take (i := 5) (v := ?_) rfl (by kernel_rfl) (by kernel_rfl) (by kernel_rfl) (fun _ _ _ h => h) (Or.inl ⟨by rfl, ?_⟩) hS1 ?_
          rotate_left
          · (intro w _; go_simp; try with_reducible rfl)
          refine wpAnyH_take (i := 6) (v := ?_) rfl (by kernel_rfl) (by kernel_rfl) (by kernel_rfl) (fun _ _ _ h => h) (Or.inl ⟨by rfl, ?_⟩) hS1 ?_
          rotate_left
          · (intro w _; go_simp; try with_reducible rfl)
          refine wpAnyH_take (i := 7) (v := ?_) rfl (by kernel_rfl) (by kernel_rfl) (by kernel_rfl) (fun _ _ _ h => h) (Or.inl ⟨by rfl, ?_⟩) hS1 ?_
          rotate_left
          · (intro w _; go_simp; try with_reducible rfl)
          refine wpAnyH_ready (rs := [9]) (by kernel_rfl) (by simp) (AllReadyH.cons rfl (fun K hK => ?_) AllReadyH.nil)
          refine step_store_part (by rfl) 35 (.tmp 13) (.tmp 97) (by rfl) X.heap.size 0 HZN.out zSt zSt (by rfl) (by rfl) (Nat.le_refl 20) infoSta zStO (zStV rfl) ?_
          intro Y hb1 hc1
          have hby : Below X.heap.size X Y := hbx.trans (hc1.below hbx.size (by simp))
          have hS2 := Lib.hid (And.intro (hS.out.1.bel' hby) (hS.out.2.bel hby))
          refine hK.out _ _ hS2 (fun _ => ?_)
          clear hK K
          refine wpAnyH_take (i := 10) (v := ?_) rfl (by kernel_rfl) (by kernel_rfl) (by kernel_rfl) (fun _ _ _ h => h) (Or.inl ⟨by rfl, ?_⟩) hS2 ?_
          rotate_left
          · (intro w _; go_simp; try with_reducible rfl)
          refine wpAnyH_done (by kernel_rfl) ?_ _
          try go_simp
          try go_wp2_with fail
          go_meet
          exact ⟨_, rfl, rfl, Lib.hid hS2.out.1, Lib.hid hS2.out.2⟩
      case rest =>
        clear HF HSC H9
        obtain ⟨a13, rfl, rfl, HF, H9⟩ := hcut
        have p0 : wc.cell? ⟨ab, off, none⟩ = some (.string txC17) := by have := HF.out.e0 0 (.string txC17) rfl; simpa using this
        have p1 : wc.cell? ⟨ab, off + 1, none⟩ = some (.int .i64 0) := by have := HF.out.e0 1 (.int .i64 0) rfl; simpa using this
        go_wp2_with fail
        refine (cname_gen txC17 0 _ (by rw [show txC17.size = 16 from lkx_size _ _ _ _ _]; decide)).mono ?_
        rintro e V12 ⟨rfl, hb⟩
        rw [show nameO txC17 0 = chC from rfl]
        replace HF := Lib.hid (HF.out.bel' hb)
        replace H9 := Lib.hid (H9.out.bel hb)
        clear p0 p1 hb
        go_wp2_with fail
        refine (voucher_any chC 110 _ (by rw [chC_size]; decide) (by decide)).mono ?_
        rintro e V13 ⟨rfl, hb⟩
        replace HF := Lib.hid (HF.out.bel' hb)
        replace H9 := Lib.hid (H9.out.bel hb)
        clear hb
        go_wp2_with fail
        refine (ksign_ok kb kc sdC (vouchB chC 110) 1 0 _ (by decide) (by decide) (by decide) (by rw [vouchB_size, chC_size]; decide) HF.out.key).mono ?_
        rintro e V13b ⟨rfl, _, hc⟩
        rw [show signB sdC 1 0 (vouchB chC 110) = sgC from rfl]
        obtain ⟨vl, k1, k2, k3⟩ := HF.out.key
        have H5 := Lib.hid (HF.out.s0.ch hc k2 (by decide) (by decide) (by decide))
        replace H9 := Lib.hid (H9.out.ch hc k2 (by decide) (by decide) (by decide))
        have HB : Hid (Below w0.heap.size w0 V13b) := Lib.hid (HF.out.bel.trans (hc.below HF.out.bel.size (by simp; exact HF.out.kc)))
        clear hc k1 k2 k3 HF vl
        go_wp2_with (refine wpList_load_blk rfl 35 (.tmp 9) rfl a9 0 20 H9.out.blk (t0C.lists A9 c9 B9 d9).cs (by rfl) (st_ext _) Tryz.underlying35 infoSta (st_le _) ?_)
        refine (fx_vou1 A9 c9 B9 d9 _ H9.out.mem).mono ?_
        rintro e V14 ⟨A18, c18, B18, d18, rfl, hl, hb⟩
        have HL18 := Lib.hid hl
        (replace HB := Lib.hid (HB.out.trans (Below.mono hb HB.out.size)); replace H5 := Lib.hid (H5.out.bel hb); replace H9 := Lib.hid (H9.out.bel hb); (try (replace H18 := Lib.hid (H18.out.bel hb))); (try (replace H30 := Lib.hid (H30.out.bel hb))); (try (replace H36 := Lib.hid (H36.out.bel hb))); (try (replace HCH := Lib.hid (HCH.out.bel hb))))
        clear hb hl
        go_wp2_with (first
          | (refine wpList_store_part rfl 35 (.tmp 18) (.tmp 115) rfl V14.heap.size 0 (cs := zSt) (Blk.new _ _ _) (a0C.lists A18 c18 B18 d18).cs (a0C.lists A18 c18 B18 d18).cs (by rfl) (by rfl) (Nat.le_refl 20) infoSta (stcs_one _) (st_over _ rfl) ?_; intro W14 hb1 hc1; have hb := bel_st' hc1; (replace HB := Lib.hid (HB.out.trans (Below.mono hb HB.out.size)); replace H5 := Lib.hid (H5.out.bel hb); replace H9 := Lib.hid (H9.out.bel hb); (try (replace H18 := Lib.hid (H18.out.bel hb))); (try (replace H30 := Lib.hid (H30.out.bel hb))); (try (replace H36 := Lib.hid (H36.out.bel hb))); (try (replace HCH := Lib.hid (HCH.out.bel hb)))); have H18 : Hid (StB W14 V14.heap.size (a0C.lists A18 c18 B18 d18)) := Lib.hid (StB.mk_ hb1 (HL18.out.bel hb)); clear hb1 hc1 hb)
          | (refine wpList_load_blk rfl 35 (.tmp 9) rfl a9 0 20 H9.out.blk (t0C.lists A9 c9 B9 d9).cs (by rfl) (st_ext _) Tryz.underlying35 infoSta (st_le _) ?_))
        clear HL18
        generalize V14.heap.size = a18 at H18 ⊢
        refine (fx_vou2 A9 c9 B9 d9 _ H9.out.mem).mono ?_
        rintro e V15 ⟨rfl, hb⟩
        (replace HB := Lib.hid (HB.out.trans (Below.mono hb HB.out.size)); replace H5 := Lib.hid (H5.out.bel hb); replace H9 := Lib.hid (H9.out.bel hb); (try (replace H18 := Lib.hid (H18.out.bel hb))); (try (replace H30 := Lib.hid (H30.out.bel hb))); (try (replace H36 := Lib.hid (H36.out.bel hb))); (try (replace HCH := Lib.hid (HCH.out.bel hb))))
        clear hb
        go_wp2_with (first
          | (refine wpList_store_part rfl 35 (.tmp 20) (.tmp 121) rfl V15.heap.size 0 (cs := zSt) (Blk.new _ _ _) zSt zSt (by rfl) (by rfl) (Nat.le_refl 20) infoSta zStO (zStV rfl) ?_; intro W15 hb1 hc1; have hb := bel_st' hc1; (replace HB := Lib.hid (HB.out.trans (Below.mono hb HB.out.size)); replace H5 := Lib.hid (H5.out.bel hb); replace H9 := Lib.hid (H9.out.bel hb); (try (replace H18 := Lib.hid (H18.out.bel hb))); (try (replace H30 := Lib.hid (H30.out.bel hb))); (try (replace H36 := Lib.hid (H36.out.bel hb))); (try (replace HCH := Lib.hid (HCH.out.bel hb)))); clear hb1 hc1 hb)
          | (refine wpList_load_blk rfl 35 (.tmp 18) rfl a18 0 20 H18.out.blk (a0C.lists A18 c18 B18 d18).cs (by rfl) (st_ext _) Tryz.underlying35 infoSta (st_le _) ?_))
        refine (fx_vou3 A18 c18 B18 d18 _ H18.out.mem).mono ?_
        rintro e V16 ⟨rfl, hb⟩
        (replace HB := Lib.hid (HB.out.trans (Below.mono hb HB.out.size)); replace H5 := Lib.hid (H5.out.bel hb); replace H9 := Lib.hid (H9.out.bel hb); (try (replace H18 := Lib.hid (H18.out.bel hb))); (try (replace H30 := Lib.hid (H30.out.bel hb))); (try (replace H36 := Lib.hid (H36.out.bel hb))); (try (replace HCH := Lib.hid (HCH.out.bel hb))))
        clear hb
        go_wp2_with (first
          | (refine wpList_store_part rfl 35 (.tmp 22) (.tmp 127) rfl V16.heap.size 0 (cs := zSt) (Blk.new _ _ _) zSt zSt (by rfl) (by rfl) (Nat.le_refl 20) infoSta zStO (zStV rfl) ?_; intro W16 hb1 hc1; have hb := bel_st' hc1; (replace HB := Lib.hid (HB.out.trans (Below.mono hb HB.out.size)); replace H5 := Lib.hid (H5.out.bel hb); replace H9 := Lib.hid (H9.out.bel hb); (try (replace H18 := Lib.hid (H18.out.bel hb))); (try (replace H30 := Lib.hid (H30.out.bel hb))); (try (replace H36 := Lib.hid (H36.out.bel hb))); (try (replace HCH := Lib.hid (HCH.out.bel hb)))); clear hb1 hc1 hb)
          | (refine wpList_load_blk rfl 35 (.tmp 9) rfl a9 0 20 H9.out.blk (t0C.lists A9 c9 B9 d9).cs (by rfl) (st_ext _) Tryz.underlying35 infoSta (st_le _) ?_))
        refine (fx_vou4 A9 c9 B9 d9 _ H9.out.mem).mono ?_
        rintro e V17 ⟨rfl, hb⟩
        (replace HB := Lib.hid (HB.out.trans (Below.mono hb HB.out.size)); replace H5 := Lib.hid (H5.out.bel hb); replace H9 := Lib.hid (H9.out.bel hb); (try (replace H18 := Lib.hid (H18.out.bel hb))); (try (replace H30 := Lib.hid (H30.out.bel hb))); (try (replace H36 := Lib.hid (H36.out.bel hb))); (try (replace HCH := Lib.hid (HCH.out.bel hb))))
        clear hb
        go_wp2_with (refine wpList_store_part rfl 35 (.tmp 24) (.tmp 133) rfl V17.heap.size 0 (cs := zSt) (Blk.new _ _ _) zSt zSt (by rfl) (by rfl) (Nat.le_refl 20) infoSta zStO (zStV rfl) ?_; intro W17 hb1 hc1; have hb := bel_st' hc1; (replace HB := Lib.hid (HB.out.trans (Below.mono hb HB.out.size)); replace H5 := Lib.hid (H5.out.bel hb); replace H9 := Lib.hid (H9.out.bel hb); (try (replace H18 := Lib.hid (H18.out.bel hb))); (try (replace H30 := Lib.hid (H30.out.bel hb))); (try (replace H36 := Lib.hid (H36.out.bel hb))); (try (replace HCH := Lib.hid (HCH.out.bel hb)))); clear hb1 hc1 hb)
        refine (pnew_any wTok 5 _ (by decide) (by decide) (by decide)).mono ?_
        rintro e V18 ⟨cb, rfl, _, hch, hb⟩
        have HCH := Lib.hid hch
        replace HB := Lib.hid (HB.out.trans (Below.mono hb HB.out.size)); replace H5 := Lib.hid (H5.out.bel hb); replace H9 := Lib.hid (H9.out.bel hb); replace H18 := Lib.hid (H18.out.bel hb)
        clear hb hch
        go_wp2_with fail
        refine (ptoken_any cb 5 2 wTok _ (by decide) (by decide) HCH.out).mono ?_
        rintro e V21 ⟨rfl, rfl⟩
        rw [show tokB wTok 5 2 = tkC from rfl]
        clear HCH
        go_wp2_with (refine wpList_load_blk rfl 35 (.tmp 18) rfl a18 0 20 H18.out.blk (a0C.lists A18 c18 B18 d18).cs (by rfl) (st_ext _) Tryz.underlying35 infoSta (st_le _) ?_)
        refine (fx_tok1 A18 c18 B18 d18 _ H18.out.mem).mono ?_
        rintro e V22 ⟨A30, c30, B30, d30, rfl, hl, hb⟩
        have HL30 := Lib.hid hl
        (replace HB := Lib.hid (HB.out.trans (Below.mono hb HB.out.size)); replace H5 := Lib.hid (H5.out.bel hb); replace H9 := Lib.hid (H9.out.bel hb); (try (replace H18 := Lib.hid (H18.out.bel hb))); (try (replace H30 := Lib.hid (H30.out.bel hb))); (try (replace H36 := Lib.hid (H36.out.bel hb))); (try (replace HCH := Lib.hid (HCH.out.bel hb))))
        clear hb hl
        go_wp2_with (first
          | (refine wpList_store_part rfl 35 (.tmp 30) (.tmp 150) rfl V22.heap.size 0 (cs := zSt) (Blk.new _ _ _) (b0C.lists A30 c30 B30 d30).cs (b0C.lists A30 c30 B30 d30).cs (by rfl) (by rfl) (Nat.le_refl 20) infoSta (stcs_one _) (st_over _ rfl) ?_; intro W22 hb1 hc1; have hb := bel_st' hc1; (replace HB := Lib.hid (HB.out.trans (Below.mono hb HB.out.size)); replace H5 := Lib.hid (H5.out.bel hb); replace H9 := Lib.hid (H9.out.bel hb); (try (replace H18 := Lib.hid (H18.out.bel hb))); (try (replace H30 := Lib.hid (H30.out.bel hb))); (try (replace H36 := Lib.hid (H36.out.bel hb))); (try (replace HCH := Lib.hid (HCH.out.bel hb)))); have H30 : Hid (StB W22 V22.heap.size (b0C.lists A30 c30 B30 d30)) := Lib.hid (StB.mk_ hb1 (HL30.out.bel hb)); clear hb1 hc1 hb)
          | (refine wpList_load_blk rfl 35 (.tmp 30) rfl V22.heap.size 0 20 H30.out.blk (b0C.lists A30 c30 B30 d30).cs (by rfl) (st_ext _) Tryz.underlying35 infoSta (st_le _) ?_))
        clear HL30
        generalize V22.heap.size = a30 at H30 ⊢
        refine (fx_tok2 A30 c30 B30 d30 _ H30.out.mem).mono ?_
        rintro e V23 ⟨rfl, hb⟩
        (replace HB := Lib.hid (HB.out.trans (Below.mono hb HB.out.size)); replace H5 := Lib.hid (H5.out.bel hb); replace H9 := Lib.hid (H9.out.bel hb); (try (replace H18 := Lib.hid (H18.out.bel hb))); (try (replace H30 := Lib.hid (H30.out.bel hb))); (try (replace H36 := Lib.hid (H36.out.bel hb))); (try (replace HCH := Lib.hid (HCH.out.bel hb))))
        clear hb
        go_wp2_with (first
          | (refine wpList_store_part rfl 35 (.tmp 32) (.tmp 156) rfl V23.heap.size 0 (cs := zSt) (Blk.new _ _ _) zSt zSt (by rfl) (by rfl) (Nat.le_refl 20) infoSta zStO (zStV rfl) ?_; intro W23 hb1 hc1; have hb := bel_st' hc1; (replace HB := Lib.hid (HB.out.trans (Below.mono hb HB.out.size)); replace H5 := Lib.hid (H5.out.bel hb); replace H9 := Lib.hid (H9.out.bel hb); (try (replace H18 := Lib.hid (H18.out.bel hb))); (try (replace H30 := Lib.hid (H30.out.bel hb))); (try (replace H36 := Lib.hid (H36.out.bel hb))); (try (replace HCH := Lib.hid (HCH.out.bel hb)))); clear hb1 hc1 hb)
          | (refine wpList_load_blk rfl 35 (.tmp 18) rfl a18 0 20 H18.out.blk (a0C.lists A18 c18 B18 d18).cs (by rfl) (st_ext _) Tryz.underlying35 infoSta (st_le _) ?_))
        refine (fx_tok3 A18 c18 B18 d18 _ H18.out.mem).mono ?_
        rintro e V24 ⟨rfl, hb⟩
        (replace HB := Lib.hid (HB.out.trans (Below.mono hb HB.out.size)); replace H5 := Lib.hid (H5.out.bel hb); replace H9 := Lib.hid (H9.out.bel hb); (try (replace H18 := Lib.hid (H18.out.bel hb))); (try (replace H30 := Lib.hid (H30.out.bel hb))); (try (replace H36 := Lib.hid (H36.out.bel hb))); (try (replace HCH := Lib.hid (HCH.out.bel hb))))
        clear hb
        go_wp2_with (first
          | (refine wpList_store_part rfl 35 (.tmp 34) (.tmp 162) rfl V24.heap.size 0 (cs := zSt) (Blk.new _ _ _) zSt zSt (by rfl) (by rfl) (Nat.le_refl 20) infoSta zStO (zStV rfl) ?_; intro W24 hb1 hc1; have hb := bel_st' hc1; (replace HB := Lib.hid (HB.out.trans (Below.mono hb HB.out.size)); replace H5 := Lib.hid (H5.out.bel hb); replace H9 := Lib.hid (H9.out.bel hb); (try (replace H18 := Lib.hid (H18.out.bel hb))); (try (replace H30 := Lib.hid (H30.out.bel hb))); (try (replace H36 := Lib.hid (H36.out.bel hb))); (try (replace HCH := Lib.hid (HCH.out.bel hb)))); clear hb1 hc1 hb)
          | (refine wpList_load_blk rfl 35 (.tmp 30) rfl a30 0 20 H30.out.blk (b0C.lists A30 c30 B30 d30).cs (by rfl) (st_ext _) Tryz.underlying35 infoSta (st_le _) ?_))
        refine (fx_tic1 A30 c30 B30 d30 _ H30.out.mem).mono ?_
        rintro e V25 ⟨A36, c36, B36, d36, rfl, hl, hb⟩
        have HL36 := Lib.hid hl
        (replace HB := Lib.hid (HB.out.trans (Below.mono hb HB.out.size)); replace H5 := Lib.hid (H5.out.bel hb); replace H9 := Lib.hid (H9.out.bel hb); (try (replace H18 := Lib.hid (H18.out.bel hb))); (try (replace H30 := Lib.hid (H30.out.bel hb))); (try (replace H36 := Lib.hid (H36.out.bel hb))); (try (replace HCH := Lib.hid (HCH.out.bel hb))))
        clear hb hl
        go_wp2_with (first
          | (refine wpList_store_part rfl 35 (.tmp 36) (.tmp 169) rfl V25.heap.size 0 (cs := zSt) (Blk.new _ _ _) (x0C.lists A36 c36 B36 d36).cs (x0C.lists A36 c36 B36 d36).cs (by rfl) (by rfl) (Nat.le_refl 20) infoSta (stcs_one _) (st_over _ rfl) ?_; intro W25 hb1 hc1; have hb := bel_st' hc1; (replace HB := Lib.hid (HB.out.trans (Below.mono hb HB.out.size)); replace H5 := Lib.hid (H5.out.bel hb); replace H9 := Lib.hid (H9.out.bel hb); (try (replace H18 := Lib.hid (H18.out.bel hb))); (try (replace H30 := Lib.hid (H30.out.bel hb))); (try (replace H36 := Lib.hid (H36.out.bel hb))); (try (replace HCH := Lib.hid (HCH.out.bel hb)))); have H36 : Hid (StB W25 V25.heap.size (x0C.lists A36 c36 B36 d36)) := Lib.hid (StB.mk_ hb1 (HL36.out.bel hb)); clear hb1 hc1 hb)
          | (refine wpList_load_blk rfl 35 (.tmp 5) rfl a5 0 20 H5.out.blk s0C.cs (by rfl) (st_ext _) Tryz.underlying35 infoSta (st_le _) ?_))
        clear HL36
        generalize V25.heap.size = a36 at H36 ⊢
        refine (fx_close _).mono ?_
        rintro e V26 ⟨A26, c26, B26, d26, rfl, hm, hb⟩
        have HM26 := Lib.hid hm
        (replace HB := Lib.hid (HB.out.trans (Below.mono hb HB.out.size)); replace H5 := Lib.hid (H5.out.bel hb); replace H9 := Lib.hid (H9.out.bel hb); (try (replace H18 := Lib.hid (H18.out.bel hb))); (try (replace H30 := Lib.hid (H30.out.bel hb))); (try (replace H36 := Lib.hid (H36.out.bel hb))); (try (replace HCH := Lib.hid (HCH.out.bel hb))))
        clear hb hm
        go_wp2_with fail
        refine (fx_vou5 A26 c26 B26 d26 _ HM26.out).mono ?_
        rintro e V27 ⟨rfl, hb⟩
        (replace HB := Lib.hid (HB.out.trans (Below.mono hb HB.out.size)); replace H5 := Lib.hid (H5.out.bel hb); replace H9 := Lib.hid (H9.out.bel hb); (try (replace H18 := Lib.hid (H18.out.bel hb))); (try (replace H30 := Lib.hid (H30.out.bel hb))); (try (replace H36 := Lib.hid (H36.out.bel hb))); (try (replace HCH := Lib.hid (HCH.out.bel hb))))
        clear hb HM26
        go_wp2_with (refine wpList_store_part rfl 35 (.tmp 38) (.tmp 175) rfl V27.heap.size 0 (cs := zSt) (Blk.new _ _ _) zSt zSt (by rfl) (by rfl) (Nat.le_refl 20) infoSta zStO (zStV rfl) ?_; intro W27 hb1 hc1; have hb := bel_st' hc1; (replace HB := Lib.hid (HB.out.trans (Below.mono hb HB.out.size)); replace H5 := Lib.hid (H5.out.bel hb); replace H9 := Lib.hid (H9.out.bel hb); (try (replace H18 := Lib.hid (H18.out.bel hb))); (try (replace H30 := Lib.hid (H30.out.bel hb))); (try (replace H36 := Lib.hid (H36.out.bel hb))); (try (replace HCH := Lib.hid (HCH.out.bel hb)))); clear hb1 hc1 hb)
        have q16 := cell_rg (show W27.cell? ⟨a30, 16, none⟩ = some (.int .i64 2) from H30.out.blk.cell 16)
        have HWH := fun W (hW : Below W27.heap.size W27 W) => Lib.hid (fx_whole A9 c9 B9 d9 W (H9.out.mem.bel hW))
        have HWA := fun W => Lib.hid (fx_worth_a A18 c18 B18 d18 W)
        have HWB := fun W => Lib.hid (fx_worth_b A30 c30 B30 d30 W)
        have HWX := fun W => Lib.hid (fx_worth_x A36 c36 B36 d36 W)
        have HCB := fun W => Lib.hid (fx_credit_b A30 c30 B30 d30 W)
        have HCX := fun W => Lib.hid (fx_credit_x A36 c36 B36 d36 W)
        have HS1 := fun W => Lib.hid (fx_same W)
        have HS2 := fun W (hW : Below W27.heap.size W27 W) => Lib.hid (fx_apart A9 c9 B9 d9 W (H9.out.mem.bel hW))
        have K5 := Lib.hid H5.out.blk
        have K9 := Lib.hid H9.out.blk
        have K18 := Lib.hid H18.out.blk
        have K30 := Lib.hid H30.out.blk
        have K36 := Lib.hid H36.out.blk
        have E5 := Lib.hid (st_ext s0C)
        have E9 := Lib.hid (st_ext (t0C.lists A9 c9 B9 d9))
        have E18 := Lib.hid (st_ext (a0C.lists A18 c18 B18 d18))
        have E30 := Lib.hid (st_ext (b0C.lists A30 c30 B30 d30))
        have E36 := Lib.hid (st_ext (x0C.lists A36 c36 B36 d36))
        have L5 := Lib.hid (st_le s0C)
        have L9 := Lib.hid (st_le (t0C.lists A9 c9 B9 d9))
        have L18 := Lib.hid (st_le (a0C.lists A18 c18 B18 d18))
        have L30 := Lib.hid (st_le (b0C.lists A30 c30 B30 d30))
        have L36 := Lib.hid (st_le (x0C.lists A36 c36 B36 d36))
        clear H5 H9 H18 H30 H36
        generalize s0C.cs = k5 at K5 E5 L5 HS1 HS2
        generalize (t0C.lists A9 c9 B9 d9).cs = k9 at K9 E9 L9 HWH HS2
        generalize (a0C.lists A18 c18 B18 d18).cs = k18 at K18 E18 L18 HWA
        generalize (b0C.lists A30 c30 B30 d30).cs = k30 at K30 E30 L30 HWB HCB
        generalize (x0C.lists A36 c36 B36 d36).cs = k36 at K36 E36 L36 HWX HCX
        refine wp_region_bq ?bqL ?bqE (by kernel_rfl) ?bqB ?_
        case bqE => simp only [List.append]; rfl
        case bqB =>
          refine lex_start 105 #[false, false, false, false, false, false, false, false, false, false, false, false, false, false, false, false, false, false, false, false, false, false, false, false, false, false, false, false, false, false, false, false, false, false, false, false, false, false, false, false, false, false, false, false, false, false, false, false, false, false, false, false, false, false, false, false, false, false, false, false, false, false, false, false, false, false, false, false, false, false, false, false, false, false, false, false, false, false, false, false, false, false, false, false, false, false, false, false, false, false, false, false, false, false, false, false, false, false, false, false, false, false, false, false, false] (by as_aux_lemma => kernel_rfl) (by as_aux_lemma => kernel_rfl) (by as_aux_lemma => kernel_rfl) ?_
          refine lex_chunk 16 89 0 #[false, false, false, false, false, false, false, false, false, false, false, false, false, false, false, false, false, false, false, false, false, false, false, false, false, false, false, false, false, false, false, false, false, false, false, false, false, false, false, false, false, false, false, false, false, false, false, false, false, false, false, false, false, false, false, false, false, false, false, false, false, false, false, false, false, false, false, false, false, false, false, false, false, false, false, false, false, false, false, false, false, false, false, false, false, false, false, false, false, false, false, false, false, false, false, false, false, false, false, false, false, false, false, false, false] #[true, true, true, true, true, true, true, true, true, true, true, true, true, true, true, true, false, false, false, false, false, false, false, false, false, false, false, false, false, false, false, false, false, false, false, false, false, false, false, false, false, false, false, false, false, false, false, false, false, false, false, false, false, false, false, false, false, false, false, false, false, false, false, false, false, false, false, false, false, false, false, false, false, false, false, false, false, false, false, false, false, false, false, false, false, false, false, false, false, false, false, false, false, false, false, false, false, false, false, false, false, false, false, false, false] (by as_aux_lemma => kernel_rfl) (by as_aux_lemma => kernel_rfl) ?_
          refine lex_chunk 16 73 16 #[true, true, true, true, true, true, true, true, true, true, true, true, true, true, true, true, false, false, false, false, false, false, false, false, false, false, false, false, false, false, false, false, false, false, false, false, false, false, false, false, false, false, false, false, false, false, false, false, false, false, false, false, false, false, false, false, false, false, false, false, false, false, false, false, false, false, false, false, false, false, false, false, false, false, false, false, false, false, false, false, false, false, false, false, false, false, false, false, false, false, false, false, false, false, false, false, false, false, false, false, false, false, false, false, false] #[true, true, true, true, true, true, true, true, true, true, true, true, true, true, true, true, true, true, true, true, true, true, true, true, true, true, true, true, true, true, true, true, false, false, false, false, false, false, false, false, false, false, false, false, false, false, false, false, false, false, false, false, false, false, false, false, false, false, false, false, false, false, false, false, false, false, false, false, false, false, false, false, false, false, false, false, false, false, false, false, false, false, false, false, false, false, false, false, false, false, false, false, false, false, false, false, false, false, false, false, false, false, false, false, false] (by as_aux_lemma => kernel_rfl) (by as_aux_lemma => kernel_rfl) ?_
          refine lex_chunk 16 57 32 #[true, true, true, true, true, true, true, true, true, true, true, true, true, true, true, true, true, true, true, true, true, true, true, true, true, true, true, true, true, true, true, true, false, false, false, false, false, false, false, false, false, false, false, false, false, false, false, false, false, false, false, false, false, false, false, false, false, false, false, false, false, false, false, false, false, false, false, false, false, false, false, false, false, false, false, false, false, false, false, false, false, false, false, false, false, false, false, false, false, false, false, false, false, false, false, false, false, false, false, false, false, false, false, false, false] #[true, true, true, true, true, true, true, true, true, true, true, true, true, true, true, true, true, true, true, true, true, true, true, true, true, true, true, true, true, true, true, true, true, true, true, true, true, true, true, true, true, true, true, true, true, true, true, true, false, false, false, false, false, false, false, false, false, false, false, false, false, false, false, false, false, false, false, false, false, false, false, false, false, false, false, false, false, false, false, false, false, false, false, false, false, false, false, false, false, false, false, false, false, false, false, false, false, false, false, false, false, false, false, false, false] (by as_aux_lemma => kernel_rfl) (by as_aux_lemma => kernel_rfl) ?_
          refine lex_chunk 16 41 48 #[true, true, true, true, true, true, true, true, true, true, true, true, true, true, true, true, true, true, true, true, true, true, true, true, true, true, true, true, true, true, true, true, true, true, true, true, true, true, true, true, true, true, true, true, true, true, true, true, false, false, false, false, false, false, false, false, false, false, false, false, false, false, false, false, false, false, false, false, false, false, false, false, false, false, false, false, false, false, false, false, false, false, false, false, false, false, false, false, false, false, false, false, false, false, false, false, false, false, false, false, false, false, false, false, false] #[true, true, true, true, true, true, true, true, true, true, true, true, true, true, true, true, true, true, true, true, true, true, true, true, true, true, true, true, true, true, true, true, true, true, true, true, true, true, true, true, true, true, true, true, true, true, true, true, true, true, true, true, true, true, true, true, true, true, true, true, true, true, true, true, false, false, false, false, false, false, false, false, false, false, false, false, false, false, false, false, false, false, false, false, false, false, false, false, false, false, false, false, false, false, false, false, false, false, false, false, false, false, false, false, false] (by as_aux_lemma => kernel_rfl) (by as_aux_lemma => kernel_rfl) ?_
          refine lex_chunk 16 25 64 #[true, true, true, true, true, true, true, true, true, true, true, true, true, true, true, true, true, true, true, true, true, true, true, true, true, true, true, true, true, true, true, true, true, true, true, true, true, true, true, true, true, true, true, true, true, true, true, true, true, true, true, true, true, true, true, true, true, true, true, true, true, true, true, true, false, false, false, false, false, false, false, false, false, false, false, false, false, false, false, false, false, false, false, false, false, false, false, false, false, false, false, false, false, false, false, false, false, false, false, false, false, false, false, false, false] #[true, true, true, true, true, true, true, true, true, true, true, true, true, true, true, true, true, true, true, true, true, true, true, true, true, true, true, true, true, true, true, true, true, true, true, true, true, true, true, true, true, true, true, true, true, true, true, true, true, true, true, true, true, true, true, true, true, true, true, true, true, true, true, true, true, true, true, true, true, true, true, true, true, true, true, true, true, true, true, true, false, false, false, false, false, false, false, false, false, false, false, false, false, false, false, false, false, false, false, false, false, false, false, false, false] (by as_aux_lemma => kernel_rfl) (by as_aux_lemma => kernel_rfl) ?_
          refine lex_chunk 16 9 80 #[true, true, true, true, true, true, true, true, true, true, true, true, true, true, true, true, true, true, true, true, true, true, true, true, true, true, true, true, true, true, true, true, true, true, true, true, true, true, true, true, true, true, true, true, true, true, true, true, true, true, true, true, true, true, true, true, true, true, true, true, true, true, true, true, true, true, true, true, true, true, true, true, true, true, true, true, true, true, true, true, false, false, false, false, false, false, false, false, false, false, false, false, false, false, false, false, false, false, false, false, false, false, false, false, false] #[true, true, true, true, true, true, true, true, true, true, true, true, true, true, true, true, true, true, true, true, true, true, true, true, true, true, true, true, true, true, true, true, true, true, true, true, true, true, true, true, true, true, true, true, true, true, true, true, true, true, true, true, true, true, true, true, true, true, true, true, true, true, true, true, true, true, true, true, true, true, true, true, true, true, true, true, true, true, true, true, true, true, true, true, true, true, true, true, true, true, true, true, true, true, true, true, false, false, false, false, false, false, false, false, false] (by as_aux_lemma => kernel_rfl) (by as_aux_lemma => kernel_rfl) ?_
          refine lex_chunk 9 0 96 #[true, true, true, true, true, true, true, true, true, true, true, true, true, true, true, true, true, true, true, true, true, true, true, true, true, true, true, true, true, true, true, true, true, true, true, true, true, true, true, true, true, true, true, true, true, true, true, true, true, true, true, true, true, true, true, true, true, true, true, true, true, true, true, true, true, true, true, true, true, true, true, true, true, true, true, true, true, true, true, true, true, true, true, true, true, true, true, true, true, true, true, true, true, true, true, true, false, false, false, false, false, false, false, false, false] #[true, true, true, true, true, true, true, true, true, true, true, true, true, true, true, true, true, true, true, true, true, true, true, true, true, true, true, true, true, true, true, true, true, true, true, true, true, true, true, true, true, true, true, true, true, true, true, true, true, true, true, true, true, true, true, true, true, true, true, true, true, true, true, true, true, true, true, true, true, true, true, true, true, true, true, true, true, true, true, true, true, true, true, true, true, true, true, true, true, true, true, true, true, true, true, true, true, true, true, true, true, true, true, true, true] (by as_aux_lemma => kernel_rfl) (by as_aux_lemma => kernel_rfl) ?_
          as_aux_lemma => kernel_rfl
        repeat (first | go_big_quiet_skip | (go_big_quiet_want; first | ((first
                    | (refine quiet_load_blk 35 (.tmp 5) rfl a5 0 20 K5.out k5 (by rfl) E5.out Tryz.underlying35 infoSta L5.out ?_; go_simp)
                    | (refine quiet_load_blk 35 (.tmp 9) rfl a9 0 20 K9.out k9 (by rfl) E9.out Tryz.underlying35 infoSta L9.out ?_; go_simp)
                    | (refine quiet_load_blk 35 (.tmp 18) rfl a18 0 20 K18.out k18 (by rfl) E18.out Tryz.underlying35 infoSta L18.out ?_; go_simp)
                    | (refine quiet_load_blk 35 (.tmp 30) rfl a30 0 20 K30.out k30 (by rfl) E30.out Tryz.underlying35 infoSta L30.out ?_; go_simp)
                    | (refine quiet_load_blk 35 (.tmp 36) rfl a36 0 20 K36.out k36 (by rfl) E36.out Tryz.underlying35 infoSta L36.out ?_; go_simp)); go_big_quiet_on) | (go_big_quiet_op; first | go_big_quiet_on | go_big_quiet_call ((first
                  | (go_at_call 14; exact Calls.rg fun W hW => (HWH W hW).out)
                  | (go_at_call 13; first | with_reducible exact Calls.rg fun W _ => (HWA W).out | with_reducible exact Calls.rg fun W _ => (HWB W).out | with_reducible exact Calls.rg fun W _ => (HWX W).out)
                  | (go_at_call 15; first | with_reducible exact Calls.rg fun W _ => (HCB W).out | with_reducible exact Calls.rg fun W _ => (HCX W).out)
                  | (go_at_call 8; first | with_reducible exact Calls.rg fun W _ => (HS1 W).out | with_reducible exact Calls.rg fun W hW => (HS2 W hW).out))))))
        refine wpQuiet_nil ?_
        intro U hp
        have hb := bel_regrown hp
        clear hp
        go_wp2_with fail
        go_ret
        exact ⟨rfl, HB.out.trans (hb.mono HB.out.size)⟩
end Go.Proofs.YtpbcfeghfcodcaaGreat
namespace Go.Proofs.YtpbcfeghfcodcaaGreat
open Go.RowKit Go.Maps
theorem cutT_le (s : ByteArray) (n : Nat) : (cutT s n).size ≤ n := by rw [cutT_size]; exact (cutN_le s n).2
theorem cutOp_fit {o : Op17} (h : o.fz) : (cutOp o).fit := by
  obtain ⟨h1, ⟨x1, x2, x3, x4, x5, x6⟩, h3, h4⟩ := h
  refine ⟨h1, ?_, ⟨x1, x2, x3, x4, x5, x6, ?_⟩, h3, h4⟩
  · exact Nat.le_trans (cutT_le o.s 450) (by decide)
  · exact Nat.le_trans (cutT_le o.x.salt 40) (by decide)
/-- a channel's state behind any calls -/
structure Inv (s : St) (mt : Nat) : Prop where
  good : s.good mt
  tops : s.tops.length ≤ 3
  wins : s.wins.length ≤ 3
theorem Inv.lists {s : St} {mt : Nat} (h : Inv s mt) (A : Option Addr) (c : Nat) (B : Option Addr) (d : Nat) : Inv (s.lists A c B d) mt :=
  ⟨⟨⟨h.good.fit.lam, h.good.fit.lunit, h.good.fit.am, h.good.fit.tokens, h.good.fit.faces, h.good.fit.nominal, h.good.fit.tams, h.good.fit.tops, h.good.fit.wins, h.good.fit.tx⟩, h.good.an, h.good.tok, h.good.mt, h.good.tops, h.good.wins⟩, h.tops, h.wins⟩
/-- an entry whose numbers fit -/
def En.fz (e : En) : Prop := e.o.am < 18446744073709551616 ∧ e.o.unit < 18446744073709551616
theorem begin_tx (e : En) : (beginX e).tx = cutT e.tx 40 := by
  unfold beginX
  split <;> rfl
theorem begin_am (e : En) : (beginX e).o.am = e.o.am := by
  unfold beginX
  split <;> rfl
theorem begin_unit (e : En) : (beginX e).o.unit = e.o.unit := by
  unfold beginX
  split <;> rfl
theorem new_inv {e : En} (he : e.fz) (h : newB (beginX e) (fitsB (beginX e).o) = true) : ∃ mt : Nat, Inv (newS (beginX e)) mt := by
  have ha := begin_am e
  have hu := begin_unit e
  have ht := begin_tx e
  generalize beginX e = x at h ha hu ht
  simp only [newB, Bool.and_eq_true, decide_eq_true_eq] at h
  obtain ⟨hk, hf⟩ := h
  unfold fitsB at hf
  rw [if_pos hk] at hf
  unfold fits2B at hf
  simp only [Bool.and_eq_true, decide_eq_true_eq] at hf
  obtain ⟨⟨⟨⟨⟨⟨⟨⟨_, _⟩, h3⟩, h4⟩, h5⟩, _⟩, _⟩, _⟩, _⟩ := hf
  refine ⟨x.o.tok.toNat, ⟨⟨?_, ?_, by show (0 : Nat) < _; decide, Nat.zero_le _, by show (0 : Nat) < _; decide, by show (0 : Nat) < _; decide, (by intro e he; cases he), Nat.zero_le _, Nat.zero_le _, ?_⟩, h3, ?_, by omega, Nat.zero_le _, Nat.zero_le _⟩, Nat.zero_le _, Nat.zero_le _⟩
  · show x.o.am < _; rw [ha]; exact he.1
  · show x.o.unit < _; rw [hu]; exact he.2
  · show x.tx.size ≤ _; rw [ht]; exact Nat.le_trans (cutT_le _ 40) (by decide)
  · show x.o.tok = _; omega
theorem cntGo_le (a t : ByteArray) : ∀ f i, (cntGo a t f i).1 ≤ i + f
  | 0, i => Nat.le_refl _
  | f + 1, i => by
    rw [cntGo]
    split
    · exact Nat.le_add_right _ _
    · have := cntGo_le a t f (i + 1); omega
theorem cntN_le' (a t : ByteArray) (m : Nat) : cntN a t m ≤ m := by
  unfold cntN
  have := cntGo_le a t m 0
  split
  · split <;> omega
  · omega
theorem mk_lock (l : En) (A : Option Addr) (t : List En) (c a : Nat) (sg tk : ByteArray) (B : Option Addr) (w : List Wn) (d tk' f n : Nat) (cl : Bool) : (St.mk l A t c a sg tk B w d tk' f n cl).lock = l := rfl
theorem mk_tops (l : En) (A : Option Addr) (t : List En) (c a : Nat) (sg tk : ByteArray) (B : Option Addr) (w : List Wn) (d tk' f n : Nat) (cl : Bool) : (St.mk l A t c a sg tk B w d tk' f n cl).tops = t := rfl
theorem mk_wins (l : En) (A : Option Addr) (t : List En) (c a : Nat) (sg tk : ByteArray) (B : Option Addr) (w : List Wn) (d tk' f n : Nat) (cl : Bool) : (St.mk l A t c a sg tk B w d tk' f n cl).wins = w := rfl
theorem nom_eq (s : St) (v : Nat) : s.nom v = ⟨s.lock, s.A, s.tops, s.c, s.am, s.sig, s.tok, s.B, s.wins, s.d, s.tokens, s.faces, (capA s.nominal v).toNat, s.closed⟩ := rfl
theorem addw_eq (s : St) (x : Wn) : s.addw x = ⟨s.lock, s.A, s.tops, s.c, s.am, s.sig, s.tok, s.B, s.wins ++ [x], s.d, s.tokens, (capA s.faces x.t.face).toNat, s.nominal, s.closed⟩ := rfl
theorem tickS_pos (s : St) {x : Wn} (h : ticB x = true) : tickS s x = (s.addw x).nom (ticV x) := if_pos h
theorem tickS_neg (s : St) {x : Wn} (h : ¬ ticB x = true) : tickS s x = s.nom (ticV x) := if_neg h
theorem nom_lock (s : St) (v : Nat) : (s.nom v).lock = s.lock := by rw [nom_eq, mk_lock]
theorem addw_lock (s : St) (x : Wn) : (s.addw x).lock = s.lock := by rw [addw_eq, mk_lock]
theorem tick_lock (s : St) (x : Wn) : (tickS s x).lock = s.lock := by
  by_cases hb : ticB x = true
  · rw [tickS_pos s hb, nom_lock, addw_lock]
  · rw [tickS_neg s hb, nom_lock]
theorem nom_tops (s : St) (v : Nat) : (s.nom v).tops = s.tops := by rw [nom_eq, mk_tops]
theorem addw_tops (s : St) (x : Wn) : (s.addw x).tops = s.tops := by rw [addw_eq, mk_tops]
theorem tick_tops (s : St) (x : Wn) : (tickS s x).tops = s.tops := by
  by_cases hb : ticB x = true
  · rw [tickS_pos s hb, nom_tops, addw_tops]
  · rw [tickS_neg s hb, nom_tops]
theorem nom_wins (s : St) (v : Nat) : (s.nom v).wins = s.wins := by rw [nom_eq, mk_wins]
theorem addw_wins (s : St) (x : Wn) : (s.addw x).wins = s.wins ++ [x] := by rw [addw_eq, mk_wins]
theorem tick_wins (s : St) (x : Wn) : (tickS s x).wins = if ticB x = true then s.wins ++ [x] else s.wins := by
  by_cases hb : ticB x = true
  · rw [tickS_pos s hb, if_pos hb, nom_wins, addw_wins]
  · rw [tickS_neg s hb, if_neg hb, nom_wins]
theorem tick_fit {s : St} (x : Wn) (h : s.fit) (hw : s.wins.length ≤ 900) : (tickS s x).fit := by
  by_cases hb : ticB x = true
  · rw [tickS_pos s hb]; exact (h.addw x hw).nom _
  · rw [tickS_neg s hb]; exact h.nom _
theorem tic_wins {s : St} {x : Wn} {r : Nat} (hE : ticE s x r = 0) (hb : ticB x = true) : s.wins.length + 1 ≤ 3 := by
  unfold ticE at hE
  rw [if_pos hb] at hE
  generalize ((s.addw x).nom (ticV x)).nominal = nn at hE
  generalize xroomB ((s.addw x).nom (ticV x)) r = rb at hE
  generalize winE s x = we at hE
  generalize nomE x.t.face x.t.wins x.t.many = ne at hE
  generalize winsOk x.drawn x.t.wins x.t.many = wo at hE
  generalize (18446744073709551615 : Nat) = q at hE
  refine Nat.le_of_not_lt (fun hlt => ?_)
  split at hE
  · omega
  · split at hE
    · rename_i hx; exact hx hE
    · split at hE
      · omega
      · split at hE
        · rename_i hx; exact hx hE
        · split at hE
          · omega
          · first | omega | (rw [if_pos hlt] at hE; omega)
theorem play_inv {s : St} {mt : Nat} {o : Op17} (h : Inv s mt) (ho : o.fit) (hE : playE s mt o = 0) : Inv (playS s mt o) mt := by
  unfold playE at hE
  unfold playS
  by_cases k0 : o.kind = 0
  · rw [if_pos k0]
    exact ⟨⟨h.good.fit.vouch ho.am _, h.good.an, h.good.tok, h.good.mt, h.good.tops, h.good.wins⟩, h.tops, h.wins⟩
  · rw [if_neg k0] at hE ⊢
    by_cases k1 : o.kind = 1
    · rw [if_pos k1]
      exact ⟨⟨h.good.fit.token _ (Nat.le_trans (cntN_le' _ _ _) (Nat.le_trans h.good.mt (by decide))), h.good.an, h.good.tok, h.good.mt, h.good.tops, h.good.wins⟩, h.tops, h.wins⟩
    · rw [if_neg k1] at hE ⊢
      by_cases k2 : o.kind = 2
      · rw [if_pos k2] at hE ⊢
        have h1 := tick_lock s o.x
        have h2 := tick_tops s o.x
        have h3 := tick_wins s o.x
        have h4 := tick_fit o.x h.good.fit h.good.wins
        have hl : (tickS s o.x).wins.length ≤ 3 := by
          rw [h3]
          by_cases hb : ticB o.x = true
          · rw [if_pos hb, List.length_append]; exact tic_wins hE hb
          · rw [if_neg hb]; exact h.wins
        clear hE h3
        generalize tickS s o.x = s' at *
        exact ⟨⟨h4, by rw [h1]; exact h.good.an, by rw [h1]; exact h.good.tok, h.good.mt, by rw [h2]; exact h.good.tops, by omega⟩, by rw [h2]; exact h.tops, hl⟩
      · rw [if_neg k2] at hE ⊢
        by_cases k3 : o.kind = 3
        · rw [if_pos k3] at hE ⊢
          unfold moreE at hE
          have hw : s.tops.length + 1 ≤ 3 := by
            refine Nat.le_of_not_lt (fun hlt => ?_)
            split at hE
            · omega
            · split at hE
              · omega
              · split at hE
                · omega
                · rw [if_pos (by omega)] at hE; omega
          have hl : (s.tops ++ [o.e]).length = s.tops.length + 1 := by simp
          refine ⟨⟨⟨h.good.fit.lam, h.good.fit.lunit, h.good.fit.am, h.good.fit.tokens, h.good.fit.faces, h.good.fit.nominal, ?_, by show (s.tops ++ [o.e]).length ≤ 1000; omega, h.good.fit.wins, h.good.fit.tx⟩, h.good.an, h.good.tok, h.good.mt, by show (s.tops ++ [o.e]).length ≤ 900; omega, h.good.wins⟩, by show (s.tops ++ [o.e]).length ≤ 3; omega, h.wins⟩
          intro x hx
          rcases List.mem_append.1 hx with hx | hx
          · exact h.good.fit.tams x hx
          · rw [List.mem_singleton.1 hx]; exact ho.eam
        · rw [if_neg k3]
          exact ⟨⟨⟨h.good.fit.lam, h.good.fit.lunit, h.good.fit.am, h.good.fit.tokens, h.good.fit.faces, h.good.fit.nominal, h.good.fit.tams, h.good.fit.tops, h.good.fit.wins, h.good.fit.tx⟩, h.good.an, h.good.tok, h.good.mt, h.good.tops, h.good.wins⟩, h.tops, h.wins⟩
/-- a closed channel takes nothing -/
theorem play_shut {s : St} {mt : Nat} {o : Op17} (hc : s.closed = true) (h0 : 0 ≤ o.kind) (h3 : o.kind ≤ 3) : playE s mt o = 8 := by
  unfold playE
  by_cases k0 : o.kind = 0
  · rw [if_pos k0]; unfold vouE; rw [if_pos hc]
  · rw [if_neg k0]
    by_cases k1 : o.kind = 1
    · rw [if_pos k1]; unfold tokE; rw [if_pos hc]
    · rw [if_neg k1]
      by_cases k2 : o.kind = 2
      · rw [if_pos k2]; unfold ticE; rw [if_pos hc]
      · rw [if_neg k2, if_pos (by omega)]; unfold moreE; rw [if_pos hc]
theorem begin_ok (e : En) (h : newB (beginX e) (fitsB (beginX e).o) = true) (w : World) : Calls Tryz.prog 7 #[.agg e.cs] w fun e' w' => e' = .returned (.tuple #[.agg (newS (beginX e)).cs, .int .i64 0]) ∧ Below w.heap.size w w' := by
  have q := begin17_any e w
  rwa [if_pos h, if_pos h] at q
theorem begin_no (e : En) (h : newB (beginX e) (fitsB (beginX e).o) = false) (w : World) : Calls Tryz.prog 7 #[.agg e.cs] w fun e' w' => e' = .returned (.tuple #[.agg zSt, .int .i64 1]) ∧ Below w.heap.size w w' := by
  have q := begin17_any e w
  rwa [if_neg (by rw [h]; decide), if_neg (by rw [h]; decide)] at q
end Go.Proofs.YtpbcfeghfcodcaaGreat
