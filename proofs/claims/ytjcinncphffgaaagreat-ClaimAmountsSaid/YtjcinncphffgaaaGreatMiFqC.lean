/- law18's fixed: the walk. -/
import Derived.Outline
import Derived.Deep.RegionHeld3
import Derived.Deep.DeepCutAuto
import Derived.Deep.CutBlock
import Derived.Test.YtjcinncphffgaaaGreatMiFqB
set_option linter.unusedVariables false
set_option linter.unusedSimpArgs false
namespace Go.Proofs.YtjcinncphffgaaaGreat
section
open Go.RowKit Go.Maps
set_option maxRecDepth 100000 in
set_option maxHeartbeats 8000000 in
theorem fixed18_any (w0 : World) : Calls Tryz.prog 28 #[] w0 fun e w' => e = .returned (.bool true) ∧ Below w0.heap.size w0 w' := by
 have HNC := fun W => Lib.hid (mnew_any sdC 1 W (by decide) (by decide))
 have HNG := fun W => Lib.hid (mnew_any sdG 0 W (by decide) (by decide))
 go_enter Tryz.func28, Tryz.ntmps28
 go_wp2_with fail
 refine (HNC _).out.mono ?_
 rintro e W1 ⟨kb, cb, rfl, hkb, hcb, hk, hb⟩
 have HK := Lib.hid hk
 have HB := Lib.hid hb
 have HZ : Hid (w0.heap.size ≤ cb) := Lib.hid hcb
 clear hk hb HNC hkb hcb
 go_wp2_with fail
 refine (HNG _).out.mono ?_
 rintro e W2 ⟨kg, cg, rfl, hkg, hcg, hg, hb⟩
 have HT : Hid (TwoK W2 kb cb sdC 1 0 kg cg sdG 0 0) := Lib.hid ⟨HK.out.bel hb, hg, by have := HK.out.cnt.lt; omega⟩
 replace HB := Lib.hid (HB.out.trans (hb.mono HB.out.size))
 have HZG : Hid (w0.heap.size ≤ cg) := Lib.hid (by have := HK.out.cnt.lt; have := HZ.out; omega)
 clear hg hb HNG hkg hcg HK
 go_wp2_with fail
 refine (kroot_any kb cb sdC 1 0 _ HT.out.kc).mono ?_
 rintro e V ⟨rfl, rfl⟩
 go_wp2_with fail
 refine (kroot_any kg cg sdG 0 0 _ HT.out.kg).mono ?_
 rintro e V ⟨rfl, rfl⟩
 rw [rC_eq, rG_eq]
 go_wp2_with fail
 refine (locked11 _).mono ?_
 rintro e W3 ⟨sb, b, A, c, rfl, hsb, hbb, hset, hsl, hb⟩
 obtain ⟨ab, off, hA, _, _⟩ := hsl (by simp [L11])
 subst hA
 have HF : Hid (F8 w0 kb cb 0 kg cg 0 sb b ab off W3) := Lib.hid ⟨HT.out.bel hb, hset, hsl, HB.out.trans (hb.mono HB.out.size), HZ.out, HZG.out⟩
 clear hset hsl hb hsb hbb HT HB HZ HZG
 have HC0 := Lib.hid HF.out.at_.2.1
 go_wp2_with (refine wpList_load_en rfl (.tmp 71) rfl ab off (by rfl) l0C HC0.out ?_)
 refine (q_new _).mono ?_
 rintro e W4 ⟨rfl, hb⟩
 replace HF := Lib.hid (HF.out.go hb)
 clear hb HC0
 go_upto_region 9 with (refine wpList_store_part rfl 103 (.tmp 7) (.tmp 74) rfl W4.heap.size 0 (cs := zSt) (Blk.new _ _ _) q0.cs q0.cs (by rfl) (by rfl) (Nat.le_refl 20) infoSta (stcs_one _) (st_over _ rfl) ?_; intro W5 hb1 hc1; have hb := bel_st' hc1; have H7 := Lib.hid hb1; have HG7 : Hid (ab < W4.heap.size ∧ w0.heap.size ≤ W4.heap.size) := Lib.hid ⟨HF.out.at_.1, HF.out.bel.size⟩; replace HF := Lib.hid (HF.out.go hb); clear hb1 hc1 hb)
 try go_frame
 generalize W4.heap.size = g7 at H7 HG7 ⊢
 go_wp2_with (refine wpList_load_blk rfl 103 (.tmp 7) rfl g7 0 20 H7.out q0.cs (by rfl) (st_ext q0) Tryz.underlying103 infoSta (st_le q0) ?_)
 refine (cbuild_any q0 W5 q0_fit (newS_mem _ _) (by decide)).mono ?_
 rintro e W6 ⟨t, rfl, _, hz, hb⟩
 obtain rfl := hz (by rw [q_low]; decide)
 rw [q_low, show zT.cs = zTx from rfl]
 replace HF := Lib.hid (HF.out.go hb)
 replace H7 := Lib.hid (H7.out.bel hb)
 clear hz hb
 go_upto_region 10 with (refine wpList_store_part rfl 53 (.tmp 9) (.tmp 79) rfl W6.heap.size 0 (cs := zTx) (Blk.new _ _ _) zTx zTx (by rfl) (by rfl) (Nat.le_refl 6) infoTx zTx_one (txn_over zT rfl) ?_; intro W7 hb1 hc1; have hb := bel_st' hc1; replace H7 := Lib.hid (H7.out.bel hb); replace HF := Lib.hid (HF.out.go hb); clear hb1 hc1 hb)
 try go_frame
 generalize W6.heap.size = g9
 go_cut [11] from 81 to 88 (fun v11 wx => ∃ (A : Option Addr) (c : Nat) (B : Option Addr) (d N : Nat), v11 = .int .i64 0 ∧ Hid (Blk wx g7 103 (q1.lists A c B d).cs ∧ LsAt q1 N wx A c B d) ∧ Hid (F8 w0 kb cb 0 kg cg 0 sb b ab off wx))
 case first =>
  refine wp_region_held_drew (S := fun W => Hid (F8 w0 kb cb 0 kg cg 0 sb b ab off W)) (by kernel_rfl) (Lib.hid (HF.out.go (Below.refl _ _).drew)) (fun hS => ?_)
  replace H7 := Lib.hid (H7.out.drewN 1)
  refine wpAnyH_genT fun X hX => ?_
  change X = W7.drew at hX
  change Hid (Blk W7.drew _ _ _) at H7
  rw [← hX] at H7 hS
  clear hX HF
  refine wpAnyH_take (i := 1) (v := ?_) rfl (by kernel_rfl) (by kernel_rfl) (by kernel_rfl) (fun _ _ _ h => h) (Or.inl ⟨by rfl, ?_⟩) hS ?_
  rotate_left
  ·(intro w _; go_simp; try with_reducible rfl)
  refine wpAnyH_take (i := 2) (v := ?_) rfl (by kernel_rfl) (by kernel_rfl) (by kernel_rfl) (fun _ _ _ h => h) (Or.inl ⟨by rfl, ?_⟩) hS ?_
  rotate_left
  ·(intro w _; go_simp; try with_reducible rfl)
  refine wpAnyH_take (i := 3) (v := .agg l1C.cs) rfl (by kernel_rfl) (by kernel_rfl) (by kernel_rfl) (fun _ _ _ h => h) (yields_en (by rfl) (.tmp 84) (by rfl) ab (off + 11) l1C (fun W h => h.out.at_.2.2) (by go_simp)) hS ?_
  refine wpAnyH_ready (rs := [0]) (by kernel_rfl) (by simp) (AllReadyH.cons rfl (fun K hK => ?_) AllReadyH.nil)
  refine step_load_blk (by rfl) 103 (.tmp 7) (by rfl) g7 0 20 H7.out q0.cs (by rfl) (st_ext q0) Tryz.underlying103 infoSta (st_le q0) ?_
  refine hK.out _ _ hS (fun hS => ?_)
  clear hK K
  refine wpAnyH_ready (rs := [4]) (by kernel_rfl) (by simp) (AllReadyH.cons rfl (fun K hK => ?_) AllReadyH.nil)
  go_simp
  refine (q_more_any X).mono ?_
  rintro e Y ⟨A, c, B, d, rfl, hl, hb⟩
  have HL := Lib.hid hl
  have H7b := Lib.hid (H7.out.bel hb)
  have hS1 : Hid (F8 w0 kb cb 0 kg cg 0 sb b ab off Y) := Lib.hid (hS.out.go hb)
  clear hl hb H7
  go_simp
  refine hK.out _ _ hS1 (fun _ => ?_)
  clear hK K hS
  refine wpAnyH_take (i := 5) (v := ?_) rfl (by kernel_rfl) (by kernel_rfl) (by kernel_rfl) (fun _ _ _ h => h) (Or.inl ⟨by rfl, ?_⟩) hS1 ?_
  rotate_left
  ·(intro w _; go_simp; try with_reducible rfl)
  refine wpAnyH_take (i := 6) (v := ?_) rfl (by kernel_rfl) (by kernel_rfl) (by kernel_rfl) (fun _ _ _ h => h) (Or.inl ⟨by rfl, ?_⟩) hS1 ?_
  rotate_left
  ·(intro w _; go_simp; try with_reducible rfl)
  have HST : ∀ Z, Blk Z g7 103 (q1.lists A c B d).cs → Ch [g7] Y Z → Hid (Blk Z g7 103 (q1.lists A c B d).cs ∧ LsAt q1 X.heap.size Z A c B d) ∧ Hid (F8 w0 kb cb 0 kg cg 0 sb b ab off Z) := fun Z h1 h2 => ⟨Lib.hid ⟨h1, own_chT HL.out.r1 h2 H7b.out.kdT (by decide), own_chT HL.out.r2 h2 H7b.out.kdT (by decide), HL.out.n1, HL.out.n2⟩, Lib.hid (hS1.out.own h2 H7b.out.kdT HG7.out.1 HG7.out.2 (by decide) (by decide) (by decide) (by decide))⟩
  refine wpAnyH_ready (rs := [7, 8]) (by kernel_rfl) (by simp) (AllReadyH.cons rfl (fun K hK => ?_) (AllReadyH.cons rfl (fun K hK => ?_) AllReadyH.nil))
  ·go_simp
   refine hK.out _ _ hS1 (fun _ => ?_)
   clear hK K
   refine wpAnyH_ready (rs := [8]) (by kernel_rfl) (by simp) (AllReadyH.cons rfl (fun K hK => ?_) AllReadyH.nil)
   refine step_store_part (by rfl) 103 (.tmp 7) (.tmp 87) (by rfl) g7 0 H7b.out (q1.lists A c B d).cs (q1.lists A c B d).cs (by rfl) (by rfl) (Nat.le_refl 20) infoSta (stcs_one _) (st_over _ rfl) ?_
   intro Z hz1 hz2
   obtain ⟨HR, hS2⟩ := HST Z hz1 hz2
   refine hK.out _ _ hS2 (fun _ => ?_)
   clear hK K hz1 hz2
   refine wpAnyH_take (i := 9) (v := ?_) rfl (by kernel_rfl) (by kernel_rfl) (by kernel_rfl) (fun _ _ _ h => h) (Or.inl ⟨by rfl, ?_⟩) hS2 ?_
   rotate_left
   ·(intro w _; go_simp; try with_reducible rfl)
   refine wpAnyH_done (by kernel_rfl) ?_ _
   go_simp
   go_wp2_with fail
   go_meet
   exact ⟨A, c, B, d, X.heap.size, rfl, HR, hS2⟩
  ·refine step_store_part (by rfl) 103 (.tmp 7) (.tmp 87) (by rfl) g7 0 H7b.out (q1.lists A c B d).cs (q1.lists A c B d).cs (by rfl) (by rfl) (Nat.le_refl 20) infoSta (stcs_one _) (st_over _ rfl) ?_
   intro Z hz1 hz2
   obtain ⟨HR, hS2⟩ := HST Z hz1 hz2
   refine hK.out _ _ hS2 (fun _ => ?_)
   clear hK K hz1 hz2
   refine wpAnyH_take (i := 7) (v := ?_) rfl (by kernel_rfl) (by kernel_rfl) (by kernel_rfl) (fun _ _ _ h => h) (Or.inl ⟨by rfl, ?_⟩) hS2 ?_
   rotate_left
   ·(intro w _; go_simp; try with_reducible rfl)
   refine wpAnyH_take (i := 9) (v := ?_) rfl (by kernel_rfl) (by kernel_rfl) (by kernel_rfl) (fun _ _ _ h => h) (Or.inl ⟨by rfl, ?_⟩) hS2 ?_
   rotate_left
   ·(intro w _; go_simp; try with_reducible rfl)
   refine wpAnyH_done (by kernel_rfl) ?_ _
   go_simp
   go_wp2_with fail
   go_meet
   exact ⟨A, c, B, d, X.heap.size, rfl, HR, hS2⟩
 case rest =>
  clear H7 HF
  obtain ⟨A1, c1, B1, d1, N7, rfl, h7, HF⟩ := hcut
  have H7 := Lib.hid (StB.mk_ h7.out.1 h7.out.2)
  clear h7
  have HC0 := Lib.hid HF.out.at_.2.1
  go_wp2_with (refine wpList_load_pt rfl (.tmp 93) rfl ab off (by rfl) tx11 0 (l0_pt HC0.out) ?_)
  refine (cname_gen tx11 0 _ (by rw [tx11_size]; decide)).mono ?_
  rintro e V1 ⟨rfl, hb⟩
  rw [show nameO tx11 0 = ch11 from rfl]
  replace HF := Lib.hid (HF.out.go hb)
  replace H7 := Lib.hid (H7.out.bel hb)
  clear hb HC0
  go_wp2_with fail
  refine (voucher_any ch11 60 _ (by rw [show ch11.size = 16 from nameO_size _ _]; decide) (by decide)).mono ?_
  rintro e V2 ⟨rfl, hb⟩
  replace HF := Lib.hid (HF.out.go hb)
  replace H7 := Lib.hid (H7.out.bel hb)
  clear hb
  go_wp2_with fail
  refine (ksign_ok kb cb sdC (vouchB ch11 60) 1 0 _ (by decide) (by decide) (by decide) (by rw [vouchB_size, show ch11.size = 16 from nameO_size _ _]; decide) HF.out.t.kc).mono ?_
  rintro e V3 ⟨rfl, hk, hc⟩
  rw [show signB sdC 1 0 (vouchB ch11 60) = sv60 from rfl]
  replace H7 := Lib.hid (H7.out.ch hc HF.out.t.kc.cnt (by decide) (by decide) (by decide))
  replace HF := Lib.hid (HF.out.signC hk hc)
  clear hk hc
  go_wp2_with (refine wpList_load_blk rfl 103 (.tmp 7) rfl g7 0 20 H7.out.blk (q1.lists A1 c1 B1 d1).cs (by rfl) (st_ext _) Tryz.underlying103 infoSta (st_le _) ?_)
  refine (q_vou_any A1 c1 B1 d1 V3 H7.out.mem).mono ?_
  rintro e V4 ⟨A2, c2, B2, d2, rfl, hl, hb⟩
  replace HF := Lib.hid (HF.out.go hb)
  have HL := Lib.hid hl
  clear hb hl H7
  go_upto_region 13 with (refine wpList_store_part rfl 103 (.tmp 14) (.tmp 104) rfl V4.heap.size 0 (cs := zSt) (Blk.new _ _ _) (q2.lists A2 c2 B2 d2).cs (q2.lists A2 c2 B2 d2).cs (by rfl) (by rfl) (Nat.le_refl 20) infoSta (stcs_one _) (st_over _ rfl) ?_; intro V5 hb1 hc1; have hb := bel_st' hc1; have H14 := Lib.hid (StB.mk_ hb1 (HL.out.bel hb)); replace HF := Lib.hid (HF.out.go hb); clear hb1 hc1 hb HL)
  try go_frame
  generalize V4.heap.size = g14 at H14 ⊢
  have hsrt := HF.out.s.ut.srt
  have hokp := HF.out.s.ut.ok
  have HSO := Lib.hid (And.intro hsrt hokp)
  have hmk := mmake_ok (q2.lists A2 c2 B2 d2) kg cg 0 0 sdG V5 (q2_fit.lists_ A2 c2 B2 d2) H14.out.mem (by show q2.tops.length ≤ 900; decide) (q_ok A2 c2 B2 d2 hsrt hokp) HF.out.t.kg (by decide) (by decide) (by decide)
  rw [q_core A2 c2 B2 d2 hsrt hokp] at hmk
  have hs1 : (signB sdG 0 0 (coreOn L11 2 O11)).size ≤ 400 := by rw [signB_size sdG (by decide)]; decide
  have hv1 : verB rG (coreOn L11 2 O11) (signB sdG 0 0 (coreOn L11 2 O11)) = true := ver_sign sdG (by decide) (by decide) _
  generalize signB sdG 0 0 (coreOn L11 2 O11) = sg1 at hmk hs1 hv1
  have HMK := Lib.hid hmk
  have HS1 := Lib.hid hs1
  have HV1 := Lib.hid hv1
  clear hmk hs1 hv1 hsrt hokp
  go_wp2_with (refine wpList_load_blk rfl 103 (.tmp 14) rfl g14 0 20 H14.out.blk (q2.lists A2 c2 B2 d2).cs (by rfl) (st_ext _) Tryz.underlying103 infoSta (st_le _) ?_)
  refine HMK.out.mono ?_
  rintro e V6 ⟨A3, c3, B3, d3, P3, p3, rfl, hr, hk, hc⟩
  obtain ⟨t1, ht1⟩ : ∃ t1, t1 = sgA (buildX (q2.lists A2 c2 B2 d2) A3 c3 B3 d3 P3 p3) sg1 := ⟨_, rfl⟩
  have HE1 : Hid (checkE L11 t1 5 = 0) := Lib.hid (by rw [ht1]; exact q_check A2 c2 B2 d2 A3 c3 B3 d3 P3 p3 HSO.out.1 HSO.out.2 HS1.out HV1.out 5)
  have HX1 : Hid (TxOk t1) := Lib.hid (by rw [ht1]; exact q_txok A2 c2 B2 d2 A3 c3 B3 d3 P3 p3 sg1)
  have HO1 : Hid (t1.outs = O11) := Lib.hid (by rw [ht1]; exact q_outs A2 c2 B2 d2 A3 c3 B3 d3 P3 p3 sg1)
  rw [← ht1] at hr ⊢
  have HR1 := Lib.hid hr
  replace H14 := Lib.hid (H14.out.ch hc HF.out.t.kg.cnt (by decide) (by decide) (by decide))
  replace HF := Lib.hid (HF.out.signG hk hc)
  clear ht1 hr hk hc HMK HS1 HV1
  go_upto_region 14 with (refine wpList_store_part rfl 53 (.tmp 16) (.tmp 110) rfl V6.heap.size 0 (cs := zTx) (Blk.new _ _ _) t1.cs t1.cs (by rfl) (by rfl) (Nat.le_refl 6) infoTx (txncs_one t1) (txn_over t1 rfl) ?_; intro V7 hb1 hc1; have hb := bel_st' hc1; have H16 := Lib.hid hb1; replace H14 := Lib.hid (H14.out.bel hb); replace HF := Lib.hid (HF.out.go hb); replace HR1 := Lib.hid (HR1.out.bel hb); clear hb1 hc1 hb)
  try go_frame
  generalize V6.heap.size = g16 at H16 ⊢
  go_wp2_with (refine wpList_load_blk rfl 103 (.tmp 14) rfl g14 0 20 H14.out.blk (q2.lists A2 c2 B2 d2).cs (by rfl) (st_ext _) Tryz.underlying103 infoSta (st_le _) ?_)
  refine (mmake_used (q2.lists A2 c2 B2 d2) kg cg 0 1 sdG V7 (q2_fit.lists_ A2 c2 B2 d2) H14.out.mem (by show q2.tops.length ≤ 900; decide) (q_ok A2 c2 B2 d2 HSO.out.1 HSO.out.2) HF.out.t.kg (by decide) (by decide) (by decide)).mono ?_
  rintro e V8 ⟨rfl, hb⟩
  replace HF := Lib.hid (HF.out.go hb)
  replace H16 := Lib.hid (H16.out.bel hb)
  replace HR1 := Lib.hid (HR1.out.bel hb)
  clear hb H14
  go_upto_region 15 with (refine wpList_store_part rfl 53 (.tmp 18) (.tmp 116) rfl V8.heap.size 0 (cs := zTx) (Blk.new _ _ _) zTx zTx (by rfl) (by rfl) (Nat.le_refl 6) infoTx zTx_one (txn_over zT rfl) ?_; intro V9 hb1 hc1; have hb := bel_st' hc1; replace H16 := Lib.hid (H16.out.bel hb); replace HF := Lib.hid (HF.out.go hb); replace HR1 := Lib.hid (HR1.out.bel hb); clear hb1 hc1 hb)
  try go_frame
  generalize V8.heap.size = g18
  go_wp2_with fail
  refine (kroot_any kb cb sdC 1 1 _ HF.out.t.kc).mono ?_
  rintro e V ⟨rfl, rfl⟩
  rw [rC_eq]
  go_wp2_with fail
  refine (show Calls Tryz.prog 35 #[.slice (some ⟨ab, off, none⟩) 2 c, .string rC] _ _ from cback_gen (some ⟨ab, off, none⟩) L11 c rC _ HF.out.sl (by decide) l11_am).mono ?_
  rintro e V10 ⟨tb, rfl, ho, _, hb⟩
  rw [k_ok HSO.out.1 HSO.out.2]
  obtain ⟨hr, A4, c4, B4, d4, htb⟩ := ho (k_ok HSO.out.1 HSO.out.2)
  have HRB := Lib.hid hr
  have HTB := Lib.hid htb
  replace HF := Lib.hid (HF.out.go hb)
  replace H16 := Lib.hid (H16.out.bel hb)
  replace HR1 := Lib.hid (HR1.out.bel hb)
  clear hr htb ho hb
  have HG16 : Hid (g16 < V10.heap.size) := Lib.hid H16.out.lt
  go_upto_region 16 with (refine wpList_store_part rfl 53 (.tmp 20) (.tmp 123) rfl V10.heap.size 0 (cs := zTx) (Blk.new _ _ _) tb.cs tb.cs (by rfl) (by rfl) (Nat.le_refl 6) infoTx (txncs_one tb) (txn_over tb rfl) ?_; intro V11 hb1 hc1; have hb := bel_st' hc1; have H20 := Lib.hid hb1; have HG20 : Hid (ab < V10.heap.size ∧ w0.heap.size ≤ V10.heap.size) := Lib.hid ⟨HF.out.at_.1, HF.out.bel.size⟩; replace H16 := Lib.hid (H16.out.bel hb); replace HF := Lib.hid (HF.out.go hb); replace HR1 := Lib.hid (HR1.out.bel hb); replace HRB := Lib.hid (HRB.out.bel hb); clear hb1 hc1 hb)
  try go_frame
  generalize V10.heap.size = g20 at H20 HG16 HG20 HRB ⊢
  have hsg := csigned_gen tb kb cb 1 1 sdC V11 HRB.out.mem HRB.out.nz (by rw [HTB.out]; show 0 ≤ 1000; omega) (by rw [HTB.out, k_back]; exact p110_z) (by rw [HTB.out]; exact k_right A4 c4 B4 d4 HSO.out.1 HSO.out.2) HF.out.t.kc (by decide) (by decide) (by decide)
  rw [show coreX tb = coreOn L11 3 [payO 110 rC] from by rw [HTB.out]; exact k_core A4 c4 B4 d4 HSO.out.1 HSO.out.2] at hsg
  have hs2 : (signB sdC 1 1 (coreOn L11 3 [payO 110 rC])).size ≤ 400 := by rw [signB_size sdC (by decide)]; decide
  have hv2 : verB rC (coreOn L11 3 [payO 110 rC]) (signB sdC 1 1 (coreOn L11 3 [payO 110 rC])) = true := ver_sign sdC (by decide) (by decide) _
  generalize signB sdC 1 1 (coreOn L11 3 [payO 110 rC]) = sg2 at hsg hs2 hv2
  have HSG := Lib.hid hsg
  have HS2 := Lib.hid hs2
  have HV2 := Lib.hid hv2
  clear hsg hs2 hv2
  go_wp2_with (refine wpList_load_blk rfl 53 (.tmp 20) rfl g20 0 6 H20.out tb.cs (by rfl) (txn_ext tb) Tryz.underlying53 infoTx (Nat.le_refl 6) ?_)
  refine HSG.out.mono ?_
  rintro e V12 ⟨A5, c5, B5, d5, P5, p5, rfl, hr, hk, hc⟩
  obtain ⟨t2, ht2⟩ : ∃ t2, t2 = sgA (cpT tb A5 c5 B5 d5 P5 p5) sg2 := ⟨_, rfl⟩
  have HE2 : Hid (checkE L11 t2 8 = 12) := Lib.hid (by rw [ht2, HTB.out]; exact k_late A4 c4 B4 d4 A5 c5 B5 d5 P5 p5 HSO.out.1 HSO.out.2 HS2.out)
  have HE3 : Hid (checkE L11 t2 9 = 0) := Lib.hid (by rw [ht2, HTB.out]; exact k_check A4 c4 B4 d4 A5 c5 B5 d5 P5 p5 HSO.out.1 HSO.out.2 HS2.out HV2.out)
  have HX2 : Hid (TxOk t2) := Lib.hid (by rw [ht2, HTB.out]; exact k_txok A4 c4 B4 d4 A5 c5 B5 d5 P5 p5 sg2)
  have HO2 : Hid (t2.outs = [payO 110 rC]) := Lib.hid (by rw [ht2, HTB.out]; exact k_outs A4 c4 B4 d4 A5 c5 B5 d5 P5 p5 sg2)
  rw [← ht2] at hr ⊢
  have HR2 := Lib.hid hr
  have h20n : g20 ≠ cb := H20.out.ne_ HF.out.t.kc.cnt (by decide)
  have h16n : g16 ≠ cb := H16.out.ne_ HF.out.t.kc.cnt (by decide)
  replace H20 := Lib.hid (H20.out.ch hc (by simpa using h20n))
  replace H16 := Lib.hid (H16.out.ch hc (by simpa using h16n))
  replace HR1 := Lib.hid (HR1.out.ch hc HF.out.t.kc.cnt.kdT (by decide) (by decide) (by decide))
  replace HF := Lib.hid (HF.out.signC hk hc)
  clear ht2 hr hk hc HSG HS2 HV2 HRB HTB h20n h16n
  go_upto_region 17 with (refine wpList_store_part rfl 53 (.tmp 20) (.tmp 129) rfl g20 0 H20.out t2.cs t2.cs (by rfl) (by rfl) (Nat.le_refl 6) infoTx (txncs_one t2) (txn_over t2 rfl) ?_; intro V13 hb1 hc1; have HQ : Hid (Q8 w0 kb cb kg cg sb b ab off g16 V5.heap.size t1 g20 V11.heap.size t2 V13) := Lib.hid ⟨HF.out.own hc1 H20.out.kdT HG20.out.1 HG20.out.2 (by decide) (by decide) (by decide) (by decide), H16.out.ch hc1 (by have := HG16.out; simp; omega), HR1.out.ch hc1 H20.out.kdT (by decide) (by decide) (by decide), hb1, HR2.out.ch hc1 H20.out.kdT (by decide) (by decide) (by decide)⟩; clear hb1 hc1)
  try go_frame
  clear HF H16 HR1 H20 HR2 HG16 HG20
  generalize V5.heap.size = N1 at HQ
  generalize V11.heap.size = N2 at HQ
  go_wp2_with fail
  refine (kroot_any kb cb sdC 1 2 _ HQ.out.f.t.kc).mono ?_
  rintro e V ⟨rfl, rfl⟩
  rw [rC_eq]
  go_wp2_with fail
  refine (show Calls Tryz.prog 35 #[.slice none 0 0, .string rC] _ _ from cback_gen none [] 0 rC _ (Sl.nil _ _ _ _ _) (by decide) (fun e h => by cases h)).mono ?_
  rintro e V14 ⟨tn, rfl, _, hz, hb⟩
  obtain rfl := hz (by rw [k_nil]; decide)
  rw [k_nil, show zT.cs = zTx from rfl]
  replace HQ := Lib.hid (HQ.out.go hb)
  clear hz hb
  go_upto_region 18 with (refine wpList_store_part rfl 53 (.tmp 23) (.tmp 135) rfl V14.heap.size 0 (cs := zTx) (Blk.new _ _ _) zTx zTx (by rfl) (by rfl) (Nat.le_refl 6) infoTx zTx_one (txn_over zT rfl) ?_; intro V15 hb1 hc1; have hb := bel_st' hc1; replace HQ := Lib.hid (HQ.out.go hb); clear hb1 hc1 hb)
  try go_frame
  generalize V14.heap.size = g23
  go_cut [25] from 137 to 144 (fun v25 wx => ∃ g25 : Nat, v25 = .pointer (some ⟨g25, 0, none⟩) ∧ Hid (Q9 w0 kb cb kg cg sb b ab off g16 N1 t1 g20 N2 t2 g25 wx))
  case first =>
   refine wp_region_held_drew (S := fun W => Hid (Q8 w0 kb cb kg cg sb b ab off g16 N1 t1 g20 N2 t2 W)) (by kernel_rfl) (Lib.hid (HQ.out.go (Below.refl _ _).drew)) (fun hS => ?_)
   refine wpAnyH_genT fun X hX => ?_
   rw [← hX] at hS
   clear hX HQ
   refine wpAnyH_take (i := 0) (v := ?_) rfl (by kernel_rfl) (by kernel_rfl) (by kernel_rfl) (fun _ _ _ h => h) (Or.inl ⟨by rfl, ?_⟩) hS ?_
   rotate_left
   ·(intro w _; go_simp; try with_reducible rfl)
   refine wpAnyH_take (i := 1) (v := ?_) rfl (by kernel_rfl) (by kernel_rfl) (by kernel_rfl) (fun _ _ _ h => h) (Or.inl ⟨by rfl, ?_⟩) hS ?_
   rotate_left
   ·(intro w _; go_simp; try with_reducible rfl)
   refine wpAnyH_take (i := 2) (v := ?_) rfl (by kernel_rfl) (by kernel_rfl) (by kernel_rfl) (fun _ _ _ h => h) (Or.inl ⟨by rfl, ?_⟩) hS ?_
   rotate_left
   ·(intro w _; go_simp; try with_reducible rfl)
   refine wpAnyH_take (i := 3) (v := .agg #[.string tx11, .int .i64 0]) rfl (by kernel_rfl) (by kernel_rfl) (by kernel_rfl) (fun _ _ _ h => h) (yields_pt (by rfl) (.tmp 139) (by rfl) ab off tx11 0 (fun W h => l0_pt h.out.f.at_.2.1) (by go_simp)) hS ?_
   refine wpAnyH_take (i := 4) (v := ?_) rfl (by kernel_rfl) (by kernel_rfl) (by kernel_rfl) (fun _ _ _ h => h) (Or.inl ⟨by rfl, ?_⟩) hS ?_
   rotate_left
   ·(intro w _; go_simp; try with_reducible rfl)
   refine wpAnyH_ready (rs := [5, 8]) (by kernel_rfl) (by simp) (AllReadyH.cons rfl (fun K hK => ?_) (AllReadyH.cons rfl (fun K hK => ?_) AllReadyH.nil))
   ·go_simp
    refine ((kroot_any kb cb sdC 1 2 X hS.out.f.t.kc)).mono ?_
    rintro e Y ⟨rfl, hq⟩
    rw [← hq, rC_eq]
    clear hq Y
    go_simp
    refine hK.out _ _ hS (fun _ => ?_)
    clear hK K
    refine wpAnyH_take (i := 6) (v := ?_) rfl (by kernel_rfl) (by kernel_rfl) (by kernel_rfl) (fun _ _ _ h => h) (Or.inl ⟨by rfl, ?_⟩) hS ?_
    rotate_left
    ·(intro w _; go_simp; try with_reducible rfl)
    refine wpAnyH_take (i := 7) (v := ?_) rfl (by kernel_rfl) (by kernel_rfl) (by kernel_rfl) (fun _ _ _ h => h) (Or.inl ⟨by rfl, ?_⟩) hS ?_
    rotate_left
    ·(intro w _; go_simp; try with_reducible rfl)
    refine wpAnyH_ready (rs := [8]) (by kernel_rfl) (by simp) (AllReadyH.cons rfl (fun K hK => ?_) AllReadyH.nil)
    go_simp
    refine hK.out _ _ (Lib.hid (hS.out.go ((Below.refl _ _).alloc (Nat.le_refl _) _))) (fun HSN => ?_)
    clear hK K
    refine wpAnyH_genT fun X2 hX2 => ?_
    have HZB : Hid (Blk X2 X.heap.size 89 zEn.cs) := Lib.hid (by rw [hX2]; exact Blk.new _ _ _)
    have HBX : Hid (Below X.heap.size X X2) := Lib.hid (by rw [hX2]; exact (Below.refl _ _).alloc (Nat.le_refl _) _)
    rw [← hX2] at HSN
    clear hX2
    refine wpAnyH_ready (rs := [9]) (by kernel_rfl) (by simp) (AllReadyH.cons rfl (fun K hK => ?_) AllReadyH.nil)
    refine step_store_part (by rfl) 89 (.tmp 25) (.tmp 144) (by rfl) X.heap.size 0 HZB.out p50.cs p50.cs (by rfl) (by rfl) (Nat.le_refl 11) infoEnt (encs_one _) (en_over _ rfl) ?_
    intro Z hz1 hz2
    have HEN := Lib.hid hz1
    have HCZ := Lib.hid hz2
    have hbz := bel_st3 HBX.out hz2
    refine hK.out _ _ (Lib.hid (hS.out.go hbz)) (fun hSZ => ?_)
    clear hK K hz1 hz2 hbz
    refine wpAnyH_done (by kernel_rfl) ?_ _
    go_simp
    go_wp2_with fail
    go_meet
    exact ⟨_, rfl, Lib.hid ⟨hSZ.out, HEN.out⟩⟩
   ·go_simp
    refine hK.out _ _ (Lib.hid (hS.out.go ((Below.refl _ _).alloc (Nat.le_refl _) _))) (fun HSN => ?_)
    clear hK K
    refine wpAnyH_genT fun X2 hX2 => ?_
    have HZB : Hid (Blk X2 X.heap.size 89 zEn.cs) := Lib.hid (by rw [hX2]; exact Blk.new _ _ _)
    have HBX : Hid (Below X.heap.size X X2) := Lib.hid (by rw [hX2]; exact (Below.refl _ _).alloc (Nat.le_refl _) _)
    rw [← hX2] at HSN
    clear hX2
    refine wpAnyH_ready (rs := [5]) (by kernel_rfl) (by simp) (AllReadyH.cons rfl (fun K hK => ?_) AllReadyH.nil)
    go_simp
    refine ((kroot_any kb cb sdC 1 2 X2 HSN.out.f.t.kc)).mono ?_
    rintro e Y ⟨rfl, hq⟩
    rw [← hq, rC_eq]
    clear hq Y
    go_simp
    refine hK.out _ _ HSN (fun _ => ?_)
    clear hK K
    refine wpAnyH_take (i := 6) (v := ?_) rfl (by kernel_rfl) (by kernel_rfl) (by kernel_rfl) (fun _ _ _ h => h) (Or.inl ⟨by rfl, ?_⟩) HSN ?_
    rotate_left
    ·(intro w _; go_simp; try with_reducible rfl)
    refine wpAnyH_take (i := 7) (v := ?_) rfl (by kernel_rfl) (by kernel_rfl) (by kernel_rfl) (fun _ _ _ h => h) (Or.inl ⟨by rfl, ?_⟩) HSN ?_
    rotate_left
    ·(intro w _; go_simp; try with_reducible rfl)
    refine wpAnyH_ready (rs := [9]) (by kernel_rfl) (by simp) (AllReadyH.cons rfl (fun K hK => ?_) AllReadyH.nil)
    refine step_store_part (by rfl) 89 (.tmp 25) (.tmp 144) (by rfl) X.heap.size 0 HZB.out p50.cs p50.cs (by rfl) (by rfl) (Nat.le_refl 11) infoEnt (encs_one _) (en_over _ rfl) ?_
    intro Z hz1 hz2
    have HEN := Lib.hid hz1
    have HCZ := Lib.hid hz2
    have hbz := bel_st3 HBX.out hz2
    refine hK.out _ _ (Lib.hid (hS.out.go hbz)) (fun hSZ => ?_)
    clear hK K hz1 hz2 hbz
    refine wpAnyH_done (by kernel_rfl) ?_ _
    go_simp
    go_wp2_with fail
    go_meet
    exact ⟨_, rfl, Lib.hid ⟨hSZ.out, HEN.out⟩⟩
  case rest =>
   clear HQ
   obtain ⟨g25, rfl, HQ⟩ := hcut
   try go_upto_region 19 with fail
   try go_frame
   go_cut [26, 27] from 145 to 152 (fun v26 v27 wx => ∃ (g26 N3 : Nat) (t3 : Txn), v26 = .pointer (some ⟨g26, 0, none⟩) ∧ v27 = .int .i64 0 ∧ Hid (Q10 w0 kb cb kg cg sb b ab off g16 N1 t1 g20 N2 t2 g25 g26 N3 t3 wx))
   case first =>
    refine wp_region_held_drew (S := fun W => Hid (Q9 w0 kb cb kg cg sb b ab off g16 N1 t1 g20 N2 t2 g25 W)) (by kernel_rfl) (Lib.hid (HQ.out.go (Below.refl _ _).drew)) (fun hS => ?_)
    refine wpAnyH_genT fun X hX => ?_
    rw [← hX] at hS
    clear hX HQ
    refine wpAnyH_take (i := 0) (v := .agg p50.cs) rfl (by kernel_rfl) (by kernel_rfl) (by kernel_rfl) (fun _ _ _ h => h) (yields_en (by rfl) (.tmp 25) (by rfl) g25 0 p50 (fun W h => en_at1 h.out.e) (by go_simp)) hS ?_
    refine wpAnyH_take (i := 1) (v := ?_) rfl (by kernel_rfl) (by kernel_rfl) (by kernel_rfl) (fun _ _ _ h => h) (Or.inl ⟨by rfl, ?_⟩) hS ?_
    rotate_left
    ·(intro w _; go_simp; try with_reducible rfl)
    refine wpAnyH_ready (rs := [2, 8]) (by kernel_rfl) (by simp) (AllReadyH.cons rfl (fun K hK => ?_) (AllReadyH.cons rfl (fun K hK => ?_) AllReadyH.nil))
    ·go_simp
     refine ((kroot_any kg cg sdG 0 1 X hS.out.q.f.t.kg)).mono ?_
     rintro e Y ⟨rfl, hq⟩
     rw [← hq, rG_eq]
     clear hq Y
     go_simp
     refine hK.out _ _ hS (fun _ => ?_)
     clear hK K
     refine wpAnyH_take (i := 3) (v := ?_) rfl (by kernel_rfl) (by kernel_rfl) (by kernel_rfl) (fun _ _ _ h => h) (Or.inl ⟨by rfl, ?_⟩) hS ?_
     rotate_left
     ·(intro w _; go_simp; try with_reducible rfl)
     refine wpAnyH_ready (rs := [4, 8]) (by kernel_rfl) (by simp) (AllReadyH.cons rfl (fun K hK => ?_) (AllReadyH.cons rfl (fun K hK => ?_) AllReadyH.nil))
     ·go_simp
      refine (cfund_any p50 (payO 30 rG) X (by decide) (by decide)).mono ?_
      rintro e Y ⟨t3, rfl, hr, _, hb⟩
      obtain ⟨hr, A3, c3, B3, d3, ht⟩ := hr f_ok
      have HR := Lib.hid hr
      have HO3 : Hid (t3.outs = [payO 30 rG, payO 10 rC]) := Lib.hid (by rw [ht]; exact f_out)
      clear hr ht
      rw [f_ok]
      go_simp
      refine hK.out _ _ (Lib.hid (hS.out.go hb)) (fun hS2 => ?_)
      clear hK K hS hb
      refine wpAnyH_take (i := 5) (v := ?_) rfl (by kernel_rfl) (by kernel_rfl) (by kernel_rfl) (fun _ _ _ h => h) (Or.inl ⟨by rfl, ?_⟩) hS2 ?_
      rotate_left
      ·(intro w _; go_simp; try with_reducible rfl)
      refine wpAnyH_take (i := 6) (v := ?_) rfl (by kernel_rfl) (by kernel_rfl) (by kernel_rfl) (fun _ _ _ h => h) (Or.inl ⟨by rfl, ?_⟩) hS2 ?_
      rotate_left
      ·(intro w _; go_simp; try with_reducible rfl)
      refine wpAnyH_ready (rs := [7, 8]) (by kernel_rfl) (by simp) (AllReadyH.cons rfl (fun K hK => ?_) (AllReadyH.cons rfl (fun K hK => ?_) AllReadyH.nil))
      ·go_simp
       refine hK.out _ _ hS2 (fun _ => ?_)
       clear hK K
       refine wpAnyH_ready (rs := [8]) (by kernel_rfl) (by simp) (AllReadyH.cons rfl (fun K hK => ?_) AllReadyH.nil)
       go_simp
       refine hK.out _ _ (Lib.hid (hS2.out.go ((Below.refl _ _).alloc (Nat.le_refl _) _))) (fun HSN => ?_)
       clear hK K
       refine wpAnyH_genT fun X2 hX2 => ?_
       have HZB : Hid (Blk X2 Y.heap.size 53 zTx) := Lib.hid (by rw [hX2]; exact Blk.new _ _ _)
       have HBX : Hid (Below Y.heap.size Y X2) := Lib.hid (by rw [hX2]; exact (Below.refl _ _).alloc (Nat.le_refl _) _)
       rw [← hX2] at HSN
       clear hX2
       try replace HR := Lib.hid (TxRows.bel HR.out HBX.out)
       refine wpAnyH_ready (rs := [9]) (by kernel_rfl) (by simp) (AllReadyH.cons rfl (fun K hK => ?_) AllReadyH.nil)
       refine step_store_part (by rfl) 53 (.tmp 26) (.tmp 151) (by rfl) Y.heap.size 0 HZB.out t3.cs t3.cs (by rfl) (by rfl) (Nat.le_refl 6) infoTx (txncs_one t3) (txn_over t3 rfl) ?_
       intro Z hz1 hz2
       have HEN := Lib.hid hz1
       have HCZ := Lib.hid hz2
       have hbz := bel_st3 HBX.out hz2
       refine hK.out _ _ (Lib.hid (hS2.out.go hbz)) (fun hSZ => ?_)
       clear hK K hz1 hz2 hbz
       refine wpAnyH_take (i := 10) (v := ?_) rfl (by kernel_rfl) (by kernel_rfl) (by kernel_rfl) (fun _ _ _ h => h) (Or.inl ⟨by rfl, ?_⟩) hSZ ?_
       rotate_left
       ·(intro w _; go_simp; try with_reducible rfl)
       refine wpAnyH_done (by kernel_rfl) ?_ _
       go_simp
       go_wp2_with fail
       go_meet
       exact ⟨_, _, t3, rfl, rfl, Lib.hid ⟨hSZ.out, HEN.out, HR.out.ch HCZ.out HZB.out.kdT (by decide) (by decide) (by decide), HO3.out⟩⟩
      ·go_simp
       refine hK.out _ _ (Lib.hid (hS2.out.go ((Below.refl _ _).alloc (Nat.le_refl _) _))) (fun HSN => ?_)
       clear hK K
       refine wpAnyH_genT fun X2 hX2 => ?_
       have HZB : Hid (Blk X2 Y.heap.size 53 zTx) := Lib.hid (by rw [hX2]; exact Blk.new _ _ _)
       have HBX : Hid (Below Y.heap.size Y X2) := Lib.hid (by rw [hX2]; exact (Below.refl _ _).alloc (Nat.le_refl _) _)
       rw [← hX2] at HSN
       clear hX2
       try replace HR := Lib.hid (TxRows.bel HR.out HBX.out)
       refine wpAnyH_ready (rs := [7, 9]) (by kernel_rfl) (by simp) (AllReadyH.cons rfl (fun K hK => ?_) (AllReadyH.cons rfl (fun K hK => ?_) AllReadyH.nil))
       ·go_simp
        refine hK.out _ _ HSN (fun _ => ?_)
        clear hK K
        refine wpAnyH_ready (rs := [9]) (by kernel_rfl) (by simp) (AllReadyH.cons rfl (fun K hK => ?_) AllReadyH.nil)
        refine step_store_part (by rfl) 53 (.tmp 26) (.tmp 151) (by rfl) Y.heap.size 0 HZB.out t3.cs t3.cs (by rfl) (by rfl) (Nat.le_refl 6) infoTx (txncs_one t3) (txn_over t3 rfl) ?_
        intro Z hz1 hz2
        have HEN := Lib.hid hz1
        have HCZ := Lib.hid hz2
        have hbz := bel_st3 HBX.out hz2
        refine hK.out _ _ (Lib.hid (hS2.out.go hbz)) (fun hSZ => ?_)
        clear hK K hz1 hz2 hbz
        refine wpAnyH_take (i := 10) (v := ?_) rfl (by kernel_rfl) (by kernel_rfl) (by kernel_rfl) (fun _ _ _ h => h) (Or.inl ⟨by rfl, ?_⟩) hSZ ?_
        rotate_left
        ·(intro w _; go_simp; try with_reducible rfl)
        refine wpAnyH_done (by kernel_rfl) ?_ _
        go_simp
        go_wp2_with fail
        go_meet
        exact ⟨_, _, t3, rfl, rfl, Lib.hid ⟨hSZ.out, HEN.out, HR.out.ch HCZ.out HZB.out.kdT (by decide) (by decide) (by decide), HO3.out⟩⟩
       ·refine step_store_part (by rfl) 53 (.tmp 26) (.tmp 151) (by rfl) Y.heap.size 0 HZB.out t3.cs t3.cs (by rfl) (by rfl) (Nat.le_refl 6) infoTx (txncs_one t3) (txn_over t3 rfl) ?_
        intro Z hz1 hz2
        have HEN := Lib.hid hz1
        have HCZ := Lib.hid hz2
        have hbz := bel_st3 HBX.out hz2
        refine hK.out _ _ (Lib.hid (hS2.out.go hbz)) (fun hSZ => ?_)
        clear hK K hz1 hz2 hbz
        refine wpAnyH_take (i := 7) (v := ?_) rfl (by kernel_rfl) (by kernel_rfl) (by kernel_rfl) (fun _ _ _ h => h) (Or.inl ⟨by rfl, ?_⟩) hSZ ?_
        rotate_left
        ·(intro w _; go_simp; try with_reducible rfl)
        refine wpAnyH_take (i := 10) (v := ?_) rfl (by kernel_rfl) (by kernel_rfl) (by kernel_rfl) (fun _ _ _ h => h) (Or.inl ⟨by rfl, ?_⟩) hSZ ?_
        rotate_left
        ·(intro w _; go_simp; try with_reducible rfl)
        refine wpAnyH_done (by kernel_rfl) ?_ _
        go_simp
        go_wp2_with fail
        go_meet
        exact ⟨_, _, t3, rfl, rfl, Lib.hid ⟨hSZ.out, HEN.out, HR.out.ch HCZ.out HZB.out.kdT (by decide) (by decide) (by decide), HO3.out⟩⟩
     ·go_simp
      refine hK.out _ _ (Lib.hid (hS.out.go ((Below.refl _ _).alloc (Nat.le_refl _) _))) (fun HSN => ?_)
      clear hK K
      refine wpAnyH_genT fun X2 hX2 => ?_
      have HZB : Hid (Blk X2 X.heap.size 53 zTx) := Lib.hid (by rw [hX2]; exact Blk.new _ _ _)
      have HBX : Hid (Below X.heap.size X X2) := Lib.hid (by rw [hX2]; exact (Below.refl _ _).alloc (Nat.le_refl _) _)
      rw [← hX2] at HSN
      clear hX2
      refine wpAnyH_ready (rs := [4]) (by kernel_rfl) (by simp) (AllReadyH.cons rfl (fun K hK => ?_) AllReadyH.nil)
      go_simp
      refine (cfund_any p50 (payO 30 rG) X2 (by decide) (by decide)).mono ?_
      rintro e Y ⟨t3, rfl, hr, _, hb⟩
      obtain ⟨hr, A3, c3, B3, d3, ht⟩ := hr f_ok
      have HR := Lib.hid hr
      have HO3 : Hid (t3.outs = [payO 30 rG, payO 10 rC]) := Lib.hid (by rw [ht]; exact f_out)
      clear hr ht
      rw [f_ok]
      go_simp
      refine hK.out _ _ (Lib.hid (HSN.out.go hb)) (fun hS2 => ?_)
      clear hK K
      replace HZB := Lib.hid (HZB.out.bel hb)
      replace HBX := Lib.hid (HBX.out.trans (hb.mono HBX.out.size))
      clear hb
      refine wpAnyH_take (i := 5) (v := ?_) rfl (by kernel_rfl) (by kernel_rfl) (by kernel_rfl) (fun _ _ _ h => h) (Or.inl ⟨by rfl, ?_⟩) hS2 ?_
      rotate_left
      ·(intro w _; go_simp; try with_reducible rfl)
      refine wpAnyH_take (i := 6) (v := ?_) rfl (by kernel_rfl) (by kernel_rfl) (by kernel_rfl) (fun _ _ _ h => h) (Or.inl ⟨by rfl, ?_⟩) hS2 ?_
      rotate_left
      ·(intro w _; go_simp; try with_reducible rfl)
      refine wpAnyH_ready (rs := [7, 9]) (by kernel_rfl) (by simp) (AllReadyH.cons rfl (fun K hK => ?_) (AllReadyH.cons rfl (fun K hK => ?_) AllReadyH.nil))
      ·go_simp
       refine hK.out _ _ hS2 (fun _ => ?_)
       clear hK K
       refine wpAnyH_ready (rs := [9]) (by kernel_rfl) (by simp) (AllReadyH.cons rfl (fun K hK => ?_) AllReadyH.nil)
       refine step_store_part (by rfl) 53 (.tmp 26) (.tmp 151) (by rfl) X.heap.size 0 HZB.out t3.cs t3.cs (by rfl) (by rfl) (Nat.le_refl 6) infoTx (txncs_one t3) (txn_over t3 rfl) ?_
       intro Z hz1 hz2
       have HEN := Lib.hid hz1
       have HCZ := Lib.hid hz2
       have hbz := bel_st3 HBX.out hz2
       refine hK.out _ _ (Lib.hid (hS.out.go hbz)) (fun hSZ => ?_)
       clear hK K hz1 hz2 hbz
       refine wpAnyH_take (i := 10) (v := ?_) rfl (by kernel_rfl) (by kernel_rfl) (by kernel_rfl) (fun _ _ _ h => h) (Or.inl ⟨by rfl, ?_⟩) hSZ ?_
       rotate_left
       ·(intro w _; go_simp; try with_reducible rfl)
       refine wpAnyH_done (by kernel_rfl) ?_ _
       go_simp
       go_wp2_with fail
       go_meet
       exact ⟨_, _, t3, rfl, rfl, Lib.hid ⟨hSZ.out, HEN.out, HR.out.ch HCZ.out HZB.out.kdT (by decide) (by decide) (by decide), HO3.out⟩⟩
      ·refine step_store_part (by rfl) 53 (.tmp 26) (.tmp 151) (by rfl) X.heap.size 0 HZB.out t3.cs t3.cs (by rfl) (by rfl) (Nat.le_refl 6) infoTx (txncs_one t3) (txn_over t3 rfl) ?_
       intro Z hz1 hz2
       have HEN := Lib.hid hz1
       have HCZ := Lib.hid hz2
       have hbz := bel_st3 HBX.out hz2
       refine hK.out _ _ (Lib.hid (hS.out.go hbz)) (fun hSZ => ?_)
       clear hK K hz1 hz2 hbz
       refine wpAnyH_take (i := 7) (v := ?_) rfl (by kernel_rfl) (by kernel_rfl) (by kernel_rfl) (fun _ _ _ h => h) (Or.inl ⟨by rfl, ?_⟩) hSZ ?_
       rotate_left
       ·(intro w _; go_simp; try with_reducible rfl)
       refine wpAnyH_take (i := 10) (v := ?_) rfl (by kernel_rfl) (by kernel_rfl) (by kernel_rfl) (fun _ _ _ h => h) (Or.inl ⟨by rfl, ?_⟩) hSZ ?_
       rotate_left
       ·(intro w _; go_simp; try with_reducible rfl)
       refine wpAnyH_done (by kernel_rfl) ?_ _
       go_simp
       go_wp2_with fail
       go_meet
       exact ⟨_, _, t3, rfl, rfl, Lib.hid ⟨hSZ.out, HEN.out, HR.out.ch HCZ.out HZB.out.kdT (by decide) (by decide) (by decide), HO3.out⟩⟩
    ·go_simp
     refine hK.out _ _ (Lib.hid (hS.out.go ((Below.refl _ _).alloc (Nat.le_refl _) _))) (fun HSN => ?_)
     clear hK K
     refine wpAnyH_genT fun X2 hX2 => ?_
     have HZB : Hid (Blk X2 X.heap.size 53 zTx) := Lib.hid (by rw [hX2]; exact Blk.new _ _ _)
     have HBX : Hid (Below X.heap.size X X2) := Lib.hid (by rw [hX2]; exact (Below.refl _ _).alloc (Nat.le_refl _) _)
     rw [← hX2] at HSN
     clear hX2
     refine wpAnyH_ready (rs := [2]) (by kernel_rfl) (by simp) (AllReadyH.cons rfl (fun K hK => ?_) AllReadyH.nil)
     go_simp
     refine ((kroot_any kg cg sdG 0 1 X2 HSN.out.q.f.t.kg)).mono ?_
     rintro e Y ⟨rfl, hq⟩
     rw [← hq, rG_eq]
     clear hq Y
     go_simp
     refine hK.out _ _ HSN (fun _ => ?_)
     clear hK K
     refine wpAnyH_take (i := 3) (v := ?_) rfl (by kernel_rfl) (by kernel_rfl) (by kernel_rfl) (fun _ _ _ h => h) (Or.inl ⟨by rfl, ?_⟩) HSN ?_
     rotate_left
     ·(intro w _; go_simp; try with_reducible rfl)
     refine wpAnyH_ready (rs := [4]) (by kernel_rfl) (by simp) (AllReadyH.cons rfl (fun K hK => ?_) AllReadyH.nil)
     go_simp
     refine (cfund_any p50 (payO 30 rG) X2 (by decide) (by decide)).mono ?_
     rintro e Y ⟨t3, rfl, hr, _, hb⟩
     obtain ⟨hr, A3, c3, B3, d3, ht⟩ := hr f_ok
     have HR := Lib.hid hr
     have HO3 : Hid (t3.outs = [payO 30 rG, payO 10 rC]) := Lib.hid (by rw [ht]; exact f_out)
     clear hr ht
     rw [f_ok]
     go_simp
     refine hK.out _ _ (Lib.hid (HSN.out.go hb)) (fun hS2 => ?_)
     clear hK K
     replace HZB := Lib.hid (HZB.out.bel hb)
     replace HBX := Lib.hid (HBX.out.trans (hb.mono HBX.out.size))
     clear hb
     refine wpAnyH_take (i := 5) (v := ?_) rfl (by kernel_rfl) (by kernel_rfl) (by kernel_rfl) (fun _ _ _ h => h) (Or.inl ⟨by rfl, ?_⟩) hS2 ?_
     rotate_left
     ·(intro w _; go_simp; try with_reducible rfl)
     refine wpAnyH_take (i := 6) (v := ?_) rfl (by kernel_rfl) (by kernel_rfl) (by kernel_rfl) (fun _ _ _ h => h) (Or.inl ⟨by rfl, ?_⟩) hS2 ?_
     rotate_left
     ·(intro w _; go_simp; try with_reducible rfl)
     refine wpAnyH_ready (rs := [7, 9]) (by kernel_rfl) (by simp) (AllReadyH.cons rfl (fun K hK => ?_) (AllReadyH.cons rfl (fun K hK => ?_) AllReadyH.nil))
     ·go_simp
      refine hK.out _ _ hS2 (fun _ => ?_)
      clear hK K
      refine wpAnyH_ready (rs := [9]) (by kernel_rfl) (by simp) (AllReadyH.cons rfl (fun K hK => ?_) AllReadyH.nil)
      refine step_store_part (by rfl) 53 (.tmp 26) (.tmp 151) (by rfl) X.heap.size 0 HZB.out t3.cs t3.cs (by rfl) (by rfl) (Nat.le_refl 6) infoTx (txncs_one t3) (txn_over t3 rfl) ?_
      intro Z hz1 hz2
      have HEN := Lib.hid hz1
      have HCZ := Lib.hid hz2
      have hbz := bel_st3 HBX.out hz2
      refine hK.out _ _ (Lib.hid (hS.out.go hbz)) (fun hSZ => ?_)
      clear hK K hz1 hz2 hbz
      refine wpAnyH_take (i := 10) (v := ?_) rfl (by kernel_rfl) (by kernel_rfl) (by kernel_rfl) (fun _ _ _ h => h) (Or.inl ⟨by rfl, ?_⟩) hSZ ?_
      rotate_left
      ·(intro w _; go_simp; try with_reducible rfl)
      refine wpAnyH_done (by kernel_rfl) ?_ _
      go_simp
      go_wp2_with fail
      go_meet
      exact ⟨_, _, t3, rfl, rfl, Lib.hid ⟨hSZ.out, HEN.out, HR.out.ch HCZ.out HZB.out.kdT (by decide) (by decide) (by decide), HO3.out⟩⟩
     ·refine step_store_part (by rfl) 53 (.tmp 26) (.tmp 151) (by rfl) X.heap.size 0 HZB.out t3.cs t3.cs (by rfl) (by rfl) (Nat.le_refl 6) infoTx (txncs_one t3) (txn_over t3 rfl) ?_
      intro Z hz1 hz2
      have HEN := Lib.hid hz1
      have HCZ := Lib.hid hz2
      have hbz := bel_st3 HBX.out hz2
      refine hK.out _ _ (Lib.hid (hS.out.go hbz)) (fun hSZ => ?_)
      clear hK K hz1 hz2 hbz
      refine wpAnyH_take (i := 7) (v := ?_) rfl (by kernel_rfl) (by kernel_rfl) (by kernel_rfl) (fun _ _ _ h => h) (Or.inl ⟨by rfl, ?_⟩) hSZ ?_
      rotate_left
      ·(intro w _; go_simp; try with_reducible rfl)
      refine wpAnyH_take (i := 10) (v := ?_) rfl (by kernel_rfl) (by kernel_rfl) (by kernel_rfl) (fun _ _ _ h => h) (Or.inl ⟨by rfl, ?_⟩) hSZ ?_
      rotate_left
      ·(intro w _; go_simp; try with_reducible rfl)
      refine wpAnyH_done (by kernel_rfl) ?_ _
      go_simp
      go_wp2_with fail
      go_meet
      exact ⟨_, _, t3, rfl, rfl, Lib.hid ⟨hSZ.out, HEN.out, HR.out.ch HCZ.out HZB.out.kdT (by decide) (by decide) (by decide), HO3.out⟩⟩
   case rest =>
    clear HQ
    obtain ⟨g26, N3, t3, rfl, rfl, HQ⟩ := hcut
    try go_upto_region 20 with fail
    try go_frame
    go_cut [28, 29] from 153 to 160 (fun v28 v29 wx => ∃ g28 : Nat, v28 = .pointer (some ⟨g28, 0, none⟩) ∧ v29 = .int .i64 11 ∧ Hid (Q10 w0 kb cb kg cg sb b ab off g16 N1 t1 g20 N2 t2 g25 g26 N3 t3 wx))
    case first =>
     refine wp_region_held_drew (S := fun W => Hid (Q10 w0 kb cb kg cg sb b ab off g16 N1 t1 g20 N2 t2 g25 g26 N3 t3 W)) (by kernel_rfl) (Lib.hid (HQ.out.go (Below.refl _ _).drew)) (fun hS => ?_)
     refine wpAnyH_genT fun X hX => ?_
     rw [← hX] at hS
     clear hX HQ
     refine wpAnyH_take (i := 0) (v := .agg p50.cs) rfl (by kernel_rfl) (by kernel_rfl) (by kernel_rfl) (fun _ _ _ h => h) (yields_en (by rfl) (.tmp 25) (by rfl) g25 0 p50 (fun W h => en_at1 h.out.q.e) (by go_simp)) hS ?_
     refine wpAnyH_take (i := 1) (v := ?_) rfl (by kernel_rfl) (by kernel_rfl) (by kernel_rfl) (fun _ _ _ h => h) (Or.inl ⟨by rfl, ?_⟩) hS ?_
     rotate_left
     ·(intro w _; go_simp; try with_reducible rfl)
     refine wpAnyH_ready (rs := [2, 8]) (by kernel_rfl) (by simp) (AllReadyH.cons rfl (fun K hK => ?_) (AllReadyH.cons rfl (fun K hK => ?_) AllReadyH.nil))
     ·go_simp
      refine ((kroot_any kg cg sdG 0 1 X hS.out.q.q.f.t.kg)).mono ?_
      rintro e Y ⟨rfl, hq⟩
      rw [← hq, rG_eq]
      clear hq Y
      go_simp
      refine hK.out _ _ hS (fun _ => ?_)
      clear hK K
      refine wpAnyH_take (i := 3) (v := ?_) rfl (by kernel_rfl) (by kernel_rfl) (by kernel_rfl) (fun _ _ _ h => h) (Or.inl ⟨by rfl, ?_⟩) hS ?_
      rotate_left
      ·(intro w _; go_simp; try with_reducible rfl)
      refine wpAnyH_ready (rs := [4, 8]) (by kernel_rfl) (by simp) (AllReadyH.cons rfl (fun K hK => ?_) (AllReadyH.cons rfl (fun K hK => ?_) AllReadyH.nil))
      ·go_simp
       refine (cfund_any p50 (payO 41 rG) X (by decide) (by decide)).mono ?_
       rintro e Y ⟨t3, rfl, _, _, hb⟩
       rw [f_low]
       go_simp
       refine hK.out _ _ (Lib.hid (hS.out.go hb)) (fun hS2 => ?_)
       clear hK K hS hb
       refine wpAnyH_take (i := 5) (v := ?_) rfl (by kernel_rfl) (by kernel_rfl) (by kernel_rfl) (fun _ _ _ h => h) (Or.inl ⟨by rfl, ?_⟩) hS2 ?_
       rotate_left
       ·(intro w _; go_simp; try with_reducible rfl)
       refine wpAnyH_take (i := 6) (v := ?_) rfl (by kernel_rfl) (by kernel_rfl) (by kernel_rfl) (fun _ _ _ h => h) (Or.inl ⟨by rfl, ?_⟩) hS2 ?_
       rotate_left
       ·(intro w _; go_simp; try with_reducible rfl)
       refine wpAnyH_ready (rs := [7, 8]) (by kernel_rfl) (by simp) (AllReadyH.cons rfl (fun K hK => ?_) (AllReadyH.cons rfl (fun K hK => ?_) AllReadyH.nil))
       ·go_simp
        refine hK.out _ _ hS2 (fun _ => ?_)
        clear hK K
        refine wpAnyH_ready (rs := [8]) (by kernel_rfl) (by simp) (AllReadyH.cons rfl (fun K hK => ?_) AllReadyH.nil)
        go_simp
        refine hK.out _ _ (Lib.hid (hS2.out.go ((Below.refl _ _).alloc (Nat.le_refl _) _))) (fun HSN => ?_)
        clear hK K
        refine wpAnyH_genT fun X2 hX2 => ?_
        have HZB : Hid (Blk X2 Y.heap.size 53 zTx) := Lib.hid (by rw [hX2]; exact Blk.new _ _ _)
        have HBX : Hid (Below Y.heap.size Y X2) := Lib.hid (by rw [hX2]; exact (Below.refl _ _).alloc (Nat.le_refl _) _)
        rw [← hX2] at HSN
        clear hX2
        try replace HR := Lib.hid (TxRows.bel HR.out HBX.out)
        refine wpAnyH_ready (rs := [9]) (by kernel_rfl) (by simp) (AllReadyH.cons rfl (fun K hK => ?_) AllReadyH.nil)
        refine step_store_part (by rfl) 53 (.tmp 28) (.tmp 159) (by rfl) Y.heap.size 0 HZB.out t3.cs t3.cs (by rfl) (by rfl) (Nat.le_refl 6) infoTx (txncs_one t3) (txn_over t3 rfl) ?_
        intro Z hz1 hz2
        have HEN := Lib.hid hz1
        have HCZ := Lib.hid hz2
        have hbz := bel_st3 HBX.out hz2
        refine hK.out _ _ (Lib.hid (hS2.out.go hbz)) (fun hSZ => ?_)
        clear hK K hz1 hz2 hbz
        refine wpAnyH_take (i := 10) (v := ?_) rfl (by kernel_rfl) (by kernel_rfl) (by kernel_rfl) (fun _ _ _ h => h) (Or.inl ⟨by rfl, ?_⟩) hSZ ?_
        rotate_left
        ·(intro w _; go_simp; try with_reducible rfl)
        refine wpAnyH_done (by kernel_rfl) ?_ _
        go_simp
        go_wp2_with fail
        go_meet
        exact ⟨_, rfl, rfl, hSZ⟩
       ·go_simp
        refine hK.out _ _ (Lib.hid (hS2.out.go ((Below.refl _ _).alloc (Nat.le_refl _) _))) (fun HSN => ?_)
        clear hK K
        refine wpAnyH_genT fun X2 hX2 => ?_
        have HZB : Hid (Blk X2 Y.heap.size 53 zTx) := Lib.hid (by rw [hX2]; exact Blk.new _ _ _)
        have HBX : Hid (Below Y.heap.size Y X2) := Lib.hid (by rw [hX2]; exact (Below.refl _ _).alloc (Nat.le_refl _) _)
        rw [← hX2] at HSN
        clear hX2
        try replace HR := Lib.hid (TxRows.bel HR.out HBX.out)
        refine wpAnyH_ready (rs := [7, 9]) (by kernel_rfl) (by simp) (AllReadyH.cons rfl (fun K hK => ?_) (AllReadyH.cons rfl (fun K hK => ?_) AllReadyH.nil))
        ·go_simp
         refine hK.out _ _ HSN (fun _ => ?_)
         clear hK K
         refine wpAnyH_ready (rs := [9]) (by kernel_rfl) (by simp) (AllReadyH.cons rfl (fun K hK => ?_) AllReadyH.nil)
         refine step_store_part (by rfl) 53 (.tmp 28) (.tmp 159) (by rfl) Y.heap.size 0 HZB.out t3.cs t3.cs (by rfl) (by rfl) (Nat.le_refl 6) infoTx (txncs_one t3) (txn_over t3 rfl) ?_
         intro Z hz1 hz2
         have HEN := Lib.hid hz1
         have HCZ := Lib.hid hz2
         have hbz := bel_st3 HBX.out hz2
         refine hK.out _ _ (Lib.hid (hS2.out.go hbz)) (fun hSZ => ?_)
         clear hK K hz1 hz2 hbz
         refine wpAnyH_take (i := 10) (v := ?_) rfl (by kernel_rfl) (by kernel_rfl) (by kernel_rfl) (fun _ _ _ h => h) (Or.inl ⟨by rfl, ?_⟩) hSZ ?_
         rotate_left
         ·(intro w _; go_simp; try with_reducible rfl)
         refine wpAnyH_done (by kernel_rfl) ?_ _
         go_simp
         go_wp2_with fail
         go_meet
         exact ⟨_, rfl, rfl, hSZ⟩
        ·refine step_store_part (by rfl) 53 (.tmp 28) (.tmp 159) (by rfl) Y.heap.size 0 HZB.out t3.cs t3.cs (by rfl) (by rfl) (Nat.le_refl 6) infoTx (txncs_one t3) (txn_over t3 rfl) ?_
         intro Z hz1 hz2
         have HEN := Lib.hid hz1
         have HCZ := Lib.hid hz2
         have hbz := bel_st3 HBX.out hz2
         refine hK.out _ _ (Lib.hid (hS2.out.go hbz)) (fun hSZ => ?_)
         clear hK K hz1 hz2 hbz
         refine wpAnyH_take (i := 7) (v := ?_) rfl (by kernel_rfl) (by kernel_rfl) (by kernel_rfl) (fun _ _ _ h => h) (Or.inl ⟨by rfl, ?_⟩) hSZ ?_
         rotate_left
         ·(intro w _; go_simp; try with_reducible rfl)
         refine wpAnyH_take (i := 10) (v := ?_) rfl (by kernel_rfl) (by kernel_rfl) (by kernel_rfl) (fun _ _ _ h => h) (Or.inl ⟨by rfl, ?_⟩) hSZ ?_
         rotate_left
         ·(intro w _; go_simp; try with_reducible rfl)
         refine wpAnyH_done (by kernel_rfl) ?_ _
         go_simp
         go_wp2_with fail
         go_meet
         exact ⟨_, rfl, rfl, hSZ⟩
      ·go_simp
       refine hK.out _ _ (Lib.hid (hS.out.go ((Below.refl _ _).alloc (Nat.le_refl _) _))) (fun HSN => ?_)
       clear hK K
       refine wpAnyH_genT fun X2 hX2 => ?_
       have HZB : Hid (Blk X2 X.heap.size 53 zTx) := Lib.hid (by rw [hX2]; exact Blk.new _ _ _)
       have HBX : Hid (Below X.heap.size X X2) := Lib.hid (by rw [hX2]; exact (Below.refl _ _).alloc (Nat.le_refl _) _)
       rw [← hX2] at HSN
       clear hX2
       refine wpAnyH_ready (rs := [4]) (by kernel_rfl) (by simp) (AllReadyH.cons rfl (fun K hK => ?_) AllReadyH.nil)
       go_simp
       refine (cfund_any p50 (payO 41 rG) X2 (by decide) (by decide)).mono ?_
       rintro e Y ⟨t3, rfl, _, _, hb⟩
       rw [f_low]
       go_simp
       refine hK.out _ _ (Lib.hid (HSN.out.go hb)) (fun hS2 => ?_)
       clear hK K
       replace HZB := Lib.hid (HZB.out.bel hb)
       replace HBX := Lib.hid (HBX.out.trans (hb.mono HBX.out.size))
       clear hb
       refine wpAnyH_take (i := 5) (v := ?_) rfl (by kernel_rfl) (by kernel_rfl) (by kernel_rfl) (fun _ _ _ h => h) (Or.inl ⟨by rfl, ?_⟩) hS2 ?_
       rotate_left
       ·(intro w _; go_simp; try with_reducible rfl)
       refine wpAnyH_take (i := 6) (v := ?_) rfl (by kernel_rfl) (by kernel_rfl) (by kernel_rfl) (fun _ _ _ h => h) (Or.inl ⟨by rfl, ?_⟩) hS2 ?_
       rotate_left
       ·(intro w _; go_simp; try with_reducible rfl)
       refine wpAnyH_ready (rs := [7, 9]) (by kernel_rfl) (by simp) (AllReadyH.cons rfl (fun K hK => ?_) (AllReadyH.cons rfl (fun K hK => ?_) AllReadyH.nil))
       ·go_simp
        refine hK.out _ _ hS2 (fun _ => ?_)
        clear hK K
        refine wpAnyH_ready (rs := [9]) (by kernel_rfl) (by simp) (AllReadyH.cons rfl (fun K hK => ?_) AllReadyH.nil)
        refine step_store_part (by rfl) 53 (.tmp 28) (.tmp 159) (by rfl) X.heap.size 0 HZB.out t3.cs t3.cs (by rfl) (by rfl) (Nat.le_refl 6) infoTx (txncs_one t3) (txn_over t3 rfl) ?_
        intro Z hz1 hz2
        have HEN := Lib.hid hz1
        have HCZ := Lib.hid hz2
        have hbz := bel_st3 HBX.out hz2
        refine hK.out _ _ (Lib.hid (hS.out.go hbz)) (fun hSZ => ?_)
        clear hK K hz1 hz2 hbz
        refine wpAnyH_take (i := 10) (v := ?_) rfl (by kernel_rfl) (by kernel_rfl) (by kernel_rfl) (fun _ _ _ h => h) (Or.inl ⟨by rfl, ?_⟩) hSZ ?_
        rotate_left
        ·(intro w _; go_simp; try with_reducible rfl)
        refine wpAnyH_done (by kernel_rfl) ?_ _
        go_simp
        go_wp2_with fail
        go_meet
        exact ⟨_, rfl, rfl, hSZ⟩
       ·refine step_store_part (by rfl) 53 (.tmp 28) (.tmp 159) (by rfl) X.heap.size 0 HZB.out t3.cs t3.cs (by rfl) (by rfl) (Nat.le_refl 6) infoTx (txncs_one t3) (txn_over t3 rfl) ?_
        intro Z hz1 hz2
        have HEN := Lib.hid hz1
        have HCZ := Lib.hid hz2
        have hbz := bel_st3 HBX.out hz2
        refine hK.out _ _ (Lib.hid (hS.out.go hbz)) (fun hSZ => ?_)
        clear hK K hz1 hz2 hbz
        refine wpAnyH_take (i := 7) (v := ?_) rfl (by kernel_rfl) (by kernel_rfl) (by kernel_rfl) (fun _ _ _ h => h) (Or.inl ⟨by rfl, ?_⟩) hSZ ?_
        rotate_left
        ·(intro w _; go_simp; try with_reducible rfl)
        refine wpAnyH_take (i := 10) (v := ?_) rfl (by kernel_rfl) (by kernel_rfl) (by kernel_rfl) (fun _ _ _ h => h) (Or.inl ⟨by rfl, ?_⟩) hSZ ?_
        rotate_left
        ·(intro w _; go_simp; try with_reducible rfl)
        refine wpAnyH_done (by kernel_rfl) ?_ _
        go_simp
        go_wp2_with fail
        go_meet
        exact ⟨_, rfl, rfl, hSZ⟩
     ·go_simp
      refine hK.out _ _ (Lib.hid (hS.out.go ((Below.refl _ _).alloc (Nat.le_refl _) _))) (fun HSN => ?_)
      clear hK K
      refine wpAnyH_genT fun X2 hX2 => ?_
      have HZB : Hid (Blk X2 X.heap.size 53 zTx) := Lib.hid (by rw [hX2]; exact Blk.new _ _ _)
      have HBX : Hid (Below X.heap.size X X2) := Lib.hid (by rw [hX2]; exact (Below.refl _ _).alloc (Nat.le_refl _) _)
      rw [← hX2] at HSN
      clear hX2
      refine wpAnyH_ready (rs := [2]) (by kernel_rfl) (by simp) (AllReadyH.cons rfl (fun K hK => ?_) AllReadyH.nil)
      go_simp
      refine ((kroot_any kg cg sdG 0 1 X2 HSN.out.q.q.f.t.kg)).mono ?_
      rintro e Y ⟨rfl, hq⟩
      rw [← hq, rG_eq]
      clear hq Y
      go_simp
      refine hK.out _ _ HSN (fun _ => ?_)
      clear hK K
      refine wpAnyH_take (i := 3) (v := ?_) rfl (by kernel_rfl) (by kernel_rfl) (by kernel_rfl) (fun _ _ _ h => h) (Or.inl ⟨by rfl, ?_⟩) HSN ?_
      rotate_left
      ·(intro w _; go_simp; try with_reducible rfl)
      refine wpAnyH_ready (rs := [4]) (by kernel_rfl) (by simp) (AllReadyH.cons rfl (fun K hK => ?_) AllReadyH.nil)
      go_simp
      refine (cfund_any p50 (payO 41 rG) X2 (by decide) (by decide)).mono ?_
      rintro e Y ⟨t3, rfl, _, _, hb⟩
      rw [f_low]
      go_simp
      refine hK.out _ _ (Lib.hid (HSN.out.go hb)) (fun hS2 => ?_)
      clear hK K
      replace HZB := Lib.hid (HZB.out.bel hb)
      replace HBX := Lib.hid (HBX.out.trans (hb.mono HBX.out.size))
      clear hb
      refine wpAnyH_take (i := 5) (v := ?_) rfl (by kernel_rfl) (by kernel_rfl) (by kernel_rfl) (fun _ _ _ h => h) (Or.inl ⟨by rfl, ?_⟩) hS2 ?_
      rotate_left
      ·(intro w _; go_simp; try with_reducible rfl)
      refine wpAnyH_take (i := 6) (v := ?_) rfl (by kernel_rfl) (by kernel_rfl) (by kernel_rfl) (fun _ _ _ h => h) (Or.inl ⟨by rfl, ?_⟩) hS2 ?_
      rotate_left
      ·(intro w _; go_simp; try with_reducible rfl)
      refine wpAnyH_ready (rs := [7, 9]) (by kernel_rfl) (by simp) (AllReadyH.cons rfl (fun K hK => ?_) (AllReadyH.cons rfl (fun K hK => ?_) AllReadyH.nil))
      ·go_simp
       refine hK.out _ _ hS2 (fun _ => ?_)
       clear hK K
       refine wpAnyH_ready (rs := [9]) (by kernel_rfl) (by simp) (AllReadyH.cons rfl (fun K hK => ?_) AllReadyH.nil)
       refine step_store_part (by rfl) 53 (.tmp 28) (.tmp 159) (by rfl) X.heap.size 0 HZB.out t3.cs t3.cs (by rfl) (by rfl) (Nat.le_refl 6) infoTx (txncs_one t3) (txn_over t3 rfl) ?_
       intro Z hz1 hz2
       have HEN := Lib.hid hz1
       have HCZ := Lib.hid hz2
       have hbz := bel_st3 HBX.out hz2
       refine hK.out _ _ (Lib.hid (hS.out.go hbz)) (fun hSZ => ?_)
       clear hK K hz1 hz2 hbz
       refine wpAnyH_take (i := 10) (v := ?_) rfl (by kernel_rfl) (by kernel_rfl) (by kernel_rfl) (fun _ _ _ h => h) (Or.inl ⟨by rfl, ?_⟩) hSZ ?_
       rotate_left
       ·(intro w _; go_simp; try with_reducible rfl)
       refine wpAnyH_done (by kernel_rfl) ?_ _
       go_simp
       go_wp2_with fail
       go_meet
       exact ⟨_, rfl, rfl, hSZ⟩
      ·refine step_store_part (by rfl) 53 (.tmp 28) (.tmp 159) (by rfl) X.heap.size 0 HZB.out t3.cs t3.cs (by rfl) (by rfl) (Nat.le_refl 6) infoTx (txncs_one t3) (txn_over t3 rfl) ?_
       intro Z hz1 hz2
       have HEN := Lib.hid hz1
       have HCZ := Lib.hid hz2
       have hbz := bel_st3 HBX.out hz2
       refine hK.out _ _ (Lib.hid (hS.out.go hbz)) (fun hSZ => ?_)
       clear hK K hz1 hz2 hbz
       refine wpAnyH_take (i := 7) (v := ?_) rfl (by kernel_rfl) (by kernel_rfl) (by kernel_rfl) (fun _ _ _ h => h) (Or.inl ⟨by rfl, ?_⟩) hSZ ?_
       rotate_left
       ·(intro w _; go_simp; try with_reducible rfl)
       refine wpAnyH_take (i := 10) (v := ?_) rfl (by kernel_rfl) (by kernel_rfl) (by kernel_rfl) (fun _ _ _ h => h) (Or.inl ⟨by rfl, ?_⟩) hSZ ?_
       rotate_left
       ·(intro w _; go_simp; try with_reducible rfl)
       refine wpAnyH_done (by kernel_rfl) ?_ _
       go_simp
       go_wp2_with fail
       go_meet
       exact ⟨_, rfl, rfl, hSZ⟩
    case rest =>
     clear HQ
     obtain ⟨g28, rfl, rfl, HQ⟩ := hcut
     try go_upto_region 21 with fail
     try go_frame
     go_cut [30, 31] from 161 to 170 (fun v30 v31 wx => ∃ g30 : Nat, v30 = .pointer (some ⟨g30, 0, none⟩) ∧ v31 = .int .i64 1 ∧ Hid (Q10 w0 kb cb kg cg sb b ab off g16 N1 t1 g20 N2 t2 g25 g26 N3 t3 wx))
     case first =>
      refine wp_region_held_drew (S := fun W => Hid (Q10 w0 kb cb kg cg sb b ab off g16 N1 t1 g20 N2 t2 g25 g26 N3 t3 W)) (by kernel_rfl) (Lib.hid (HQ.out.go (Below.refl _ _).drew)) (fun hS => ?_)
      refine wpAnyH_genT fun X hX => ?_
      rw [← hX] at hS
      clear hX HQ
      refine wpAnyH_take (i := 0) (v := ?_) rfl (by kernel_rfl) (by kernel_rfl) (by kernel_rfl) (fun _ _ _ h => h) (Or.inl ⟨by rfl, ?_⟩) hS ?_
      rotate_left
      ·(intro w _; go_simp; try with_reducible rfl)
      refine wpAnyH_take (i := 1) (v := ?_) rfl (by kernel_rfl) (by kernel_rfl) (by kernel_rfl) (fun _ _ _ h => h) (Or.inl ⟨by rfl, ?_⟩) hS ?_
      rotate_left
      ·(intro w _; go_simp; try with_reducible rfl)
      refine wpAnyH_take (i := 2) (v := .agg l0C.cs) rfl (by kernel_rfl) (by kernel_rfl) (by kernel_rfl) (fun _ _ _ h => h) (yields_en (by rfl) (.tmp 163) (by rfl) ab off l0C (fun W h => h.out.q.q.f.at_.2.1) (by go_simp)) hS ?_
      refine wpAnyH_take (i := 3) (v := ?_) rfl (by kernel_rfl) (by kernel_rfl) (by kernel_rfl) (fun _ _ _ h => h) (Or.inl ⟨by rfl, ?_⟩) hS ?_
      rotate_left
      ·(intro w _; go_simp; try with_reducible rfl)
      refine wpAnyH_ready (rs := [4, 10]) (by kernel_rfl) (by simp) (AllReadyH.cons rfl (fun K hK => ?_) (AllReadyH.cons rfl (fun K hK => ?_) AllReadyH.nil))
      ·go_simp
       refine ((kroot_any kg cg sdG 0 1 X hS.out.q.q.f.t.kg)).mono ?_
       rintro e Y ⟨rfl, hq⟩
       rw [← hq, rG_eq]
       clear hq Y
       go_simp
       refine hK.out _ _ hS (fun _ => ?_)
       clear hK K
       refine wpAnyH_take (i := 5) (v := ?_) rfl (by kernel_rfl) (by kernel_rfl) (by kernel_rfl) (fun _ _ _ h => h) (Or.inl ⟨by rfl, ?_⟩) hS ?_
       rotate_left
       ·(intro w _; go_simp; try with_reducible rfl)
       refine wpAnyH_ready (rs := [6, 10]) (by kernel_rfl) (by simp) (AllReadyH.cons rfl (fun K hK => ?_) (AllReadyH.cons rfl (fun K hK => ?_) AllReadyH.nil))
       ·go_simp
        refine (cfund_any l0C (payO 1 rG) X (by decide) (by decide)).mono ?_
        rintro e Y ⟨t3, rfl, _, _, hb⟩
        rw [f_arg]
        go_simp
        refine hK.out _ _ (Lib.hid (hS.out.go hb)) (fun hS2 => ?_)
        clear hK K hS hb
        refine wpAnyH_take (i := 7) (v := ?_) rfl (by kernel_rfl) (by kernel_rfl) (by kernel_rfl) (fun _ _ _ h => h) (Or.inl ⟨by rfl, ?_⟩) hS2 ?_
        rotate_left
        ·(intro w _; go_simp; try with_reducible rfl)
        refine wpAnyH_take (i := 8) (v := ?_) rfl (by kernel_rfl) (by kernel_rfl) (by kernel_rfl) (fun _ _ _ h => h) (Or.inl ⟨by rfl, ?_⟩) hS2 ?_
        rotate_left
        ·(intro w _; go_simp; try with_reducible rfl)
        refine wpAnyH_ready (rs := [9, 10]) (by kernel_rfl) (by simp) (AllReadyH.cons rfl (fun K hK => ?_) (AllReadyH.cons rfl (fun K hK => ?_) AllReadyH.nil))
        ·go_simp
         refine hK.out _ _ hS2 (fun _ => ?_)
         clear hK K
         refine wpAnyH_ready (rs := [10]) (by kernel_rfl) (by simp) (AllReadyH.cons rfl (fun K hK => ?_) AllReadyH.nil)
         go_simp
         refine hK.out _ _ (Lib.hid (hS2.out.go ((Below.refl _ _).alloc (Nat.le_refl _) _))) (fun HSN => ?_)
         clear hK K
         refine wpAnyH_genT fun X2 hX2 => ?_
         have HZB : Hid (Blk X2 Y.heap.size 53 zTx) := Lib.hid (by rw [hX2]; exact Blk.new _ _ _)
         have HBX : Hid (Below Y.heap.size Y X2) := Lib.hid (by rw [hX2]; exact (Below.refl _ _).alloc (Nat.le_refl _) _)
         rw [← hX2] at HSN
         clear hX2
         try replace HR := Lib.hid (TxRows.bel HR.out HBX.out)
         refine wpAnyH_ready (rs := [11]) (by kernel_rfl) (by simp) (AllReadyH.cons rfl (fun K hK => ?_) AllReadyH.nil)
         refine step_store_part (by rfl) 53 (.tmp 30) (.tmp 169) (by rfl) Y.heap.size 0 HZB.out t3.cs t3.cs (by rfl) (by rfl) (Nat.le_refl 6) infoTx (txncs_one t3) (txn_over t3 rfl) ?_
         intro Z hz1 hz2
         have HEN := Lib.hid hz1
         have HCZ := Lib.hid hz2
         have hbz := bel_st3 HBX.out hz2
         refine hK.out _ _ (Lib.hid (hS2.out.go hbz)) (fun hSZ => ?_)
         clear hK K hz1 hz2 hbz
         refine wpAnyH_take (i := 12) (v := ?_) rfl (by kernel_rfl) (by kernel_rfl) (by kernel_rfl) (fun _ _ _ h => h) (Or.inl ⟨by rfl, ?_⟩) hSZ ?_
         rotate_left
         ·(intro w _; go_simp; try with_reducible rfl)
         refine wpAnyH_done (by kernel_rfl) ?_ _
         go_simp
         go_wp2_with fail
         go_meet
         exact ⟨_, rfl, rfl, hSZ⟩
        ·go_simp
         refine hK.out _ _ (Lib.hid (hS2.out.go ((Below.refl _ _).alloc (Nat.le_refl _) _))) (fun HSN => ?_)
         clear hK K
         refine wpAnyH_genT fun X2 hX2 => ?_
         have HZB : Hid (Blk X2 Y.heap.size 53 zTx) := Lib.hid (by rw [hX2]; exact Blk.new _ _ _)
         have HBX : Hid (Below Y.heap.size Y X2) := Lib.hid (by rw [hX2]; exact (Below.refl _ _).alloc (Nat.le_refl _) _)
         rw [← hX2] at HSN
         clear hX2
         try replace HR := Lib.hid (TxRows.bel HR.out HBX.out)
         refine wpAnyH_ready (rs := [9, 11]) (by kernel_rfl) (by simp) (AllReadyH.cons rfl (fun K hK => ?_) (AllReadyH.cons rfl (fun K hK => ?_) AllReadyH.nil))
         ·go_simp
          refine hK.out _ _ HSN (fun _ => ?_)
          clear hK K
          refine wpAnyH_ready (rs := [11]) (by kernel_rfl) (by simp) (AllReadyH.cons rfl (fun K hK => ?_) AllReadyH.nil)
          refine step_store_part (by rfl) 53 (.tmp 30) (.tmp 169) (by rfl) Y.heap.size 0 HZB.out t3.cs t3.cs (by rfl) (by rfl) (Nat.le_refl 6) infoTx (txncs_one t3) (txn_over t3 rfl) ?_
          intro Z hz1 hz2
          have HEN := Lib.hid hz1
          have HCZ := Lib.hid hz2
          have hbz := bel_st3 HBX.out hz2
          refine hK.out _ _ (Lib.hid (hS2.out.go hbz)) (fun hSZ => ?_)
          clear hK K hz1 hz2 hbz
          refine wpAnyH_take (i := 12) (v := ?_) rfl (by kernel_rfl) (by kernel_rfl) (by kernel_rfl) (fun _ _ _ h => h) (Or.inl ⟨by rfl, ?_⟩) hSZ ?_
          rotate_left
          ·(intro w _; go_simp; try with_reducible rfl)
          refine wpAnyH_done (by kernel_rfl) ?_ _
          go_simp
          go_wp2_with fail
          go_meet
          exact ⟨_, rfl, rfl, hSZ⟩
         ·refine step_store_part (by rfl) 53 (.tmp 30) (.tmp 169) (by rfl) Y.heap.size 0 HZB.out t3.cs t3.cs (by rfl) (by rfl) (Nat.le_refl 6) infoTx (txncs_one t3) (txn_over t3 rfl) ?_
          intro Z hz1 hz2
          have HEN := Lib.hid hz1
          have HCZ := Lib.hid hz2
          have hbz := bel_st3 HBX.out hz2
          refine hK.out _ _ (Lib.hid (hS2.out.go hbz)) (fun hSZ => ?_)
          clear hK K hz1 hz2 hbz
          refine wpAnyH_take (i := 9) (v := ?_) rfl (by kernel_rfl) (by kernel_rfl) (by kernel_rfl) (fun _ _ _ h => h) (Or.inl ⟨by rfl, ?_⟩) hSZ ?_
          rotate_left
          ·(intro w _; go_simp; try with_reducible rfl)
          refine wpAnyH_take (i := 12) (v := ?_) rfl (by kernel_rfl) (by kernel_rfl) (by kernel_rfl) (fun _ _ _ h => h) (Or.inl ⟨by rfl, ?_⟩) hSZ ?_
          rotate_left
          ·(intro w _; go_simp; try with_reducible rfl)
          refine wpAnyH_done (by kernel_rfl) ?_ _
          go_simp
          go_wp2_with fail
          go_meet
          exact ⟨_, rfl, rfl, hSZ⟩
       ·go_simp
        refine hK.out _ _ (Lib.hid (hS.out.go ((Below.refl _ _).alloc (Nat.le_refl _) _))) (fun HSN => ?_)
        clear hK K
        refine wpAnyH_genT fun X2 hX2 => ?_
        have HZB : Hid (Blk X2 X.heap.size 53 zTx) := Lib.hid (by rw [hX2]; exact Blk.new _ _ _)
        have HBX : Hid (Below X.heap.size X X2) := Lib.hid (by rw [hX2]; exact (Below.refl _ _).alloc (Nat.le_refl _) _)
        rw [← hX2] at HSN
        clear hX2
        refine wpAnyH_ready (rs := [6]) (by kernel_rfl) (by simp) (AllReadyH.cons rfl (fun K hK => ?_) AllReadyH.nil)
        go_simp
        refine (cfund_any l0C (payO 1 rG) X2 (by decide) (by decide)).mono ?_
        rintro e Y ⟨t3, rfl, _, _, hb⟩
        rw [f_arg]
        go_simp
        refine hK.out _ _ (Lib.hid (HSN.out.go hb)) (fun hS2 => ?_)
        clear hK K
        replace HZB := Lib.hid (HZB.out.bel hb)
        replace HBX := Lib.hid (HBX.out.trans (hb.mono HBX.out.size))
        clear hb
        refine wpAnyH_take (i := 7) (v := ?_) rfl (by kernel_rfl) (by kernel_rfl) (by kernel_rfl) (fun _ _ _ h => h) (Or.inl ⟨by rfl, ?_⟩) hS2 ?_
        rotate_left
        ·(intro w _; go_simp; try with_reducible rfl)
        refine wpAnyH_take (i := 8) (v := ?_) rfl (by kernel_rfl) (by kernel_rfl) (by kernel_rfl) (fun _ _ _ h => h) (Or.inl ⟨by rfl, ?_⟩) hS2 ?_
        rotate_left
        ·(intro w _; go_simp; try with_reducible rfl)
        refine wpAnyH_ready (rs := [9, 11]) (by kernel_rfl) (by simp) (AllReadyH.cons rfl (fun K hK => ?_) (AllReadyH.cons rfl (fun K hK => ?_) AllReadyH.nil))
        ·go_simp
         refine hK.out _ _ hS2 (fun _ => ?_)
         clear hK K
         refine wpAnyH_ready (rs := [11]) (by kernel_rfl) (by simp) (AllReadyH.cons rfl (fun K hK => ?_) AllReadyH.nil)
         refine step_store_part (by rfl) 53 (.tmp 30) (.tmp 169) (by rfl) X.heap.size 0 HZB.out t3.cs t3.cs (by rfl) (by rfl) (Nat.le_refl 6) infoTx (txncs_one t3) (txn_over t3 rfl) ?_
         intro Z hz1 hz2
         have HEN := Lib.hid hz1
         have HCZ := Lib.hid hz2
         have hbz := bel_st3 HBX.out hz2
         refine hK.out _ _ (Lib.hid (hS.out.go hbz)) (fun hSZ => ?_)
         clear hK K hz1 hz2 hbz
         refine wpAnyH_take (i := 12) (v := ?_) rfl (by kernel_rfl) (by kernel_rfl) (by kernel_rfl) (fun _ _ _ h => h) (Or.inl ⟨by rfl, ?_⟩) hSZ ?_
         rotate_left
         ·(intro w _; go_simp; try with_reducible rfl)
         refine wpAnyH_done (by kernel_rfl) ?_ _
         go_simp
         go_wp2_with fail
         go_meet
         exact ⟨_, rfl, rfl, hSZ⟩
        ·refine step_store_part (by rfl) 53 (.tmp 30) (.tmp 169) (by rfl) X.heap.size 0 HZB.out t3.cs t3.cs (by rfl) (by rfl) (Nat.le_refl 6) infoTx (txncs_one t3) (txn_over t3 rfl) ?_
         intro Z hz1 hz2
         have HEN := Lib.hid hz1
         have HCZ := Lib.hid hz2
         have hbz := bel_st3 HBX.out hz2
         refine hK.out _ _ (Lib.hid (hS.out.go hbz)) (fun hSZ => ?_)
         clear hK K hz1 hz2 hbz
         refine wpAnyH_take (i := 9) (v := ?_) rfl (by kernel_rfl) (by kernel_rfl) (by kernel_rfl) (fun _ _ _ h => h) (Or.inl ⟨by rfl, ?_⟩) hSZ ?_
         rotate_left
         ·(intro w _; go_simp; try with_reducible rfl)
         refine wpAnyH_take (i := 12) (v := ?_) rfl (by kernel_rfl) (by kernel_rfl) (by kernel_rfl) (fun _ _ _ h => h) (Or.inl ⟨by rfl, ?_⟩) hSZ ?_
         rotate_left
         ·(intro w _; go_simp; try with_reducible rfl)
         refine wpAnyH_done (by kernel_rfl) ?_ _
         go_simp
         go_wp2_with fail
         go_meet
         exact ⟨_, rfl, rfl, hSZ⟩
      ·go_simp
       refine hK.out _ _ (Lib.hid (hS.out.go ((Below.refl _ _).alloc (Nat.le_refl _) _))) (fun HSN => ?_)
       clear hK K
       refine wpAnyH_genT fun X2 hX2 => ?_
       have HZB : Hid (Blk X2 X.heap.size 53 zTx) := Lib.hid (by rw [hX2]; exact Blk.new _ _ _)
       have HBX : Hid (Below X.heap.size X X2) := Lib.hid (by rw [hX2]; exact (Below.refl _ _).alloc (Nat.le_refl _) _)
       rw [← hX2] at HSN
       clear hX2
       refine wpAnyH_ready (rs := [4]) (by kernel_rfl) (by simp) (AllReadyH.cons rfl (fun K hK => ?_) AllReadyH.nil)
       go_simp
       refine ((kroot_any kg cg sdG 0 1 X2 HSN.out.q.q.f.t.kg)).mono ?_
       rintro e Y ⟨rfl, hq⟩
       rw [← hq, rG_eq]
       clear hq Y
       go_simp
       refine hK.out _ _ HSN (fun _ => ?_)
       clear hK K
       refine wpAnyH_take (i := 5) (v := ?_) rfl (by kernel_rfl) (by kernel_rfl) (by kernel_rfl) (fun _ _ _ h => h) (Or.inl ⟨by rfl, ?_⟩) HSN ?_
       rotate_left
       ·(intro w _; go_simp; try with_reducible rfl)
       refine wpAnyH_ready (rs := [6]) (by kernel_rfl) (by simp) (AllReadyH.cons rfl (fun K hK => ?_) AllReadyH.nil)
       go_simp
       refine (cfund_any l0C (payO 1 rG) X2 (by decide) (by decide)).mono ?_
       rintro e Y ⟨t3, rfl, _, _, hb⟩
       rw [f_arg]
       go_simp
       refine hK.out _ _ (Lib.hid (HSN.out.go hb)) (fun hS2 => ?_)
       clear hK K
       replace HZB := Lib.hid (HZB.out.bel hb)
       replace HBX := Lib.hid (HBX.out.trans (hb.mono HBX.out.size))
       clear hb
       refine wpAnyH_take (i := 7) (v := ?_) rfl (by kernel_rfl) (by kernel_rfl) (by kernel_rfl) (fun _ _ _ h => h) (Or.inl ⟨by rfl, ?_⟩) hS2 ?_
       rotate_left
       ·(intro w _; go_simp; try with_reducible rfl)
       refine wpAnyH_take (i := 8) (v := ?_) rfl (by kernel_rfl) (by kernel_rfl) (by kernel_rfl) (fun _ _ _ h => h) (Or.inl ⟨by rfl, ?_⟩) hS2 ?_
       rotate_left
       ·(intro w _; go_simp; try with_reducible rfl)
       refine wpAnyH_ready (rs := [9, 11]) (by kernel_rfl) (by simp) (AllReadyH.cons rfl (fun K hK => ?_) (AllReadyH.cons rfl (fun K hK => ?_) AllReadyH.nil))
       ·go_simp
        refine hK.out _ _ hS2 (fun _ => ?_)
        clear hK K
        refine wpAnyH_ready (rs := [11]) (by kernel_rfl) (by simp) (AllReadyH.cons rfl (fun K hK => ?_) AllReadyH.nil)
        refine step_store_part (by rfl) 53 (.tmp 30) (.tmp 169) (by rfl) X.heap.size 0 HZB.out t3.cs t3.cs (by rfl) (by rfl) (Nat.le_refl 6) infoTx (txncs_one t3) (txn_over t3 rfl) ?_
        intro Z hz1 hz2
        have HEN := Lib.hid hz1
        have HCZ := Lib.hid hz2
        have hbz := bel_st3 HBX.out hz2
        refine hK.out _ _ (Lib.hid (hS.out.go hbz)) (fun hSZ => ?_)
        clear hK K hz1 hz2 hbz
        refine wpAnyH_take (i := 12) (v := ?_) rfl (by kernel_rfl) (by kernel_rfl) (by kernel_rfl) (fun _ _ _ h => h) (Or.inl ⟨by rfl, ?_⟩) hSZ ?_
        rotate_left
        ·(intro w _; go_simp; try with_reducible rfl)
        refine wpAnyH_done (by kernel_rfl) ?_ _
        go_simp
        go_wp2_with fail
        go_meet
        exact ⟨_, rfl, rfl, hSZ⟩
       ·refine step_store_part (by rfl) 53 (.tmp 30) (.tmp 169) (by rfl) X.heap.size 0 HZB.out t3.cs t3.cs (by rfl) (by rfl) (Nat.le_refl 6) infoTx (txncs_one t3) (txn_over t3 rfl) ?_
        intro Z hz1 hz2
        have HEN := Lib.hid hz1
        have HCZ := Lib.hid hz2
        have hbz := bel_st3 HBX.out hz2
        refine hK.out _ _ (Lib.hid (hS.out.go hbz)) (fun hSZ => ?_)
        clear hK K hz1 hz2 hbz
        refine wpAnyH_take (i := 9) (v := ?_) rfl (by kernel_rfl) (by kernel_rfl) (by kernel_rfl) (fun _ _ _ h => h) (Or.inl ⟨by rfl, ?_⟩) hSZ ?_
        rotate_left
        ·(intro w _; go_simp; try with_reducible rfl)
        refine wpAnyH_take (i := 12) (v := ?_) rfl (by kernel_rfl) (by kernel_rfl) (by kernel_rfl) (fun _ _ _ h => h) (Or.inl ⟨by rfl, ?_⟩) hSZ ?_
        rotate_left
        ·(intro w _; go_simp; try with_reducible rfl)
        refine wpAnyH_done (by kernel_rfl) ?_ _
        go_simp
        go_wp2_with fail
        go_meet
        exact ⟨_, rfl, rfl, hSZ⟩
     case rest =>
      clear HQ
      obtain ⟨g30, rfl, rfl, HQ⟩ := hcut
      go_upto_region 22 with fail
      refine wp_gen fun U hU => ?_
      rw [← hU] at HQ
      clear hU
      have c16 := blk_outs HQ.out.q.q.h1 (show t1.outs.length = 2 by rw [HO1.out]; rfl)
      have c20 := blk_outs HQ.out.q.q.h2 (show t2.outs.length = 1 by rw [HO2.out]; rfl)
      have c26 := blk_outs HQ.out.h3 (show t3.outs.length = 2 by rw [HQ.out.o3]; rfl)
      obtain ⟨b1, o1, hB1, hr1⟩ := out_rows HQ.out.q.q.r1 HO1.out (by simp [O11])
      obtain ⟨b2, o2, hB2, hr2⟩ := out_rows HQ.out.q.q.r2 HO2.out (by simp)
      obtain ⟨b3, o3, hB3, hr3⟩ := out_rows HQ.out.r3 HQ.out.o3 (by simp)
      rw [hB1] at c16
      rw [hB2] at c20
      rw [hB3] at c26
      clear hB1 hB2 hB3
      have a1 : U.cell? ⟨b1, o1 + 1, none⟩ = some (.int .u64 50) := hr1 0 _ rfl 1 _ rfl
      have a2 : U.cell? ⟨b1, o1 + 9 + 1, none⟩ = some (.int .u64 60) := hr1 1 _ rfl 1 _ rfl
      have a2' : U.cell? ⟨b1, o1 + 10, none⟩ = some (.int .u64 60) := a2
      have a3 : U.cell? ⟨b2, o2 + 1, none⟩ = some (.int .u64 110) := hr2 0 _ rfl 1 _ rfl
      have HR3 : Hid (∀ j u, (payO 10 rC).cl[j]? = some u → U.cell? ⟨b3, o3 + 9 + j, none⟩ = some u) := Lib.hid (fun j u hu => hr3 1 _ rfl j u hu)
      clear hr1 hr2 hr3
      go_upto_region 24 with fail
      have HTK : Hid (TOk L11) := Lib.hid (by have := lk1_tok lkok11 (by rw [lk11']; exact HSO.out.2); rwa [lk11'] at this)
      have K5 := fun W (hb : Below U.heap.size U W) => Lib.hid (check_any sb b L11 t1 5 W (HQ.out.q.q.f.s.bel hb) (HQ.out.q.q.r1.bel hb).mem HTK.out HX1.out)
      have K8 := fun W (hb : Below U.heap.size U W) => Lib.hid (check_any sb b L11 t2 8 W (HQ.out.q.q.f.s.bel hb) (HQ.out.q.q.r2.bel hb).mem HTK.out HX2.out)
      have K9 := fun W (hb : Below U.heap.size U W) => Lib.hid (check_any sb b L11 t2 9 W (HQ.out.q.q.f.s.bel hb) (HQ.out.q.q.r2.bel hb).mem HTK.out HX2.out)
      rw [HE1.out] at K5
      rw [HE2.out] at K8
      rw [HE3.out] at K9
      have KR := fun W (hb : Below U.heap.size U W) => Lib.hid (kroot_any kb cb sdC 1 2 W (HQ.out.q.q.f.t.kc.bel hb))
      rw [rC_eq] at KR
      have H16 := Lib.hid HQ.out.q.q.h1
      have H20 := Lib.hid HQ.out.q.q.h2
      have HB := Lib.hid HQ.out.q.q.f.bel
      have y16 := cell_rg c16
      have y20 := cell_rg c20
      have y26 := cell_rg c26
      have z1 := cell_rg a1
      have z2 := cell_rg a2
      have z2' := cell_rg a2'
      have z3 := cell_rg a3
      clear HQ c16 c20 c26 a1 a2 a2' a3 HE1 HE2 HE3 HX1 HX2 HO1 HO2 HSO HTK
      refine wp_region_bq ?bqL ?bqE (by kernel_rfl) ?bqB ?_
      case bqE => simp only [List.append] <;> rfl
      case bqB =>
       refine lex_start 99 #[false, false, false, false, false, false, false, false, false, false, false, false, false, false, false, false, false, false, false, false, false, false, false, false, false, false, false, false, false, false, false, false, false, false, false, false, false, false, false, false, false, false, false, false, false, false, false, false, false, false, false, false, false, false, false, false, false, false, false, false, false, false, false, false, false, false, false, false, false, false, false, false, false, false, false, false, false, false, false, false, false, false, false, false, false, false, false, false, false, false, false, false, false, false, false, false, false, false, false] (by as_aux_lemma => kernel_rfl) (by as_aux_lemma => kernel_rfl) (by as_aux_lemma => kernel_rfl) ?_
       refine lex_chunk 16 83 0 #[false, false, false, false, false, false, false, false, false, false, false, false, false, false, false, false, false, false, false, false, false, false, false, false, false, false, false, false, false, false, false, false, false, false, false, false, false, false, false, false, false, false, false, false, false, false, false, false, false, false, false, false, false, false, false, false, false, false, false, false, false, false, false, false, false, false, false, false, false, false, false, false, false, false, false, false, false, false, false, false, false, false, false, false, false, false, false, false, false, false, false, false, false, false, false, false, false, false, false] #[true, true, true, true, true, true, true, true, true, true, true, true, true, true, true, true, false, false, false, false, false, false, false, false, false, false, false, false, false, false, false, false, false, false, false, false, false, false, false, false, false, false, false, false, false, false, false, false, false, false, false, false, false, false, false, false, false, false, false, false, false, false, false, false, false, false, false, false, false, false, false, false, false, false, false, false, false, false, false, false, false, false, false, false, false, false, false, false, false, false, false, false, false, false, false, false, false, false, false] (by as_aux_lemma => kernel_rfl) (by as_aux_lemma => kernel_rfl) ?_
       refine lex_chunk 16 67 16 #[true, true, true, true, true, true, true, true, true, true, true, true, true, true, true, true, false, false, false, false, false, false, false, false, false, false, false, false, false, false, false, false, false, false, false, false, false, false, false, false, false, false, false, false, false, false, false, false, false, false, false, false, false, false, false, false, false, false, false, false, false, false, false, false, false, false, false, false, false, false, false, false, false, false, false, false, false, false, false, false, false, false, false, false, false, false, false, false, false, false, false, false, false, false, false, false, false, false, false] #[true, true, true, true, true, true, true, true, true, true, true, true, true, true, true, true, true, true, true, true, true, true, true, true, true, true, true, true, true, true, true, true, false, false, false, false, false, false, false, false, false, false, false, false, false, false, false, false, false, false, false, false, false, false, false, false, false, false, false, false, false, false, false, false, false, false, false, false, false, false, false, false, false, false, false, false, false, false, false, false, false, false, false, false, false, false, false, false, false, false, false, false, false, false, false, false, false, false, false] (by as_aux_lemma => kernel_rfl) (by as_aux_lemma => kernel_rfl) ?_
       refine lex_chunk 16 51 32 #[true, true, true, true, true, true, true, true, true, true, true, true, true, true, true, true, true, true, true, true, true, true, true, true, true, true, true, true, true, true, true, true, false, false, false, false, false, false, false, false, false, false, false, false, false, false, false, false, false, false, false, false, false, false, false, false, false, false, false, false, false, false, false, false, false, false, false, false, false, false, false, false, false, false, false, false, false, false, false, false, false, false, false, false, false, false, false, false, false, false, false, false, false, false, false, false, false, false, false] #[true, true, true, true, true, true, true, true, true, true, true, true, true, true, true, true, true, true, true, true, true, true, true, true, true, true, true, true, true, true, true, true, true, true, true, true, true, true, true, true, true, true, true, true, true, true, true, true, false, false, false, false, false, false, false, false, false, false, false, false, false, false, false, false, false, false, false, false, false, false, false, false, false, false, false, false, false, false, false, false, false, false, false, false, false, false, false, false, false, false, false, false, false, false, false, false, false, false, false] (by as_aux_lemma => kernel_rfl) (by as_aux_lemma => kernel_rfl) ?_
       refine lex_chunk 16 35 48 #[true, true, true, true, true, true, true, true, true, true, true, true, true, true, true, true, true, true, true, true, true, true, true, true, true, true, true, true, true, true, true, true, true, true, true, true, true, true, true, true, true, true, true, true, true, true, true, true, false, false, false, false, false, false, false, false, false, false, false, false, false, false, false, false, false, false, false, false, false, false, false, false, false, false, false, false, false, false, false, false, false, false, false, false, false, false, false, false, false, false, false, false, false, false, false, false, false, false, false] #[true, true, true, true, true, true, true, true, true, true, true, true, true, true, true, true, true, true, true, true, true, true, true, true, true, true, true, true, true, true, true, true, true, true, true, true, true, true, true, true, true, true, true, true, true, true, true, true, true, true, true, true, true, true, true, true, true, true, true, true, true, true, true, true, false, false, false, false, false, false, false, false, false, false, false, false, false, false, false, false, false, false, false, false, false, false, false, false, false, false, false, false, false, false, false, false, false, false, false] (by as_aux_lemma => kernel_rfl) (by as_aux_lemma => kernel_rfl) ?_
       refine lex_chunk 16 19 64 #[true, true, true, true, true, true, true, true, true, true, true, true, true, true, true, true, true, true, true, true, true, true, true, true, true, true, true, true, true, true, true, true, true, true, true, true, true, true, true, true, true, true, true, true, true, true, true, true, true, true, true, true, true, true, true, true, true, true, true, true, true, true, true, true, false, false, false, false, false, false, false, false, false, false, false, false, false, false, false, false, false, false, false, false, false, false, false, false, false, false, false, false, false, false, false, false, false, false, false] #[true, true, true, true, true, true, true, true, true, true, true, true, true, true, true, true, true, true, true, true, true, true, true, true, true, true, true, true, true, true, true, true, true, true, true, true, true, true, true, true, true, true, true, true, true, true, true, true, true, true, true, true, true, true, true, true, true, true, true, true, true, true, true, true, true, true, true, true, true, true, true, true, true, true, true, true, true, true, true, true, false, false, false, false, false, false, false, false, false, false, false, false, false, false, false, false, false, false, false] (by as_aux_lemma => kernel_rfl) (by as_aux_lemma => kernel_rfl) ?_
       refine lex_chunk 16 3 80 #[true, true, true, true, true, true, true, true, true, true, true, true, true, true, true, true, true, true, true, true, true, true, true, true, true, true, true, true, true, true, true, true, true, true, true, true, true, true, true, true, true, true, true, true, true, true, true, true, true, true, true, true, true, true, true, true, true, true, true, true, true, true, true, true, true, true, true, true, true, true, true, true, true, true, true, true, true, true, true, true, false, false, false, false, false, false, false, false, false, false, false, false, false, false, false, false, false, false, false] #[true, true, true, true, true, true, true, true, true, true, true, true, true, true, true, true, true, true, true, true, true, true, true, true, true, true, true, true, true, true, true, true, true, true, true, true, true, true, true, true, true, true, true, true, true, true, true, true, true, true, true, true, true, true, true, true, true, true, true, true, true, true, true, true, true, true, true, true, true, true, true, true, true, true, true, true, true, true, true, true, true, true, true, true, true, true, true, true, true, true, true, true, true, true, true, true, false, false, false] (by as_aux_lemma => kernel_rfl) (by as_aux_lemma => kernel_rfl) ?_
       refine lex_chunk 3 0 96 #[true, true, true, true, true, true, true, true, true, true, true, true, true, true, true, true, true, true, true, true, true, true, true, true, true, true, true, true, true, true, true, true, true, true, true, true, true, true, true, true, true, true, true, true, true, true, true, true, true, true, true, true, true, true, true, true, true, true, true, true, true, true, true, true, true, true, true, true, true, true, true, true, true, true, true, true, true, true, true, true, true, true, true, true, true, true, true, true, true, true, true, true, true, true, true, true, false, false, false] #[true, true, true, true, true, true, true, true, true, true, true, true, true, true, true, true, true, true, true, true, true, true, true, true, true, true, true, true, true, true, true, true, true, true, true, true, true, true, true, true, true, true, true, true, true, true, true, true, true, true, true, true, true, true, true, true, true, true, true, true, true, true, true, true, true, true, true, true, true, true, true, true, true, true, true, true, true, true, true, true, true, true, true, true, true, true, true, true, true, true, true, true, true, true, true, true, true, true, true] (by as_aux_lemma => kernel_rfl) (by as_aux_lemma => kernel_rfl) ?_
       as_aux_lemma => kernel_rfl
      repeat (first | go_big_quiet_skip | (go_big_quiet_want; first | ((first
             | (refine quiet_load_blk 53 (.tmp 16) rfl g16 0 6 H16.out t1.cs (by rfl) (txn_ext t1) Tryz.underlying53 infoTx (Nat.le_refl 6) ?_; go_simp)
             | (refine quiet_load_blk 53 (.tmp 20) rfl g20 0 6 H20.out t2.cs (by rfl) (txn_ext t2) Tryz.underlying53 infoTx (Nat.le_refl 6) ?_; go_simp)
             | (refine quiet_load_row 81 (.tmp 270) rfl b3 (o3 + 9) (payO 10 rC).cl HR3.out (payO 10 rC).cs (by rfl) (Array.toArray_toList ..) Tryz.underlying81 infoOuC ?_; go_simp)
             | (refine quiet_eqop .eql 81 (.tmp 271) (.tmp 274) rfl (payO 10 rC).cs (payO 10 rC).cs (by rfl) (by rfl) true (fun W => ouGuardE W _ _ _ _) (fun W => ouEql_self W _) ?_; go_simp)); go_big_quiet_on) | (go_big_quiet_op; first | go_big_quiet_on | go_big_quiet_call ((first
             | (go_at_call 36; first | (with_reducible exact Calls.rg fun W hb => (K5 W hb).out) | (with_reducible exact Calls.rg fun W hb => (K8 W hb).out) | (with_reducible exact Calls.rg fun W hb => (K9 W hb).out))
             | (with_reducible exact Calls.rg_same' fun W hb => (KR W hb).out))))))
      refine wpQuiet_nil ?_
      intro Z hp
      have hb := bel_regrown hp
      clear hp
      go_wp2_with fail
      go_ret
      exact ⟨rfl, HB.out.trans (hb.mono HB.out.size)⟩
end
end Go.Proofs.YtjcinncphffgaaaGreat
