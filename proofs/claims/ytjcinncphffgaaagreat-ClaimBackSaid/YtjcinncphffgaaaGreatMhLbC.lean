/- law18's ClaimBack: the walk. -/
import Derived.Outline
import Derived.Deep.RegionHeld3
import Derived.Deep.DeepCutAuto
import Derived.Deep.CutBlock
import Derived.Test.YtjcinncphffgaaaGreatMhClF
import Derived.Test.YtjcinncphffgaaaGreatMhClH
import Derived.Test.YtjcinncphffgaaaGreatMhFqC
import Derived.Test.YtjcinncphffgaaaGreatMhG30
import Derived.Test.YtjcinncphffgaaaGreatMhG33
import Derived.Test.YtjcinncphffgaaaGreatMhG34
import Derived.Test.YtjcinncphffgaaaGreatMhG35
import Derived.Test.YtjcinncphffgaaaGreatMhMerk
import Derived.Test.YtjcinncphffgaaaGreatMhNum
import Derived.Test.YtjcinncphffgaaaGreatMhOpenU
set_option linter.unusedVariables false
set_option linter.unusedSimpArgs false
namespace Go.Proofs.YtjcinncphffgaaaGreat
open Go.RowKit Go.Maps
set_option maxRecDepth 100000 in
set_option maxHeartbeats 40000000 in
theorem cback18_any (s : ByteArray) (a p x y : Nat) (w0 : World) (hs : s.size ≤ maxLen) (ha : a < 4294967296) (hp : p < 4294967296) (hx : x < 65536) (hy : y < 65536) :
    Calls Tryz.prog 5 #[.string s, .agg #[.int .u32 (a : Int), .int .u32 (p : Int)], .agg #[.int .u16 (x : Int), .int .u16 (y : Int)]] w0 fun e w' => e = .returned (.bool true) ∧ Below w0.heap.size w0 w' := by
  unfold maxLen at hs
  go_enter Tryz.func5, Tryz.ntmps5
  go_upto_region 1 with fail
  refine wp_gen fun W0 hW0 => ?_
  have HX4 : Hid (Blk W0 w0.heap.size 77 (bxU2 a p)) := Lib.hid (by rw [hW0]; exact (Blk.new _ _ _).alloc _)
  have HX5 : Hid (Blk W0 (w0.heap.size + 1) 79 (bxH2 x y)) := Lib.hid (by rw [hW0]; exact Blk.newAt (by simp))
  have HB : Hid (Below w0.heap.size w0 W0) := Lib.hid (by rw [hW0]; exact ((Below.refl _ _).alloc (Nat.le_refl _) _).alloc (by simp) _)
  clear hW0
  go_wp2_with fail
  obtain ⟨sd, hsd⟩ : ∃ sd, sd = s.extract 0 (min (s.size : Int) 50).toNat := ⟨_, rfl⟩
  rw [← hsd]
  have hsz : sd.size ≤ 50 := by rw [hsd, ByteArray.size_extract]; omega
  clear hsd
  refine (mnew_any sd 1 _ (by decide) (by omega)).mono ?_
  rintro e W1 ⟨kb, cb, rfl, hkb, hcb, hk, hb⟩
  have HK := Lib.hid hk
  replace HX4 := Lib.hid (HX4.out.bel hb)
  replace HX5 := Lib.hid (HX5.out.bel hb)
  have HCB : Hid (w0.heap.size ≤ cb) := Lib.hid (Nat.le_trans HB.out.size hcb)
  replace HB := Lib.hid (HB.out.trans (hb.mono HB.out.size))
  have HSZ := Lib.hid hsz
  clear hk hb hkb hcb hsz hs
  go_upto_region 4 with fail
  have q0 := cell_rg (show W1.cell? ⟨w0.heap.size, 0, none⟩ = some (.int .u32 (a : Int)) from HX4.out.cell 0)
  have q1 := cell_rg (show W1.cell? ⟨w0.heap.size, 1, none⟩ = some (.int .u32 (p : Int)) from HX4.out.cell 1)
  refine wp_region_quiet_below (by kernel_rfl) (by kernel_rfl) ?_
  repeat (first | go_big_quiet_skip | (go_big_quiet_want; first | (fail; go_big_quiet_on) | (go_big_quiet_op; first | go_big_quiet_on | go_big_quiet_call (fail))))
  refine wpQuiet_nil ?_
  intro W2 hp
  have hb := bel_regrown hp
  clear hp
  clear q0 q1
  replace HK := Lib.hid (HK.out.bel hb)
  replace HX5 := Lib.hid (HX5.out.bel hb)
  replace HB := Lib.hid (HB.out.trans (hb.mono HB.out.size))
  clear hb HX4
  go_wp2_with fail
  refine (kroot_any kb cb sd 1 0 _ HK.out).mono ?_
  rintro e V ⟨rfl, rfl⟩
  have hcl := rootB_size sd 1
  obtain ⟨cl, hcd⟩ : ∃ cl, cl = rootB sd 1 := ⟨_, rfl⟩
  rw [← hcd] at hcl ⊢
  have HCD := Lib.hid hcd
  have HCL := Lib.hid hcl
  clear hcd hcl
  obtain ⟨wn, hwn⟩ : ∃ wn : Nat, wn = 22 + a := ⟨_, rfl⟩
  rw [show (22 : Int) + (a : Int) = (wn : Int) from by omega]
  have hw1 : 22 ≤ wn := by omega
  have hw2 : wn ≤ 4294967317 := by omega
  clear hwn
  go_upto_region 6 with fail
  refine wp_gen fun W3 hW3 => ?_
  have HO3 : Hid (Blk W3 W2.heap.size 81 (payO wn cl).cs) := Lib.hid (by rw [hW3]; exact Blk.new _ _ _)
  have hb3 : Below W2.heap.size W2 W3 := by rw [hW3]; exact (Below.refl _ _).alloc (Nat.le_refl _) _
  replace HK := Lib.hid (HK.out.bel hb3)
  replace HX5 := Lib.hid (HX5.out.bel hb3)
  replace HB := Lib.hid (HB.out.trans (hb3.mono HB.out.size))
  clear hW3 hb3
  have hnu : newU [payO wn cl] = true := by
    have hf : fitsB (payO wn cl) = true := fits_payO (by omega) HCL.out
    simp [newU, hf]
  have HN := Lib.hid (unew_ok (some ⟨W2.heap.size, 0, none⟩) [payO wn cl] 1 W3 (sl_out1 HO3.out) hnu (by intro o ho; rw [List.mem_singleton.1 ho]; show wn < _; omega))
  obtain ⟨fx, hfx⟩ : ∃ fx, fx = firstB [payO wn cl] := ⟨_, rfl⟩
  have hfs : fx.size = 16 := by rw [hfx]; exact firstB_size _
  rw [← hfx] at HN
  clear hnu hfx
  obtain ⟨m, hm⟩ : ∃ m : Nat, m = p % (wn - 20) := ⟨_, rfl⟩
  obtain ⟨lk, hlk⟩ : ∃ lk : Nat, lk = 11 + m := ⟨_, rfl⟩
  obtain ⟨ex, hex⟩ : ∃ ex : Nat, ex = 1 + x := ⟨_, rfl⟩
  have hml : m < wn - 20 := by rw [hm]; exact Nat.mod_lt _ (by omega)
  have HV : Hid (LbV cl fx wn lk ex) := Lib.hid ⟨HCL.out, hfs, by omega, by omega, by omega, by omega⟩
  have HM := Lib.hid hm
  have HEX := Lib.hid hex
  have HLK := Lib.hid hlk
  have hl1 : 11 ≤ lk := by omega
  have hl2 : lk + 10 ≤ wn := by omega
  have hx1 : 1 ≤ ex := by omega
  have hx2 : ex ≤ 65536 := by omega
  clear hfs hm hex hlk
  go_wp2_with fail
  refine HN.out.mono ?_
  rintro e W4 ⟨sb, b, rfl, hsb, hbb, hset, hb⟩
  have HS : Hid (LbS w0 kb cb sd 0 sb b [lbX cl fx wn] W4) := Lib.hid ⟨HK.out.bel hb, hset, HB.out.trans (hb.mono HB.out.size), HCB.out, Nat.le_trans HB.out.size hbb⟩
  replace HX5 := Lib.hid (HX5.out.bel hb)
  clear hset hb hsb hbb HK HB HCB HO3 HN
  go_wp2_with fail
  refine (all_n 1 sb b [lbX cl fx wn] _ HS.out.set rfl (by decide) (by decide)).mono ?_
  rintro e W5 ⟨A5, c5, rfl, _, hb⟩
  replace HS := Lib.hid (HS.out.go hb)
  replace HX5 := Lib.hid (HX5.out.bel hb)
  clear hb
  have z1 : IntKind.u64.wrap ((wn : Int) - 20) = ((wn - 20 : Nat) : Int) := by rw [IntWalk.u64_in _ (by omega)]; omega
  have z2 : Int.tmod (p : Int) ((wn - 20 : Nat) : Int) = (m : Int) := by rw [Int.tmod_eq_emod_of_nonneg (by omega), HM.out]; omega
  have z3 : ((wn - 20 : Nat) : Int) ≠ 0 := by omega
  have z4 : (((wn - 20 : Nat) : Int) == 0) = false := beq_eq_false_iff_ne.2 z3
  go_upto_region 10 with fail
  rw [show (11 : Int) + (m : Int) = (lk : Int) from by have := HLK.out; omega]
  clear z1 z2 z3 z4 hml HM HLK hp
  have q0 := cell_rg (show W5.cell? ⟨w0.heap.size + 1, 0, none⟩ = some (.int .u16 (x : Int)) from HX5.out.cell 0)
  have q1 := cell_rg (show W5.cell? ⟨w0.heap.size + 1, 1, none⟩ = some (.int .u16 (y : Int)) from HX5.out.cell 1)
  refine wp_region_quiet_below (by kernel_rfl) (by kernel_rfl) ?_
  repeat (first | go_big_quiet_skip | (go_big_quiet_want; first | (fail; go_big_quiet_on) | (go_big_quiet_op; first | go_big_quiet_on | go_big_quiet_call (fail))))
  refine wpQuiet_nil ?_
  intro W6 hp
  have hb := bel_regrown hp
  clear hp
  clear q0 q1 HX5
  replace HS := Lib.hid (HS.out.go hb)
  clear hb
  try rw [show (1 : Int) + (x : Int) = (ex : Int) from by have := HEX.out; omega]
  have KR := fun W (hb : Below W6.heap.size W6 W) => Lib.hid (kroot_any kb cb sd 1 0 W (HS.out.key.bel hb))
  rw [← HCD.out] at KR
  go_wp2_with fail
  refine (KR _ (Below.refl _ _)).out.mono ?_
  rintro e V ⟨rfl, hq⟩
  rw [← hq]
  clear hq V
  go_wp2_with fail
  refine (KR _ (Below.refl _ _)).out.mono ?_
  rintro e V ⟨rfl, hq⟩
  rw [← hq]
  clear hq V
  go_wp2_with fail
  refine (KR _ (Below.refl _ _)).out.mono ?_
  rintro e V ⟨rfl, hq⟩
  rw [← hq]
  clear hq V
  go_upto_region 12 with fail
  refine wp_gen fun W7 hW7 => ?_
  have H17 : Hid (Blk W7 W6.heap.size 81 (lbO cl lk ex).cs) := Lib.hid (by rw [hW7]; exact Blk.new _ _ _)
  have hb7 : Below W6.heap.size W6 W7 := by rw [hW7]; exact (Below.refl _ _).alloc (Nat.le_refl _) _
  replace HS := Lib.hid (HS.out.go hb7)
  clear hW7 hb7 KR
  generalize W6.heap.size = g17 at H17 ⊢
  have HFE := Lib.hid (lb_fund HV.out)
  have KF := fun W => Lib.hid (cfund_any (lbX cl fx wn) (lbO cl lk ex) W (by show lk < _; omega) (by show wn < _; omega))
  rw [HFE.out] at KF
  go_cut [18, 19] from 92 to 101 (fun v18 v19 wx => ∃ (g18 : Nat) (t : Txn), v18 = .pointer (some ⟨g18, 0, none⟩) ∧ v19 = .int .i64 0 ∧ Hid (Below W7.heap.size W7 wx) ∧ Hid (Blk wx g18 53 t.cs ∧ W7.heap.size ≤ g18) ∧ Hid (TxRows 0 wx t ∧ ∃ A c B d, t = fundX (lbX cl fx wn) (lbO cl lk ex) A c B d))
  case first =>
    refine wp_region_held_drew (S := fun W => Hid (Below W7.heap.size W7 W)) (by kernel_rfl) (Lib.hid (Below.refl _ _).drew) (fun hS0 => ?_)
    refine wpAnyH_genT fun X hX => ?_
    have hS : Hid (Below W7.heap.size W7 X) := Lib.hid (by rw [hX]; exact (Below.refl _ _).drew)
    clear hX hS0
    refine wpAnyH_take (i := 0) (v := ?_) rfl (by kernel_rfl) (by kernel_rfl) (by kernel_rfl) (fun _ _ _ h => h) (Or.inl ⟨by rfl, ?_⟩) hS ?_
    rotate_left
    · (intro w _; go_simp; try with_reducible rfl)
    refine wpAnyH_take (i := 4) (v := .agg (lbO cl lk ex).cs) rfl (by kernel_rfl) (by kernel_rfl) (by kernel_rfl) (fun _ _ _ h => h) (yields_blk (by rfl) 81 (.tmp 17) (by rfl) g17 0 9 (t := 81) (cs := (lbO cl lk ex).cs) (fun W h => H17.out.bel h.out) (lbO cl lk ex).cs (by rfl) (by rfl) Tryz.underlying81 infoOuC (Nat.le_refl 9)) hS ?_
    refine wpAnyH_ready (rs := [1, 9]) (by kernel_rfl) (by simp) (AllReadyH.cons rfl (fun K hK => ?_) (AllReadyH.cons rfl (fun K hK => ?_) AllReadyH.nil))
    · go_simp
      refine (all_n 1 sb b [lbX cl fx wn] X (HS.out.go hS.out).set rfl (by decide) (by decide)).mono ?_
      rintro e X1 ⟨A8, c8, rfl, hsl, hb⟩
      have hS1 : Hid (Below W7.heap.size W7 X1) := Lib.hid (hS.out.trans (Below.mono hb hS.out.size))
      obtain ⟨ab, off, hA, hab, hc⟩ := en_at hsl (lbX cl fx wn) rfl
      subst hA
      have HCE := Lib.hid hc
      have HAB := Lib.hid hab
      (try replace HZ := Lib.hid (HZ.out.bel hb))
      clear hb hsl hc hab
      go_simp
      refine hK.out _ _ hS1 (fun _ => ?_)
      clear hK K
      refine wpAnyH_take (i := 2) (v := ?_) rfl (by kernel_rfl) (by kernel_rfl) (by kernel_rfl) (fun _ _ _ h => h) (Or.inl ⟨by rfl, ?_⟩) hS1 ?_
      rotate_left
      · (intro w _; go_simp; try with_reducible rfl)
      refine wpAnyH_ready (rs := [3, 9]) (by kernel_rfl) (by simp) (AllReadyH.cons rfl (fun K hK => ?_) (AllReadyH.cons rfl (fun K hK => ?_) AllReadyH.nil))
      · refine step_load_rowL (by kernel_rfl) 89 (.tmp 95) (by rfl) ab off (lbX cl fx wn).cl HCE.out (lbX cl fx wn).cs (by go_simp) (by rfl) Tryz.underlying89 infoEnt ?_
        refine hK.out _ _ hS1 (fun _ => ?_)
        clear hK K HCE HAB
        refine wpAnyH_ready (rs := [5, 9]) (by kernel_rfl) (by simp) (AllReadyH.cons rfl (fun K hK => ?_) (AllReadyH.cons rfl (fun K hK => ?_) AllReadyH.nil))
        · go_simp
          refine (KF X1).out.mono ?_
          rintro e X2 ⟨t, rfl, hr, _, hb⟩
          obtain ⟨hr, A9, c9, B9, d9, ht⟩ := hr rfl
          have hS2 : Hid (Below W7.heap.size W7 X2) := Lib.hid (hS1.out.trans (Below.mono hb hS1.out.size))
          have HRT : Hid (TxRows 0 X2 t ∧ ∃ A c B d, t = fundX (lbX cl fx wn) (lbO cl lk ex) A c B d) := Lib.hid ⟨hr.mono (Nat.zero_le _), A9, c9, B9, d9, ht⟩
          (try replace HZ := Lib.hid (HZ.out.bel hb))
          clear hb hr ht
          go_simp
          refine hK.out _ _ hS2 (fun _ => ?_)
          clear hK K
          refine wpAnyH_take (i := 6) (v := ?_) rfl (by kernel_rfl) (by kernel_rfl) (by kernel_rfl) (fun _ _ _ h => h) (Or.inl ⟨by rfl, ?_⟩) hS2 ?_
          rotate_left
          · (intro w _; go_simp; try with_reducible rfl)
          refine wpAnyH_take (i := 7) (v := ?_) rfl (by kernel_rfl) (by kernel_rfl) (by kernel_rfl) (fun _ _ _ h => h) (Or.inl ⟨by rfl, ?_⟩) hS2 ?_
          rotate_left
          · (intro w _; go_simp; try with_reducible rfl)
          refine wpAnyH_take (i := 8) (v := ?_) rfl (by kernel_rfl) (by kernel_rfl) (by kernel_rfl) (fun _ _ _ h => h) (Or.inl ⟨by rfl, ?_⟩) hS2 ?_
          rotate_left
          · (intro w _; go_simp; try with_reducible rfl)
          refine wpAnyH_ready (rs := [9]) (by kernel_rfl) (by simp) (AllReadyH.cons rfl (fun K hK => ?_) AllReadyH.nil)
          go_simp
          have HBA : Hid (Below X2.heap.size X2 (X2.alloc (.cells zTx 53))) := Lib.hid ((Below.refl _ _).alloc (Nat.le_refl _) _)
          have hsq : Hid (Below W7.heap.size W7 (X2.alloc (.cells zTx 53))) := Lib.hid (hS2.out.trans (HBA.out.mono hS2.out.size))
          refine hK.out _ _ hsq (fun _ => ?_)
          clear hK K
          refine wpAnyH_genT fun X3 hY => ?_
          replace hY : X3 = X2.alloc (.cells zTx 53) := hY
          have HZ : Hid (Blk X3 X2.heap.size 53 zTx) := Lib.hid (by rw [hY]; exact Blk.new _ _ _)
          have HGZ : Hid (W7.heap.size ≤ X2.heap.size) := Lib.hid hS2.out.size
          rw [← hY] at HBA hsq
          have hS3 : Hid (Below W7.heap.size W7 X3) := hsq
          clear hY hsq
          try replace HCE := Lib.hid (rows_bel HCE.out HAB.out HBA.out)
          try replace HAB := Lib.hid (Nat.lt_of_lt_of_le HAB.out (Below.size HBA.out))
          try replace HRT := Lib.hid (And.intro (HRT.out.1.bel HBA.out) HRT.out.2)
          try replace HE := Lib.hid (HE.out.bel HBA.out)
          clear HBA
          refine wpAnyH_ready (rs := [10]) (by kernel_rfl) (by simp) (AllReadyH.cons rfl (fun K hK => ?_) AllReadyH.nil)
          refine step_store_part (by rfl) 53 (.tmp 18) (.tmp 99) (by rfl) X2.heap.size 0 HZ.out t.cs t.cs (by go_simp) (by go_simp) (Nat.le_refl 6) infoTx (txncs_one t) (txn_over t rfl) ?_
          intro Z hz3 hz4
          have HSZ : Hid (Below W7.heap.size W7 Z) := Lib.hid (hS3.out.trans (hz4.below hS3.out.size (by intro x hx; simp at hx; rw [hx]; exact HGZ.out)))
          refine hK.out _ _ HSZ (fun _ => ?_)
          clear hK K
          refine wpAnyH_take (i := 11) (v := ?_) rfl (by kernel_rfl) (by kernel_rfl) (by kernel_rfl) (fun _ _ _ h => h) (Or.inl ⟨by rfl, ?_⟩) HSZ ?_
          rotate_left
          · (intro w _; go_simp; try with_reducible rfl)
          refine wpAnyH_done (by kernel_rfl) ?_ _
          try go_simp
          try go_wp2_with fail
          go_meet
          exact ⟨_, t, rfl, rfl, HSZ, Lib.hid ⟨hz3, HGZ.out⟩, Lib.hid ⟨HRT.out.1.ch hz4 HZ.out.kdT (by decide) (by decide) (by decide), HRT.out.2⟩⟩
        · go_simp
          have HBA : Hid (Below X1.heap.size X1 (X1.alloc (.cells zTx 53))) := Lib.hid ((Below.refl _ _).alloc (Nat.le_refl _) _)
          have hsq : Hid (Below W7.heap.size W7 (X1.alloc (.cells zTx 53))) := Lib.hid (hS1.out.trans (HBA.out.mono hS1.out.size))
          refine hK.out _ _ hsq (fun _ => ?_)
          clear hK K
          refine wpAnyH_genT fun X2 hY => ?_
          replace hY : X2 = X1.alloc (.cells zTx 53) := hY
          have HZ : Hid (Blk X2 X1.heap.size 53 zTx) := Lib.hid (by rw [hY]; exact Blk.new _ _ _)
          have HGZ : Hid (W7.heap.size ≤ X1.heap.size) := Lib.hid hS1.out.size
          rw [← hY] at HBA hsq
          have hS2 : Hid (Below W7.heap.size W7 X2) := hsq
          clear hY hsq
          try replace HCE := Lib.hid (rows_bel HCE.out HAB.out HBA.out)
          try replace HAB := Lib.hid (Nat.lt_of_lt_of_le HAB.out (Below.size HBA.out))
          try replace HRT := Lib.hid (And.intro (HRT.out.1.bel HBA.out) HRT.out.2)
          try replace HE := Lib.hid (HE.out.bel HBA.out)
          clear HBA
          refine wpAnyH_ready (rs := [5]) (by kernel_rfl) (by simp) (AllReadyH.cons rfl (fun K hK => ?_) AllReadyH.nil)
          go_simp
          refine (KF X2).out.mono ?_
          rintro e X3 ⟨t, rfl, hr, _, hb⟩
          obtain ⟨hr, A9, c9, B9, d9, ht⟩ := hr rfl
          have hS3 : Hid (Below W7.heap.size W7 X3) := Lib.hid (hS2.out.trans (Below.mono hb hS2.out.size))
          have HRT : Hid (TxRows 0 X3 t ∧ ∃ A c B d, t = fundX (lbX cl fx wn) (lbO cl lk ex) A c B d) := Lib.hid ⟨hr.mono (Nat.zero_le _), A9, c9, B9, d9, ht⟩
          (try replace HZ := Lib.hid (HZ.out.bel hb))
          clear hb hr ht
          go_simp
          refine hK.out _ _ hS3 (fun _ => ?_)
          clear hK K
          refine wpAnyH_take (i := 6) (v := ?_) rfl (by kernel_rfl) (by kernel_rfl) (by kernel_rfl) (fun _ _ _ h => h) (Or.inl ⟨by rfl, ?_⟩) hS3 ?_
          rotate_left
          · (intro w _; go_simp; try with_reducible rfl)
          refine wpAnyH_take (i := 7) (v := ?_) rfl (by kernel_rfl) (by kernel_rfl) (by kernel_rfl) (fun _ _ _ h => h) (Or.inl ⟨by rfl, ?_⟩) hS3 ?_
          rotate_left
          · (intro w _; go_simp; try with_reducible rfl)
          refine wpAnyH_take (i := 8) (v := ?_) rfl (by kernel_rfl) (by kernel_rfl) (by kernel_rfl) (fun _ _ _ h => h) (Or.inl ⟨by rfl, ?_⟩) hS3 ?_
          rotate_left
          · (intro w _; go_simp; try with_reducible rfl)
          refine wpAnyH_ready (rs := [10]) (by kernel_rfl) (by simp) (AllReadyH.cons rfl (fun K hK => ?_) AllReadyH.nil)
          refine step_store_part (by rfl) 53 (.tmp 18) (.tmp 99) (by rfl) X1.heap.size 0 HZ.out t.cs t.cs (by go_simp) (by go_simp) (Nat.le_refl 6) infoTx (txncs_one t) (txn_over t rfl) ?_
          intro Z hz3 hz4
          have HSZ : Hid (Below W7.heap.size W7 Z) := Lib.hid (hS3.out.trans (hz4.below hS3.out.size (by intro x hx; simp at hx; rw [hx]; exact HGZ.out)))
          refine hK.out _ _ HSZ (fun _ => ?_)
          clear hK K
          refine wpAnyH_take (i := 11) (v := ?_) rfl (by kernel_rfl) (by kernel_rfl) (by kernel_rfl) (fun _ _ _ h => h) (Or.inl ⟨by rfl, ?_⟩) HSZ ?_
          rotate_left
          · (intro w _; go_simp; try with_reducible rfl)
          refine wpAnyH_done (by kernel_rfl) ?_ _
          try go_simp
          try go_wp2_with fail
          go_meet
          exact ⟨_, t, rfl, rfl, HSZ, Lib.hid ⟨hz3, HGZ.out⟩, Lib.hid ⟨HRT.out.1.ch hz4 HZ.out.kdT (by decide) (by decide) (by decide), HRT.out.2⟩⟩
      · go_simp
        have HBA : Hid (Below X1.heap.size X1 (X1.alloc (.cells zTx 53))) := Lib.hid ((Below.refl _ _).alloc (Nat.le_refl _) _)
        have hsq : Hid (Below W7.heap.size W7 (X1.alloc (.cells zTx 53))) := Lib.hid (hS1.out.trans (HBA.out.mono hS1.out.size))
        refine hK.out _ _ hsq (fun _ => ?_)
        clear hK K
        refine wpAnyH_genT fun X2 hY => ?_
        replace hY : X2 = X1.alloc (.cells zTx 53) := hY
        have HZ : Hid (Blk X2 X1.heap.size 53 zTx) := Lib.hid (by rw [hY]; exact Blk.new _ _ _)
        have HGZ : Hid (W7.heap.size ≤ X1.heap.size) := Lib.hid hS1.out.size
        rw [← hY] at HBA hsq
        have hS2 : Hid (Below W7.heap.size W7 X2) := hsq
        clear hY hsq
        try replace HCE := Lib.hid (rows_bel HCE.out HAB.out HBA.out)
        try replace HAB := Lib.hid (Nat.lt_of_lt_of_le HAB.out (Below.size HBA.out))
        try replace HRT := Lib.hid (And.intro (HRT.out.1.bel HBA.out) HRT.out.2)
        try replace HE := Lib.hid (HE.out.bel HBA.out)
        clear HBA
        refine wpAnyH_ready (rs := [3]) (by kernel_rfl) (by simp) (AllReadyH.cons rfl (fun K hK => ?_) AllReadyH.nil)
        refine step_load_rowL (by kernel_rfl) 89 (.tmp 95) (by rfl) ab off (lbX cl fx wn).cl HCE.out (lbX cl fx wn).cs (by go_simp) (by rfl) Tryz.underlying89 infoEnt ?_
        refine hK.out _ _ hS2 (fun _ => ?_)
        clear hK K HCE HAB
        refine wpAnyH_ready (rs := [5]) (by kernel_rfl) (by simp) (AllReadyH.cons rfl (fun K hK => ?_) AllReadyH.nil)
        go_simp
        refine (KF X2).out.mono ?_
        rintro e X3 ⟨t, rfl, hr, _, hb⟩
        obtain ⟨hr, A9, c9, B9, d9, ht⟩ := hr rfl
        have hS3 : Hid (Below W7.heap.size W7 X3) := Lib.hid (hS2.out.trans (Below.mono hb hS2.out.size))
        have HRT : Hid (TxRows 0 X3 t ∧ ∃ A c B d, t = fundX (lbX cl fx wn) (lbO cl lk ex) A c B d) := Lib.hid ⟨hr.mono (Nat.zero_le _), A9, c9, B9, d9, ht⟩
        (try replace HZ := Lib.hid (HZ.out.bel hb))
        clear hb hr ht
        go_simp
        refine hK.out _ _ hS3 (fun _ => ?_)
        clear hK K
        refine wpAnyH_take (i := 6) (v := ?_) rfl (by kernel_rfl) (by kernel_rfl) (by kernel_rfl) (fun _ _ _ h => h) (Or.inl ⟨by rfl, ?_⟩) hS3 ?_
        rotate_left
        · (intro w _; go_simp; try with_reducible rfl)
        refine wpAnyH_take (i := 7) (v := ?_) rfl (by kernel_rfl) (by kernel_rfl) (by kernel_rfl) (fun _ _ _ h => h) (Or.inl ⟨by rfl, ?_⟩) hS3 ?_
        rotate_left
        · (intro w _; go_simp; try with_reducible rfl)
        refine wpAnyH_take (i := 8) (v := ?_) rfl (by kernel_rfl) (by kernel_rfl) (by kernel_rfl) (fun _ _ _ h => h) (Or.inl ⟨by rfl, ?_⟩) hS3 ?_
        rotate_left
        · (intro w _; go_simp; try with_reducible rfl)
        refine wpAnyH_ready (rs := [10]) (by kernel_rfl) (by simp) (AllReadyH.cons rfl (fun K hK => ?_) AllReadyH.nil)
        refine step_store_part (by rfl) 53 (.tmp 18) (.tmp 99) (by rfl) X1.heap.size 0 HZ.out t.cs t.cs (by go_simp) (by go_simp) (Nat.le_refl 6) infoTx (txncs_one t) (txn_over t rfl) ?_
        intro Z hz3 hz4
        have HSZ : Hid (Below W7.heap.size W7 Z) := Lib.hid (hS3.out.trans (hz4.below hS3.out.size (by intro x hx; simp at hx; rw [hx]; exact HGZ.out)))
        refine hK.out _ _ HSZ (fun _ => ?_)
        clear hK K
        refine wpAnyH_take (i := 11) (v := ?_) rfl (by kernel_rfl) (by kernel_rfl) (by kernel_rfl) (fun _ _ _ h => h) (Or.inl ⟨by rfl, ?_⟩) HSZ ?_
        rotate_left
        · (intro w _; go_simp; try with_reducible rfl)
        refine wpAnyH_done (by kernel_rfl) ?_ _
        try go_simp
        try go_wp2_with fail
        go_meet
        exact ⟨_, t, rfl, rfl, HSZ, Lib.hid ⟨hz3, HGZ.out⟩, Lib.hid ⟨HRT.out.1.ch hz4 HZ.out.kdT (by decide) (by decide) (by decide), HRT.out.2⟩⟩
    · go_simp
      have HBA : Hid (Below X.heap.size X (X.alloc (.cells zTx 53))) := Lib.hid ((Below.refl _ _).alloc (Nat.le_refl _) _)
      have hsq : Hid (Below W7.heap.size W7 (X.alloc (.cells zTx 53))) := Lib.hid (hS.out.trans (HBA.out.mono hS.out.size))
      refine hK.out _ _ hsq (fun _ => ?_)
      clear hK K
      refine wpAnyH_genT fun X1 hY => ?_
      replace hY : X1 = X.alloc (.cells zTx 53) := hY
      have HZ : Hid (Blk X1 X.heap.size 53 zTx) := Lib.hid (by rw [hY]; exact Blk.new _ _ _)
      have HGZ : Hid (W7.heap.size ≤ X.heap.size) := Lib.hid hS.out.size
      rw [← hY] at HBA hsq
      have hS1 : Hid (Below W7.heap.size W7 X1) := hsq
      clear hY hsq
      try replace HCE := Lib.hid (rows_bel HCE.out HAB.out HBA.out)
      try replace HAB := Lib.hid (Nat.lt_of_lt_of_le HAB.out (Below.size HBA.out))
      try replace HRT := Lib.hid (And.intro (HRT.out.1.bel HBA.out) HRT.out.2)
      try replace HE := Lib.hid (HE.out.bel HBA.out)
      clear HBA
      refine wpAnyH_ready (rs := [1]) (by kernel_rfl) (by simp) (AllReadyH.cons rfl (fun K hK => ?_) AllReadyH.nil)
      go_simp
      refine (all_n 1 sb b [lbX cl fx wn] X1 (HS.out.go hS1.out).set rfl (by decide) (by decide)).mono ?_
      rintro e X2 ⟨A8, c8, rfl, hsl, hb⟩
      have hS2 : Hid (Below W7.heap.size W7 X2) := Lib.hid (hS1.out.trans (Below.mono hb hS1.out.size))
      obtain ⟨ab, off, hA, hab, hc⟩ := en_at hsl (lbX cl fx wn) rfl
      subst hA
      have HCE := Lib.hid hc
      have HAB := Lib.hid hab
      (try replace HZ := Lib.hid (HZ.out.bel hb))
      clear hb hsl hc hab
      go_simp
      refine hK.out _ _ hS2 (fun _ => ?_)
      clear hK K
      refine wpAnyH_take (i := 2) (v := ?_) rfl (by kernel_rfl) (by kernel_rfl) (by kernel_rfl) (fun _ _ _ h => h) (Or.inl ⟨by rfl, ?_⟩) hS2 ?_
      rotate_left
      · (intro w _; go_simp; try with_reducible rfl)
      refine wpAnyH_ready (rs := [3]) (by kernel_rfl) (by simp) (AllReadyH.cons rfl (fun K hK => ?_) AllReadyH.nil)
      refine step_load_rowL (by kernel_rfl) 89 (.tmp 95) (by rfl) ab off (lbX cl fx wn).cl HCE.out (lbX cl fx wn).cs (by go_simp) (by rfl) Tryz.underlying89 infoEnt ?_
      refine hK.out _ _ hS2 (fun _ => ?_)
      clear hK K HCE HAB
      refine wpAnyH_ready (rs := [5]) (by kernel_rfl) (by simp) (AllReadyH.cons rfl (fun K hK => ?_) AllReadyH.nil)
      go_simp
      refine (KF X2).out.mono ?_
      rintro e X3 ⟨t, rfl, hr, _, hb⟩
      obtain ⟨hr, A9, c9, B9, d9, ht⟩ := hr rfl
      have hS3 : Hid (Below W7.heap.size W7 X3) := Lib.hid (hS2.out.trans (Below.mono hb hS2.out.size))
      have HRT : Hid (TxRows 0 X3 t ∧ ∃ A c B d, t = fundX (lbX cl fx wn) (lbO cl lk ex) A c B d) := Lib.hid ⟨hr.mono (Nat.zero_le _), A9, c9, B9, d9, ht⟩
      (try replace HZ := Lib.hid (HZ.out.bel hb))
      clear hb hr ht
      go_simp
      refine hK.out _ _ hS3 (fun _ => ?_)
      clear hK K
      refine wpAnyH_take (i := 6) (v := ?_) rfl (by kernel_rfl) (by kernel_rfl) (by kernel_rfl) (fun _ _ _ h => h) (Or.inl ⟨by rfl, ?_⟩) hS3 ?_
      rotate_left
      · (intro w _; go_simp; try with_reducible rfl)
      refine wpAnyH_take (i := 7) (v := ?_) rfl (by kernel_rfl) (by kernel_rfl) (by kernel_rfl) (fun _ _ _ h => h) (Or.inl ⟨by rfl, ?_⟩) hS3 ?_
      rotate_left
      · (intro w _; go_simp; try with_reducible rfl)
      refine wpAnyH_take (i := 8) (v := ?_) rfl (by kernel_rfl) (by kernel_rfl) (by kernel_rfl) (fun _ _ _ h => h) (Or.inl ⟨by rfl, ?_⟩) hS3 ?_
      rotate_left
      · (intro w _; go_simp; try with_reducible rfl)
      refine wpAnyH_ready (rs := [10]) (by kernel_rfl) (by simp) (AllReadyH.cons rfl (fun K hK => ?_) AllReadyH.nil)
      refine step_store_part (by rfl) 53 (.tmp 18) (.tmp 99) (by rfl) X.heap.size 0 HZ.out t.cs t.cs (by go_simp) (by go_simp) (Nat.le_refl 6) infoTx (txncs_one t) (txn_over t rfl) ?_
      intro Z hz3 hz4
      have HSZ : Hid (Below W7.heap.size W7 Z) := Lib.hid (hS3.out.trans (hz4.below hS3.out.size (by intro x hx; simp at hx; rw [hx]; exact HGZ.out)))
      refine hK.out _ _ HSZ (fun _ => ?_)
      clear hK K
      refine wpAnyH_take (i := 11) (v := ?_) rfl (by kernel_rfl) (by kernel_rfl) (by kernel_rfl) (fun _ _ _ h => h) (Or.inl ⟨by rfl, ?_⟩) HSZ ?_
      rotate_left
      · (intro w _; go_simp; try with_reducible rfl)
      refine wpAnyH_done (by kernel_rfl) ?_ _
      try go_simp
      try go_wp2_with fail
      go_meet
      exact ⟨_, t, rfl, rfl, HSZ, Lib.hid ⟨hz3, HGZ.out⟩, Lib.hid ⟨HRT.out.1.ch hz4 HZ.out.kdT (by decide) (by decide) (by decide), HRT.out.2⟩⟩
  case rest =>
    obtain ⟨g18, t, rfl, rfl, HBX, H18, HR⟩ := hcut
    have HG18 : Hid (w0.heap.size ≤ g18) := Lib.hid (Nat.le_trans HS.out.bel.size H18.out.2)
    replace H18 := Lib.hid H18.out.1
    replace HS := Lib.hid (HS.out.go HBX.out)
    clear HBX KF H17 HFE
    obtain ⟨hrow, A, c, B, d, hte⟩ := HR.out
    have hrt : rightT t = true := by rw [hte]; exact lb_right HV.out A c B d
    have hco : coreX t = coreOn [lbX cl fx wn] 1 (fundO (lbX cl fx wn) (lbO cl lk ex)) := by rw [hte]; exact lb_core HV.out
    have hto : ∀ o ∈ t.outs, o.am < 18446744073709551616 ∧ o.unit < 18446744073709551616 := by rw [hte]; exact fun o ho => (lb_outs HV.out o ho).2
    have hpl : t.p.l.length ≤ 1000 := by rw [hte]; show (0 : Nat) ≤ 1000; decide
    have KS := Lib.hid (csigned_gen t kb cb 1 0 sd wc hrow.mem hrow.nz hpl hto hrt HS.out.key (by decide) (by decide) (Nat.le_trans HSZ.out (by decide)))
    rw [hco] at KS
    have HTE := Lib.hid hte
    clear hrow hrt hco hto hpl hte HR
    obtain ⟨sv, hsv⟩ : ∃ sv, sv = signB sd 1 0 (coreOn [lbX cl fx wn] 1 (fundO (lbX cl fx wn) (lbO cl lk ex))) := ⟨_, rfl⟩
    have HSV1 : Hid (sv.size ≤ 400) := Lib.hid (by rw [hsv, signB_size sd (by decide)]; decide)
    have HSV2 : Hid (verB cl (coreOn [lbX cl fx wn] 1 (fundO (lbX cl fx wn) (lbO cl lk ex))) sv = true) := Lib.hid (by rw [hsv, HCD.out]; exact ver_sign sd (by decide) (by decide) _)
    rw [← hsv] at KS
    clear hsv
    go_wp2_with (refine wpList_load_blk rfl 53 (.tmp 18) rfl g18 0 6 H18.out t.cs (by rfl) (txn_ext t) Tryz.underlying53 infoTx (Nat.le_refl 6) ?_)
    refine KS.out.mono ?_
    rintro e V1 ⟨A1, c1, B1, d1, PA1, pc1, rfl, hr1, hk1, hc1⟩
    obtain ⟨u, hu⟩ : ∃ u, u = sgA (cpT t A1 c1 B1 d1 PA1 pc1) sv := ⟨_, rfl⟩
    rw [← hu] at hr1 ⊢
    have HUU : Hid (u = lbU cl fx wn lk ex A c B d A1 c1 B1 d1 PA1 pc1 sv) := Lib.hid (by rw [hu, HTE.out]; rfl)
    replace H18 := Lib.hid (H18.out.ctr HS.out.key hc1 (by decide))
    replace HS := Lib.hid (HS.out.sign hk1 hc1)
    have HRU := Lib.hid (hr1.mono (Nat.zero_le _))
    clear hr1 hk1 hc1 hu KS HTE
    go_upto_region 14 with (refine wpList_store_part rfl 53 (.tmp 18) (.tmp 105) rfl g18 0 (cs := t.cs) H18.out u.cs u.cs (by rfl) (by rfl) (Nat.le_refl 6) infoTx (txncs_one u) (txn_over u rfl) ?_; intro V2 hb2 hc2; have H18n := Lib.hid hb2; have HSn := Lib.hid (HS.out.st H18.out hc2 (by decide) (by decide) (by decide) (by decide) HG18.out); have HRUn := Lib.hid (HRU.out.ch hc2 H18.out.kdT (by decide) (by decide) (by decide)); clear hb2 hc2)
    clear H18 HS HRU
    have hcke := lbU_check (A0 := A) (c0 := c) (B0 := B) (d0 := d) (A := A1) (c := c1) (B := B1) (d := d1) (PA := PA1) (pc := pc1) HV.out HSV1.out HSV2.out (y : Int)
    rw [← HUU.out] at hcke
    have KA := Lib.hid (apply_any sb b [lbX cl fx wn] u (y : Int) V2 HSn.out.set HRUn.out.mem (lb_T0 HV.out (by omega)) (by rw [HUU.out]; exact lbU_ok HV.out))
    rw [hcke] at KA
    clear hcke
    go_wp2_with (refine wpList_load_blk rfl 53 (.tmp 18) rfl g18 0 6 H18n.out u.cs (by rfl) (txn_ext u) Tryz.underlying53 infoTx (Nat.le_refl 6) ?_)
    refine KA.out.mono ?_
    rintro e V3 ⟨rfl, hc3, hset⟩
    clear KA
    by_cases hle : (ex : Int) ≤ (y : Int)
    · rw [if_pos hle] at hset ⊢
      have HS3 := Lib.hid (HSn.out.app hset hc3)
      have d1 : decide ((y : Int) < (ex : Int)) = false := decide_eq_false (by omega)
      have d1' : decide ((ex : Int) > (y : Int)) = false := d1
      have d1n : decide (y < ex) = false := decide_eq_false (by omega)
      have d1x : decide (ex > y) = false := d1n
      clear hset hc3
      go_wp2_with fail
      refine (fixed18_any _).mono ?_
      rintro e V4 ⟨rfl, hb⟩
      go_wp2_with fail
      go_ret
      exact ⟨rfl, HS3.out.bel.trans (hb.mono HS3.out.bel.size)⟩
    · rw [if_neg hle] at hset ⊢
      rw [if_pos rfl, HUU.out, lbU_apply HSV1.out, ← HUU.out] at hset
      have hiz : (idT u).size = 16 := by rw [HUU.out]; exact (id_size (lbU_right HV.out HSV1.out)).1
      have d1 : decide ((y : Int) < (ex : Int)) = true := decide_eq_true (by omega)
      have d1n : decide (y < ex) = true := decide_eq_true (by omega)
      have d1' : decide ((ex : Int) > (y : Int)) = true := d1
      have d1x : decide (ex > y) = true := d1n
      have HS3 := Lib.hid (HSn.out.app hset hc3)
      have HR3 := Lib.hid (HRUn.out.map HSn.out.set.ut hc3)
      have H183 := Lib.hid (H18n.out.app HSn.out.set hc3)
      have HTX : Hid (TxOk u) := Lib.hid (by rw [HUU.out]; exact lbU_ok HV.out)
      have KID := fun W (hm : u.mem W) => Lib.hid (id_gen u W hm HTX.out.ins HTX.out.outs HTX.out.pf.len HTX.out.out (Nat.le_trans (corex_size u) (by decide)))
      obtain ⟨id, hid⟩ : ∃ id, id = idT u := ⟨_, rfl⟩
      rw [← hid] at hiz KID HS3
      have HIZ := Lib.hid hiz
      clear hset hc3 hle hiz hid HSn HRUn H18n
      go_wp2_with (refine wpList_load_blk rfl 53 (.tmp 18) rfl g18 0 6 H183.out u.cs (by rfl) (txn_ext u) Tryz.underlying53 infoTx (Nat.le_refl 6) ?_)
      refine (KID _ HR3.out.mem).out.mono ?_
      rintro e V4 ⟨rfl, hb⟩
      replace HS3 := Lib.hid (HS3.out.go hb)
      clear hb KID H183 HR3 HTX
      go_wp2_with fail
      refine (cname_gen id 0 _ (by rw [HIZ.out]; decide)).mono ?_
      rintro e V5 ⟨rfl, hb⟩
      replace HS3 := Lib.hid (HS3.out.go hb)
      clear hb
      have hT1 := lb_T1 (id := id) HV.out HIZ.out
      have KL := Lib.hid (lock_any sb b (utN id (fundO (lbX cl fx wn) (lbO cl lk ex))) (nameO id 0) V5 HS3.out.set hT1.len hT1.pos)
      rw [show lockA (nameO id 0) (utN id (fundO (lbX cl fx wn) (lbO cl lk ex))) = .tuple #[.agg (⟨id, 0, lbO cl lk ex⟩ : En).cs, .bool true] from by unfold lockA; rw [lb_lock]; rfl] at KL
      have HT1 := Lib.hid hT1
      clear hT1
      obtain ⟨z, hz⟩ : ∃ z : En, z = ⟨id, 0, lbO cl lk ex⟩ := ⟨_, rfl⟩
      rw [← hz] at KL
      have HZZ := Lib.hid hz
      clear hz
      go_wp2_with fail
      refine KL.out.mono ?_
      rintro e V6 ⟨rfl, hb⟩
      replace HS3 := Lib.hid (HS3.out.go hb)
      clear hb KL
      go_upto_region 20 with (refine wpList_store_part rfl 89 (.tmp 22) (.tmp 139) rfl V6.heap.size 0 (cs := zEnt) (Blk.new _ _ _) z.cs z.cs (by rfl) (by rfl) (Nat.le_refl 11) infoEnt (encs_one z) (en_over z rfl) ?_; intro W9 hb1 hc1; have hb := bel_st' hc1; have H22 := Lib.hid hb1; have HS9 := Lib.hid (HS3.out.go hb); clear hb1 hc1 hb)
      clear HS3
      generalize V6.heap.size = g22 at H22 ⊢
      have KB := fun W g (h : Blk W g 89 z.cs) => Lib.hid (cback_gen (some ⟨g, 0, none⟩) [z] 1 cl W (sl_one_en h) (by show (1 : Nat) ≤ 1000; decide) (by intro e he; rw [List.mem_singleton.1 he, HZZ.out]; show lk < _; omega))
      rw [show backE [z] cl = 0 from by rw [HZZ.out]; exact lb_back HV.out HIZ.out] at KB
      have KR := fun W (hb : Below W9.heap.size W9 W) => Lib.hid (kroot_any kb cb sd 1 1 W (HS9.out.key.bel hb))
      rw [← HCD.out] at KR
      go_cut [24, 25] from 141 to 149 (fun v24 v25 wx => ∃ (g24 : Nat) (t : Txn), v24 = .pointer (some ⟨g24, 0, none⟩) ∧ v25 = .int .i64 0 ∧ Hid (Below W9.heap.size W9 wx) ∧ Hid (Blk wx g24 53 t.cs ∧ W9.heap.size ≤ g24) ∧ Hid (TxRows 0 wx t ∧ ∃ A c B d, t = backX [z] cl A c B d))
      case first =>
        refine wp_region_held_drew (S := fun W => Hid (Below W9.heap.size W9 W)) (by kernel_rfl) (Lib.hid (Below.refl _ _).drew) (fun hS0 => ?_)
        refine wpAnyH_genT fun X hX => ?_
        have hS : Hid (Below W9.heap.size W9 X) := Lib.hid (by rw [hX]; exact (Below.refl _ _).drew)
        clear hX hS0
        refine wpAnyH_take (i := 0) (v := .agg z.cs) rfl (by kernel_rfl) (by kernel_rfl) (by kernel_rfl) (fun _ _ _ h => h) (yields_blk (by rfl) 89 (.tmp 22) (by rfl) g22 0 11 (t := 89) (cs := z.cs) (fun W h => H22.out.bel h.out) z.cs (by rfl) (en_ext z) Tryz.underlying89 infoEnt (Nat.le_refl 11)) hS ?_
        refine wpAnyH_take (i := 2) (v := ?_) rfl (by kernel_rfl) (by kernel_rfl) (by kernel_rfl) (fun _ _ _ h => h) (Or.inl ⟨by rfl, ?_⟩) hS ?_
        rotate_left
        · (intro w _; go_simp; try with_reducible rfl)
        refine wpAnyH_ready (rs := [1, 3, 8]) (by kernel_rfl) (by simp) (AllReadyH.cons rfl (fun K hK => ?_) (AllReadyH.cons rfl (fun K hK => ?_) (AllReadyH.cons rfl (fun K hK => ?_) AllReadyH.nil)))
        · refine step_build_en (by rfl) (.tmp 142) (by rfl) z (by go_simp) ?_
          have HBA : Hid (Below X.heap.size X (X.alloc (.cells z.cs 89))) := Lib.hid ((Below.refl _ _).alloc (Nat.le_refl _) _)
          have hsq : Hid (Below W9.heap.size W9 (X.alloc (.cells z.cs 89))) := Lib.hid (hS.out.trans (HBA.out.mono hS.out.size))
          have HE : Hid (Blk (X.alloc (.cells z.cs 89)) X.heap.size 89 z.cs) := Lib.hid (Blk.new _ _ _)
          refine hK.out _ _ hsq (fun _ => ?_)
          clear hK K
          (try replace HZ := Lib.hid (HZ.out.bel HBA.out))
          refine wpAnyH_genT fun X1 hY => ?_
          replace hY : X1 = X.alloc (.cells z.cs 89) := hY
          rw [← hY] at HE hsq
          have hS1 : Hid (Below W9.heap.size W9 X1) := hsq
          (try rw [← hY] at HZ)
          clear hY hsq HBA
          refine wpAnyH_ready (rs := [3, 8]) (by kernel_rfl) (by simp) (AllReadyH.cons rfl (fun K hK => ?_) (AllReadyH.cons rfl (fun K hK => ?_) AllReadyH.nil))
          · go_simp
            refine (KR X1 hS1.out).out.mono ?_
            rintro e Yq ⟨rfl, hq⟩
            rw [← hq]
            clear hq Yq
            go_simp
            refine hK.out _ _ hS1 (fun _ => ?_)
            clear hK K
            refine wpAnyH_ready (rs := [4, 8]) (by kernel_rfl) (by simp) (AllReadyH.cons rfl (fun K hK => ?_) (AllReadyH.cons rfl (fun K hK => ?_) AllReadyH.nil))
            · go_simp
              refine (KB X1 X.heap.size HE.out).out.mono ?_
              rintro e X2 ⟨t, rfl, hr, _, hb⟩
              obtain ⟨hr, A9, c9, B9, d9, ht⟩ := hr rfl
              have hS2 : Hid (Below W9.heap.size W9 X2) := Lib.hid (hS1.out.trans (Below.mono hb hS1.out.size))
              have HRT : Hid (TxRows 0 X2 t ∧ ∃ A c B d, t = backX [z] cl A c B d) := Lib.hid ⟨hr.mono (Nat.zero_le _), A9, c9, B9, d9, ht⟩
              (try replace HZ := Lib.hid (HZ.out.bel hb))
              clear hb hr ht HE
              go_simp
              refine hK.out _ _ hS2 (fun _ => ?_)
              clear hK K
              refine wpAnyH_take (i := 5) (v := ?_) rfl (by kernel_rfl) (by kernel_rfl) (by kernel_rfl) (fun _ _ _ h => h) (Or.inl ⟨by rfl, ?_⟩) hS2 ?_
              rotate_left
              · (intro w _; go_simp; try with_reducible rfl)
              refine wpAnyH_take (i := 6) (v := ?_) rfl (by kernel_rfl) (by kernel_rfl) (by kernel_rfl) (fun _ _ _ h => h) (Or.inl ⟨by rfl, ?_⟩) hS2 ?_
              rotate_left
              · (intro w _; go_simp; try with_reducible rfl)
              refine wpAnyH_take (i := 7) (v := ?_) rfl (by kernel_rfl) (by kernel_rfl) (by kernel_rfl) (fun _ _ _ h => h) (Or.inl ⟨by rfl, ?_⟩) hS2 ?_
              rotate_left
              · (intro w _; go_simp; try with_reducible rfl)
              refine wpAnyH_ready (rs := [8]) (by kernel_rfl) (by simp) (AllReadyH.cons rfl (fun K hK => ?_) AllReadyH.nil)
              go_simp
              have HBA : Hid (Below X2.heap.size X2 (X2.alloc (.cells zTx 53))) := Lib.hid ((Below.refl _ _).alloc (Nat.le_refl _) _)
              have hsq : Hid (Below W9.heap.size W9 (X2.alloc (.cells zTx 53))) := Lib.hid (hS2.out.trans (HBA.out.mono hS2.out.size))
              refine hK.out _ _ hsq (fun _ => ?_)
              clear hK K
              refine wpAnyH_genT fun X3 hY => ?_
              replace hY : X3 = X2.alloc (.cells zTx 53) := hY
              have HZ : Hid (Blk X3 X2.heap.size 53 zTx) := Lib.hid (by rw [hY]; exact Blk.new _ _ _)
              have HGZ : Hid (W9.heap.size ≤ X2.heap.size) := Lib.hid hS2.out.size
              rw [← hY] at HBA hsq
              have hS3 : Hid (Below W9.heap.size W9 X3) := hsq
              clear hY hsq
              try replace HCE := Lib.hid (rows_bel HCE.out HAB.out HBA.out)
              try replace HAB := Lib.hid (Nat.lt_of_lt_of_le HAB.out (Below.size HBA.out))
              try replace HRT := Lib.hid (And.intro (HRT.out.1.bel HBA.out) HRT.out.2)
              try replace HE := Lib.hid (HE.out.bel HBA.out)
              clear HBA
              refine wpAnyH_ready (rs := [9]) (by kernel_rfl) (by simp) (AllReadyH.cons rfl (fun K hK => ?_) AllReadyH.nil)
              refine step_store_part (by rfl) 53 (.tmp 24) (.tmp 147) (by rfl) X2.heap.size 0 HZ.out t.cs t.cs (by go_simp) (by go_simp) (Nat.le_refl 6) infoTx (txncs_one t) (txn_over t rfl) ?_
              intro Z hz3 hz4
              have HSZ : Hid (Below W9.heap.size W9 Z) := Lib.hid (hS3.out.trans (hz4.below hS3.out.size (by intro x hx; simp at hx; rw [hx]; exact HGZ.out)))
              refine hK.out _ _ HSZ (fun _ => ?_)
              clear hK K
              refine wpAnyH_take (i := 10) (v := ?_) rfl (by kernel_rfl) (by kernel_rfl) (by kernel_rfl) (fun _ _ _ h => h) (Or.inl ⟨by rfl, ?_⟩) HSZ ?_
              rotate_left
              · (intro w _; go_simp; try with_reducible rfl)
              refine wpAnyH_done (by kernel_rfl) ?_ _
              try go_simp
              try go_wp2_with fail
              go_meet
              exact ⟨_, t, rfl, rfl, HSZ, Lib.hid ⟨hz3, HGZ.out⟩, Lib.hid ⟨HRT.out.1.ch hz4 HZ.out.kdT (by decide) (by decide) (by decide), HRT.out.2⟩⟩
            · go_simp
              have HBA : Hid (Below X1.heap.size X1 (X1.alloc (.cells zTx 53))) := Lib.hid ((Below.refl _ _).alloc (Nat.le_refl _) _)
              have hsq : Hid (Below W9.heap.size W9 (X1.alloc (.cells zTx 53))) := Lib.hid (hS1.out.trans (HBA.out.mono hS1.out.size))
              refine hK.out _ _ hsq (fun _ => ?_)
              clear hK K
              refine wpAnyH_genT fun X2 hY => ?_
              replace hY : X2 = X1.alloc (.cells zTx 53) := hY
              have HZ : Hid (Blk X2 X1.heap.size 53 zTx) := Lib.hid (by rw [hY]; exact Blk.new _ _ _)
              have HGZ : Hid (W9.heap.size ≤ X1.heap.size) := Lib.hid hS1.out.size
              rw [← hY] at HBA hsq
              have hS2 : Hid (Below W9.heap.size W9 X2) := hsq
              clear hY hsq
              try replace HCE := Lib.hid (rows_bel HCE.out HAB.out HBA.out)
              try replace HAB := Lib.hid (Nat.lt_of_lt_of_le HAB.out (Below.size HBA.out))
              try replace HRT := Lib.hid (And.intro (HRT.out.1.bel HBA.out) HRT.out.2)
              try replace HE := Lib.hid (HE.out.bel HBA.out)
              clear HBA
              refine wpAnyH_ready (rs := [4]) (by kernel_rfl) (by simp) (AllReadyH.cons rfl (fun K hK => ?_) AllReadyH.nil)
              go_simp
              refine (KB X2 X.heap.size HE.out).out.mono ?_
              rintro e X3 ⟨t, rfl, hr, _, hb⟩
              obtain ⟨hr, A9, c9, B9, d9, ht⟩ := hr rfl
              have hS3 : Hid (Below W9.heap.size W9 X3) := Lib.hid (hS2.out.trans (Below.mono hb hS2.out.size))
              have HRT : Hid (TxRows 0 X3 t ∧ ∃ A c B d, t = backX [z] cl A c B d) := Lib.hid ⟨hr.mono (Nat.zero_le _), A9, c9, B9, d9, ht⟩
              (try replace HZ := Lib.hid (HZ.out.bel hb))
              clear hb hr ht HE
              go_simp
              refine hK.out _ _ hS3 (fun _ => ?_)
              clear hK K
              refine wpAnyH_take (i := 5) (v := ?_) rfl (by kernel_rfl) (by kernel_rfl) (by kernel_rfl) (fun _ _ _ h => h) (Or.inl ⟨by rfl, ?_⟩) hS3 ?_
              rotate_left
              · (intro w _; go_simp; try with_reducible rfl)
              refine wpAnyH_take (i := 6) (v := ?_) rfl (by kernel_rfl) (by kernel_rfl) (by kernel_rfl) (fun _ _ _ h => h) (Or.inl ⟨by rfl, ?_⟩) hS3 ?_
              rotate_left
              · (intro w _; go_simp; try with_reducible rfl)
              refine wpAnyH_take (i := 7) (v := ?_) rfl (by kernel_rfl) (by kernel_rfl) (by kernel_rfl) (fun _ _ _ h => h) (Or.inl ⟨by rfl, ?_⟩) hS3 ?_
              rotate_left
              · (intro w _; go_simp; try with_reducible rfl)
              refine wpAnyH_ready (rs := [9]) (by kernel_rfl) (by simp) (AllReadyH.cons rfl (fun K hK => ?_) AllReadyH.nil)
              refine step_store_part (by rfl) 53 (.tmp 24) (.tmp 147) (by rfl) X1.heap.size 0 HZ.out t.cs t.cs (by go_simp) (by go_simp) (Nat.le_refl 6) infoTx (txncs_one t) (txn_over t rfl) ?_
              intro Z hz3 hz4
              have HSZ : Hid (Below W9.heap.size W9 Z) := Lib.hid (hS3.out.trans (hz4.below hS3.out.size (by intro x hx; simp at hx; rw [hx]; exact HGZ.out)))
              refine hK.out _ _ HSZ (fun _ => ?_)
              clear hK K
              refine wpAnyH_take (i := 10) (v := ?_) rfl (by kernel_rfl) (by kernel_rfl) (by kernel_rfl) (fun _ _ _ h => h) (Or.inl ⟨by rfl, ?_⟩) HSZ ?_
              rotate_left
              · (intro w _; go_simp; try with_reducible rfl)
              refine wpAnyH_done (by kernel_rfl) ?_ _
              try go_simp
              try go_wp2_with fail
              go_meet
              exact ⟨_, t, rfl, rfl, HSZ, Lib.hid ⟨hz3, HGZ.out⟩, Lib.hid ⟨HRT.out.1.ch hz4 HZ.out.kdT (by decide) (by decide) (by decide), HRT.out.2⟩⟩
          · go_simp
            have HBA : Hid (Below X1.heap.size X1 (X1.alloc (.cells zTx 53))) := Lib.hid ((Below.refl _ _).alloc (Nat.le_refl _) _)
            have hsq : Hid (Below W9.heap.size W9 (X1.alloc (.cells zTx 53))) := Lib.hid (hS1.out.trans (HBA.out.mono hS1.out.size))
            refine hK.out _ _ hsq (fun _ => ?_)
            clear hK K
            refine wpAnyH_genT fun X2 hY => ?_
            replace hY : X2 = X1.alloc (.cells zTx 53) := hY
            have HZ : Hid (Blk X2 X1.heap.size 53 zTx) := Lib.hid (by rw [hY]; exact Blk.new _ _ _)
            have HGZ : Hid (W9.heap.size ≤ X1.heap.size) := Lib.hid hS1.out.size
            rw [← hY] at HBA hsq
            have hS2 : Hid (Below W9.heap.size W9 X2) := hsq
            clear hY hsq
            try replace HCE := Lib.hid (rows_bel HCE.out HAB.out HBA.out)
            try replace HAB := Lib.hid (Nat.lt_of_lt_of_le HAB.out (Below.size HBA.out))
            try replace HRT := Lib.hid (And.intro (HRT.out.1.bel HBA.out) HRT.out.2)
            try replace HE := Lib.hid (HE.out.bel HBA.out)
            clear HBA
            refine wpAnyH_ready (rs := [3]) (by kernel_rfl) (by simp) (AllReadyH.cons rfl (fun K hK => ?_) AllReadyH.nil)
            go_simp
            refine (KR X2 hS2.out).out.mono ?_
            rintro e Yq ⟨rfl, hq⟩
            rw [← hq]
            clear hq Yq
            go_simp
            refine hK.out _ _ hS2 (fun _ => ?_)
            clear hK K
            refine wpAnyH_ready (rs := [4]) (by kernel_rfl) (by simp) (AllReadyH.cons rfl (fun K hK => ?_) AllReadyH.nil)
            go_simp
            refine (KB X2 X.heap.size HE.out).out.mono ?_
            rintro e X3 ⟨t, rfl, hr, _, hb⟩
            obtain ⟨hr, A9, c9, B9, d9, ht⟩ := hr rfl
            have hS3 : Hid (Below W9.heap.size W9 X3) := Lib.hid (hS2.out.trans (Below.mono hb hS2.out.size))
            have HRT : Hid (TxRows 0 X3 t ∧ ∃ A c B d, t = backX [z] cl A c B d) := Lib.hid ⟨hr.mono (Nat.zero_le _), A9, c9, B9, d9, ht⟩
            (try replace HZ := Lib.hid (HZ.out.bel hb))
            clear hb hr ht HE
            go_simp
            refine hK.out _ _ hS3 (fun _ => ?_)
            clear hK K
            refine wpAnyH_take (i := 5) (v := ?_) rfl (by kernel_rfl) (by kernel_rfl) (by kernel_rfl) (fun _ _ _ h => h) (Or.inl ⟨by rfl, ?_⟩) hS3 ?_
            rotate_left
            · (intro w _; go_simp; try with_reducible rfl)
            refine wpAnyH_take (i := 6) (v := ?_) rfl (by kernel_rfl) (by kernel_rfl) (by kernel_rfl) (fun _ _ _ h => h) (Or.inl ⟨by rfl, ?_⟩) hS3 ?_
            rotate_left
            · (intro w _; go_simp; try with_reducible rfl)
            refine wpAnyH_take (i := 7) (v := ?_) rfl (by kernel_rfl) (by kernel_rfl) (by kernel_rfl) (fun _ _ _ h => h) (Or.inl ⟨by rfl, ?_⟩) hS3 ?_
            rotate_left
            · (intro w _; go_simp; try with_reducible rfl)
            refine wpAnyH_ready (rs := [9]) (by kernel_rfl) (by simp) (AllReadyH.cons rfl (fun K hK => ?_) AllReadyH.nil)
            refine step_store_part (by rfl) 53 (.tmp 24) (.tmp 147) (by rfl) X1.heap.size 0 HZ.out t.cs t.cs (by go_simp) (by go_simp) (Nat.le_refl 6) infoTx (txncs_one t) (txn_over t rfl) ?_
            intro Z hz3 hz4
            have HSZ : Hid (Below W9.heap.size W9 Z) := Lib.hid (hS3.out.trans (hz4.below hS3.out.size (by intro x hx; simp at hx; rw [hx]; exact HGZ.out)))
            refine hK.out _ _ HSZ (fun _ => ?_)
            clear hK K
            refine wpAnyH_take (i := 10) (v := ?_) rfl (by kernel_rfl) (by kernel_rfl) (by kernel_rfl) (fun _ _ _ h => h) (Or.inl ⟨by rfl, ?_⟩) HSZ ?_
            rotate_left
            · (intro w _; go_simp; try with_reducible rfl)
            refine wpAnyH_done (by kernel_rfl) ?_ _
            try go_simp
            try go_wp2_with fail
            go_meet
            exact ⟨_, t, rfl, rfl, HSZ, Lib.hid ⟨hz3, HGZ.out⟩, Lib.hid ⟨HRT.out.1.ch hz4 HZ.out.kdT (by decide) (by decide) (by decide), HRT.out.2⟩⟩
        · go_simp
          refine (KR X hS.out).out.mono ?_
          rintro e Yq ⟨rfl, hq⟩
          rw [← hq]
          clear hq Yq
          go_simp
          refine hK.out _ _ hS (fun _ => ?_)
          clear hK K
          refine wpAnyH_ready (rs := [1, 8]) (by kernel_rfl) (by simp) (AllReadyH.cons rfl (fun K hK => ?_) (AllReadyH.cons rfl (fun K hK => ?_) AllReadyH.nil))
          · refine step_build_en (by rfl) (.tmp 142) (by rfl) z (by go_simp) ?_
            have HBA : Hid (Below X.heap.size X (X.alloc (.cells z.cs 89))) := Lib.hid ((Below.refl _ _).alloc (Nat.le_refl _) _)
            have hsq : Hid (Below W9.heap.size W9 (X.alloc (.cells z.cs 89))) := Lib.hid (hS.out.trans (HBA.out.mono hS.out.size))
            have HE : Hid (Blk (X.alloc (.cells z.cs 89)) X.heap.size 89 z.cs) := Lib.hid (Blk.new _ _ _)
            refine hK.out _ _ hsq (fun _ => ?_)
            clear hK K
            (try replace HZ := Lib.hid (HZ.out.bel HBA.out))
            refine wpAnyH_genT fun X1 hY => ?_
            replace hY : X1 = X.alloc (.cells z.cs 89) := hY
            rw [← hY] at HE hsq
            have hS1 : Hid (Below W9.heap.size W9 X1) := hsq
            (try rw [← hY] at HZ)
            clear hY hsq HBA
            refine wpAnyH_ready (rs := [4, 8]) (by kernel_rfl) (by simp) (AllReadyH.cons rfl (fun K hK => ?_) (AllReadyH.cons rfl (fun K hK => ?_) AllReadyH.nil))
            · go_simp
              refine (KB X1 X.heap.size HE.out).out.mono ?_
              rintro e X2 ⟨t, rfl, hr, _, hb⟩
              obtain ⟨hr, A9, c9, B9, d9, ht⟩ := hr rfl
              have hS2 : Hid (Below W9.heap.size W9 X2) := Lib.hid (hS1.out.trans (Below.mono hb hS1.out.size))
              have HRT : Hid (TxRows 0 X2 t ∧ ∃ A c B d, t = backX [z] cl A c B d) := Lib.hid ⟨hr.mono (Nat.zero_le _), A9, c9, B9, d9, ht⟩
              (try replace HZ := Lib.hid (HZ.out.bel hb))
              clear hb hr ht HE
              go_simp
              refine hK.out _ _ hS2 (fun _ => ?_)
              clear hK K
              refine wpAnyH_take (i := 5) (v := ?_) rfl (by kernel_rfl) (by kernel_rfl) (by kernel_rfl) (fun _ _ _ h => h) (Or.inl ⟨by rfl, ?_⟩) hS2 ?_
              rotate_left
              · (intro w _; go_simp; try with_reducible rfl)
              refine wpAnyH_take (i := 6) (v := ?_) rfl (by kernel_rfl) (by kernel_rfl) (by kernel_rfl) (fun _ _ _ h => h) (Or.inl ⟨by rfl, ?_⟩) hS2 ?_
              rotate_left
              · (intro w _; go_simp; try with_reducible rfl)
              refine wpAnyH_take (i := 7) (v := ?_) rfl (by kernel_rfl) (by kernel_rfl) (by kernel_rfl) (fun _ _ _ h => h) (Or.inl ⟨by rfl, ?_⟩) hS2 ?_
              rotate_left
              · (intro w _; go_simp; try with_reducible rfl)
              refine wpAnyH_ready (rs := [8]) (by kernel_rfl) (by simp) (AllReadyH.cons rfl (fun K hK => ?_) AllReadyH.nil)
              go_simp
              have HBA : Hid (Below X2.heap.size X2 (X2.alloc (.cells zTx 53))) := Lib.hid ((Below.refl _ _).alloc (Nat.le_refl _) _)
              have hsq : Hid (Below W9.heap.size W9 (X2.alloc (.cells zTx 53))) := Lib.hid (hS2.out.trans (HBA.out.mono hS2.out.size))
              refine hK.out _ _ hsq (fun _ => ?_)
              clear hK K
              refine wpAnyH_genT fun X3 hY => ?_
              replace hY : X3 = X2.alloc (.cells zTx 53) := hY
              have HZ : Hid (Blk X3 X2.heap.size 53 zTx) := Lib.hid (by rw [hY]; exact Blk.new _ _ _)
              have HGZ : Hid (W9.heap.size ≤ X2.heap.size) := Lib.hid hS2.out.size
              rw [← hY] at HBA hsq
              have hS3 : Hid (Below W9.heap.size W9 X3) := hsq
              clear hY hsq
              try replace HCE := Lib.hid (rows_bel HCE.out HAB.out HBA.out)
              try replace HAB := Lib.hid (Nat.lt_of_lt_of_le HAB.out (Below.size HBA.out))
              try replace HRT := Lib.hid (And.intro (HRT.out.1.bel HBA.out) HRT.out.2)
              try replace HE := Lib.hid (HE.out.bel HBA.out)
              clear HBA
              refine wpAnyH_ready (rs := [9]) (by kernel_rfl) (by simp) (AllReadyH.cons rfl (fun K hK => ?_) AllReadyH.nil)
              refine step_store_part (by rfl) 53 (.tmp 24) (.tmp 147) (by rfl) X2.heap.size 0 HZ.out t.cs t.cs (by go_simp) (by go_simp) (Nat.le_refl 6) infoTx (txncs_one t) (txn_over t rfl) ?_
              intro Z hz3 hz4
              have HSZ : Hid (Below W9.heap.size W9 Z) := Lib.hid (hS3.out.trans (hz4.below hS3.out.size (by intro x hx; simp at hx; rw [hx]; exact HGZ.out)))
              refine hK.out _ _ HSZ (fun _ => ?_)
              clear hK K
              refine wpAnyH_take (i := 10) (v := ?_) rfl (by kernel_rfl) (by kernel_rfl) (by kernel_rfl) (fun _ _ _ h => h) (Or.inl ⟨by rfl, ?_⟩) HSZ ?_
              rotate_left
              · (intro w _; go_simp; try with_reducible rfl)
              refine wpAnyH_done (by kernel_rfl) ?_ _
              try go_simp
              try go_wp2_with fail
              go_meet
              exact ⟨_, t, rfl, rfl, HSZ, Lib.hid ⟨hz3, HGZ.out⟩, Lib.hid ⟨HRT.out.1.ch hz4 HZ.out.kdT (by decide) (by decide) (by decide), HRT.out.2⟩⟩
            · go_simp
              have HBA : Hid (Below X1.heap.size X1 (X1.alloc (.cells zTx 53))) := Lib.hid ((Below.refl _ _).alloc (Nat.le_refl _) _)
              have hsq : Hid (Below W9.heap.size W9 (X1.alloc (.cells zTx 53))) := Lib.hid (hS1.out.trans (HBA.out.mono hS1.out.size))
              refine hK.out _ _ hsq (fun _ => ?_)
              clear hK K
              refine wpAnyH_genT fun X2 hY => ?_
              replace hY : X2 = X1.alloc (.cells zTx 53) := hY
              have HZ : Hid (Blk X2 X1.heap.size 53 zTx) := Lib.hid (by rw [hY]; exact Blk.new _ _ _)
              have HGZ : Hid (W9.heap.size ≤ X1.heap.size) := Lib.hid hS1.out.size
              rw [← hY] at HBA hsq
              have hS2 : Hid (Below W9.heap.size W9 X2) := hsq
              clear hY hsq
              try replace HCE := Lib.hid (rows_bel HCE.out HAB.out HBA.out)
              try replace HAB := Lib.hid (Nat.lt_of_lt_of_le HAB.out (Below.size HBA.out))
              try replace HRT := Lib.hid (And.intro (HRT.out.1.bel HBA.out) HRT.out.2)
              try replace HE := Lib.hid (HE.out.bel HBA.out)
              clear HBA
              refine wpAnyH_ready (rs := [4]) (by kernel_rfl) (by simp) (AllReadyH.cons rfl (fun K hK => ?_) AllReadyH.nil)
              go_simp
              refine (KB X2 X.heap.size HE.out).out.mono ?_
              rintro e X3 ⟨t, rfl, hr, _, hb⟩
              obtain ⟨hr, A9, c9, B9, d9, ht⟩ := hr rfl
              have hS3 : Hid (Below W9.heap.size W9 X3) := Lib.hid (hS2.out.trans (Below.mono hb hS2.out.size))
              have HRT : Hid (TxRows 0 X3 t ∧ ∃ A c B d, t = backX [z] cl A c B d) := Lib.hid ⟨hr.mono (Nat.zero_le _), A9, c9, B9, d9, ht⟩
              (try replace HZ := Lib.hid (HZ.out.bel hb))
              clear hb hr ht HE
              go_simp
              refine hK.out _ _ hS3 (fun _ => ?_)
              clear hK K
              refine wpAnyH_take (i := 5) (v := ?_) rfl (by kernel_rfl) (by kernel_rfl) (by kernel_rfl) (fun _ _ _ h => h) (Or.inl ⟨by rfl, ?_⟩) hS3 ?_
              rotate_left
              · (intro w _; go_simp; try with_reducible rfl)
              refine wpAnyH_take (i := 6) (v := ?_) rfl (by kernel_rfl) (by kernel_rfl) (by kernel_rfl) (fun _ _ _ h => h) (Or.inl ⟨by rfl, ?_⟩) hS3 ?_
              rotate_left
              · (intro w _; go_simp; try with_reducible rfl)
              refine wpAnyH_take (i := 7) (v := ?_) rfl (by kernel_rfl) (by kernel_rfl) (by kernel_rfl) (fun _ _ _ h => h) (Or.inl ⟨by rfl, ?_⟩) hS3 ?_
              rotate_left
              · (intro w _; go_simp; try with_reducible rfl)
              refine wpAnyH_ready (rs := [9]) (by kernel_rfl) (by simp) (AllReadyH.cons rfl (fun K hK => ?_) AllReadyH.nil)
              refine step_store_part (by rfl) 53 (.tmp 24) (.tmp 147) (by rfl) X1.heap.size 0 HZ.out t.cs t.cs (by go_simp) (by go_simp) (Nat.le_refl 6) infoTx (txncs_one t) (txn_over t rfl) ?_
              intro Z hz3 hz4
              have HSZ : Hid (Below W9.heap.size W9 Z) := Lib.hid (hS3.out.trans (hz4.below hS3.out.size (by intro x hx; simp at hx; rw [hx]; exact HGZ.out)))
              refine hK.out _ _ HSZ (fun _ => ?_)
              clear hK K
              refine wpAnyH_take (i := 10) (v := ?_) rfl (by kernel_rfl) (by kernel_rfl) (by kernel_rfl) (fun _ _ _ h => h) (Or.inl ⟨by rfl, ?_⟩) HSZ ?_
              rotate_left
              · (intro w _; go_simp; try with_reducible rfl)
              refine wpAnyH_done (by kernel_rfl) ?_ _
              try go_simp
              try go_wp2_with fail
              go_meet
              exact ⟨_, t, rfl, rfl, HSZ, Lib.hid ⟨hz3, HGZ.out⟩, Lib.hid ⟨HRT.out.1.ch hz4 HZ.out.kdT (by decide) (by decide) (by decide), HRT.out.2⟩⟩
          · go_simp
            have HBA : Hid (Below X.heap.size X (X.alloc (.cells zTx 53))) := Lib.hid ((Below.refl _ _).alloc (Nat.le_refl _) _)
            have hsq : Hid (Below W9.heap.size W9 (X.alloc (.cells zTx 53))) := Lib.hid (hS.out.trans (HBA.out.mono hS.out.size))
            refine hK.out _ _ hsq (fun _ => ?_)
            clear hK K
            refine wpAnyH_genT fun X1 hY => ?_
            replace hY : X1 = X.alloc (.cells zTx 53) := hY
            have HZ : Hid (Blk X1 X.heap.size 53 zTx) := Lib.hid (by rw [hY]; exact Blk.new _ _ _)
            have HGZ : Hid (W9.heap.size ≤ X.heap.size) := Lib.hid hS.out.size
            rw [← hY] at HBA hsq
            have hS1 : Hid (Below W9.heap.size W9 X1) := hsq
            clear hY hsq
            try replace HCE := Lib.hid (rows_bel HCE.out HAB.out HBA.out)
            try replace HAB := Lib.hid (Nat.lt_of_lt_of_le HAB.out (Below.size HBA.out))
            try replace HRT := Lib.hid (And.intro (HRT.out.1.bel HBA.out) HRT.out.2)
            try replace HE := Lib.hid (HE.out.bel HBA.out)
            clear HBA
            refine wpAnyH_ready (rs := [1]) (by kernel_rfl) (by simp) (AllReadyH.cons rfl (fun K hK => ?_) AllReadyH.nil)
            refine step_build_en (by rfl) (.tmp 142) (by rfl) z (by go_simp) ?_
            have HBA : Hid (Below X1.heap.size X1 (X1.alloc (.cells z.cs 89))) := Lib.hid ((Below.refl _ _).alloc (Nat.le_refl _) _)
            have hsq : Hid (Below W9.heap.size W9 (X1.alloc (.cells z.cs 89))) := Lib.hid (hS1.out.trans (HBA.out.mono hS1.out.size))
            have HE : Hid (Blk (X1.alloc (.cells z.cs 89)) X1.heap.size 89 z.cs) := Lib.hid (Blk.new _ _ _)
            refine hK.out _ _ hsq (fun _ => ?_)
            clear hK K
            (try replace HZ := Lib.hid (HZ.out.bel HBA.out))
            refine wpAnyH_genT fun X2 hY => ?_
            replace hY : X2 = X1.alloc (.cells z.cs 89) := hY
            rw [← hY] at HE hsq
            have hS2 : Hid (Below W9.heap.size W9 X2) := hsq
            (try rw [← hY] at HZ)
            clear hY hsq HBA
            refine wpAnyH_ready (rs := [4]) (by kernel_rfl) (by simp) (AllReadyH.cons rfl (fun K hK => ?_) AllReadyH.nil)
            go_simp
            refine (KB X2 X1.heap.size HE.out).out.mono ?_
            rintro e X3 ⟨t, rfl, hr, _, hb⟩
            obtain ⟨hr, A9, c9, B9, d9, ht⟩ := hr rfl
            have hS3 : Hid (Below W9.heap.size W9 X3) := Lib.hid (hS2.out.trans (Below.mono hb hS2.out.size))
            have HRT : Hid (TxRows 0 X3 t ∧ ∃ A c B d, t = backX [z] cl A c B d) := Lib.hid ⟨hr.mono (Nat.zero_le _), A9, c9, B9, d9, ht⟩
            (try replace HZ := Lib.hid (HZ.out.bel hb))
            clear hb hr ht HE
            go_simp
            refine hK.out _ _ hS3 (fun _ => ?_)
            clear hK K
            refine wpAnyH_take (i := 5) (v := ?_) rfl (by kernel_rfl) (by kernel_rfl) (by kernel_rfl) (fun _ _ _ h => h) (Or.inl ⟨by rfl, ?_⟩) hS3 ?_
            rotate_left
            · (intro w _; go_simp; try with_reducible rfl)
            refine wpAnyH_take (i := 6) (v := ?_) rfl (by kernel_rfl) (by kernel_rfl) (by kernel_rfl) (fun _ _ _ h => h) (Or.inl ⟨by rfl, ?_⟩) hS3 ?_
            rotate_left
            · (intro w _; go_simp; try with_reducible rfl)
            refine wpAnyH_take (i := 7) (v := ?_) rfl (by kernel_rfl) (by kernel_rfl) (by kernel_rfl) (fun _ _ _ h => h) (Or.inl ⟨by rfl, ?_⟩) hS3 ?_
            rotate_left
            · (intro w _; go_simp; try with_reducible rfl)
            refine wpAnyH_ready (rs := [9]) (by kernel_rfl) (by simp) (AllReadyH.cons rfl (fun K hK => ?_) AllReadyH.nil)
            refine step_store_part (by rfl) 53 (.tmp 24) (.tmp 147) (by rfl) X.heap.size 0 HZ.out t.cs t.cs (by go_simp) (by go_simp) (Nat.le_refl 6) infoTx (txncs_one t) (txn_over t rfl) ?_
            intro Z hz3 hz4
            have HSZ : Hid (Below W9.heap.size W9 Z) := Lib.hid (hS3.out.trans (hz4.below hS3.out.size (by intro x hx; simp at hx; rw [hx]; exact HGZ.out)))
            refine hK.out _ _ HSZ (fun _ => ?_)
            clear hK K
            refine wpAnyH_take (i := 10) (v := ?_) rfl (by kernel_rfl) (by kernel_rfl) (by kernel_rfl) (fun _ _ _ h => h) (Or.inl ⟨by rfl, ?_⟩) HSZ ?_
            rotate_left
            · (intro w _; go_simp; try with_reducible rfl)
            refine wpAnyH_done (by kernel_rfl) ?_ _
            try go_simp
            try go_wp2_with fail
            go_meet
            exact ⟨_, t, rfl, rfl, HSZ, Lib.hid ⟨hz3, HGZ.out⟩, Lib.hid ⟨HRT.out.1.ch hz4 HZ.out.kdT (by decide) (by decide) (by decide), HRT.out.2⟩⟩
        · go_simp
          have HBA : Hid (Below X.heap.size X (X.alloc (.cells zTx 53))) := Lib.hid ((Below.refl _ _).alloc (Nat.le_refl _) _)
          have hsq : Hid (Below W9.heap.size W9 (X.alloc (.cells zTx 53))) := Lib.hid (hS.out.trans (HBA.out.mono hS.out.size))
          refine hK.out _ _ hsq (fun _ => ?_)
          clear hK K
          refine wpAnyH_genT fun X1 hY => ?_
          replace hY : X1 = X.alloc (.cells zTx 53) := hY
          have HZ : Hid (Blk X1 X.heap.size 53 zTx) := Lib.hid (by rw [hY]; exact Blk.new _ _ _)
          have HGZ : Hid (W9.heap.size ≤ X.heap.size) := Lib.hid hS.out.size
          rw [← hY] at HBA hsq
          have hS1 : Hid (Below W9.heap.size W9 X1) := hsq
          clear hY hsq
          try replace HCE := Lib.hid (rows_bel HCE.out HAB.out HBA.out)
          try replace HAB := Lib.hid (Nat.lt_of_lt_of_le HAB.out (Below.size HBA.out))
          try replace HRT := Lib.hid (And.intro (HRT.out.1.bel HBA.out) HRT.out.2)
          try replace HE := Lib.hid (HE.out.bel HBA.out)
          clear HBA
          refine wpAnyH_ready (rs := [1, 3]) (by kernel_rfl) (by simp) (AllReadyH.cons rfl (fun K hK => ?_) (AllReadyH.cons rfl (fun K hK => ?_) AllReadyH.nil))
          · refine step_build_en (by rfl) (.tmp 142) (by rfl) z (by go_simp) ?_
            have HBA : Hid (Below X1.heap.size X1 (X1.alloc (.cells z.cs 89))) := Lib.hid ((Below.refl _ _).alloc (Nat.le_refl _) _)
            have hsq : Hid (Below W9.heap.size W9 (X1.alloc (.cells z.cs 89))) := Lib.hid (hS1.out.trans (HBA.out.mono hS1.out.size))
            have HE : Hid (Blk (X1.alloc (.cells z.cs 89)) X1.heap.size 89 z.cs) := Lib.hid (Blk.new _ _ _)
            refine hK.out _ _ hsq (fun _ => ?_)
            clear hK K
            (try replace HZ := Lib.hid (HZ.out.bel HBA.out))
            refine wpAnyH_genT fun X2 hY => ?_
            replace hY : X2 = X1.alloc (.cells z.cs 89) := hY
            rw [← hY] at HE hsq
            have hS2 : Hid (Below W9.heap.size W9 X2) := hsq
            (try rw [← hY] at HZ)
            clear hY hsq HBA
            refine wpAnyH_ready (rs := [3]) (by kernel_rfl) (by simp) (AllReadyH.cons rfl (fun K hK => ?_) AllReadyH.nil)
            go_simp
            refine (KR X2 hS2.out).out.mono ?_
            rintro e Yq ⟨rfl, hq⟩
            rw [← hq]
            clear hq Yq
            go_simp
            refine hK.out _ _ hS2 (fun _ => ?_)
            clear hK K
            refine wpAnyH_ready (rs := [4]) (by kernel_rfl) (by simp) (AllReadyH.cons rfl (fun K hK => ?_) AllReadyH.nil)
            go_simp
            refine (KB X2 X1.heap.size HE.out).out.mono ?_
            rintro e X3 ⟨t, rfl, hr, _, hb⟩
            obtain ⟨hr, A9, c9, B9, d9, ht⟩ := hr rfl
            have hS3 : Hid (Below W9.heap.size W9 X3) := Lib.hid (hS2.out.trans (Below.mono hb hS2.out.size))
            have HRT : Hid (TxRows 0 X3 t ∧ ∃ A c B d, t = backX [z] cl A c B d) := Lib.hid ⟨hr.mono (Nat.zero_le _), A9, c9, B9, d9, ht⟩
            (try replace HZ := Lib.hid (HZ.out.bel hb))
            clear hb hr ht HE
            go_simp
            refine hK.out _ _ hS3 (fun _ => ?_)
            clear hK K
            refine wpAnyH_take (i := 5) (v := ?_) rfl (by kernel_rfl) (by kernel_rfl) (by kernel_rfl) (fun _ _ _ h => h) (Or.inl ⟨by rfl, ?_⟩) hS3 ?_
            rotate_left
            · (intro w _; go_simp; try with_reducible rfl)
            refine wpAnyH_take (i := 6) (v := ?_) rfl (by kernel_rfl) (by kernel_rfl) (by kernel_rfl) (fun _ _ _ h => h) (Or.inl ⟨by rfl, ?_⟩) hS3 ?_
            rotate_left
            · (intro w _; go_simp; try with_reducible rfl)
            refine wpAnyH_take (i := 7) (v := ?_) rfl (by kernel_rfl) (by kernel_rfl) (by kernel_rfl) (fun _ _ _ h => h) (Or.inl ⟨by rfl, ?_⟩) hS3 ?_
            rotate_left
            · (intro w _; go_simp; try with_reducible rfl)
            refine wpAnyH_ready (rs := [9]) (by kernel_rfl) (by simp) (AllReadyH.cons rfl (fun K hK => ?_) AllReadyH.nil)
            refine step_store_part (by rfl) 53 (.tmp 24) (.tmp 147) (by rfl) X.heap.size 0 HZ.out t.cs t.cs (by go_simp) (by go_simp) (Nat.le_refl 6) infoTx (txncs_one t) (txn_over t rfl) ?_
            intro Z hz3 hz4
            have HSZ : Hid (Below W9.heap.size W9 Z) := Lib.hid (hS3.out.trans (hz4.below hS3.out.size (by intro x hx; simp at hx; rw [hx]; exact HGZ.out)))
            refine hK.out _ _ HSZ (fun _ => ?_)
            clear hK K
            refine wpAnyH_take (i := 10) (v := ?_) rfl (by kernel_rfl) (by kernel_rfl) (by kernel_rfl) (fun _ _ _ h => h) (Or.inl ⟨by rfl, ?_⟩) HSZ ?_
            rotate_left
            · (intro w _; go_simp; try with_reducible rfl)
            refine wpAnyH_done (by kernel_rfl) ?_ _
            try go_simp
            try go_wp2_with fail
            go_meet
            exact ⟨_, t, rfl, rfl, HSZ, Lib.hid ⟨hz3, HGZ.out⟩, Lib.hid ⟨HRT.out.1.ch hz4 HZ.out.kdT (by decide) (by decide) (by decide), HRT.out.2⟩⟩
          · go_simp
            refine (KR X1 hS1.out).out.mono ?_
            rintro e Yq ⟨rfl, hq⟩
            rw [← hq]
            clear hq Yq
            go_simp
            refine hK.out _ _ hS1 (fun _ => ?_)
            clear hK K
            refine wpAnyH_ready (rs := [1]) (by kernel_rfl) (by simp) (AllReadyH.cons rfl (fun K hK => ?_) AllReadyH.nil)
            refine step_build_en (by rfl) (.tmp 142) (by rfl) z (by go_simp) ?_
            have HBA : Hid (Below X1.heap.size X1 (X1.alloc (.cells z.cs 89))) := Lib.hid ((Below.refl _ _).alloc (Nat.le_refl _) _)
            have hsq : Hid (Below W9.heap.size W9 (X1.alloc (.cells z.cs 89))) := Lib.hid (hS1.out.trans (HBA.out.mono hS1.out.size))
            have HE : Hid (Blk (X1.alloc (.cells z.cs 89)) X1.heap.size 89 z.cs) := Lib.hid (Blk.new _ _ _)
            refine hK.out _ _ hsq (fun _ => ?_)
            clear hK K
            (try replace HZ := Lib.hid (HZ.out.bel HBA.out))
            refine wpAnyH_genT fun X2 hY => ?_
            replace hY : X2 = X1.alloc (.cells z.cs 89) := hY
            rw [← hY] at HE hsq
            have hS2 : Hid (Below W9.heap.size W9 X2) := hsq
            (try rw [← hY] at HZ)
            clear hY hsq HBA
            refine wpAnyH_ready (rs := [4]) (by kernel_rfl) (by simp) (AllReadyH.cons rfl (fun K hK => ?_) AllReadyH.nil)
            go_simp
            refine (KB X2 X1.heap.size HE.out).out.mono ?_
            rintro e X3 ⟨t, rfl, hr, _, hb⟩
            obtain ⟨hr, A9, c9, B9, d9, ht⟩ := hr rfl
            have hS3 : Hid (Below W9.heap.size W9 X3) := Lib.hid (hS2.out.trans (Below.mono hb hS2.out.size))
            have HRT : Hid (TxRows 0 X3 t ∧ ∃ A c B d, t = backX [z] cl A c B d) := Lib.hid ⟨hr.mono (Nat.zero_le _), A9, c9, B9, d9, ht⟩
            (try replace HZ := Lib.hid (HZ.out.bel hb))
            clear hb hr ht HE
            go_simp
            refine hK.out _ _ hS3 (fun _ => ?_)
            clear hK K
            refine wpAnyH_take (i := 5) (v := ?_) rfl (by kernel_rfl) (by kernel_rfl) (by kernel_rfl) (fun _ _ _ h => h) (Or.inl ⟨by rfl, ?_⟩) hS3 ?_
            rotate_left
            · (intro w _; go_simp; try with_reducible rfl)
            refine wpAnyH_take (i := 6) (v := ?_) rfl (by kernel_rfl) (by kernel_rfl) (by kernel_rfl) (fun _ _ _ h => h) (Or.inl ⟨by rfl, ?_⟩) hS3 ?_
            rotate_left
            · (intro w _; go_simp; try with_reducible rfl)
            refine wpAnyH_take (i := 7) (v := ?_) rfl (by kernel_rfl) (by kernel_rfl) (by kernel_rfl) (fun _ _ _ h => h) (Or.inl ⟨by rfl, ?_⟩) hS3 ?_
            rotate_left
            · (intro w _; go_simp; try with_reducible rfl)
            refine wpAnyH_ready (rs := [9]) (by kernel_rfl) (by simp) (AllReadyH.cons rfl (fun K hK => ?_) AllReadyH.nil)
            refine step_store_part (by rfl) 53 (.tmp 24) (.tmp 147) (by rfl) X.heap.size 0 HZ.out t.cs t.cs (by go_simp) (by go_simp) (Nat.le_refl 6) infoTx (txncs_one t) (txn_over t rfl) ?_
            intro Z hz3 hz4
            have HSZ : Hid (Below W9.heap.size W9 Z) := Lib.hid (hS3.out.trans (hz4.below hS3.out.size (by intro x hx; simp at hx; rw [hx]; exact HGZ.out)))
            refine hK.out _ _ HSZ (fun _ => ?_)
            clear hK K
            refine wpAnyH_take (i := 10) (v := ?_) rfl (by kernel_rfl) (by kernel_rfl) (by kernel_rfl) (fun _ _ _ h => h) (Or.inl ⟨by rfl, ?_⟩) HSZ ?_
            rotate_left
            · (intro w _; go_simp; try with_reducible rfl)
            refine wpAnyH_done (by kernel_rfl) ?_ _
            try go_simp
            try go_wp2_with fail
            go_meet
            exact ⟨_, t, rfl, rfl, HSZ, Lib.hid ⟨hz3, HGZ.out⟩, Lib.hid ⟨HRT.out.1.ch hz4 HZ.out.kdT (by decide) (by decide) (by decide), HRT.out.2⟩⟩
      case rest =>
        obtain ⟨g24, t2, rfl, rfl, HBX, H24, HR⟩ := hcut
        have HG24 : Hid (w0.heap.size ≤ g24) := Lib.hid (Nat.le_trans HS9.out.bel.size H24.out.2)
        replace H24 := Lib.hid H24.out.1
        replace HS9 := Lib.hid (HS9.out.go HBX.out)
        clear HBX KB KR H22
        obtain ⟨hrow, A2, c2, B2, d2, hte⟩ := HR.out
        have hte' : t2 = backX [⟨id, 0, lbO cl lk ex⟩] cl A2 c2 B2 d2 := by rw [hte, HZZ.out]
        have hrt : rightT t2 = true := by rw [hte']; exact lb_bright HV.out HIZ.out A2 c2 B2 d2
        have hco : coreX t2 = coreOn [⟨id, 0, lbO cl lk ex⟩] 3 [payO (lk - 10) cl] := by rw [hte']; exact lb_bcore HV.out HIZ.out
        have hto : ∀ o ∈ t2.outs, o.am < 18446744073709551616 ∧ o.unit < 18446744073709551616 := by rw [hte', lb_bouts HV.out]; intro o ho; rw [List.mem_singleton.1 ho]; exact ⟨by show lk - 10 < _; omega, by show (0 : Nat) < _; decide⟩
        have hpl : t2.p.l.length ≤ 1000 := by rw [hte']; show (0 : Nat) ≤ 1000; decide
        have KS := Lib.hid (csigned_gen t2 kb cb 1 1 sd wc hrow.mem hrow.nz hpl hto hrt HS9.out.key (by decide) (by decide) (Nat.le_trans HSZ.out (by decide)))
        rw [hco] at KS
        have HTE := Lib.hid hte'
        clear hrow hrt hco hto hpl hte hte' HR
        obtain ⟨sb2, hsv⟩ : ∃ sv, sv = signB sd 1 1 (coreOn [⟨id, 0, lbO cl lk ex⟩] 3 [payO (lk - 10) cl]) := ⟨_, rfl⟩
        have HSW1 : Hid (sb2.size ≤ 400) := Lib.hid (by rw [hsv, signB_size sd (by decide)]; decide)
        have HSW2 : Hid (verB cl (coreOn [⟨id, 0, lbO cl lk ex⟩] 3 [payO (lk - 10) cl]) sb2 = true) := Lib.hid (by rw [hsv, HCD.out]; exact ver_sign sd (by decide) (by decide) _)
        rw [← hsv] at KS
        clear hsv
        go_wp2_with (refine wpList_load_blk rfl 53 (.tmp 24) rfl g24 0 6 H24.out t2.cs (by rfl) (txn_ext t2) Tryz.underlying53 infoTx (Nat.le_refl 6) ?_)
        refine KS.out.mono ?_
        rintro e V1 ⟨A3, c3, B3, d3, PA3, pc3, rfl, hr1, hk1, hc1⟩
        obtain ⟨v, hv⟩ : ∃ v, v = sgA (cpT t2 A3 c3 B3 d3 PA3 pc3) sb2 := ⟨_, rfl⟩
        rw [← hv] at hr1 ⊢
        have HVV : Hid (v = lbB cl id lk ex A2 c2 B2 d2 A3 c3 B3 d3 PA3 pc3 sb2) := Lib.hid (by rw [hv, HTE.out]; rfl)
        replace H24 := Lib.hid (H24.out.ctr HS9.out.key hc1 (by decide))
        replace HS9 := Lib.hid (HS9.out.sign hk1 hc1)
        have HRU := Lib.hid (hr1.mono (Nat.zero_le _))
        clear hr1 hk1 hc1 hv KS HTE
        go_upto_region 22 with (refine wpList_store_part rfl 53 (.tmp 24) (.tmp 153) rfl g24 0 (cs := t2.cs) H24.out v.cs v.cs (by rfl) (by rfl) (Nat.le_refl 6) infoTx (txncs_one v) (txn_over v rfl) ?_; intro V2 hb2 hc2; have H24n := Lib.hid hb2; have HSn := Lib.hid (HS9.out.st H24.out hc2 (by decide) (by decide) (by decide) (by decide) HG24.out); have HRUn := Lib.hid (HRU.out.ch hc2 H24.out.kdT (by decide) (by decide) (by decide)); clear hb2 hc2)
        clear H24 HS9 HRU
        have HVO : Hid (v.outs = [payO (lk - 10) cl]) := Lib.hid (by rw [HVV.out]; exact lbB_outs HV.out)
        have hvl : v.outs.length = 1 := by rw [HVO.out]; rfl
        have c24 := blk_outs H24n.out hvl
        have HTO : Hid (TxOk v) := Lib.hid (by rw [HVV.out]; exact lbB_ok HV.out)
        have k1 := lbB_check (A0 := A2) (c0 := c2) (B0 := B2) (d0 := d2) (A := A3) (c := c3) (B := B3) (d := d3) (PA := PA3) (pc := pc3) HV.out HIZ.out HSW1.out HSn.out.set.ut.srt ((ex : Int) - 1) (.inr HSW2.out)
        have k2 := lbB_check (A0 := A2) (c0 := c2) (B0 := B2) (d0 := d2) (A := A3) (c := c3) (B := B3) (d := d3) (PA := PA3) (pc := pc3) HV.out HIZ.out HSW1.out HSn.out.set.ut.srt (ex : Int) (.inr HSW2.out)
        rw [if_pos (by omega), ← HVV.out] at k1
        rw [if_neg (by omega), ← HVV.out] at k2
        have KC := fun W (h : Below V2.heap.size V2 W) => Lib.hid (check_any sb b _ v ((ex : Int) - 1) W (HSn.out.set.bel h) (HRUn.out.bel h).mem HT1.out HTO.out)
        have KA := fun W (h : Below V2.heap.size V2 W) => Lib.hid (apply_any sb b _ v (ex : Int) W (HSn.out.set.bel h) (HRUn.out.bel h).mem HT1.out HTO.out)
        rw [k1] at KC
        rw [k2] at KA
        have z1 : wrap64 ((ex : Int) - 1) = (ex : Int) - 1 := IntWalk.wrap64_in _ ⟨by omega, by omega⟩
        have z2 : IntKind.u64.wrap ((lk : Int) - 10) = ((lk - 10 : Nat) : Int) := by rw [IntWalk.u64_in _ (by omega)]; omega
        have z3 : (((lk - 10 : Nat) : Int) == ((lk - 10 : Nat) : Int)) = true := beq_self_eq_true _
        clear k1 k2 hvl
        go_wp2_with (refine wpList_load_blk rfl 53 (.tmp 24) rfl g24 0 6 H24n.out v.cs (by rfl) (txn_ext v) Tryz.underlying53 infoTx (Nat.le_refl 6) ?_)
        refine (KC _ (Below.refl _ _)).out.mono ?_
        rintro e V3 ⟨rfl, hb⟩
        have H243 := Lib.hid (H24n.out.bel hb)
        have HB3 := Lib.hid (show Below V2.heap.size V2 V3 from hb)
        clear hb KC c24
        go_wp2_with (refine wpList_load_blkG (by rfl) 53 (.tmp 24) rfl g24 0 6 H243.out v.cs (by rfl) (txn_ext v) Tryz.underlying53 infoTx (Nat.le_refl 6) ?_)
        refine (KA _ HB3.out).out.mono ?_
        rintro e V4 ⟨rfl, hc4, hset⟩
        have HS4 := Lib.hid ((HSn.out.go HB3.out).app hset hc4)
        have HR4 := Lib.hid ((HRUn.out.bel HB3.out).map (HSn.out.set.bel HB3.out).ut hc4)
        have H244 := Lib.hid (H243.out.app (HSn.out.set.bel HB3.out) hc4)
        obtain ⟨ob, oo, hB, hro⟩ := out_rows HR4.out HVO.out (by simp)
        have y1 : V4.cell? ⟨g24, 1, none⟩ = some (.slice (some ⟨ob, oo, none⟩) 1 v.d) := by rw [← hB]; exact blk_outs H244.out (by rw [HVO.out]; rfl)
        have y3 : V4.cell? ⟨ob, oo + 1, none⟩ = some (.int .u64 ((payO (lk - 10) cl).am : Nat)) := by simpa using hro 0 _ rfl 1 _ rfl
        have y2 : V4.cell? ⟨ob, oo + 1, none⟩ = some (.int .u64 ((lk - 10 : Nat) : Int)) := y3
        clear y3
        clear hset hc4 hB hro KA
        go_wp2_with fail
        refine (fixed18_any _).mono ?_
        rintro e V5 ⟨rfl, hb⟩
        go_wp2_with fail
        go_ret
        exact ⟨rfl, HS4.out.bel.trans (hb.mono HS4.out.bel.size)⟩
end Go.Proofs.YtjcinncphffgaaaGreat
