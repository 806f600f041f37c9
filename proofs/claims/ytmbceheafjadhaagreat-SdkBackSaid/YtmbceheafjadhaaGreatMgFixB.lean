/- law23: fixed. -/
import Derived.Outline
import Derived.Deep.RegionHeld3
import Derived.Test.YtmbceheafjadhaaGreatMgClmB
import Derived.Test.YtmbceheafjadhaaGreatMgNote
import Derived.Test.YtmbceheafjadhaaGreatMgNum
import Derived.Test.YtmbceheafjadhaaGreatMgSdkC
import Derived.Test.YtmbceheafjadhaaGreatMgSdkD
set_option linter.unusedVariables false
set_option linter.unusedSimpArgs false
namespace Go.Proofs.YtmbceheafjadhaaGreat
open Go.RowKit Go.Maps
theorem lkC (sd : ByteArray) (tok : Nat) (h : tok ≤ 4096) : Lk.ok ⟨100, rootB sd 2, rootB sd 2, 9, tokB sd 5 0, 3, tok⟩ := ⟨by simp, rootB_size _ _, rootB_size _ _, by simp, tokB_size _ _ _, by simp, h⟩
theorem Ins1.path {w : World} {g out path : Nat} {tx sig : ByteArray} (h : Ins1 w g tx out path sig) : w.cell? ⟨g, 2, none⟩ = some (.int .i64 path) := by
  obtain ⟨cur, h1, h2, h3⟩ := h
  rw [h1.cell 2]
  have : (cur.extract 0 (0 + 4))[2]? = some (.int .i64 path) := by rw [h2]; rfl
  rw [Array.getElem?_extract, if_pos (by omega)] at this
  simpa using this
theorem infoOf9 : (Tryz.prog.info? 262).map (·.size) = some 9 := by kernel_rfl
set_option maxRecDepth 100000 in
set_option maxHeartbeats 4000000 in
theorem fixed_any (w : World) : Calls Tryz.prog 73 #[] w fun e w' => e = .returned (.bool true) ∧ Below w.heap.size w w' := by
  obtain ⟨sd, hsd⟩ : ∃ sd : ByteArray, sd = ⟨#[99, 108, 105, 101, 110, 116]⟩ := ⟨_, rfl⟩
  have hsz : sd.size = 6 := by rw [hsd]; rfl
  obtain ⟨tx, htx⟩ : ∃ tx : ByteArray, tx = ⟨#[116, 116, 116, 116, 116, 116, 116, 116, 116, 116, 116, 116, 116, 116, 116, 116]⟩ := ⟨_, rfl⟩
  have htz : tx.size = 16 := by rw [htx]; rfl
  have HNEW := fun W => Lib.hid (snew_any sd 2 5 W (by omega) (by omega) (by omega) (by omega))
  have HNEW5 := fun W => Lib.hid (snew_tall sd 5 W (by omega) (by omega) (by omega))
  have HPL := fun W => Lib.hid (place_any W)
  rw [hsd] at HNEW5
  rw [← htx] at HPL
  have HNEW' : ∀ W, Hid (Calls Tryz.prog 66 #[.string ⟨#[99, 108, 105, 101, 110, 116]⟩, .int .i64 2, .int .i64 5] W fun e w' => ∃ cb kb ctr pb mb, e = .returned (.tuple #[.pointer (some ⟨cb, 0, none⟩), .int .i64 0]) ∧ (W.heap.size ≤ cb ∧ W.heap.size ≤ ctr ∧ W.heap.size ≤ mb) ∧ ZIn w' cb kb ctr pb mb sd 2 5 0 ∧ Below W.heap.size W w') := fun W => by have := HNEW W; rw [← hsd]; exact this
  clear HNEW hsd htx
  go_enter Tryz.func73, Tryz.ntmps73
  go_wp2_with fail
  refine (HNEW' _).out.mono ?_
  rintro e V ⟨cb, kb, ctr, pb, mb, rfl, ⟨hcb, hct, hmb⟩, hz, hb0⟩
  have HC := Lib.hid hz
  have HB := Lib.hid hb0
  obtain ⟨N, hN⟩ : ∃ N, V.heap.size = N := ⟨_, rfl⟩
  have HN : Hid (N ≤ V.heap.size) := Nat.le_of_eq hN.symm
  have hcN : cb < N := by rw [← hN]; exact hz.1.lt
  have htN : ctr < N := by obtain ⟨_, _, k2, _⟩ := hz.2.1; rw [← hN]; exact k2.lt
  have hmN : mb < N := by rw [← hN]; exact hz.2.2.2.lt
  have hSN : ∀ x ∈ [cb, ctr, mb], x < N := by intro x hx; simp at hx; rcases hx with rfl | rfl | rfl <;> assumption
  have hSW : ∀ x ∈ [cb, ctr, mb], w.heap.size ≤ x := by intro x hx; simp at hx; rcases hx with rfl | rfl | rfl <;> assumption
  clear hz hb0 hN HNEW'
  go_wp2_with fail
  refine (HNEW5 _).out.mono ?_
  rintro e V2 ⟨rfl, hb⟩
  have HC := Lib.hid (HC.out.bel hb)
  have HB := Lib.hid (HB.out.trans (hb.mono HB.out.size))
  have HN := Lib.hid (Nat.le_trans HN.out hb.size)
  try have A7 := Lib.hid (A7.out.bel hb)
  try have A10 := Lib.hid (A10.out.bel hb)
  try have A14 := Lib.hid (A14.out.bel hb)
  try have A16 := Lib.hid (A16.out.bel hb)
  try have A22 := Lib.hid (A22.out.bel hb)
  try have A26 := Lib.hid (A26.out.bel hb)
  try have A27 := Lib.hid (A27.out.bel hb)
  try have A34 := Lib.hid (A34.out.bel hb)
  try have AI := Lib.hid (AI.out.bel hb)
  clear hb HNEW5
  go_wp2_with fail
  refine (zpay_any 5 (by omega) HC.out.at_).mono ?_
  rintro e V ⟨rfl, hb⟩
  have HC := Lib.hid (HC.out.bel hb)
  have HB := Lib.hid (HB.out.trans (hb.mono HB.out.size))
  have HN := Lib.hid (Nat.le_trans HN.out hb.size)
  try have A7 := Lib.hid (A7.out.bel hb)
  try have A10 := Lib.hid (A10.out.bel hb)
  try have A14 := Lib.hid (A14.out.bel hb)
  try have A16 := Lib.hid (A16.out.bel hb)
  try have A22 := Lib.hid (A22.out.bel hb)
  try have A26 := Lib.hid (A26.out.bel hb)
  try have A27 := Lib.hid (A27.out.bel hb)
  try have A34 := Lib.hid (A34.out.bel hb)
  try have AI := Lib.hid (AI.out.bel hb)
  clear hb
  go_wp2_with (first
    | (refine wpList_store_part rfl 147 (.tmp 5) (.tmp 55) rfl V.heap.size 0 (cs := (opP 0 ByteArray.empty 0 ByteArray.empty)) (Blk.new _ _ _) (opP 0 ByteArray.empty 0 ByteArray.empty) (opP 0 ByteArray.empty 0 ByteArray.empty) (by rfl) (by rfl) (Nat.le_refl 27) infoOp (opP_one _ _ _ _) (opP_over _ _ _ _ _ _ _ _) ?_; intro V2 hb2 hc2; have A5 := Lib.hid hb2; have hb := Lib.hid (bel_st hc2); clear hb2 hc2))
  have g5 := HN.out
  have hb := hb.out
  have HC := Lib.hid (HC.out.bel hb)
  have HB := Lib.hid (HB.out.trans (hb.mono HB.out.size))
  have HN := Lib.hid (Nat.le_trans HN.out hb.size)
  try have A7 := Lib.hid (A7.out.bel hb)
  try have A10 := Lib.hid (A10.out.bel hb)
  try have A14 := Lib.hid (A14.out.bel hb)
  try have A16 := Lib.hid (A16.out.bel hb)
  try have A22 := Lib.hid (A22.out.bel hb)
  try have A26 := Lib.hid (A26.out.bel hb)
  try have A27 := Lib.hid (A27.out.bel hb)
  try have A34 := Lib.hid (A34.out.bel hb)
  try have AI := Lib.hid (AI.out.bel hb)
  clear hb
  refine (zroot_any HC.out.at_).mono ?_
  rintro e V ⟨rfl, hq⟩
  rw [hq]
  clear hq V
  go_wp2_with fail
  refine (zoutput_any HC.out.at_ (by omega) 100 9 3 (rootB sd 2)).mono ?_
  rintro e V ⟨rfl, hb⟩
  have HC := Lib.hid (HC.out.bel hb)
  have HB := Lib.hid (HB.out.trans (hb.mono HB.out.size))
  have HN := Lib.hid (Nat.le_trans HN.out hb.size)
  try have A7 := Lib.hid (A7.out.bel hb)
  try have A10 := Lib.hid (A10.out.bel hb)
  try have A14 := Lib.hid (A14.out.bel hb)
  try have A16 := Lib.hid (A16.out.bel hb)
  try have A22 := Lib.hid (A22.out.bel hb)
  try have A26 := Lib.hid (A26.out.bel hb)
  try have A27 := Lib.hid (A27.out.bel hb)
  try have A34 := Lib.hid (A34.out.bel hb)
  try have AI := Lib.hid (AI.out.bel hb)
  clear hb
  go_wp2_with (first
    | (refine wpList_store_part rfl 57 (.tmp 7) (.tmp 60) rfl V.heap.size 0 (cs := zOut) (Blk.new _ _ _) (oOut 100 (rootB sd 2) (rootB sd 2) 9 (tokB sd 5 0) 3 5) (oOut 100 (rootB sd 2) (rootB sd 2) 9 (tokB sd 5 0) 3 5) (by rfl) (by rfl) (Nat.le_refl 9) infoOut (oOut_one _ _ _ _ _ _ _) (oOut_over _ _ _ _ _ _ _) ?_; intro V2 hb2 hc2; have A7 := Lib.hid hb2; have hb := Lib.hid (bel_st hc2); clear hb2 hc2))
  have g7 := HN.out
  have hb := hb.out
  have HC := Lib.hid (HC.out.bel hb)
  have HB := Lib.hid (HB.out.trans (hb.mono HB.out.size))
  have HN := Lib.hid (Nat.le_trans HN.out hb.size)
  try have A7 := Lib.hid (A7.out.bel hb)
  try have A10 := Lib.hid (A10.out.bel hb)
  try have A14 := Lib.hid (A14.out.bel hb)
  try have A16 := Lib.hid (A16.out.bel hb)
  try have A22 := Lib.hid (A22.out.bel hb)
  try have A26 := Lib.hid (A26.out.bel hb)
  try have A27 := Lib.hid (A27.out.bel hb)
  try have A34 := Lib.hid (A34.out.bel hb)
  try have AI := Lib.hid (AI.out.bel hb)
  clear hb
  obtain ⟨b7, hb7⟩ : ∃ b, V.heap.size = b := ⟨_, rfl⟩
  rw [hb7] at A7 g7 ⊢
  clear hb7
  refine (zback_any HC.out.at_).mono ?_
  rintro e V ⟨rfl, hb⟩
  have HC := Lib.hid (HC.out.bel hb)
  have HB := Lib.hid (HB.out.trans (hb.mono HB.out.size))
  have HN := Lib.hid (Nat.le_trans HN.out hb.size)
  try have A7 := Lib.hid (A7.out.bel hb)
  try have A10 := Lib.hid (A10.out.bel hb)
  try have A14 := Lib.hid (A14.out.bel hb)
  try have A16 := Lib.hid (A16.out.bel hb)
  try have A22 := Lib.hid (A22.out.bel hb)
  try have A26 := Lib.hid (A26.out.bel hb)
  try have A27 := Lib.hid (A27.out.bel hb)
  try have A34 := Lib.hid (A34.out.bel hb)
  try have AI := Lib.hid (AI.out.bel hb)
  clear hb
  go_wp2_with (first
    | (refine wpList_store_part rfl 70 (.tmp 8) (.tmp 64) rfl V.heap.size 0 (cs := zTx) (Blk.new _ _ _) zTx zTx (by rfl) (by rfl) (Nat.le_refl 6) infoTx zTx_one zTx_over ?_; intro V2 hb2 hc2; have hb := Lib.hid (bel_st hc2); have A7 := Lib.hid (A7.out.bel hb.out); clear hb2 hc2)
    | (refine wpList_load_blk rfl 57 (.tmp 7) rfl b7 0 9 A7.out (oOut 100 (rootB sd 2) (rootB sd 2) 9 (tokB sd 5 0) 3 5) (by rfl) (by rfl) Tryz.underlying57 infoOut (Nat.le_refl 9) ?_)
    | (refine wpList_store_part rfl 57 (.tmp 10) (.tmp 66) rfl V2.heap.size 0 (cs := zOut) (Blk.new _ _ _) (oOut 100 (rootB sd 2) (rootB sd 2) 9 (tokB sd 5 0) 3 5) (oOut 100 (rootB sd 2) (rootB sd 2) 9 (tokB sd 5 0) 3 5) (by rfl) (by rfl) (Nat.le_refl 9) infoOut (oOut_one _ _ _ _ _ _ _) (oOut_over _ _ _ _ _ _ _) ?_; intro V3 hb3 hc3; have A10 := Lib.hid hb3; have hbb := Lib.hid (bel_st hc3); have y7 : V3.cell? ⟨V2.heap.size, 7, none⟩ = some (.int .i64 5) := hb3.cell 7; have z7 : V3.frozen? ⟨V2.heap.size, 7, none⟩ = false := hb3.frozen 7; clear hb3 hc3))
  have hb := hb.out
  have g10 : N ≤ V2.heap.size := Nat.le_trans HN.out hb.size
  have HC := Lib.hid (HC.out.bel hb)
  have HB := Lib.hid (HB.out.trans (hb.mono HB.out.size))
  have HN := Lib.hid (Nat.le_trans HN.out hb.size)
  try have A7 := Lib.hid (A7.out.bel hb)
  try have A10 := Lib.hid (A10.out.bel hb)
  try have A14 := Lib.hid (A14.out.bel hb)
  try have A16 := Lib.hid (A16.out.bel hb)
  try have A22 := Lib.hid (A22.out.bel hb)
  try have A26 := Lib.hid (A26.out.bel hb)
  try have A27 := Lib.hid (A27.out.bel hb)
  try have A34 := Lib.hid (A34.out.bel hb)
  try have AI := Lib.hid (AI.out.bel hb)
  refine wp_gen fun V4 hV => ?_
  clear hb
  have hb : Below V2.heap.size V2 V4 := by rw [hV]; exact hbb.out.setCell (Nat.le_refl _) _
  have HC := Lib.hid (HC.out.bel hb)
  have HB := Lib.hid (HB.out.trans (hb.mono HB.out.size))
  have HN := Lib.hid (Nat.le_trans HN.out hb.size)
  try have A7 := Lib.hid (A7.out.bel hb)
  try have A10 := Lib.hid (A10.out.bel hb)
  try have A14 := Lib.hid (A14.out.bel hb)
  try have A16 := Lib.hid (A16.out.bel hb)
  try have A22 := Lib.hid (A22.out.bel hb)
  try have A26 := Lib.hid (A26.out.bel hb)
  try have A27 := Lib.hid (A27.out.bel hb)
  try have A34 := Lib.hid (A34.out.bel hb)
  try have AI := Lib.hid (AI.out.bel hb)
  have A10 : Hid (Blk V4 V2.heap.size 57 (oOut 100 (rootB sd 2) (rootB sd 2) 9 (tokB sd 5 0) 3 6)) := by rw [hV]; exact A10.out.set_ 7 (.int .i64 6)
  generalize V2.heap.size = b10 at A10 g10 ⊢
  clear hb hbb y7 z7 hV
  refine wp_region_held_drew (S := fun W => Hid (Blk W b10 57 (oOut 100 (rootB sd 2) (rootB sd 2) 9 (tokB sd 5 0) 3 6) ∧ Blk W b7 57 (oOut 100 (rootB sd 2) (rootB sd 2) 9 (tokB sd 5 0) 3 5))) (by kernel_rfl) (Lib.hid ⟨A10.out.drewN 1, A7.out.drewN 1⟩) (fun hS => ?_)
  refine wpAnyH_take (i := 0) (v := ?_) rfl (by kernel_rfl) (by kernel_rfl) (by kernel_rfl) (fun _ _ _ h => h) (Or.inl ⟨by rfl, ?_⟩) hS ?_
  rotate_left
  · (intro w _; go_simp; try with_reducible rfl)
  refine wpAnyH_take (i := 5) (v := ?_) rfl (by kernel_rfl) (by kernel_rfl) (by kernel_rfl) (fun _ _ _ h => h) (Or.inl ⟨by rfl, ?_⟩) hS ?_
  rotate_left
  · (intro w _; go_simp; try with_reducible rfl)
  refine wpAnyH_take (i := 10) (v := ?_) rfl (by kernel_rfl) (by kernel_rfl) (by kernel_rfl) (fun _ _ _ h => h) (Or.inl ⟨by rfl, ?_⟩) hS ?_
  rotate_left
  · (intro w _; go_simp; try with_reducible rfl)
  refine wpAnyH_take (i := 2) (v := .agg #[.int .i64 2, .int .u64 100, .string (rootB sd 2), .string (rootB sd 2), .int .i64 9, .string (tokB sd 5 0), .int .u64 3, .int .i64 6, .string ByteArray.empty]) rfl (by kernel_rfl) (by kernel_rfl) (by kernel_rfl) (fun _ _ _ h => h) (yields_blk (by rfl) 57 (.tmp 10) (by rfl) b10 0 9 (t := 57) (cs := oOut 100 (rootB sd 2) (rootB sd 2) 9 (tokB sd 5 0) 3 6) (fun W h => h.out.1) #[.int .i64 2, .int .u64 100, .string (rootB sd 2), .string (rootB sd 2), .int .i64 9, .string (tokB sd 5 0), .int .u64 3, .int .i64 6, .string ByteArray.empty] (by rfl) (by rfl) Tryz.underlying57 infoOut (Nat.le_refl 9)) hS ?_
  refine wpAnyH_take (i := 7) (v := .agg #[.int .i64 2, .int .u64 100, .string (rootB sd 2), .string (rootB sd 2), .int .i64 9, .string (tokB sd 5 0), .int .u64 3, .int .i64 5, .string ByteArray.empty]) rfl (by kernel_rfl) (by kernel_rfl) (by kernel_rfl) (fun _ _ _ h => h) (yields_blk (by rfl) 57 (.tmp 7) (by rfl) b7 0 9 (t := 57) (cs := oOut 100 (rootB sd 2) (rootB sd 2) 9 (tokB sd 5 0) 3 5) (fun W h => h.out.2) #[.int .i64 2, .int .u64 100, .string (rootB sd 2), .string (rootB sd 2), .int .i64 9, .string (tokB sd 5 0), .int .u64 3, .int .i64 5, .string ByteArray.empty] (by rfl) (by rfl) Tryz.underlying57 infoOut (Nat.le_refl 9)) hS ?_
  refine wpAnyH_take (i := 12) (v := .agg #[.int .i64 2, .int .u64 100, .string (rootB sd 2), .string (rootB sd 2), .int .i64 9, .string (tokB sd 5 0), .int .u64 3, .int .i64 5, .string ByteArray.empty]) rfl (by kernel_rfl) (by kernel_rfl) (by kernel_rfl) (fun _ _ _ h => h) (yields_blk (by rfl) 57 (.tmp 7) (by rfl) b7 0 9 (t := 57) (cs := oOut 100 (rootB sd 2) (rootB sd 2) 9 (tokB sd 5 0) 3 5) (fun W h => h.out.2) #[.int .i64 2, .int .u64 100, .string (rootB sd 2), .string (rootB sd 2), .int .i64 9, .string (tokB sd 5 0), .int .u64 3, .int .i64 5, .string ByteArray.empty] (by rfl) (by rfl) Tryz.underlying57 infoOut (Nat.le_refl 9)) hS ?_
  refine wpAnyH_gen fun V hV => ?_
  have hb := bel_drew hV
  have HC := Lib.hid (HC.out.bel hb)
  have HB := Lib.hid (HB.out.trans (hb.mono HB.out.size))
  have HN := Lib.hid (Nat.le_trans HN.out hb.size)
  try have A7 := Lib.hid (A7.out.bel hb)
  try have A10 := Lib.hid (A10.out.bel hb)
  try have A14 := Lib.hid (A14.out.bel hb)
  try have A16 := Lib.hid (A16.out.bel hb)
  try have A22 := Lib.hid (A22.out.bel hb)
  try have A26 := Lib.hid (A26.out.bel hb)
  try have A27 := Lib.hid (A27.out.bel hb)
  try have A34 := Lib.hid (A34.out.bel hb)
  try have AI := Lib.hid (AI.out.bel hb)
  clear hV hb hS
  refine wpAnyH_ready (rs := [1]) (by kernel_rfl) (by simp) (AllReadyH.cons rfl (fun K hK => ?_) AllReadyH.nil)
  go_simp
  refine (HPL _).out.mono ?_
  rintro e V ⟨rfl, hb⟩
  have HC := Lib.hid (HC.out.bel hb)
  have HB := Lib.hid (HB.out.trans (hb.mono HB.out.size))
  have HN := Lib.hid (Nat.le_trans HN.out hb.size)
  try have A7 := Lib.hid (A7.out.bel hb)
  try have A10 := Lib.hid (A10.out.bel hb)
  try have A14 := Lib.hid (A14.out.bel hb)
  try have A16 := Lib.hid (A16.out.bel hb)
  try have A22 := Lib.hid (A22.out.bel hb)
  try have A26 := Lib.hid (A26.out.bel hb)
  try have A27 := Lib.hid (A27.out.bel hb)
  try have A34 := Lib.hid (A34.out.bel hb)
  try have AI := Lib.hid (AI.out.bel hb)
  clear hb
  go_simp
  refine hK.out _ _ (Lib.hid ⟨A10.out, A7.out⟩) (fun hS => ?_)
  clear hK K
  refine wpAnyH_take (i := 3) (v := ?_) rfl (by kernel_rfl) (by kernel_rfl) (by kernel_rfl) (fun _ _ _ h => h) (Or.inl ⟨by rfl, ?_⟩) hS ?_
  rotate_left
  · (intro w _; go_simp; try with_reducible rfl)
  refine wpAnyH_ready (rs := [4]) (by kernel_rfl) (by simp) (AllReadyH.cons rfl (fun K hK => ?_) AllReadyH.nil)
  go_simp
  refine (zattach_no HC.out.at_ (by omega) tx 1 ⟨100, rootB sd 2, rootB sd 2, 9, tokB sd 5 0, 3, 6⟩ (lkC sd 6 (by omega)) rfl rfl (by simp)).mono ?_
  rintro e V ⟨rfl, hb⟩
  have HC := Lib.hid (HC.out.bel hb)
  have HB := Lib.hid (HB.out.trans (hb.mono HB.out.size))
  have HN := Lib.hid (Nat.le_trans HN.out hb.size)
  try have A7 := Lib.hid (A7.out.bel hb)
  try have A10 := Lib.hid (A10.out.bel hb)
  try have A14 := Lib.hid (A14.out.bel hb)
  try have A16 := Lib.hid (A16.out.bel hb)
  try have A22 := Lib.hid (A22.out.bel hb)
  try have A26 := Lib.hid (A26.out.bel hb)
  try have A27 := Lib.hid (A27.out.bel hb)
  try have A34 := Lib.hid (A34.out.bel hb)
  try have AI := Lib.hid (AI.out.bel hb)
  clear hb
  go_simp
  refine hK.out _ _ (Lib.hid ⟨A10.out, A7.out⟩) (fun hS => ?_)
  clear hK K
  refine wpAnyH_ready (rs := [6]) (by kernel_rfl) (by simp) (AllReadyH.cons rfl (fun K hK => ?_) AllReadyH.nil)
  go_simp
  refine (HPL _).out.mono ?_
  rintro e V ⟨rfl, hb⟩
  have HC := Lib.hid (HC.out.bel hb)
  have HB := Lib.hid (HB.out.trans (hb.mono HB.out.size))
  have HN := Lib.hid (Nat.le_trans HN.out hb.size)
  try have A7 := Lib.hid (A7.out.bel hb)
  try have A10 := Lib.hid (A10.out.bel hb)
  try have A14 := Lib.hid (A14.out.bel hb)
  try have A16 := Lib.hid (A16.out.bel hb)
  try have A22 := Lib.hid (A22.out.bel hb)
  try have A26 := Lib.hid (A26.out.bel hb)
  try have A27 := Lib.hid (A27.out.bel hb)
  try have A34 := Lib.hid (A34.out.bel hb)
  try have AI := Lib.hid (AI.out.bel hb)
  clear hb
  go_simp
  refine hK.out _ _ (Lib.hid ⟨A10.out, A7.out⟩) (fun hS => ?_)
  clear hK K
  refine wpAnyH_take (i := 8) (v := ?_) rfl (by kernel_rfl) (by kernel_rfl) (by kernel_rfl) (fun _ _ _ h => h) (Or.inl ⟨by rfl, ?_⟩) hS ?_
  rotate_left
  · (intro w _; go_simp; try with_reducible rfl)
  refine wpAnyH_ready (rs := [9]) (by kernel_rfl) (by simp) (AllReadyH.cons rfl (fun K hK => ?_) AllReadyH.nil)
  go_simp
  refine (zattach_ok HC.out (by omega) tx 1 ⟨100, rootB sd 2, rootB sd 2, 9, tokB sd 5 0, 3, 5⟩ (lkC sd 5 (by omega)) rfl rfl rfl).mono ?_
  rintro e V ⟨rfl, hk, hc⟩
  have hc := hc.mono (S' := [cb, ctr, mb]) (by simp <;> omega)
  have HN := Lib.hid (Nat.le_trans HN.out hc.size)
  try have A7 := Lib.hid (A7.out.chN hc hSN g7)
  try have A10 := Lib.hid (A10.out.chN hc hSN g10)
  try have A14 := Lib.hid (A14.out.chN hc hSN g14)
  try have A16 := Lib.hid (A16.out.chN hc hSN g16)
  try have A22 := Lib.hid (A22.out.chN hc hSN g22)
  try have A26 := Lib.hid (A26.out.chN hc hSN g26)
  try have A27 := Lib.hid (A27.out.chN hc hSN g27)
  have HB := Lib.hid (HB.out.trans (hc.below HB.out.size hSW))
  have HC := Lib.hid hk
  clear hc hk
  go_simp
  refine hK.out _ _ (Lib.hid ⟨A10.out, A7.out⟩) (fun hS => ?_)
  clear hK K
  refine wpAnyH_ready (rs := [11]) (by kernel_rfl) (by simp) (AllReadyH.cons rfl (fun K hK => ?_) AllReadyH.nil)
  go_simp
  refine (HPL _).out.mono ?_
  rintro e V ⟨rfl, hb⟩
  have HC := Lib.hid (HC.out.bel hb)
  have HB := Lib.hid (HB.out.trans (hb.mono HB.out.size))
  have HN := Lib.hid (Nat.le_trans HN.out hb.size)
  try have A7 := Lib.hid (A7.out.bel hb)
  try have A10 := Lib.hid (A10.out.bel hb)
  try have A14 := Lib.hid (A14.out.bel hb)
  try have A16 := Lib.hid (A16.out.bel hb)
  try have A22 := Lib.hid (A22.out.bel hb)
  try have A26 := Lib.hid (A26.out.bel hb)
  try have A27 := Lib.hid (A27.out.bel hb)
  try have A34 := Lib.hid (A34.out.bel hb)
  try have AI := Lib.hid (AI.out.bel hb)
  clear hb
  go_simp
  refine hK.out _ _ (Lib.hid ⟨A10.out, A7.out⟩) (fun hS => ?_)
  clear hK K
  refine wpAnyH_take (i := 13) (v := ?_) rfl (by kernel_rfl) (by kernel_rfl) (by kernel_rfl) (fun _ _ _ h => h) (Or.inl ⟨by rfl, ?_⟩) hS ?_
  rotate_left
  · (intro w _; go_simp; try with_reducible rfl)
  refine wpAnyH_ready (rs := [14]) (by kernel_rfl) (by simp) (AllReadyH.cons rfl (fun K hK => ?_) AllReadyH.nil)
  go_simp
  refine (sattach_twice HC.out.at_ _).mono ?_
  rintro e V ⟨rfl, hb⟩
  have HC := Lib.hid (HC.out.bel hb)
  have HB := Lib.hid (HB.out.trans (hb.mono HB.out.size))
  have HN := Lib.hid (Nat.le_trans HN.out hb.size)
  try have A7 := Lib.hid (A7.out.bel hb)
  try have A10 := Lib.hid (A10.out.bel hb)
  try have A14 := Lib.hid (A14.out.bel hb)
  try have A16 := Lib.hid (A16.out.bel hb)
  try have A22 := Lib.hid (A22.out.bel hb)
  try have A26 := Lib.hid (A26.out.bel hb)
  try have A27 := Lib.hid (A27.out.bel hb)
  try have A34 := Lib.hid (A34.out.bel hb)
  try have AI := Lib.hid (AI.out.bel hb)
  clear hb
  go_simp
  refine hK.out _ _ (Lib.hid ⟨A10.out, A7.out⟩) (fun hS => ?_)
  clear hK K
  refine wpAnyH_ready (rs := [15]) (by kernel_rfl) (by simp) (AllReadyH.cons rfl (fun K hK => ?_) AllReadyH.nil)
  go_simp
  refine hK.out _ _ hS (fun _ => ?_)
  clear hK K
  refine wpAnyH_ready (rs := [16]) (by kernel_rfl) (by simp) (AllReadyH.cons rfl (fun K hK => ?_) AllReadyH.nil)
  go_simp
  refine hK.out _ _ hS (fun _ => ?_)
  clear hK K
  refine wpAnyH_ready (rs := [17]) (by kernel_rfl) (by simp) (AllReadyH.cons rfl (fun K hK => ?_) AllReadyH.nil)
  go_simp
  refine hK.out _ _ hS (fun _ => ?_)
  clear hK K
  refine wpAnyH_done (by kernel_rfl) ?_ _
  have HPL' := HPL
  clear hS A10 A7 g10 g7 HPL
  go_wp2_with fail
  have hlk := lkC sd 5 (by omega)
  have hlu : (⟨100, rootB sd 2, rootB sd 2, 9, tokB sd 5 0, 3, 5⟩ : Lk).unit = 3 := rfl
  have hla : (⟨100, rootB sd 2, rootB sd 2, 9, tokB sd 5 0, 3, 5⟩ : Lk).am = 100 := rfl
  generalize (⟨100, rootB sd 2, rootB sd 2, 9, tokB sd 5 0, 3, 5⟩ : Lk) = l at HC hlk hlu hla
  have hA0 : allD (.map [] : DU) = ((0 : Nat) : Int) := by simp [allD, sD, totI]
  have hD0 : Maps.size (.map [] : DU) = 0 := rfl
  refine (spay_ok 30 30 HC.out hlk (by omega) (by omega) (by omega) (by omega) rfl (by omega) (room_yes hA0 (b := 30) (by omega) (by omega) (by omega)) (by omega) (by decide) (by omega) (by omega) (by omega)).mono ?_
  rintro e V ⟨rfl, hk, hc⟩
  have hc := hc.mono (S' := [cb, ctr, mb]) (by simp <;> omega)
  have HN := Lib.hid (Nat.le_trans HN.out hc.size)
  try have A7 := Lib.hid (A7.out.chN hc hSN g7)
  try have A10 := Lib.hid (A10.out.chN hc hSN g10)
  try have A14 := Lib.hid (A14.out.chN hc hSN g14)
  try have A16 := Lib.hid (A16.out.chN hc hSN g16)
  try have A22 := Lib.hid (A22.out.chN hc hSN g22)
  try have A26 := Lib.hid (A26.out.chN hc hSN g26)
  try have A27 := Lib.hid (A27.out.chN hc hSN g27)
  have HB := Lib.hid (HB.out.trans (hc.below HB.out.size hSW))
  have HC := Lib.hid hk
  clear hc hk
  generalize signB sd 2 0 (vouchB (nameB tx 1) 30) = sg0 at *
  go_wp2_with (first
    | (refine wpList_store_part rfl 147 (.tmp 14) (.tmp 86) rfl V.heap.size 0 (cs := (opP 0 ByteArray.empty 0 ByteArray.empty)) (Blk.new _ _ _) (opP 2 (nameB tx 1) 30 sg0) (opP 2 (nameB tx 1) 30 sg0) (by rfl) (by rfl) (Nat.le_refl 27) infoOp (opP_one _ _ _ _) (opP_over _ _ _ _ _ _ _ _) ?_; intro V2 hb2 hc2; have A14 := Lib.hid hb2; have hb := Lib.hid (bel_st hc2); clear hb2 hc2))
  have g14 := HN.out
  have hb := hb.out
  have HC := Lib.hid (HC.out.bel hb)
  have HB := Lib.hid (HB.out.trans (hb.mono HB.out.size))
  have HN := Lib.hid (Nat.le_trans HN.out hb.size)
  try have A7 := Lib.hid (A7.out.bel hb)
  try have A10 := Lib.hid (A10.out.bel hb)
  try have A14 := Lib.hid (A14.out.bel hb)
  try have A16 := Lib.hid (A16.out.bel hb)
  try have A22 := Lib.hid (A22.out.bel hb)
  try have A26 := Lib.hid (A26.out.bel hb)
  try have A27 := Lib.hid (A27.out.bel hb)
  try have A34 := Lib.hid (A34.out.bel hb)
  try have AI := Lib.hid (AI.out.bel hb)
  clear hb
  refine (spay_ok 20 50 HC.out hlk (by omega) (by omega) (by omega) (by omega) rfl (by omega) (room_yes hA0 (b := 50) (by omega) (by omega) (by omega)) (by omega) (by decide) (by omega) (by omega) (by omega)).mono ?_
  rintro e V ⟨rfl, hk, hc⟩
  have hc := hc.mono (S' := [cb, ctr, mb]) (by simp <;> omega)
  have HN := Lib.hid (Nat.le_trans HN.out hc.size)
  try have A7 := Lib.hid (A7.out.chN hc hSN g7)
  try have A10 := Lib.hid (A10.out.chN hc hSN g10)
  try have A14 := Lib.hid (A14.out.chN hc hSN g14)
  try have A16 := Lib.hid (A16.out.chN hc hSN g16)
  try have A22 := Lib.hid (A22.out.chN hc hSN g22)
  try have A26 := Lib.hid (A26.out.chN hc hSN g26)
  try have A27 := Lib.hid (A27.out.chN hc hSN g27)
  have HB := Lib.hid (HB.out.trans (hc.below HB.out.size hSW))
  have HC := Lib.hid hk
  clear hc hk
  have HV1 : ∀ W, Hid (Calls Tryz.prog 39 #[.string (rootB sd 2), .string (vouchB (nameB tx 1) 50), .string (signB sd 2 (0 + 1) (vouchB (nameB tx 1) 50))] W fun e w' => e = .returned (.bool true) ∧ Below W.heap.size W w') := fun W => by
    have hq := verify_any (rootB sd 2) (vouchB (nameB tx 1) 50) (signB sd 2 (0 + 1) (vouchB (nameB tx 1) 50)) W (by rw [signB_size sd (by decide)]; decide) (by rw [vouchB_size, nameB_size]; decide)
    rwa [ver_sign sd (by decide) (by decide)] at hq
  generalize signB sd 2 (0 + 1) (vouchB (nameB tx 1) 50) = sg1 at *
  go_wp2_with (first
    | (refine wpList_store_part rfl 147 (.tmp 16) (.tmp 91) rfl V.heap.size 0 (cs := (opP 0 ByteArray.empty 0 ByteArray.empty)) (Blk.new _ _ _) (opP 2 (nameB tx 1) 50 sg1) (opP 2 (nameB tx 1) 50 sg1) (by rfl) (by rfl) (Nat.le_refl 27) infoOp (opP_one _ _ _ _) (opP_over _ _ _ _ _ _ _ _) ?_; intro V2 hb2 hc2; have A16 := Lib.hid hb2; have hb := Lib.hid (bel_st hc2); clear hb2 hc2))
  have g16 := HN.out
  have hb := hb.out
  have HC := Lib.hid (HC.out.bel hb)
  have HB := Lib.hid (HB.out.trans (hb.mono HB.out.size))
  have HN := Lib.hid (Nat.le_trans HN.out hb.size)
  try have A7 := Lib.hid (A7.out.bel hb)
  try have A10 := Lib.hid (A10.out.bel hb)
  try have A14 := Lib.hid (A14.out.bel hb)
  try have A16 := Lib.hid (A16.out.bel hb)
  try have A22 := Lib.hid (A22.out.bel hb)
  try have A26 := Lib.hid (A26.out.bel hb)
  try have A27 := Lib.hid (A27.out.bel hb)
  try have A34 := Lib.hid (A34.out.bel hb)
  try have AI := Lib.hid (AI.out.bel hb)
  clear hb
  refine (spay_full 51 HC.out.at_ hlk (by omega) (by omega) (by omega) (by omega) (by omega) (room_no hA0 (b := 101) (by omega) (by omega))).mono ?_
  rintro e V ⟨rfl, hb⟩
  have HC := Lib.hid (HC.out.bel hb)
  have HB := Lib.hid (HB.out.trans (hb.mono HB.out.size))
  have HN := Lib.hid (Nat.le_trans HN.out hb.size)
  try have A7 := Lib.hid (A7.out.bel hb)
  try have A10 := Lib.hid (A10.out.bel hb)
  try have A14 := Lib.hid (A14.out.bel hb)
  try have A16 := Lib.hid (A16.out.bel hb)
  try have A22 := Lib.hid (A22.out.bel hb)
  try have A26 := Lib.hid (A26.out.bel hb)
  try have A27 := Lib.hid (A27.out.bel hb)
  try have A34 := Lib.hid (A34.out.bel hb)
  try have AI := Lib.hid (AI.out.bel hb)
  clear hb
  go_wp2_with (first
    | (refine wpList_store_part rfl 147 (.tmp 18) (.tmp 96) rfl V.heap.size 0 (cs := (opP 0 ByteArray.empty 0 ByteArray.empty)) (Blk.new _ _ _) (opP 0 ByteArray.empty 0 ByteArray.empty) (opP 0 ByteArray.empty 0 ByteArray.empty) (by rfl) (by rfl) (Nat.le_refl 27) infoOp (opP_one _ _ _ _) (opP_over _ _ _ _ _ _ _ _) ?_; intro V2 hb2 hc2; have A18 := Lib.hid hb2; have hb := Lib.hid (bel_st hc2); clear hb2 hc2))
  have g18 := HN.out
  have hb := hb.out
  have HC := Lib.hid (HC.out.bel hb)
  have HB := Lib.hid (HB.out.trans (hb.mono HB.out.size))
  have HN := Lib.hid (Nat.le_trans HN.out hb.size)
  try have A7 := Lib.hid (A7.out.bel hb)
  try have A10 := Lib.hid (A10.out.bel hb)
  try have A14 := Lib.hid (A14.out.bel hb)
  try have A16 := Lib.hid (A16.out.bel hb)
  try have A22 := Lib.hid (A22.out.bel hb)
  try have A26 := Lib.hid (A26.out.bel hb)
  try have A27 := Lib.hid (A27.out.bel hb)
  try have A34 := Lib.hid (A34.out.bel hb)
  try have AI := Lib.hid (AI.out.bel hb)
  clear hb
  refine (spay_zero HC.out.at_ (by omega)).mono ?_
  rintro e V ⟨rfl, hb⟩
  have HC := Lib.hid (HC.out.bel hb)
  have HB := Lib.hid (HB.out.trans (hb.mono HB.out.size))
  have HN := Lib.hid (Nat.le_trans HN.out hb.size)
  try have A7 := Lib.hid (A7.out.bel hb)
  try have A10 := Lib.hid (A10.out.bel hb)
  try have A14 := Lib.hid (A14.out.bel hb)
  try have A16 := Lib.hid (A16.out.bel hb)
  try have A22 := Lib.hid (A22.out.bel hb)
  try have A26 := Lib.hid (A26.out.bel hb)
  try have A27 := Lib.hid (A27.out.bel hb)
  try have A34 := Lib.hid (A34.out.bel hb)
  try have AI := Lib.hid (AI.out.bel hb)
  clear hb A18 g18
  go_wp2_with (first
    | (refine wpList_store_part rfl 147 (.tmp 20) (.tmp 101) rfl V.heap.size 0 (cs := (opP 0 ByteArray.empty 0 ByteArray.empty)) (Blk.new _ _ _) (opP 0 ByteArray.empty 0 ByteArray.empty) (opP 0 ByteArray.empty 0 ByteArray.empty) (by rfl) (by rfl) (Nat.le_refl 27) infoOp (opP_one _ _ _ _) (opP_over _ _ _ _ _ _ _ _) ?_; intro V2 hb2 hc2; have A20 := Lib.hid hb2; have hb := Lib.hid (bel_st hc2); clear hb2 hc2))
  have g20 := HN.out
  have hb := hb.out
  have HC := Lib.hid (HC.out.bel hb)
  have HB := Lib.hid (HB.out.trans (hb.mono HB.out.size))
  have HN := Lib.hid (Nat.le_trans HN.out hb.size)
  try have A7 := Lib.hid (A7.out.bel hb)
  try have A10 := Lib.hid (A10.out.bel hb)
  try have A14 := Lib.hid (A14.out.bel hb)
  try have A16 := Lib.hid (A16.out.bel hb)
  try have A22 := Lib.hid (A22.out.bel hb)
  try have A26 := Lib.hid (A26.out.bel hb)
  try have A27 := Lib.hid (A27.out.bel hb)
  try have A34 := Lib.hid (A34.out.bel hb)
  try have AI := Lib.hid (AI.out.bel hb)
  clear hb
  clear A20 g20
  refine (sgive_ok 2 2 HC.out hlk (by omega) (by omega) (by omega) (by omega) (by decide) (by decide) (by omega) (by omega) (room_yes hA0 (b := 56) (by omega) (by omega) (by omega))).mono ?_
  rintro e V ⟨rfl, hk, hc⟩
  have hc := hc.mono (S' := [cb, ctr, mb]) (by simp <;> omega)
  have HN := Lib.hid (Nat.le_trans HN.out hc.size)
  try have A7 := Lib.hid (A7.out.chN hc hSN g7)
  try have A10 := Lib.hid (A10.out.chN hc hSN g10)
  try have A14 := Lib.hid (A14.out.chN hc hSN g14)
  try have A16 := Lib.hid (A16.out.chN hc hSN g16)
  try have A22 := Lib.hid (A22.out.chN hc hSN g22)
  try have A26 := Lib.hid (A26.out.chN hc hSN g26)
  try have A27 := Lib.hid (A27.out.chN hc hSN g27)
  have HB := Lib.hid (HB.out.trans (hc.below HB.out.size hSW))
  have HC := Lib.hid hk
  clear hc hk
  generalize tokB sd 5 2 = tk2 at *
  go_wp2_with (first
    | (refine wpList_store_part rfl 147 (.tmp 22) (.tmp 106) rfl V.heap.size 0 (cs := (opP 0 ByteArray.empty 0 ByteArray.empty)) (Blk.new _ _ _) (opP 3 (nameB tx 1) 0 tk2) (opP 3 (nameB tx 1) 0 tk2) (by rfl) (by rfl) (Nat.le_refl 27) infoOp (opP_one _ _ _ _) (opP_over _ _ _ _ _ _ _ _) ?_; intro V2 hb2 hc2; have A22 := Lib.hid hb2; have hb := Lib.hid (bel_st hc2); clear hb2 hc2))
  have g22 := HN.out
  have hb := hb.out
  have HC := Lib.hid (HC.out.bel hb)
  have HB := Lib.hid (HB.out.trans (hb.mono HB.out.size))
  have HN := Lib.hid (Nat.le_trans HN.out hb.size)
  try have A7 := Lib.hid (A7.out.bel hb)
  try have A10 := Lib.hid (A10.out.bel hb)
  try have A14 := Lib.hid (A14.out.bel hb)
  try have A16 := Lib.hid (A16.out.bel hb)
  try have A22 := Lib.hid (A22.out.bel hb)
  try have A26 := Lib.hid (A26.out.bel hb)
  try have A27 := Lib.hid (A27.out.bel hb)
  try have A34 := Lib.hid (A34.out.bel hb)
  try have AI := Lib.hid (AI.out.bel hb)
  clear hb
  refine (sgive_high 4 HC.out (by omega) (by omega) (by decide) (by decide)).mono ?_
  rintro e V ⟨rfl, hb⟩
  have HC := Lib.hid (HC.out.bel hb)
  have HB := Lib.hid (HB.out.trans (hb.mono HB.out.size))
  have HN := Lib.hid (Nat.le_trans HN.out hb.size)
  try have A7 := Lib.hid (A7.out.bel hb)
  try have A10 := Lib.hid (A10.out.bel hb)
  try have A14 := Lib.hid (A14.out.bel hb)
  try have A16 := Lib.hid (A16.out.bel hb)
  try have A22 := Lib.hid (A22.out.bel hb)
  try have A26 := Lib.hid (A26.out.bel hb)
  try have A27 := Lib.hid (A27.out.bel hb)
  try have A34 := Lib.hid (A34.out.bel hb)
  try have AI := Lib.hid (AI.out.bel hb)
  clear hb
  go_wp2_with (first
    | (refine wpList_store_part rfl 147 (.tmp 24) (.tmp 111) rfl V.heap.size 0 (cs := (opP 0 ByteArray.empty 0 ByteArray.empty)) (Blk.new _ _ _) (opP 0 ByteArray.empty 0 ByteArray.empty) (opP 0 ByteArray.empty 0 ByteArray.empty) (by rfl) (by rfl) (Nat.le_refl 27) infoOp (opP_one _ _ _ _) (opP_over _ _ _ _ _ _ _ _) ?_; intro V2 hb2 hc2; have A24 := Lib.hid hb2; have hb := Lib.hid (bel_st hc2); clear hb2 hc2))
  have g24 := HN.out
  have hb := hb.out
  have HC := Lib.hid (HC.out.bel hb)
  have HB := Lib.hid (HB.out.trans (hb.mono HB.out.size))
  have HN := Lib.hid (Nat.le_trans HN.out hb.size)
  try have A7 := Lib.hid (A7.out.bel hb)
  try have A10 := Lib.hid (A10.out.bel hb)
  try have A14 := Lib.hid (A14.out.bel hb)
  try have A16 := Lib.hid (A16.out.bel hb)
  try have A22 := Lib.hid (A22.out.bel hb)
  try have A26 := Lib.hid (A26.out.bel hb)
  try have A27 := Lib.hid (A27.out.bel hb)
  try have A34 := Lib.hid (A34.out.bel hb)
  try have AI := Lib.hid (AI.out.bel hb)
  clear hb
  clear A24 g24
  refine (sname_any HC.out.at_ (by omega) (by omega)).mono ?_
  rintro e V ⟨rfl, hb⟩
  have HC := Lib.hid (HC.out.bel hb)
  have HB := Lib.hid (HB.out.trans (hb.mono HB.out.size))
  have HN := Lib.hid (Nat.le_trans HN.out hb.size)
  try have A7 := Lib.hid (A7.out.bel hb)
  try have A10 := Lib.hid (A10.out.bel hb)
  try have A14 := Lib.hid (A14.out.bel hb)
  try have A16 := Lib.hid (A16.out.bel hb)
  try have A22 := Lib.hid (A22.out.bel hb)
  try have A26 := Lib.hid (A26.out.bel hb)
  try have A27 := Lib.hid (A27.out.bel hb)
  try have A34 := Lib.hid (A34.out.bel hb)
  try have AI := Lib.hid (AI.out.bel hb)
  clear hb
  go_wp2_with (first
    | (refine wpList_store_part rfl 262 (.tmp 26) (.tmp 115) rfl V.heap.size 0 (cs := zOf) (Blk.new _ _ _) (ofC (nameB tx 1) 1 40) (ofC (nameB tx 1) 1 40) (by rfl) (by rfl) (Nat.le_refl 9) infoOffer (ofC_one _ _ _) (ofC_over _ _ _) ?_; intro V2 hb2 hc2; have A26 := Lib.hid hb2; have hb := Lib.hid (bel_st hc2); clear hb2 hc2)
    | (refine wpList_load_blk rfl 262 (.tmp 26) rfl _ 0 9 A26.out (ofC (nameB tx 1) 1 40) (by rfl) (by rfl) Tryz.underlying262 infoOffer (Nat.le_refl 9) ?_))
  have g26 := HN.out
  have hb := hb.out
  have HC := Lib.hid (HC.out.bel hb)
  have HB := Lib.hid (HB.out.trans (hb.mono HB.out.size))
  have HN := Lib.hid (Nat.le_trans HN.out hb.size)
  try have A7 := Lib.hid (A7.out.bel hb)
  try have A10 := Lib.hid (A10.out.bel hb)
  try have A14 := Lib.hid (A14.out.bel hb)
  try have A16 := Lib.hid (A16.out.bel hb)
  try have A22 := Lib.hid (A22.out.bel hb)
  try have A26 := Lib.hid (A26.out.bel hb)
  try have A27 := Lib.hid (A27.out.bel hb)
  try have A34 := Lib.hid (A34.out.bel hb)
  try have AI := Lib.hid (AI.out.bel hb)
  clear hb
  have hok := ofO_ok (nameB tx 1) 1 40 (by omega) (by omega) rfl
  have hS1 : allD ((.map [] : DU).put (ku 1) (.lit (ku 40))) = ((40 : Nat) : Int) := by rw [HC.out.2.2.2.sum_put 1 40 rfl, hA0]; rfl
  have hZ1 : Maps.size ((.map [] : DU).put (ku 1) (.lit (ku 40))) ≤ 1 := by rw [HC.out.2.2.2.size_put 1 40 rfl, hD0]; omega
  have hH1 : Maps.has ((.map [] : DU).put (ku 1) (.lit (ku 40))) (ku 1) = true := by rfl
  refine (stake_ok (ofO (nameB tx 1) 1 40) 7 HC.out hok rfl comC_size (by omega) (by omega) (by omega) rfl hlk (by omega) (by omega) (by omega) (fun D' hd => room_yes (A := 40) (b := 96) (by rw [hd, hA0]; rfl) (by omega) (by omega) (by omega)) (by omega) (by decide) (by omega)).mono ?_
  rintro e V ⟨rfl, hk, hc⟩
  have hc := hc.mono (S' := [cb, ctr, mb]) (by simp <;> omega)
  have HN := Lib.hid (Nat.le_trans HN.out hc.size)
  try have A7 := Lib.hid (A7.out.chN hc hSN g7)
  try have A10 := Lib.hid (A10.out.chN hc hSN g10)
  try have A14 := Lib.hid (A14.out.chN hc hSN g14)
  try have A16 := Lib.hid (A16.out.chN hc hSN g16)
  try have A22 := Lib.hid (A22.out.chN hc hSN g22)
  try have A26 := Lib.hid (A26.out.chN hc hSN g26)
  try have A27 := Lib.hid (A27.out.chN hc hSN g27)
  have HB := Lib.hid (HB.out.trans (hc.below HB.out.size hSW))
  have HC := Lib.hid hk
  clear hc hk
  have HV2 : ∀ W, Hid (Calls Tryz.prog 161 #[.string (rootB sd 2), .agg (Tk.cs (((ofO (nameB tx 1) 1 40).tk 7).signed (signB sd 2 (0 + 1 + 1) (textB ((ofO (nameB tx 1) 1 40).tk 7)))))] W fun e w' => e = .returned (.bool true) ∧ Below W.heap.size W w') := fun W => by
    obtain ⟨k1, k2, k3, k4, k5, k6, k7⟩ := Of.tkok hok (nameB_size _ _) comC_size (cl := 7) (by omega)
    have hq := signed_any (rootB sd 2) (((ofO (nameB tx 1) 1 40).tk 7).signed (signB sd 2 (0 + 1 + 1) (textB ((ofO (nameB tx 1) 1 40).tk 7)))) W ⟨k1, k2, k3, k4, k5, k6, k7⟩ (by show (signB sd 2 (0 + 1 + 1) _).size ≤ _; rw [signB_size sd (by decide)]; decide)
    have e : verB (rootB sd 2) (textB (((ofO (nameB tx 1) 1 40).tk 7).signed (signB sd 2 (0 + 1 + 1) (textB ((ofO (nameB tx 1) 1 40).tk 7))))) (((ofO (nameB tx 1) 1 40).tk 7).signed (signB sd 2 (0 + 1 + 1) (textB ((ofO (nameB tx 1) 1 40).tk 7)))).sig = true := ver_sign sd (by decide) (by decide) (textB ((ofO (nameB tx 1) 1 40).tk 7))
    rwa [e] at hq
  generalize signB sd 2 (0 + 1 + 1) (textB ((ofO (nameB tx 1) 1 40).tk 7)) = sg2 at *
  change Hid (CIn V cb kb ctr pb mb sd 2 5 (0 + 1 + 1 + 1) tx 1 l 50 2 ((.map [] : DU).put (ku 1) (.lit (ku 40)))) at HC
  generalize (.map [] : DU).put (ku 1) (.lit (ku 40)) = D1 at *
  go_wp2_with (first
    | (refine wpList_store_part rfl 147 (.tmp 27) (.tmp 120) rfl V.heap.size 0 (cs := opP 0 ByteArray.empty 0 ByteArray.empty) (Blk.new _ _ _) (opT (nameB tx 1) (((ofO (nameB tx 1) 1 40).tk 7).signed sg2)) (opT (nameB tx 1) (((ofO (nameB tx 1) 1 40).tk 7).signed sg2)) (by rfl) (by rfl) (Nat.le_refl 27) infoOp (opT_one _ _) (opT_over _ _ _ _ _ _) ?_; intro V2 hb2 hc2; have A27 := Lib.hid hb2; have hb := Lib.hid (bel_st hc2); have A26 := Lib.hid (A26.out.bel hb.out); clear hb2 hc2)
    | (refine wpList_load_blk rfl 262 (.tmp 26) rfl _ 0 9 A26.out (ofC (nameB tx 1) 1 40) (by rfl) (by rfl) Tryz.underlying262 infoOffer (Nat.le_refl 9) ?_))
  have g27 := HN.out
  have hb := hb.out
  have HC := Lib.hid (HC.out.bel hb)
  have HB := Lib.hid (HB.out.trans (hb.mono HB.out.size))
  have HN := Lib.hid (Nat.le_trans HN.out hb.size)
  try have A7 := Lib.hid (A7.out.bel hb)
  try have A10 := Lib.hid (A10.out.bel hb)
  try have A14 := Lib.hid (A14.out.bel hb)
  try have A16 := Lib.hid (A16.out.bel hb)
  try have A22 := Lib.hid (A22.out.bel hb)
  try have A26 := Lib.hid (A26.out.bel hb)
  try have A27 := Lib.hid (A27.out.bel hb)
  try have A34 := Lib.hid (A34.out.bel hb)
  try have AI := Lib.hid (AI.out.bel hb)
  clear hb A26 g26
  refine (stake_had (ofO (nameB tx 1) 1 40) 7 HC.out hok rfl (by omega) (by omega) hH1).mono ?_
  rintro e V ⟨rfl, hb⟩
  have HC := Lib.hid (HC.out.bel hb)
  have HB := Lib.hid (HB.out.trans (hb.mono HB.out.size))
  have HN := Lib.hid (Nat.le_trans HN.out hb.size)
  try have A7 := Lib.hid (A7.out.bel hb)
  try have A10 := Lib.hid (A10.out.bel hb)
  try have A14 := Lib.hid (A14.out.bel hb)
  try have A16 := Lib.hid (A16.out.bel hb)
  try have A22 := Lib.hid (A22.out.bel hb)
  try have A26 := Lib.hid (A26.out.bel hb)
  try have A27 := Lib.hid (A27.out.bel hb)
  try have A34 := Lib.hid (A34.out.bel hb)
  try have AI := Lib.hid (AI.out.bel hb)
  clear hb hH1 hok
  go_wp2_with (first
    | (refine wpList_store_part rfl 147 (.tmp 29) (.tmp 126) rfl V.heap.size 0 (cs := (opP 0 ByteArray.empty 0 ByteArray.empty)) (Blk.new _ _ _) (opP 0 ByteArray.empty 0 ByteArray.empty) (opP 0 ByteArray.empty 0 ByteArray.empty) (by rfl) (by rfl) (Nat.le_refl 27) infoOp (opP_one _ _ _ _) (opP_over _ _ _ _ _ _ _ _) ?_; intro V2 hb2 hc2; have A29 := Lib.hid hb2; have hb := Lib.hid (bel_st hc2); clear hb2 hc2))
  have g29 := HN.out
  have hb := hb.out
  have HC := Lib.hid (HC.out.bel hb)
  have HB := Lib.hid (HB.out.trans (hb.mono HB.out.size))
  have HN := Lib.hid (Nat.le_trans HN.out hb.size)
  try have A7 := Lib.hid (A7.out.bel hb)
  try have A10 := Lib.hid (A10.out.bel hb)
  try have A14 := Lib.hid (A14.out.bel hb)
  try have A16 := Lib.hid (A16.out.bel hb)
  try have A22 := Lib.hid (A22.out.bel hb)
  try have A26 := Lib.hid (A26.out.bel hb)
  try have A27 := Lib.hid (A27.out.bel hb)
  try have A34 := Lib.hid (A34.out.bel hb)
  try have AI := Lib.hid (AI.out.bel hb)
  clear hb
  clear A29 g29
  have hB96 := sBound_any HC.out.at_ hlk (by omega) (by omega) (by omega)
  rw [bound_yes hS1 (b := 96) (lam := 100) (by omega) (by omega) (by omega)] at hB96
  refine hB96.mono ?_
  clear hB96
  rintro e V ⟨rfl, hb⟩
  have HC := Lib.hid (HC.out.bel hb)
  have HB := Lib.hid (HB.out.trans (hb.mono HB.out.size))
  have HN := Lib.hid (Nat.le_trans HN.out hb.size)
  try have A7 := Lib.hid (A7.out.bel hb)
  try have A10 := Lib.hid (A10.out.bel hb)
  try have A14 := Lib.hid (A14.out.bel hb)
  try have A16 := Lib.hid (A16.out.bel hb)
  try have A22 := Lib.hid (A22.out.bel hb)
  try have A26 := Lib.hid (A26.out.bel hb)
  try have A27 := Lib.hid (A27.out.bel hb)
  try have A34 := Lib.hid (A34.out.bel hb)
  try have AI := Lib.hid (AI.out.bel hb)
  clear hb
  go_wp2_with fail
  refine (sgive_full 2 4 HC.out hlk (by omega) (by omega) (by omega) (by omega) (by decide) (by decide) (room_no hS1 (b := 102) (by omega) (by omega))).mono ?_
  rintro e V ⟨rfl, hb⟩
  have HC := Lib.hid (HC.out.bel hb)
  have HB := Lib.hid (HB.out.trans (hb.mono HB.out.size))
  have HN := Lib.hid (Nat.le_trans HN.out hb.size)
  try have A7 := Lib.hid (A7.out.bel hb)
  try have A10 := Lib.hid (A10.out.bel hb)
  try have A14 := Lib.hid (A14.out.bel hb)
  try have A16 := Lib.hid (A16.out.bel hb)
  try have A22 := Lib.hid (A22.out.bel hb)
  try have A26 := Lib.hid (A26.out.bel hb)
  try have A27 := Lib.hid (A27.out.bel hb)
  try have A34 := Lib.hid (A34.out.bel hb)
  try have AI := Lib.hid (AI.out.bel hb)
  clear hb
  go_wp2_with (first
    | (refine wpList_store_part rfl 147 (.tmp 32) (.tmp 133) rfl V.heap.size 0 (cs := (opP 0 ByteArray.empty 0 ByteArray.empty)) (Blk.new _ _ _) (opP 0 ByteArray.empty 0 ByteArray.empty) (opP 0 ByteArray.empty 0 ByteArray.empty) (by rfl) (by rfl) (Nat.le_refl 27) infoOp (opP_one _ _ _ _) (opP_over _ _ _ _ _ _ _ _) ?_; intro V2 hb2 hc2; have A32 := Lib.hid hb2; have hb := Lib.hid (bel_st hc2); clear hb2 hc2))
  have g32 := HN.out
  have hb := hb.out
  have HC := Lib.hid (HC.out.bel hb)
  have HB := Lib.hid (HB.out.trans (hb.mono HB.out.size))
  have HN := Lib.hid (Nat.le_trans HN.out hb.size)
  try have A7 := Lib.hid (A7.out.bel hb)
  try have A10 := Lib.hid (A10.out.bel hb)
  try have A14 := Lib.hid (A14.out.bel hb)
  try have A16 := Lib.hid (A16.out.bel hb)
  try have A22 := Lib.hid (A22.out.bel hb)
  try have A26 := Lib.hid (A26.out.bel hb)
  try have A27 := Lib.hid (A27.out.bel hb)
  try have A34 := Lib.hid (A34.out.bel hb)
  try have AI := Lib.hid (AI.out.bel hb)
  clear hb
  clear A32 g32
  refine (sback_ok HC.out (by omega) (by decide) (by omega) htz (by omega) (by omega) (by omega) (rootB_size _ _)).mono ?_
  rintro e V ⟨gi, ci, go, co, rfl, gl1, gl2, hi1, ho1, hk, hc⟩
  have hc := hc.mono (S' := [cb, ctr, mb]) (by simp <;> omega)
  have HN := Lib.hid (Nat.le_trans HN.out hc.size)
  try have A7 := Lib.hid (A7.out.chN hc hSN g7)
  try have A10 := Lib.hid (A10.out.chN hc hSN g10)
  try have A14 := Lib.hid (A14.out.chN hc hSN g14)
  try have A16 := Lib.hid (A16.out.chN hc hSN g16)
  try have A22 := Lib.hid (A22.out.chN hc hSN g22)
  try have A26 := Lib.hid (A26.out.chN hc hSN g26)
  try have A27 := Lib.hid (A27.out.chN hc hSN g27)
  have HB := Lib.hid (HB.out.trans (hc.below HB.out.size hSW))
  have HC := Lib.hid hk
  have AI := Lib.hid hi1
  clear hc hk hi1 ho1 gl1 gl2
  generalize signB sd 2 (0 + 1 + 1 + 1) (coreB tx 1 3 (l.am - 10) (rootB sd 2)) = sg3 at *
  go_wp2_with (first
    | (refine wpList_store_part rfl 70 (.tmp 34) (.tmp 138) rfl V.heap.size 0 (cs := zTx) (Blk.new _ _ _) (txC gi ci go co) (txC gi ci go co) (by rfl) (by rfl) (Nat.le_refl 6) infoTx (txC_one _ _ _ _) (txC_over _ _ _ _) ?_; intro V2 hb2 hc2; have A34 := Lib.hid hb2; have hb := Lib.hid (bel_st hc2); clear hb2 hc2))
  have g34 := HN.out
  have hb := hb.out
  have HC := Lib.hid (HC.out.bel hb)
  have HB := Lib.hid (HB.out.trans (hb.mono HB.out.size))
  have HN := Lib.hid (Nat.le_trans HN.out hb.size)
  try have A7 := Lib.hid (A7.out.bel hb)
  try have A10 := Lib.hid (A10.out.bel hb)
  try have A14 := Lib.hid (A14.out.bel hb)
  try have A16 := Lib.hid (A16.out.bel hb)
  try have A22 := Lib.hid (A22.out.bel hb)
  try have A26 := Lib.hid (A26.out.bel hb)
  try have A27 := Lib.hid (A27.out.bel hb)
  try have A34 := Lib.hid (A34.out.bel hb)
  try have AI := Lib.hid (AI.out.bel hb)
  clear hb
  refine (spay_used 1 51 HC.out hlk (by omega) (by omega) (by omega) (by omega) rfl (by omega) (room_yes hS1 (b := 97) (by omega) (by omega) (by omega)) (by omega) (by decide) (by omega) (by omega) (by omega)).mono ?_
  rintro e V ⟨rfl, hb⟩
  have HC := Lib.hid (HC.out.bel hb)
  have HB := Lib.hid (HB.out.trans (hb.mono HB.out.size))
  have HN := Lib.hid (Nat.le_trans HN.out hb.size)
  try have A7 := Lib.hid (A7.out.bel hb)
  try have A10 := Lib.hid (A10.out.bel hb)
  try have A14 := Lib.hid (A14.out.bel hb)
  try have A16 := Lib.hid (A16.out.bel hb)
  try have A22 := Lib.hid (A22.out.bel hb)
  try have A26 := Lib.hid (A26.out.bel hb)
  try have A27 := Lib.hid (A27.out.bel hb)
  try have A34 := Lib.hid (A34.out.bel hb)
  try have AI := Lib.hid (AI.out.bel hb)
  clear hb
  go_wp2_with (first
    | (refine wpList_store_part rfl 147 (.tmp 36) (.tmp 143) rfl V.heap.size 0 (cs := opP 0 ByteArray.empty 0 ByteArray.empty) (Blk.new _ _ _) (opP 0 ByteArray.empty 0 ByteArray.empty) (opP 0 ByteArray.empty 0 ByteArray.empty) (by rfl) (by rfl) (Nat.le_refl 27) infoOp (opP_one _ _ _ _) (opP_over _ _ _ _ _ _ _ _) ?_; intro V2 hb2 hc2; have hb := Lib.hid (bel_st hc2); have p14 : V2.cell? ⟨_, 13, none⟩ = some (.int .u64 30) := Blk.cell (A14.out.bel hb.out) 13; have p16 : V2.cell? ⟨_, 13, none⟩ = some (.int .u64 50) := Blk.cell (A16.out.bel hb.out) 13; clear hb2 hc2))
  clear p14 p16
  have hb := hb.out
  have HC := Lib.hid (HC.out.bel hb)
  have HB := Lib.hid (HB.out.trans (hb.mono HB.out.size))
  have HN := Lib.hid (Nat.le_trans HN.out hb.size)
  try have A7 := Lib.hid (A7.out.bel hb)
  try have A10 := Lib.hid (A10.out.bel hb)
  try have A14 := Lib.hid (A14.out.bel hb)
  try have A16 := Lib.hid (A16.out.bel hb)
  try have A22 := Lib.hid (A22.out.bel hb)
  try have A26 := Lib.hid (A26.out.bel hb)
  try have A27 := Lib.hid (A27.out.bel hb)
  try have A34 := Lib.hid (A34.out.bel hb)
  try have AI := Lib.hid (AI.out.bel hb)
  clear hb
  have q14 := cell_rg (show V2.cell? ⟨_, 13, none⟩ = some (.int .u64 30) from A14.out.cell 13)
  have q16 := cell_rg (show V2.cell? ⟨_, 13, none⟩ = some (.int .u64 50) from A16.out.cell 13)
  have q16s := cell_rg (show V2.cell? ⟨_, 17, none⟩ = some (.string sg1) from A16.out.cell 17)
  have q22 := cell_rg (show V2.cell? ⟨_, 0, none⟩ = some (.int .i64 3) from A22.out.cell 0)
  have q34 := cell_rg (show V2.cell? ⟨_, 0, none⟩ = some (.slice (some ⟨gi, 0, none⟩) 1 ci) from A34.out.cell 0)
  have qi : ∀ p : Regrown, (Go.Sort.grow (redrawn V2 p.d) p.os).cell? ⟨gi, 2, none⟩ = some (.int .i64 3) := cell_rg (AI.out.path)
  have HRT := fun W hW => Lib.hid (sroot_any (HC.out.bel (w' := W) hW).at_)
  have HNM := fun W hW => Lib.hid (sname_any (HC.out.bel (w' := W) hW).at_ (by omega) (by omega))
  have HWH := fun W hW => Lib.hid (swhole_any (HC.out.bel (w' := W) hW).at_ hlk)
  have HLF : ∀ W, Below V2.heap.size V2 W → Hid (Calls Tryz.prog 71 #[.pointer (some ⟨cb, 0, none⟩)] W fun e w' => e = .returned (.int .i64 0) ∧ ∃ n, w' = W.drewN n) := fun W hW => by
    have := sleft_any (HC.out.bel (w' := W) hW).at_ (by omega) (by omega)
    exact Lib.hid (by simpa using this)
  have HVO := fun W => Lib.hid (voucher_any (nameB tx 1) 50 W (by rw [nameB_size]; omega) (by omega))
  have HCN := fun W => Lib.hid (cname_any tx 1 W (by omega) (by omega))
  rw [hla] at HWH
  generalize nameB tx 1 = nm at *
  generalize vouchB nm 50 = vo at *
  generalize rootB sd 2 = rt at *
  clear hla hlu hlk A14 A16 A22 A34 AI g14 g16 g22 g27 g34
  refine wp_region_bq ?bqL ?bqE (by kernel_rfl) ?bqB ?_
  case bqE => simp only [List.append]; rfl
  case bqB =>
    refine lex_start 128 #[false, false, false, false, false, false, false, false, false, false, false, false, false, false, false, false, false, false, false, false, false, false, false, false, false, false, false, false, false, false, false, false, false, false, false, false, false, false, false, false, false, false, false, false, false, false, false, false, false, false, false, false, false, false, false, false, false, false, false, false, false, false, false, false, false, false, false, false, false, false, false, false, false, false, false, false, false, false, false, false, false, false, false, false, false, false, false, false, false, false, false, false, false, false, false, false, false, false, false, false, false, false, false, false, false, false, false, false, false, false, false, false, false, false, false, false, false, false, false, false, false, false, false, false, false, false, false, false] (by as_aux_lemma => kernel_rfl) (by as_aux_lemma => kernel_rfl) (by as_aux_lemma => kernel_rfl) ?_
    refine lex_chunk 16 112 0 #[false, false, false, false, false, false, false, false, false, false, false, false, false, false, false, false, false, false, false, false, false, false, false, false, false, false, false, false, false, false, false, false, false, false, false, false, false, false, false, false, false, false, false, false, false, false, false, false, false, false, false, false, false, false, false, false, false, false, false, false, false, false, false, false, false, false, false, false, false, false, false, false, false, false, false, false, false, false, false, false, false, false, false, false, false, false, false, false, false, false, false, false, false, false, false, false, false, false, false, false, false, false, false, false, false, false, false, false, false, false, false, false, false, false, false, false, false, false, false, false, false, false, false, false, false, false, false, false] #[true, true, true, true, true, true, true, true, true, true, true, true, true, true, true, true, false, false, false, false, false, false, false, false, false, false, false, false, false, false, false, false, false, false, false, false, false, false, false, false, false, false, false, false, false, false, false, false, false, false, false, false, false, false, false, false, false, false, false, false, false, false, false, false, false, false, false, false, false, false, false, false, false, false, false, false, false, false, false, false, false, false, false, false, false, false, false, false, false, false, false, false, false, false, false, false, false, false, false, false, false, false, false, false, false, false, false, false, false, false, false, false, false, false, false, false, false, false, false, false, false, false, false, false, false, false, false, false] (by as_aux_lemma => kernel_rfl) (by as_aux_lemma => kernel_rfl) ?_
    refine lex_chunk 16 96 16 #[true, true, true, true, true, true, true, true, true, true, true, true, true, true, true, true, false, false, false, false, false, false, false, false, false, false, false, false, false, false, false, false, false, false, false, false, false, false, false, false, false, false, false, false, false, false, false, false, false, false, false, false, false, false, false, false, false, false, false, false, false, false, false, false, false, false, false, false, false, false, false, false, false, false, false, false, false, false, false, false, false, false, false, false, false, false, false, false, false, false, false, false, false, false, false, false, false, false, false, false, false, false, false, false, false, false, false, false, false, false, false, false, false, false, false, false, false, false, false, false, false, false, false, false, false, false, false, false] #[true, true, true, true, true, true, true, true, true, true, true, true, true, true, true, true, true, true, true, true, true, true, true, true, true, true, true, true, true, true, true, true, false, false, false, false, false, false, false, false, false, false, false, false, false, false, false, false, false, false, false, false, false, false, false, false, false, false, false, false, false, false, false, false, false, false, false, false, false, false, false, false, false, false, false, false, false, false, false, false, false, false, false, false, false, false, false, false, false, false, false, false, false, false, false, false, false, false, false, false, false, false, false, false, false, false, false, false, false, false, false, false, false, false, false, false, false, false, false, false, false, false, false, false, false, false, false, false] (by as_aux_lemma => kernel_rfl) (by as_aux_lemma => kernel_rfl) ?_
    refine lex_chunk 16 80 32 #[true, true, true, true, true, true, true, true, true, true, true, true, true, true, true, true, true, true, true, true, true, true, true, true, true, true, true, true, true, true, true, true, false, false, false, false, false, false, false, false, false, false, false, false, false, false, false, false, false, false, false, false, false, false, false, false, false, false, false, false, false, false, false, false, false, false, false, false, false, false, false, false, false, false, false, false, false, false, false, false, false, false, false, false, false, false, false, false, false, false, false, false, false, false, false, false, false, false, false, false, false, false, false, false, false, false, false, false, false, false, false, false, false, false, false, false, false, false, false, false, false, false, false, false, false, false, false, false] #[true, true, true, true, true, true, true, true, true, true, true, true, true, true, true, true, true, true, true, true, true, true, true, true, true, true, true, true, true, true, true, true, true, true, true, true, true, true, true, true, true, true, true, true, true, true, true, true, false, false, false, false, false, false, false, false, false, false, false, false, false, false, false, false, false, false, false, false, false, false, false, false, false, false, false, false, false, false, false, false, false, false, false, false, false, false, false, false, false, false, false, false, false, false, false, false, false, false, false, false, false, false, false, false, false, false, false, false, false, false, false, false, false, false, false, false, false, false, false, false, false, false, false, false, false, false, false, false] (by as_aux_lemma => kernel_rfl) (by as_aux_lemma => kernel_rfl) ?_
    refine lex_chunk 16 64 48 #[true, true, true, true, true, true, true, true, true, true, true, true, true, true, true, true, true, true, true, true, true, true, true, true, true, true, true, true, true, true, true, true, true, true, true, true, true, true, true, true, true, true, true, true, true, true, true, true, false, false, false, false, false, false, false, false, false, false, false, false, false, false, false, false, false, false, false, false, false, false, false, false, false, false, false, false, false, false, false, false, false, false, false, false, false, false, false, false, false, false, false, false, false, false, false, false, false, false, false, false, false, false, false, false, false, false, false, false, false, false, false, false, false, false, false, false, false, false, false, false, false, false, false, false, false, false, false, false] #[true, true, true, true, true, true, true, true, true, true, true, true, true, true, true, true, true, true, true, true, true, true, true, true, true, true, true, true, true, true, true, true, true, true, true, true, true, true, true, true, true, true, true, true, true, true, true, true, true, true, true, true, true, true, true, true, true, true, true, true, true, true, true, true, false, false, false, false, false, false, false, false, false, false, false, false, false, false, false, false, false, false, false, false, false, false, false, false, false, false, false, false, false, false, false, false, false, false, false, false, false, false, false, false, false, false, false, false, false, false, false, false, false, false, false, false, false, false, false, false, false, false, false, false, false, false, false, false] (by as_aux_lemma => kernel_rfl) (by as_aux_lemma => kernel_rfl) ?_
    refine lex_chunk 16 48 64 #[true, true, true, true, true, true, true, true, true, true, true, true, true, true, true, true, true, true, true, true, true, true, true, true, true, true, true, true, true, true, true, true, true, true, true, true, true, true, true, true, true, true, true, true, true, true, true, true, true, true, true, true, true, true, true, true, true, true, true, true, true, true, true, true, false, false, false, false, false, false, false, false, false, false, false, false, false, false, false, false, false, false, false, false, false, false, false, false, false, false, false, false, false, false, false, false, false, false, false, false, false, false, false, false, false, false, false, false, false, false, false, false, false, false, false, false, false, false, false, false, false, false, false, false, false, false, false, false] #[true, true, true, true, true, true, true, true, true, true, true, true, true, true, true, true, true, true, true, true, true, true, true, true, true, true, true, true, true, true, true, true, true, true, true, true, true, true, true, true, true, true, true, true, true, true, true, true, true, true, true, true, true, true, true, true, true, true, true, true, true, true, true, true, true, true, true, true, true, true, true, true, true, true, true, true, true, true, true, true, false, false, false, false, false, false, false, false, false, false, false, false, false, false, false, false, false, false, false, false, false, false, false, false, false, false, false, false, false, false, false, false, false, false, false, false, false, false, false, false, false, false, false, false, false, false, false, false] (by as_aux_lemma => kernel_rfl) (by as_aux_lemma => kernel_rfl) ?_
    refine lex_chunk 16 32 80 #[true, true, true, true, true, true, true, true, true, true, true, true, true, true, true, true, true, true, true, true, true, true, true, true, true, true, true, true, true, true, true, true, true, true, true, true, true, true, true, true, true, true, true, true, true, true, true, true, true, true, true, true, true, true, true, true, true, true, true, true, true, true, true, true, true, true, true, true, true, true, true, true, true, true, true, true, true, true, true, true, false, false, false, false, false, false, false, false, false, false, false, false, false, false, false, false, false, false, false, false, false, false, false, false, false, false, false, false, false, false, false, false, false, false, false, false, false, false, false, false, false, false, false, false, false, false, false, false] #[true, true, true, true, true, true, true, true, true, true, true, true, true, true, true, true, true, true, true, true, true, true, true, true, true, true, true, true, true, true, true, true, true, true, true, true, true, true, true, true, true, true, true, true, true, true, true, true, true, true, true, true, true, true, true, true, true, true, true, true, true, true, true, true, true, true, true, true, true, true, true, true, true, true, true, true, true, true, true, true, true, true, true, true, true, true, true, true, true, true, true, true, true, true, true, true, false, false, false, false, false, false, false, false, false, false, false, false, false, false, false, false, false, false, false, false, false, false, false, false, false, false, false, false, false, false, false, false] (by as_aux_lemma => kernel_rfl) (by as_aux_lemma => kernel_rfl) ?_
    refine lex_chunk 16 16 96 #[true, true, true, true, true, true, true, true, true, true, true, true, true, true, true, true, true, true, true, true, true, true, true, true, true, true, true, true, true, true, true, true, true, true, true, true, true, true, true, true, true, true, true, true, true, true, true, true, true, true, true, true, true, true, true, true, true, true, true, true, true, true, true, true, true, true, true, true, true, true, true, true, true, true, true, true, true, true, true, true, true, true, true, true, true, true, true, true, true, true, true, true, true, true, true, true, false, false, false, false, false, false, false, false, false, false, false, false, false, false, false, false, false, false, false, false, false, false, false, false, false, false, false, false, false, false, false, false] #[true, true, true, true, true, true, true, true, true, true, true, true, true, true, true, true, true, true, true, true, true, true, true, true, true, true, true, true, true, true, true, true, true, true, true, true, true, true, true, true, true, true, true, true, true, true, true, true, true, true, true, true, true, true, true, true, true, true, true, true, true, true, true, true, true, true, true, true, true, true, true, true, true, true, true, true, true, true, true, true, true, true, true, true, true, true, true, true, true, true, true, true, true, true, true, true, true, true, true, true, true, true, true, true, true, true, true, true, true, true, true, true, false, false, false, false, false, false, false, false, false, false, false, false, false, false, false, false] (by as_aux_lemma => kernel_rfl) (by as_aux_lemma => kernel_rfl) ?_
    refine lex_chunk 16 0 112 #[true, true, true, true, true, true, true, true, true, true, true, true, true, true, true, true, true, true, true, true, true, true, true, true, true, true, true, true, true, true, true, true, true, true, true, true, true, true, true, true, true, true, true, true, true, true, true, true, true, true, true, true, true, true, true, true, true, true, true, true, true, true, true, true, true, true, true, true, true, true, true, true, true, true, true, true, true, true, true, true, true, true, true, true, true, true, true, true, true, true, true, true, true, true, true, true, true, true, true, true, true, true, true, true, true, true, true, true, true, true, true, true, false, false, false, false, false, false, false, false, false, false, false, false, false, false, false, false] #[true, true, true, true, true, true, true, true, true, true, true, true, true, true, true, true, true, true, true, true, true, true, true, true, true, true, true, true, true, true, true, true, true, true, true, true, true, true, true, true, true, true, true, true, true, true, true, true, true, true, true, true, true, true, true, true, true, true, true, true, true, true, true, true, true, true, true, true, true, true, true, true, true, true, true, true, true, true, true, true, true, true, true, true, true, true, true, true, true, true, true, true, true, true, true, true, true, true, true, true, true, true, true, true, true, true, true, true, true, true, true, true, true, true, true, true, true, true, true, true, true, true, true, true, true, true, true, true] (by as_aux_lemma => kernel_rfl) (by as_aux_lemma => kernel_rfl) ?_
    as_aux_lemma => kernel_rfl
  repeat (first | go_big_quiet_skip | (go_big_quiet_want; first | ((refine quiet_load_blk 131 (.tmp 223) rfl _ 18 8 A27.out (Tk.cs (((ofO nm 1 40).tk 7).signed sg2)) (by rfl) (by rfl) Tryz.underlying131 infoTk (by show 26 ≤ 27; omega) ?_; go_simp); go_big_quiet_on) | (go_big_quiet_op; first | go_big_quiet_on | go_big_quiet_call ((first
      | (go_at_call 68; exact Calls.rg_same fun W hW => (HRT W hW).out)
      | (go_at_call 154; exact Calls.rg fun W hW => (HNM W hW).out)
      | (go_at_call 162; exact Calls.rg fun W hW => (HWH W hW).out)
      | (go_at_call 71; exact Calls.rg_drew fun W hW => (HLF W hW).out)
      | (go_at_call 54; exact Calls.rg fun W _ => (HVO W).out)
      | (go_at_call 39; exact Calls.rg fun W _ => (HV1 W).out)
      | (go_at_call 161; exact Calls.rg fun W _ => (HV2 W).out)
      | (go_at_call 157; exact Calls.rg fun W _ => (HPL' W).out)
      | (go_at_call 46; exact Calls.rg fun W _ => (HCN W).out))))))
  refine wpQuiet_nil ?_
  intro U hp
  have hb := bel_regrown hp
  clear hp
  go_wp2_with fail
  go_ret
  exact ⟨rfl, HB.out.trans (hb.mono HB.out.size)⟩
end Go.Proofs.YtmbceheafjadhaaGreat
