/- ChannelWhole: the walk. -/
import Derived.Test.YtpbcfeghfcodcaaGreatMgPlA
set_option linter.unusedVariables false
set_option linter.unusedSimpArgs false
namespace Go.Proofs.YtpbcfeghfcodcaaGreat
open Go.RowKit Go.Maps
set_option maxRecDepth 100000 in
set_option maxHeartbeats 4000000 in
theorem whole_no (e : En) (A : Option Addr) (l : List Op17) (c : Nat) (w0 : World) (hb : newB (beginX e) (fitsB (beginX e).o) = false) :
    Calls Tryz.prog 5 #[.agg e.cs, .slice A l.length c] w0 fun e' w' => e' = .returned (.bool true) ∧ Below w0.heap.size w0 w' := by
  have HX := Lib.hid (Blk.new w0 28 e.cs)
  have HBG := fun W => Lib.hid (begin_no e hb W)
  clear hb
  go_enter Tryz.func5, Tryz.ntmps5
  go_wp2_with (refine wpList_load_blk rfl 28 (.tmp 2) rfl w0.heap.size 0 11 HX.out e.cs (by rfl) (en_ext e) Tryz.underlying28 infoEnt (Nat.le_refl 11) ?_)
  refine (HBG _).out.mono ?_
  rintro e' V1 ⟨rfl, hb⟩
  have HB : Hid (Below w0.heap.size w0 V1) := Lib.hid (((Below.refl _ _).alloc (Nat.le_refl _) _).trans (hb.mono (by simp)))
  clear hb HBG HX
  go_wp2_with (refine wpList_store_part rfl 35 (.tmp 5) (.tmp 17) rfl V1.heap.size 0 (cs := zSt) (Blk.new _ _ _) zSt zSt (by rfl) (by rfl) (Nat.le_refl 20) infoSta zStO (zStV rfl) ?_; intro W1 hb1 hc1; have hb := bel_st' hc1; replace HB := Lib.hid (HB.out.trans (Below.mono hb HB.out.size)); clear hb1 hc1 hb)
  refine (fixed17_any _).mono ?_
  rintro e' V3 ⟨rfl, hb⟩
  replace HB := Lib.hid (HB.out.trans (Below.mono hb HB.out.size))
  clear hb
  go_wp2_with fail
  go_ret
  exact ⟨rfl, HB.out⟩
set_option maxRecDepth 100000 in
set_option maxHeartbeats 8000000 in
theorem whole_ok (e : En) (A : Option Addr) (l : List Op17) (c : Nat) (w0 : World) (he : e.fz) (hl : ∀ x ∈ l, x.fz) (hn : l.length ≤ maxLen) (hs : Sl w0 w0.heap.size 25 Op17.cl A l) (hb : newB (beginX e) (fitsB (beginX e).o) = true) :
    Calls Tryz.prog 5 #[.agg e.cs, .slice A l.length c] w0 fun e' w' => e' = .returned (.bool true) ∧ Below w0.heap.size w0 w' := by
  obtain ⟨i0, hi, hz0, hz1, hz2⟩ := info_parts Tryz.infoOut9
  have Hhz := Lib.hid hz0
  have HX := Lib.hid (Blk.new w0 28 e.cs)
  have HBG := fun W => Lib.hid (begin_ok e hb W)
  obtain ⟨mt, hinv⟩ := new_inv he hb
  have HS := Lib.hid hs
  have HXL := Lib.hid hl
  obtain ⟨s, hsd⟩ : ∃ s, s = newS (beginX e) := ⟨_, rfl⟩
  have hsl : ∀ N W, LsAt s N W s.A s.c s.B s.d := fun N W => by rw [hsd]; exact newS_ls _ _ _
  have hkd : s.lock.o.kind = 2 := by
    rw [hsd]
    simp only [newB, Bool.and_eq_true, decide_eq_true_eq] at hb
    exact hb.1
  have hwh : wholeV s = (s.lock.o.am : Int) := by rw [hsd]; exact new_whole (by rw [begin_am]; exact he.1)
  have hwo : worthV s = 0 := by rw [hsd]; exact new_worth _
  have hcr : creditV s = 0 := by rw [hsd]; exact new_credit _
  rw [← hsd] at hinv
  have HBG' : ∀ W, Hid (Calls Tryz.prog 7 #[.agg e.cs] W fun e' w' => e' = .returned (.tuple #[.agg s.cs, .int .i64 0]) ∧ Below W.heap.size W w') := fun W => Lib.hid (by rw [hsd]; exact (HBG W).out)
  have HI := Lib.hid hinv
  have HLS := Lib.hid hsl
  have HKD := Lib.hid hkd
  have HWO : ∀ W, Hid (Calls Tryz.prog 13 #[.agg s.cs] W fun e w' => e = .returned (.int .u64 0) ∧ Below W.heap.size W w') := fun W => Lib.hid (by have := sworth_any s W hinv.good.fit; rwa [hwo] at this)
  have HCR : ∀ W, Hid (Calls Tryz.prog 15 #[.agg s.cs] W fun e w' => e = .returned (.int .u64 0) ∧ Below W.heap.size W w') := fun W => Lib.hid (by have := scredit_any s W hinv.good.fit; rwa [hcr] at this)
  have HWH : ∀ W, s.mem W → Hid (Calls Tryz.prog 14 #[.agg s.cs] W fun e w' => e = .returned (.int .u64 (s.lock.o.am : Int)) ∧ Below W.heap.size W w') := fun W h => Lib.hid (by have := swhole_gen s W hinv.good.fit h.tops; rwa [hwh] at this)
  unfold maxLen at hn
  clear hb HBG hs hl hinv hsd hsl he hz0 hkd hwh hwo hcr
  go_enter Tryz.func5, Tryz.ntmps5
  go_wp2_with (refine wpList_load_blk rfl 28 (.tmp 2) rfl w0.heap.size 0 11 HX.out e.cs (by rfl) (en_ext e) Tryz.underlying28 infoEnt (Nat.le_refl 11) ?_)
  refine (HBG' _).out.mono ?_
  rintro e' V1 ⟨rfl, hb⟩
  have HB : Hid (Below w0.heap.size w0 V1) := Lib.hid (((Below.refl _ _).alloc (Nat.le_refl _) _).trans (hb.mono (by simp)))
  clear hb HBG' HX
  have ha5 := HB.out.size
  go_upto_region 4 with (refine wpList_store_part rfl 35 (.tmp 5) (.tmp 17) rfl V1.heap.size 0 (cs := zSt) (Blk.new _ _ _) s.cs s.cs (by rfl) (by rfl) (Nat.le_refl 20) infoSta (stcs_one _) (st_over _ rfl) ?_; intro W1 hb1 hc1; have hb := bel_st' hc1; replace HB := Lib.hid (HB.out.trans (Below.mono hb HB.out.size)); have H5 : Hid (StB W1 V1.heap.size s) := Lib.hid ⟨hb1, 0, HLS.out _ _⟩; clear hb1 hc1 hb)
  clear HLS
  generalize V1.heap.size = a5 at H5 ha5 ⊢
  have q2 := cell_rg (show W1.cell? ⟨a5, 2, none⟩ = some (.int .i64 2) from (H5.out.blk.cell 2).trans (congrArg (fun b => some (Value.int .i64 b)) HKD.out))
  have q3 := cell_rg (show W1.cell? ⟨a5, 3, none⟩ = some (.int .u64 (s.lock.o.am : Int)) from H5.out.blk.cell 3)
  have gg : ((s.lock.o.am : Int) != (s.lock.o.am : Int)) = false := by simp
  refine wp_region_quiet_below (by kernel_rfl) (by kernel_rfl) ?_
  repeat (first | go_big_quiet_skip | (go_big_quiet_want; first | ((refine quiet_load_blk 35 (.tmp 5) rfl a5 0 20 H5.out.blk s.cs (by rfl) (st_ext s) Tryz.underlying35 infoSta (st_le s) ?_; go_simp); go_big_quiet_on) | (go_big_quiet_op; first | go_big_quiet_on | go_big_quiet_call ((first
      | (go_at_call 14; exact Calls.rg fun W hW => (HWH W (H5.out.bel hW).mem).out)
      | (go_at_call 13; exact Calls.rg fun W _ => (HWO W).out)
      | (go_at_call 15; exact Calls.rg fun W _ => (HCR W).out))))))
  refine wpQuiet_nil ?_
  intro U hp
  have hb := bel_regrown hp
  clear hp
  (replace HB := Lib.hid (HB.out.trans (Below.mono hb HB.out.size)); (try (replace H5 := Lib.hid (H5.out.bel hb))); (try (replace HP := Lib.hid (HP.out.bel hb))); (try (replace H9 := Lib.hid (H9.out.bel hb))); (try (replace H11 := Lib.hid (H11.out.bel hb))); (try (replace HL := Lib.hid (HL.out.bel hb))))
  clear hb q2 q3 gg HWH HWO HCR HKD
  go_wp2_with fail
  go_loopw [7] (fun i wr => ∃ (k : Nat) (s' : St), k ≤ l.length ∧ k ≤ 16 ∧ i = .int .i64 k ∧ Hid (Below w0.heap.size w0 wr) ∧ Hid (StB wr a5 s') ∧ Hid (Inv s' mt)) (fun i _ => 16 - (intOf i).toNat)
  case atStart => exact ⟨0, s, Nat.zero_le _, Nat.zero_le _, rfl, HB, H5, HI⟩
  case round =>
    clear HB H5 HI
    obtain ⟨k, s, hk, hk2, rfl, HB, H5, HI⟩ := hrel
    have hzr := HB.out.size
    by_cases hlt : k < l.length
    · by_cases hlt2 : k < 16
      · have d1 : decide (k < l.length) = true := decide_eq_true hlt
        have d2 : decide ((k : Int) < 16) = true := decide_eq_true (by omega)
        obtain ⟨ab, off, rfl, hbB, hc⟩ := (HS.out.below HB.out).at_ hlt
        have hfo := cutOp_fit (HXL.out _ (List.getElem_mem hlt))
        generalize l[k] = o at hc hfo
        have HOP : Hid (OpAt wr ab (off + k * 25) o) := Lib.hid ⟨by omega, hc⟩
        have HPL := Lib.hid (fun W h => play_one s mt (cutOp o) W HI.out.good h hfo)
        have HFO := Lib.hid hfo
        clear hc hfo
        go_upto_region 9 with fail
        go_cut [8, 9] (fun u8 u9 wx => ∃ (a8 : Nat) (q : St) (f : Int), u8 = .pointer (some ⟨a8, 0, none⟩) ∧ u9 = .int .i64 f ∧ Hid (Below w0.heap.size w0 wx) ∧ Hid (StB wx a5 s) ∧ Hid (StB wx a8 q) ∧ Hid (PlR s mt (cutOp o) q f))
        case first =>
          refine wp_region_held_drew (S := fun W => Hid (Below w0.heap.size w0 W ∧ StB W a5 s ∧ OpAt W ab (off + k * 25) o)) (by kernel_rfl) (Lib.hid ⟨HB.out.drew, H5.out.bel (Below.refl _ _).drew, HOP.out.bel (Below.refl _ _).drew⟩) (fun hS => ?_)
          refine wpAnyH_genT fun X hX => ?_
          rw [← hX] at hS
          clear hX HB H5 HOP
          refine wpAnyH_take (i := 0) (v := .agg (St.cs s)) rfl (by kernel_rfl) (by kernel_rfl) (by kernel_rfl) (fun _ _ _ h => h) (yields_blk (by rfl) 35 (.tmp 5) (by rfl) a5 0 20 (t := 35) (cs := St.cs s) (fun W h => h.out.2.1.blk) (St.cs s) (by rfl) (st_ext _) Tryz.underlying35 infoSta (st_le _)) hS ?_
          refine wpAnyH_take (i := 1) (v := ?_) rfl (by kernel_rfl) (by kernel_rfl) (by kernel_rfl) (fun _ _ _ h => h) (Or.inl ⟨by rfl, ?_⟩) hS ?_
          rotate_left
          · (intro w _; go_simp; try with_reducible rfl)
          refine wpAnyH_take (i := 2) (v := ?_) rfl (by kernel_rfl) (by kernel_rfl) (by kernel_rfl) (fun _ _ _ h => h) (Or.inl ⟨by rfl, ?_⟩) hS ?_
          rotate_left
          · (intro w _; go_simp; try with_reducible rfl)
          refine wpAnyH_take (i := 3) (v := ?_) rfl (by kernel_rfl) (by kernel_rfl) (by kernel_rfl) (fun _ _ _ h => h) (Or.inl ⟨by rfl, ?_⟩) hS ?_
          rotate_left
          · (intro w _; go_simp; try with_reducible rfl)
          refine wpAnyH_take (i := 4) (v := .agg o.cs) rfl (by kernel_rfl) (by kernel_rfl) (by kernel_rfl) (fun _ _ _ h => h) (yields_op (by rfl) (.tmp 60) (by rfl) ab (off + k * 25) o (fun W h => h.out.2.2) (by rfl)) hS ?_
          refine wpAnyH_ready (rs := [5, 10]) (by kernel_rfl) (by simp) (AllReadyH.cons rfl (fun K hK => ?_) (AllReadyH.cons rfl (fun K hK => ?_) AllReadyH.nil))
          · go_simp
            refine (cutop_any o _).mono ?_
            rintro e' V ⟨rfl, hb⟩
            have hS1 := Lib.hid (And.intro (hS.out.1.trans (Below.mono hb hS.out.1.size)) (And.intro (hS.out.2.1.bel hb) (hS.out.2.2.bel hb)))
            clear hb hS
            go_simp
            refine hK.out _ _ hS1 (fun _ => ?_)
            clear hK K
            refine wpAnyH_ready (rs := [6, 10]) (by kernel_rfl) (by simp) (AllReadyH.cons rfl (fun K hK => ?_) (AllReadyH.cons rfl (fun K hK => ?_) AllReadyH.nil))
            · go_simp
              refine (HPL.out _ hS1.out.2.1.mem).mono ?_
              rintro e' V2 ⟨q, f, rfl, hb, hls, hq⟩
              have hS2 := Lib.hid (And.intro (hS1.out.1.trans (Below.mono hb hS1.out.1.size)) (And.intro (hS1.out.2.1.bel hb) (hS1.out.2.2.bel hb)))
              have HLS := Lib.hid hls
              have HQ := Lib.hid hq
              clear hb hls hq hS1
              go_simp
              refine hK.out _ _ hS2 (fun _ => ?_)
              clear hK K
              refine wpAnyH_take (i := 7) (v := ?_) rfl (by kernel_rfl) (by kernel_rfl) (by kernel_rfl) (fun _ _ _ h => h) (Or.inl ⟨by rfl, ?_⟩) hS2 ?_
              rotate_left
              · (intro w _; go_simp; try with_reducible rfl)
              refine wpAnyH_take (i := 8) (v := ?_) rfl (by kernel_rfl) (by kernel_rfl) (by kernel_rfl) (fun _ _ _ h => h) (Or.inl ⟨by rfl, ?_⟩) hS2 ?_
              rotate_left
              · (intro w _; go_simp; try with_reducible rfl)
              refine wpAnyH_take (i := 9) (v := ?_) rfl (by kernel_rfl) (by kernel_rfl) (by kernel_rfl) (fun _ _ _ h => h) (Or.inl ⟨by rfl, ?_⟩) hS2 ?_
              rotate_left
              · (intro w _; go_simp; try with_reducible rfl)
              refine wpAnyH_ready (rs := [10]) (by kernel_rfl) (by simp) (AllReadyH.cons rfl (fun K hK => ?_) AllReadyH.nil)
              go_simp
              have hba : Below V2.heap.size V2 (V2.alloc (.cells zSt 35)) := (Below.refl _ _).alloc (Nat.le_refl _) _
              refine hK.out _ _ (Lib.hid (And.intro (hS2.out.1.trans (Below.mono hba hS2.out.1.size)) (And.intro (hS2.out.2.1.bel hba) (hS2.out.2.2.bel hba)))) (fun _ => ?_)
              clear hK K
              refine wpAnyH_ready (rs := [11]) (by kernel_rfl) (by simp) (AllReadyH.cons rfl (fun K hK => ?_) AllReadyH.nil)
              refine step_store_part (by rfl) 35 (.tmp 8) (.tmp 64) (by rfl) V2.heap.size 0 (Blk.new V2 _ _) (St.cs q) (St.cs q) (by rfl) (by rfl) (Nat.le_refl 20) infoSta (stcs_one _) (st_over _ rfl) ?_
              intro Y hb1 hc1
              have hbs := bel_st' hc1
              have hS3 := Lib.hid (And.intro (hS2.out.1.trans (Below.mono hbs hS2.out.1.size)) (And.intro (hS2.out.2.1.bel hbs) (hS2.out.2.2.bel hbs)))
              refine hK.out _ _ hS3 (fun _ => ?_)
              clear hK K
              refine wpAnyH_take (i := 12) (v := ?_) rfl (by kernel_rfl) (by kernel_rfl) (by kernel_rfl) (fun _ _ _ h => h) (Or.inl ⟨by rfl, ?_⟩) hS3 ?_
              rotate_left
              · (intro w _; go_simp; try with_reducible rfl)
              refine wpAnyH_done (by kernel_rfl) ?_ _
              try go_simp
              try go_wp2_with fail
              go_meet
              exact ⟨_, q, f, rfl, rfl, Lib.hid hS3.out.1, Lib.hid hS3.out.2.1, Lib.hid (by obtain ⟨N, hls⟩ := HLS.out; exact ⟨hb1, N, hls.bel hbs⟩), HQ⟩
            · go_simp
              have hba : Below V.heap.size V (V.alloc (.cells zSt 35)) := (Below.refl _ _).alloc (Nat.le_refl _) _
              have hZN : Blk (V.alloc (.cells zSt 35)) V.heap.size 35 zSt := Blk.new _ _ _
              have hS2 := Lib.hid (And.intro (hS1.out.1.trans (Below.mono hba hS1.out.1.size)) (And.intro (hS1.out.2.1.bel hba) (hS1.out.2.2.bel hba)))
              refine hK.out _ _ hS2 (fun _ => ?_)
              clear hK K
              refine wpAnyH_genT fun X1 hX1 => ?_
              replace hX1 : X1 = V.alloc (.cells zSt 35) := hX1
              rw [← hX1] at hba hZN hS2
              clear hX1
              refine wpAnyH_ready (rs := [6]) (by kernel_rfl) (by simp) (AllReadyH.cons rfl (fun K hK => ?_) AllReadyH.nil)
              go_simp
              refine (HPL.out _ hS2.out.2.1.mem).mono ?_
              rintro e' V2 ⟨q, f, rfl, hb, hls, hq⟩
              have hS3 := Lib.hid (And.intro (hS2.out.1.trans (Below.mono hb hS2.out.1.size)) (And.intro (hS2.out.2.1.bel hb) (hS2.out.2.2.bel hb)))
              have HLS := Lib.hid hls
              have HQ := Lib.hid hq
              have HZN := Lib.hid (hZN.bel hb)
              have hkd := HZN.out.kdT
              have hbx : Below V.heap.size V V2 := hba.trans (hb.mono hba.size)
              clear hb hls hq hS2 hZN hba
              go_simp
              refine hK.out _ _ hS3 (fun _ => ?_)
              clear hK K
              refine wpAnyH_take (i := 7) (v := ?_) rfl (by kernel_rfl) (by kernel_rfl) (by kernel_rfl) (fun _ _ _ h => h) (Or.inl ⟨by rfl, ?_⟩) hS3 ?_
              rotate_left
              · (intro w _; go_simp; try with_reducible rfl)
              refine wpAnyH_take (i := 8) (v := ?_) rfl (by kernel_rfl) (by kernel_rfl) (by kernel_rfl) (fun _ _ _ h => h) (Or.inl ⟨by rfl, ?_⟩) hS3 ?_
              rotate_left
              · (intro w _; go_simp; try with_reducible rfl)
              refine wpAnyH_take (i := 9) (v := ?_) rfl (by kernel_rfl) (by kernel_rfl) (by kernel_rfl) (fun _ _ _ h => h) (Or.inl ⟨by rfl, ?_⟩) hS3 ?_
              rotate_left
              · (intro w _; go_simp; try with_reducible rfl)
              refine wpAnyH_ready (rs := [11]) (by kernel_rfl) (by simp) (AllReadyH.cons rfl (fun K hK => ?_) AllReadyH.nil)
              refine step_store_part (by rfl) 35 (.tmp 8) (.tmp 64) (by rfl) V.heap.size 0 HZN.out (St.cs q) (St.cs q) (by rfl) (by rfl) (Nat.le_refl 20) infoSta (stcs_one _) (st_over _ rfl) ?_
              intro Y hb1 hc1
              have hby : Below V.heap.size V Y := hbx.trans (hc1.below hbx.size (by simp))
              have hS4 := Lib.hid (And.intro (hS1.out.1.trans (Below.mono hby hS1.out.1.size)) (And.intro (hS1.out.2.1.bel hby) (hS1.out.2.2.bel hby)))
              refine hK.out _ _ hS4 (fun _ => ?_)
              clear hK K
              refine wpAnyH_take (i := 12) (v := ?_) rfl (by kernel_rfl) (by kernel_rfl) (by kernel_rfl) (fun _ _ _ h => h) (Or.inl ⟨by rfl, ?_⟩) hS4 ?_
              rotate_left
              · (intro w _; go_simp; try with_reducible rfl)
              refine wpAnyH_done (by kernel_rfl) ?_ _
              try go_simp
              try go_wp2_with fail
              go_meet
              exact ⟨_, q, f, rfl, rfl, Lib.hid hS4.out.1, Lib.hid hS4.out.2.1, Lib.hid (by obtain ⟨N, hls⟩ := HLS.out; exact ⟨hb1, N, hls.ch hc1 hkd⟩), HQ⟩
          · go_simp
            have hba : Below X.heap.size X (X.alloc (.cells zSt 35)) := (Below.refl _ _).alloc (Nat.le_refl _) _
            have hZN : Blk (X.alloc (.cells zSt 35)) X.heap.size 35 zSt := Blk.new _ _ _
            have hS1 := Lib.hid (And.intro (hS.out.1.trans (Below.mono hba hS.out.1.size)) (And.intro (hS.out.2.1.bel hba) (hS.out.2.2.bel hba)))
            refine hK.out _ _ hS1 (fun _ => ?_)
            clear hK K
            refine wpAnyH_genT fun X1 hX1 => ?_
            replace hX1 : X1 = X.alloc (.cells zSt 35) := hX1
            rw [← hX1] at hba hZN hS1
            clear hX1
            refine wpAnyH_ready (rs := [5]) (by kernel_rfl) (by simp) (AllReadyH.cons rfl (fun K hK => ?_) AllReadyH.nil)
            go_simp
            refine (cutop_any o _).mono ?_
            rintro e' V ⟨rfl, hb⟩
            have hS2 := Lib.hid (And.intro (hS1.out.1.trans (Below.mono hb hS1.out.1.size)) (And.intro (hS1.out.2.1.bel hb) (hS1.out.2.2.bel hb)))
            have hZ2 := hZN.bel hb
            have hb2 : Below X.heap.size X V := hba.trans (hb.mono hba.size)
            clear hb hS1 hZN hba
            go_simp
            refine hK.out _ _ hS2 (fun _ => ?_)
            clear hK K
            refine wpAnyH_ready (rs := [6]) (by kernel_rfl) (by simp) (AllReadyH.cons rfl (fun K hK => ?_) AllReadyH.nil)
            go_simp
            refine (HPL.out _ hS2.out.2.1.mem).mono ?_
            rintro e' V2 ⟨q, f, rfl, hb, hls, hq⟩
            have hS3 := Lib.hid (And.intro (hS2.out.1.trans (Below.mono hb hS2.out.1.size)) (And.intro (hS2.out.2.1.bel hb) (hS2.out.2.2.bel hb)))
            have HLS := Lib.hid hls
            have HQ := Lib.hid hq
            have HZN := Lib.hid (hZ2.bel hb)
            have hkd := HZN.out.kdT
            have hbx : Below X.heap.size X V2 := hb2.trans (hb.mono hb2.size)
            clear hb hls hq hS2 hZ2 hb2
            go_simp
            refine hK.out _ _ hS3 (fun _ => ?_)
            clear hK K
            refine wpAnyH_take (i := 7) (v := ?_) rfl (by kernel_rfl) (by kernel_rfl) (by kernel_rfl) (fun _ _ _ h => h) (Or.inl ⟨by rfl, ?_⟩) hS3 ?_
            rotate_left
            · (intro w _; go_simp; try with_reducible rfl)
            refine wpAnyH_take (i := 8) (v := ?_) rfl (by kernel_rfl) (by kernel_rfl) (by kernel_rfl) (fun _ _ _ h => h) (Or.inl ⟨by rfl, ?_⟩) hS3 ?_
            rotate_left
            · (intro w _; go_simp; try with_reducible rfl)
            refine wpAnyH_take (i := 9) (v := ?_) rfl (by kernel_rfl) (by kernel_rfl) (by kernel_rfl) (fun _ _ _ h => h) (Or.inl ⟨by rfl, ?_⟩) hS3 ?_
            rotate_left
            · (intro w _; go_simp; try with_reducible rfl)
            refine wpAnyH_ready (rs := [11]) (by kernel_rfl) (by simp) (AllReadyH.cons rfl (fun K hK => ?_) AllReadyH.nil)
            refine step_store_part (by rfl) 35 (.tmp 8) (.tmp 64) (by rfl) X.heap.size 0 HZN.out (St.cs q) (St.cs q) (by rfl) (by rfl) (Nat.le_refl 20) infoSta (stcs_one _) (st_over _ rfl) ?_
            intro Y hb1 hc1
            have hby : Below X.heap.size X Y := hbx.trans (hc1.below hbx.size (by simp))
            have hS4 := Lib.hid (And.intro (hS.out.1.trans (Below.mono hby hS.out.1.size)) (And.intro (hS.out.2.1.bel hby) (hS.out.2.2.bel hby)))
            refine hK.out _ _ hS4 (fun _ => ?_)
            clear hK K
            refine wpAnyH_take (i := 12) (v := ?_) rfl (by kernel_rfl) (by kernel_rfl) (by kernel_rfl) (fun _ _ _ h => h) (Or.inl ⟨by rfl, ?_⟩) hS4 ?_
            rotate_left
            · (intro w _; go_simp; try with_reducible rfl)
            refine wpAnyH_done (by kernel_rfl) ?_ _
            try go_simp
            try go_wp2_with fail
            go_meet
            exact ⟨_, q, f, rfl, rfl, Lib.hid hS4.out.1, Lib.hid hS4.out.2.1, Lib.hid (by obtain ⟨N, hls⟩ := HLS.out; exact ⟨hb1, N, hls.ch hc1 hkd⟩), HQ⟩
        case rest =>
          clear HB H5 HOP HPL
          obtain ⟨a8, q, f, rfl, rfl, HB, H5, H9, HPR⟩ := hcut
          by_cases hf : f = 0
          · subst hf
            obtain ⟨hE, A', c', B', d', hq⟩ := HPR.out rfl
            have HI2 : Hid (Inv q mt) := Lib.hid (by rw [hq]; exact (play_inv HI.out HFO.out hE).lists _ _ _ _)
            clear hE hq HPR HI HFO
            go_upto_region 12 with (first
              | (refine wpList_load_blk rfl 35 (.tmp 8) rfl a8 0 20 H9.out.blk q.cs (by rfl) (st_ext _) Tryz.underlying35 infoSta (st_le _) ?_)
              | (refine wpList_store_part rfl 35 (.tmp 5) (.tmp 68) rfl a5 0 (cs := s.cs) H5.out.blk q.cs q.cs (by rfl) (by rfl) (st_le _) infoSta (stcs_one _) (st_over _ rfl) ?_; intro W13 hb1 hc1; replace HB := Lib.hid (HB.out.trans (hc1.below HB.out.size (by intro x hx; simp at hx; rw [hx]; exact ha5))); have H5' : Hid (StB W13 a5 q) := (by obtain ⟨N, hls⟩ := H9.out.ls; exact Lib.hid ⟨hb1, N, hls.ch hc1 H5.out.blk.kdT⟩); clear hb1 hc1 H5))
            obtain ⟨TA, hTA⟩ : ∃ TA, (St.A q) = TA := ⟨_, rfl⟩
            have HTA := Lib.hid hTA
            have HMEM : Hid (Sl W13 (World.heap W13).size 11 En.cl TA (St.tops q)) := Lib.hid (by rw [← hTA]; exact H5'.out.mem.tops)
            have ht3 := HI2.out.tops
            clear hTA
            go_wp2_with (first
              | (refine wpList_load_blk rfl 26 (.tmp 70) rfl a5 2 9 H5'.out.blk (Ou.cs (En.o (St.lock q))) (by rfl) (st_part q) Tryz.underlying26 infoOu9 (by show 11 ≤ 20; omega) ?_)
              | (refine wpList_build_ou rfl (.tmp 71) rfl (En.o (St.lock q)) (by rfl) ?_))
            go_loopw [10, 11] (fun v i wx => ∃ (n : Nat) (B : Option Addr) (cc : Nat), n ≤ (St.tops q).length ∧ i = .int .i64 n ∧ v = .slice B (n + 1) cc ∧ Hid (wx.ownsRow (World.heap W13).size 26 9 (.slice B (n + 1) cc) (n + 1) (outsC (En.o (St.lock q)) ((St.tops q).take n))) ∧ Hid (Below (World.heap W13).size W13 wx)) (fun _ i _ => (St.tops q).length - (intOf i).toNat)
            case atStart => exact ⟨0, _, _, Nat.zero_le _, rfl, rfl, Lib.hid (outs_start W13 (En.o (St.lock q)) (St.tops q)), Lib.hid ((Below.refl _ _).alloc (Nat.le_refl _) _)⟩
            case round =>
              obtain ⟨n, B, cc, hnn, rfl, rfl, HO, HBX⟩ := hrel
              have hzx := HBX.out.size
              have HX5 := Lib.hid (H5'.out.bel HBX.out)
              have c11 : wr.cell? ⟨a5, 11, none⟩ = some (.slice TA (St.tops q).length (St.c q)) := by rw [← HTA.out]; exact HX5.out.blk.cell 11
              by_cases hlt3 : n < (St.tops q).length
              · have d3 : decide (n < (St.tops q).length) = true := decide_eq_true hlt3
                have HSN := Lib.hid (outs_snoc (En.o (St.lock q)) (St.tops q) n hlt3)
                clear HTA
                obtain ⟨tb, toff, rfl, hbB, hc⟩ := (HMEM.out.below HBX.out).at_ hlt3
                generalize (St.tops q)[n] = x at hc HSN
                have HCC : Hid (∀ j u, x.o.cl[j]? = some u → wr.cell? ⟨tb, toff + n * 11 + 2 + j, none⟩ = some u) := Lib.hid (fun j u h => by rw [Nat.add_assoc (toff + n * 11)]; exact hc _ _ (en_o_cl x h))
                clear hc
                go_wp2_with (first
                  | (refine wpList_load_ou rfl (.tmp 85) rfl tb (toff + n * 11 + 2) (by rfl) x.o HCC.out ?_)
                  | (refine wpList_build_ou rfl (.tmp 86) rfl x.o (by rfl) ?_)
                  | (at_builtin; go_must (refine wpList_append_own _ rfl (.tmp 80) (.tmp 87) _ rfl (World.heap W13).size 26 i0 _ 9 104 Tryz.underlying52 hi Hhz.out hz1 hz2 rfl (by decide) _ (n + 1) _ rfl (HO.out.alloc _) ⟨wr.heap.size, 0, none⟩ 1 1 x.o.cl rfl rfl (news_alloc _ _ _ _ _ rfl rfl) (oucl_one _) (by simp only [maxLen]; omega) (by omega) (by simp; omega) ?_); intro v' W2 hown1 hg1 hnil1; have HO1 := Lib.hid hown1; have HB2 := Lib.hid ((HBX.out.alloc HBX.out.size _).grown hg1 (HBX.out.alloc HBX.out.size _).size (own_base HO.out)); clear hown1 hg1 hnil1))
                obtain ⟨B3, c3, rfl⟩ := own_form HO1.out
                go_roundw
                case rel => exact ⟨n + 1, B3, c3, by omega, by go_num, rfl, Lib.hid (by rw [HSN.out]; exact HO1.out), HB2⟩
                case measure => simp [intOf]; omega
              · have d3 : decide (n < (St.tops q).length) = false := decide_eq_false hlt3
                obtain rfl : n = (St.tops q).length := by omega
                have hsl := coinwhole_any B ((En.o (St.lock q)) :: (St.tops q).map En.o) cc wr (Sl.of_own (base := (World.heap W13).size) (n := (St.tops q).length + 1) (c := cc) (e := 26) (fun _ => rfl) (by have := HO.out; rw [List.take_length] at this; rw [show (En.o (St.lock q) :: (St.tops q).map En.o).length = (St.tops q).length + 1 by simp]; exact this)) (by simp; omega) (fun o ho => by
                  rcases List.mem_cons.1 ho with rfl | ho
                  · exact HI2.out.good.fit.lam
                  · obtain ⟨y, hy, rfl⟩ := List.mem_map.1 ho; exact HI2.out.good.fit.tams y hy)
                rw [show ((En.o (St.lock q)) :: (St.tops q).map En.o).length = (St.tops q).length + 1 by simp, show ousI ((En.o (St.lock q)) :: (St.tops q).map En.o) = (((St.lock q).o.am : Int) :: topsI (St.tops q)) by simp [ousI, topsI]] at hsl
                have HQF := Lib.hid HI2.out.good.fit
                by_cases hT : totI (((St.lock q).o.am : Int) :: topsI (St.tops q)) < 18446744073709551616
                · obtain ⟨e1, e2⟩ := whole_tot q hT
                  rw [e1, e2] at hsl
                  have HWH := fun W h => Lib.hid (swhole_gen q W HQF.out (St.mem.tops h))
                  generalize wholeV q = wv at HWH hsl
                  have gg : (wv != wv) = false := by simp
                  have HSL := Lib.hid hsl
                  clear hsl e1 e2 hT
                  go_wp2_with fail
                  refine HSL.out.mono ?_
                  rintro e' W6 ⟨rfl, hb⟩
                  have HBY := Lib.hid (HBX.out.trans (Below.mono hb HBX.out.size))
                  have H6 := Lib.hid (H5'.out.bel HBY.out)
                  have c6 : W6.cell? ⟨a5, 11, none⟩ = some (.slice TA (St.tops q).length (St.c q)) := by rw [← HTA.out]; exact H6.out.blk.cell 11
                  have d4 : decide (3 < (St.tops q).length) = false := decide_eq_false (by omega)
                  have d4' : decide ((3 : Int) < ((St.tops q).length : Int)) = false := decide_eq_false (by omega)
                  clear hb HSL c11
                  go_wp2_with (refine wpList_load_blkG (by rfl) 35 (.tmp 5) rfl a5 0 20 H6.out.blk (St.cs q) (by rfl) (st_ext _) Tryz.underlying35 infoSta (st_le _) ?_)
                  refine (HWH _ H6.out.mem).out.mono ?_
                  rintro e' W7 ⟨rfl, hb⟩
                  have HBZ := Lib.hid (HBY.out.trans (Below.mono hb HBY.out.size))
                  have H7 := Lib.hid (H5'.out.bel HBZ.out)
                  clear hb c6
                  go_wp2_with fail
                  go_roundw
                  case rel => exact ⟨k + 1, q, by omega, by omega, by go_num, Lib.hid (HB.out.trans (Below.mono HBZ.out HB.out.size)), H7, HI2⟩
                  case measure => simp [intOf]; omega
                · obtain ⟨e1, e2⟩ := whole_over q hT
                  rw [e2] at hsl
                  have HWH := fun W h => Lib.hid (swhole_gen q W HQF.out (St.mem.tops h))
                  rw [e1] at HWH
                  generalize totV (((St.lock q).o.am : Int) :: topsI (St.tops q)) = wv at hsl
                  have HSL := Lib.hid hsl
                  clear hsl e1 e2 hT
                  go_wp2_with fail
                  refine HSL.out.mono ?_
                  rintro e' W6 ⟨rfl, hb⟩
                  have HBY := Lib.hid (HBX.out.trans (Below.mono hb HBX.out.size))
                  have H6 := Lib.hid (H5'.out.bel HBY.out)
                  have c6 : W6.cell? ⟨a5, 11, none⟩ = some (.slice TA (St.tops q).length (St.c q)) := by rw [← HTA.out]; exact H6.out.blk.cell 11
                  have d4 : decide (3 < (St.tops q).length) = false := decide_eq_false (by omega)
                  have d4' : decide ((3 : Int) < ((St.tops q).length : Int)) = false := decide_eq_false (by omega)
                  clear hb HSL c11
                  go_wp2_with (refine wpList_load_blkG (by rfl) 35 (.tmp 5) rfl a5 0 20 H6.out.blk (St.cs q) (by rfl) (st_ext _) Tryz.underlying35 infoSta (st_le _) ?_)
                  refine (HWH _ H6.out.mem).out.mono ?_
                  rintro e' W7 ⟨rfl, hb⟩
                  have HBZ := Lib.hid (HBY.out.trans (Below.mono hb HBY.out.size))
                  have H7 := Lib.hid (H5'.out.bel HBZ.out)
                  clear hb c6
                  go_wp2_with fail
                  go_roundw
                  case rel => exact ⟨k + 1, q, by omega, by omega, by go_num, Lib.hid (HB.out.trans (Below.mono HBZ.out HB.out.size)), H7, HI2⟩
                  case measure => simp [intOf]; omega
          · have g1 : (f == 0) = false := beq_eq_false_iff_ne.2 hf
            clear hf HPR HFO
            go_upto_region 12 with fail
            obtain ⟨TA, hTA⟩ : ∃ TA, (St.A s) = TA := ⟨_, rfl⟩
            have HTA := Lib.hid hTA
            have HMEM : Hid (Sl wc (World.heap wc).size 11 En.cl TA (St.tops s)) := Lib.hid (by rw [← hTA]; exact H5.out.mem.tops)
            have ht3 := HI.out.tops
            clear hTA
            go_wp2_with (first
              | (refine wpList_load_blk rfl 26 (.tmp 70) rfl a5 2 9 H5.out.blk (Ou.cs (En.o (St.lock s))) (by rfl) (st_part s) Tryz.underlying26 infoOu9 (by show 11 ≤ 20; omega) ?_)
              | (refine wpList_build_ou rfl (.tmp 71) rfl (En.o (St.lock s)) (by rfl) ?_))
            go_loopw [10, 11] (fun v i wx => ∃ (n : Nat) (B : Option Addr) (cc : Nat), n ≤ (St.tops s).length ∧ i = .int .i64 n ∧ v = .slice B (n + 1) cc ∧ Hid (wx.ownsRow (World.heap wc).size 26 9 (.slice B (n + 1) cc) (n + 1) (outsC (En.o (St.lock s)) ((St.tops s).take n))) ∧ Hid (Below (World.heap wc).size wc wx)) (fun _ i _ => (St.tops s).length - (intOf i).toNat)
            case atStart => exact ⟨0, _, _, Nat.zero_le _, rfl, rfl, Lib.hid (outs_start wc (En.o (St.lock s)) (St.tops s)), Lib.hid ((Below.refl _ _).alloc (Nat.le_refl _) _)⟩
            case round =>
              obtain ⟨n, B, cc, hnn, rfl, rfl, HO, HBX⟩ := hrel
              have hzx := HBX.out.size
              have HX5 := Lib.hid (H5.out.bel HBX.out)
              have c11 : wr.cell? ⟨a5, 11, none⟩ = some (.slice TA (St.tops s).length (St.c s)) := by rw [← HTA.out]; exact HX5.out.blk.cell 11
              by_cases hlt3 : n < (St.tops s).length
              · have d3 : decide (n < (St.tops s).length) = true := decide_eq_true hlt3
                have HSN := Lib.hid (outs_snoc (En.o (St.lock s)) (St.tops s) n hlt3)
                clear HTA
                obtain ⟨tb, toff, rfl, hbB, hc⟩ := (HMEM.out.below HBX.out).at_ hlt3
                generalize (St.tops s)[n] = x at hc HSN
                have HCC : Hid (∀ j u, x.o.cl[j]? = some u → wr.cell? ⟨tb, toff + n * 11 + 2 + j, none⟩ = some u) := Lib.hid (fun j u h => by rw [Nat.add_assoc (toff + n * 11)]; exact hc _ _ (en_o_cl x h))
                clear hc
                go_wp2_with (first
                  | (refine wpList_load_ou rfl (.tmp 85) rfl tb (toff + n * 11 + 2) (by rfl) x.o HCC.out ?_)
                  | (refine wpList_build_ou rfl (.tmp 86) rfl x.o (by rfl) ?_)
                  | (at_builtin; go_must (refine wpList_append_own _ rfl (.tmp 80) (.tmp 87) _ rfl (World.heap wc).size 26 i0 _ 9 104 Tryz.underlying52 hi Hhz.out hz1 hz2 rfl (by decide) _ (n + 1) _ rfl (HO.out.alloc _) ⟨wr.heap.size, 0, none⟩ 1 1 x.o.cl rfl rfl (news_alloc _ _ _ _ _ rfl rfl) (oucl_one _) (by simp only [maxLen]; omega) (by omega) (by simp; omega) ?_); intro v' W2 hown1 hg1 hnil1; have HO1 := Lib.hid hown1; have HB2 := Lib.hid ((HBX.out.alloc HBX.out.size _).grown hg1 (HBX.out.alloc HBX.out.size _).size (own_base HO.out)); clear hown1 hg1 hnil1))
                obtain ⟨B3, c3, rfl⟩ := own_form HO1.out
                go_roundw
                case rel => exact ⟨n + 1, B3, c3, by omega, by go_num, rfl, Lib.hid (by rw [HSN.out]; exact HO1.out), HB2⟩
                case measure => simp [intOf]; omega
              · have d3 : decide (n < (St.tops s).length) = false := decide_eq_false hlt3
                obtain rfl : n = (St.tops s).length := by omega
                have hsl := coinwhole_any B ((En.o (St.lock s)) :: (St.tops s).map En.o) cc wr (Sl.of_own (base := (World.heap wc).size) (n := (St.tops s).length + 1) (c := cc) (e := 26) (fun _ => rfl) (by have := HO.out; rw [List.take_length] at this; rw [show (En.o (St.lock s) :: (St.tops s).map En.o).length = (St.tops s).length + 1 by simp]; exact this)) (by simp; omega) (fun o ho => by
                  rcases List.mem_cons.1 ho with rfl | ho
                  · exact HI.out.good.fit.lam
                  · obtain ⟨y, hy, rfl⟩ := List.mem_map.1 ho; exact HI.out.good.fit.tams y hy)
                rw [show ((En.o (St.lock s)) :: (St.tops s).map En.o).length = (St.tops s).length + 1 by simp, show ousI ((En.o (St.lock s)) :: (St.tops s).map En.o) = (((St.lock s).o.am : Int) :: topsI (St.tops s)) by simp [ousI, topsI]] at hsl
                have HQF := Lib.hid HI.out.good.fit
                by_cases hT : totI (((St.lock s).o.am : Int) :: topsI (St.tops s)) < 18446744073709551616
                · obtain ⟨e1, e2⟩ := whole_tot s hT
                  rw [e1, e2] at hsl
                  have HWH := fun W h => Lib.hid (swhole_gen s W HQF.out (St.mem.tops h))
                  generalize wholeV s = wv at HWH hsl
                  have gg : (wv != wv) = false := by simp
                  have HSL := Lib.hid hsl
                  clear hsl e1 e2 hT
                  go_wp2_with fail
                  refine HSL.out.mono ?_
                  rintro e' W6 ⟨rfl, hb⟩
                  have HBY := Lib.hid (HBX.out.trans (Below.mono hb HBX.out.size))
                  have H6 := Lib.hid (H5.out.bel HBY.out)
                  have c6 : W6.cell? ⟨a5, 11, none⟩ = some (.slice TA (St.tops s).length (St.c s)) := by rw [← HTA.out]; exact H6.out.blk.cell 11
                  have d4 : decide (3 < (St.tops s).length) = false := decide_eq_false (by omega)
                  have d4' : decide ((3 : Int) < ((St.tops s).length : Int)) = false := decide_eq_false (by omega)
                  clear hb HSL c11
                  go_wp2_with (refine wpList_load_blkG (by rfl) 35 (.tmp 5) rfl a5 0 20 H6.out.blk (St.cs s) (by rfl) (st_ext _) Tryz.underlying35 infoSta (st_le _) ?_)
                  refine (HWH _ H6.out.mem).out.mono ?_
                  rintro e' W7 ⟨rfl, hb⟩
                  have HBZ := Lib.hid (HBY.out.trans (Below.mono hb HBY.out.size))
                  have H7 := Lib.hid (H5.out.bel HBZ.out)
                  clear hb c6
                  go_wp2_with fail
                  go_roundw
                  case rel => exact ⟨k + 1, s, by omega, by omega, by go_num, Lib.hid (HB.out.trans (Below.mono HBZ.out HB.out.size)), H7, HI⟩
                  case measure => simp [intOf]; omega
                · obtain ⟨e1, e2⟩ := whole_over s hT
                  rw [e2] at hsl
                  have HWH := fun W h => Lib.hid (swhole_gen s W HQF.out (St.mem.tops h))
                  rw [e1] at HWH
                  generalize totV (((St.lock s).o.am : Int) :: topsI (St.tops s)) = wv at hsl
                  have HSL := Lib.hid hsl
                  clear hsl e1 e2 hT
                  go_wp2_with fail
                  refine HSL.out.mono ?_
                  rintro e' W6 ⟨rfl, hb⟩
                  have HBY := Lib.hid (HBX.out.trans (Below.mono hb HBX.out.size))
                  have H6 := Lib.hid (H5.out.bel HBY.out)
                  have c6 : W6.cell? ⟨a5, 11, none⟩ = some (.slice TA (St.tops s).length (St.c s)) := by rw [← HTA.out]; exact H6.out.blk.cell 11
                  have d4 : decide (3 < (St.tops s).length) = false := decide_eq_false (by omega)
                  have d4' : decide ((3 : Int) < ((St.tops s).length : Int)) = false := decide_eq_false (by omega)
                  clear hb HSL c11
                  go_wp2_with (refine wpList_load_blkG (by rfl) 35 (.tmp 5) rfl a5 0 20 H6.out.blk (St.cs s) (by rfl) (st_ext _) Tryz.underlying35 infoSta (st_le _) ?_)
                  refine (HWH _ H6.out.mem).out.mono ?_
                  rintro e' W7 ⟨rfl, hb⟩
                  have HBZ := Lib.hid (HBY.out.trans (Below.mono hb HBY.out.size))
                  have H7 := Lib.hid (H5.out.bel HBZ.out)
                  clear hb c6
                  go_wp2_with fail
                  go_roundw
                  case rel => exact ⟨k + 1, s, by omega, by omega, by go_num, Lib.hid (HB.out.trans (Below.mono HBZ.out HB.out.size)), H7, HI⟩
                  case measure => simp [intOf]; omega
      · have d1 : decide (k < l.length) = true := decide_eq_true hlt
        have d2 : decide ((k : Int) < 16) = false := decide_eq_false (by omega)
        clear hlt hlt2
        go_wp2_with fail
        refine (fixed17_any _).mono ?_
        rintro e' V3 ⟨rfl, hb⟩
        replace HB := Lib.hid (HB.out.trans (Below.mono hb HB.out.size))
        clear hb
        go_wp2_with fail
        go_ret
        exact ⟨rfl, HB.out⟩
    · have d1 : decide (k < l.length) = false := decide_eq_false hlt
      clear hlt
      go_wp2_with fail
      refine (fixed17_any _).mono ?_
      rintro e' V3 ⟨rfl, hb⟩
      replace HB := Lib.hid (HB.out.trans (Below.mono hb HB.out.size))
      clear hb
      go_wp2_with fail
      go_ret
      exact ⟨rfl, HB.out⟩
end Go.Proofs.YtpbcfeghfcodcaaGreat
