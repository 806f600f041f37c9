/- ChannelShows: the walk. -/
import Derived.Test.YtpbcfeghfcodcaaGreatMgShQ
set_option linter.unusedVariables false
set_option linter.unusedSimpArgs false
namespace Go.Proofs.YtpbcfeghfcodcaaGreat
open Go.RowKit Go.Maps
theorem st_pfs (s : St) : s.cs.extract 12 (12 + 4) = (s.pf s.B s.d).cs := by rfl
set_option maxRecDepth 100000 in
set_option maxHeartbeats 4000000 in
theorem shows_no (e : En) (A : Option Addr) (l : List Op17) (c : Nat) (w0 : World) (hb : newB (beginX e) (fitsB (beginX e).o) = false) :
    Calls Tryz.prog 6 #[.agg e.cs, .slice A l.length c] w0 fun e' w' => e' = .returned (.bool true) ∧ Below w0.heap.size w0 w' := by
  have HX := Lib.hid (Blk.new w0 28 e.cs)
  have HBG := fun W => Lib.hid (begin_no e hb W)
  clear hb
  go_enter Tryz.func6, Tryz.ntmps6
  go_wp2_with (refine wpList_load_blk rfl 28 (.tmp 2) rfl w0.heap.size 0 11 HX.out e.cs (by rfl) (en_ext e) Tryz.underlying28 infoEnt (Nat.le_refl 11) ?_)
  refine (HBG _).out.mono ?_
  rintro e' V1 ⟨rfl, hb⟩
  have HB : Hid (Below w0.heap.size w0 V1) := Lib.hid (((Below.refl _ _).alloc (Nat.le_refl _) _).trans (hb.mono (by simp)))
  clear hb HBG HX
  go_wp2_with (refine wpList_store_part rfl 35 (.tmp 5) (.tmp 17) rfl V1.heap.size 0 (cs := zSt) (Blk.new _ _ _) zSt zSt (by rfl) (by rfl) (Nat.le_refl 20) infoSta zStO (zStV rfl) ?_; intro W1 hb1 hc1; have hb := bel_st' hc1; replace HB := Lib.hid (HB.out.trans (Below.mono hb HB.out.size)); clear hb1 hc1 hb)
  go_loopw [7] (fun i wr => i = .int .i64 0 ∧ Hid (Below w0.heap.size w0 wr)) (fun _ _ => 0)
  case atStart => exact ⟨rfl, HB⟩
  case round =>
    clear HB
    obtain ⟨rfl, HB⟩ := hrel
    go_wp2_with fail
    refine (fixed17_any _).mono ?_
    rintro e' V3 ⟨rfl, hb⟩
    replace HB := Lib.hid (HB.out.trans (Below.mono hb HB.out.size))
    clear hb
    go_wp2_with fail
    go_ret
    exact ⟨rfl, HB.out⟩
set_option maxRecDepth 100000 in
set_option maxHeartbeats 8000000 in
theorem shows_ok (e : En) (A : Option Addr) (l : List Op17) (c : Nat) (w0 : World) (he : e.fz) (hl : ∀ x ∈ l, x.fz) (hn : l.length ≤ maxLen) (hs : Sl w0 w0.heap.size 25 Op17.cl A l) (hb : newB (beginX e) (fitsB (beginX e).o) = true) :
    Calls Tryz.prog 6 #[.agg e.cs, .slice A l.length c] w0 fun e' w' => e' = .returned (.bool true) ∧ Below w0.heap.size w0 w' := by
  have HX := Lib.hid (Blk.new w0 28 e.cs)
  have HBG := fun W => Lib.hid (begin_ok e hb W)
  obtain ⟨mt, hinv⟩ := new_inv he hb
  have HS := Lib.hid hs
  have HXL := Lib.hid hl
  obtain ⟨s, hsd⟩ : ∃ s, s = newS (beginX e) := ⟨_, rfl⟩
  have hsl : ∀ N W, LsAt s N W s.A s.c s.B s.d := fun N W => by rw [hsd]; exact newS_ls _ _ _
  have HSH : Hid (ShI s mt) := Lib.hid (by rw [hsd]; exact new_sh _ _)
  rw [← hsd] at hinv
  have HBG' : ∀ W, Hid (Calls Tryz.prog 7 #[.agg e.cs] W fun e' w' => e' = .returned (.tuple #[.agg s.cs, .int .i64 0]) ∧ Below W.heap.size W w') := fun W => Lib.hid (by rw [hsd]; exact (HBG W).out)
  have HI := Lib.hid hinv
  have HLS := Lib.hid hsl
  unfold maxLen at hn
  clear hb HBG hs hl hinv hsd hsl he
  go_enter Tryz.func6, Tryz.ntmps6
  go_wp2_with (refine wpList_load_blk rfl 28 (.tmp 2) rfl w0.heap.size 0 11 HX.out e.cs (by rfl) (en_ext e) Tryz.underlying28 infoEnt (Nat.le_refl 11) ?_)
  refine (HBG' _).out.mono ?_
  rintro e' V1 ⟨rfl, hb⟩
  have HB : Hid (Below w0.heap.size w0 V1) := Lib.hid (((Below.refl _ _).alloc (Nat.le_refl _) _).trans (hb.mono (by simp)))
  clear hb HBG' HX
  have ha5 := HB.out.size
  go_wp2_with (refine wpList_store_part rfl 35 (.tmp 5) (.tmp 17) rfl V1.heap.size 0 (cs := zSt) (Blk.new _ _ _) s.cs s.cs (by rfl) (by rfl) (Nat.le_refl 20) infoSta (stcs_one _) (st_over _ rfl) ?_; intro W1 hb1 hc1; have hb := bel_st' hc1; replace HB := Lib.hid (HB.out.trans (Below.mono hb HB.out.size)); have H5 : Hid (StB W1 V1.heap.size s) := Lib.hid ⟨hb1, 0, HLS.out _ _⟩; clear hb1 hc1 hb)
  clear HLS
  generalize V1.heap.size = a5 at H5 ha5 ⊢
  go_loopw [7] (fun i wr => ∃ (k : Nat) (s' : St), k ≤ l.length ∧ k ≤ 16 ∧ i = .int .i64 k ∧ Hid (Below w0.heap.size w0 wr) ∧ Hid (StB wr a5 s') ∧ Hid (Inv s' mt) ∧ Hid (ShI s' mt)) (fun i _ => 16 - (intOf i).toNat)
  case atStart => exact ⟨0, s, Nat.zero_le _, Nat.zero_le _, rfl, HB, H5, HI, HSH⟩
  case round =>
    clear HB H5 HI HSH
    obtain ⟨k, s, hk, hk2, rfl, HB, H5, HI, HSH⟩ := hrel
    have hzr := HB.out.size
    by_cases hlt : k < l.length
    · by_cases hlt2 : k < 16
      · have d1 : decide (k < l.length) = true := decide_eq_true hlt
        have d2 : decide ((k : Int) < 16) = true := decide_eq_true (by omega)
        obtain ⟨ab, off, rfl, hbB, hc⟩ := (HS.out.below HB.out).at_ hlt
        have hfo := cutOp_fit (HXL.out _ (List.getElem_mem hlt))
        generalize l[k] = o at hc hfo
        have HOP : Hid (OpAt wr ab (off + k * 25) o) := Lib.hid ⟨by omega, hc⟩
        have HPL := Lib.hid (fun W h => play_one s mt (cutOp o) W HI.out.good h hfo)
        have HFO := Lib.hid hfo
        clear hc hfo
        go_upto_region 5 with fail
        go_cut [8, 9] (fun u8 u9 wx => ∃ (a8 : Nat) (q : St) (f : Int), u8 = .pointer (some ⟨a8, 0, none⟩) ∧ u9 = .int .i64 f ∧ Hid (Below w0.heap.size w0 wx) ∧ Hid (StB wx a5 s) ∧ Hid (StB wx a8 q) ∧ Hid (PlR s mt (cutOp o) q f))
        case first =>
          refine wp_region_held_drew (S := fun W => Hid (Below w0.heap.size w0 W ∧ StB W a5 s ∧ OpAt W ab (off + k * 25) o)) (by kernel_rfl) (Lib.hid ⟨HB.out.drew, H5.out.bel (Below.refl _ _).drew, HOP.out.bel (Below.refl _ _).drew⟩) (fun hS => ?_)
          refine wpAnyH_genT fun X hX => ?_
          rw [← hX] at hS
          clear hX HB H5 HOP
          refine wpAnyH_take (i := 0) (v := .agg (St.cs s)) rfl (by kernel_rfl) (by kernel_rfl) (by kernel_rfl) (fun _ _ _ h => h) (yields_blk (by rfl) 35 (.tmp 5) (by rfl) a5 0 20 (t := 35) (cs := St.cs s) (fun W h => h.out.2.1.blk) (St.cs s) (by rfl) (st_ext _) Tryz.underlying35 infoSta (st_le _)) hS ?_
          refine wpAnyH_take (i := 1) (v := ?_) rfl (by kernel_rfl) (by kernel_rfl) (by kernel_rfl) (fun _ _ _ h => h) (Or.inl ⟨by rfl, ?_⟩) hS ?_
          rotate_left
          · (intro w _; go_simp; try with_reducible rfl)
          refine wpAnyH_take (i := 2) (v := ?_) rfl (by kernel_rfl) (by kernel_rfl) (by kernel_rfl) (fun _ _ _ h => h) (Or.inl ⟨by rfl, ?_⟩) hS ?_
          rotate_left
          · (intro w _; go_simp; try with_reducible rfl)
          refine wpAnyH_take (i := 3) (v := ?_) rfl (by kernel_rfl) (by kernel_rfl) (by kernel_rfl) (fun _ _ _ h => h) (Or.inl ⟨by rfl, ?_⟩) hS ?_
          rotate_left
          · (intro w _; go_simp; try with_reducible rfl)
          refine wpAnyH_take (i := 4) (v := .agg o.cs) rfl (by kernel_rfl) (by kernel_rfl) (by kernel_rfl) (fun _ _ _ h => h) (yields_op (by rfl) (.tmp 37) (by rfl) ab (off + k * 25) o (fun W h => h.out.2.2) (by rfl)) hS ?_
          refine wpAnyH_ready (rs := [5, 10]) (by kernel_rfl) (by simp) (AllReadyH.cons rfl (fun K hK => ?_) (AllReadyH.cons rfl (fun K hK => ?_) AllReadyH.nil))
          · go_simp
            refine (cutop_any o _).mono ?_
            rintro e' V ⟨rfl, hb⟩
            have hS1 := Lib.hid (And.intro (hS.out.1.trans (Below.mono hb hS.out.1.size)) (And.intro (hS.out.2.1.bel hb) (hS.out.2.2.bel hb)))
            clear hb hS
            go_simp
            refine hK.out _ _ hS1 (fun _ => ?_)
            clear hK K
            refine wpAnyH_ready (rs := [6, 10]) (by kernel_rfl) (by simp) (AllReadyH.cons rfl (fun K hK => ?_) (AllReadyH.cons rfl (fun K hK => ?_) AllReadyH.nil))
            · go_simp
              refine (HPL.out _ hS1.out.2.1.mem).mono ?_
              rintro e' V2 ⟨q, f, rfl, hb, hls, hq⟩
              have hS2 := Lib.hid (And.intro (hS1.out.1.trans (Below.mono hb hS1.out.1.size)) (And.intro (hS1.out.2.1.bel hb) (hS1.out.2.2.bel hb)))
              have HLS := Lib.hid hls
              have HQ := Lib.hid hq
              clear hb hls hq hS1
              go_simp
              refine hK.out _ _ hS2 (fun _ => ?_)
              clear hK K
              refine wpAnyH_take (i := 7) (v := ?_) rfl (by kernel_rfl) (by kernel_rfl) (by kernel_rfl) (fun _ _ _ h => h) (Or.inl ⟨by rfl, ?_⟩) hS2 ?_
              rotate_left
              · (intro w _; go_simp; try with_reducible rfl)
              refine wpAnyH_take (i := 8) (v := ?_) rfl (by kernel_rfl) (by kernel_rfl) (by kernel_rfl) (fun _ _ _ h => h) (Or.inl ⟨by rfl, ?_⟩) hS2 ?_
              rotate_left
              · (intro w _; go_simp; try with_reducible rfl)
              refine wpAnyH_take (i := 9) (v := ?_) rfl (by kernel_rfl) (by kernel_rfl) (by kernel_rfl) (fun _ _ _ h => h) (Or.inl ⟨by rfl, ?_⟩) hS2 ?_
              rotate_left
              · (intro w _; go_simp; try with_reducible rfl)
              refine wpAnyH_ready (rs := [10]) (by kernel_rfl) (by simp) (AllReadyH.cons rfl (fun K hK => ?_) AllReadyH.nil)
              go_simp
              have hba : Below V2.heap.size V2 (V2.alloc (.cells zSt 35)) := (Below.refl _ _).alloc (Nat.le_refl _) _
              refine hK.out _ _ (Lib.hid (And.intro (hS2.out.1.trans (Below.mono hba hS2.out.1.size)) (And.intro (hS2.out.2.1.bel hba) (hS2.out.2.2.bel hba)))) (fun _ => ?_)
              clear hK K
              refine wpAnyH_ready (rs := [11]) (by kernel_rfl) (by simp) (AllReadyH.cons rfl (fun K hK => ?_) AllReadyH.nil)
              refine step_store_part (by rfl) 35 (.tmp 8) (.tmp 41) (by rfl) V2.heap.size 0 (Blk.new V2 _ _) (St.cs q) (St.cs q) (by rfl) (by rfl) (Nat.le_refl 20) infoSta (stcs_one _) (st_over _ rfl) ?_
              intro Y hb1 hc1
              have hbs := bel_st' hc1
              have hS3 := Lib.hid (And.intro (hS2.out.1.trans (Below.mono hbs hS2.out.1.size)) (And.intro (hS2.out.2.1.bel hbs) (hS2.out.2.2.bel hbs)))
              refine hK.out _ _ hS3 (fun _ => ?_)
              clear hK K
              refine wpAnyH_take (i := 12) (v := ?_) rfl (by kernel_rfl) (by kernel_rfl) (by kernel_rfl) (fun _ _ _ h => h) (Or.inl ⟨by rfl, ?_⟩) hS3 ?_
              rotate_left
              · (intro w _; go_simp; try with_reducible rfl)
              refine wpAnyH_done (by kernel_rfl) ?_ _
              try go_simp
              try go_wp2_with fail
              go_meet
              exact ⟨_, q, f, rfl, rfl, Lib.hid hS3.out.1, Lib.hid hS3.out.2.1, Lib.hid (by obtain ⟨N, hls⟩ := HLS.out; exact ⟨hb1, N, hls.bel hbs⟩), HQ⟩
            · go_simp
              have hba : Below V.heap.size V (V.alloc (.cells zSt 35)) := (Below.refl _ _).alloc (Nat.le_refl _) _
              have hZN : Blk (V.alloc (.cells zSt 35)) V.heap.size 35 zSt := Blk.new _ _ _
              have hS2 := Lib.hid (And.intro (hS1.out.1.trans (Below.mono hba hS1.out.1.size)) (And.intro (hS1.out.2.1.bel hba) (hS1.out.2.2.bel hba)))
              refine hK.out _ _ hS2 (fun _ => ?_)
              clear hK K
              refine wpAnyH_genT fun X1 hX1 => ?_
              replace hX1 : X1 = V.alloc (.cells zSt 35) := hX1
              rw [← hX1] at hba hZN hS2
              clear hX1
              refine wpAnyH_ready (rs := [6]) (by kernel_rfl) (by simp) (AllReadyH.cons rfl (fun K hK => ?_) AllReadyH.nil)
              go_simp
              refine (HPL.out _ hS2.out.2.1.mem).mono ?_
              rintro e' V2 ⟨q, f, rfl, hb, hls, hq⟩
              have hS3 := Lib.hid (And.intro (hS2.out.1.trans (Below.mono hb hS2.out.1.size)) (And.intro (hS2.out.2.1.bel hb) (hS2.out.2.2.bel hb)))
              have HLS := Lib.hid hls
              have HQ := Lib.hid hq
              have HZN := Lib.hid (hZN.bel hb)
              have hkd := HZN.out.kdT
              have hbx : Below V.heap.size V V2 := hba.trans (hb.mono hba.size)
              clear hb hls hq hS2 hZN hba
              go_simp
              refine hK.out _ _ hS3 (fun _ => ?_)
              clear hK K
              refine wpAnyH_take (i := 7) (v := ?_) rfl (by kernel_rfl) (by kernel_rfl) (by kernel_rfl) (fun _ _ _ h => h) (Or.inl ⟨by rfl, ?_⟩) hS3 ?_
              rotate_left
              · (intro w _; go_simp; try with_reducible rfl)
              refine wpAnyH_take (i := 8) (v := ?_) rfl (by kernel_rfl) (by kernel_rfl) (by kernel_rfl) (fun _ _ _ h => h) (Or.inl ⟨by rfl, ?_⟩) hS3 ?_
              rotate_left
              · (intro w _; go_simp; try with_reducible rfl)
              refine wpAnyH_take (i := 9) (v := ?_) rfl (by kernel_rfl) (by kernel_rfl) (by kernel_rfl) (fun _ _ _ h => h) (Or.inl ⟨by rfl, ?_⟩) hS3 ?_
              rotate_left
              · (intro w _; go_simp; try with_reducible rfl)
              refine wpAnyH_ready (rs := [11]) (by kernel_rfl) (by simp) (AllReadyH.cons rfl (fun K hK => ?_) AllReadyH.nil)
              refine step_store_part (by rfl) 35 (.tmp 8) (.tmp 41) (by rfl) V.heap.size 0 HZN.out (St.cs q) (St.cs q) (by rfl) (by rfl) (Nat.le_refl 20) infoSta (stcs_one _) (st_over _ rfl) ?_
              intro Y hb1 hc1
              have hby : Below V.heap.size V Y := hbx.trans (hc1.below hbx.size (by simp))
              have hS4 := Lib.hid (And.intro (hS1.out.1.trans (Below.mono hby hS1.out.1.size)) (And.intro (hS1.out.2.1.bel hby) (hS1.out.2.2.bel hby)))
              refine hK.out _ _ hS4 (fun _ => ?_)
              clear hK K
              refine wpAnyH_take (i := 12) (v := ?_) rfl (by kernel_rfl) (by kernel_rfl) (by kernel_rfl) (fun _ _ _ h => h) (Or.inl ⟨by rfl, ?_⟩) hS4 ?_
              rotate_left
              · (intro w _; go_simp; try with_reducible rfl)
              refine wpAnyH_done (by kernel_rfl) ?_ _
              try go_simp
              try go_wp2_with fail
              go_meet
              exact ⟨_, q, f, rfl, rfl, Lib.hid hS4.out.1, Lib.hid hS4.out.2.1, Lib.hid (by obtain ⟨N, hls⟩ := HLS.out; exact ⟨hb1, N, hls.ch hc1 hkd⟩), HQ⟩
          · go_simp
            have hba : Below X.heap.size X (X.alloc (.cells zSt 35)) := (Below.refl _ _).alloc (Nat.le_refl _) _
            have hZN : Blk (X.alloc (.cells zSt 35)) X.heap.size 35 zSt := Blk.new _ _ _
            have hS1 := Lib.hid (And.intro (hS.out.1.trans (Below.mono hba hS.out.1.size)) (And.intro (hS.out.2.1.bel hba) (hS.out.2.2.bel hba)))
            refine hK.out _ _ hS1 (fun _ => ?_)
            clear hK K
            refine wpAnyH_genT fun X1 hX1 => ?_
            replace hX1 : X1 = X.alloc (.cells zSt 35) := hX1
            rw [← hX1] at hba hZN hS1
            clear hX1
            refine wpAnyH_ready (rs := [5]) (by kernel_rfl) (by simp) (AllReadyH.cons rfl (fun K hK => ?_) AllReadyH.nil)
            go_simp
            refine (cutop_any o _).mono ?_
            rintro e' V ⟨rfl, hb⟩
            have hS2 := Lib.hid (And.intro (hS1.out.1.trans (Below.mono hb hS1.out.1.size)) (And.intro (hS1.out.2.1.bel hb) (hS1.out.2.2.bel hb)))
            have hZ2 := hZN.bel hb
            have hb2 : Below X.heap.size X V := hba.trans (hb.mono hba.size)
            clear hb hS1 hZN hba
            go_simp
            refine hK.out _ _ hS2 (fun _ => ?_)
            clear hK K
            refine wpAnyH_ready (rs := [6]) (by kernel_rfl) (by simp) (AllReadyH.cons rfl (fun K hK => ?_) AllReadyH.nil)
            go_simp
            refine (HPL.out _ hS2.out.2.1.mem).mono ?_
            rintro e' V2 ⟨q, f, rfl, hb, hls, hq⟩
            have hS3 := Lib.hid (And.intro (hS2.out.1.trans (Below.mono hb hS2.out.1.size)) (And.intro (hS2.out.2.1.bel hb) (hS2.out.2.2.bel hb)))
            have HLS := Lib.hid hls
            have HQ := Lib.hid hq
            have HZN := Lib.hid (hZ2.bel hb)
            have hkd := HZN.out.kdT
            have hbx : Below X.heap.size X V2 := hb2.trans (hb.mono hb2.size)
            clear hb hls hq hS2 hZ2 hb2
            go_simp
            refine hK.out _ _ hS3 (fun _ => ?_)
            clear hK K
            refine wpAnyH_take (i := 7) (v := ?_) rfl (by kernel_rfl) (by kernel_rfl) (by kernel_rfl) (fun _ _ _ h => h) (Or.inl ⟨by rfl, ?_⟩) hS3 ?_
            rotate_left
            · (intro w _; go_simp; try with_reducible rfl)
            refine wpAnyH_take (i := 8) (v := ?_) rfl (by kernel_rfl) (by kernel_rfl) (by kernel_rfl) (fun _ _ _ h => h) (Or.inl ⟨by rfl, ?_⟩) hS3 ?_
            rotate_left
            · (intro w _; go_simp; try with_reducible rfl)
            refine wpAnyH_take (i := 9) (v := ?_) rfl (by kernel_rfl) (by kernel_rfl) (by kernel_rfl) (fun _ _ _ h => h) (Or.inl ⟨by rfl, ?_⟩) hS3 ?_
            rotate_left
            · (intro w _; go_simp; try with_reducible rfl)
            refine wpAnyH_ready (rs := [11]) (by kernel_rfl) (by simp) (AllReadyH.cons rfl (fun K hK => ?_) AllReadyH.nil)
            refine step_store_part (by rfl) 35 (.tmp 8) (.tmp 41) (by rfl) X.heap.size 0 HZN.out (St.cs q) (St.cs q) (by rfl) (by rfl) (Nat.le_refl 20) infoSta (stcs_one _) (st_over _ rfl) ?_
            intro Y hb1 hc1
            have hby : Below X.heap.size X Y := hbx.trans (hc1.below hbx.size (by simp))
            have hS4 := Lib.hid (And.intro (hS.out.1.trans (Below.mono hby hS.out.1.size)) (And.intro (hS.out.2.1.bel hby) (hS.out.2.2.bel hby)))
            refine hK.out _ _ hS4 (fun _ => ?_)
            clear hK K
            refine wpAnyH_take (i := 12) (v := ?_) rfl (by kernel_rfl) (by kernel_rfl) (by kernel_rfl) (fun _ _ _ h => h) (Or.inl ⟨by rfl, ?_⟩) hS4 ?_
            rotate_left
            · (intro w _; go_simp; try with_reducible rfl)
            refine wpAnyH_done (by kernel_rfl) ?_ _
            try go_simp
            try go_wp2_with fail
            go_meet
            exact ⟨_, q, f, rfl, rfl, Lib.hid hS4.out.1, Lib.hid hS4.out.2.1, Lib.hid (by obtain ⟨N, hls⟩ := HLS.out; exact ⟨hb1, N, hls.ch hc1 hkd⟩), HQ⟩
        case rest =>
          clear HB H5 HOP HPL
          obtain ⟨a8, q, f, rfl, rfl, HB, H5, H9, HPR⟩ := hcut
          by_cases hf : f = 0
          · subst hf
            obtain ⟨hE, A', c', B', d', hq⟩ := HPR.out rfl
            have HI2 : Hid (Inv q mt) := Lib.hid (by rw [hq]; exact (play_inv HI.out HFO.out hE).lists _ _ _ _)
            have HSH2 : Hid (ShI q mt) := Lib.hid (by rw [hq]; exact (play_sh HSH.out HFO.out hE).lists _ _ _ _)
            clear hE hq HPR HI HFO HSH
            go_wp2_with (first
              | (refine wpList_load_blk rfl 35 (.tmp 8) rfl a8 0 20 H9.out.blk q.cs (by rfl) (st_ext _) Tryz.underlying35 infoSta (st_le _) ?_)
              | (refine wpList_store_part rfl 35 (.tmp 5) (.tmp 45) rfl a5 0 (cs := s.cs) H5.out.blk q.cs q.cs (by rfl) (by rfl) (st_le _) infoSta (stcs_one _) (st_over _ rfl) ?_; intro W13 hb1 hc1; replace HB := Lib.hid (HB.out.trans (hc1.below HB.out.size (by intro x hx; simp at hx; rw [hx]; exact ha5))); have H5' : Hid (StB W13 a5 q) := (by obtain ⟨N, hls⟩ := H9.out.ls; exact Lib.hid ⟨hb1, N, hls.ch hc1 H5.out.blk.kdT⟩); clear hb1 hc1 H5))
            go_roundw
            case rel => exact ⟨k + 1, q, by omega, by omega, by go_num, HB, H5', HI2, HSH2⟩
            case measure => simp [intOf]; omega
          · have g1 : (f == 0) = false := beq_eq_false_iff_ne.2 hf
            clear hf HPR HFO
            go_wp2_with fail
            go_roundw
            case rel => exact ⟨k + 1, s, by omega, by omega, by go_num, HB, H5, HI, HSH⟩
            case measure => simp [intOf]; omega
      · have d1 : decide (k < l.length) = true := decide_eq_true hlt
        have d2 : decide ((k : Int) < 16) = false := decide_eq_false (by omega)
        clear hlt hlt2
        have hw3 := HI.out.wins
        go_upto_region 10 with fail
        have HTM := fun W => Lib.hid (terms_gen s.lock mt W HI.out.good.fit.tx HI.out.good.tok)
        have HWR := fun W h => Lib.hid (worth_sh HSH.out HI.out W h)
        have HWO := fun W => Lib.hid (sworth_any s W HI.out.good.fit)
        have HRG : ∀ W, s.mem W → Hid (Calls Tryz.prog 19 #[.agg (s.pf s.B s.d).cs] W fun e w' => e = .returned (.bool true) ∧ Below W.heap.size W w') := fun W h => Lib.hid (by have := right_any (s.pf s.B s.d) W (Nat.le_trans HI.out.wins (by decide)) h.wins; rwa [sh_right HSH.out HI.out.wins] at this)
        have HNE := Lib.hid (fun i m h1 h2 => sers_ne HSH.out (i := i) (k := m) h1 h2)
        generalize worthV s = wv at HWR HWO
        have gw : (wv == wv) = true := by simp
        refine wp_region_quiet_below (by kernel_rfl) (by kernel_rfl) ?_
        repeat (first | go_big_quiet_skip | (go_big_quiet_want; first | ((first
                    | (refine quiet_load_blk 28 (.tmp 54) rfl a5 0 11 H5.out.blk s.lock.cs (by rfl) (st_lock s) Tryz.underlying28 infoEnt (by show 11 ≤ 20; omega) ?_; go_simp)
                    | (refine quiet_load_blk 33 (.tmp 57) rfl a5 12 4 H5.out.blk (s.pf s.B s.d).cs (by rfl) (st_pfs s) Tryz.underlying33 infoPf (by show 16 ≤ 20; omega) ?_; go_simp)); go_big_quiet_on) | (go_big_quiet_op; first | go_big_quiet_on | go_big_quiet_call ((first
                  | (go_at_call 18; exact Calls.rg fun W _ => (HTM W).out)
                  | (go_at_call 17; exact Calls.rg fun W hW => (HWR W (H5.out.bel hW).mem).out))))))
        refine wpQuiet_nil ?_
        intro U hp
        have hb := bel_regrown hp
        clear hp
        (replace HB := Lib.hid (HB.out.trans (Below.mono hb HB.out.size)); (try (replace H5 := Lib.hid (H5.out.bel hb))); (try (replace HP := Lib.hid (HP.out.bel hb))); (try (replace H9 := Lib.hid (H9.out.bel hb))); (try (replace H11 := Lib.hid (H11.out.bel hb))); (try (replace HL := Lib.hid (HL.out.bel hb))))
        clear hb HTM HWR
        go_wp2_with fail
        go_loopw [12] (fun i wx => ∃ (n : Nat), n ≤ s.wins.length ∧ i = .int .i64 n ∧ Hid (Below w0.heap.size w0 wx) ∧ Hid (StB wx a5 s)) (fun i _ => s.wins.length - (intOf i).toNat)
        case atStart => exact ⟨0, Nat.zero_le _, rfl, HB, H5⟩
        case round =>
          clear HB H5
          obtain ⟨n, hnn, rfl, HB, H5⟩ := hrel
          obtain ⟨TB, hTB⟩ : ∃ TB, s.B = TB := ⟨_, rfl⟩
          have HTB := Lib.hid hTB
          clear hTB
          have c15 : wr.cell? ⟨a5, 15, none⟩ = some (.slice TB s.wins.length s.d) := by rw [← HTB.out]; exact H5.out.blk.cell 15
          by_cases hlt3 : n < s.wins.length
          · have d3 : decide (n < s.wins.length) = true := decide_eq_true hlt3
            go_wp2_with fail
            clear c15
            go_loopw [13] (fun i wx => ∃ (m : Nat), m ≤ n ∧ i = .int .i64 m ∧ Hid (Below w0.heap.size w0 wx) ∧ Hid (StB wx a5 s)) (fun i _ => n - (intOf i).toNat)
            case atStart => exact ⟨0, Nat.zero_le _, rfl, HB, H5⟩
            case round =>
              clear HB H5
              obtain ⟨m, hmm, rfl, HB, H5⟩ := hrel
              by_cases hlt4 : m < n
              · have d4 : decide (m < n) = true := decide_eq_true hlt4
                have hml : m < s.wins.length := by omega
                have q15 := cell_rg (show wr.cell? ⟨a5, 15, none⟩ = some (.slice TB s.wins.length s.d) from by rw [← HTB.out]; exact H5.out.blk.cell 15)
                have HSL : Hid (Sl wr wr.heap.size 10 Wn.cl TB s.wins) := Lib.hid (by rw [← HTB.out]; exact H5.out.mem.wins)
                clear HTB
                obtain ⟨tb, toff, rfl, hbB, hc1⟩ := HSL.out.at_ hlt3
                obtain ⟨tb2, toff2, h2, _, hc2⟩ := HSL.out.at_ hml
                cases h2
                have gs := HNE.out n m hlt3 hlt4
                have qn := cell_rg (show wr.cell? ⟨tb, toff + n * 10 + 1, none⟩ = some (.int .u64 (s.wins[n].t.ser : Nat)) from hc1 1 _ rfl)
                have qm := cell_rg (show wr.cell? ⟨tb, toff + m * 10 + 1, none⟩ = some (.int .u64 (s.wins[m].t.ser : Nat)) from hc2 1 _ rfl)
                clear hc1 hc2
                generalize s.wins[n].t.ser = x1 at gs qn
                generalize s.wins[m].t.ser = x2 at gs qm
                go_upto_region 17 with fail
                refine wp_region_quiet_below (by kernel_rfl) (by kernel_rfl) ?_
                repeat (first | go_big_quiet_skip | (go_big_quiet_want; first | (fail; go_big_quiet_on) | (go_big_quiet_op; first | go_big_quiet_on | go_big_quiet_call (fail))))
                refine wpQuiet_nil ?_
                intro U1 hp
                have hb := bel_regrown hp
                clear hp
                (replace HB := Lib.hid (HB.out.trans (Below.mono hb HB.out.size)); (try (replace H5 := Lib.hid (H5.out.bel hb))); (try (replace HP := Lib.hid (HP.out.bel hb))); (try (replace H9 := Lib.hid (H9.out.bel hb))); (try (replace H11 := Lib.hid (H11.out.bel hb))); (try (replace HL := Lib.hid (HL.out.bel hb))))
                clear hb
                go_wp2_with fail
                go_roundw
                case rel => exact ⟨m + 1, by omega, by go_num, HB, H5⟩
                case measure => simp [intOf]; omega
              · have d4 : decide (m < n) = false := decide_eq_false hlt4
                go_wp2_with fail
                go_roundw
                case rel => exact ⟨n + 1, by omega, by go_num, HB, H5⟩
                case measure => simp [intOf]; omega
          · have d3 : decide (n < s.wins.length) = false := decide_eq_false hlt3
            go_wp2_with (refine wpList_load_blkG (by rfl) 35 (.tmp 5) rfl a5 0 20 H5.out.blk s.cs (by rfl) (st_ext _) Tryz.underlying35 infoSta (st_le _) ?_)
            refine (HWO _).out.mono ?_
            rintro e' V3 ⟨rfl, hb⟩
            (replace HB := Lib.hid (HB.out.trans (Below.mono hb HB.out.size)); (try (replace H5 := Lib.hid (H5.out.bel hb))); (try (replace HP := Lib.hid (HP.out.bel hb))); (try (replace H9 := Lib.hid (H9.out.bel hb))); (try (replace H11 := Lib.hid (H11.out.bel hb))); (try (replace HL := Lib.hid (HL.out.bel hb))))
            clear hb c15
            go_wp2_with (refine wpList_load_blkG (by rfl) 33 (.tmp 101) rfl a5 12 4 H5.out.blk (s.pf s.B s.d).cs (by rfl) (st_pfs s) Tryz.underlying33 infoPf (by show 16 ≤ 20; omega) ?_)
            refine (HRG _ H5.out.mem).out.mono ?_
            rintro e' V4 ⟨rfl, hb⟩
            (replace HB := Lib.hid (HB.out.trans (Below.mono hb HB.out.size)); (try (replace H5 := Lib.hid (H5.out.bel hb))); (try (replace HP := Lib.hid (HP.out.bel hb))); (try (replace H9 := Lib.hid (H9.out.bel hb))); (try (replace H11 := Lib.hid (H11.out.bel hb))); (try (replace HL := Lib.hid (HL.out.bel hb))))
            clear hb
            go_wp2_with fail
            refine (fixed17_any _).mono ?_
            rintro e' V5 ⟨rfl, hb⟩
            replace HB := Lib.hid (HB.out.trans (Below.mono hb HB.out.size))
            clear hb
            go_wp2_with fail
            go_ret
            exact ⟨rfl, HB.out⟩
    · have d1 : decide (k < l.length) = false := decide_eq_false hlt
      clear hlt
      have hw3 := HI.out.wins
      go_upto_region 10 with fail
      have HTM := fun W => Lib.hid (terms_gen s.lock mt W HI.out.good.fit.tx HI.out.good.tok)
      have HWR := fun W h => Lib.hid (worth_sh HSH.out HI.out W h)
      have HWO := fun W => Lib.hid (sworth_any s W HI.out.good.fit)
      have HRG : ∀ W, s.mem W → Hid (Calls Tryz.prog 19 #[.agg (s.pf s.B s.d).cs] W fun e w' => e = .returned (.bool true) ∧ Below W.heap.size W w') := fun W h => Lib.hid (by have := right_any (s.pf s.B s.d) W (Nat.le_trans HI.out.wins (by decide)) h.wins; rwa [sh_right HSH.out HI.out.wins] at this)
      have HNE := Lib.hid (fun i m h1 h2 => sers_ne HSH.out (i := i) (k := m) h1 h2)
      generalize worthV s = wv at HWR HWO
      have gw : (wv == wv) = true := by simp
      refine wp_region_quiet_below (by kernel_rfl) (by kernel_rfl) ?_
      repeat (first | go_big_quiet_skip | (go_big_quiet_want; first | ((first
                | (refine quiet_load_blk 28 (.tmp 54) rfl a5 0 11 H5.out.blk s.lock.cs (by rfl) (st_lock s) Tryz.underlying28 infoEnt (by show 11 ≤ 20; omega) ?_; go_simp)
                | (refine quiet_load_blk 33 (.tmp 57) rfl a5 12 4 H5.out.blk (s.pf s.B s.d).cs (by rfl) (st_pfs s) Tryz.underlying33 infoPf (by show 16 ≤ 20; omega) ?_; go_simp)); go_big_quiet_on) | (go_big_quiet_op; first | go_big_quiet_on | go_big_quiet_call ((first
              | (go_at_call 18; exact Calls.rg fun W _ => (HTM W).out)
              | (go_at_call 17; exact Calls.rg fun W hW => (HWR W (H5.out.bel hW).mem).out))))))
      refine wpQuiet_nil ?_
      intro U hp
      have hb := bel_regrown hp
      clear hp
      (replace HB := Lib.hid (HB.out.trans (Below.mono hb HB.out.size)); (try (replace H5 := Lib.hid (H5.out.bel hb))); (try (replace HP := Lib.hid (HP.out.bel hb))); (try (replace H9 := Lib.hid (H9.out.bel hb))); (try (replace H11 := Lib.hid (H11.out.bel hb))); (try (replace HL := Lib.hid (HL.out.bel hb))))
      clear hb HTM HWR
      go_wp2_with fail
      go_loopw [12] (fun i wx => ∃ (n : Nat), n ≤ s.wins.length ∧ i = .int .i64 n ∧ Hid (Below w0.heap.size w0 wx) ∧ Hid (StB wx a5 s)) (fun i _ => s.wins.length - (intOf i).toNat)
      case atStart => exact ⟨0, Nat.zero_le _, rfl, HB, H5⟩
      case round =>
        clear HB H5
        obtain ⟨n, hnn, rfl, HB, H5⟩ := hrel
        obtain ⟨TB, hTB⟩ : ∃ TB, s.B = TB := ⟨_, rfl⟩
        have HTB := Lib.hid hTB
        clear hTB
        have c15 : wr.cell? ⟨a5, 15, none⟩ = some (.slice TB s.wins.length s.d) := by rw [← HTB.out]; exact H5.out.blk.cell 15
        by_cases hlt3 : n < s.wins.length
        · have d3 : decide (n < s.wins.length) = true := decide_eq_true hlt3
          go_wp2_with fail
          clear c15
          go_loopw [13] (fun i wx => ∃ (m : Nat), m ≤ n ∧ i = .int .i64 m ∧ Hid (Below w0.heap.size w0 wx) ∧ Hid (StB wx a5 s)) (fun i _ => n - (intOf i).toNat)
          case atStart => exact ⟨0, Nat.zero_le _, rfl, HB, H5⟩
          case round =>
            clear HB H5
            obtain ⟨m, hmm, rfl, HB, H5⟩ := hrel
            by_cases hlt4 : m < n
            · have d4 : decide (m < n) = true := decide_eq_true hlt4
              have hml : m < s.wins.length := by omega
              have q15 := cell_rg (show wr.cell? ⟨a5, 15, none⟩ = some (.slice TB s.wins.length s.d) from by rw [← HTB.out]; exact H5.out.blk.cell 15)
              have HSL : Hid (Sl wr wr.heap.size 10 Wn.cl TB s.wins) := Lib.hid (by rw [← HTB.out]; exact H5.out.mem.wins)
              clear HTB
              obtain ⟨tb, toff, rfl, hbB, hc1⟩ := HSL.out.at_ hlt3
              obtain ⟨tb2, toff2, h2, _, hc2⟩ := HSL.out.at_ hml
              cases h2
              have gs := HNE.out n m hlt3 hlt4
              have qn := cell_rg (show wr.cell? ⟨tb, toff + n * 10 + 1, none⟩ = some (.int .u64 (s.wins[n].t.ser : Nat)) from hc1 1 _ rfl)
              have qm := cell_rg (show wr.cell? ⟨tb, toff + m * 10 + 1, none⟩ = some (.int .u64 (s.wins[m].t.ser : Nat)) from hc2 1 _ rfl)
              clear hc1 hc2
              generalize s.wins[n].t.ser = x1 at gs qn
              generalize s.wins[m].t.ser = x2 at gs qm
              go_upto_region 17 with fail
              refine wp_region_quiet_below (by kernel_rfl) (by kernel_rfl) ?_
              repeat (first | go_big_quiet_skip | (go_big_quiet_want; first | (fail; go_big_quiet_on) | (go_big_quiet_op; first | go_big_quiet_on | go_big_quiet_call (fail))))
              refine wpQuiet_nil ?_
              intro U1 hp
              have hb := bel_regrown hp
              clear hp
              (replace HB := Lib.hid (HB.out.trans (Below.mono hb HB.out.size)); (try (replace H5 := Lib.hid (H5.out.bel hb))); (try (replace HP := Lib.hid (HP.out.bel hb))); (try (replace H9 := Lib.hid (H9.out.bel hb))); (try (replace H11 := Lib.hid (H11.out.bel hb))); (try (replace HL := Lib.hid (HL.out.bel hb))))
              clear hb
              go_wp2_with fail
              go_roundw
              case rel => exact ⟨m + 1, by omega, by go_num, HB, H5⟩
              case measure => simp [intOf]; omega
            · have d4 : decide (m < n) = false := decide_eq_false hlt4
              go_wp2_with fail
              go_roundw
              case rel => exact ⟨n + 1, by omega, by go_num, HB, H5⟩
              case measure => simp [intOf]; omega
        · have d3 : decide (n < s.wins.length) = false := decide_eq_false hlt3
          go_wp2_with (refine wpList_load_blkG (by rfl) 35 (.tmp 5) rfl a5 0 20 H5.out.blk s.cs (by rfl) (st_ext _) Tryz.underlying35 infoSta (st_le _) ?_)
          refine (HWO _).out.mono ?_
          rintro e' V3 ⟨rfl, hb⟩
          (replace HB := Lib.hid (HB.out.trans (Below.mono hb HB.out.size)); (try (replace H5 := Lib.hid (H5.out.bel hb))); (try (replace HP := Lib.hid (HP.out.bel hb))); (try (replace H9 := Lib.hid (H9.out.bel hb))); (try (replace H11 := Lib.hid (H11.out.bel hb))); (try (replace HL := Lib.hid (HL.out.bel hb))))
          clear hb c15
          go_wp2_with (refine wpList_load_blkG (by rfl) 33 (.tmp 101) rfl a5 12 4 H5.out.blk (s.pf s.B s.d).cs (by rfl) (st_pfs s) Tryz.underlying33 infoPf (by show 16 ≤ 20; omega) ?_)
          refine (HRG _ H5.out.mem).out.mono ?_
          rintro e' V4 ⟨rfl, hb⟩
          (replace HB := Lib.hid (HB.out.trans (Below.mono hb HB.out.size)); (try (replace H5 := Lib.hid (H5.out.bel hb))); (try (replace HP := Lib.hid (HP.out.bel hb))); (try (replace H9 := Lib.hid (H9.out.bel hb))); (try (replace H11 := Lib.hid (H11.out.bel hb))); (try (replace HL := Lib.hid (HL.out.bel hb))))
          clear hb
          go_wp2_with fail
          refine (fixed17_any _).mono ?_
          rintro e' V5 ⟨rfl, hb⟩
          replace HB := Lib.hid (HB.out.trans (Below.mono hb HB.out.size))
          clear hb
          go_wp2_with fail
          go_ret
          exact ⟨rfl, HB.out⟩
end Go.Proofs.YtpbcfeghfcodcaaGreat
