/- ChannelRefuses: the walk. -/
import Derived.Test.YtpbcfeghfcodcaaGreatMgCcA
set_option linter.unusedVariables false
set_option linter.unusedSimpArgs false
namespace Go.Proofs.YtpbcfeghfcodcaaGreat
open Go.RowKit Go.Maps
theorem sameP_self (e : En) : sameP e e = true := by simp [sameP]
/-- a call that was done, once more: as too little, or twice -/
theorem again_low {s : St} {mt : Nat} {o : Op17} (hE : playE s mt o = 0) (hk : o.kind = 0 ∨ o.kind = 1) (A : Option Addr) (c : Nat) (B : Option Addr) (d : Nat) : playE ((playS s mt o).lists A c B d) mt o = 11 := by
  unfold playE playS at *
  rcases hk with hk | hk
  · rw [if_pos hk] at hE ⊢
    rw [if_pos hk]
    unfold vouE at hE ⊢
    by_cases hc : s.closed = true
    · rw [if_pos hc] at hE; exact absurd hE (by decide)
    · have h1 : ¬ ((s.vouch o.am o.s).lists A c B d).closed = true := hc
      rw [if_neg h1]
      exact if_pos (Nat.le_refl _)
  · have h0 : ¬ o.kind = 0 := by omega
    rw [if_neg h0, if_pos hk] at hE ⊢
    rw [if_neg h0, if_pos hk]
    unfold tokE at hE ⊢
    by_cases hc : s.closed = true
    · rw [if_pos hc] at hE; exact absurd hE (by decide)
    · rw [if_neg hc] at hE
      by_cases hn : cntE s.lock.o.anchor o.s mt ≠ 0
      · rw [if_pos hn] at hE; exact absurd hE hn
      · have h1 : ¬ ((s.token o.s (cntN s.lock.o.anchor o.s mt)).lists A c B d).closed = true := hc
        rw [if_neg h1]
        have h2 : ¬ cntE ((s.token o.s (cntN s.lock.o.anchor o.s mt)).lists A c B d).lock.o.anchor o.s mt ≠ 0 := hn
        rw [if_neg h2]
        exact if_pos (Nat.le_refl _)
theorem again_twice {s : St} {mt : Nat} {o : Op17} (hE : playE s mt o = 0) (hk : o.kind = 3) (A : Option Addr) (c : Nat) (B : Option Addr) (d : Nat) : playE ((playS s mt o).lists A c B d) mt o = 7 := by
  unfold playE playS at *
  have h0 : ¬ o.kind = 0 := by omega
  have h1 : ¬ o.kind = 1 := by omega
  have h2 : ¬ o.kind = 2 := by omega
  rw [if_neg h0, if_neg h1, if_neg h2, if_pos hk] at hE ⊢
  rw [if_neg h0, if_neg h1, if_neg h2, if_pos hk]
  unfold moreE at hE ⊢
  by_cases hc : s.closed = true
  · rw [if_pos hc] at hE; exact absurd hE (by decide)
  · rw [if_neg hc] at hE
    have h1 : ¬ ((s.addtop o.e).lists A c B d).closed = true := hc
    rw [if_neg h1]
    by_cases hm : mustB s o.e (fitsB o.e.o) = false
    · rw [if_pos hm] at hE; exact absurd hE (by decide)
    · have h3 : ¬ mustB ((s.addtop o.e).lists A c B d) o.e (fitsB o.e.o) = false := hm
      rw [if_neg h3]
      have h4 : ((s.addtop o.e).lists A c B d).tops.any (fun y => sameP y o.e) = true := by
        show (s.tops ++ [o.e]).any (fun y => sameP y o.e) = true
        rw [List.any_append]
        simp [sameP_self]
      rw [h4, Bool.or_true]
      rfl
theorem play_yes (s : St) (mt : Nat) (o : Op17) (w : World) (hg : s.good mt) (hS : s.mem w) (ho : o.fit) (hE : playE s mt o = 0) :
    Calls Tryz.prog 12 #[.agg s.cs, .agg o.cs] w fun e w' => ∃ A c B d, e = .returned (.tuple #[.agg ((playS s mt o).lists A c B d).cs, .int .i64 0]) ∧ LsAt (playS s mt o) w.heap.size w' A c B d ∧ Below w.heap.size w w' :=
  (play_any s mt o w hg hS ho).mono fun e w' ⟨hb, h⟩ => by
    rcases h with ⟨h0, _⟩ | ⟨_, A, c, B, d, he, hl⟩
    · exact absurd hE h0
    · exact ⟨A, c, B, d, he, hl, hb⟩
theorem play_st17 (s : St) (mt : Nat) (o : Op17) (w : World) (hg : s.good mt) (hS : s.mem w) (ho : o.fit) :
    Calls Tryz.prog 12 #[.agg s.cs, .agg o.cs] w fun e w' => ∃ q : St, e = .returned (.tuple #[.agg q.cs, .int .i64 (playE s mt o)]) ∧ Below w.heap.size w w' :=
  (play_any s mt o w hg hS ho).mono fun e w' ⟨hb, h⟩ => by
    rcases h with ⟨_, he⟩ | ⟨h0, A, c, B, d, he, _⟩
    · exact ⟨zS, by rw [zStS]; exact he, hb⟩
    · exact ⟨_, by rw [h0]; exact he, hb⟩
set_option maxRecDepth 100000 in
set_option maxHeartbeats 4000000 in
theorem refuses_no (e : En) (A : Option Addr) (l : List Op17) (c : Nat) (w0 : World) (hb : newB (beginX e) (fitsB (beginX e).o) = false) :
    Calls Tryz.prog 4 #[.agg e.cs, .slice A l.length c] w0 fun e' w' => e' = .returned (.bool true) ∧ Below w0.heap.size w0 w' := by
  have HX := Lib.hid (Blk.new w0 28 e.cs)
  have HBG := fun W => Lib.hid (begin_no e hb W)
  clear hb
  go_enter Tryz.func4, Tryz.ntmps4
  go_wp2_with (refine wpList_load_blk rfl 28 (.tmp 2) rfl w0.heap.size 0 11 HX.out e.cs (by rfl) (en_ext e) Tryz.underlying28 infoEnt (Nat.le_refl 11) ?_)
  refine (HBG _).out.mono ?_
  rintro e' V1 ⟨rfl, hb⟩
  have HB : Hid (Below w0.heap.size w0 V1) := Lib.hid (((Below.refl _ _).alloc (Nat.le_refl _) _).trans (hb.mono (by simp)))
  clear hb HBG HX
  go_wp2_with (refine wpList_store_part rfl 35 (.tmp 5) (.tmp 18) rfl V1.heap.size 0 (cs := zSt) (Blk.new _ _ _) zSt zSt (by rfl) (by rfl) (Nat.le_refl 20) infoSta zStO (zStV rfl) ?_; intro W1 hb1 hc1; have hb := bel_st' hc1; replace HB := Lib.hid (HB.out.trans (Below.mono hb HB.out.size)); clear hb1 hc1 hb)
  go_loopw [7] (fun i wr => i = .int .i64 0 ∧ Hid (Below w0.heap.size w0 wr)) (fun _ _ => 0)
  case atStart => exact ⟨rfl, HB⟩
  case round =>
    clear HB
    obtain ⟨rfl, HB⟩ := hrel
    go_wp2_with fail
    refine (fixed17_any _).mono ?_
    rintro e' V3 ⟨rfl, hb⟩
    replace HB := Lib.hid (HB.out.trans (Below.mono hb HB.out.size))
    clear hb
    go_wp2_with fail
    go_ret
    exact ⟨rfl, HB.out⟩
set_option maxRecDepth 100000 in
set_option maxHeartbeats 8000000 in
theorem refuses_ok (e : En) (A : Option Addr) (l : List Op17) (c : Nat) (w0 : World) (he : e.fz) (hl : ∀ x ∈ l, x.fz) (hn : l.length ≤ maxLen) (hs : Sl w0 w0.heap.size 25 Op17.cl A l) (hb : newB (beginX e) (fitsB (beginX e).o) = true) :
    Calls Tryz.prog 4 #[.agg e.cs, .slice A l.length c] w0 fun e' w' => e' = .returned (.bool true) ∧ Below w0.heap.size w0 w' := by
  have HX := Lib.hid (Blk.new w0 28 e.cs)
  have HBG := fun W => Lib.hid (begin_ok e hb W)
  obtain ⟨mt, hinv⟩ := new_inv he hb
  have HS := Lib.hid hs
  have HXL := Lib.hid hl
  obtain ⟨s, hsd⟩ : ∃ s, s = newS (beginX e) := ⟨_, rfl⟩
  have hsl : ∀ N W, LsAt s N W s.A s.c s.B s.d := fun N W => by rw [hsd]; exact newS_ls _ _ _
  rw [← hsd] at hinv
  have HBG' : ∀ W, Hid (Calls Tryz.prog 7 #[.agg e.cs] W fun e' w' => e' = .returned (.tuple #[.agg s.cs, .int .i64 0]) ∧ Below W.heap.size W w') := fun W => Lib.hid (by rw [hsd]; exact (HBG W).out)
  have HI := Lib.hid hinv
  have HLS := Lib.hid hsl
  unfold maxLen at hn
  clear hb HBG hs hl hinv hsd hsl he
  go_enter Tryz.func4, Tryz.ntmps4
  go_wp2_with (refine wpList_load_blk rfl 28 (.tmp 2) rfl w0.heap.size 0 11 HX.out e.cs (by rfl) (en_ext e) Tryz.underlying28 infoEnt (Nat.le_refl 11) ?_)
  refine (HBG' _).out.mono ?_
  rintro e' V1 ⟨rfl, hb⟩
  have HB : Hid (Below w0.heap.size w0 V1) := Lib.hid (((Below.refl _ _).alloc (Nat.le_refl _) _).trans (hb.mono (by simp)))
  clear hb HBG' HX
  have ha5 := HB.out.size
  go_wp2_with (refine wpList_store_part rfl 35 (.tmp 5) (.tmp 18) rfl V1.heap.size 0 (cs := zSt) (Blk.new _ _ _) s.cs s.cs (by rfl) (by rfl) (Nat.le_refl 20) infoSta (stcs_one _) (st_over _ rfl) ?_; intro W1 hb1 hc1; have hb := bel_st' hc1; replace HB := Lib.hid (HB.out.trans (Below.mono hb HB.out.size)); have H5 : Hid (StB W1 V1.heap.size s) := Lib.hid ⟨hb1, 0, HLS.out _ _⟩; clear hb1 hc1 hb)
  clear HLS
  generalize V1.heap.size = a5 at H5 ha5 ⊢
  go_loopw [7] (fun i wr => ∃ (k : Nat) (s' : St), k ≤ l.length ∧ k ≤ 16 ∧ i = .int .i64 k ∧ Hid (Below w0.heap.size w0 wr) ∧ Hid (StB wr a5 s') ∧ Hid (Inv s' mt)) (fun i _ => 16 - (intOf i).toNat)
  case atStart => exact ⟨0, s, Nat.zero_le _, Nat.zero_le _, rfl, HB, H5, HI⟩
  case round =>
    clear HB H5 HI
    obtain ⟨k, s, hk, hk2, rfl, HB, H5, HI⟩ := hrel
    have hzr := HB.out.size
    by_cases hlt : k < l.length
    · by_cases hlt2 : k < 16
      · have d1 : decide (k < l.length) = true := decide_eq_true hlt
        have d2 : decide ((k : Int) < 16) = true := decide_eq_true (by omega)
        obtain ⟨ab, off, rfl, hbB, hc⟩ := (HS.out.below HB.out).at_ hlt
        have hfo := cutOp_fit (HXL.out _ (List.getElem_mem hlt))
        generalize l[k] = o at hc hfo
        have HCC := Lib.hid hc
        have HFO := Lib.hid hfo
        clear hc hfo
        go_wp2_with (refine wpList_load_op rfl (.tmp 36) rfl ab (off + k * 25) (by rfl) o HCC.out ?_)
        refine (cutop_any o _).mono ?_
        rintro e' V8 ⟨rfl, hb⟩
        (replace HB := Lib.hid (HB.out.trans (Below.mono hb HB.out.size)); (try (replace H5 := Lib.hid (H5.out.bel hb))); (try (replace HP := Lib.hid (HP.out.bel hb))); (try (replace H9 := Lib.hid (H9.out.bel hb))); (try (replace H11 := Lib.hid (H11.out.bel hb))); (try (replace HL := Lib.hid (HL.out.bel hb))))
        clear hb HCC
        generalize cutOp o = p at HFO ⊢
        go_wp2_with (first
          | (refine wpList_store_part rfl 47 (.tmp 8) (.tmp 38) rfl V8.heap.size 0 (cs := zOp.cs) (Blk.new _ _ _) (Op17.cs p) (Op17.cs p) (by rfl) (by rfl) (op_le zOp) infoOp17 (opcs_one _) (op_over _ rfl) ?_; intro W8 hb1 hc1; have hb := bel_st' hc1; (replace HB := Lib.hid (HB.out.trans (Below.mono hb HB.out.size)); (try (replace H5 := Lib.hid (H5.out.bel hb))); (try (replace HP := Lib.hid (HP.out.bel hb))); (try (replace H9 := Lib.hid (H9.out.bel hb))); (try (replace H11 := Lib.hid (H11.out.bel hb))); (try (replace HL := Lib.hid (HL.out.bel hb)))); have HP := Lib.hid hb1; clear hb1 hc1 hb)
          | (refine wpList_load_blk rfl 35 (.tmp 5) rfl a5 0 20 H5.out.blk s.cs (by rfl) (st_ext _) Tryz.underlying35 infoSta (st_le _) ?_)
          | (refine wpList_load_blk rfl 47 (.tmp 8) rfl V8.heap.size 0 25 HP.out p.cs (by rfl) (op_ext p) Tryz.underlying47 infoOp17 (op_le p) ?_))
        generalize V8.heap.size = a8 at HP ⊢
        by_cases hE : playE s mt p = 0
        · have HE := Lib.hid hE
          clear hE
          refine (play_yes s mt p _ HI.out.good H5.out.mem HFO.out HE.out).mono ?_
          rintro e' V9 ⟨A9, c9, B9, d9, rfl, hls, hb⟩
          (replace HB := Lib.hid (HB.out.trans (Below.mono hb HB.out.size)); (try (replace H5 := Lib.hid (H5.out.bel hb))); (try (replace HP := Lib.hid (HP.out.bel hb))); (try (replace H9 := Lib.hid (H9.out.bel hb))); (try (replace H11 := Lib.hid (H11.out.bel hb))); (try (replace HL := Lib.hid (HL.out.bel hb))))
          have HL := Lib.hid hls
          clear hb hls
          have HI2 := Lib.hid ((play_inv HI.out HFO.out HE.out).lists A9 c9 B9 d9)
          have HZL : Hid ((p.kind = 0 ∨ p.kind = 1) → playE ((playS s mt p).lists A9 c9 B9 d9) mt p = 11) := Lib.hid fun h => again_low HE.out h _ _ _ _
          have HZT : Hid (p.kind = 3 → playE ((playS s mt p).lists A9 c9 B9 d9) mt p = 7) := Lib.hid fun h => again_twice HE.out h _ _ _ _
          have HSM : ∀ A c B d W, (((playS s mt p).lists A9 c9 B9 d9)).mem W → ((playS s mt p).lists A c B d).mem W → Hid (Calls Tryz.prog 8 #[.agg ((playS s mt p).lists A9 c9 B9 d9).cs, .agg ((playS s mt p).lists A c B d).cs] W fun e w' => e = .returned (.bool true) ∧ Below W.heap.size W w') :=
            fun A c B d W h1 h2 => Lib.hid (xsame_any (playS s mt p) A9 c9 B9 d9 A c B d W h1 h2 (by have : (playS s mt p).tops.length ≤ 3 := HI2.out.tops; omega) (by have : (playS s mt p).wins.length ≤ 3 := HI2.out.wins; omega))
          go_wp2_with (first
            | (refine wpList_store_part rfl 35 (.tmp 9) (.tmp 43) rfl V9.heap.size 0 (cs := zSt) (Blk.new _ _ _) ((playS s mt p).lists A9 c9 B9 d9).cs ((playS s mt p).lists A9 c9 B9 d9).cs (by rfl) (by rfl) (Nat.le_refl 20) infoSta (stcs_one _) (st_over _ rfl) ?_; intro W9 hb1 hc1; have hb := bel_st' hc1; (replace HB := Lib.hid (HB.out.trans (Below.mono hb HB.out.size)); (try (replace H5 := Lib.hid (H5.out.bel hb))); (try (replace HP := Lib.hid (HP.out.bel hb))); (try (replace H9 := Lib.hid (H9.out.bel hb))); (try (replace H11 := Lib.hid (H11.out.bel hb))); (try (replace HL := Lib.hid (HL.out.bel hb)))); have H9 : Hid (StB W9 V9.heap.size ((playS s mt p).lists A9 c9 B9 d9)) := Lib.hid (StB.mk_ hb1 HL.out); clear hb1 hc1 hb)
            | (refine wpList_load_blk rfl 35 (.tmp 5) rfl a5 0 20 H5.out.blk s.cs (by rfl) (st_ext _) Tryz.underlying35 infoSta (st_le _) ?_)
            | (refine wpList_load_blk rfl 47 (.tmp 8) rfl a8 0 25 HP.out p.cs (by rfl) (op_ext p) Tryz.underlying47 infoOp17 (op_le p) ?_))
          clear HL
          generalize V9.heap.size = a9 at H9 ⊢
          refine (play_yes s mt p _ HI.out.good H5.out.mem HFO.out HE.out).mono ?_
          rintro e' V10 ⟨A10, c10, B10, d10, rfl, hls, hb⟩
          (replace HB := Lib.hid (HB.out.trans (Below.mono hb HB.out.size)); (try (replace H5 := Lib.hid (H5.out.bel hb))); (try (replace HP := Lib.hid (HP.out.bel hb))); (try (replace H9 := Lib.hid (H9.out.bel hb))); (try (replace H11 := Lib.hid (H11.out.bel hb))); (try (replace HL := Lib.hid (HL.out.bel hb))))
          have HL := Lib.hid hls
          clear hb hls HE
          have HSM' := fun W h1 h2 => (HSM A10 c10 B10 d10 W h1 h2)
          clear HSM
          obtain ⟨q, hq⟩ : ∃ q, q = (playS s mt p).lists A9 c9 B9 d9 := ⟨_, rfl⟩
          rw [← hq] at H9 HI2 HZL HZT
          simp only [← hq] at HSM'
          clear hq
          generalize playS s mt p = s2 at HSM' HL ⊢
          go_wp2_with (first
            | (refine wpList_store_part rfl 35 (.tmp 11) (.tmp 49) rfl V10.heap.size 0 (cs := zSt) (Blk.new _ _ _) (s2.lists A10 c10 B10 d10).cs (s2.lists A10 c10 B10 d10).cs (by rfl) (by rfl) (Nat.le_refl 20) infoSta (stcs_one _) (st_over _ rfl) ?_; intro W10 hb1 hc1; have hb := bel_st' hc1; (replace HB := Lib.hid (HB.out.trans (Below.mono hb HB.out.size)); (try (replace H5 := Lib.hid (H5.out.bel hb))); (try (replace HP := Lib.hid (HP.out.bel hb))); (try (replace H9 := Lib.hid (H9.out.bel hb))); (try (replace H11 := Lib.hid (H11.out.bel hb))); (try (replace HL := Lib.hid (HL.out.bel hb)))); have H11 : Hid (StB W10 V10.heap.size (s2.lists A10 c10 B10 d10)) := Lib.hid (StB.mk_ hb1 HL.out); clear hb1 hc1 hb)
            | (refine wpList_load_blkG (by rfl) 35 (.tmp 9) rfl a9 0 20 H9.out.blk q.cs (by rfl) (st_ext _) Tryz.underlying35 infoSta (st_le _) ?_)
            | (refine wpList_load_blkG (by rfl) 35 (.tmp 11) rfl V10.heap.size 0 20 H11.out.blk (s2.lists A10 c10 B10 d10).cs (by rfl) (st_ext _) Tryz.underlying35 infoSta (st_le _) ?_))
          refine (HSM' _ H9.out.mem H11.out.mem).out.mono ?_
          rintro e' V11 ⟨rfl, hb⟩
          clear H11 HL HSM'
          (replace HB := Lib.hid (HB.out.trans (Below.mono hb HB.out.size)); (try (replace H5 := Lib.hid (H5.out.bel hb))); (try (replace HP := Lib.hid (HP.out.bel hb))); (try (replace H9 := Lib.hid (H9.out.bel hb))); (try (replace H11 := Lib.hid (H11.out.bel hb))); (try (replace HL := Lib.hid (HL.out.bel hb))))
          clear hb
          go_wp2_with (first
            | (refine wpList_load_blk rfl 35 (.tmp 9) rfl a9 0 20 H9.out.blk q.cs (by rfl) (st_ext _) Tryz.underlying35 infoSta (st_le _) ?_)
            | (refine wpList_load_blk rfl 47 (.tmp 8) rfl a8 0 25 HP.out p.cs (by rfl) (op_ext p) Tryz.underlying47 infoOp17 (op_le p) ?_))
          refine (play_st17 q mt p _ HI2.out.good H9.out.mem HFO.out).mono ?_
          rintro e' V12 ⟨q3, rfl, hb⟩
          (replace HB := Lib.hid (HB.out.trans (Below.mono hb HB.out.size)); (try (replace H5 := Lib.hid (H5.out.bel hb))); (try (replace HP := Lib.hid (HP.out.bel hb))); (try (replace H9 := Lib.hid (H9.out.bel hb))); (try (replace H11 := Lib.hid (H11.out.bel hb))); (try (replace HL := Lib.hid (HL.out.bel hb))))
          clear hb
          generalize playE q mt p = z at HZL HZT ⊢
          by_cases k0 : p.kind = 0
          · obtain rfl := HZL.out (.inl k0)
            have g0 : (p.kind == 0) = true := beq_iff_eq.2 k0
            clear HZL HZT k0
            go_wp2_with (first
              | (refine wpList_store_part rfl 35 (.tmp 13) (.tmp 66) rfl V12.heap.size 0 (cs := zSt) (Blk.new _ _ _) q3.cs q3.cs (by rfl) (by rfl) (Nat.le_refl 20) infoSta (stcs_one _) (st_over _ rfl) ?_; intro W12 hb1 hc1; have hb := bel_st' hc1; (replace HB := Lib.hid (HB.out.trans (Below.mono hb HB.out.size)); (try (replace H5 := Lib.hid (H5.out.bel hb))); (try (replace HP := Lib.hid (HP.out.bel hb))); (try (replace H9 := Lib.hid (H9.out.bel hb))); (try (replace H11 := Lib.hid (H11.out.bel hb))); (try (replace HL := Lib.hid (HL.out.bel hb)))); have p0 : W12.cell? ⟨a8, 0, none⟩ = some (.int .i64 p.kind) := HP.out.cell 0; clear hb1 hc1 hb)
              | (refine wpList_load_blk rfl 35 (.tmp 9) rfl a9 0 20 H9.out.blk q.cs (by rfl) (st_ext _) Tryz.underlying35 infoSta (st_le _) ?_)
              | (refine wpList_store_part rfl 35 (.tmp 5) (.tmp 79) rfl a5 0 (cs := s.cs) H5.out.blk q.cs q.cs (by rfl) (by rfl) (st_le _) infoSta (stcs_one _) (st_over _ rfl) ?_; intro W13 hb1 hc1; replace HB := Lib.hid (HB.out.trans (hc1.below HB.out.size (by intro x hx; simp at hx; rw [hx]; exact ha5))); have H5' : Hid (StB W13 a5 q) := (by obtain ⟨N, hls⟩ := H9.out.ls; exact Lib.hid ⟨hb1, N, hls.ch hc1 H5.out.blk.kdT⟩); clear hb1 hc1 H5))
            go_roundw
            case rel => exact ⟨k + 1, q, by omega, by omega, by go_num, HB, H5', HI2⟩
            case measure => simp [intOf]; omega
          · have g0 : (p.kind == 0) = false := beq_eq_false_iff_ne.2 k0
            by_cases k1 : p.kind = 1
            · obtain rfl := HZL.out (.inr k1)
              have g1 : (p.kind == 1) = true := beq_iff_eq.2 k1
              clear HZL HZT k0 k1
              go_wp2_with (first
                | (refine wpList_store_part rfl 35 (.tmp 13) (.tmp 66) rfl V12.heap.size 0 (cs := zSt) (Blk.new _ _ _) q3.cs q3.cs (by rfl) (by rfl) (Nat.le_refl 20) infoSta (stcs_one _) (st_over _ rfl) ?_; intro W12 hb1 hc1; have hb := bel_st' hc1; (replace HB := Lib.hid (HB.out.trans (Below.mono hb HB.out.size)); (try (replace H5 := Lib.hid (H5.out.bel hb))); (try (replace HP := Lib.hid (HP.out.bel hb))); (try (replace H9 := Lib.hid (H9.out.bel hb))); (try (replace H11 := Lib.hid (H11.out.bel hb))); (try (replace HL := Lib.hid (HL.out.bel hb)))); have p0 : W12.cell? ⟨a8, 0, none⟩ = some (.int .i64 p.kind) := HP.out.cell 0; clear hb1 hc1 hb)
                | (refine wpList_load_blk rfl 35 (.tmp 9) rfl a9 0 20 H9.out.blk q.cs (by rfl) (st_ext _) Tryz.underlying35 infoSta (st_le _) ?_)
                | (refine wpList_store_part rfl 35 (.tmp 5) (.tmp 79) rfl a5 0 (cs := s.cs) H5.out.blk q.cs q.cs (by rfl) (by rfl) (st_le _) infoSta (stcs_one _) (st_over _ rfl) ?_; intro W13 hb1 hc1; replace HB := Lib.hid (HB.out.trans (hc1.below HB.out.size (by intro x hx; simp at hx; rw [hx]; exact ha5))); have H5' : Hid (StB W13 a5 q) := (by obtain ⟨N, hls⟩ := H9.out.ls; exact Lib.hid ⟨hb1, N, hls.ch hc1 H5.out.blk.kdT⟩); clear hb1 hc1 H5))
              go_roundw
              case rel => exact ⟨k + 1, q, by omega, by omega, by go_num, HB, H5', HI2⟩
              case measure => simp [intOf]; omega
            · have g1 : (p.kind == 1) = false := beq_eq_false_iff_ne.2 k1
              by_cases k3 : p.kind = 3
              · obtain rfl := HZT.out k3
                have g3 : (p.kind == 3) = true := beq_iff_eq.2 k3
                clear HZL HZT k0 k1 k3
                go_wp2_with (first
                  | (refine wpList_store_part rfl 35 (.tmp 13) (.tmp 66) rfl V12.heap.size 0 (cs := zSt) (Blk.new _ _ _) q3.cs q3.cs (by rfl) (by rfl) (Nat.le_refl 20) infoSta (stcs_one _) (st_over _ rfl) ?_; intro W12 hb1 hc1; have hb := bel_st' hc1; (replace HB := Lib.hid (HB.out.trans (Below.mono hb HB.out.size)); (try (replace H5 := Lib.hid (H5.out.bel hb))); (try (replace HP := Lib.hid (HP.out.bel hb))); (try (replace H9 := Lib.hid (H9.out.bel hb))); (try (replace H11 := Lib.hid (H11.out.bel hb))); (try (replace HL := Lib.hid (HL.out.bel hb)))); have p0 : W12.cell? ⟨a8, 0, none⟩ = some (.int .i64 p.kind) := HP.out.cell 0; clear hb1 hc1 hb)
                  | (refine wpList_load_blk rfl 35 (.tmp 9) rfl a9 0 20 H9.out.blk q.cs (by rfl) (st_ext _) Tryz.underlying35 infoSta (st_le _) ?_)
                  | (refine wpList_store_part rfl 35 (.tmp 5) (.tmp 79) rfl a5 0 (cs := s.cs) H5.out.blk q.cs q.cs (by rfl) (by rfl) (st_le _) infoSta (stcs_one _) (st_over _ rfl) ?_; intro W13 hb1 hc1; replace HB := Lib.hid (HB.out.trans (hc1.below HB.out.size (by intro x hx; simp at hx; rw [hx]; exact ha5))); have H5' : Hid (StB W13 a5 q) := (by obtain ⟨N, hls⟩ := H9.out.ls; exact Lib.hid ⟨hb1, N, hls.ch hc1 H5.out.blk.kdT⟩); clear hb1 hc1 H5))
                go_roundw
                case rel => exact ⟨k + 1, q, by omega, by omega, by go_num, HB, H5', HI2⟩
                case measure => simp [intOf]; omega
              · have g3 : (p.kind == 3) = false := beq_eq_false_iff_ne.2 k3
                clear HZL HZT k0 k1 k3
                go_wp2_with (first
                  | (refine wpList_store_part rfl 35 (.tmp 13) (.tmp 66) rfl V12.heap.size 0 (cs := zSt) (Blk.new _ _ _) q3.cs q3.cs (by rfl) (by rfl) (Nat.le_refl 20) infoSta (stcs_one _) (st_over _ rfl) ?_; intro W12 hb1 hc1; have hb := bel_st' hc1; (replace HB := Lib.hid (HB.out.trans (Below.mono hb HB.out.size)); (try (replace H5 := Lib.hid (H5.out.bel hb))); (try (replace HP := Lib.hid (HP.out.bel hb))); (try (replace H9 := Lib.hid (H9.out.bel hb))); (try (replace H11 := Lib.hid (H11.out.bel hb))); (try (replace HL := Lib.hid (HL.out.bel hb)))); have p0 : W12.cell? ⟨a8, 0, none⟩ = some (.int .i64 p.kind) := HP.out.cell 0; clear hb1 hc1 hb)
                  | (refine wpList_load_blk rfl 35 (.tmp 9) rfl a9 0 20 H9.out.blk q.cs (by rfl) (st_ext _) Tryz.underlying35 infoSta (st_le _) ?_)
                  | (refine wpList_store_part rfl 35 (.tmp 5) (.tmp 79) rfl a5 0 (cs := s.cs) H5.out.blk q.cs q.cs (by rfl) (by rfl) (st_le _) infoSta (stcs_one _) (st_over _ rfl) ?_; intro W13 hb1 hc1; replace HB := Lib.hid (HB.out.trans (hc1.below HB.out.size (by intro x hx; simp at hx; rw [hx]; exact ha5))); have H5' : Hid (StB W13 a5 q) := (by obtain ⟨N, hls⟩ := H9.out.ls; exact Lib.hid ⟨hb1, N, hls.ch hc1 H5.out.blk.kdT⟩); clear hb1 hc1 H5))
                go_roundw
                case rel => exact ⟨k + 1, q, by omega, by omega, by go_num, HB, H5', HI2⟩
                case measure => simp [intOf]; omega
        · obtain ⟨f, hf⟩ : ∃ f, playE s mt p = f := ⟨_, rfl⟩
          rw [hf] at hE
          have HF := Lib.hid hf
          have g1 : (f != f) = false := by simp
          have g2 : (f != 0) = true := by simp [hE]
          have HE := Lib.hid hE
          clear hf hE
          refine (play_no _ HI.out.good H5.out.mem HFO.out HF.out HE.out).mono ?_
          rintro e' V9 ⟨rfl, hb⟩
          (replace HB := Lib.hid (HB.out.trans (Below.mono hb HB.out.size)); (try (replace H5 := Lib.hid (H5.out.bel hb))); (try (replace HP := Lib.hid (HP.out.bel hb))); (try (replace H9 := Lib.hid (H9.out.bel hb))); (try (replace H11 := Lib.hid (H11.out.bel hb))); (try (replace HL := Lib.hid (HL.out.bel hb))))
          clear hb
          go_wp2_with (first
            | (refine wpList_store_part rfl 35 (.tmp 9) (.tmp 43) rfl V9.heap.size 0 (cs := zSt) (Blk.new _ _ _) zSt zSt (by rfl) (by rfl) (Nat.le_refl 20) infoSta zStO (zStV rfl) ?_; intro W9 hb1 hc1; have hb := bel_st' hc1; (replace HB := Lib.hid (HB.out.trans (Below.mono hb HB.out.size)); (try (replace H5 := Lib.hid (H5.out.bel hb))); (try (replace HP := Lib.hid (HP.out.bel hb))); (try (replace H9 := Lib.hid (H9.out.bel hb))); (try (replace H11 := Lib.hid (H11.out.bel hb))); (try (replace HL := Lib.hid (HL.out.bel hb)))); have H9 := Lib.hid hb1; clear hb1 hc1 hb)
            | (refine wpList_load_blk rfl 35 (.tmp 5) rfl a5 0 20 H5.out.blk s.cs (by rfl) (st_ext _) Tryz.underlying35 infoSta (st_le _) ?_)
            | (refine wpList_load_blk rfl 47 (.tmp 8) rfl a8 0 25 HP.out p.cs (by rfl) (op_ext p) Tryz.underlying47 infoOp17 (op_le p) ?_))
          refine (play_no _ HI.out.good H5.out.mem HFO.out HF.out HE.out).mono ?_
          rintro e' V10 ⟨rfl, hb⟩
          (replace HB := Lib.hid (HB.out.trans (Below.mono hb HB.out.size)); (try (replace H5 := Lib.hid (H5.out.bel hb))); (try (replace HP := Lib.hid (HP.out.bel hb))); (try (replace H9 := Lib.hid (H9.out.bel hb))); (try (replace H11 := Lib.hid (H11.out.bel hb))); (try (replace HL := Lib.hid (HL.out.bel hb))))
          clear hb
          go_wp2_with (first
            | (refine wpList_store_part rfl 35 (.tmp 11) (.tmp 49) rfl V10.heap.size 0 (cs := zSt) (Blk.new _ _ _) zSt zSt (by rfl) (by rfl) (Nat.le_refl 20) infoSta zStO (zStV rfl) ?_; intro W10 hb1 hc1; have hb := bel_st' hc1; (replace HB := Lib.hid (HB.out.trans (Below.mono hb HB.out.size)); (try (replace H5 := Lib.hid (H5.out.bel hb))); (try (replace HP := Lib.hid (HP.out.bel hb))); (try (replace H9 := Lib.hid (H9.out.bel hb))); (try (replace H11 := Lib.hid (H11.out.bel hb))); (try (replace HL := Lib.hid (HL.out.bel hb)))); have H11 := Lib.hid hb1; clear hb1 hc1 hb)
            | (refine wpList_load_blkG (by rfl) 35 (.tmp 9) rfl V9.heap.size 0 20 H9.out zSt (by rfl) (by rfl) Tryz.underlying35 infoSta (Nat.le_refl 20) ?_)
            | (refine wpList_load_blkG (by rfl) 35 (.tmp 11) rfl V10.heap.size 0 20 H11.out zSt (by rfl) (by rfl) Tryz.underlying35 infoSta (Nat.le_refl 20) ?_))
          refine (same_z _).mono ?_
          rintro e' V11 ⟨rfl, hb⟩
          clear H9 H11
          (replace HB := Lib.hid (HB.out.trans (Below.mono hb HB.out.size)); (try (replace H5 := Lib.hid (H5.out.bel hb))); (try (replace HP := Lib.hid (HP.out.bel hb))); (try (replace H9 := Lib.hid (H9.out.bel hb))); (try (replace H11 := Lib.hid (H11.out.bel hb))); (try (replace HL := Lib.hid (HL.out.bel hb))))
          clear hb
          go_wp2_with fail
          go_roundw
          case rel => exact ⟨k + 1, s, by omega, by omega, by go_num, HB, H5, HI⟩
          case measure => simp [intOf]; omega
      · have d1 : decide (k < l.length) = true := decide_eq_true hlt
        have d2 : decide ((k : Int) < 16) = false := decide_eq_false (by omega)
        clear hlt hlt2
        go_wp2_with fail
        refine (fixed17_any _).mono ?_
        rintro e' V3 ⟨rfl, hb⟩
        replace HB := Lib.hid (HB.out.trans (Below.mono hb HB.out.size))
        clear hb
        go_wp2_with fail
        go_ret
        exact ⟨rfl, HB.out⟩
    · have d1 : decide (k < l.length) = false := decide_eq_false hlt
      clear hlt
      go_wp2_with fail
      refine (fixed17_any _).mono ?_
      rintro e' V3 ⟨rfl, hb⟩
      replace HB := Lib.hid (HB.out.trans (Below.mono hb HB.out.size))
      clear hb
      go_wp2_with fail
      go_ret
      exact ⟨rfl, HB.out⟩
end Go.Proofs.YtpbcfeghfcodcaaGreat
