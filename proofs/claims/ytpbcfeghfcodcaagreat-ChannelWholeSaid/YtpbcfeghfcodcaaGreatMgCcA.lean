/- ChannelClosed: the walk. -/
import Derived.Outline
import Derived.Deep.RegionHeld3
import Derived.Deep.DeepCutAuto
import Derived.Deep.CutBlock
import Derived.Test.YtpbcfeghfcodcaaGreatMgFixN
set_option linter.unusedVariables false
set_option linter.unusedSimpArgs false
namespace Go.Proofs.YtpbcfeghfcodcaaGreat
open Go.RowKit Go.Maps
theorem same_z (W : World) : Calls Tryz.prog 8 #[.agg zSt, .agg zSt] W fun e w' => e = .returned (.bool true) ∧ Below W.heap.size W w' :=
  xsame_any zS none 0 none 0 none 0 none 0 W ⟨Sl.nil _ _ _ _ _, Sl.nil _ _ _ _ _, fun _ => rfl, fun _ => rfl⟩ ⟨Sl.nil _ _ _ _ _, Sl.nil _ _ _ _ _, fun _ => rfl, fun _ => rfl⟩ (by decide) (by decide)
/-- one of a list of calls is read -/
theorem wpList_load_op {ops : Array Oper} {rest : List Oper} {o : Oper} {a : Act} {w : World} {Q : Exit → Act → World → Prop} (hgd : o.guard = none) (x : Operand) (ho : o.op = .load 47 x) (b off : Nat) (hx : a.eval x = .pointer (some ⟨b, off, none⟩)) (y : Op17)
    (hc : ∀ j u, y.cl[j]? = some u → w.cell? ⟨b, off + j, none⟩ = some u) (h : wpList Tryz.prog ops Q rest (a.put o.dst (.agg y.cs)) w) : wpList Tryz.prog ops Q (o :: rest) a w := by
  refine wpList_load_mid (P := Tryz.prog) hgd 47 x ho b off hx y.cl _ hc Tryz.underlying47 rfl (by rw [infoOp17]; rfl) ?_
  show wpList Tryz.prog ops Q rest (a.put o.dst (.agg y.cs.toList.toArray)) w
  rw [Array.toArray_toList]
  exact h
set_option maxRecDepth 100000 in
set_option maxHeartbeats 4000000 in
theorem closed_no (e : En) (A : Option Addr) (l : List Op17) (c : Nat) (w0 : World) (hb : newB (beginX e) (fitsB (beginX e).o) = false) :
    Calls Tryz.prog 3 #[.agg e.cs, .slice A l.length c] w0 fun e' w' => e' = .returned (.bool true) ∧ Below w0.heap.size w0 w' := by
  have HX := Lib.hid (Blk.new w0 28 e.cs)
  have HBG := fun W => Lib.hid (begin_no e hb W)
  clear hb
  go_enter Tryz.func3, Tryz.ntmps3
  go_wp2_with (refine wpList_load_blk rfl 28 (.tmp 2) rfl w0.heap.size 0 11 HX.out e.cs (by rfl) (en_ext e) Tryz.underlying28 infoEnt (Nat.le_refl 11) ?_)
  refine (HBG _).out.mono ?_
  rintro e' V1 ⟨rfl, hb⟩
  have HB : Hid (Below w0.heap.size w0 V1) := Lib.hid (((Below.refl _ _).alloc (Nat.le_refl _) _).trans (hb.mono (by simp)))
  clear hb HBG HX
  go_wp2_with (first
    | (refine wpList_store_part rfl 35 (.tmp 5) (.tmp 15) rfl V1.heap.size 0 (cs := zSt) (Blk.new _ _ _) zSt zSt (by rfl) (by rfl) (Nat.le_refl 20) infoSta zStO (zStV rfl) ?_; intro W1 hb1 hc1; have hb := bel_st' hc1; replace HB := Lib.hid (HB.out.trans (Below.mono hb HB.out.size)); have H5 := Lib.hid hb1; clear hb1 hc1 hb)
    | (refine wpList_load_blk rfl 35 (.tmp 5) rfl V1.heap.size 0 20 H5.out zSt (by rfl) (by rfl) Tryz.underlying35 infoSta (Nat.le_refl 20) ?_))
  refine (same_z _).mono ?_
  rintro e' V2 ⟨rfl, hb⟩
  replace HB := Lib.hid (HB.out.trans (Below.mono hb HB.out.size))
  clear hb H5
  go_wp2_with fail
  refine (fixed17_any _).mono ?_
  rintro e' V3 ⟨rfl, hb⟩
  replace HB := Lib.hid (HB.out.trans (Below.mono hb HB.out.size))
  clear hb
  go_wp2_with fail
  go_ret
  exact ⟨rfl, HB.out⟩
theorem play_no {s : St} {mt : Nat} {o : Op17} {f : Int} (w : World) (hg : s.good mt) (hS : s.mem w) (ho : o.fit) (hf : playE s mt o = f) (h0 : f ≠ 0) :
    Calls Tryz.prog 12 #[.agg s.cs, .agg o.cs] w fun e w' => e = .returned (.tuple #[.agg zSt, .int .i64 f]) ∧ Below w.heap.size w w' :=
  (play_any s mt o w hg hS ho).mono fun _ _ h => h.no hf h0
theorem shut_inv {s : St} {mt : Nat} (h : Inv s mt) : Inv s.shut mt :=
  ⟨⟨⟨h.good.fit.lam, h.good.fit.lunit, h.good.fit.am, h.good.fit.tokens, h.good.fit.faces, h.good.fit.nominal, h.good.fit.tams, h.good.fit.tops, h.good.fit.wins, h.good.fit.tx⟩, h.good.an, h.good.tok, h.good.mt, h.good.tops, h.good.wins⟩, h.tops, h.wins⟩
theorem close_any (s : St) (W : World) (hf : s.fit) (hm : s.mem W) : Calls Tryz.prog 10 #[.agg s.cs] W fun e w' => ∃ A c B d, e = .returned (.agg (s.shut.lists A c B d).cs) ∧ LsAt s.shut W.heap.size w' A c B d ∧ Below W.heap.size W w' :=
  (xclose_any s W hf hm).mono fun _ _ ⟨hb, A, c, B, d, he, hl⟩ => ⟨A, c, B, d, he, hl, hb⟩
theorem shut_same {q : St} (h : q.closed = true) : q.shut = q := by
  obtain ⟨a1, a2, a3, a4, a5, a6, a7, a8, a9, a10, a11, a12, a13, a14⟩ := q
  simp only at h
  subst h
  rfl
theorem close_same {q : St} (h : q.closed = true) (W : World) (hf : q.fit) (hm : q.mem W) : Calls Tryz.prog 10 #[.agg q.cs] W fun e w' => ∃ A c B d, e = .returned (.agg (q.lists A c B d).cs) ∧ LsAt q W.heap.size w' A c B d ∧ Below W.heap.size W w' := by
  have r := close_any q W hf hm
  rwa [shut_same h] at r
set_option maxRecDepth 100000 in
set_option maxHeartbeats 8000000 in
theorem closed_ok (e : En) (A : Option Addr) (l : List Op17) (c : Nat) (w0 : World) (he : e.fz) (hl : ∀ x ∈ l, x.fz) (hn : l.length ≤ maxLen) (hs : Sl w0 w0.heap.size 25 Op17.cl A l) (hb : newB (beginX e) (fitsB (beginX e).o) = true) :
    Calls Tryz.prog 3 #[.agg e.cs, .slice A l.length c] w0 fun e' w' => e' = .returned (.bool true) ∧ Below w0.heap.size w0 w' := by
  have HX := Lib.hid (Blk.new w0 28 e.cs)
  have HBG := fun W => Lib.hid (begin_ok e hb W)
  obtain ⟨mt, hinv⟩ := new_inv he hb
  have HS := Lib.hid hs
  have HL := Lib.hid hl
  obtain ⟨s, hsd⟩ : ∃ s, s = newS (beginX e) := ⟨_, rfl⟩
  have HSD := Lib.hid hsd
  have hsl : ∀ N W, LsAt s N W s.A s.c s.B s.d := fun N W => by rw [hsd]; exact newS_ls _ _ _
  rw [← hsd] at hinv
  have HBG' : ∀ W, Hid (Calls Tryz.prog 7 #[.agg e.cs] W fun e' w' => e' = .returned (.tuple #[.agg s.cs, .int .i64 0]) ∧ Below W.heap.size W w') := fun W => Lib.hid (by rw [hsd]; exact (HBG W).out)
  have HI := Lib.hid hinv
  have HLS := Lib.hid hsl
  unfold maxLen at hn
  clear hb HBG hs hl hinv hsd hsl he
  go_enter Tryz.func3, Tryz.ntmps3
  go_wp2_with (refine wpList_load_blk rfl 28 (.tmp 2) rfl w0.heap.size 0 11 HX.out e.cs (by rfl) (en_ext e) Tryz.underlying28 infoEnt (Nat.le_refl 11) ?_)
  refine (HBG' _).out.mono ?_
  rintro e' V1 ⟨rfl, hb⟩
  have HB : Hid (Below w0.heap.size w0 V1) := Lib.hid (((Below.refl _ _).alloc (Nat.le_refl _) _).trans (hb.mono (by simp)))
  clear hb HBG' HX
  go_wp2_with (first
    | (refine wpList_store_part rfl 35 (.tmp 5) (.tmp 15) rfl V1.heap.size 0 (cs := zSt) (Blk.new _ _ _) s.cs s.cs (by rfl) (by rfl) (Nat.le_refl 20) infoSta (stcs_one _) (st_over _ rfl) ?_; intro W1 hb1 hc1; have hb := bel_st' hc1; replace HB := Lib.hid (HB.out.trans (Below.mono hb HB.out.size)); have H5 : Hid (StB W1 V1.heap.size s) := Lib.hid ⟨hb1, 0, HLS.out _ _⟩; clear hb1 hc1 hb)
    | (refine wpList_load_blk rfl 35 (.tmp 5) rfl V1.heap.size 0 20 H5.out.blk s.cs (by rfl) (st_ext _) Tryz.underlying35 infoSta (st_le _) ?_))
  generalize V1.heap.size = a5 at H5 ⊢
  refine (close_any s _ HI.out.good.fit H5.out.mem).mono ?_
  rintro e' V4 ⟨A7, c7, B7, d7, rfl, hls, hb⟩
  have HL7 := Lib.hid hls
  replace HB := Lib.hid (HB.out.trans (Below.mono hb HB.out.size))
  replace H5 := Lib.hid (H5.out.bel hb)
  clear hb hls
  go_wp2_with (refine wpList_store_part rfl 35 (.tmp 7) (.tmp 26) rfl V4.heap.size 0 (cs := zSt) (Blk.new _ _ _) (s.shut.lists A7 c7 B7 d7).cs (s.shut.lists A7 c7 B7 d7).cs (by rfl) (by rfl) (Nat.le_refl 20) infoSta (stcs_one _) (st_over _ rfl) ?_; intro W4 hb1 hc1; have hb := bel_st' hc1; (replace HB := Lib.hid (HB.out.trans (Below.mono hb HB.out.size)); (try (replace H5 := Lib.hid (H5.out.bel hb))); (try (replace H7 := Lib.hid (H7.out.bel hb))); (try (replace H9 := Lib.hid (H9.out.bel hb))); (try (replace H10 := Lib.hid (H10.out.bel hb)))); have H7 : Hid (StB W4 V4.heap.size (s.shut.lists A7 c7 B7 d7)) := Lib.hid (StB.mk_ hb1 (HL7.out.bel hb)); clear hb1 hc1 hb)
  clear HL7
  generalize V4.heap.size = a7 at H7 ⊢
  have HI7 := Lib.hid ((shut_inv HI.out).lists A7 c7 B7 d7)
  have HQ : Hid (worthV (s.shut.lists A7 c7 B7 d7) = worthV s) := rfl
  have HC7 : Hid ((s.shut.lists A7 c7 B7 d7).closed = true) := rfl
  obtain ⟨q, hq⟩ : ∃ q, q = s.shut.lists A7 c7 B7 d7 := ⟨_, rfl⟩
  rw [← hq] at H7 HI7 HQ HC7
  clear hq
  have HWQ : ∀ W, Hid (Calls Tryz.prog 13 #[.agg q.cs] W fun e w' => e = .returned (.int .u64 (worthV s)) ∧ Below W.heap.size W w') := fun W => Lib.hid (by have := sworth_any q W HI7.out.good.fit; rwa [HQ.out] at this)
  have HWS := fun W => Lib.hid (sworth_any s W HI.out.good.fit)
  generalize worthV s = vv at HWQ HWS
  clear HQ
  go_loopw [8] (fun i wr => ∃ k : Nat, k ≤ l.length ∧ k ≤ 16 ∧ i = .int .i64 k ∧ Hid (Below w0.heap.size w0 wr) ∧ Hid (StB wr a5 s) ∧ Hid (StB wr a7 q)) (fun i _ => 16 - (intOf i).toNat)
  case atStart => exact ⟨0, Nat.zero_le _, Nat.zero_le _, rfl, HB, H5, H7⟩
  case round =>
    clear HB H5 H7
    obtain ⟨k, hk, hk2, rfl, HB, H5, H7⟩ := hrel
    have hzr := HB.out.size
    by_cases hlt : k < l.length
    · by_cases hlt2 : k < 16
      · have d1 : decide (k < l.length) = true := decide_eq_true hlt
        have d2 : decide ((k : Int) < 16) = true := decide_eq_true (by omega)
        obtain ⟨ab, off, rfl, hbB, hc⟩ := (HS.out.below HB.out).at_ hlt
        have hfo := cutOp_fit (HL.out _ (List.getElem_mem hlt))
        generalize l[k] = o at hc hfo
        have HCC := Lib.hid hc
        have HFO := Lib.hid hfo
        clear hc hfo
        go_wp2_with (refine wpList_load_op rfl (.tmp 39) rfl ab (off + k * 25) (by rfl) o HCC.out ?_)
        refine (cutop_any o _).mono ?_
        rintro e' V8 ⟨rfl, hb⟩
        (replace HB := Lib.hid (HB.out.trans (Below.mono hb HB.out.size)); (try (replace H5 := Lib.hid (H5.out.bel hb))); (try (replace H7 := Lib.hid (H7.out.bel hb))); (try (replace H9 := Lib.hid (H9.out.bel hb))); (try (replace H10 := Lib.hid (H10.out.bel hb))))
        clear hb HCC
        generalize cutOp o = p at HFO ⊢
        go_wp2_with (first
          | (refine wpList_store_part rfl 47 (.tmp 9) (.tmp 41) rfl V8.heap.size 0 (cs := zOp.cs) (Blk.new _ _ _) (Op17.cs p) (Op17.cs p) (by rfl) (by rfl) (op_le zOp) infoOp17 (opcs_one _) (op_over _ rfl) ?_; intro W8 hb1 hc1; have hb := bel_st' hc1; (replace HB := Lib.hid (HB.out.trans (Below.mono hb HB.out.size)); (try (replace H5 := Lib.hid (H5.out.bel hb))); (try (replace H7 := Lib.hid (H7.out.bel hb))); (try (replace H9 := Lib.hid (H9.out.bel hb))); (try (replace H10 := Lib.hid (H10.out.bel hb)))); have HP := Lib.hid hb1; clear hb1 hc1 hb)
          | (refine wpList_load_blk rfl 35 (.tmp 7) rfl a7 0 20 H7.out.blk q.cs (by rfl) (st_ext _) Tryz.underlying35 infoSta (st_le _) ?_)
          | (refine wpList_load_blk rfl 47 (.tmp 9) rfl V8.heap.size 0 25 HP.out p.cs (by rfl) (op_ext p) Tryz.underlying47 infoOp17 (op_le p) ?_))
        generalize V8.heap.size = a9 at HP ⊢
        by_cases hr : 0 ≤ p.kind ∧ p.kind ≤ 3
        · refine (play_no _ HI7.out.good H7.out.mem HFO.out (play_shut HC7.out hr.1 hr.2) (by decide)).mono ?_
          rintro e' V9 ⟨rfl, hb⟩
          (replace HB := Lib.hid (HB.out.trans (Below.mono hb HB.out.size)); (try (replace H5 := Lib.hid (H5.out.bel hb))); (try (replace H7 := Lib.hid (H7.out.bel hb))); (try (replace H9 := Lib.hid (H9.out.bel hb))); (try (replace H10 := Lib.hid (H10.out.bel hb))))
          replace HP := Lib.hid (HP.out.bel hb)
          clear hb
          have g1 : decide ((0 : Int) ≤ p.kind) = true := decide_eq_true hr.1
          have g2 : decide (p.kind ≤ 3) = true := decide_eq_true hr.2
          go_wp2_with (first
            | (refine wpList_store_part rfl 35 (.tmp 10) (.tmp 46) rfl V9.heap.size 0 (cs := zSt) (Blk.new _ _ _) zSt zSt (by rfl) (by rfl) (Nat.le_refl 20) infoSta zStO (zStV rfl) ?_; intro W9 hb1 hc1; have hb := bel_st' hc1; (replace HB := Lib.hid (HB.out.trans (Below.mono hb HB.out.size)); (try (replace H5 := Lib.hid (H5.out.bel hb))); (try (replace H7 := Lib.hid (H7.out.bel hb))); (try (replace H9 := Lib.hid (H9.out.bel hb))); (try (replace H10 := Lib.hid (H10.out.bel hb)))); have p0 : W9.cell? ⟨a9, 0, none⟩ = some (.int .i64 p.kind) := (HP.out.bel hb).cell 0; have HZ := Lib.hid hb1; clear hb1 hc1 hb)
            | (refine wpList_load_blkG (by rfl) 35 (.tmp 10) rfl V9.heap.size 0 20 HZ.out zSt (by rfl) (by rfl) Tryz.underlying35 infoSta (Nat.le_refl 20) ?_))
          refine (same_z _).mono ?_
          rintro e' V10 ⟨rfl, hb⟩
          (replace HB := Lib.hid (HB.out.trans (Below.mono hb HB.out.size)); (try (replace H5 := Lib.hid (H5.out.bel hb))); (try (replace H7 := Lib.hid (H7.out.bel hb))); (try (replace H9 := Lib.hid (H9.out.bel hb))); (try (replace H10 := Lib.hid (H10.out.bel hb))))
          clear hb HZ p0 HP
          go_wp2_with fail
          go_roundw
          case rel => exact ⟨k + 1, by omega, by omega, by go_num, HB, H5, H7⟩
          case measure => simp [intOf]; omega
        · have g1 : decide ((0 : Int) ≤ p.kind) = decide ((0 : Int) ≤ p.kind) := rfl
          clear g1
          refine (play_any q mt p _ HI7.out.good H7.out.mem HFO.out).mono ?_
          rintro e' V9 ⟨hb, hres⟩
          (replace HB := Lib.hid (HB.out.trans (Below.mono hb HB.out.size)); (try (replace H5 := Lib.hid (H5.out.bel hb))); (try (replace H7 := Lib.hid (H7.out.bel hb))); (try (replace H9 := Lib.hid (H9.out.bel hb))); (try (replace H10 := Lib.hid (H10.out.bel hb))))
          replace HP := Lib.hid (HP.out.bel hb)
          clear hb
          by_cases g : 0 ≤ p.kind
          · have g1 : decide ((0 : Int) ≤ p.kind) = true := decide_eq_true g
            have g2 : decide (p.kind ≤ 3) = false := decide_eq_false (fun h => hr ⟨g, h⟩)
            clear hr g
            rcases hres with ⟨_, rfl⟩ | ⟨_, A10, c10, B10, d10, rfl, _⟩
            · go_wp2_with (refine wpList_store_part rfl 35 (.tmp 10) (.tmp 46) rfl V9.heap.size 0 (cs := zSt) (Blk.new _ _ _) zSt zSt (by rfl) (by rfl) (Nat.le_refl 20) infoSta zStO (zStV rfl) ?_; intro W9 hb1 hc1; have hb := bel_st' hc1; (replace HB := Lib.hid (HB.out.trans (Below.mono hb HB.out.size)); (try (replace H5 := Lib.hid (H5.out.bel hb))); (try (replace H7 := Lib.hid (H7.out.bel hb))); (try (replace H9 := Lib.hid (H9.out.bel hb))); (try (replace H10 := Lib.hid (H10.out.bel hb)))); have p0 : W9.cell? ⟨a9, 0, none⟩ = some (.int .i64 p.kind) := (HP.out.bel hb).cell 0; clear hb1 hc1 hb)
              go_roundw
              case rel => exact ⟨k + 1, by omega, by omega, by go_num, HB, H5, H7⟩
              case measure => simp [intOf]; omega
            · go_wp2_with (refine wpList_store_part rfl 35 (.tmp 10) (.tmp 46) rfl V9.heap.size 0 (cs := zSt) (Blk.new _ _ _) ((playS q mt p).lists A10 c10 B10 d10).cs ((playS q mt p).lists A10 c10 B10 d10).cs (by rfl) (by rfl) (Nat.le_refl 20) infoSta (stcs_one _) (st_over _ rfl) ?_; intro W9 hb1 hc1; have hb := bel_st' hc1; (replace HB := Lib.hid (HB.out.trans (Below.mono hb HB.out.size)); (try (replace H5 := Lib.hid (H5.out.bel hb))); (try (replace H7 := Lib.hid (H7.out.bel hb))); (try (replace H9 := Lib.hid (H9.out.bel hb))); (try (replace H10 := Lib.hid (H10.out.bel hb)))); have p0 : W9.cell? ⟨a9, 0, none⟩ = some (.int .i64 p.kind) := (HP.out.bel hb).cell 0; clear hb1 hc1 hb)
              go_roundw
              case rel => exact ⟨k + 1, by omega, by omega, by go_num, HB, H5, H7⟩
              case measure => simp [intOf]; omega
          · have g1 : decide ((0 : Int) ≤ p.kind) = false := decide_eq_false g
            clear hr g
            rcases hres with ⟨_, rfl⟩ | ⟨_, A10, c10, B10, d10, rfl, _⟩
            · go_wp2_with (refine wpList_store_part rfl 35 (.tmp 10) (.tmp 46) rfl V9.heap.size 0 (cs := zSt) (Blk.new _ _ _) zSt zSt (by rfl) (by rfl) (Nat.le_refl 20) infoSta zStO (zStV rfl) ?_; intro W9 hb1 hc1; have hb := bel_st' hc1; (replace HB := Lib.hid (HB.out.trans (Below.mono hb HB.out.size)); (try (replace H5 := Lib.hid (H5.out.bel hb))); (try (replace H7 := Lib.hid (H7.out.bel hb))); (try (replace H9 := Lib.hid (H9.out.bel hb))); (try (replace H10 := Lib.hid (H10.out.bel hb)))); have p0 : W9.cell? ⟨a9, 0, none⟩ = some (.int .i64 p.kind) := (HP.out.bel hb).cell 0; clear hb1 hc1 hb)
              go_roundw
              case rel => exact ⟨k + 1, by omega, by omega, by go_num, HB, H5, H7⟩
              case measure => simp [intOf]; omega
            · go_wp2_with (refine wpList_store_part rfl 35 (.tmp 10) (.tmp 46) rfl V9.heap.size 0 (cs := zSt) (Blk.new _ _ _) ((playS q mt p).lists A10 c10 B10 d10).cs ((playS q mt p).lists A10 c10 B10 d10).cs (by rfl) (by rfl) (Nat.le_refl 20) infoSta (stcs_one _) (st_over _ rfl) ?_; intro W9 hb1 hc1; have hb := bel_st' hc1; (replace HB := Lib.hid (HB.out.trans (Below.mono hb HB.out.size)); (try (replace H5 := Lib.hid (H5.out.bel hb))); (try (replace H7 := Lib.hid (H7.out.bel hb))); (try (replace H9 := Lib.hid (H9.out.bel hb))); (try (replace H10 := Lib.hid (H10.out.bel hb)))); have p0 : W9.cell? ⟨a9, 0, none⟩ = some (.int .i64 p.kind) := (HP.out.bel hb).cell 0; clear hb1 hc1 hb)
              go_roundw
              case rel => exact ⟨k + 1, by omega, by omega, by go_num, HB, H5, H7⟩
              case measure => simp [intOf]; omega
      · have d1 : decide (k < l.length) = true := decide_eq_true hlt
        have d2 : decide ((k : Int) < 16) = false := decide_eq_false (by omega)
        clear hlt hlt2
        go_upto_region 12 with fail
        refine wp_region_held_drew (S := fun W => Hid (Below w0.heap.size w0 W ∧ StB W a5 s ∧ StB W a7 q)) (by kernel_rfl) (Lib.hid ⟨HB.out.drew, H5.out.bel (Below.refl _ _).drew, H7.out.bel (Below.refl _ _).drew⟩) (fun hS => ?_)
        refine wpAnyH_genT fun X hX => ?_
        rw [← hX] at hS
        clear hX HB H5 H7
        refine wpAnyH_take (i := 0) (v := ?_) rfl (by kernel_rfl) (by kernel_rfl) (by kernel_rfl) (fun _ _ _ h => h) (Or.inl ⟨by rfl, ?_⟩) hS ?_
        rotate_left
        · (intro w _; go_simp; try with_reducible rfl)
        refine wpAnyH_take (i := 1) (v := ?_) rfl (by kernel_rfl) (by kernel_rfl) (by kernel_rfl) (fun _ _ _ h => h) (Or.inl ⟨by rfl, ?_⟩) hS ?_
        rotate_left
        · (intro w hS'; have hcell := (show World.cell? _ ⟨a7, 19, none⟩ = some (.bool true) from (Blk.cell hS'.out.2.2.blk 19).trans (congrArg (fun b => some (Value.bool b)) HC7.out)); go_simp; try with_reducible rfl)
        refine wpAnyH_take (i := 2) (v := ?_) rfl (by kernel_rfl) (by kernel_rfl) (by kernel_rfl) (fun _ _ _ h => h) (Or.inl ⟨by rfl, ?_⟩) hS ?_
        rotate_left
        · (intro w _; go_simp; try with_reducible rfl)
        refine wpAnyH_take (i := 3) (v := .agg q.cs) rfl (by kernel_rfl) (by kernel_rfl) (by kernel_rfl) (fun _ _ _ h => h) (yields_blk (by rfl) 35 (.tmp 7) (by rfl) a7 0 20 (t := 35) (cs := q.cs) (fun W h => h.out.2.2.blk) q.cs (by rfl) (st_ext _) Tryz.underlying35 infoSta (st_le _)) hS ?_
        refine wpAnyH_take (i := 5) (v := .agg s.cs) rfl (by kernel_rfl) (by kernel_rfl) (by kernel_rfl) (fun _ _ _ h => h) (yields_blk (by rfl) 35 (.tmp 5) (by rfl) a5 0 20 (t := 35) (cs := s.cs) (fun W h => h.out.2.1.blk) s.cs (by rfl) (st_ext _) Tryz.underlying35 infoSta (st_le _)) hS ?_
        refine wpAnyH_ready (rs := [4]) (by kernel_rfl) (by simp) (AllReadyH.cons rfl (fun K hK => ?_) AllReadyH.nil)
        go_simp
        refine (HWQ _).out.mono ?_
        rintro e' V1 ⟨rfl, hb⟩
        have hS1 := Lib.hid (And.intro (hS.out.1.trans (Below.mono hb hS.out.1.size)) (And.intro (hS.out.2.1.bel hb) (hS.out.2.2.bel hb)))
        clear hS
        have hS := hS1
        clear hS1
        go_simp
        refine hK.out _ _ hS (fun _ => ?_)
        clear hK K hb
        refine wpAnyH_ready (rs := [6]) (by kernel_rfl) (by simp) (AllReadyH.cons rfl (fun K hK => ?_) AllReadyH.nil)
        go_simp
        refine (HWS _).out.mono ?_
        rintro e' V2 ⟨rfl, hb⟩
        have hS1 := Lib.hid (And.intro (hS.out.1.trans (Below.mono hb hS.out.1.size)) (And.intro (hS.out.2.1.bel hb) (hS.out.2.2.bel hb)))
        clear hS
        have hS := hS1
        clear hS1
        go_simp
        refine hK.out _ _ hS (fun _ => ?_)
        clear hK K hb
        refine wpAnyH_take (i := 7) (v := ?_) rfl (by kernel_rfl) (by kernel_rfl) (by kernel_rfl) (fun _ _ _ h => h) (Or.inl ⟨by rfl, ?_⟩) hS ?_
        rotate_left
        · (intro w _; go_simp; try with_reducible rfl)
        refine wpAnyH_take (i := 8) (v := ?_) rfl (by kernel_rfl) (by kernel_rfl) (by kernel_rfl) (fun _ _ _ h => h) (Or.inl ⟨by rfl, ?_⟩) hS ?_
        rotate_left
        · (intro w _; go_simp; try with_reducible rfl)
        refine wpAnyH_take (i := 9) (v := ?_) rfl (by kernel_rfl) (by kernel_rfl) (by kernel_rfl) (fun _ _ _ h => h) (Or.inl ⟨by rfl, ?_⟩) hS ?_
        rotate_left
        · (intro w _; go_simp; try with_reducible rfl)
        refine wpAnyH_take (i := 10) (v := .agg q.cs) rfl (by kernel_rfl) (by kernel_rfl) (by kernel_rfl) (fun _ _ _ h => h) (yields_blk (by rfl) 35 (.tmp 7) (by rfl) a7 0 20 (t := 35) (cs := q.cs) (fun W h => h.out.2.2.blk) q.cs (by rfl) (st_ext _) Tryz.underlying35 infoSta (st_le _)) hS ?_
        refine wpAnyH_take (i := 12) (v := .agg q.cs) rfl (by kernel_rfl) (by kernel_rfl) (by kernel_rfl) (fun _ _ _ h => h) (yields_blk (by rfl) 35 (.tmp 7) (by rfl) a7 0 20 (t := 35) (cs := q.cs) (fun W h => h.out.2.2.blk) q.cs (by rfl) (st_ext _) Tryz.underlying35 infoSta (st_le _)) hS ?_
        refine wpAnyH_ready (rs := [11]) (by kernel_rfl) (by simp) (AllReadyH.cons rfl (fun K hK => ?_) AllReadyH.nil)
        go_simp
        refine (close_same HC7.out _ HI7.out.good.fit hS.out.2.2.mem).mono ?_
        rintro e' V4 ⟨A4, c4, B4, d4, rfl, hls, hb⟩
        have HLS4 := Lib.hid hls
        clear hls
        have hS1 := Lib.hid (And.intro (hS.out.1.trans (Below.mono hb hS.out.1.size)) (And.intro (hS.out.2.1.bel hb) (hS.out.2.2.bel hb)))
        clear hS
        have hS := hS1
        clear hS1
        go_simp
        refine hK.out _ _ hS (fun _ => ?_)
        clear hK K hb
        refine wpAnyH_ready (rs := [13]) (by kernel_rfl) (by simp) (AllReadyH.cons rfl (fun K hK => ?_) AllReadyH.nil)
        go_simp
        refine (xsame_any q A4 c4 B4 d4 q.A q.c q.B q.d _ HLS4.out.mem hS.out.2.2.mem (by have := HI7.out.tops; omega) (by have := HI7.out.wins; omega)).mono ?_
        rintro e' V5 ⟨rfl, hb⟩
        clear HLS4
        have hS1 := Lib.hid (And.intro (hS.out.1.trans (Below.mono hb hS.out.1.size)) (And.intro (hS.out.2.1.bel hb) (hS.out.2.2.bel hb)))
        clear hS
        have hS := hS1
        clear hS1
        go_simp
        refine hK.out _ _ hS (fun _ => ?_)
        clear hK K hb
        refine wpAnyH_take (i := 14) (v := ?_) rfl (by kernel_rfl) (by kernel_rfl) (by kernel_rfl) (fun _ _ _ h => h) (Or.inl ⟨by rfl, ?_⟩) hS ?_
        rotate_left
        · (intro w _; go_simp; try with_reducible rfl)
        refine wpAnyH_take (i := 15) (v := ?_) rfl (by kernel_rfl) (by kernel_rfl) (by kernel_rfl) (fun _ _ _ h => h) (Or.inl ⟨by rfl, ?_⟩) hS ?_
        rotate_left
        · (intro w _; go_simp; try with_reducible rfl)
        refine wpAnyH_ready (rs := [16]) (by kernel_rfl) (by simp) (AllReadyH.cons rfl (fun K hK => ?_) AllReadyH.nil)
        go_simp
        refine (fixed17_any _).mono ?_
        rintro e' V6 ⟨rfl, hb⟩
        have hS1 := Lib.hid (And.intro (hS.out.1.trans (Below.mono hb hS.out.1.size)) (And.intro (hS.out.2.1.bel hb) (hS.out.2.2.bel hb)))
        clear hS
        have hS := hS1
        clear hS1
        go_simp
        refine hK.out _ _ hS (fun _ => ?_)
        clear hK K hb
        refine wpAnyH_take (i := 17) (v := ?_) rfl (by kernel_rfl) (by kernel_rfl) (by kernel_rfl) (fun _ _ _ h => h) (Or.inl ⟨by rfl, ?_⟩) hS ?_
        rotate_left
        · (intro w _; go_simp; try with_reducible rfl)
        refine wpAnyH_take (i := 18) (v := ?_) rfl (by kernel_rfl) (by kernel_rfl) (by kernel_rfl) (fun _ _ _ h => h) (Or.inl ⟨by rfl, ?_⟩) hS ?_
        rotate_left
        · (intro w _; go_simp; try with_reducible rfl)
        refine wpAnyH_done (by kernel_rfl) ?_ _
        try go_simp
        go_wp2_with fail
        go_ret
        exact ⟨rfl, hS.out.1⟩
    · have d1 : decide (k < l.length) = false := decide_eq_false hlt
      clear hlt
      go_upto_region 12 with fail
      refine wp_region_held_drew (S := fun W => Hid (Below w0.heap.size w0 W ∧ StB W a5 s ∧ StB W a7 q)) (by kernel_rfl) (Lib.hid ⟨HB.out.drew, H5.out.bel (Below.refl _ _).drew, H7.out.bel (Below.refl _ _).drew⟩) (fun hS => ?_)
      refine wpAnyH_genT fun X hX => ?_
      rw [← hX] at hS
      clear hX HB H5 H7
      refine wpAnyH_take (i := 0) (v := ?_) rfl (by kernel_rfl) (by kernel_rfl) (by kernel_rfl) (fun _ _ _ h => h) (Or.inl ⟨by rfl, ?_⟩) hS ?_
      rotate_left
      · (intro w _; go_simp; try with_reducible rfl)
      refine wpAnyH_take (i := 1) (v := ?_) rfl (by kernel_rfl) (by kernel_rfl) (by kernel_rfl) (fun _ _ _ h => h) (Or.inl ⟨by rfl, ?_⟩) hS ?_
      rotate_left
      · (intro w hS'; have hcell := (show World.cell? _ ⟨a7, 19, none⟩ = some (.bool true) from (Blk.cell hS'.out.2.2.blk 19).trans (congrArg (fun b => some (Value.bool b)) HC7.out)); go_simp; try with_reducible rfl)
      refine wpAnyH_take (i := 2) (v := ?_) rfl (by kernel_rfl) (by kernel_rfl) (by kernel_rfl) (fun _ _ _ h => h) (Or.inl ⟨by rfl, ?_⟩) hS ?_
      rotate_left
      · (intro w _; go_simp; try with_reducible rfl)
      refine wpAnyH_take (i := 3) (v := .agg q.cs) rfl (by kernel_rfl) (by kernel_rfl) (by kernel_rfl) (fun _ _ _ h => h) (yields_blk (by rfl) 35 (.tmp 7) (by rfl) a7 0 20 (t := 35) (cs := q.cs) (fun W h => h.out.2.2.blk) q.cs (by rfl) (st_ext _) Tryz.underlying35 infoSta (st_le _)) hS ?_
      refine wpAnyH_take (i := 5) (v := .agg s.cs) rfl (by kernel_rfl) (by kernel_rfl) (by kernel_rfl) (fun _ _ _ h => h) (yields_blk (by rfl) 35 (.tmp 5) (by rfl) a5 0 20 (t := 35) (cs := s.cs) (fun W h => h.out.2.1.blk) s.cs (by rfl) (st_ext _) Tryz.underlying35 infoSta (st_le _)) hS ?_
      refine wpAnyH_ready (rs := [4]) (by kernel_rfl) (by simp) (AllReadyH.cons rfl (fun K hK => ?_) AllReadyH.nil)
      go_simp
      refine (HWQ _).out.mono ?_
      rintro e' V1 ⟨rfl, hb⟩
      have hS1 := Lib.hid (And.intro (hS.out.1.trans (Below.mono hb hS.out.1.size)) (And.intro (hS.out.2.1.bel hb) (hS.out.2.2.bel hb)))
      clear hS
      have hS := hS1
      clear hS1
      go_simp
      refine hK.out _ _ hS (fun _ => ?_)
      clear hK K hb
      refine wpAnyH_ready (rs := [6]) (by kernel_rfl) (by simp) (AllReadyH.cons rfl (fun K hK => ?_) AllReadyH.nil)
      go_simp
      refine (HWS _).out.mono ?_
      rintro e' V2 ⟨rfl, hb⟩
      have hS1 := Lib.hid (And.intro (hS.out.1.trans (Below.mono hb hS.out.1.size)) (And.intro (hS.out.2.1.bel hb) (hS.out.2.2.bel hb)))
      clear hS
      have hS := hS1
      clear hS1
      go_simp
      refine hK.out _ _ hS (fun _ => ?_)
      clear hK K hb
      refine wpAnyH_take (i := 7) (v := ?_) rfl (by kernel_rfl) (by kernel_rfl) (by kernel_rfl) (fun _ _ _ h => h) (Or.inl ⟨by rfl, ?_⟩) hS ?_
      rotate_left
      · (intro w _; go_simp; try with_reducible rfl)
      refine wpAnyH_take (i := 8) (v := ?_) rfl (by kernel_rfl) (by kernel_rfl) (by kernel_rfl) (fun _ _ _ h => h) (Or.inl ⟨by rfl, ?_⟩) hS ?_
      rotate_left
      · (intro w _; go_simp; try with_reducible rfl)
      refine wpAnyH_take (i := 9) (v := ?_) rfl (by kernel_rfl) (by kernel_rfl) (by kernel_rfl) (fun _ _ _ h => h) (Or.inl ⟨by rfl, ?_⟩) hS ?_
      rotate_left
      · (intro w _; go_simp; try with_reducible rfl)
      refine wpAnyH_take (i := 10) (v := .agg q.cs) rfl (by kernel_rfl) (by kernel_rfl) (by kernel_rfl) (fun _ _ _ h => h) (yields_blk (by rfl) 35 (.tmp 7) (by rfl) a7 0 20 (t := 35) (cs := q.cs) (fun W h => h.out.2.2.blk) q.cs (by rfl) (st_ext _) Tryz.underlying35 infoSta (st_le _)) hS ?_
      refine wpAnyH_take (i := 12) (v := .agg q.cs) rfl (by kernel_rfl) (by kernel_rfl) (by kernel_rfl) (fun _ _ _ h => h) (yields_blk (by rfl) 35 (.tmp 7) (by rfl) a7 0 20 (t := 35) (cs := q.cs) (fun W h => h.out.2.2.blk) q.cs (by rfl) (st_ext _) Tryz.underlying35 infoSta (st_le _)) hS ?_
      refine wpAnyH_ready (rs := [11]) (by kernel_rfl) (by simp) (AllReadyH.cons rfl (fun K hK => ?_) AllReadyH.nil)
      go_simp
      refine (close_same HC7.out _ HI7.out.good.fit hS.out.2.2.mem).mono ?_
      rintro e' V4 ⟨A4, c4, B4, d4, rfl, hls, hb⟩
      have HLS4 := Lib.hid hls
      clear hls
      have hS1 := Lib.hid (And.intro (hS.out.1.trans (Below.mono hb hS.out.1.size)) (And.intro (hS.out.2.1.bel hb) (hS.out.2.2.bel hb)))
      clear hS
      have hS := hS1
      clear hS1
      go_simp
      refine hK.out _ _ hS (fun _ => ?_)
      clear hK K hb
      refine wpAnyH_ready (rs := [13]) (by kernel_rfl) (by simp) (AllReadyH.cons rfl (fun K hK => ?_) AllReadyH.nil)
      go_simp
      refine (xsame_any q A4 c4 B4 d4 q.A q.c q.B q.d _ HLS4.out.mem hS.out.2.2.mem (by have := HI7.out.tops; omega) (by have := HI7.out.wins; omega)).mono ?_
      rintro e' V5 ⟨rfl, hb⟩
      clear HLS4
      have hS1 := Lib.hid (And.intro (hS.out.1.trans (Below.mono hb hS.out.1.size)) (And.intro (hS.out.2.1.bel hb) (hS.out.2.2.bel hb)))
      clear hS
      have hS := hS1
      clear hS1
      go_simp
      refine hK.out _ _ hS (fun _ => ?_)
      clear hK K hb
      refine wpAnyH_take (i := 14) (v := ?_) rfl (by kernel_rfl) (by kernel_rfl) (by kernel_rfl) (fun _ _ _ h => h) (Or.inl ⟨by rfl, ?_⟩) hS ?_
      rotate_left
      · (intro w _; go_simp; try with_reducible rfl)
      refine wpAnyH_take (i := 15) (v := ?_) rfl (by kernel_rfl) (by kernel_rfl) (by kernel_rfl) (fun _ _ _ h => h) (Or.inl ⟨by rfl, ?_⟩) hS ?_
      rotate_left
      · (intro w _; go_simp; try with_reducible rfl)
      refine wpAnyH_ready (rs := [16]) (by kernel_rfl) (by simp) (AllReadyH.cons rfl (fun K hK => ?_) AllReadyH.nil)
      go_simp
      refine (fixed17_any _).mono ?_
      rintro e' V6 ⟨rfl, hb⟩
      have hS1 := Lib.hid (And.intro (hS.out.1.trans (Below.mono hb hS.out.1.size)) (And.intro (hS.out.2.1.bel hb) (hS.out.2.2.bel hb)))
      clear hS
      have hS := hS1
      clear hS1
      go_simp
      refine hK.out _ _ hS (fun _ => ?_)
      clear hK K hb
      refine wpAnyH_take (i := 17) (v := ?_) rfl (by kernel_rfl) (by kernel_rfl) (by kernel_rfl) (fun _ _ _ h => h) (Or.inl ⟨by rfl, ?_⟩) hS ?_
      rotate_left
      · (intro w _; go_simp; try with_reducible rfl)
      refine wpAnyH_take (i := 18) (v := ?_) rfl (by kernel_rfl) (by kernel_rfl) (by kernel_rfl) (fun _ _ _ h => h) (Or.inl ⟨by rfl, ?_⟩) hS ?_
      rotate_left
      · (intro w _; go_simp; try with_reducible rfl)
      refine wpAnyH_done (by kernel_rfl) ?_ _
      try go_simp
      go_wp2_with fail
      go_ret
      exact ⟨rfl, hS.out.1⟩
end Go.Proofs.YtpbcfeghfcodcaaGreat
