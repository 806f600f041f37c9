/- law18's ClaimAmounts: the walk, a channel being made. -/
import Derived.Outline
import Derived.Deep.RegionHeld3
import Derived.Deep.DeepCutAuto
import Derived.Deep.CutBlock
import Derived.Deep.AppendLies
import Derived.Laws.OwnMore
import Derived.Test.YtjcinncphffgaaaGreatMiLmB
set_option linter.unusedVariables false
set_option linter.unusedSimpArgs false
namespace Go.Proofs.YtjcinncphffgaaaGreat
section
open Go.RowKit Go.Maps
theorem run_append_zero {P : Program} {w : World} (base : Nat) (t ty e : TypeId) (i : TypeInfo) (size : Nat) (ht : P.underlying t = some (.slice e)) (hi : P.info? e = some i)
  (v : Value) (n : Nat) (xs : List Value) (hown : w.ownsRow base e size v n xs) (A : Option Addr) (c : Nat) :
  (Builtin.append_ #[t, t] ty #[v, .slice A 0 c]).run P w = .ok v w := by
 cases A with
 | none =>
  rcases hown.2 with ⟨rfl, rfl⟩ | ⟨g, cap, cur, rfl, _, _, hnc, _⟩
  ·simp [Builtin.append_, run_underlying ht, sizeOf, typeInfo, hi, Builtin.lenOf, Builtin.firstCells]
  ·simp [Builtin.append_, run_underlying ht, sizeOf, typeInfo, hi, Builtin.lenOf, Builtin.firstCells, hnc, storeCells]
 | some a =>
  rcases hown.2 with ⟨rfl, rfl⟩ | ⟨g, cap, cur, rfl, _, _, hnc, _⟩
  ·simp [Builtin.append_, run_underlying ht, sizeOf, typeInfo, hi, Builtin.lenOf, Builtin.firstCells, loadCells, loadCellsFrom]
  ·simp [Builtin.append_, run_underlying ht, sizeOf, typeInfo, hi, Builtin.lenOf, Builtin.firstCells, hnc, storeCells, loadCells, loadCellsFrom]
/-- as step_append_two, whatever an empty row's place is -/
theorem step_append_twoZ {P : Program} {ops : Array Oper} {o : Oper} {a : Act} {w : World} {K : Act → World → Prop} {Q : Exit → Act → World → Prop} {E : Prop} (hgd : o.guard = none) (s x : Operand) (t : TypeId)
  (ho : o.op = .call { callee := .builtin .append, args := #[s, x], argTypes := #[t, t] })
  (base : Nat) (e : TypeId) (i : TypeInfo) (z : Value) (size bytes : Nat) (ht : P.underlying t = some (.slice e)) (hi : P.info? e = some i) (hz : i.zero = some z)
  (hsize : i.size = size) (hby : i.bytes = bytes) (hzs : z.cells.size = size) (hsz : 0 < size)
  (v : Value) (n : Nat) (xs : List Value) (hs : a.eval s = v) (hown : w.ownsRow base e size v n xs)
  (A' : Option Addr) (m c : Nat) (news : List Value) (hx : a.eval x = .slice A' m c) (hl : news.length = m * size) (hnews : w.ownsRow base e size (.slice A' m c) m news) (h1 : ∀ u ∈ news, u.oneCell' = true)
  (h63 : n + m ≤ maxLen) (hbytes : (n + m) * bytes ≤ 140737488355328) (hbase : base ≤ w.heap.size)
  (h : ∀ v' w', w'.ownsRow base e size v' (n + m) (xs ++ news) → w.grownBy w' v.ownBlock → K (a.put o.dst v') w') :
  if Region.wanted o (yielded ops a.tmps) = true then Oper.wp P o a w K Q else E := by
 by_cases hm : m = 0
 ·subst hm
  have hw : Region.wanted o (yielded ops a.tmps) = true := by simp [Region.wanted, hgd]
  rw [if_pos hw]
  have hnn : news = [] := List.length_eq_zero_iff.1 (by rw [hl]; simp)
  subst hnn
  have hr := run_append_zero (P := P) (w := w) base t o.type e i size ht hi v n xs hown A' c
  unfold Oper.wp execOp
  simp only [ho, resolve, invoke, builtin, Sem.run_bind, Sem.run_pure, Result.andThen_ok, List.map_toArray, List.map_cons, List.map_nil, hs, hx, hr]
  exact h v w (by simpa using hown) ⟨rfl, rfl, rfl, Nat.le_refl _, fun _ _ _ => rfl⟩
 ·obtain ⟨g, cap, hv, _, _⟩ := hnews.form (by omega)
  injection hv with hA _ _
  subst hA
  exact step_append_lies w hgd s x t ho base e i z size bytes ht hi hz hsize hby hzs hsz v n xs hs hown ⟨g, 0, none⟩ m c news hx hl (hnews.cells rfl) h1 (by omega) h63 hbytes hbase _ rfl (fun g' cap' w' h2 h3 _ _ => h _ w' h2 h3)
theorem back_am (L : List En) (key : ByteArray) (A : Option Addr) (c : Nat) (B : Option Addr) (d : Nat) : ∀ o ∈ (backX L key A c B d).outs, o.am < 18446744073709551616 := by
 intro o ho
 have ho' : o ∈ [payO ((totV (topsI L)).toNat - 10) key] := ho
 rw [List.mem_singleton.1 ho']
 show (totV (topsI L)).toNat - 10 < _
 unfold totV
 split <;> omega
set_option maxRecDepth 100000 in
set_option maxHeartbeats 60000000 in
theorem camounts_ok (e : En) (A : Option Addr) (l : List Op17) (c : Nat) (w0 : World) (he : e.fz) (hl : ∀ x ∈ l, x.fz) (hn : l.length ≤ maxLen) (hs : Sl w0 w0.heap.size 25 Op17.cl A l) (h3 : e.o.tok ≤ 300) (hb : newB (cutE e) (fitsB (cutE e).o) = true) :
  Calls Tryz.prog 7 #[.agg e.cs, .slice A l.length c] w0 fun e' w' => e' = .returned (.bool true) ∧ Below w0.heap.size w0 w' := by
 have HX := Lib.hid (Blk.new w0 89 e.cs)
 have g3 : decide ((300 : Int) < e.o.tok) = false := decide_eq_false (by omega)
 have g3' : decide (e.o.tok > 300) = false := g3
 obtain ⟨mt, hinv⟩ := new18_inv he h3 hb
 have HI := Lib.hid hinv
 have HS := Lib.hid hs
 have HXL := Lib.hid hl
 unfold maxLen at hn
 clear he h3 hinv hs hl
 go_enter Tryz.func7, Tryz.ntmps7
 go_wp2_with (refine wpList_load_blk rfl 89 (.tmp 2) rfl w0.heap.size 0 11 HX.out e.cs (by rfl) (en_ext e) Tryz.underlying89 infoEnt (Nat.le_refl 11) ?_)
 refine (cut18_any e _).mono ?_
 rintro e' V1 ⟨rfl, hb1⟩
 have HB : Hid (Below w0.heap.size w0 V1) := Lib.hid (((Below.refl _ _).alloc (Nat.le_refl _) _).trans (hb1.mono (by simp)))
 replace HX := Lib.hid (HX.out.bel hb1)
 clear hb1
 go_wp2_with fail
 refine (xnew_any (cutE e) _ (fitsB (cutE e).o) (fun W => fits_gen (cutE e).o W)).mono ?_
 rw [hb]
 rintro e' V2 ⟨rfl, hb2⟩
 replace HB := Lib.hid (HB.out.trans (hb2.mono HB.out.size))
 replace HX := Lib.hid (HX.out.bel hb2)
 clear hb2
 simp only [if_true, if_false, Bool.false_eq_true]
 go_upto_region 2 with (refine wpList_store_part rfl 103 (.tmp 5) (.tmp 22) rfl V2.heap.size 0 (cs := zSt) (Blk.new _ _ _) (newS (cutE e)).cs (newS (cutE e)).cs (by rfl) (by rfl) (Nat.le_refl 20) infoSta (stcs_one _) (st_over _ rfl) ?_; intro W1 hb1 hc1; have hb := bel_st' hc1; (have H5 := Lib.hid hb1; have HB5 := Lib.hid hb); clear hb1 hc1 hb)
 have ha5 := HB.out.size
 replace HB := Lib.hid (HB.out.trans (HB5.out.mono HB.out.size))
 replace HX := Lib.hid (HX.out.bel HB5.out)
 clear HB5
 generalize V2.heap.size = a5 at H5 ha5 ⊢
 have x9 : W1.cell? ⟨w0.heap.size, 9, none⟩ = some (.int .i64 e.o.tok) := HX.out.cell 9
 have H5s : Hid (StB W1 a5 (newS (cutE e))) := Lib.hid ⟨H5.out, 0, newS_ls _ _ _⟩
 obtain ⟨s, hsd⟩ : ∃ s, s = newS (cutE e) := ⟨_, rfl⟩
 rw [← hsd] at H5s HI
 clear hsd H5
 go_wp2_with fail
 go_loopw [7] (fun i wr => ∃ (k : Nat) (s' : St), k ≤ l.length ∧ k ≤ 16 ∧ i = .int .i64 k ∧ Hid (Below w0.heap.size w0 wr) ∧ Hid (StB wr a5 s') ∧ Hid (Inv s' mt)) (fun i _ => 16 - (intOf i).toNat)
 case atStart => exact ⟨0, s, Nat.zero_le _, Nat.zero_le _, rfl, HB, H5s, HI⟩
 case round =>
  clear HB H5s HI HX x9
  obtain ⟨k, s, hk, hk2, rfl, HB, H5, HI⟩ := hrel
  have hzr := HB.out.size
  by_cases hx : k < l.length ∧ k < 16
  ·obtain ⟨hlt, hlt2⟩ := hx
   ·have d1 : decide (k < l.length) = true := decide_eq_true hlt
    have d2 : decide ((k : Int) < 16) = true := decide_eq_true (by omega)
    obtain ⟨ab, off, rfl, hbB, hc⟩ := (HS.out.below HB.out).at_ hlt
    have hfo := cutOp_fit (HXL.out _ (List.getElem_mem hlt))
    generalize l[k] = o at hc hfo
    have HOP : Hid (OpAt wr ab (off + k * 25) o) := Lib.hid ⟨by omega, hc⟩
    have HPL := Lib.hid (fun W h => play18_one s mt (cutOp o) W HI.out.good h hfo)
    have HFO := Lib.hid hfo
    clear hc hfo
    go_upto_region 7 with fail
    go_cut [8, 9] from 44 to 52 (fun u8 u9 wx => ∃ (a8 : Nat) (q : St) (f : Int), u8 = .pointer (some ⟨a8, 0, none⟩) ∧ u9 = .int .i64 f ∧ Hid (Below w0.heap.size w0 wx) ∧ Hid (StB wx a5 s) ∧ Hid (StB wx a8 q) ∧ Hid (PlR18 s mt (cutOp o) q f))
    case first =>
     refine wp_region_held_drew (S := fun W => Hid (Below w0.heap.size w0 W ∧ StB W a5 s ∧ OpAt W ab (off + k * 25) o)) (by kernel_rfl) (Lib.hid ⟨HB.out.drew, H5.out.bel (Below.refl _ _).drew, HOP.out.bel (Below.refl _ _).drew⟩) (fun hS => ?_)
     refine wpAnyH_genT fun X hX => ?_
     rw [← hX] at hS
     clear hX HB H5 HOP
     refine wpAnyH_take (i := 0) (v := .agg (St.cs s)) rfl (by kernel_rfl) (by kernel_rfl) (by kernel_rfl) (fun _ _ _ h => h) (yields_blk (by rfl) 103 (.tmp 5) (by rfl) a5 0 20 (t := 103) (cs := St.cs s) (fun W h => h.out.2.1.blk) (St.cs s) (by rfl) (st_ext _) Tryz.underlying103 infoSta (st_le _)) hS ?_
     refine wpAnyH_take (i := 1) (v := ?_) rfl (by kernel_rfl) (by kernel_rfl) (by kernel_rfl) (fun _ _ _ h => h) (Or.inl ⟨by rfl, ?_⟩) hS ?_
     rotate_left
     ·(intro w _; go_simp; try with_reducible rfl)
     refine wpAnyH_take (i := 2) (v := ?_) rfl (by kernel_rfl) (by kernel_rfl) (by kernel_rfl) (fun _ _ _ h => h) (Or.inl ⟨by rfl, ?_⟩) hS ?_
     rotate_left
     ·(intro w _; go_simp; try with_reducible rfl)
     refine wpAnyH_take (i := 3) (v := ?_) rfl (by kernel_rfl) (by kernel_rfl) (by kernel_rfl) (fun _ _ _ h => h) (Or.inl ⟨by rfl, ?_⟩) hS ?_
     rotate_left
     ·(intro w _; go_simp; try with_reducible rfl)
     refine wpAnyH_take (i := 4) (v := .agg o.cs) rfl (by kernel_rfl) (by kernel_rfl) (by kernel_rfl) (fun _ _ _ h => h) (yields_op (by rfl) (.tmp 47) (by rfl) ab (off + k * 25) o (fun W h => h.out.2.2) (by rfl)) hS ?_
     refine wpAnyH_ready (rs := [5, 10]) (by kernel_rfl) (by simp) (AllReadyH.cons rfl (fun K hK => ?_) (AllReadyH.cons rfl (fun K hK => ?_) AllReadyH.nil))
     ·go_simp
      refine (cutop_any o _).mono ?_
      rintro e' V ⟨rfl, hb⟩
      have hS1 := Lib.hid (And.intro (hS.out.1.trans (Below.mono hb hS.out.1.size)) (And.intro (hS.out.2.1.bel hb) (hS.out.2.2.bel hb)))
      clear hb hS
      go_simp
      refine hK.out _ _ hS1 (fun _ => ?_)
      clear hK K
      refine wpAnyH_ready (rs := [6, 10]) (by kernel_rfl) (by simp) (AllReadyH.cons rfl (fun K hK => ?_) (AllReadyH.cons rfl (fun K hK => ?_) AllReadyH.nil))
      ·go_simp
       refine (HPL.out _ hS1.out.2.1.mem).mono ?_
       rintro e' V2 ⟨q, f, rfl, hb, hls, hq⟩
       have hS2 := Lib.hid (And.intro (hS1.out.1.trans (Below.mono hb hS1.out.1.size)) (And.intro (hS1.out.2.1.bel hb) (hS1.out.2.2.bel hb)))
       have HLS := Lib.hid hls
       have HQ := Lib.hid hq
       clear hb hls hq hS1
       go_simp
       refine hK.out _ _ hS2 (fun _ => ?_)
       clear hK K
       refine wpAnyH_take (i := 7) (v := ?_) rfl (by kernel_rfl) (by kernel_rfl) (by kernel_rfl) (fun _ _ _ h => h) (Or.inl ⟨by rfl, ?_⟩) hS2 ?_
       rotate_left
       ·(intro w _; go_simp; try with_reducible rfl)
       refine wpAnyH_take (i := 8) (v := ?_) rfl (by kernel_rfl) (by kernel_rfl) (by kernel_rfl) (fun _ _ _ h => h) (Or.inl ⟨by rfl, ?_⟩) hS2 ?_
       rotate_left
       ·(intro w _; go_simp; try with_reducible rfl)
       refine wpAnyH_take (i := 9) (v := ?_) rfl (by kernel_rfl) (by kernel_rfl) (by kernel_rfl) (fun _ _ _ h => h) (Or.inl ⟨by rfl, ?_⟩) hS2 ?_
       rotate_left
       ·(intro w _; go_simp; try with_reducible rfl)
       refine wpAnyH_ready (rs := [10]) (by kernel_rfl) (by simp) (AllReadyH.cons rfl (fun K hK => ?_) AllReadyH.nil)
       go_simp
       have hba : Below V2.heap.size V2 (V2.alloc (.cells zSt 103)) := (Below.refl _ _).alloc (Nat.le_refl _) _
       refine hK.out _ _ (Lib.hid (And.intro (hS2.out.1.trans (Below.mono hba hS2.out.1.size)) (And.intro (hS2.out.2.1.bel hba) (hS2.out.2.2.bel hba)))) (fun _ => ?_)
       clear hK K
       refine wpAnyH_ready (rs := [11]) (by kernel_rfl) (by simp) (AllReadyH.cons rfl (fun K hK => ?_) AllReadyH.nil)
       refine step_store_part (by rfl) 103 (.tmp 8) (.tmp 51) (by rfl) V2.heap.size 0 (Blk.new V2 _ _) (St.cs q) (St.cs q) (by rfl) (by rfl) (Nat.le_refl 20) infoSta (stcs_one _) (st_over _ rfl) ?_
       intro Y hb1 hc1
       have hbs := bel_st' hc1
       have hS3 := Lib.hid (And.intro (hS2.out.1.trans (Below.mono hbs hS2.out.1.size)) (And.intro (hS2.out.2.1.bel hbs) (hS2.out.2.2.bel hbs)))
       refine hK.out _ _ hS3 (fun _ => ?_)
       clear hK K
       refine wpAnyH_take (i := 12) (v := ?_) rfl (by kernel_rfl) (by kernel_rfl) (by kernel_rfl) (fun _ _ _ h => h) (Or.inl ⟨by rfl, ?_⟩) hS3 ?_
       rotate_left
       ·(intro w _; go_simp; try with_reducible rfl)
       refine wpAnyH_done (by kernel_rfl) ?_ _
       try go_simp
       try go_wp2_with fail
       go_meet
       exact ⟨_, q, f, rfl, rfl, Lib.hid hS3.out.1, Lib.hid hS3.out.2.1, Lib.hid (by obtain ⟨N, hls⟩ := HLS.out; exact ⟨hb1, N, hls.bel hbs⟩), HQ⟩
      ·go_simp
       have hba : Below V.heap.size V (V.alloc (.cells zSt 103)) := (Below.refl _ _).alloc (Nat.le_refl _) _
       have hZN : Blk (V.alloc (.cells zSt 103)) V.heap.size 103 zSt := Blk.new _ _ _
       have hS2 := Lib.hid (And.intro (hS1.out.1.trans (Below.mono hba hS1.out.1.size)) (And.intro (hS1.out.2.1.bel hba) (hS1.out.2.2.bel hba)))
       refine hK.out _ _ hS2 (fun _ => ?_)
       clear hK K
       refine wpAnyH_genT fun X1 hX1 => ?_
       replace hX1 : X1 = V.alloc (.cells zSt 103) := hX1
       rw [← hX1] at hba hZN hS2
       clear hX1
       refine wpAnyH_ready (rs := [6]) (by kernel_rfl) (by simp) (AllReadyH.cons rfl (fun K hK => ?_) AllReadyH.nil)
       go_simp
       refine (HPL.out _ hS2.out.2.1.mem).mono ?_
       rintro e' V2 ⟨q, f, rfl, hb, hls, hq⟩
       have hS3 := Lib.hid (And.intro (hS2.out.1.trans (Below.mono hb hS2.out.1.size)) (And.intro (hS2.out.2.1.bel hb) (hS2.out.2.2.bel hb)))
       have HLS := Lib.hid hls
       have HQ := Lib.hid hq
       have HZN := Lib.hid (hZN.bel hb)
       have hkd := HZN.out.kdT
       have hbx : Below V.heap.size V V2 := hba.trans (hb.mono hba.size)
       clear hb hls hq hS2 hZN hba
       go_simp
       refine hK.out _ _ hS3 (fun _ => ?_)
       clear hK K
       refine wpAnyH_take (i := 7) (v := ?_) rfl (by kernel_rfl) (by kernel_rfl) (by kernel_rfl) (fun _ _ _ h => h) (Or.inl ⟨by rfl, ?_⟩) hS3 ?_
       rotate_left
       ·(intro w _; go_simp; try with_reducible rfl)
       refine wpAnyH_take (i := 8) (v := ?_) rfl (by kernel_rfl) (by kernel_rfl) (by kernel_rfl) (fun _ _ _ h => h) (Or.inl ⟨by rfl, ?_⟩) hS3 ?_
       rotate_left
       ·(intro w _; go_simp; try with_reducible rfl)
       refine wpAnyH_take (i := 9) (v := ?_) rfl (by kernel_rfl) (by kernel_rfl) (by kernel_rfl) (fun _ _ _ h => h) (Or.inl ⟨by rfl, ?_⟩) hS3 ?_
       rotate_left
       ·(intro w _; go_simp; try with_reducible rfl)
       refine wpAnyH_ready (rs := [11]) (by kernel_rfl) (by simp) (AllReadyH.cons rfl (fun K hK => ?_) AllReadyH.nil)
       refine step_store_part (by rfl) 103 (.tmp 8) (.tmp 51) (by rfl) V.heap.size 0 HZN.out (St.cs q) (St.cs q) (by rfl) (by rfl) (Nat.le_refl 20) infoSta (stcs_one _) (st_over _ rfl) ?_
       intro Y hb1 hc1
       have hby : Below V.heap.size V Y := hbx.trans (hc1.below hbx.size (by simp))
       have hS4 := Lib.hid (And.intro (hS1.out.1.trans (Below.mono hby hS1.out.1.size)) (And.intro (hS1.out.2.1.bel hby) (hS1.out.2.2.bel hby)))
       refine hK.out _ _ hS4 (fun _ => ?_)
       clear hK K
       refine wpAnyH_take (i := 12) (v := ?_) rfl (by kernel_rfl) (by kernel_rfl) (by kernel_rfl) (fun _ _ _ h => h) (Or.inl ⟨by rfl, ?_⟩) hS4 ?_
       rotate_left
       ·(intro w _; go_simp; try with_reducible rfl)
       refine wpAnyH_done (by kernel_rfl) ?_ _
       try go_simp
       try go_wp2_with fail
       go_meet
       exact ⟨_, q, f, rfl, rfl, Lib.hid hS4.out.1, Lib.hid hS4.out.2.1, Lib.hid (by obtain ⟨N, hls⟩ := HLS.out; exact ⟨hb1, N, hls.ch hc1 hkd⟩), HQ⟩
     ·go_simp
      have hba : Below X.heap.size X (X.alloc (.cells zSt 103)) := (Below.refl _ _).alloc (Nat.le_refl _) _
      have hZN : Blk (X.alloc (.cells zSt 103)) X.heap.size 103 zSt := Blk.new _ _ _
      have hS1 := Lib.hid (And.intro (hS.out.1.trans (Below.mono hba hS.out.1.size)) (And.intro (hS.out.2.1.bel hba) (hS.out.2.2.bel hba)))
      refine hK.out _ _ hS1 (fun _ => ?_)
      clear hK K
      refine wpAnyH_genT fun X1 hX1 => ?_
      replace hX1 : X1 = X.alloc (.cells zSt 103) := hX1
      rw [← hX1] at hba hZN hS1
      clear hX1
      refine wpAnyH_ready (rs := [5]) (by kernel_rfl) (by simp) (AllReadyH.cons rfl (fun K hK => ?_) AllReadyH.nil)
      go_simp
      refine (cutop_any o _).mono ?_
      rintro e' V ⟨rfl, hb⟩
      have hS2 := Lib.hid (And.intro (hS1.out.1.trans (Below.mono hb hS1.out.1.size)) (And.intro (hS1.out.2.1.bel hb) (hS1.out.2.2.bel hb)))
      have hZ2 := hZN.bel hb
      have hb2 : Below X.heap.size X V := hba.trans (hb.mono hba.size)
      clear hb hS1 hZN hba
      go_simp
      refine hK.out _ _ hS2 (fun _ => ?_)
      clear hK K
      refine wpAnyH_ready (rs := [6]) (by kernel_rfl) (by simp) (AllReadyH.cons rfl (fun K hK => ?_) AllReadyH.nil)
      go_simp
      refine (HPL.out _ hS2.out.2.1.mem).mono ?_
      rintro e' V2 ⟨q, f, rfl, hb, hls, hq⟩
      have hS3 := Lib.hid (And.intro (hS2.out.1.trans (Below.mono hb hS2.out.1.size)) (And.intro (hS2.out.2.1.bel hb) (hS2.out.2.2.bel hb)))
      have HLS := Lib.hid hls
      have HQ := Lib.hid hq
      have HZN := Lib.hid (hZ2.bel hb)
      have hkd := HZN.out.kdT
      have hbx : Below X.heap.size X V2 := hb2.trans (hb.mono hb2.size)
      clear hb hls hq hS2 hZ2 hb2
      go_simp
      refine hK.out _ _ hS3 (fun _ => ?_)
      clear hK K
      refine wpAnyH_take (i := 7) (v := ?_) rfl (by kernel_rfl) (by kernel_rfl) (by kernel_rfl) (fun _ _ _ h => h) (Or.inl ⟨by rfl, ?_⟩) hS3 ?_
      rotate_left
      ·(intro w _; go_simp; try with_reducible rfl)
      refine wpAnyH_take (i := 8) (v := ?_) rfl (by kernel_rfl) (by kernel_rfl) (by kernel_rfl) (fun _ _ _ h => h) (Or.inl ⟨by rfl, ?_⟩) hS3 ?_
      rotate_left
      ·(intro w _; go_simp; try with_reducible rfl)
      refine wpAnyH_take (i := 9) (v := ?_) rfl (by kernel_rfl) (by kernel_rfl) (by kernel_rfl) (fun _ _ _ h => h) (Or.inl ⟨by rfl, ?_⟩) hS3 ?_
      rotate_left
      ·(intro w _; go_simp; try with_reducible rfl)
      refine wpAnyH_ready (rs := [11]) (by kernel_rfl) (by simp) (AllReadyH.cons rfl (fun K hK => ?_) AllReadyH.nil)
      refine step_store_part (by rfl) 103 (.tmp 8) (.tmp 51) (by rfl) X.heap.size 0 HZN.out (St.cs q) (St.cs q) (by rfl) (by rfl) (Nat.le_refl 20) infoSta (stcs_one _) (st_over _ rfl) ?_
      intro Y hb1 hc1
      have hby : Below X.heap.size X Y := hbx.trans (hc1.below hbx.size (by simp))
      have hS4 := Lib.hid (And.intro (hS.out.1.trans (Below.mono hby hS.out.1.size)) (And.intro (hS.out.2.1.bel hby) (hS.out.2.2.bel hby)))
      refine hK.out _ _ hS4 (fun _ => ?_)
      clear hK K
      refine wpAnyH_take (i := 12) (v := ?_) rfl (by kernel_rfl) (by kernel_rfl) (by kernel_rfl) (fun _ _ _ h => h) (Or.inl ⟨by rfl, ?_⟩) hS4 ?_
      rotate_left
      ·(intro w _; go_simp; try with_reducible rfl)
      refine wpAnyH_done (by kernel_rfl) ?_ _
      try go_simp
      try go_wp2_with fail
      go_meet
      exact ⟨_, q, f, rfl, rfl, Lib.hid hS4.out.1, Lib.hid hS4.out.2.1, Lib.hid (by obtain ⟨N, hls⟩ := HLS.out; exact ⟨hb1, N, hls.ch hc1 hkd⟩), HQ⟩
    case rest =>
     clear HB H5 HOP HPL
     obtain ⟨a8, q, f, rfl, rfl, HB, H5, H9, HPR⟩ := hcut
     by_cases hf : f = 0
     ·subst hf
      obtain ⟨hE, A', c', B', d', hq⟩ := HPR.out rfl
      have HI2 : Hid (Inv q mt) := Lib.hid (by rw [hq]; exact (play18_inv HI.out HFO.out hE).lists _ _ _ _)
      clear hE hq HPR HI HFO
      go_wp2_with (first
       | (refine wpList_load_blk rfl 103 (.tmp 8) rfl a8 0 20 H9.out.blk q.cs (by rfl) (st_ext _) Tryz.underlying103 infoSta (st_le _) ?_)
       | (refine wpList_store_part rfl 103 (.tmp 5) (.tmp 55) rfl a5 0 (cs := s.cs) H5.out.blk q.cs q.cs (by rfl) (by rfl) (st_le _) infoSta (stcs_one _) (st_over _ rfl) ?_; intro W13 hb1 hc1; replace HB := Lib.hid (HB.out.trans (hc1.below HB.out.size (by intro x hx; simp at hx; rw [hx]; exact ha5))); have H5' : Hid (StB W13 a5 q) := (by obtain ⟨N, hls⟩ := H9.out.ls; exact Lib.hid ⟨hb1, N, hls.ch hc1 H5.out.blk.kdT⟩); clear hb1 hc1))
      go_roundw
      case rel => exact ⟨k + 1, q, by omega, by omega, by go_num, HB, H5', HI2⟩
      case measure => simp [intOf]; omega
     ·have g1 : (f == 0) = false := beq_eq_false_iff_ne.2 hf
      clear hf HPR HFO
      go_wp2_with fail
      go_roundw
      case rel => exact ⟨k + 1, s, by omega, by omega, by go_num, HB, H5, HI⟩
      case measure => simp [intOf]; omega
  ·have hd : (decide (k < l.length) = true ∧ decide ((k : Int) < 16) = false) ∨ decide (k < l.length) = false := by
    by_cases hlt : k < l.length
    ·exact .inl ⟨decide_eq_true hlt, decide_eq_false (by omega)⟩
    ·exact .inr (decide_eq_false hlt)
   clear hx
   rcases hd with ⟨d1, d2⟩ | d1
   all_goals
    go_wp2_with (refine wpList_load_blk rfl 103 (.tmp 5) rfl a5 0 20 H5.out.blk s.cs (by rfl) (st_ext _) Tryz.underlying103 infoSta (st_le _) ?_)
    refine (cbuild_any s _ HI.out.good.fit H5.out.mem (by have := HI.out.tops; omega)).mono ?_
    rintro e' V3 ⟨t, rfl, hok, _, hb3⟩
    replace HB := Lib.hid (HB.out.trans (Below.mono hb3 HB.out.size))
    replace H5 := Lib.hid (H5.out.bel hb3)
    have HOK := Lib.hid hok
    obtain ⟨be, hbe⟩ : ∃ be, be = buildE s := ⟨_, rfl⟩
    rw [← hbe]
    have HBE := Lib.hid hbe
    have HA5 : Hid (a5 < V3.heap.size) := Lib.hid H5.out.blk.lt
    clear hok hb3 hbe
    go_upto_if 62 with (refine wpList_store_part rfl 53 (.tmp 10) (.tmp 59) rfl V3.heap.size 0 (cs := zTx) (Blk.new _ _ _) t.cs t.cs (by rfl) (by rfl) (Nat.le_refl 6) infoTx (txncs_one t) (txn_over t rfl) ?_; intro W4 hb1 hc1; have hb := bel_st' hc1; have H10 := Lib.hid hb1; have HB4 := Lib.hid hb; clear hb1 hc1 hb)
    replace HB := Lib.hid (HB.out.trans (HB4.out.mono HB.out.size))
    replace H5 := Lib.hid (H5.out.bel HB4.out)
    generalize V3.heap.size = g10 at H10 ⊢
    go_cut [] from 61 to 104 (fun wx => Hid (Below w0.heap.size w0 wx) ∧ Hid (StB wx a5 s))
    case first =>
     by_cases h0 : be = 0
     ·obtain ⟨hr, A1, c1, B1, d1x, PA1, pc1, ht⟩ := HOK.out (HBE.out ▸ h0)
      obtain ⟨q1, q2, ⟨o, rr, q3, q4⟩, q5, q6⟩ := claim_amounts (HBE.out ▸ h0) A1 c1 B1 d1x PA1 pc1
      have q7 := build_outs s
      rw [← buildX_outs s A1 c1 B1 d1x PA1 pc1] at q7
      rw [← ht] at q1 q2 q3 q5 q6 q7
      have HR := Lib.hid (hr.bel HB4.out)
      have n2 : t.outs.length ≤ 4 := (right_t q6).n2.2
      have hlen := HI.out.tops
      have c10 := blk_outs H10.out (rfl : t.outs.length = t.outs.length)
      have hwb := wholeV_bd s
      have HQ5 := Lib.hid q5
      have HQ6 := Lib.hid q6
      have HQ3 := Lib.hid q3
      have HQ4 := Lib.hid q4
      obtain ⟨nv, hnv⟩ : ∃ nv, nv = totV (ousI t.outs) := ⟨_, rfl⟩
      rw [← hnv] at q2
      have HQ2 := Lib.hid (And.intro q2 hwb)
      have HQ7 := Lib.hid q7
      have g0 : (be == 0) = true := by rw [h0]; rfl
      clear hr q1 q2 q3 q4 q5 q6 q7 hwb HOK
      have HQ1 : Hid (totE (ousI t.outs) = 0) := Lib.hid (by rw [ht]; exact (claim_amounts (HBE.out ▸ h0) A1 c1 B1 d1x PA1 pc1).1)
      have HNV := Lib.hid hnv
      have HQ8 : Hid (t.p.l.length ≤ 3) := Lib.hid (by rw [ht]; exact HI.out.wins)
      clear ht hnv h0
      go_wp2_with fail
      refine (coinwhole_any t.B t.outs t.d _ HR.out.mem.outs (by omega) (fun o ho => (HQ7.out o ho).1)).mono ?_
      rw [HQ1.out, ← HNV.out]
      rintro e' U1 ⟨rfl, hb6⟩
      replace HB := Lib.hid (HB.out.trans (Below.mono hb6 HB.out.size))
      replace H5 := Lib.hid (H5.out.bel hb6)
      replace H10 := Lib.hid (H10.out.bel hb6)
      replace HR := Lib.hid (HR.out.bel hb6)
      clear hb6 HNV HQ1 HQ7 c10
      go_upto_region 13 with fail
      obtain ⟨ob, oo, hB, hro⟩ := out_rows HR.out HQ3.out (by simp)
      have y0 : U1.cell? ⟨g10, 0, none⟩ = some (.slice t.A (1 + s.tops.length) t.c) := by rw [← HQ5.out]; exact H10.out.cell 0
      have y1 : U1.cell? ⟨g10, 1, none⟩ = some (.slice (some ⟨ob, oo, none⟩) t.outs.length t.d) := by rw [← hB]; exact H10.out.cell 1
      have y2 : U1.cell? ⟨ob, oo + 2, none⟩ = some (.string s.lock.o.gate) := by rw [← HQ4.out]; exact hro 0 _ rfl 2 _ rfl
      have y3 : U1.cell? ⟨a5, 5, none⟩ = some (.string s.lock.o.gate) := H5.out.blk.cell 5
      have y4 : U1.cell? ⟨a5, 11, none⟩ = some (.slice s.A s.tops.length s.c) := H5.out.blk.cell 11
      have e3 : (0 : Int) < (t.outs.length : Int) := by rw [HQ3.out, List.length_cons]; omega
      have w1 : IntKind.u64.wrap (nv + 10) = wholeV s := by rw [HQ2.out.1]; exact IntWalk.u64_in _ (by have := HQ2.out.2; omega)
      have w2 : wrap64 (1 + (s.tops.length : Int)) = ((1 + s.tops.length : Nat) : Int) := by rw [IntWalk.wrap64_in _ (by omega)]; omega
      have z1 : (wholeV s != wholeV s) = false := by rw [bne_self_eq_false]
      have z2 : (((1 + s.tops.length : Nat) : Int) != ((1 + s.tops.length : Nat) : Int)) = false := by rw [bne_self_eq_false]
      have z3 : (s.lock.o.gate.toList == s.lock.o.gate.toList) = true := beq_self_eq_true _
      have z4 : (!(s.lock.o.gate.toList == s.lock.o.gate.toList)) = false := by rw [z3]; rfl
      clear hB hro
      have K1 := fun W (hb : Below U1.heap.size U1 W) => Lib.hid (swhole_gen s W HI.out.good.fit (H5.out.bel hb).mem.tops)
      have K2 := fun W (hb : Below U1.heap.size U1 W) => Lib.hid (right_gen t W (HR.out.bel hb).mem (by have := (right_t HQ6.out).n1.2; omega) (by omega) (by have := HQ8.out; omega))
      rw [HQ6.out] at K2
      have x0 := cell_rg y0
      have x1 := cell_rg y1
      have x2 := cell_rg y2
      have x3 := cell_rg y3
      have x4 := cell_rg y4
      refine wp_region_quiet_below (by kernel_rfl) (by kernel_rfl) ?_
      repeat (first | go_big_quiet_skip | (go_big_quiet_want; first | ((first
             | (refine quiet_load_blk 103 (.tmp 5) rfl a5 0 20 H5.out.blk s.cs (by rfl) (st_ext s) Tryz.underlying103 infoSta (st_le s) ?_; go_simp)
             | (refine quiet_load_blk 53 (.tmp 10) rfl g10 0 6 H10.out t.cs (by rfl) (txn_ext t) Tryz.underlying53 infoTx (Nat.le_refl 6) ?_; go_simp)); go_big_quiet_on) | (go_big_quiet_op; first | go_big_quiet_on | go_big_quiet_call ((first
             | (go_at_call 53; with_reducible exact Calls.rg fun W hb => (K1 W hb).out)
             | (go_at_call 23; with_reducible exact Calls.rg fun W hb => (K2 W hb).out))))))
      refine wpQuiet_nil ?_
      intro U2 hp
      have hb := bel_regrown hp
      clear hp
      replace HB := Lib.hid (HB.out.trans (hb.mono HB.out.size))
      replace H5 := Lib.hid (H5.out.bel hb)
      clear hb K1 K2 x0 x1 x2 x3 x4 y0 y1 y2 y3 y4
      go_wp2_with fail
      go_meet
      exact ⟨HB, H5⟩
     ·have g0 : (be == 0) = false := beq_eq_false_iff_ne.2 h0
      clear h0
      go_wp2_with fail
      go_meet
      exact ⟨HB, H5⟩
    case rest =>
     clear HB H5 H10 HB4 HOK HBE HA5
     obtain ⟨HB, H5⟩ := hcut
     obtain ⟨be2, hbe2⟩ : ∃ b, b = backE (s.lock :: s.tops) s.lock.o.key := ⟨_, rfl⟩
     have HBE2 := Lib.hid hbe2
     have HTL : Hid (s.tops.length ≤ 3) := Lib.hid HI.out.tops
     have HAM : Hid (∀ e ∈ s.lock :: s.tops, e.o.am < 18446744073709551616) := Lib.hid (by intro e he; rcases List.mem_cons.1 he with rfl | he; exact HI.out.good.fit.lam; exact HI.out.good.fit.tams e he)
     have HLC : Hid (1 + s.tops.length = (s.lock :: s.tops).length) := Lib.hid (by rw [List.length_cons]; omega)
     have HLX : Hid ([s.lock].flatMap En.cl ++ s.tops.flatMap En.cl = (s.lock :: s.tops).flatMap En.cl) := Lib.hid (by simp)
     clear hbe2
     go_upto_region 17 with fail
     go_cut [14, 15] from 112 to 126 (fun v14 v15 wx => ∃ (g14 : Nat) (t : Txn), v14 = .pointer (some ⟨g14, 0, none⟩) ∧ v15 = .int .i64 be2 ∧ Hid (Below w0.heap.size w0 wx) ∧ Hid (StB wx a5 s) ∧ Hid (Blk wx g14 53 t.cs) ∧ Hid (be2 = 0 → TxRows 0 wx t ∧ ∃ A c B d, t = backX (s.lock :: s.tops) s.lock.o.key A c B d))
     case first =>
      obtain ⟨i0, hi, hz0, hz1, hz2⟩ := info_parts Tryz.infoEn'
      have Hhz := Lib.hid hz0
      clear hz0
      refine wp_region_held_drew (S := fun W => Hid (Below wc.heap.size wc W)) (by kernel_rfl) (Lib.hid (Below.refl _ _).drew) (fun hS0 => ?_)
      refine wpAnyH_genT fun X hX => ?_
      have hS : Hid (Below wc.heap.size wc X) := Lib.hid (by rw [hX]; exact (Below.refl _ _).drew)
      clear hX hS0
      refine wpAnyH_take (i := 0) (v := ?_) rfl (by kernel_rfl) (by kernel_rfl) (by kernel_rfl) (fun _ _ _ h => h) (Or.inl ⟨by rfl, ?_⟩) hS ?_
      rotate_left
      ·(intro w _; go_simp; try with_reducible rfl)
      refine wpAnyH_take (i := 1) (v := .agg s.lock.cs) rfl (by kernel_rfl) (by kernel_rfl) (by kernel_rfl) (fun _ _ _ h => h) (yields_blk (by rfl) 89 (.tmp 113) (by rfl) a5 0 11 (t := 103) (cs := s.cs) (fun W h => (H5.out.bel h.out).blk) s.lock.cs (by rfl) (st_lock s) Tryz.underlying89 infoEnt (by show 11 ≤ 20; omega)) hS ?_
      refine wpAnyH_take (i := 3) (v := ?_) rfl (by kernel_rfl) (by kernel_rfl) (by kernel_rfl) (fun _ _ _ h => h) (Or.inl ⟨by rfl, ?_⟩) hS ?_
      rotate_left
      ·(intro w _; go_simp; try with_reducible rfl)
      refine wpAnyH_take (i := 4) (v := ?_) rfl (by kernel_rfl) (by kernel_rfl) (by kernel_rfl) (fun _ _ _ h => h) (Or.inl ⟨by rfl, ?_⟩) hS ?_
      rotate_left
      ·(intro w hS'; have hcell := (show World.cell? _ ⟨a5, 11, none⟩ = some (.slice s.A s.tops.length s.c) from Blk.cell (H5.out.bel (Hid.out hS')).blk 11); go_simp; try with_reducible rfl)
      refine wpAnyH_take (i := 6) (v := ?_) rfl (by kernel_rfl) (by kernel_rfl) (by kernel_rfl) (fun _ _ _ h => h) (Or.inl ⟨by rfl, ?_⟩) hS ?_
      rotate_left
      ·(intro w _; go_simp; try with_reducible rfl)
      refine wpAnyH_take (i := 7) (v := ?_) rfl (by kernel_rfl) (by kernel_rfl) (by kernel_rfl) (fun _ _ _ h => h) (Or.inl ⟨by rfl, ?_⟩) hS ?_
      rotate_left
      ·(intro w _; go_simp; try with_reducible rfl)
      refine wpAnyH_take (i := 8) (v := ?_) rfl (by kernel_rfl) (by kernel_rfl) (by kernel_rfl) (fun _ _ _ h => h) (Or.inl ⟨by rfl, ?_⟩) hS ?_
      rotate_left
      ·(intro w _; go_simp; try with_reducible rfl)
      refine wpAnyH_take (i := 9) (v := ?_) rfl (by kernel_rfl) (by kernel_rfl) (by kernel_rfl) (fun _ _ _ h => h) (Or.inl ⟨by rfl, ?_⟩) hS ?_
      rotate_left
      ·(intro w hS'; have hcell := (show World.cell? _ ⟨a5, 4, none⟩ = some (.string s.lock.o.key) from Blk.cell (H5.out.bel (Hid.out hS')).blk 4); go_simp; try with_reducible rfl)
      refine wpAnyH_ready (rs := [2, 14]) (by kernel_rfl) (by simp) (AllReadyH.cons rfl (fun K hK => ?_) (AllReadyH.cons rfl (fun K hK => ?_) AllReadyH.nil))
      ·refine step_build_en (by rfl) (.tmp 114) (by rfl) s.lock (by go_simp) ?_
       have HBA : Hid (Below X.heap.size X (X.alloc (.cells s.lock.cs 89))) := Lib.hid ((Below.refl _ _).alloc (Nat.le_refl _) _)
       have HL : Hid ((X.alloc (.cells s.lock.cs 89)).ownsRow wc.heap.size 89 11 (.slice (some ⟨X.heap.size, 0, none⟩) 1 1) 1 ([s.lock].flatMap En.cl)) := Lib.hid (by rw [List.flatMap_singleton]; exact own_lit (n := 1) (k := 11) (cs := s.lock.cs) (Blk.new _ _ _) hS.out.size rfl (by decide))
       have hsq : Hid (Below wc.heap.size wc (X.alloc (.cells s.lock.cs 89))) := Lib.hid (hS.out.trans (HBA.out.mono hS.out.size))
       refine hK.out _ _ hsq (fun _ => ?_)
       clear hK K
       (try replace HZ := Lib.hid (HZ.out.bel HBA.out))
       refine wpAnyH_genT fun X1 hY => ?_
       replace hY : X1 = X.alloc (.cells s.lock.cs 89) := hY
       rw [← hY] at HL hsq
       have hS1 : Hid (Below wc.heap.size wc X1) := hsq
       (try rw [← hY] at HZ)
       clear hY hsq HBA
       refine wpAnyH_ready (rs := [5, 14]) (by kernel_rfl) (by simp) (AllReadyH.cons rfl (fun K hK => ?_) (AllReadyH.cons rfl (fun K hK => ?_) AllReadyH.nil))
       ·refine step_append_twoZ (by rfl) (.tmp 115) (.tmp 117) 85 (by rfl) 0 89 i0 _ 11 128 Tryz.underlying85 hi Hhz.out hz1 hz2 rfl (by omega) (.slice (some ⟨X.heap.size, 0, none⟩) 1 1) 1 ([s.lock].flatMap En.cl) (by go_simp) (HL.out.mono (Nat.zero_le _)) s.A s.tops.length s.c (s.tops.flatMap En.cl) (by go_simp) (flatMap_len En.cl 11 encl_len s.tops) (by obtain ⟨N, hls⟩ := (H5.out.bel hS1.out).ls; exact hls.r1.mono (Nat.zero_le _)) (by intro u hu; obtain ⟨o, _, ho⟩ := List.mem_flatMap.1 hu; exact encl_one o u ho) (by simp only [maxLen]; have := HTL.out; omega) (by have := HTL.out; omega) (Nat.zero_le _) ?_
        intro v' X2 hown hgrow
        rw [HLC.out, HLX.out] at hown
        obtain ⟨A4, c4, rfl⟩ := own_form hown
        have HROW := Lib.hid hown
        have hS2 : Hid (Below wc.heap.size wc X2) := Lib.hid (Below.grown hS1.out hgrow hS1.out.size (fun j hj => own_base HL.out j hj))
        (try replace HZ := Lib.hid (HZ.out.grown hgrow (blk_far HZ.out HL.out (by decide))))
        clear hown hgrow HL
        refine hK.out _ _ hS2 (fun _ => ?_)
        clear hK K
        refine wpAnyH_ready (rs := [10, 14]) (by kernel_rfl) (by simp) (AllReadyH.cons rfl (fun K hK => ?_) (AllReadyH.cons rfl (fun K hK => ?_) AllReadyH.nil))
        ·go_simp
         refine (cback_gen A4 (s.lock :: s.tops) c4 s.lock.o.key X2 (Sl.of_own encl_len HROW.out) (by rw [List.length_cons]; have := HTL.out; omega) HAM.out).mono ?_
         rintro e X3 ⟨t, rfl, hok, _, hb⟩
         rw [← HBE2.out] at hok ⊢
         have HOK := Lib.hid hok
         have hS3 : Hid (Below wc.heap.size wc X3) := Lib.hid (hS2.out.trans (Below.mono hb hS2.out.size))
         (try replace HZ := Lib.hid (HZ.out.bel hb))
         clear hok hb HROW
         go_simp
         refine hK.out _ _ hS3 (fun _ => ?_)
         clear hK K
         refine wpAnyH_take (i := 11) (v := ?_) rfl (by kernel_rfl) (by kernel_rfl) (by kernel_rfl) (fun _ _ _ h => h) (Or.inl ⟨by rfl, ?_⟩) hS3 ?_
         rotate_left
         ·(intro w _; go_simp; try with_reducible rfl)
         refine wpAnyH_take (i := 12) (v := ?_) rfl (by kernel_rfl) (by kernel_rfl) (by kernel_rfl) (fun _ _ _ h => h) (Or.inl ⟨by rfl, ?_⟩) hS3 ?_
         rotate_left
         ·(intro w _; go_simp; try with_reducible rfl)
         refine wpAnyH_take (i := 13) (v := ?_) rfl (by kernel_rfl) (by kernel_rfl) (by kernel_rfl) (fun _ _ _ h => h) (Or.inl ⟨by rfl, ?_⟩) hS3 ?_
         rotate_left
         ·(intro w _; go_simp; try with_reducible rfl)
         refine wpAnyH_ready (rs := [14]) (by kernel_rfl) (by simp) (AllReadyH.cons rfl (fun K hK => ?_) AllReadyH.nil)
         go_simp
         have HBA : Hid (Below X3.heap.size X3 (X3.alloc (.cells zTx 53))) := Lib.hid ((Below.refl _ _).alloc (Nat.le_refl _) _)
         have hsq : Hid (Below wc.heap.size wc (X3.alloc (.cells zTx 53))) := Lib.hid (hS3.out.trans (HBA.out.mono hS3.out.size))
         refine hK.out _ _ hsq (fun _ => ?_)
         clear hK K
         refine wpAnyH_genT fun X4 hY => ?_
         replace hY : X4 = X3.alloc (.cells zTx 53) := hY
         have HZ : Hid (Blk X4 X3.heap.size 53 zTx) := Lib.hid (by rw [hY]; exact Blk.new _ _ _)
         have HGZ : Hid (wc.heap.size ≤ X3.heap.size) := Lib.hid hS3.out.size
         rw [← hY] at HBA hsq
         have hS4 : Hid (Below wc.heap.size wc X4) := hsq
         clear hY hsq
         try replace HL := Lib.hid (own_belT HL.out HBA.out)
         try replace HROW := Lib.hid (own_belT HROW.out HBA.out)
         try replace HOK := Lib.hid (fun q => And.intro ((HOK.out q).1.bel HBA.out) (HOK.out q).2)
         clear HBA
         refine wpAnyH_ready (rs := [15]) (by kernel_rfl) (by simp) (AllReadyH.cons rfl (fun K hK => ?_) AllReadyH.nil)
         refine step_store_part (by rfl) 53 (.tmp 14) (.tmp 124) (by rfl) X3.heap.size 0 HZ.out t.cs t.cs (by go_simp) (by go_simp) (Nat.le_refl 6) infoTx (txncs_one t) (txn_over t rfl) ?_
         intro Z hz3 hz4
         have HSZ : Hid (Below wc.heap.size wc Z) := Lib.hid (hS4.out.trans (hz4.below hS4.out.size (by intro x hx; simp at hx; rw [hx]; exact HGZ.out)))
         refine hK.out _ _ HSZ (fun _ => ?_)
         clear hK K
         refine wpAnyH_take (i := 16) (v := ?_) rfl (by kernel_rfl) (by kernel_rfl) (by kernel_rfl) (fun _ _ _ h => h) (Or.inl ⟨by rfl, ?_⟩) HSZ ?_
         rotate_left
         ·(intro w _; go_simp; try with_reducible rfl)
         refine wpAnyH_done (by kernel_rfl) ?_ _
         try go_simp
         try go_wp2_with fail
         go_meet
         exact ⟨_, t, rfl, rfl, Lib.hid (HB.out.trans (HSZ.out.mono HB.out.size)), Lib.hid (H5.out.bel HSZ.out), Lib.hid hz3, Lib.hid (fun q => ⟨((HOK.out q).1.ch hz4 HZ.out.kdT (by decide) (by decide) (by decide)).mono (Nat.zero_le _), (HOK.out q).2⟩)⟩
        ·go_simp
         have HBA : Hid (Below X2.heap.size X2 (X2.alloc (.cells zTx 53))) := Lib.hid ((Below.refl _ _).alloc (Nat.le_refl _) _)
         have hsq : Hid (Below wc.heap.size wc (X2.alloc (.cells zTx 53))) := Lib.hid (hS2.out.trans (HBA.out.mono hS2.out.size))
         refine hK.out _ _ hsq (fun _ => ?_)
         clear hK K
         refine wpAnyH_genT fun X3 hY => ?_
         replace hY : X3 = X2.alloc (.cells zTx 53) := hY
         have HZ : Hid (Blk X3 X2.heap.size 53 zTx) := Lib.hid (by rw [hY]; exact Blk.new _ _ _)
         have HGZ : Hid (wc.heap.size ≤ X2.heap.size) := Lib.hid hS2.out.size
         rw [← hY] at HBA hsq
         have hS3 : Hid (Below wc.heap.size wc X3) := hsq
         clear hY hsq
         try replace HL := Lib.hid (own_belT HL.out HBA.out)
         try replace HROW := Lib.hid (own_belT HROW.out HBA.out)
         try replace HOK := Lib.hid (fun q => And.intro ((HOK.out q).1.bel HBA.out) (HOK.out q).2)
         clear HBA
         refine wpAnyH_ready (rs := [10]) (by kernel_rfl) (by simp) (AllReadyH.cons rfl (fun K hK => ?_) AllReadyH.nil)
         go_simp
         refine (cback_gen A4 (s.lock :: s.tops) c4 s.lock.o.key X3 (Sl.of_own encl_len HROW.out) (by rw [List.length_cons]; have := HTL.out; omega) HAM.out).mono ?_
         rintro e X4 ⟨t, rfl, hok, _, hb⟩
         rw [← HBE2.out] at hok ⊢
         have HOK := Lib.hid hok
         have hS4 : Hid (Below wc.heap.size wc X4) := Lib.hid (hS3.out.trans (Below.mono hb hS3.out.size))
         (try replace HZ := Lib.hid (HZ.out.bel hb))
         clear hok hb HROW
         go_simp
         refine hK.out _ _ hS4 (fun _ => ?_)
         clear hK K
         refine wpAnyH_take (i := 11) (v := ?_) rfl (by kernel_rfl) (by kernel_rfl) (by kernel_rfl) (fun _ _ _ h => h) (Or.inl ⟨by rfl, ?_⟩) hS4 ?_
         rotate_left
         ·(intro w _; go_simp; try with_reducible rfl)
         refine wpAnyH_take (i := 12) (v := ?_) rfl (by kernel_rfl) (by kernel_rfl) (by kernel_rfl) (fun _ _ _ h => h) (Or.inl ⟨by rfl, ?_⟩) hS4 ?_
         rotate_left
         ·(intro w _; go_simp; try with_reducible rfl)
         refine wpAnyH_take (i := 13) (v := ?_) rfl (by kernel_rfl) (by kernel_rfl) (by kernel_rfl) (fun _ _ _ h => h) (Or.inl ⟨by rfl, ?_⟩) hS4 ?_
         rotate_left
         ·(intro w _; go_simp; try with_reducible rfl)
         refine wpAnyH_ready (rs := [15]) (by kernel_rfl) (by simp) (AllReadyH.cons rfl (fun K hK => ?_) AllReadyH.nil)
         refine step_store_part (by rfl) 53 (.tmp 14) (.tmp 124) (by rfl) X2.heap.size 0 HZ.out t.cs t.cs (by go_simp) (by go_simp) (Nat.le_refl 6) infoTx (txncs_one t) (txn_over t rfl) ?_
         intro Z hz3 hz4
         have HSZ : Hid (Below wc.heap.size wc Z) := Lib.hid (hS4.out.trans (hz4.below hS4.out.size (by intro x hx; simp at hx; rw [hx]; exact HGZ.out)))
         refine hK.out _ _ HSZ (fun _ => ?_)
         clear hK K
         refine wpAnyH_take (i := 16) (v := ?_) rfl (by kernel_rfl) (by kernel_rfl) (by kernel_rfl) (fun _ _ _ h => h) (Or.inl ⟨by rfl, ?_⟩) HSZ ?_
         rotate_left
         ·(intro w _; go_simp; try with_reducible rfl)
         refine wpAnyH_done (by kernel_rfl) ?_ _
         try go_simp
         try go_wp2_with fail
         go_meet
         exact ⟨_, t, rfl, rfl, Lib.hid (HB.out.trans (HSZ.out.mono HB.out.size)), Lib.hid (H5.out.bel HSZ.out), Lib.hid hz3, Lib.hid (fun q => ⟨((HOK.out q).1.ch hz4 HZ.out.kdT (by decide) (by decide) (by decide)).mono (Nat.zero_le _), (HOK.out q).2⟩)⟩
       ·go_simp
        have HBA : Hid (Below X1.heap.size X1 (X1.alloc (.cells zTx 53))) := Lib.hid ((Below.refl _ _).alloc (Nat.le_refl _) _)
        have hsq : Hid (Below wc.heap.size wc (X1.alloc (.cells zTx 53))) := Lib.hid (hS1.out.trans (HBA.out.mono hS1.out.size))
        refine hK.out _ _ hsq (fun _ => ?_)
        clear hK K
        refine wpAnyH_genT fun X2 hY => ?_
        replace hY : X2 = X1.alloc (.cells zTx 53) := hY
        have HZ : Hid (Blk X2 X1.heap.size 53 zTx) := Lib.hid (by rw [hY]; exact Blk.new _ _ _)
        have HGZ : Hid (wc.heap.size ≤ X1.heap.size) := Lib.hid hS1.out.size
        rw [← hY] at HBA hsq
        have hS2 : Hid (Below wc.heap.size wc X2) := hsq
        clear hY hsq
        try replace HL := Lib.hid (own_belT HL.out HBA.out)
        try replace HROW := Lib.hid (own_belT HROW.out HBA.out)
        try replace HOK := Lib.hid (fun q => And.intro ((HOK.out q).1.bel HBA.out) (HOK.out q).2)
        clear HBA
        refine wpAnyH_ready (rs := [5]) (by kernel_rfl) (by simp) (AllReadyH.cons rfl (fun K hK => ?_) AllReadyH.nil)
        refine step_append_twoZ (by rfl) (.tmp 115) (.tmp 117) 85 (by rfl) 0 89 i0 _ 11 128 Tryz.underlying85 hi Hhz.out hz1 hz2 rfl (by omega) (.slice (some ⟨X.heap.size, 0, none⟩) 1 1) 1 ([s.lock].flatMap En.cl) (by go_simp) (HL.out.mono (Nat.zero_le _)) s.A s.tops.length s.c (s.tops.flatMap En.cl) (by go_simp) (flatMap_len En.cl 11 encl_len s.tops) (by obtain ⟨N, hls⟩ := (H5.out.bel hS2.out).ls; exact hls.r1.mono (Nat.zero_le _)) (by intro u hu; obtain ⟨o, _, ho⟩ := List.mem_flatMap.1 hu; exact encl_one o u ho) (by simp only [maxLen]; have := HTL.out; omega) (by have := HTL.out; omega) (Nat.zero_le _) ?_
        intro v' X3 hown hgrow
        rw [HLC.out, HLX.out] at hown
        obtain ⟨A4, c4, rfl⟩ := own_form hown
        have HROW := Lib.hid hown
        have hS3 : Hid (Below wc.heap.size wc X3) := Lib.hid (Below.grown hS2.out hgrow hS2.out.size (fun j hj => own_base HL.out j hj))
        (try replace HZ := Lib.hid (HZ.out.grown hgrow (blk_far HZ.out HL.out (by decide))))
        clear hown hgrow HL
        refine hK.out _ _ hS3 (fun _ => ?_)
        clear hK K
        refine wpAnyH_ready (rs := [10]) (by kernel_rfl) (by simp) (AllReadyH.cons rfl (fun K hK => ?_) AllReadyH.nil)
        go_simp
        refine (cback_gen A4 (s.lock :: s.tops) c4 s.lock.o.key X3 (Sl.of_own encl_len HROW.out) (by rw [List.length_cons]; have := HTL.out; omega) HAM.out).mono ?_
        rintro e X4 ⟨t, rfl, hok, _, hb⟩
        rw [← HBE2.out] at hok ⊢
        have HOK := Lib.hid hok
        have hS4 : Hid (Below wc.heap.size wc X4) := Lib.hid (hS3.out.trans (Below.mono hb hS3.out.size))
        (try replace HZ := Lib.hid (HZ.out.bel hb))
        clear hok hb HROW
        go_simp
        refine hK.out _ _ hS4 (fun _ => ?_)
        clear hK K
        refine wpAnyH_take (i := 11) (v := ?_) rfl (by kernel_rfl) (by kernel_rfl) (by kernel_rfl) (fun _ _ _ h => h) (Or.inl ⟨by rfl, ?_⟩) hS4 ?_
        rotate_left
        ·(intro w _; go_simp; try with_reducible rfl)
        refine wpAnyH_take (i := 12) (v := ?_) rfl (by kernel_rfl) (by kernel_rfl) (by kernel_rfl) (fun _ _ _ h => h) (Or.inl ⟨by rfl, ?_⟩) hS4 ?_
        rotate_left
        ·(intro w _; go_simp; try with_reducible rfl)
        refine wpAnyH_take (i := 13) (v := ?_) rfl (by kernel_rfl) (by kernel_rfl) (by kernel_rfl) (fun _ _ _ h => h) (Or.inl ⟨by rfl, ?_⟩) hS4 ?_
        rotate_left
        ·(intro w _; go_simp; try with_reducible rfl)
        refine wpAnyH_ready (rs := [15]) (by kernel_rfl) (by simp) (AllReadyH.cons rfl (fun K hK => ?_) AllReadyH.nil)
        refine step_store_part (by rfl) 53 (.tmp 14) (.tmp 124) (by rfl) X1.heap.size 0 HZ.out t.cs t.cs (by go_simp) (by go_simp) (Nat.le_refl 6) infoTx (txncs_one t) (txn_over t rfl) ?_
        intro Z hz3 hz4
        have HSZ : Hid (Below wc.heap.size wc Z) := Lib.hid (hS4.out.trans (hz4.below hS4.out.size (by intro x hx; simp at hx; rw [hx]; exact HGZ.out)))
        refine hK.out _ _ HSZ (fun _ => ?_)
        clear hK K
        refine wpAnyH_take (i := 16) (v := ?_) rfl (by kernel_rfl) (by kernel_rfl) (by kernel_rfl) (fun _ _ _ h => h) (Or.inl ⟨by rfl, ?_⟩) HSZ ?_
        rotate_left
        ·(intro w _; go_simp; try with_reducible rfl)
        refine wpAnyH_done (by kernel_rfl) ?_ _
        try go_simp
        try go_wp2_with fail
        go_meet
        exact ⟨_, t, rfl, rfl, Lib.hid (HB.out.trans (HSZ.out.mono HB.out.size)), Lib.hid (H5.out.bel HSZ.out), Lib.hid hz3, Lib.hid (fun q => ⟨((HOK.out q).1.ch hz4 HZ.out.kdT (by decide) (by decide) (by decide)).mono (Nat.zero_le _), (HOK.out q).2⟩)⟩
      ·go_simp
       have HBA : Hid (Below X.heap.size X (X.alloc (.cells zTx 53))) := Lib.hid ((Below.refl _ _).alloc (Nat.le_refl _) _)
       have hsq : Hid (Below wc.heap.size wc (X.alloc (.cells zTx 53))) := Lib.hid (hS.out.trans (HBA.out.mono hS.out.size))
       refine hK.out _ _ hsq (fun _ => ?_)
       clear hK K
       refine wpAnyH_genT fun X1 hY => ?_
       replace hY : X1 = X.alloc (.cells zTx 53) := hY
       have HZ : Hid (Blk X1 X.heap.size 53 zTx) := Lib.hid (by rw [hY]; exact Blk.new _ _ _)
       have HGZ : Hid (wc.heap.size ≤ X.heap.size) := Lib.hid hS.out.size
       rw [← hY] at HBA hsq
       have hS1 : Hid (Below wc.heap.size wc X1) := hsq
       clear hY hsq
       try replace HL := Lib.hid (own_belT HL.out HBA.out)
       try replace HROW := Lib.hid (own_belT HROW.out HBA.out)
       try replace HOK := Lib.hid (fun q => And.intro ((HOK.out q).1.bel HBA.out) (HOK.out q).2)
       clear HBA
       refine wpAnyH_ready (rs := [2]) (by kernel_rfl) (by simp) (AllReadyH.cons rfl (fun K hK => ?_) AllReadyH.nil)
       refine step_build_en (by rfl) (.tmp 114) (by rfl) s.lock (by go_simp) ?_
       have HBA : Hid (Below X1.heap.size X1 (X1.alloc (.cells s.lock.cs 89))) := Lib.hid ((Below.refl _ _).alloc (Nat.le_refl _) _)
       have HL : Hid ((X1.alloc (.cells s.lock.cs 89)).ownsRow wc.heap.size 89 11 (.slice (some ⟨X1.heap.size, 0, none⟩) 1 1) 1 ([s.lock].flatMap En.cl)) := Lib.hid (by rw [List.flatMap_singleton]; exact own_lit (n := 1) (k := 11) (cs := s.lock.cs) (Blk.new _ _ _) hS1.out.size rfl (by decide))
       have hsq : Hid (Below wc.heap.size wc (X1.alloc (.cells s.lock.cs 89))) := Lib.hid (hS1.out.trans (HBA.out.mono hS1.out.size))
       refine hK.out _ _ hsq (fun _ => ?_)
       clear hK K
       (try replace HZ := Lib.hid (HZ.out.bel HBA.out))
       refine wpAnyH_genT fun X2 hY => ?_
       replace hY : X2 = X1.alloc (.cells s.lock.cs 89) := hY
       rw [← hY] at HL hsq
       have hS2 : Hid (Below wc.heap.size wc X2) := hsq
       (try rw [← hY] at HZ)
       clear hY hsq HBA
       refine wpAnyH_ready (rs := [5]) (by kernel_rfl) (by simp) (AllReadyH.cons rfl (fun K hK => ?_) AllReadyH.nil)
       refine step_append_twoZ (by rfl) (.tmp 115) (.tmp 117) 85 (by rfl) 0 89 i0 _ 11 128 Tryz.underlying85 hi Hhz.out hz1 hz2 rfl (by omega) (.slice (some ⟨X1.heap.size, 0, none⟩) 1 1) 1 ([s.lock].flatMap En.cl) (by go_simp) (HL.out.mono (Nat.zero_le _)) s.A s.tops.length s.c (s.tops.flatMap En.cl) (by go_simp) (flatMap_len En.cl 11 encl_len s.tops) (by obtain ⟨N, hls⟩ := (H5.out.bel hS2.out).ls; exact hls.r1.mono (Nat.zero_le _)) (by intro u hu; obtain ⟨o, _, ho⟩ := List.mem_flatMap.1 hu; exact encl_one o u ho) (by simp only [maxLen]; have := HTL.out; omega) (by have := HTL.out; omega) (Nat.zero_le _) ?_
       intro v' X3 hown hgrow
       rw [HLC.out, HLX.out] at hown
       obtain ⟨A4, c4, rfl⟩ := own_form hown
       have HROW := Lib.hid hown
       have hS3 : Hid (Below wc.heap.size wc X3) := Lib.hid (Below.grown hS2.out hgrow hS2.out.size (fun j hj => own_base HL.out j hj))
       (try replace HZ := Lib.hid (HZ.out.grown hgrow (blk_far HZ.out HL.out (by decide))))
       clear hown hgrow HL
       refine hK.out _ _ hS3 (fun _ => ?_)
       clear hK K
       refine wpAnyH_ready (rs := [10]) (by kernel_rfl) (by simp) (AllReadyH.cons rfl (fun K hK => ?_) AllReadyH.nil)
       go_simp
       refine (cback_gen A4 (s.lock :: s.tops) c4 s.lock.o.key X3 (Sl.of_own encl_len HROW.out) (by rw [List.length_cons]; have := HTL.out; omega) HAM.out).mono ?_
       rintro e X4 ⟨t, rfl, hok, _, hb⟩
       rw [← HBE2.out] at hok ⊢
       have HOK := Lib.hid hok
       have hS4 : Hid (Below wc.heap.size wc X4) := Lib.hid (hS3.out.trans (Below.mono hb hS3.out.size))
       (try replace HZ := Lib.hid (HZ.out.bel hb))
       clear hok hb HROW
       go_simp
       refine hK.out _ _ hS4 (fun _ => ?_)
       clear hK K
       refine wpAnyH_take (i := 11) (v := ?_) rfl (by kernel_rfl) (by kernel_rfl) (by kernel_rfl) (fun _ _ _ h => h) (Or.inl ⟨by rfl, ?_⟩) hS4 ?_
       rotate_left
       ·(intro w _; go_simp; try with_reducible rfl)
       refine wpAnyH_take (i := 12) (v := ?_) rfl (by kernel_rfl) (by kernel_rfl) (by kernel_rfl) (fun _ _ _ h => h) (Or.inl ⟨by rfl, ?_⟩) hS4 ?_
       rotate_left
       ·(intro w _; go_simp; try with_reducible rfl)
       refine wpAnyH_take (i := 13) (v := ?_) rfl (by kernel_rfl) (by kernel_rfl) (by kernel_rfl) (fun _ _ _ h => h) (Or.inl ⟨by rfl, ?_⟩) hS4 ?_
       rotate_left
       ·(intro w _; go_simp; try with_reducible rfl)
       refine wpAnyH_ready (rs := [15]) (by kernel_rfl) (by simp) (AllReadyH.cons rfl (fun K hK => ?_) AllReadyH.nil)
       refine step_store_part (by rfl) 53 (.tmp 14) (.tmp 124) (by rfl) X.heap.size 0 HZ.out t.cs t.cs (by go_simp) (by go_simp) (Nat.le_refl 6) infoTx (txncs_one t) (txn_over t rfl) ?_
       intro Z hz3 hz4
       have HSZ : Hid (Below wc.heap.size wc Z) := Lib.hid (hS4.out.trans (hz4.below hS4.out.size (by intro x hx; simp at hx; rw [hx]; exact HGZ.out)))
       refine hK.out _ _ HSZ (fun _ => ?_)
       clear hK K
       refine wpAnyH_take (i := 16) (v := ?_) rfl (by kernel_rfl) (by kernel_rfl) (by kernel_rfl) (fun _ _ _ h => h) (Or.inl ⟨by rfl, ?_⟩) HSZ ?_
       rotate_left
       ·(intro w _; go_simp; try with_reducible rfl)
       refine wpAnyH_done (by kernel_rfl) ?_ _
       try go_simp
       try go_wp2_with fail
       go_meet
       exact ⟨_, t, rfl, rfl, Lib.hid (HB.out.trans (HSZ.out.mono HB.out.size)), Lib.hid (H5.out.bel HSZ.out), Lib.hid hz3, Lib.hid (fun q => ⟨((HOK.out q).1.ch hz4 HZ.out.kdT (by decide) (by decide) (by decide)).mono (Nat.zero_le _), (HOK.out q).2⟩)⟩
     case rest =>
      clear HB H5 HTL HAM HLC HLX
      obtain ⟨g14, t, rfl, rfl, HB, H5, H14, HR⟩ := hcut
      have HWH := fun W (hb : Below wc.heap.size wc W) => Lib.hid (swhole_gen s W HI.out.good.fit (H5.out.bel hb).mem.tops)
      by_cases hb0 : be2 = 0
      ·obtain ⟨hr, A, c, B, d, ht⟩ := HR.out hb0
       obtain ⟨q1, q2, q3⟩ := back_amounts (key := s.lock.o.key) (by rw [← HBE2.out]; exact hb0) A c B d
       have q4 := back_am (s.lock :: s.tops) s.lock.o.key A c B d
       rw [← ht] at q1 q2 q3 q4
       have hwb := wholeV_bd s
       obtain ⟨nv, hnv⟩ : ∃ nv, nv = totV (ousI t.outs) := ⟨_, rfl⟩
       rw [← hnv] at q2
       have w1 : IntKind.u64.wrap (nv + 10) = wholeV s := by rw [q2]; exact IntWalk.u64_in _ (by omega)
       have HW1 := Lib.hid w1
       have HRR := Lib.hid hr
       have HQ1 := Lib.hid q1
       have HQ3 := Lib.hid q3
       have HQ4 := Lib.hid q4
       have HNV := Lib.hid hnv
       have g0 : (be2 != 0) = false := by rw [hb0]; rfl
       have c14 := blk_outs H14.out q3
       clear hr ht q1 q2 q3 q4 hwb hnv hb0 HR w1
       go_wp2_with fail
       have hcw := coinwhole_any t.B t.outs t.d wc HRR.out.mem.outs (by rw [HQ3.out]; omega) HQ4.out
       rw [HQ1.out, ← HNV.out, HQ3.out] at hcw
       refine hcw.mono ?_
       rintro e' U1 ⟨rfl, hb6⟩
       have HBU := Lib.hid (show Below wc.heap.size wc U1 from hb6)
       have c15 : U1.cell? ⟨g14, 1, none⟩ = some (.slice t.B 1 t.d) := blk_outs (H14.out.bel hb6) HQ3.out
       have H5U := Lib.hid (H5.out.bel hb6)
       have w1 := HW1.out
       have z1 : (wholeV s == wholeV s) = true := beq_self_eq_true _
       clear hb6 c14
       go_wp2_with (refine wpList_load_blkG (by rfl) 103 (.tmp 5) rfl a5 0 20 H5U.out.blk s.cs (by rfl) (st_ext _) Tryz.underlying103 infoSta (st_le _) ?_)
       refine (HWH _ HBU.out).out.mono ?_
       rintro e' U2 ⟨rfl, hb7⟩
       have HBV := Lib.hid (HBU.out.trans (Below.mono hb7 HBU.out.size))
       have c16 : U2.cell? ⟨g14, 1, none⟩ = some (.slice t.B 1 t.d) := blk_outs (H14.out.bel HBV.out) HQ3.out
       clear hb7 c15
       go_wp2_with fail
       refine (fixed18_any _).mono ?_
       rintro e' U3 ⟨rfl, hb8⟩
       replace HB := Lib.hid (HB.out.trans ((HBV.out.trans (Below.mono hb8 HBV.out.size)).mono HB.out.size))
       go_wp2_with fail
       go_ret
       exact ⟨rfl, HB.out⟩
      ·have g0 : (be2 != 0) = true := by rw [bne_iff_ne]; exact hb0
       by_cases h11 : be2 = 11
       ·have hl := back_low (key := s.lock.o.key) (by rw [← HBE2.out]; exact h11)
        have d1 : decide (wholeV s ≤ 10) = true := decide_eq_true hl
        have g1 : (be2 != 11) = false := by rw [h11]; rfl
        clear hl h11 hb0 HR
        go_wp2_with (refine wpList_load_blkG (by rfl) 103 (.tmp 5) rfl a5 0 20 H5.out.blk s.cs (by rfl) (st_ext _) Tryz.underlying103 infoSta (st_le _) ?_)
        refine (HWH _ (Below.refl _ _)).out.mono ?_
        rintro e' U2 ⟨rfl, hb7⟩
        replace HB := Lib.hid (HB.out.trans (Below.mono hb7 HB.out.size))
        clear hb7
        go_wp2_with fail
        refine (fixed18_any _).mono ?_
        rintro e' U3 ⟨rfl, hb8⟩
        replace HB := Lib.hid (HB.out.trans (Below.mono hb8 HB.out.size))
        go_wp2_with fail
        go_ret
        exact ⟨rfl, HB.out⟩
       ·have g1 : (be2 != 11) = true := by rw [bne_iff_ne]; exact h11
        clear h11 hb0 HR
        go_wp2_with fail
        refine (fixed18_any _).mono ?_
        rintro e' U3 ⟨rfl, hb8⟩
        replace HB := Lib.hid (HB.out.trans (Below.mono hb8 HB.out.size))
        go_wp2_with fail
        go_ret
        exact ⟨rfl, HB.out⟩
end
end Go.Proofs.YtjcinncphffgaaaGreat
