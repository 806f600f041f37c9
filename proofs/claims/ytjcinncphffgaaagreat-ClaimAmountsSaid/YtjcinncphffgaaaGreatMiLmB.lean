/- law18's ClaimAmounts: the walk. -/
import Derived.Outline
import Derived.Deep.RegionHeld3
import Derived.Deep.DeepCutAuto
import Derived.Deep.CutBlock
import Derived.Test.YtjcinncphffgaaaGreatMiFixN
import Derived.Test.YtjcinncphffgaaaGreatMiFqC
import Derived.Test.YtjcinncphffgaaaGreatMiLmA
set_option linter.unusedVariables false
set_option linter.unusedSimpArgs false
namespace Go.Proofs.YtjcinncphffgaaaGreat
section
open Go.RowKit Go.Maps
theorem zS_fit : zS.fit := ⟨by decide, by decide, by decide, by decide, by decide, by decide, (by intro e he; cases he), by decide, by decide, by decide⟩
theorem zS_mem (w : World) : zS.mem w := ⟨Sl.nil _ _ _ _ _, Sl.nil _ _ _ _ _, fun _ => rfl, fun _ => rfl⟩
theorem zS_build : buildE zS = 11 := by
 have h : paysF (worthV zS).toNat (wholeV zS).toNat = 11 := by decide +kernel
 unfold buildE lookF
 rw [h, if_neg (by decide)]
set_option maxRecDepth 100000 in
set_option maxHeartbeats 4000000 in
theorem camounts_big (e : En) (A : Option Addr) (l : List Op17) (c : Nat) (w0 : World) (h3 : ¬ e.o.tok ≤ 300) :
  Calls Tryz.prog 7 #[.agg e.cs, .slice A l.length c] w0 fun e' w' => e' = .returned (.bool true) ∧ Below w0.heap.size w0 w' := by
 have HX := Lib.hid (Blk.new w0 89 e.cs)
 have g3 : decide ((300 : Int) < e.o.tok) = true := decide_eq_true (by omega)
 have g3' : decide (e.o.tok > 300) = true := g3
 cases hb : newB (cutE e) (fitsB (cutE e).o) with
 | false =>
  go_enter Tryz.func7, Tryz.ntmps7
  go_wp2_with (refine wpList_load_blk rfl 89 (.tmp 2) rfl w0.heap.size 0 11 HX.out e.cs (by rfl) (en_ext e) Tryz.underlying89 infoEnt (Nat.le_refl 11) ?_)
  refine (cut18_any e _).mono ?_
  rintro e' V1 ⟨rfl, hb1⟩
  have HB : Hid (Below w0.heap.size w0 V1) := Lib.hid (((Below.refl _ _).alloc (Nat.le_refl _) _).trans (hb1.mono (by simp)))
  replace HX := Lib.hid (HX.out.bel hb1)
  clear hb1
  go_wp2_with fail
  refine (xnew_any (cutE e) _ (fitsB (cutE e).o) (fun W => fits_gen (cutE e).o W)).mono ?_
  rw [hb]
  rintro e' V2 ⟨rfl, hb2⟩
  replace HB := Lib.hid (HB.out.trans (hb2.mono HB.out.size))
  replace HX := Lib.hid (HX.out.bel hb2)
  clear hb2
  simp only [if_true, if_false, Bool.false_eq_true]
  go_upto_region 2 with (refine wpList_store_part rfl 103 (.tmp 5) (.tmp 22) rfl V2.heap.size 0 (cs := zSt) (Blk.new _ _ _) zSt zSt (by rfl) (by rfl) (Nat.le_refl 20) infoSta zStO (zStV rfl) ?_; intro W1 hb1 hc1; have hb := bel_st' hc1; (have H5 := Lib.hid hb1; have HB5 := Lib.hid hb); clear hb1 hc1 hb)
  have ha5 := HB.out.size
  replace HB := Lib.hid (HB.out.trans (HB5.out.mono HB.out.size))
  replace HX := Lib.hid (HX.out.bel HB5.out)
  clear HB5
  generalize V2.heap.size = a5 at H5 ha5 ⊢
  have x9 : W1.cell? ⟨w0.heap.size, 9, none⟩ = some (.int .i64 e.o.tok) := HX.out.cell 9
  go_wp2_with fail
  refine (fixed18_any _).mono ?_
  rintro e' V3 ⟨rfl, hb3⟩
  replace HB := Lib.hid (HB.out.trans (Below.mono hb3 HB.out.size))
  go_wp2_with fail
  go_ret
  exact ⟨rfl, HB.out⟩
 | true =>
  go_enter Tryz.func7, Tryz.ntmps7
  go_wp2_with (refine wpList_load_blk rfl 89 (.tmp 2) rfl w0.heap.size 0 11 HX.out e.cs (by rfl) (en_ext e) Tryz.underlying89 infoEnt (Nat.le_refl 11) ?_)
  refine (cut18_any e _).mono ?_
  rintro e' V1 ⟨rfl, hb1⟩
  have HB : Hid (Below w0.heap.size w0 V1) := Lib.hid (((Below.refl _ _).alloc (Nat.le_refl _) _).trans (hb1.mono (by simp)))
  replace HX := Lib.hid (HX.out.bel hb1)
  clear hb1
  go_wp2_with fail
  refine (xnew_any (cutE e) _ (fitsB (cutE e).o) (fun W => fits_gen (cutE e).o W)).mono ?_
  rw [hb]
  rintro e' V2 ⟨rfl, hb2⟩
  replace HB := Lib.hid (HB.out.trans (hb2.mono HB.out.size))
  replace HX := Lib.hid (HX.out.bel hb2)
  clear hb2
  simp only [if_true, if_false, Bool.false_eq_true]
  go_upto_region 2 with (refine wpList_store_part rfl 103 (.tmp 5) (.tmp 22) rfl V2.heap.size 0 (cs := zSt) (Blk.new _ _ _) (newS (cutE e)).cs (newS (cutE e)).cs (by rfl) (by rfl) (Nat.le_refl 20) infoSta (stcs_one _) (st_over _ rfl) ?_; intro W1 hb1 hc1; have hb := bel_st' hc1; (have H5 := Lib.hid hb1; have HB5 := Lib.hid hb); clear hb1 hc1 hb)
  have ha5 := HB.out.size
  replace HB := Lib.hid (HB.out.trans (HB5.out.mono HB.out.size))
  replace HX := Lib.hid (HX.out.bel HB5.out)
  clear HB5
  generalize V2.heap.size = a5 at H5 ha5 ⊢
  have x9 : W1.cell? ⟨w0.heap.size, 9, none⟩ = some (.int .i64 e.o.tok) := HX.out.cell 9
  go_wp2_with fail
  refine (fixed18_any _).mono ?_
  rintro e' V3 ⟨rfl, hb3⟩
  replace HB := Lib.hid (HB.out.trans (Below.mono hb3 HB.out.size))
  go_wp2_with fail
  go_ret
  exact ⟨rfl, HB.out⟩
set_option maxRecDepth 100000 in
set_option maxHeartbeats 4000000 in
theorem camounts_no (e : En) (A : Option Addr) (l : List Op17) (c : Nat) (w0 : World) (h3 : e.o.tok ≤ 300) (hb : newB (cutE e) (fitsB (cutE e).o) = false) :
  Calls Tryz.prog 7 #[.agg e.cs, .slice A l.length c] w0 fun e' w' => e' = .returned (.bool true) ∧ Below w0.heap.size w0 w' := by
 have HX := Lib.hid (Blk.new w0 89 e.cs)
 have g3 : decide ((300 : Int) < e.o.tok) = false := decide_eq_false (by omega)
 have g3' : decide (e.o.tok > 300) = false := g3
 go_enter Tryz.func7, Tryz.ntmps7
 go_wp2_with (refine wpList_load_blk rfl 89 (.tmp 2) rfl w0.heap.size 0 11 HX.out e.cs (by rfl) (en_ext e) Tryz.underlying89 infoEnt (Nat.le_refl 11) ?_)
 refine (cut18_any e _).mono ?_
 rintro e' V1 ⟨rfl, hb1⟩
 have HB : Hid (Below w0.heap.size w0 V1) := Lib.hid (((Below.refl _ _).alloc (Nat.le_refl _) _).trans (hb1.mono (by simp)))
 replace HX := Lib.hid (HX.out.bel hb1)
 clear hb1
 go_wp2_with fail
 refine (xnew_any (cutE e) _ (fitsB (cutE e).o) (fun W => fits_gen (cutE e).o W)).mono ?_
 rw [hb]
 rintro e' V2 ⟨rfl, hb2⟩
 replace HB := Lib.hid (HB.out.trans (hb2.mono HB.out.size))
 replace HX := Lib.hid (HX.out.bel hb2)
 clear hb2
 simp only [if_true, if_false, Bool.false_eq_true]
 go_upto_region 2 with (refine wpList_store_part rfl 103 (.tmp 5) (.tmp 22) rfl V2.heap.size 0 (cs := zSt) (Blk.new _ _ _) zSt zSt (by rfl) (by rfl) (Nat.le_refl 20) infoSta zStO (zStV rfl) ?_; intro W1 hb1 hc1; have hb := bel_st' hc1; (have H5 := Lib.hid hb1; have HB5 := Lib.hid hb); clear hb1 hc1 hb)
 have ha5 := HB.out.size
 replace HB := Lib.hid (HB.out.trans (HB5.out.mono HB.out.size))
 replace HX := Lib.hid (HX.out.bel HB5.out)
 clear HB5
 generalize V2.heap.size = a5 at H5 ha5 ⊢
 have x9 : W1.cell? ⟨w0.heap.size, 9, none⟩ = some (.int .i64 e.o.tok) := HX.out.cell 9
 go_wp2_with fail
 go_loopw [7] (fun i wr => i = .int .i64 0 ∧ wr = W1) (fun _ _ => 0)
 case atStart => exact ⟨rfl, rfl⟩
 case round =>
  obtain ⟨rfl, rfl⟩ := hrel
  go_wp2_with (refine wpList_load_blk rfl 103 (.tmp 5) rfl a5 0 20 H5.out zSt (by rfl) (by rfl) Tryz.underlying103 infoSta (Nat.le_refl 20) ?_)
  refine (show Calls Tryz.prog 51 #[.agg zSt] _ _ from cbuild_any zS _ zS_fit (zS_mem _) (by decide)).mono ?_
  rintro e' V3 ⟨t, rfl, _, hz, hb3⟩
  obtain rfl := hz (by rw [zS_build]; decide)
  rw [zS_build, show zT.cs = zTx from rfl]
  replace HB := Lib.hid (HB.out.trans (Below.mono hb3 HB.out.size))
  clear hb3 hz
  go_wp2_with (refine wpList_store_part rfl 53 (.tmp 10) (.tmp 59) rfl V3.heap.size 0 (cs := zTx) (Blk.new _ _ _) zTx zTx (by rfl) (by rfl) (Nat.le_refl 6) infoTx zTx_one (txn_over zT rfl) ?_; intro W4 hb1 hc1; have hb := bel_st' hc1; replace HB := Lib.hid (HB.out.trans (Below.mono hb HB.out.size)); clear hb1 hc1 hb)
  refine (fixed18_any _).mono ?_
  rintro e' V5 ⟨rfl, hb5⟩
  replace HB := Lib.hid (HB.out.trans (Below.mono hb5 HB.out.size))
  go_wp2_with fail
  go_ret
  exact ⟨rfl, HB.out⟩
end
end Go.Proofs.YtjcinncphffgaaaGreat
