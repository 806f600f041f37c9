/- law09's CutOut, law17's cut, law08's cutTicket and cutWin, of anything. law08's cutTicket, cutWin, of anything. law08's cutWin; law17's cut, of anything. law17's cut, of anything. coin.Fits of any output. coin.Fits of any output, as one. law17: play, of any state and call. -/
import Derived.Outline
import Derived.Deep.DeepCutAuto
import Derived.Deep.CutBlock
import Derived.Deep.RegionHeld3
import Derived.Test.YtpbcfeghfcodcaaGreatMgChA
import Derived.Test.YtpbcfeghfcodcaaGreatMgChC
import Derived.Test.YtpbcfeghfcodcaaGreatMgNote
import Derived.Test.YtpbcfeghfcodcaaGreatMgSha
import Derived.Test.YtpbcfeghfcodcaaGreatMgSm
set_option linter.unusedVariables false
set_option linter.unusedSimpArgs false
namespace Go.Proofs.YtpbcfeghfcodcaaGreat
open Go.RowKit Go.Maps
def cutN (s : ByteArray) (n : Nat) : Nat := if n < s.size then n else s.size
def cutT (s : ByteArray) (n : Nat) : ByteArray := s.extract 0 (cutN s n)
theorem cutN_le (s : ByteArray) (n : Nat) : cutN s n ≤ s.size ∧ cutN s n ≤ n := by unfold cutN; split <;> omega
theorem cutT_size (s : ByteArray) (n : Nat) : (cutT s n).size = cutN s n := by
  have := cutN_le s n
  unfold cutT
  rw [ByteArray.size_extract]; omega
theorem cutN_if (s : ByteArray) (n : Nat) : (if (n : Int) < (s.size : Int) then (n : Int) else (s.size : Int)) = (cutN s n : Int) := by
  unfold cutN
  by_cases h : n < s.size
  · rw [if_pos h, if_pos (by omega)]
  · rw [if_neg h, if_neg (by omega)]
theorem cutN_if40 (s : ByteArray) : (if (40 : Int) < (s.size : Int) then (40 : Int) else (s.size : Int)) = (cutN s 40 : Int) := cutN_if s 40
theorem cutN_if450 (s : ByteArray) : (if (450 : Int) < (s.size : Int) then (450 : Int) else (s.size : Int)) = (cutN s 450 : Int) := cutN_if s 450
def cutO (o : Ou) : Ou := { o with key := cutT o.key 40, gate := cutT o.gate 40, anchor := cutT o.anchor 40, of_ := cutT o.of_ 40 }
theorem zOu_size : zOu.cs.size = 9 := rfl
set_option maxRecDepth 100000 in
set_option maxHeartbeats 1000000 in
theorem cutout_any (o : Ou) (w : World) : Calls Tryz.prog 45 #[.agg o.cs] w fun e w' => e = .returned (.agg (cutO o).cs) ∧ Below w.heap.size w w' := by
  have HX : Hid (Blk ((w.alloc (.cells o.cs 26)).alloc (.cells zOu.cs 26)) w.heap.size 26 o.cs) := Lib.hid ((Blk.new _ _ _).alloc _)
  have HR : Hid (Blk ((w.alloc (.cells o.cs 26)).alloc (.cells zOu.cs 26)) (w.heap.size + 1) 26 zOu.cs) := Blk.newAt (by simp)
  have HB : Hid (Below w.heap.size w ((w.alloc (.cells o.cs 26)).alloc (.cells zOu.cs 26))) := ((Below.refl _ _).alloc (Nat.le_refl _) _).alloc (by simp) _
  go_enter Tryz.func45, Tryz.ntmps45
  go_upto_region 1 with fail
  refine wp_gen fun X hX => ?_
  replace HX : Hid (Blk X w.heap.size 26 o.cs) := Lib.hid (by rw [hX]; exact HX.out)
  replace HR : Hid (Blk X (w.heap.size + 1) 26 zOu.cs) := Lib.hid (by rw [hX]; exact HR.out)
  replace HB : Hid (Below w.heap.size w X) := Lib.hid (by rw [hX]; exact HB.out)
  clear hX
  have c2 : X.cell? ⟨w.heap.size, 2, none⟩ = some (.string o.key) := HX.out.cell 2
  have c3 : X.cell? ⟨w.heap.size, 3, none⟩ = some (.string o.gate) := HX.out.cell 3
  have c5 : X.cell? ⟨w.heap.size, 5, none⟩ = some (.string o.anchor) := HX.out.cell 5
  have c8 : X.cell? ⟨w.heap.size, 8, none⟩ = some (.string o.of_) := HX.out.cell 8
  have z2 : X.frozen? ⟨w.heap.size, 2, none⟩ = false := HX.out.frozen 2
  have z3 : X.frozen? ⟨w.heap.size, 3, none⟩ = false := HX.out.frozen 3
  have z5 : X.frozen? ⟨w.heap.size, 5, none⟩ = false := HX.out.frozen 5
  have z8 : X.frozen? ⟨w.heap.size, 8, none⟩ = false := HX.out.frozen 8
  have l2 := (cutN_le o.key 40).1
  have l3 := (cutN_le o.gate 40).1
  have l5 := (cutN_le o.anchor 40).1
  have l8 := (cutN_le o.of_ 40).1
  have HXf : Hid (Blk ((((X.setCell ⟨w.heap.size, 2, none⟩ (.string (o.key.extract 0 (cutN o.key 40)))).setCell ⟨w.heap.size, 3, none⟩ (.string (o.gate.extract 0 (cutN o.gate 40)))).setCell ⟨w.heap.size, 5, none⟩ (.string (o.anchor.extract 0 (cutN o.anchor 40)))).setCell ⟨w.heap.size, 8, none⟩ (.string (o.of_.extract 0 (cutN o.of_ 40)))) w.heap.size 26 (cutO o).cs) := Lib.hid ((((HX.out.set_ 2 _).set_ 3 _).set_ 5 _).set_ 8 _)
  have HRf : Hid (Blk ((((X.setCell ⟨w.heap.size, 2, none⟩ (.string (o.key.extract 0 (cutN o.key 40)))).setCell ⟨w.heap.size, 3, none⟩ (.string (o.gate.extract 0 (cutN o.gate 40)))).setCell ⟨w.heap.size, 5, none⟩ (.string (o.anchor.extract 0 (cutN o.anchor 40)))).setCell ⟨w.heap.size, 8, none⟩ (.string (o.of_.extract 0 (cutN o.of_ 40)))) (w.heap.size + 1) 26 zOu.cs) := Lib.hid ((((HR.out.far (p := ⟨w.heap.size, 2, none⟩) (by simp) _).far (p := ⟨w.heap.size, 3, none⟩) (by simp) _).far (p := ⟨w.heap.size, 5, none⟩) (by simp) _).far (p := ⟨w.heap.size, 8, none⟩) (by simp) _)
  have HBf : Hid (Below w.heap.size w ((((X.setCell ⟨w.heap.size, 2, none⟩ (.string (o.key.extract 0 (cutN o.key 40)))).setCell ⟨w.heap.size, 3, none⟩ (.string (o.gate.extract 0 (cutN o.gate 40)))).setCell ⟨w.heap.size, 5, none⟩ (.string (o.anchor.extract 0 (cutN o.anchor 40)))).setCell ⟨w.heap.size, 8, none⟩ (.string (o.of_.extract 0 (cutN o.of_ 40))))) := (((HB.out.setCell (by simp) _).setCell (by simp) _).setCell (by simp) _).setCell (by simp) _
  clear HX HR HB
  go_upto_region 5 with fail
  simp only [cutN_if40, Int.toNat_natCast]
  clear c2 c3 c5 c8 z2 z3 z5 z8 l2 l3 l5 l8
  go_wp2_with (first
    | (refine wpList_load_blk rfl 26 (.tmp 1) rfl w.heap.size 0 9 HXf.out (cutO o).cs (by rfl) (by rfl) Tryz.underlying26 infoOuC (Nat.le_refl 9) ?_)
    | (refine wpList_store_part rfl 26 (.tmp 2) (.tmp 35) rfl (w.heap.size + 1) 0 HRf.out (cutO o).cs (cutO o).cs (by rfl) (by rfl) (Nat.le_refl 9) infoOuC (oucs_one _) (ou_over _ rfl) ?_; intro W6 hb6 hc6; have HT := Lib.hid hb6; have HC6 := Lib.hid hc6; clear hb6 hc6))
  exact bodyPost_ret (results_cell_row rfl _ _ (w.heap.size + 1) 26 _ (0, 0) _ rfl HT.out Tryz.underlying26 rfl infoOuC) rfl ⟨rfl, HBf.out.trans (HC6.out.below HBf.out.size (by simp))⟩
end Go.Proofs.YtpbcfeghfcodcaaGreat
namespace Go.Proofs.YtpbcfeghfcodcaaGreat
open Go.RowKit Go.Maps
def cutK (t : Tk) : Tk := { t with ch := cutT t.ch 40, com := cutT t.com 40, sig := cutT t.sig 450 }
theorem tkcsC_one (t : Tk) : t.cs.all (·.oneCell') = true := by
  rw [Array.all_eq_true']
  intro x hx
  simp only [Tk.cs, List.mem_toArray, List.mem_cons, List.not_mem_nil, or_false] at hx
  rcases hx with rfl | rfl | rfl | rfl | rfl | rfl | rfl | rfl <;> rfl
theorem tkC_over (t : Tk) {cs : Array Value} (h : cs.size = 8) : over cs 0 t.cs.toList = t.cs := (over_full t.cs.toList cs (by rw [h]; rfl)).trans (Array.toArray_toList ..)
set_option maxRecDepth 100000 in
set_option maxHeartbeats 1000000 in
theorem cutticket_any (t : Tk) (w : World) : Calls Tryz.prog 108 #[.agg t.cs] w fun e w' => e = .returned (.agg (cutK t).cs) ∧ Below w.heap.size w w' := by
  have HX : Hid (Blk ((w.alloc (.cells t.cs 43)).alloc (.cells zTk0.cs 43)) w.heap.size 43 t.cs) := Lib.hid ((Blk.new _ _ _).alloc _)
  have HR : Hid (Blk ((w.alloc (.cells t.cs 43)).alloc (.cells zTk0.cs 43)) (w.heap.size + 1) 43 zTk0.cs) := Blk.newAt (by simp)
  have HB : Hid (Below w.heap.size w ((w.alloc (.cells t.cs 43)).alloc (.cells zTk0.cs 43))) := ((Below.refl _ _).alloc (Nat.le_refl _) _).alloc (by simp) _
  go_enter Tryz.func108, Tryz.ntmps108
  go_upto_region 1 with fail
  refine wp_gen fun X hX => ?_
  replace HX : Hid (Blk X w.heap.size 43 t.cs) := Lib.hid (by rw [hX]; exact HX.out)
  replace HR : Hid (Blk X (w.heap.size + 1) 43 zTk0.cs) := Lib.hid (by rw [hX]; exact HR.out)
  replace HB : Hid (Below w.heap.size w X) := Lib.hid (by rw [hX]; exact HB.out)
  clear hX
  have c0 : X.cell? ⟨w.heap.size, 0, none⟩ = some (.string t.ch) := HX.out.cell 0
  have c5 : X.cell? ⟨w.heap.size, 5, none⟩ = some (.string t.com) := HX.out.cell 5
  have c7 : X.cell? ⟨w.heap.size, 7, none⟩ = some (.string t.sig) := HX.out.cell 7
  have z0 : X.frozen? ⟨w.heap.size, 0, none⟩ = false := HX.out.frozen 0
  have z5 : X.frozen? ⟨w.heap.size, 5, none⟩ = false := HX.out.frozen 5
  have z7 : X.frozen? ⟨w.heap.size, 7, none⟩ = false := HX.out.frozen 7
  have l0 := (cutN_le t.ch 40).1
  have l5 := (cutN_le t.com 40).1
  have l7 := (cutN_le t.sig 450).1
  have HXf : Hid (Blk (((X.setCell ⟨w.heap.size, 0, none⟩ (.string (t.ch.extract 0 (cutN t.ch 40)))).setCell ⟨w.heap.size, 5, none⟩ (.string (t.com.extract 0 (cutN t.com 40)))).setCell ⟨w.heap.size, 7, none⟩ (.string (t.sig.extract 0 (cutN t.sig 450)))) w.heap.size 43 (cutK t).cs) := Lib.hid (((HX.out.set_ 0 _).set_ 5 _).set_ 7 _)
  have HRf : Hid (Blk (((X.setCell ⟨w.heap.size, 0, none⟩ (.string (t.ch.extract 0 (cutN t.ch 40)))).setCell ⟨w.heap.size, 5, none⟩ (.string (t.com.extract 0 (cutN t.com 40)))).setCell ⟨w.heap.size, 7, none⟩ (.string (t.sig.extract 0 (cutN t.sig 450)))) (w.heap.size + 1) 43 zTk0.cs) := Lib.hid (((HR.out.far (p := ⟨w.heap.size, 0, none⟩) (by simp) _).far (p := ⟨w.heap.size, 5, none⟩) (by simp) _).far (p := ⟨w.heap.size, 7, none⟩) (by simp) _)
  have HBf : Hid (Below w.heap.size w (((X.setCell ⟨w.heap.size, 0, none⟩ (.string (t.ch.extract 0 (cutN t.ch 40)))).setCell ⟨w.heap.size, 5, none⟩ (.string (t.com.extract 0 (cutN t.com 40)))).setCell ⟨w.heap.size, 7, none⟩ (.string (t.sig.extract 0 (cutN t.sig 450))))) := ((HB.out.setCell (by simp) _).setCell (by simp) _).setCell (by simp) _
  clear HX HR HB
  go_upto_region 4 with fail
  simp only [cutN_if40, cutN_if450, Int.toNat_natCast]
  clear c0 c5 c7 z0 z5 z7 l0 l5 l7
  go_wp2_with (first
    | (refine wpList_load_blk rfl 43 (.tmp 1) rfl w.heap.size 0 8 HXf.out (cutK t).cs (by rfl) (by rfl) Tryz.underlying43 infoTk' (Nat.le_refl 8) ?_)
    | (refine wpList_store_part rfl 43 (.tmp 2) (.tmp 27) rfl (w.heap.size + 1) 0 HRf.out (cutK t).cs (cutK t).cs (by rfl) (by rfl) (Nat.le_refl 8) infoTk' (tkcsC_one _) (tkC_over _ rfl) ?_; intro W6 hb6 hc6; have HT := Lib.hid hb6; have HC6 := Lib.hid hc6; clear hb6 hc6))
  exact bodyPost_ret (results_cell_row rfl _ _ (w.heap.size + 1) 43 _ (0, 0) _ rfl HT.out Tryz.underlying43 rfl infoTk') rfl ⟨rfl, HBf.out.trans (HC6.out.below HBf.out.size (by simp))⟩
def cutW (x : Wn) : Wn := ⟨cutK x.t, cutT x.salt 40, x.drawn⟩
theorem cutW_fit {x : Wn} (h : x.fit) : (cutW x).fit := ⟨h.ser, h.face, h.wins, h.many, h.cl, h.drawn, by show (cutT x.salt 40).size ≤ _; rw [cutT_size]; have := (cutN_le x.salt 40).2; omega⟩
end Go.Proofs.YtpbcfeghfcodcaaGreat
namespace Go.Proofs.YtpbcfeghfcodcaaGreat
open Go.RowKit Go.Maps
theorem cutticket_x (t : Tk) (w : World) : Calls Tryz.prog 108 #[.agg t.cs] w fun e w' => e = .returned (.agg #[.string (cutT t.ch 40), .int .u64 (t.ser : Nat), .int .u64 (t.face : Nat), .int .u64 (t.wins : Nat), .int .u64 (t.many : Nat), .string (cutT t.com 40), .int .u64 (t.cl : Nat), .string (cutT t.sig 450)]) ∧ Below w.heap.size w w' := cutticket_any t w
theorem cutout_x (o : Ou) (w : World) : Calls Tryz.prog 45 #[.agg o.cs] w fun e w' => e = .returned (.agg #[.int .i64 o.kind, .int .u64 (o.am : Nat), .string (cutT o.key 40), .string (cutT o.gate 40), .int .i64 o.ex, .string (cutT o.anchor 40), .int .u64 (o.unit : Nat), .int .i64 o.tok, .string (cutT o.of_ 40)]) ∧ Below w.heap.size w w' := cutout_any o w
theorem wn_tk (x : Wn) : x.cs.extract 0 (0 + 8) = x.t.cs := by rfl
set_option maxRecDepth 100000 in
set_option maxHeartbeats 500000 in
theorem cutwin_any (x : Wn) (w0 : World) : Calls Tryz.prog 77 #[.agg x.cs] w0 fun e w' => e = .returned (.agg (cutW x).cs) ∧ Below w0.heap.size w0 w' := by
  have HX : Hid (Blk ((w0.alloc (.cells x.cs 45)).alloc (.cells zWn.cs 45)) w0.heap.size 45 x.cs) := Lib.hid ((Blk.new _ _ _).alloc _)
  have HR : Hid (Blk ((w0.alloc (.cells x.cs 45)).alloc (.cells zWn.cs 45)) (w0.heap.size + 1) 45 zWn.cs) := Blk.newAt (by simp)
  have HB : Hid (Below w0.heap.size w0 ((w0.alloc (.cells x.cs 45)).alloc (.cells zWn.cs 45))) := ((Below.refl _ _).alloc (Nat.le_refl _) _).alloc (by simp) _
  have l8 := (cutN_le x.salt 40).1
  go_enter Tryz.func77, Tryz.ntmps77
  go_upto_region 1 with fail
  refine wp_gen fun X0 hX => ?_
  replace HX : Hid (Blk X0 w0.heap.size 45 x.cs) := Lib.hid (by rw [hX]; exact HX.out)
  replace HR : Hid (Blk X0 (w0.heap.size + 1) 45 zWn.cs) := Lib.hid (by rw [hX]; exact HR.out)
  replace HB : Hid (Below w0.heap.size w0 X0) := Lib.hid (by rw [hX]; exact HB.out)
  clear hX
  refine wp_region_held_drew (S := fun W => Hid (Blk W w0.heap.size 45 x.cs)) (by kernel_rfl) (Lib.hid (HX.out.drewN 1)) (fun hS => ?_)
  replace HX : Hid (Blk X0.drew w0.heap.size 45 x.cs) := Lib.hid (HX.out.drewN 1)
  replace HR : Hid (Blk X0.drew (w0.heap.size + 1) 45 zWn.cs) := Lib.hid (HR.out.drewN 1)
  replace HB : Hid (Below w0.heap.size w0 X0.drew) := HB.out.drew
  refine wpAnyH_genT fun X hX => ?_
  rw [← hX] at HX HR HB hS
  clear hX
  refine wpAnyH_take (i := 0) (v := ?_) rfl (by kernel_rfl) (by kernel_rfl) (by kernel_rfl) (fun _ _ _ h => h) (Or.inl ⟨by rfl, ?_⟩) hS ?_
  rotate_left
  · (intro w _; go_simp; try with_reducible rfl)
  refine wpAnyH_take (i := 1) (v := .agg x.t.cs) rfl (by kernel_rfl) (by kernel_rfl) (by kernel_rfl) (fun _ _ _ h => h) (yields_blk (by rfl) 43 (.tmp 3) (by rfl) w0.heap.size 0 8 (t := 45) (cs := x.cs) (fun W h => h.out) x.t.cs (by rfl) (wn_tk x) Tryz.underlying43 infoTk' (by show 8 ≤ 10; omega)) hS ?_
  refine wpAnyH_take (i := 3) (v := ?_) rfl (by kernel_rfl) (by kernel_rfl) (by kernel_rfl) (fun _ _ _ h => h) (Or.inl ⟨by rfl, ?_⟩) hS ?_
  rotate_left
  · (intro w _; go_simp; try with_reducible rfl)
  refine wpAnyH_take (i := 4) (v := ?_) rfl (by kernel_rfl) (by kernel_rfl) (by kernel_rfl) (fun _ _ _ h => h) (Or.inl ⟨by rfl, ?_⟩) hS ?_
  rotate_left
  · (intro w hS'; have hcell := (show World.cell? _ ⟨w0.heap.size, 8, none⟩ = some (.string x.salt) from Blk.cell hS'.out 8); go_simp; try with_reducible rfl)
  refine wpAnyH_take (i := 5) (v := ?_) rfl (by kernel_rfl) (by kernel_rfl) (by kernel_rfl) (fun _ _ _ h => h) (Or.inl ⟨by rfl, ?_⟩) hS ?_
  rotate_left
  · (intro w _; go_simp; try with_reducible rfl)
  refine wpAnyH_take (i := 6) (v := ?_) rfl (by kernel_rfl) (by kernel_rfl) (by kernel_rfl) (fun _ _ _ h => h) (Or.inl ⟨by rfl, ?_⟩) hS ?_
  rotate_left
  · (intro w hS'; have hcell := (show World.cell? _ ⟨w0.heap.size, 8, none⟩ = some (.string x.salt) from Blk.cell hS'.out 8); go_simp; try with_reducible rfl)
  refine wpAnyH_take (i := 7) (v := ?_) rfl (by kernel_rfl) (by kernel_rfl) (by kernel_rfl) (fun _ _ _ h => h) (Or.inl ⟨by rfl, ?_⟩) hS ?_
  rotate_left
  · (intro w _; go_simp; try with_reducible rfl)
  refine wpAnyH_take (i := 8) (v := .int .i64 ((cutN x.salt 40 : Nat) : Int)) rfl (by kernel_rfl) (by kernel_rfl) (by kernel_rfl) (fun _ _ _ h => h) (Or.inl ⟨by rfl, ?_⟩) hS ?_
  · intro w _
    go_simp
    rw [cutN_if40]
  refine wpAnyH_take (i := 9) (v := ?_) rfl (by kernel_rfl) (by kernel_rfl) (by kernel_rfl) (fun _ _ _ h => h) (Or.inl ⟨by rfl, ?_⟩) hS ?_
  rotate_left
  · (intro w _; go_simp; try with_reducible rfl)
  refine wpAnyH_take (i := 10) (v := ?_) rfl (by kernel_rfl) (by kernel_rfl) (by kernel_rfl) (fun _ _ _ h => h) (Or.inl ⟨by rfl, ?_⟩) hS ?_
  rotate_left
  · (intro w _; go_simp; try with_reducible rfl)
  refine wpAnyH_take (i := 11) (v := ?_) rfl (by kernel_rfl) (by kernel_rfl) (by kernel_rfl) (fun _ _ _ h => h) (Or.inl ⟨by rfl, ?_⟩) hS ?_
  rotate_left
  · (intro w hS'; have hcell := (show World.cell? _ ⟨w0.heap.size, 9, none⟩ = some (.int .u64 x.drawn) from Blk.cell hS'.out 9); go_simp; try with_reducible rfl)
  refine wpAnyH_ready (rs := [2]) (by kernel_rfl) (by simp) (AllReadyH.cons rfl (fun K hK => ?_) AllReadyH.nil)
  go_simp
  refine (cutticket_x x.t _).mono ?_
  rintro e W ⟨rfl, hb⟩
  replace HX := Lib.hid (HX.out.bel hb)
  replace HR := Lib.hid (HR.out.bel hb)
  replace HB := Lib.hid (HB.out.trans (hb.mono HB.out.size))
  clear hb hS
  go_simp
  refine hK.out _ _ HX (fun hS => ?_)
  clear hK K
  refine wpAnyH_take (i := 12) (v := ?_) rfl (by kernel_rfl) (by kernel_rfl) (by kernel_rfl) (fun _ _ _ h => h) (Or.inl ⟨by rfl, ?_⟩) hS ?_
  rotate_left
  · (intro w _; go_simp; try with_reducible rfl)
  refine wpAnyH_ready (rs := [13]) (by kernel_rfl) (by simp) (AllReadyH.cons rfl (fun K hK => ?_) AllReadyH.nil)
  refine step_store_part (by rfl) 45 (.tmp 2) (.tmp 15) (by rfl) (w0.heap.size + 1) 0 HR.out (cutW x).cs (cutW x).cs (by rfl) (by rfl) (Nat.le_refl 10) infoWn (wncs_one _) (wncs_over zWn _) ?_
  intro W1 hb1 hc1
  have HT := Lib.hid hb1
  have HC := Lib.hid hc1
  clear hb1 hc1
  refine hK.out _ _ (Lib.hid (Blk.ch hS.out HC.out (by simp))) (fun _ => ?_)
  clear hK K hS
  refine wpAnyH_done (by kernel_rfl) ?_ _
  go_wp2_with fail
  exact bodyPost_ret (results_cell_row rfl _ _ (w0.heap.size + 1) 45 _ (0, 0) _ rfl HT.out Tryz.underlying45 rfl infoWn) rfl ⟨rfl, HB.out.trans (HC.out.below HB.out.size (by simp))⟩
end Go.Proofs.YtpbcfeghfcodcaaGreat
namespace Go.Proofs.YtpbcfeghfcodcaaGreat
open Go.RowKit Go.Maps
def cutE (e : En) : En := ⟨cutT e.tx 40, e.out, cutO e.o⟩
theorem en_ou (e : En) : e.cs.extract 2 (2 + 9) = e.o.cs := by rfl
set_option maxRecDepth 100000 in
set_option maxHeartbeats 1000000 in
theorem cut17_any (e0 : En) (w0 : World) : Calls Tryz.prog 20 #[.agg e0.cs] w0 fun e w' => e = .returned (.agg (cutE e0).cs) ∧ Below w0.heap.size w0 w' := by
  have HX : Hid (Blk ((w0.alloc (.cells e0.cs 28)).alloc (.cells zEn.cs 28)) w0.heap.size 28 e0.cs) := Lib.hid ((Blk.new _ _ _).alloc _)
  have HR : Hid (Blk ((w0.alloc (.cells e0.cs 28)).alloc (.cells zEn.cs 28)) (w0.heap.size + 1) 28 zEn.cs) := Blk.newAt (by simp)
  have HB : Hid (Below w0.heap.size w0 ((w0.alloc (.cells e0.cs 28)).alloc (.cells zEn.cs 28))) := ((Below.refl _ _).alloc (Nat.le_refl _) _).alloc (by simp) _
  have l8 := (cutN_le e0.tx 40).1
  go_enter Tryz.func20, Tryz.ntmps20
  go_upto_region 1 with fail
  refine wp_gen fun X0 hX => ?_
  replace HX : Hid (Blk X0 w0.heap.size 28 e0.cs) := Lib.hid (by rw [hX]; exact HX.out)
  replace HR : Hid (Blk X0 (w0.heap.size + 1) 28 zEn.cs) := Lib.hid (by rw [hX]; exact HR.out)
  replace HB : Hid (Below w0.heap.size w0 X0) := Lib.hid (by rw [hX]; exact HB.out)
  clear hX
  refine wp_region_held_drew (S := fun W => Hid (Blk W w0.heap.size 28 e0.cs)) (by kernel_rfl) (Lib.hid (HX.out.drewN 1)) (fun hS => ?_)
  replace HX : Hid (Blk X0.drew w0.heap.size 28 e0.cs) := Lib.hid (HX.out.drewN 1)
  replace HR : Hid (Blk X0.drew (w0.heap.size + 1) 28 zEn.cs) := Lib.hid (HR.out.drewN 1)
  replace HB : Hid (Below w0.heap.size w0 X0.drew) := HB.out.drew
  refine wpAnyH_genT fun X hX => ?_
  rw [← hX] at HX HR HB hS
  clear hX
  refine wpAnyH_take (i := 13) (v := ?_) rfl (by kernel_rfl) (by kernel_rfl) (by kernel_rfl) (fun _ _ _ h => h) (Or.inl ⟨by rfl, ?_⟩) hS ?_
  rotate_left
  · (intro w _; go_simp; try with_reducible rfl)
  refine wpAnyH_take (i := 14) (v := .agg e0.o.cs) rfl (by kernel_rfl) (by kernel_rfl) (by kernel_rfl) (fun _ _ _ h => h) (yields_blk (by rfl) 26 (.tmp 16) (by rfl) w0.heap.size 2 9 (t := 28) (cs := e0.cs) (fun W h => h.out) e0.o.cs (by rfl) (en_ou e0) Tryz.underlying26 infoOuC (by show 11 ≤ 11; omega)) hS ?_
  refine wpAnyH_take (i := 0) (v := ?_) rfl (by kernel_rfl) (by kernel_rfl) (by kernel_rfl) (fun _ _ _ h => h) (Or.inl ⟨by rfl, ?_⟩) hS ?_
  rotate_left
  · (intro w _; go_simp; try with_reducible rfl)
  refine wpAnyH_take (i := 1) (v := ?_) rfl (by kernel_rfl) (by kernel_rfl) (by kernel_rfl) (fun _ _ _ h => h) (Or.inl ⟨by rfl, ?_⟩) hS ?_
  rotate_left
  · (intro w _; go_simp; try with_reducible rfl)
  refine wpAnyH_take (i := 2) (v := ?_) rfl (by kernel_rfl) (by kernel_rfl) (by kernel_rfl) (fun _ _ _ h => h) (Or.inl ⟨by rfl, ?_⟩) hS ?_
  rotate_left
  · (intro w hS'; have hcell := (show World.cell? _ ⟨w0.heap.size, 0, none⟩ = some (.string e0.tx) from Blk.cell hS'.out 0); go_simp; try with_reducible rfl)
  refine wpAnyH_take (i := 3) (v := ?_) rfl (by kernel_rfl) (by kernel_rfl) (by kernel_rfl) (fun _ _ _ h => h) (Or.inl ⟨by rfl, ?_⟩) hS ?_
  rotate_left
  · (intro w _; go_simp; try with_reducible rfl)
  refine wpAnyH_take (i := 4) (v := ?_) rfl (by kernel_rfl) (by kernel_rfl) (by kernel_rfl) (fun _ _ _ h => h) (Or.inl ⟨by rfl, ?_⟩) hS ?_
  rotate_left
  · (intro w _; go_simp; try with_reducible rfl)
  refine wpAnyH_take (i := 5) (v := ?_) rfl (by kernel_rfl) (by kernel_rfl) (by kernel_rfl) (fun _ _ _ h => h) (Or.inl ⟨by rfl, ?_⟩) hS ?_
  rotate_left
  · (intro w hS'; have hcell := (show World.cell? _ ⟨w0.heap.size, 0, none⟩ = some (.string e0.tx) from Blk.cell hS'.out 0); go_simp; try with_reducible rfl)
  refine wpAnyH_take (i := 6) (v := ?_) rfl (by kernel_rfl) (by kernel_rfl) (by kernel_rfl) (fun _ _ _ h => h) (Or.inl ⟨by rfl, ?_⟩) hS ?_
  rotate_left
  · (intro w _; go_simp; try with_reducible rfl)
  refine wpAnyH_take (i := 7) (v := .int .i64 ((cutN e0.tx 40 : Nat) : Int)) rfl (by kernel_rfl) (by kernel_rfl) (by kernel_rfl) (fun _ _ _ h => h) (Or.inl ⟨by rfl, ?_⟩) hS ?_
  · intro w _
    go_simp
    rw [cutN_if40]
  refine wpAnyH_take (i := 8) (v := ?_) rfl (by kernel_rfl) (by kernel_rfl) (by kernel_rfl) (fun _ _ _ h => h) (Or.inl ⟨by rfl, ?_⟩) hS ?_
  rotate_left
  · (intro w _; go_simp; try with_reducible rfl)
  refine wpAnyH_take (i := 9) (v := ?_) rfl (by kernel_rfl) (by kernel_rfl) (by kernel_rfl) (fun _ _ _ h => h) (Or.inl ⟨by rfl, ?_⟩) hS ?_
  rotate_left
  · (intro w _; go_simp; try with_reducible rfl)
  refine wpAnyH_take (i := 10) (v := ?_) rfl (by kernel_rfl) (by kernel_rfl) (by kernel_rfl) (fun _ _ _ h => h) (Or.inl ⟨by rfl, ?_⟩) hS ?_
  rotate_left
  · (intro w _; go_simp; try with_reducible rfl)
  refine wpAnyH_take (i := 11) (v := ?_) rfl (by kernel_rfl) (by kernel_rfl) (by kernel_rfl) (fun _ _ _ h => h) (Or.inl ⟨by rfl, ?_⟩) hS ?_
  rotate_left
  · (intro w hS'; have hcell := (show World.cell? _ ⟨w0.heap.size, 1, none⟩ = some (.int .i64 e0.out) from Blk.cell hS'.out 1); go_simp; try with_reducible rfl)
  refine wpAnyH_take (i := 12) (v := ?_) rfl (by kernel_rfl) (by kernel_rfl) (by kernel_rfl) (fun _ _ _ h => h) (Or.inl ⟨by rfl, ?_⟩) hS ?_
  rotate_left
  · (intro w _; go_simp; try with_reducible rfl)
  refine wpAnyH_ready (rs := [15]) (by kernel_rfl) (by simp) (AllReadyH.cons rfl (fun K hK => ?_) AllReadyH.nil)
  go_simp
  refine (cutout_x e0.o _).mono ?_
  rintro e W ⟨rfl, hb⟩
  replace HX := Lib.hid (HX.out.bel hb)
  replace HR := Lib.hid (HR.out.bel hb)
  replace HB := Lib.hid (HB.out.trans (hb.mono HB.out.size))
  clear hb hS
  go_simp
  refine hK.out _ _ HX (fun hS => ?_)
  clear hK K
  refine wpAnyH_take (i := 16) (v := ?_) rfl (by kernel_rfl) (by kernel_rfl) (by kernel_rfl) (fun _ _ _ h => h) (Or.inl ⟨by rfl, ?_⟩) hS ?_
  rotate_left
  · (intro w _; go_simp; try with_reducible rfl)
  refine wpAnyH_ready (rs := [17]) (by kernel_rfl) (by simp) (AllReadyH.cons rfl (fun K hK => ?_) AllReadyH.nil)
  refine step_store_part (by rfl) 28 (.tmp 2) (.tmp 19) (by rfl) (w0.heap.size + 1) 0 HR.out (cutE e0).cs (cutE e0).cs (by rfl) (by rfl) (Nat.le_refl 11) infoEnt (encs_one _) (en_over _ rfl) ?_
  intro W1 hb1 hc1
  have HT := Lib.hid hb1
  have HC := Lib.hid hc1
  clear hb1 hc1
  refine hK.out _ _ (Lib.hid (Blk.ch hS.out HC.out (by simp))) (fun _ => ?_)
  clear hK K hS
  refine wpAnyH_done (by kernel_rfl) ?_ _
  go_wp2_with fail
  exact bodyPost_ret (results_cell_row rfl _ _ (w0.heap.size + 1) 28 _ (0, 0) _ rfl HT.out Tryz.underlying28 rfl infoEnt) rfl ⟨rfl, HB.out.trans (HC.out.below HB.out.size (by simp))⟩
end Go.Proofs.YtpbcfeghfcodcaaGreat
namespace Go.Proofs.YtpbcfeghfcodcaaGreat
open Go.RowKit
theorem toList_nil (s : ByteArray) : s.toList = [] ↔ s.size = 0 := by
  rw [Lib.toList_data, ← ba_size s, List.length_eq_zero_iff]
def fits2B (am : Nat) (key gate anchor of_ : ByteArray) (ex : Int) (unit : Nat) (tok : Int) : Bool := decide (0 < am) && decide (key.size = 16) && decide (anchor.size = 16) && decide (0 ≤ tok) && decide (tok ≤ 4096) && decide (gate.size = 16) && decide (1 ≤ ex) && decide (ex ≤ 4294967295) && decide (of_.size = 0)
set_option maxRecDepth 100000 in
set_option maxHeartbeats 4000000 in
theorem fits2_any (am : Nat) (key gate anchor of_ : ByteArray) (ex : Int) (unit : Nat) (tok : Int) (w : World) :
    Calls Tryz.prog 46 #[.agg #[.int .i64 2, .int .u64 (am : Nat), .string key, .string gate, .int .i64 ex, .string anchor, .int .u64 (unit : Nat), .int .i64 tok, .string of_]] w fun e w' => e = .returned (.bool (fits2B am key gate anchor of_ ex unit tok)) ∧ Below w.heap.size w w' := by
  by_cases h_am : 0 < am
  rotate_left
  · have f_am : decide ((0 : Int) < am) = false := decide_eq_false (by omega)
    have f_amN : ¬0 < am := h_am
    have hE : fits2B am key gate anchor of_ ex unit tok = false := by
      rw [Bool.eq_false_iff]; intro hc; unfold fits2B at hc; simp only [Bool.and_eq_true, decide_eq_true_eq] at hc; omega
    rw [hE]
    clear hE  h_am
    go_enter Tryz.func46, Tryz.ntmps46
    go_wp2
    go_region
    go_wp2
    go_region
    go_wp2
    all_goals
      go_ret
      refine ⟨by first | rfl | contradiction, ?_⟩
      repeat (first | exact Below.refl _ _ | refine Below.setCell ?_ (by simp) _ | refine Below.alloc ?_ (by simp <;> omega) _ | refine Below.drew ?_)
  by_cases h_key : key.size = 16
  rotate_left
  · have f_am : decide ((0 : Int) < am) = true := decide_eq_true (by omega)
    have f_key : ((key.size : Int) == 16) = false := beq_eq_false_iff_ne.2 (by omega)
    have hE : fits2B am key gate anchor of_ ex unit tok = false := by
      rw [Bool.eq_false_iff]; intro hc; unfold fits2B at hc; simp only [Bool.and_eq_true, decide_eq_true_eq] at hc; omega
    rw [hE]
    clear hE
    go_enter Tryz.func46, Tryz.ntmps46
    go_wp2
    go_region
    go_wp2
    go_region
    go_wp2
    all_goals
      go_ret
      refine ⟨by first | rfl | contradiction, ?_⟩
      repeat (first | exact Below.refl _ _ | refine Below.setCell ?_ (by simp) _ | refine Below.alloc ?_ (by simp <;> omega) _ | refine Below.drew ?_)
  by_cases h_an : anchor.size = 16
  rotate_left
  · have f_am : decide ((0 : Int) < am) = true := decide_eq_true (by omega)
    have f_key : ((key.size : Int) == 16) = true := by rw [beq_iff_eq]; omega
    have f_an : ((anchor.size : Int) == 16) = false := beq_eq_false_iff_ne.2 (by omega)
    have hE : fits2B am key gate anchor of_ ex unit tok = false := by
      rw [Bool.eq_false_iff]; intro hc; unfold fits2B at hc; simp only [Bool.and_eq_true, decide_eq_true_eq] at hc; omega
    rw [hE]
    clear hE
    go_enter Tryz.func46, Tryz.ntmps46
    go_wp2
    go_region
    go_wp2
    go_region
    go_wp2
    all_goals
      go_ret
      refine ⟨by first | rfl | contradiction, ?_⟩
      repeat (first | exact Below.refl _ _ | refine Below.setCell ?_ (by simp) _ | refine Below.alloc ?_ (by simp <;> omega) _ | refine Below.drew ?_)
  by_cases h_t0 : 0 ≤ tok
  rotate_left
  · have f_am : decide ((0 : Int) < am) = true := decide_eq_true (by omega)
    have f_key : ((key.size : Int) == 16) = true := by rw [beq_iff_eq]; omega
    have f_an : ((anchor.size : Int) == 16) = true := by rw [beq_iff_eq]; omega
    have f_t0 : decide ((0 : Int) ≤ tok) = false := decide_eq_false (by omega)
    have hE : fits2B am key gate anchor of_ ex unit tok = false := by
      rw [Bool.eq_false_iff]; intro hc; unfold fits2B at hc; simp only [Bool.and_eq_true, decide_eq_true_eq] at hc; omega
    rw [hE]
    clear hE
    go_enter Tryz.func46, Tryz.ntmps46
    go_wp2
    go_region
    go_wp2
    go_region
    go_wp2
    all_goals
      go_ret
      refine ⟨by first | rfl | contradiction, ?_⟩
      repeat (first | exact Below.refl _ _ | refine Below.setCell ?_ (by simp) _ | refine Below.alloc ?_ (by simp <;> omega) _ | refine Below.drew ?_)
  by_cases h_t1 : tok ≤ 4096
  rotate_left
  · have f_am : decide ((0 : Int) < am) = true := decide_eq_true (by omega)
    have f_key : ((key.size : Int) == 16) = true := by rw [beq_iff_eq]; omega
    have f_an : ((anchor.size : Int) == 16) = true := by rw [beq_iff_eq]; omega
    have f_t0 : decide ((0 : Int) ≤ tok) = true := decide_eq_true (by omega)
    have f_t1 : decide (tok ≤ 4096) = false := decide_eq_false (by omega)
    have hE : fits2B am key gate anchor of_ ex unit tok = false := by
      rw [Bool.eq_false_iff]; intro hc; unfold fits2B at hc; simp only [Bool.and_eq_true, decide_eq_true_eq] at hc; omega
    rw [hE]
    clear hE
    go_enter Tryz.func46, Tryz.ntmps46
    go_wp2
    go_region
    go_wp2
    go_region
    go_wp2
    all_goals
      go_ret
      refine ⟨by first | rfl | contradiction, ?_⟩
      repeat (first | exact Below.refl _ _ | refine Below.setCell ?_ (by simp) _ | refine Below.alloc ?_ (by simp <;> omega) _ | refine Below.drew ?_)
  by_cases h_ga : gate.size = 16
  rotate_left
  · have f_am : decide ((0 : Int) < am) = true := decide_eq_true (by omega)
    have f_key : ((key.size : Int) == 16) = true := by rw [beq_iff_eq]; omega
    have f_an : ((anchor.size : Int) == 16) = true := by rw [beq_iff_eq]; omega
    have f_t0 : decide ((0 : Int) ≤ tok) = true := decide_eq_true (by omega)
    have f_t1 : decide (tok ≤ 4096) = true := decide_eq_true (by omega)
    have f_ga : ((gate.size : Int) == 16) = false := beq_eq_false_iff_ne.2 (by omega)
    have hE : fits2B am key gate anchor of_ ex unit tok = false := by
      rw [Bool.eq_false_iff]; intro hc; unfold fits2B at hc; simp only [Bool.and_eq_true, decide_eq_true_eq] at hc; omega
    rw [hE]
    clear hE
    go_enter Tryz.func46, Tryz.ntmps46
    go_wp2
    go_region
    go_wp2
    go_region
    go_wp2
    all_goals
      go_ret
      refine ⟨by first | rfl | contradiction, ?_⟩
      repeat (first | exact Below.refl _ _ | refine Below.setCell ?_ (by simp) _ | refine Below.alloc ?_ (by simp <;> omega) _ | refine Below.drew ?_)
  by_cases h_e0 : 1 ≤ ex
  rotate_left
  · have f_am : decide ((0 : Int) < am) = true := decide_eq_true (by omega)
    have f_key : ((key.size : Int) == 16) = true := by rw [beq_iff_eq]; omega
    have f_an : ((anchor.size : Int) == 16) = true := by rw [beq_iff_eq]; omega
    have f_t0 : decide ((0 : Int) ≤ tok) = true := decide_eq_true (by omega)
    have f_t1 : decide (tok ≤ 4096) = true := decide_eq_true (by omega)
    have f_ga : ((gate.size : Int) == 16) = true := by rw [beq_iff_eq]; omega
    have f_e0 : decide ((1 : Int) ≤ ex) = false := decide_eq_false (by omega)
    have hE : fits2B am key gate anchor of_ ex unit tok = false := by
      rw [Bool.eq_false_iff]; intro hc; unfold fits2B at hc; simp only [Bool.and_eq_true, decide_eq_true_eq] at hc; omega
    rw [hE]
    clear hE
    go_enter Tryz.func46, Tryz.ntmps46
    go_wp2
    go_region
    go_wp2
    go_region
    go_wp2
    all_goals
      go_ret
      refine ⟨by first | rfl | contradiction, ?_⟩
      repeat (first | exact Below.refl _ _ | refine Below.setCell ?_ (by simp) _ | refine Below.alloc ?_ (by simp <;> omega) _ | refine Below.drew ?_)
  by_cases h_e1 : ex ≤ 4294967295
  rotate_left
  · have f_am : decide ((0 : Int) < am) = true := decide_eq_true (by omega)
    have f_key : ((key.size : Int) == 16) = true := by rw [beq_iff_eq]; omega
    have f_an : ((anchor.size : Int) == 16) = true := by rw [beq_iff_eq]; omega
    have f_t0 : decide ((0 : Int) ≤ tok) = true := decide_eq_true (by omega)
    have f_t1 : decide (tok ≤ 4096) = true := decide_eq_true (by omega)
    have f_ga : ((gate.size : Int) == 16) = true := by rw [beq_iff_eq]; omega
    have f_e0 : decide ((1 : Int) ≤ ex) = true := decide_eq_true (by omega)
    have f_e1 : decide (ex ≤ 4294967295) = false := decide_eq_false (by omega)
    have hE : fits2B am key gate anchor of_ ex unit tok = false := by
      rw [Bool.eq_false_iff]; intro hc; unfold fits2B at hc; simp only [Bool.and_eq_true, decide_eq_true_eq] at hc; omega
    rw [hE]
    clear hE
    go_enter Tryz.func46, Tryz.ntmps46
    go_wp2
    go_region
    go_wp2
    go_region
    go_wp2
    all_goals
      go_ret
      refine ⟨by first | rfl | contradiction, ?_⟩
      repeat (first | exact Below.refl _ _ | refine Below.setCell ?_ (by simp) _ | refine Below.alloc ?_ (by simp <;> omega) _ | refine Below.drew ?_)
  by_cases h_of : of_.size = 0
  rotate_left
  · have f_am : decide ((0 : Int) < am) = true := decide_eq_true (by omega)
    have f_key : ((key.size : Int) == 16) = true := by rw [beq_iff_eq]; omega
    have f_an : ((anchor.size : Int) == 16) = true := by rw [beq_iff_eq]; omega
    have f_t0 : decide ((0 : Int) ≤ tok) = true := decide_eq_true (by omega)
    have f_t1 : decide (tok ≤ 4096) = true := decide_eq_true (by omega)
    have f_ga : ((gate.size : Int) == 16) = true := by rw [beq_iff_eq]; omega
    have f_e0 : decide ((1 : Int) ≤ ex) = true := decide_eq_true (by omega)
    have f_e1 : decide (ex ≤ 4294967295) = true := decide_eq_true (by omega)
    have f_of : ¬of_.toList = [] := fun e => h_of ((toList_nil of_).1 e)
    have hE : fits2B am key gate anchor of_ ex unit tok = false := by
      rw [Bool.eq_false_iff]; intro hc; unfold fits2B at hc; simp only [Bool.and_eq_true, decide_eq_true_eq] at hc; omega
    rw [hE]
    clear hE
    go_enter Tryz.func46, Tryz.ntmps46
    go_wp2
    go_region
    go_wp2
    go_region
    go_wp2
    all_goals
      go_ret
      refine ⟨by first | rfl | contradiction, ?_⟩
      repeat (first | exact Below.refl _ _ | refine Below.setCell ?_ (by simp) _ | refine Below.alloc ?_ (by simp <;> omega) _ | refine Below.drew ?_)
  have f_am : decide ((0 : Int) < am) = true := decide_eq_true (by omega)
  have f_key : ((key.size : Int) == 16) = true := by rw [beq_iff_eq]; omega
  have f_an : ((anchor.size : Int) == 16) = true := by rw [beq_iff_eq]; omega
  have f_t0 : decide ((0 : Int) ≤ tok) = true := decide_eq_true (by omega)
  have f_t1 : decide (tok ≤ 4096) = true := decide_eq_true (by omega)
  have f_ga : ((gate.size : Int) == 16) = true := by rw [beq_iff_eq]; omega
  have f_e0 : decide ((1 : Int) ≤ ex) = true := decide_eq_true (by omega)
  have f_e1 : decide (ex ≤ 4294967295) = true := decide_eq_true (by omega)
  have f_of : of_.toList = [] := (toList_nil of_).2 h_of
  have hE : fits2B am key gate anchor of_ ex unit tok = true := by
    unfold fits2B; simp only [Bool.and_eq_true, decide_eq_true_eq]; omega
  rw [hE]
  clear hE
  go_enter Tryz.func46, Tryz.ntmps46
  go_wp2
  go_region
  go_wp2
  go_region
  go_wp2
  all_goals
    go_ret
    refine ⟨by first | rfl | contradiction, ?_⟩
    repeat (first | exact Below.refl _ _ | refine Below.setCell ?_ (by simp) _ | refine Below.alloc ?_ (by simp <;> omega) _ | refine Below.drew ?_)
def fits3B (am : Nat) (key gate anchor of_ : ByteArray) (ex : Int) (unit : Nat) (tok : Int) : Bool := decide (0 < am) && decide (key.size = 16) && decide (gate.size = 16) && decide (1 ≤ ex) && decide (ex ≤ 4294967295) && decide (of_.size = 16) && decide (anchor.size = 0) && decide (unit = 0) && decide (tok = 0)
set_option maxRecDepth 100000 in
set_option maxHeartbeats 4000000 in
theorem fits3_any (am : Nat) (key gate anchor of_ : ByteArray) (ex : Int) (unit : Nat) (tok : Int) (w : World) :
    Calls Tryz.prog 46 #[.agg #[.int .i64 3, .int .u64 (am : Nat), .string key, .string gate, .int .i64 ex, .string anchor, .int .u64 (unit : Nat), .int .i64 tok, .string of_]] w fun e w' => e = .returned (.bool (fits3B am key gate anchor of_ ex unit tok)) ∧ Below w.heap.size w w' := by
  by_cases h_am : 0 < am
  rotate_left
  · have f_am : decide ((0 : Int) < am) = false := decide_eq_false (by omega)
    have f_amN : ¬0 < am := h_am
    have hE : fits3B am key gate anchor of_ ex unit tok = false := by
      rw [Bool.eq_false_iff]; intro hc; unfold fits3B at hc; simp only [Bool.and_eq_true, decide_eq_true_eq] at hc; omega
    rw [hE]
    clear hE  h_am
    go_enter Tryz.func46, Tryz.ntmps46
    go_wp2
    go_region
    go_wp2
    all_goals
      go_ret
      refine ⟨by first | rfl | contradiction, ?_⟩
      repeat (first | exact Below.refl _ _ | refine Below.setCell ?_ (by simp) _ | refine Below.alloc ?_ (by simp <;> omega) _ | refine Below.drew ?_)
  by_cases h_key : key.size = 16
  rotate_left
  · have f_am : decide ((0 : Int) < am) = true := decide_eq_true (by omega)
    have f_key : ((key.size : Int) == 16) = false := beq_eq_false_iff_ne.2 (by omega)
    have hE : fits3B am key gate anchor of_ ex unit tok = false := by
      rw [Bool.eq_false_iff]; intro hc; unfold fits3B at hc; simp only [Bool.and_eq_true, decide_eq_true_eq] at hc; omega
    rw [hE]
    clear hE
    go_enter Tryz.func46, Tryz.ntmps46
    go_wp2
    go_region
    go_wp2
    all_goals
      go_ret
      refine ⟨by first | rfl | contradiction, ?_⟩
      repeat (first | exact Below.refl _ _ | refine Below.setCell ?_ (by simp) _ | refine Below.alloc ?_ (by simp <;> omega) _ | refine Below.drew ?_)
  by_cases h_ga : gate.size = 16
  rotate_left
  · have f_am : decide ((0 : Int) < am) = true := decide_eq_true (by omega)
    have f_key : ((key.size : Int) == 16) = true := by rw [beq_iff_eq]; omega
    have f_ga : ((gate.size : Int) == 16) = false := beq_eq_false_iff_ne.2 (by omega)
    have hE : fits3B am key gate anchor of_ ex unit tok = false := by
      rw [Bool.eq_false_iff]; intro hc; unfold fits3B at hc; simp only [Bool.and_eq_true, decide_eq_true_eq] at hc; omega
    rw [hE]
    clear hE
    go_enter Tryz.func46, Tryz.ntmps46
    go_wp2
    go_region
    go_wp2
    all_goals
      go_ret
      refine ⟨by first | rfl | contradiction, ?_⟩
      repeat (first | exact Below.refl _ _ | refine Below.setCell ?_ (by simp) _ | refine Below.alloc ?_ (by simp <;> omega) _ | refine Below.drew ?_)
  by_cases h_e0 : 1 ≤ ex
  rotate_left
  · have f_am : decide ((0 : Int) < am) = true := decide_eq_true (by omega)
    have f_key : ((key.size : Int) == 16) = true := by rw [beq_iff_eq]; omega
    have f_ga : ((gate.size : Int) == 16) = true := by rw [beq_iff_eq]; omega
    have f_e0 : decide ((1 : Int) ≤ ex) = false := decide_eq_false (by omega)
    have hE : fits3B am key gate anchor of_ ex unit tok = false := by
      rw [Bool.eq_false_iff]; intro hc; unfold fits3B at hc; simp only [Bool.and_eq_true, decide_eq_true_eq] at hc; omega
    rw [hE]
    clear hE
    go_enter Tryz.func46, Tryz.ntmps46
    go_wp2
    go_region
    go_wp2
    all_goals
      go_ret
      refine ⟨by first | rfl | contradiction, ?_⟩
      repeat (first | exact Below.refl _ _ | refine Below.setCell ?_ (by simp) _ | refine Below.alloc ?_ (by simp <;> omega) _ | refine Below.drew ?_)
  by_cases h_e1 : ex ≤ 4294967295
  rotate_left
  · have f_am : decide ((0 : Int) < am) = true := decide_eq_true (by omega)
    have f_key : ((key.size : Int) == 16) = true := by rw [beq_iff_eq]; omega
    have f_ga : ((gate.size : Int) == 16) = true := by rw [beq_iff_eq]; omega
    have f_e0 : decide ((1 : Int) ≤ ex) = true := decide_eq_true (by omega)
    have f_e1 : decide (ex ≤ 4294967295) = false := decide_eq_false (by omega)
    have hE : fits3B am key gate anchor of_ ex unit tok = false := by
      rw [Bool.eq_false_iff]; intro hc; unfold fits3B at hc; simp only [Bool.and_eq_true, decide_eq_true_eq] at hc; omega
    rw [hE]
    clear hE
    go_enter Tryz.func46, Tryz.ntmps46
    go_wp2
    go_region
    go_wp2
    all_goals
      go_ret
      refine ⟨by first | rfl | contradiction, ?_⟩
      repeat (first | exact Below.refl _ _ | refine Below.setCell ?_ (by simp) _ | refine Below.alloc ?_ (by simp <;> omega) _ | refine Below.drew ?_)
  by_cases h_of : of_.size = 16
  rotate_left
  · have f_am : decide ((0 : Int) < am) = true := decide_eq_true (by omega)
    have f_key : ((key.size : Int) == 16) = true := by rw [beq_iff_eq]; omega
    have f_ga : ((gate.size : Int) == 16) = true := by rw [beq_iff_eq]; omega
    have f_e0 : decide ((1 : Int) ≤ ex) = true := decide_eq_true (by omega)
    have f_e1 : decide (ex ≤ 4294967295) = true := decide_eq_true (by omega)
    have f_of : ((of_.size : Int) == 16) = false := beq_eq_false_iff_ne.2 (by omega)
    have hE : fits3B am key gate anchor of_ ex unit tok = false := by
      rw [Bool.eq_false_iff]; intro hc; unfold fits3B at hc; simp only [Bool.and_eq_true, decide_eq_true_eq] at hc; omega
    rw [hE]
    clear hE
    go_enter Tryz.func46, Tryz.ntmps46
    go_wp2
    go_region
    go_wp2
    all_goals
      go_ret
      refine ⟨by first | rfl | contradiction, ?_⟩
      repeat (first | exact Below.refl _ _ | refine Below.setCell ?_ (by simp) _ | refine Below.alloc ?_ (by simp <;> omega) _ | refine Below.drew ?_)
  by_cases h_an : anchor.size = 0
  rotate_left
  · have f_am : decide ((0 : Int) < am) = true := decide_eq_true (by omega)
    have f_key : ((key.size : Int) == 16) = true := by rw [beq_iff_eq]; omega
    have f_ga : ((gate.size : Int) == 16) = true := by rw [beq_iff_eq]; omega
    have f_e0 : decide ((1 : Int) ≤ ex) = true := decide_eq_true (by omega)
    have f_e1 : decide (ex ≤ 4294967295) = true := decide_eq_true (by omega)
    have f_of : ((of_.size : Int) == 16) = true := by rw [beq_iff_eq]; omega
    have f_an : ¬anchor.toList = [] := fun e => h_an ((toList_nil anchor).1 e)
    have hE : fits3B am key gate anchor of_ ex unit tok = false := by
      rw [Bool.eq_false_iff]; intro hc; unfold fits3B at hc; simp only [Bool.and_eq_true, decide_eq_true_eq] at hc; omega
    rw [hE]
    clear hE
    go_enter Tryz.func46, Tryz.ntmps46
    go_wp2
    go_region
    go_wp2
    all_goals
      go_ret
      refine ⟨by first | rfl | contradiction, ?_⟩
      repeat (first | exact Below.refl _ _ | refine Below.setCell ?_ (by simp) _ | refine Below.alloc ?_ (by simp <;> omega) _ | refine Below.drew ?_)
  by_cases h_un : unit = 0
  rotate_left
  · have f_am : decide ((0 : Int) < am) = true := decide_eq_true (by omega)
    have f_key : ((key.size : Int) == 16) = true := by rw [beq_iff_eq]; omega
    have f_ga : ((gate.size : Int) == 16) = true := by rw [beq_iff_eq]; omega
    have f_e0 : decide ((1 : Int) ≤ ex) = true := decide_eq_true (by omega)
    have f_e1 : decide (ex ≤ 4294967295) = true := decide_eq_true (by omega)
    have f_of : ((of_.size : Int) == 16) = true := by rw [beq_iff_eq]; omega
    have f_an : anchor.toList = [] := (toList_nil anchor).2 h_an
    have f_un : ¬unit = 0 := h_un
    have hE : fits3B am key gate anchor of_ ex unit tok = false := by
      rw [Bool.eq_false_iff]; intro hc; unfold fits3B at hc; simp only [Bool.and_eq_true, decide_eq_true_eq] at hc; omega
    rw [hE]
    clear hE
    go_enter Tryz.func46, Tryz.ntmps46
    go_wp2
    go_region
    go_wp2
    all_goals
      go_ret
      refine ⟨by first | rfl | contradiction, ?_⟩
      repeat (first | exact Below.refl _ _ | refine Below.setCell ?_ (by simp) _ | refine Below.alloc ?_ (by simp <;> omega) _ | refine Below.drew ?_)
  by_cases h_to : tok = 0
  rotate_left
  · have f_am : decide ((0 : Int) < am) = true := decide_eq_true (by omega)
    have f_key : ((key.size : Int) == 16) = true := by rw [beq_iff_eq]; omega
    have f_ga : ((gate.size : Int) == 16) = true := by rw [beq_iff_eq]; omega
    have f_e0 : decide ((1 : Int) ≤ ex) = true := decide_eq_true (by omega)
    have f_e1 : decide (ex ≤ 4294967295) = true := decide_eq_true (by omega)
    have f_of : ((of_.size : Int) == 16) = true := by rw [beq_iff_eq]; omega
    have f_an : anchor.toList = [] := (toList_nil anchor).2 h_an
    have f_un : unit = 0 := h_un
    have f_to : ¬tok = 0 := h_to
    have hE : fits3B am key gate anchor of_ ex unit tok = false := by
      rw [Bool.eq_false_iff]; intro hc; unfold fits3B at hc; simp only [Bool.and_eq_true, decide_eq_true_eq] at hc; omega
    rw [hE]
    clear hE
    go_enter Tryz.func46, Tryz.ntmps46
    go_wp2
    go_region
    go_wp2
    all_goals
      go_ret
      refine ⟨by first | rfl | contradiction, ?_⟩
      repeat (first | exact Below.refl _ _ | refine Below.setCell ?_ (by simp) _ | refine Below.alloc ?_ (by simp <;> omega) _ | refine Below.drew ?_)
  have f_am : decide ((0 : Int) < am) = true := decide_eq_true (by omega)
  have f_key : ((key.size : Int) == 16) = true := by rw [beq_iff_eq]; omega
  have f_ga : ((gate.size : Int) == 16) = true := by rw [beq_iff_eq]; omega
  have f_e0 : decide ((1 : Int) ≤ ex) = true := decide_eq_true (by omega)
  have f_e1 : decide (ex ≤ 4294967295) = true := decide_eq_true (by omega)
  have f_of : ((of_.size : Int) == 16) = true := by rw [beq_iff_eq]; omega
  have f_an : anchor.toList = [] := (toList_nil anchor).2 h_an
  have f_un : unit = 0 := h_un
  have f_to : tok = 0 := h_to
  have hE : fits3B am key gate anchor of_ ex unit tok = true := by
    unfold fits3B; simp only [Bool.and_eq_true, decide_eq_true_eq]; omega
  rw [hE]
  clear hE
  go_enter Tryz.func46, Tryz.ntmps46
  go_wp2
  go_region
  go_wp2
  all_goals
    go_ret
    refine ⟨by first | rfl | contradiction, ?_⟩
    repeat (first | exact Below.refl _ _ | refine Below.setCell ?_ (by simp) _ | refine Below.alloc ?_ (by simp <;> omega) _ | refine Below.drew ?_)
def fits1B (am : Nat) (key gate anchor of_ : ByteArray) (ex : Int) (unit : Nat) (tok : Int) : Bool := decide (0 < am) && decide (key.size = 16) && decide (gate.size = 0) && decide (ex = 0) && decide (anchor.size = 0) && decide (unit = 0) && decide (tok = 0) && decide (of_.size = 0)
set_option maxRecDepth 100000 in
set_option maxHeartbeats 4000000 in
theorem fits1_any (am : Nat) (key gate anchor of_ : ByteArray) (ex : Int) (unit : Nat) (tok : Int) (w : World) :
    Calls Tryz.prog 46 #[.agg #[.int .i64 1, .int .u64 (am : Nat), .string key, .string gate, .int .i64 ex, .string anchor, .int .u64 (unit : Nat), .int .i64 tok, .string of_]] w fun e w' => e = .returned (.bool (fits1B am key gate anchor of_ ex unit tok)) ∧ Below w.heap.size w w' := by
  by_cases h_am : 0 < am
  rotate_left
  · have f_am : decide ((0 : Int) < am) = false := decide_eq_false (by omega)
    have f_amN : ¬0 < am := h_am
    have hE : fits1B am key gate anchor of_ ex unit tok = false := by
      rw [Bool.eq_false_iff]; intro hc; unfold fits1B at hc; simp only [Bool.and_eq_true, decide_eq_true_eq] at hc; omega
    rw [hE]
    clear hE  h_am
    go_enter Tryz.func46, Tryz.ntmps46
    go_wp2
    all_goals
      go_ret
      refine ⟨by first | rfl | contradiction, ?_⟩
      repeat (first | exact Below.refl _ _ | refine Below.setCell ?_ (by simp) _ | refine Below.alloc ?_ (by simp <;> omega) _ | refine Below.drew ?_)
  by_cases h_key : key.size = 16
  rotate_left
  · have f_am : decide ((0 : Int) < am) = true := decide_eq_true (by omega)
    have f_key : ((key.size : Int) == 16) = false := beq_eq_false_iff_ne.2 (by omega)
    have hE : fits1B am key gate anchor of_ ex unit tok = false := by
      rw [Bool.eq_false_iff]; intro hc; unfold fits1B at hc; simp only [Bool.and_eq_true, decide_eq_true_eq] at hc; omega
    rw [hE]
    clear hE
    go_enter Tryz.func46, Tryz.ntmps46
    go_wp2
    all_goals
      go_ret
      refine ⟨by first | rfl | contradiction, ?_⟩
      repeat (first | exact Below.refl _ _ | refine Below.setCell ?_ (by simp) _ | refine Below.alloc ?_ (by simp <;> omega) _ | refine Below.drew ?_)
  by_cases h_ga : gate.size = 0
  rotate_left
  · have f_am : decide ((0 : Int) < am) = true := decide_eq_true (by omega)
    have f_key : ((key.size : Int) == 16) = true := by rw [beq_iff_eq]; omega
    have f_ga : ¬gate.toList = [] := fun e => h_ga ((toList_nil gate).1 e)
    have hE : fits1B am key gate anchor of_ ex unit tok = false := by
      rw [Bool.eq_false_iff]; intro hc; unfold fits1B at hc; simp only [Bool.and_eq_true, decide_eq_true_eq] at hc; omega
    rw [hE]
    clear hE
    go_enter Tryz.func46, Tryz.ntmps46
    go_wp2
    all_goals
      go_ret
      refine ⟨by first | rfl | contradiction, ?_⟩
      repeat (first | exact Below.refl _ _ | refine Below.setCell ?_ (by simp) _ | refine Below.alloc ?_ (by simp <;> omega) _ | refine Below.drew ?_)
  by_cases h_ex : ex = 0
  rotate_left
  · have f_am : decide ((0 : Int) < am) = true := decide_eq_true (by omega)
    have f_key : ((key.size : Int) == 16) = true := by rw [beq_iff_eq]; omega
    have f_ga : gate.toList = [] := (toList_nil gate).2 h_ga
    have f_ex : ¬ex = 0 := h_ex
    have hE : fits1B am key gate anchor of_ ex unit tok = false := by
      rw [Bool.eq_false_iff]; intro hc; unfold fits1B at hc; simp only [Bool.and_eq_true, decide_eq_true_eq] at hc; omega
    rw [hE]
    clear hE
    go_enter Tryz.func46, Tryz.ntmps46
    go_wp2
    all_goals
      go_ret
      refine ⟨by first | rfl | contradiction, ?_⟩
      repeat (first | exact Below.refl _ _ | refine Below.setCell ?_ (by simp) _ | refine Below.alloc ?_ (by simp <;> omega) _ | refine Below.drew ?_)
  by_cases h_an : anchor.size = 0
  rotate_left
  · have f_am : decide ((0 : Int) < am) = true := decide_eq_true (by omega)
    have f_key : ((key.size : Int) == 16) = true := by rw [beq_iff_eq]; omega
    have f_ga : gate.toList = [] := (toList_nil gate).2 h_ga
    have f_ex : ex = 0 := h_ex
    have f_an : ¬anchor.toList = [] := fun e => h_an ((toList_nil anchor).1 e)
    have hE : fits1B am key gate anchor of_ ex unit tok = false := by
      rw [Bool.eq_false_iff]; intro hc; unfold fits1B at hc; simp only [Bool.and_eq_true, decide_eq_true_eq] at hc; omega
    rw [hE]
    clear hE
    go_enter Tryz.func46, Tryz.ntmps46
    go_wp2
    all_goals
      go_ret
      refine ⟨by first | rfl | contradiction, ?_⟩
      repeat (first | exact Below.refl _ _ | refine Below.setCell ?_ (by simp) _ | refine Below.alloc ?_ (by simp <;> omega) _ | refine Below.drew ?_)
  by_cases h_un : unit = 0
  rotate_left
  · have f_am : decide ((0 : Int) < am) = true := decide_eq_true (by omega)
    have f_key : ((key.size : Int) == 16) = true := by rw [beq_iff_eq]; omega
    have f_ga : gate.toList = [] := (toList_nil gate).2 h_ga
    have f_ex : ex = 0 := h_ex
    have f_an : anchor.toList = [] := (toList_nil anchor).2 h_an
    have f_un : ¬unit = 0 := h_un
    have hE : fits1B am key gate anchor of_ ex unit tok = false := by
      rw [Bool.eq_false_iff]; intro hc; unfold fits1B at hc; simp only [Bool.and_eq_true, decide_eq_true_eq] at hc; omega
    rw [hE]
    clear hE
    go_enter Tryz.func46, Tryz.ntmps46
    go_wp2
    all_goals
      go_ret
      refine ⟨by first | rfl | contradiction, ?_⟩
      repeat (first | exact Below.refl _ _ | refine Below.setCell ?_ (by simp) _ | refine Below.alloc ?_ (by simp <;> omega) _ | refine Below.drew ?_)
  by_cases h_to : tok = 0
  rotate_left
  · have f_am : decide ((0 : Int) < am) = true := decide_eq_true (by omega)
    have f_key : ((key.size : Int) == 16) = true := by rw [beq_iff_eq]; omega
    have f_ga : gate.toList = [] := (toList_nil gate).2 h_ga
    have f_ex : ex = 0 := h_ex
    have f_an : anchor.toList = [] := (toList_nil anchor).2 h_an
    have f_un : unit = 0 := h_un
    have f_to : ¬tok = 0 := h_to
    have hE : fits1B am key gate anchor of_ ex unit tok = false := by
      rw [Bool.eq_false_iff]; intro hc; unfold fits1B at hc; simp only [Bool.and_eq_true, decide_eq_true_eq] at hc; omega
    rw [hE]
    clear hE
    go_enter Tryz.func46, Tryz.ntmps46
    go_wp2
    all_goals
      go_ret
      refine ⟨by first | rfl | contradiction, ?_⟩
      repeat (first | exact Below.refl _ _ | refine Below.setCell ?_ (by simp) _ | refine Below.alloc ?_ (by simp <;> omega) _ | refine Below.drew ?_)
  by_cases h_of : of_.size = 0
  rotate_left
  · have f_am : decide ((0 : Int) < am) = true := decide_eq_true (by omega)
    have f_key : ((key.size : Int) == 16) = true := by rw [beq_iff_eq]; omega
    have f_ga : gate.toList = [] := (toList_nil gate).2 h_ga
    have f_ex : ex = 0 := h_ex
    have f_an : anchor.toList = [] := (toList_nil anchor).2 h_an
    have f_un : unit = 0 := h_un
    have f_to : tok = 0 := h_to
    have f_of : ¬of_.toList = [] := fun e => h_of ((toList_nil of_).1 e)
    have hE : fits1B am key gate anchor of_ ex unit tok = false := by
      rw [Bool.eq_false_iff]; intro hc; unfold fits1B at hc; simp only [Bool.and_eq_true, decide_eq_true_eq] at hc; omega
    rw [hE]
    clear hE
    go_enter Tryz.func46, Tryz.ntmps46
    go_wp2
    all_goals
      go_ret
      refine ⟨by first | rfl | contradiction, ?_⟩
      repeat (first | exact Below.refl _ _ | refine Below.setCell ?_ (by simp) _ | refine Below.alloc ?_ (by simp <;> omega) _ | refine Below.drew ?_)
  have f_am : decide ((0 : Int) < am) = true := decide_eq_true (by omega)
  have f_key : ((key.size : Int) == 16) = true := by rw [beq_iff_eq]; omega
  have f_ga : gate.toList = [] := (toList_nil gate).2 h_ga
  have f_ex : ex = 0 := h_ex
  have f_an : anchor.toList = [] := (toList_nil anchor).2 h_an
  have f_un : unit = 0 := h_un
  have f_to : tok = 0 := h_to
  have f_of : of_.toList = [] := (toList_nil of_).2 h_of
  have hE : fits1B am key gate anchor of_ ex unit tok = true := by
    unfold fits1B; simp only [Bool.and_eq_true, decide_eq_true_eq]; omega
  rw [hE]
  clear hE
  go_enter Tryz.func46, Tryz.ntmps46
  go_wp2
  all_goals
    go_ret
    refine ⟨by first | rfl | contradiction, ?_⟩
    repeat (first | exact Below.refl _ _ | refine Below.setCell ?_ (by simp) _ | refine Below.alloc ?_ (by simp <;> omega) _ | refine Below.drew ?_)
set_option maxRecDepth 100000 in
set_option maxHeartbeats 2000000 in
theorem fits_odd (kind : Int) (am : Nat) (key gate anchor of_ : ByteArray) (ex : Int) (unit : Nat) (tok : Int) (w : World) (k1 : kind ≠ 1) (k2 : kind ≠ 2) (k3 : kind ≠ 3) :
    Calls Tryz.prog 46 #[.agg #[.int .i64 kind, .int .u64 (am : Nat), .string key, .string gate, .int .i64 ex, .string anchor, .int .u64 (unit : Nat), .int .i64 tok, .string of_]] w fun e w' => e = .returned (.bool false) ∧ Below w.heap.size w w' := by
  have d1 : (kind == 1) = false := beq_eq_false_iff_ne.2 k1
  have d2 : (kind == 2) = false := beq_eq_false_iff_ne.2 k2
  have d3 : (kind == 3) = false := beq_eq_false_iff_ne.2 k3
  by_cases h_am : 0 < am
  · have f_am : decide ((0 : Int) < am) = true := decide_eq_true (by omega)
    go_enter Tryz.func46, Tryz.ntmps46
    go_wp2
    all_goals
      go_ret
      refine ⟨by first | rfl | contradiction, ?_⟩
      repeat (first | exact Below.refl _ _ | refine Below.setCell ?_ (by simp) _ | refine Below.alloc ?_ (by simp <;> omega) _ | refine Below.drew ?_)
  · have f_am : decide ((0 : Int) < am) = false := decide_eq_false (by omega)
    have f_amN : ¬0 < am := h_am
    go_enter Tryz.func46, Tryz.ntmps46
    go_wp2
    all_goals
      go_ret
      refine ⟨by first | rfl | contradiction, ?_⟩
      repeat (first | exact Below.refl _ _ | refine Below.setCell ?_ (by simp) _ | refine Below.alloc ?_ (by simp <;> omega) _ | refine Below.drew ?_)
end Go.Proofs.YtpbcfeghfcodcaaGreat
namespace Go.Proofs.YtpbcfeghfcodcaaGreat
open Go.RowKit
def fitsB (o : Ou) : Bool :=
  if o.kind = 2 then fits2B o.am o.key o.gate o.anchor o.of_ o.ex o.unit o.tok else if o.kind = 3 then fits3B o.am o.key o.gate o.anchor o.of_ o.ex o.unit o.tok else if o.kind = 1 then fits1B o.am o.key o.gate o.anchor o.of_ o.ex o.unit o.tok else false
theorem fits_gen (o : Ou) (w : World) : Calls Tryz.prog 46 #[.agg o.cs] w fun e w' => e = .returned (.bool (fitsB o)) ∧ Below w.heap.size w w' := by
  obtain ⟨kind, am, key, gate, ex, anchor, unit, tok, of_⟩ := o
  unfold fitsB Ou.cs
  by_cases k2 : kind = 2
  · subst k2
    exact fits2_any am key gate anchor of_ ex unit tok w
  · by_cases k3 : kind = 3
    · subst k3
      exact fits3_any am key gate anchor of_ ex unit tok w
    · by_cases k1 : kind = 1
      · subst k1
        exact fits1_any am key gate anchor of_ ex unit tok w
      · simp only [if_neg k2, if_neg k3, if_neg k1]
        exact fits_odd kind am key gate anchor of_ ex unit tok w k1 k2 k3
end Go.Proofs.YtpbcfeghfcodcaaGreat
namespace Go.Proofs.YtpbcfeghfcodcaaGreat
open Go.RowKit Go.Maps
/-- a call of a script -/
structure Op17 where
  kind : Int
  am : Nat
  s : ByteArray
  x : Wn
  e : En
  r : Nat
def Op17.cs (o : Op17) : Array Value := #[.int .i64 o.kind, .int .u64 (o.am : Nat), .string o.s, .string o.x.t.ch, .int .u64 (o.x.t.ser : Nat), .int .u64 (o.x.t.face : Nat), .int .u64 (o.x.t.wins : Nat), .int .u64 (o.x.t.many : Nat), .string o.x.t.com, .int .u64 (o.x.t.cl : Nat), .string o.x.t.sig, .string o.x.salt, .int .u64 (o.x.drawn : Nat),
  .string o.e.tx, .int .i64 o.e.out, .int .i64 o.e.o.kind, .int .u64 (o.e.o.am : Nat), .string o.e.o.key, .string o.e.o.gate, .int .i64 o.e.o.ex, .string o.e.o.anchor, .int .u64 (o.e.o.unit : Nat), .int .i64 o.e.o.tok, .string o.e.o.of_, .int .u64 (o.r : Nat)]
theorem op_win (o : Op17) : o.cs.extract 3 (3 + 10) = o.x.cs := by rfl
theorem op_en (o : Op17) : o.cs.extract 13 (13 + 11) = o.e.cs := by rfl
structure Op17.fit (o : Op17) : Prop where
  am : o.am < 18446744073709551616
  s : o.s.size ≤ 1000000
  x : o.x.fit
  eam : o.e.o.am < 18446744073709551616
  r : o.r < 18446744073709551616
/-- a state of a channel that was made -/
structure St.good (s : St) (mt : Nat) : Prop where
  fit : s.fit
  an : s.lock.o.anchor.size = 16
  tok : s.lock.o.tok = (mt : Int)
  mt : mt ≤ 4096
  tops : s.tops.length ≤ 900
  wins : s.wins.length ≤ 900
def playE (s : St) (mt : Nat) (o : Op17) : Int :=
  if o.kind = 0 then vouE s o.am o.s o.r else if o.kind = 1 then tokE s o.s mt o.r else if o.kind = 2 then ticE s o.x o.r else if o.kind = 3 then moreE s o.e (fitsB o.e.o) else 0
def playS (s : St) (mt : Nat) (o : Op17) : St :=
  if o.kind = 0 then s.vouch o.am o.s else if o.kind = 1 then s.token o.s (cntN s.lock.o.anchor o.s mt) else if o.kind = 2 then tickS s o.x else if o.kind = 3 then s.addtop o.e else s.shut
set_option maxRecDepth 100000 in
set_option maxHeartbeats 4000000 in
theorem play_any (s : St) (mt : Nat) (o : Op17) (w : World) (hg : s.good mt) (hS : s.mem w) (ho : o.fit) :
    Calls Tryz.prog 12 #[.agg s.cs, .agg o.cs] w (ChR (playS s mt o) (playE s mt o) w) := by
  have HX : Hid (Blk (((w.alloc (.cells s.cs 35)).alloc (.cells o.cs 47)).alloc (.cells zSt 35)) w.heap.size 35 s.cs) := Lib.hid (((Blk.new w _ _).alloc _).alloc _)
  have HO : Hid (Blk (((w.alloc (.cells s.cs 35)).alloc (.cells o.cs 47)).alloc (.cells zSt 35)) (w.heap.size + 1) 47 o.cs) := Lib.hid (Blk.alloc (Blk.newAt (by simp)) _)
  have HR : Hid (Blk (((w.alloc (.cells s.cs 35)).alloc (.cells o.cs 47)).alloc (.cells zSt 35)) (w.heap.size + 1 + 1) 35 zSt) := Blk.newAt (by simp)
  have HB : Hid (Below w.heap.size w (((w.alloc (.cells s.cs 35)).alloc (.cells o.cs 47)).alloc (.cells zSt 35))) := (((Below.refl _ _).alloc (Nat.le_refl _) _).alloc (by simp) _).alloc (by simp <;> omega) _
  have c0 : ∀ q, (((w.alloc (.cells s.cs 35)).alloc (.cells o.cs 47)).alloc q).cell? ⟨w.heap.size + 1, 0, none⟩ = some (.int .i64 o.kind) := fun q => Blk.cell (Blk.alloc (Blk.newAt (by simp)) q) 0
  have c1 : ∀ q, (((w.alloc (.cells s.cs 35)).alloc (.cells o.cs 47)).alloc q).cell? ⟨w.heap.size + 1, 1, none⟩ = some (.int .u64 o.am) := fun q => Blk.cell (Blk.alloc (Blk.newAt (by simp)) q) 1
  have c2 : ∀ q, (((w.alloc (.cells s.cs 35)).alloc (.cells o.cs 47)).alloc q).cell? ⟨w.heap.size + 1, 2, none⟩ = some (.string o.s) := fun q => Blk.cell (Blk.alloc (Blk.newAt (by simp)) q) 2
  have c24 : ∀ q, (((w.alloc (.cells s.cs 35)).alloc (.cells o.cs 47)).alloc q).cell? ⟨w.heap.size + 1, 24, none⟩ = some (.int .u64 o.r) := fun q => Blk.cell (Blk.alloc (Blk.newAt (by simp)) q) 24
  have H0 := fun W hW => Lib.hid (xvoucher_any s o.am o.s o.r W hg.fit (hS.bel (w' := W) hW) ho.am ho.s ho.r)
  have H1 := fun W hW => Lib.hid (xtoken_any s o.s mt o.r W hg.fit (hS.bel (w' := W) hW) hg.an hg.tok hg.mt ho.r)
  have H2 := fun W hW => Lib.hid (xticket_any s o.x o.r W hg.fit hg.wins (hS.bel (w' := W) hW) ho.x ho.r)
  have H3 := fun W hW => Lib.hid (xmore_any s o.e W hg.fit hg.tops (hS.bel (w' := W) hW) ho.eam (fitsB o.e.o) (fun W => fits_gen o.e.o W))
  have H4 := fun W hW => Lib.hid (xclose_any s W hg.fit (hS.bel (w' := W) hW))
  have HE : Hid (playE s mt o = if o.kind = 0 then vouE s o.am o.s o.r else if o.kind = 1 then tokE s o.s mt o.r else if o.kind = 2 then ticE s o.x o.r else if o.kind = 3 then moreE s o.e (fitsB o.e.o) else 0) := rfl
  have HP : Hid (playS s mt o = if o.kind = 0 then s.vouch o.am o.s else if o.kind = 1 then s.token o.s (cntN s.lock.o.anchor o.s mt) else if o.kind = 2 then tickS s o.x else if o.kind = 3 then s.addtop o.e else s.shut) := rfl
  generalize playE s mt o = f at HE ⊢
  generalize playS s mt o = S' at HP ⊢
  generalize vouE s o.am o.s o.r = f0 at HE H0
  generalize tokE s o.s mt o.r = f1 at HE H1
  generalize ticE s o.x o.r = f2 at HE H2
  generalize moreE s o.e (fitsB o.e.o) = f3 at HE H3
  generalize s.vouch o.am o.s = S0 at HP H0
  generalize s.token o.s (cntN s.lock.o.anchor o.s mt) = S1 at HP H1
  generalize tickS s o.x = S2 at HP H2
  generalize s.addtop o.e = S3 at HP H3
  generalize s.shut = S4 at HP H4
  clear hg hS ho
  by_cases k0 : o.kind = 0
  · obtain rfl : f = f0 := by rw [HE.out, if_pos k0]
    obtain rfl : S' = S0 := by rw [HP.out, if_pos k0]
    have d0 : (o.kind == 0) = true := by rw [k0]; rfl
    clear k0 H1 H2 H3 H4 HE HP
    go_enter Tryz.func12, Tryz.ntmps12
    go_wp2_with (refine wpList_load_blk rfl 35 (.tmp 2) rfl w.heap.size 0 20 HX.out s.cs (by rfl) (st_ext s) Tryz.underlying35 infoSta (st_le s) ?_)
    refine (H0 _ HB.out).out.mono ?_
    rintro e V ⟨hb, hr⟩
    replace HR := Lib.hid (HR.out.bel hb)
    have HBo := HB
    replace HB := Lib.hid (HB.out.trans (hb.mono HB.out.size))
    clear hb
    rcases hr with ⟨hne, rfl⟩ | ⟨rfl, A, c, B, d, rfl, hl⟩
    · have HNE := Lib.hid hne
      clear hne
      go_wp2_with (refine wpList_store_part rfl 35 (.tmp 4) (.tmp 18) rfl (w.heap.size + 1 + 1) 0 HR.out zSt zSt (by rfl) (by rfl) (Nat.le_refl 20) infoSta zStO (zStV rfl) ?_; intro W6 hb6 hc6; have HT := Lib.hid hb6; have HC6 := Lib.hid hc6; clear hb6 hc6)
      refine bodyPost_ret (results_cell_row2 rfl _ HT.out rfl Tryz.underlying35 infoSta) rfl ?_
      exact ⟨HB.out.trans (HC6.out.below HB.out.size (by simp <;> omega)), .inl ⟨HNE.out, rfl⟩⟩
    · have HL := Lib.hid (hl.mono HBo.out.size)
      clear hl
      go_wp2_with (refine wpList_store_part rfl 35 (.tmp 4) (.tmp 18) rfl (w.heap.size + 1 + 1) 0 HR.out (S'.lists A c B d).cs (S'.lists A c B d).cs (by rfl) (by rfl) (Nat.le_refl 20) infoSta (stcs_one _) (st_over _ rfl) ?_; intro W6 hb6 hc6; have HT := Lib.hid hb6; have HC6 := Lib.hid hc6; clear hb6 hc6)
      refine bodyPost_ret (results_cell_row2 rfl _ HT.out rfl Tryz.underlying35 infoSta) rfl ?_
      exact ⟨HB.out.trans (HC6.out.below HB.out.size (by simp <;> omega)), .inr ⟨rfl, A, c, B, d, rfl, HL.out.ch HC6.out HR.out.kdT⟩⟩
  · have d0 : (o.kind == 0) = false := beq_eq_false_iff_ne.2 k0
    by_cases k1 : o.kind = 1
    · obtain rfl : f = f1 := by rw [HE.out, if_neg k0, if_pos k1]
      obtain rfl : S' = S1 := by rw [HP.out, if_neg k0, if_pos k1]
      have d1 : (o.kind == 1) = true := by rw [k1]; rfl
      clear k0 k1 H0 H2 H3 H4 HE HP
      go_enter Tryz.func12, Tryz.ntmps12
      go_wp2_with (refine wpList_load_blk rfl 35 (.tmp 2) rfl w.heap.size 0 20 HX.out s.cs (by rfl) (st_ext s) Tryz.underlying35 infoSta (st_le s) ?_)
      refine (H1 _ HB.out).out.mono ?_
      rintro e V ⟨hb, hr⟩
      replace HR := Lib.hid (HR.out.bel hb)
      have HBo := HB
      replace HB := Lib.hid (HB.out.trans (hb.mono HB.out.size))
      clear hb
      rcases hr with ⟨hne, rfl⟩ | ⟨rfl, A, c, B, d, rfl, hl⟩
      · have HNE := Lib.hid hne
        clear hne
        go_wp2_with (refine wpList_store_part rfl 35 (.tmp 4) (.tmp 28) rfl (w.heap.size + 1 + 1) 0 HR.out zSt zSt (by rfl) (by rfl) (Nat.le_refl 20) infoSta zStO (zStV rfl) ?_; intro W6 hb6 hc6; have HT := Lib.hid hb6; have HC6 := Lib.hid hc6; clear hb6 hc6)
        refine bodyPost_ret (results_cell_row2 rfl _ HT.out rfl Tryz.underlying35 infoSta) rfl ?_
        exact ⟨HB.out.trans (HC6.out.below HB.out.size (by simp <;> omega)), .inl ⟨HNE.out, rfl⟩⟩
      · have HL := Lib.hid (hl.mono HBo.out.size)
        clear hl
        go_wp2_with (refine wpList_store_part rfl 35 (.tmp 4) (.tmp 28) rfl (w.heap.size + 1 + 1) 0 HR.out (S'.lists A c B d).cs (S'.lists A c B d).cs (by rfl) (by rfl) (Nat.le_refl 20) infoSta (stcs_one _) (st_over _ rfl) ?_; intro W6 hb6 hc6; have HT := Lib.hid hb6; have HC6 := Lib.hid hc6; clear hb6 hc6)
        refine bodyPost_ret (results_cell_row2 rfl _ HT.out rfl Tryz.underlying35 infoSta) rfl ?_
        exact ⟨HB.out.trans (HC6.out.below HB.out.size (by simp <;> omega)), .inr ⟨rfl, A, c, B, d, rfl, HL.out.ch HC6.out HR.out.kdT⟩⟩
    · have d1 : (o.kind == 1) = false := beq_eq_false_iff_ne.2 k1
      by_cases k2 : o.kind = 2
      · obtain rfl : f = f2 := by rw [HE.out, if_neg k0, if_neg k1, if_pos k2]
        obtain rfl : S' = S2 := by rw [HP.out, if_neg k0, if_neg k1, if_pos k2]
        have d2 : (o.kind == 2) = true := by rw [k2]; rfl
        clear k0 k1 k2 H0 H1 H3 H4 HE HP
        go_enter Tryz.func12, Tryz.ntmps12
        go_wp2_with (first
          | (refine wpList_load_blk rfl 35 (.tmp 2) rfl w.heap.size 0 20 HX.out s.cs (by rfl) (st_ext s) Tryz.underlying35 infoSta (st_le s) ?_)
          | (refine wpList_load_blk rfl 45 (.tmp 33) rfl (w.heap.size + 1) 3 10 HO.out o.x.cs (by rfl) (op_win o) Tryz.underlying45 infoWn (by show 13 ≤ 25; omega) ?_))
        refine (H2 _ HB.out).out.mono ?_
        rintro e V ⟨hb, hr⟩
        replace HR := Lib.hid (HR.out.bel hb)
        have HBo := HB
        replace HB := Lib.hid (HB.out.trans (hb.mono HB.out.size))
        clear hb
        rcases hr with ⟨hne, rfl⟩ | ⟨rfl, A, c, B, d, rfl, hl⟩
        · have HNE := Lib.hid hne
          clear hne
          go_wp2_with (refine wpList_store_part rfl 35 (.tmp 4) (.tmp 38) rfl (w.heap.size + 1 + 1) 0 HR.out zSt zSt (by rfl) (by rfl) (Nat.le_refl 20) infoSta zStO (zStV rfl) ?_; intro W6 hb6 hc6; have HT := Lib.hid hb6; have HC6 := Lib.hid hc6; clear hb6 hc6)
          refine bodyPost_ret (results_cell_row2 rfl _ HT.out rfl Tryz.underlying35 infoSta) rfl ?_
          exact ⟨HB.out.trans (HC6.out.below HB.out.size (by simp <;> omega)), .inl ⟨HNE.out, rfl⟩⟩
        · have HL := Lib.hid (hl.mono HBo.out.size)
          clear hl
          go_wp2_with (refine wpList_store_part rfl 35 (.tmp 4) (.tmp 38) rfl (w.heap.size + 1 + 1) 0 HR.out (S'.lists A c B d).cs (S'.lists A c B d).cs (by rfl) (by rfl) (Nat.le_refl 20) infoSta (stcs_one _) (st_over _ rfl) ?_; intro W6 hb6 hc6; have HT := Lib.hid hb6; have HC6 := Lib.hid hc6; clear hb6 hc6)
          refine bodyPost_ret (results_cell_row2 rfl _ HT.out rfl Tryz.underlying35 infoSta) rfl ?_
          exact ⟨HB.out.trans (HC6.out.below HB.out.size (by simp <;> omega)), .inr ⟨rfl, A, c, B, d, rfl, HL.out.ch HC6.out HR.out.kdT⟩⟩
      · have d2 : (o.kind == 2) = false := beq_eq_false_iff_ne.2 k2
        by_cases k3 : o.kind = 3
        · obtain rfl : f = f3 := by rw [HE.out, if_neg k0, if_neg k1, if_neg k2, if_pos k3]
          obtain rfl : S' = S3 := by rw [HP.out, if_neg k0, if_neg k1, if_neg k2, if_pos k3]
          have d3 : (o.kind == 3) = true := by rw [k3]; rfl
          clear k0 k1 k2 k3 H0 H1 H2 H4 HE HP
          go_enter Tryz.func12, Tryz.ntmps12
          go_wp2_with (first
            | (refine wpList_load_blk rfl 35 (.tmp 2) rfl w.heap.size 0 20 HX.out s.cs (by rfl) (st_ext s) Tryz.underlying35 infoSta (st_le s) ?_)
            | (refine wpList_load_blk rfl 28 (.tmp 43) rfl (w.heap.size + 1) 13 11 HO.out o.e.cs (by rfl) (op_en o) Tryz.underlying28 infoEnt (by show 24 ≤ 25; omega) ?_))
          refine (H3 _ HB.out).out.mono ?_
          rintro e V ⟨hb, hr⟩
          replace HR := Lib.hid (HR.out.bel hb)
          have HBo := HB
          replace HB := Lib.hid (HB.out.trans (hb.mono HB.out.size))
          clear hb
          rcases hr with ⟨hne, rfl⟩ | ⟨rfl, A, c, B, d, rfl, hl⟩
          · have HNE := Lib.hid hne
            clear hne
            go_wp2_with (refine wpList_store_part rfl 35 (.tmp 4) (.tmp 46) rfl (w.heap.size + 1 + 1) 0 HR.out zSt zSt (by rfl) (by rfl) (Nat.le_refl 20) infoSta zStO (zStV rfl) ?_; intro W6 hb6 hc6; have HT := Lib.hid hb6; have HC6 := Lib.hid hc6; clear hb6 hc6)
            refine bodyPost_ret (results_cell_row2 rfl _ HT.out rfl Tryz.underlying35 infoSta) rfl ?_
            exact ⟨HB.out.trans (HC6.out.below HB.out.size (by simp <;> omega)), .inl ⟨HNE.out, rfl⟩⟩
          · have HL := Lib.hid (hl.mono HBo.out.size)
            clear hl
            go_wp2_with (refine wpList_store_part rfl 35 (.tmp 4) (.tmp 46) rfl (w.heap.size + 1 + 1) 0 HR.out (S'.lists A c B d).cs (S'.lists A c B d).cs (by rfl) (by rfl) (Nat.le_refl 20) infoSta (stcs_one _) (st_over _ rfl) ?_; intro W6 hb6 hc6; have HT := Lib.hid hb6; have HC6 := Lib.hid hc6; clear hb6 hc6)
            refine bodyPost_ret (results_cell_row2 rfl _ HT.out rfl Tryz.underlying35 infoSta) rfl ?_
            exact ⟨HB.out.trans (HC6.out.below HB.out.size (by simp <;> omega)), .inr ⟨rfl, A, c, B, d, rfl, HL.out.ch HC6.out HR.out.kdT⟩⟩
        · obtain rfl : f = 0 := by rw [HE.out, if_neg k0, if_neg k1, if_neg k2, if_neg k3]
          obtain rfl : S' = S4 := by rw [HP.out, if_neg k0, if_neg k1, if_neg k2, if_neg k3]
          have d3 : (o.kind == 3) = false := beq_eq_false_iff_ne.2 k3
          clear k0 k1 k2 k3 H0 H1 H2 H3 HE HP
          go_enter Tryz.func12, Tryz.ntmps12
          go_wp2_with (refine wpList_load_blk rfl 35 (.tmp 2) rfl w.heap.size 0 20 HX.out s.cs (by rfl) (st_ext s) Tryz.underlying35 infoSta (st_le s) ?_)
          refine (H4 _ HB.out).out.mono ?_
          rintro e V ⟨hb, A, c, B, d, rfl, hl⟩
          replace HR := Lib.hid (HR.out.bel hb)
          have HL := Lib.hid (hl.mono HB.out.size)
          replace HB := Lib.hid (HB.out.trans (hb.mono HB.out.size))
          clear hb hl
          go_wp2_with (refine wpList_store_part rfl 35 (.tmp 4) (.tmp 49) rfl (w.heap.size + 1 + 1) 0 HR.out (S'.lists A c B d).cs (S'.lists A c B d).cs (by rfl) (by rfl) (Nat.le_refl 20) infoSta (stcs_one _) (st_over _ rfl) ?_; intro W6 hb6 hc6; have HT := Lib.hid hb6; have HC6 := Lib.hid hc6; clear hb6 hc6)
          refine bodyPost_ret (results_cell_row2 rfl _ HT.out rfl Tryz.underlying35 infoSta) rfl ?_
          exact ⟨HB.out.trans (HC6.out.below HB.out.size (by simp <;> omega)), .inr ⟨rfl, A, c, B, d, rfl, HL.out.ch HC6.out HR.out.kdT⟩⟩
end Go.Proofs.YtpbcfeghfcodcaaGreat
