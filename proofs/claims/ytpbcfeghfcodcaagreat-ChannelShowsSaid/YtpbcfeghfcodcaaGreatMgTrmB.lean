/- utxo.Terms of any output. -/
import Derived.Outline
import Derived.Deep.RegionHeld3
import Derived.Test.YtpbcfeghfcodcaaGreatMgPlA
import Derived.Test.YtpbcfeghfcodcaaGreatMgSdkC
set_option linter.unusedVariables false
set_option linter.unusedSimpArgs false
namespace Go.Proofs.YtpbcfeghfcodcaaGreat
open Go.RowKit Go.Maps
def enT (e : En) (mt : Nat) : Tm := ⟨nameO e.tx e.out, e.o.key, e.o.anchor, e.o.unit, mt⟩
set_option maxRecDepth 100000 in
set_option maxHeartbeats 1000000 in
theorem terms_gen (e : En) (mt : Nat) (w0 : World) (hz : e.tx.size ≤ 1000000) (hmt : e.o.tok = (mt : Int)) :
    Calls Tryz.prog 18 #[.agg e.cs] w0 fun e' w' => e' = .returned (.agg (enT e mt).cs) ∧ Below w0.heap.size w0 w' := by
  have HE : ∀ o, Hid (Blk ((w0.alloc (.cells e.cs 28)).alloc o) w0.heap.size 28 e.cs) := fun o => (Blk.new _ _ _).alloc o
  have HR : Hid (Blk ((w0.alloc (.cells e.cs 28)).alloc (.cells zTm.cs 57)) (w0.heap.size + 1) 57 zTm.cs) := Blk.newAt (by simp)
  have HB : Hid (Below w0.heap.size w0 ((w0.alloc (.cells e.cs 28)).alloc (.cells zTm.cs 57))) := ((Below.refl _ _).alloc (Nat.le_refl _) _).alloc (by simp) _
  have HMT := Lib.hid hmt
  have HZ := Lib.hid hz
  clear hmt hz
  go_enter Tryz.func18, Tryz.ntmps18
  go_wp2_with fail
  refine wp_region_held_drew (S := fun W => Hid (Blk W w0.heap.size 28 e.cs)) (by kernel_rfl) (Lib.hid ((HE _).out.drewN 1)) (fun hS => ?_)
  refine wpAnyH_take (i := 0) (v := ?_) rfl (by kernel_rfl) (by kernel_rfl) (by kernel_rfl) (fun _ _ _ h => h) (Or.inl ⟨by rfl, ?_⟩) hS ?_
  rotate_left
  · (intro w _; go_simp; try with_reducible rfl)
  refine wpAnyH_take (i := 1) (v := .agg #[.string e.tx, .int .i64 e.out]) rfl (by kernel_rfl) (by kernel_rfl) (by kernel_rfl) (fun _ _ _ h => h) (yields_blk (by rfl) 23 (.tmp 3) (by rfl) w0.heap.size 0 2 (t := 28) (cs := e.cs) (fun W h => h.out) #[.string e.tx, .int .i64 e.out] (by rfl) (by rfl) Tryz.underlying23 infoPnt (by show 2 ≤ 11; omega)) hS ?_
  refine wpAnyH_take (i := 3) (v := ?_) rfl (by kernel_rfl) (by kernel_rfl) (by kernel_rfl) (fun _ _ _ h => h) (Or.inl ⟨by rfl, ?_⟩) hS ?_
  rotate_left
  · (intro w _; go_simp; try with_reducible rfl)
  refine wpAnyH_take (i := 4) (v := ?_) rfl (by kernel_rfl) (by kernel_rfl) (by kernel_rfl) (fun _ _ _ h => h) (Or.inl ⟨by rfl, ?_⟩) hS ?_
  rotate_left
  · (intro w _; go_simp; try with_reducible rfl)
  refine wpAnyH_take (i := 5) (v := ?_) rfl (by kernel_rfl) (by kernel_rfl) (by kernel_rfl) (fun _ _ _ h => h) (Or.inl ⟨by rfl, ?_⟩) hS ?_
  rotate_left
  · (intro w hS'; have hcell := (show World.cell? _ ⟨w0.heap.size, 4, none⟩ = some (.string e.o.key) from Blk.cell hS'.out 4); go_simp; try with_reducible rfl)
  refine wpAnyH_take (i := 6) (v := ?_) rfl (by kernel_rfl) (by kernel_rfl) (by kernel_rfl) (fun _ _ _ h => h) (Or.inl ⟨by rfl, ?_⟩) hS ?_
  rotate_left
  · (intro w _; go_simp; try with_reducible rfl)
  refine wpAnyH_take (i := 7) (v := ?_) rfl (by kernel_rfl) (by kernel_rfl) (by kernel_rfl) (fun _ _ _ h => h) (Or.inl ⟨by rfl, ?_⟩) hS ?_
  rotate_left
  · (intro w _; go_simp; try with_reducible rfl)
  refine wpAnyH_take (i := 8) (v := ?_) rfl (by kernel_rfl) (by kernel_rfl) (by kernel_rfl) (fun _ _ _ h => h) (Or.inl ⟨by rfl, ?_⟩) hS ?_
  rotate_left
  · (intro w hS'; have hcell := (show World.cell? _ ⟨w0.heap.size, 7, none⟩ = some (.string e.o.anchor) from Blk.cell hS'.out 7); go_simp; try with_reducible rfl)
  refine wpAnyH_take (i := 9) (v := ?_) rfl (by kernel_rfl) (by kernel_rfl) (by kernel_rfl) (fun _ _ _ h => h) (Or.inl ⟨by rfl, ?_⟩) hS ?_
  rotate_left
  · (intro w _; go_simp; try with_reducible rfl)
  refine wpAnyH_take (i := 10) (v := ?_) rfl (by kernel_rfl) (by kernel_rfl) (by kernel_rfl) (fun _ _ _ h => h) (Or.inl ⟨by rfl, ?_⟩) hS ?_
  rotate_left
  · (intro w _; go_simp; try with_reducible rfl)
  refine wpAnyH_take (i := 11) (v := ?_) rfl (by kernel_rfl) (by kernel_rfl) (by kernel_rfl) (fun _ _ _ h => h) (Or.inl ⟨by rfl, ?_⟩) hS ?_
  rotate_left
  · (intro w hS'; have hcell := (show World.cell? _ ⟨w0.heap.size, 8, none⟩ = some (.int .u64 e.o.unit) from Blk.cell hS'.out 8); go_simp; try with_reducible rfl)
  refine wpAnyH_take (i := 12) (v := ?_) rfl (by kernel_rfl) (by kernel_rfl) (by kernel_rfl) (fun _ _ _ h => h) (Or.inl ⟨by rfl, ?_⟩) hS ?_
  rotate_left
  · (intro w _; go_simp; try with_reducible rfl)
  refine wpAnyH_take (i := 13) (v := ?_) rfl (by kernel_rfl) (by kernel_rfl) (by kernel_rfl) (fun _ _ _ h => h) (Or.inl ⟨by rfl, ?_⟩) hS ?_
  rotate_left
  · (intro w _; go_simp; try with_reducible rfl)
  refine wpAnyH_take (i := 14) (v := ?_) rfl (by kernel_rfl) (by kernel_rfl) (by kernel_rfl) (fun _ _ _ h => h) (Or.inl ⟨by rfl, ?_⟩) hS ?_
  rotate_left
  · (intro w hS'; have hcell := (show World.cell? _ ⟨w0.heap.size, 9, none⟩ = some (.int .i64 (mt : Int)) from (Blk.cell hS'.out 9).trans (congrArg (fun b => some (Value.int .i64 b)) HMT.out)); go_simp; try with_reducible rfl)
  refine wpAnyH_ready (rs := [2]) (by kernel_rfl) (by simp) (AllReadyH.cons rfl (fun K hK => ?_) AllReadyH.nil)
  go_simp
  refine (cname_gen e.tx e.out _ HZ.out).mono ?_
  rintro e' W ⟨rfl, hb⟩
  replace HR := Lib.hid (Blk.bel (HR.out.drewN 1) hb)
  have HE2 := Lib.hid (Blk.bel ((HE (.cells zTm.cs 57)).out.drewN 1) hb)
  replace HB := Lib.hid (HB.out.drew.trans (hb.mono HB.out.drew.size))
  clear hb hS
  go_simp
  refine hK.out _ _ HE2 (fun hS => ?_)
  clear hK K
  refine wpAnyH_take (i := 15) (v := ?_) rfl (by kernel_rfl) (by kernel_rfl) (by kernel_rfl) (fun _ _ _ h => h) (Or.inl ⟨by rfl, ?_⟩) hS ?_
  rotate_left
  · (intro w _; go_simp; try with_reducible rfl)
  refine wpAnyH_ready (rs := [16]) (by kernel_rfl) (by simp) (AllReadyH.cons rfl (fun K hK => ?_) AllReadyH.nil)
  refine step_store_part (by rfl) 57 (.tmp 2) (.tmp 18) (by rfl) (w0.heap.size + 1) 0 HR.out (enT e mt).cs (enT e mt).cs (by rfl) (by rfl) (Nat.le_refl 5) infoTm (tmcs_one _) (tmcs_over _) ?_
  intro W1 hb1 hc1
  have HT := Lib.hid hb1
  have HC := Lib.hid hc1
  clear hb1 hc1
  refine hK.out _ _ (Lib.hid (Blk.ch hS.out HC.out (by simp))) (fun _ => ?_)
  clear hK K hS
  refine wpAnyH_done (by kernel_rfl) ?_ _
  go_wp2_with fail
  exact bodyPost_ret (results_cell_row rfl _ _ (w0.heap.size + 1) 57 _ (0, 0) _ rfl HT.out Tryz.underlying57 rfl infoTm) rfl ⟨rfl, HB.out.trans (HC.out.below HB.out.size (by simp))⟩
end Go.Proofs.YtpbcfeghfcodcaaGreat
