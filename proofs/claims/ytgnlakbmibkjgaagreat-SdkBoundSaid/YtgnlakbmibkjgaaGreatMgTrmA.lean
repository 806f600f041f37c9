/- utxo.Terms of a channel. -/
import Derived.Outline
import Derived.Deep.RegionHeld3
import Derived.Test.YtgnlakbmibkjgaaGreatMgNote
import Derived.Test.YtgnlakbmibkjgaaGreatMgSdkB
import Derived.Test.YtgnlakbmibkjgaaGreatMgSdkC
import Derived.Test.YtgnlakbmibkjgaaGreatMgWorE
set_option linter.unusedVariables false
set_option linter.unusedSimpArgs false
namespace Go.Proofs.YtgnlakbmibkjgaaGreat
open Go.RowKit Go.Maps
def zTm : Tm := ⟨ByteArray.empty, ByteArray.empty, ByteArray.empty, 0, 0⟩
theorem tmcs_one (t : Tm) : t.cs.all (·.oneCell') = true := by
  rw [Array.all_eq_true']
  intro x hx
  simp only [Tm.cs, List.mem_toArray, List.mem_cons, List.not_mem_nil, or_false] at hx
  rcases hx with rfl | rfl | rfl | rfl | rfl <;> rfl
theorem tmcs_over (t : Tm) : over zTm.cs 0 t.cs.toList = t.cs := (over_full t.cs.toList zTm.cs rfl).trans (Array.toArray_toList ..)
def lkT (tx : ByteArray) (out : Nat) (l : Lk) : Tm := ⟨nameB tx out, l.key, l.anchor, l.unit, l.tok⟩
theorem results_cell_row1 : True := trivial
set_option maxRecDepth 100000 in
set_option maxHeartbeats 1000000 in
theorem terms_any (tx : ByteArray) (out : Nat) (l : Lk) (w0 : World) (ho : out < 256) (hz : tx.size ≤ 1000000) :
    Calls Tryz.prog 35 #[.agg (entC tx out l)] w0 fun e w' => e = .returned (.agg (lkT tx out l).cs) ∧ Below w0.heap.size w0 w' := by
  have HE : ∀ o, Hid (Blk ((w0.alloc (.cells (entC tx out l) 37)).alloc o) w0.heap.size 37 (entC tx out l)) := fun o => (Blk.new _ _ _).alloc o
  have HR : Hid (Blk ((w0.alloc (.cells (entC tx out l) 37)).alloc (.cells zTm.cs 101)) (w0.heap.size + 1) 101 zTm.cs) := Blk.newAt (by simp)
  have HB : Hid (Below w0.heap.size w0 ((w0.alloc (.cells (entC tx out l) 37)).alloc (.cells zTm.cs 101))) := ((Below.refl _ _).alloc (Nat.le_refl _) _).alloc (by simp) _
  go_enter Tryz.func35, Tryz.ntmps35
  go_wp2_with fail
  refine wp_region_held_drew (S := fun W => Hid (Blk W w0.heap.size 37 (entC tx out l))) (by kernel_rfl) (Lib.hid ((HE _).out.drewN 1)) (fun hS => ?_)
  refine wpAnyH_take (i := 0) (v := ?_) rfl (by kernel_rfl) (by kernel_rfl) (by kernel_rfl) (fun _ _ _ h => h) (Or.inl ⟨by rfl, ?_⟩) hS ?_
  rotate_left
  · (intro w _; go_simp; try with_reducible rfl)
  refine wpAnyH_take (i := 1) (v := .agg #[.string tx, .int .i64 (out : Nat)]) rfl (by kernel_rfl) (by kernel_rfl) (by kernel_rfl) (fun _ _ _ h => h) (yields_blk (by rfl) 30 (.tmp 3) (by rfl) w0.heap.size 0 2 (t := 37) (cs := entC tx out l) (fun W h => h.out) #[.string tx, .int .i64 (out : Nat)] (by rfl) (by rfl) Tryz.underlying30 infoPnt (by show 2 ≤ 11; omega)) hS ?_
  refine wpAnyH_take (i := 3) (v := ?_) rfl (by kernel_rfl) (by kernel_rfl) (by kernel_rfl) (fun _ _ _ h => h) (Or.inl ⟨by rfl, ?_⟩) hS ?_
  rotate_left
  · (intro w _; go_simp; try with_reducible rfl)
  refine wpAnyH_take (i := 4) (v := ?_) rfl (by kernel_rfl) (by kernel_rfl) (by kernel_rfl) (fun _ _ _ h => h) (Or.inl ⟨by rfl, ?_⟩) hS ?_
  rotate_left
  · (intro w _; go_simp; try with_reducible rfl)
  refine wpAnyH_take (i := 5) (v := ?_) rfl (by kernel_rfl) (by kernel_rfl) (by kernel_rfl) (fun _ _ _ h => h) (Or.inl ⟨by rfl, ?_⟩) hS ?_
  rotate_left
  · (intro w hS'; have hcell := (show World.cell? _ ⟨w0.heap.size, 4, none⟩ = some (.string l.key) from Blk.cell hS'.out 4); go_simp; try with_reducible rfl)
  refine wpAnyH_take (i := 6) (v := ?_) rfl (by kernel_rfl) (by kernel_rfl) (by kernel_rfl) (fun _ _ _ h => h) (Or.inl ⟨by rfl, ?_⟩) hS ?_
  rotate_left
  · (intro w _; go_simp; try with_reducible rfl)
  refine wpAnyH_take (i := 7) (v := ?_) rfl (by kernel_rfl) (by kernel_rfl) (by kernel_rfl) (fun _ _ _ h => h) (Or.inl ⟨by rfl, ?_⟩) hS ?_
  rotate_left
  · (intro w _; go_simp; try with_reducible rfl)
  refine wpAnyH_take (i := 8) (v := ?_) rfl (by kernel_rfl) (by kernel_rfl) (by kernel_rfl) (fun _ _ _ h => h) (Or.inl ⟨by rfl, ?_⟩) hS ?_
  rotate_left
  · (intro w hS'; have hcell := (show World.cell? _ ⟨w0.heap.size, 7, none⟩ = some (.string l.anchor) from Blk.cell hS'.out 7); go_simp; try with_reducible rfl)
  refine wpAnyH_take (i := 9) (v := ?_) rfl (by kernel_rfl) (by kernel_rfl) (by kernel_rfl) (fun _ _ _ h => h) (Or.inl ⟨by rfl, ?_⟩) hS ?_
  rotate_left
  · (intro w _; go_simp; try with_reducible rfl)
  refine wpAnyH_take (i := 10) (v := ?_) rfl (by kernel_rfl) (by kernel_rfl) (by kernel_rfl) (fun _ _ _ h => h) (Or.inl ⟨by rfl, ?_⟩) hS ?_
  rotate_left
  · (intro w _; go_simp; try with_reducible rfl)
  refine wpAnyH_take (i := 11) (v := ?_) rfl (by kernel_rfl) (by kernel_rfl) (by kernel_rfl) (fun _ _ _ h => h) (Or.inl ⟨by rfl, ?_⟩) hS ?_
  rotate_left
  · (intro w hS'; have hcell := (show World.cell? _ ⟨w0.heap.size, 8, none⟩ = some (.int .u64 l.unit) from Blk.cell hS'.out 8); go_simp; try with_reducible rfl)
  refine wpAnyH_take (i := 12) (v := ?_) rfl (by kernel_rfl) (by kernel_rfl) (by kernel_rfl) (fun _ _ _ h => h) (Or.inl ⟨by rfl, ?_⟩) hS ?_
  rotate_left
  · (intro w _; go_simp; try with_reducible rfl)
  refine wpAnyH_take (i := 13) (v := ?_) rfl (by kernel_rfl) (by kernel_rfl) (by kernel_rfl) (fun _ _ _ h => h) (Or.inl ⟨by rfl, ?_⟩) hS ?_
  rotate_left
  · (intro w _; go_simp; try with_reducible rfl)
  refine wpAnyH_take (i := 14) (v := ?_) rfl (by kernel_rfl) (by kernel_rfl) (by kernel_rfl) (fun _ _ _ h => h) (Or.inl ⟨by rfl, ?_⟩) hS ?_
  rotate_left
  · (intro w hS'; have hcell := (show World.cell? _ ⟨w0.heap.size, 9, none⟩ = some (.int .i64 l.tok) from Blk.cell hS'.out 9); go_simp; try with_reducible rfl)
  refine wpAnyH_ready (rs := [2]) (by kernel_rfl) (by simp) (AllReadyH.cons rfl (fun K hK => ?_) AllReadyH.nil)
  go_simp
  refine (cname_any tx out _ ho hz).mono ?_
  rintro e W ⟨rfl, hb⟩
  replace HR := Lib.hid (Blk.bel (HR.out.drewN 1) hb)
  have HE2 := Lib.hid (Blk.bel ((HE (.cells zTm.cs 101)).out.drewN 1) hb)
  replace HB := Lib.hid (HB.out.drew.trans (hb.mono HB.out.drew.size))
  clear hb hS
  go_simp
  refine hK.out _ _ HE2 (fun hS => ?_)
  clear hK K
  refine wpAnyH_take (i := 15) (v := ?_) rfl (by kernel_rfl) (by kernel_rfl) (by kernel_rfl) (fun _ _ _ h => h) (Or.inl ⟨by rfl, ?_⟩) hS ?_
  rotate_left
  · (intro w _; go_simp; try with_reducible rfl)
  refine wpAnyH_ready (rs := [16]) (by kernel_rfl) (by simp) (AllReadyH.cons rfl (fun K hK => ?_) AllReadyH.nil)
  refine step_store_part (by rfl) 101 (.tmp 2) (.tmp 18) (by rfl) (w0.heap.size + 1) 0 HR.out (lkT tx out l).cs (lkT tx out l).cs (by rfl) (by rfl) (Nat.le_refl 5) infoTm (tmcs_one _) (tmcs_over _) ?_
  intro W1 hb1 hc1
  have HT := Lib.hid hb1
  have HC := Lib.hid hc1
  clear hb1 hc1
  refine hK.out _ _ (Lib.hid (Blk.ch hS.out HC.out (by simp))) (fun _ => ?_)
  clear hK K hS
  refine wpAnyH_done (by kernel_rfl) ?_ _
  go_wp2_with fail
  exact bodyPost_ret (results_cell_row rfl _ _ (w0.heap.size + 1) 101 _ (0, 0) _ rfl HT.out Tryz.underlying101 rfl infoTm) rfl ⟨rfl, HB.out.trans (HC.out.below HB.out.size (by simp))⟩
end Go.Proofs.YtgnlakbmibkjgaaGreat
