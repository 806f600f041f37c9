/- sdk: Sign where the key is used up. -/
import Derived.Outline
import Derived.Deep.RegionHeld3
import Derived.Laws.AppendOwnNone
import Derived.Test.YtmbceheafjadhaaGreatMgClmB
import Derived.Test.YtmbceheafjadhaaGreatMgSgA
set_option linter.unusedVariables false
set_option linter.unusedSimpArgs false
namespace Go.Proofs.YtmbceheafjadhaaGreat
open Go.RowKit Go.Maps
variable {w : World} {cb kb ctr pb mb h n i out am tk : Nat} {seed tx : ByteArray} {l : Lk} {D : DU}
set_option maxRecDepth 100000 in
set_option maxHeartbeats 1000000 in
theorem ssign_used (t : Txn) (k : CIn w cb kb ctr pb mb seed h n i tx out l am tk D) (hm : t.mem w) (hl : t.ins.length ≤ 1000) (hlo : t.outs.length ≤ 1000) (hlw : t.p.l.length ≤ 1000) (hz : ∀ o ∈ t.outs, o.am < 18446744073709551616 ∧ o.unit < 18446744073709551616) (hr : rightT t = true) (hh : h ≤ 4) (hi : 2 ^ h ≤ i) (hi2 : i ≤ 1000) :
    Calls Tryz.prog 156 #[.pointer (some ⟨cb, 0, none⟩), .agg t.cs] w fun e w' => e = .returned (.tuple #[.agg zTx, .int .i64 14]) ∧ Below w.heap.size w w' := by
  have HSG := fun W (hb : Below w.heap.size w W) hk => Lib.hid (csigned_used t kb ctr h i seed W (hm.bel hb) hl hlo hlw hz hr hk hh hi hi2)
  have HK := Lib.hid k
  clear k hm hr hz hh hi hi2
  go_enter Tryz.func156, Tryz.ntmps156
  go_wp2_with fail
  refine wp_gen fun W1 hW1 => ?_
  have HT1 : Hid (Blk W1 w.heap.size 70 t.cs) := by rw [hW1]; exact (Blk.new w 70 t.cs).alloc _
  have HZ1 : Hid (Blk W1 (w.heap.size + 1) 70 zTx) := by rw [hW1]; exact Blk.newAt (by simp)
  have HB1 : Hid (Below w.heap.size w W1) := by rw [hW1]; exact ((Below.refl _ _).alloc (Nat.le_refl _) _).alloc (by simp) _
  have HK1 := Lib.hid (HK.out.bel HB1.out)
  clear hW1
  refine wp_region_held_drew (S := fun W => Hid (Blk W w.heap.size 70 t.cs ∧ Blk W cb 252 (clC kb pb mb tx out l am tk))) (by kernel_rfl) (Lib.hid ⟨HT1.out.drewN 1, HK1.out.1.drewN 1⟩) (fun hS => ?_)
  refine wpAnyH_take (i := 0) (v := .agg t.cs) rfl (by kernel_rfl) (by kernel_rfl) (by kernel_rfl) (fun _ _ _ h => h) (yields_blk (by rfl) 70 (.tmp 3) (by rfl) w.heap.size 0 6 (t := 70) (cs := t.cs) (fun W h => h.out.1) t.cs (by rfl) (txn_ext t) Tryz.underlying70 infoTx (Nat.le_refl 6)) hS ?_
  refine wpAnyH_take (i := 1) (v := ?_) rfl (by kernel_rfl) (by kernel_rfl) (by kernel_rfl) (fun _ _ _ h => h) (Or.inl ⟨by rfl, ?_⟩) hS ?_
  rotate_left
  · (intro w _; go_simp; try with_reducible rfl)
  refine wpAnyH_take (i := 2) (v := ?_) rfl (by kernel_rfl) (by kernel_rfl) (by kernel_rfl) (fun _ _ _ h => h) (Or.inl ⟨by rfl, ?_⟩) hS ?_
  rotate_left
  · (intro w _; go_simp; try with_reducible rfl)
  refine wpAnyH_take (i := 3) (v := ?_) rfl (by kernel_rfl) (by kernel_rfl) (by kernel_rfl) (fun _ _ _ h => h) (Or.inl ⟨by rfl, ?_⟩) hS ?_
  rotate_left
  · (intro w _; go_simp; try with_reducible rfl)
  refine wpAnyH_take (i := 4) (v := ?_) rfl (by kernel_rfl) (by kernel_rfl) (by kernel_rfl) (fun _ _ _ h => h) (Or.inl ⟨by rfl, ?_⟩) hS ?_
  rotate_left
  · (intro w hS'; have hcell := (show World.cell? _ ⟨_, 0, none⟩ = some (.pointer (some ⟨kb, 0, none⟩)) from Blk.cell hS'.out.2 0); go_simp; try with_reducible rfl)
  refine wpAnyH_ready (rs := [5]) (by kernel_rfl) (by simp) (AllReadyH.cons rfl (fun K hK => ?_) AllReadyH.nil)
  go_simp
  refine (HSG (World.drew W1) HB1.out.drew (HK.out.bel HB1.out.drew).2.1).out.mono ?_
  rintro e w2 ⟨rfl, hb2⟩
  have hb2' : Below W1.heap.size W1 w2 := ((Below.refl _ _).drew).trans hb2
  have HK2 := Lib.hid (HK1.out.bel hb2')
  have HT2 := Lib.hid (HT1.out.bel hb2')
  have HZ2 := Lib.hid (HZ1.out.bel hb2')
  have HB2 : Hid (Below w.heap.size w w2) := HB1.out.trans (hb2'.mono HB1.out.size)
  clear hb2 hb2'
  go_simp
  refine hK.out _ _ (Lib.hid ⟨HT2.out, HK2.out.1⟩) (fun hS2 => ?_)
  clear hK K hS
  refine wpAnyH_take (i := 6) (v := ?_) rfl (by kernel_rfl) (by kernel_rfl) (by kernel_rfl) (fun _ _ _ h => h) (Or.inl ⟨by rfl, ?_⟩) hS2 ?_
  rotate_left
  · (intro w _; go_simp; try with_reducible rfl)
  refine wpAnyH_take (i := 7) (v := ?_) rfl (by kernel_rfl) (by kernel_rfl) (by kernel_rfl) (fun _ _ _ h => h) (Or.inl ⟨by rfl, ?_⟩) hS2 ?_
  rotate_left
  · (intro w _; go_simp; try with_reducible rfl)
  refine wpAnyH_ready (rs := [8]) (by kernel_rfl) (by simp) (AllReadyH.cons rfl (fun K hK => ?_) AllReadyH.nil)
  refine step_store_part (by rfl) 70 (.tmp 4) (.tmp 12) (by rfl) (w.heap.size + 1) 0 HZ2.out zTx zTx (by rfl) (by rfl) (Nat.le_refl 6) infoTx zTx_one zTx_over ?_
  intro W3 hb3 hc3
  have HZ3 := Lib.hid hb3
  have HC3 := Lib.hid hc3
  clear hb3 hc3
  have HK3 := Lib.hid (HK2.out.chO HC3.out rfl HZ2.out (by decide) (by decide) (by decide) (by decide) (by decide))
  refine hK.out _ _ (Lib.hid ⟨Blk.ch HT2.out HC3.out (by simp), HK3.out.1⟩) (fun hS3 => ?_)
  clear hK K hS2
  refine wpAnyH_ready (rs := [9]) (by kernel_rfl) (by simp) (AllReadyH.cons rfl (fun K hK => ?_) AllReadyH.nil)
  go_simp
  refine hK.out _ _ hS3 (fun _ => ?_)
  clear hK K
  refine wpAnyH_done (by kernel_rfl) ?_ _
  go_wp2_with fail
  exact bodyPost_ret (results_cell_row2 rfl _ HZ3.out rfl Tryz.underlying70 infoTx) rfl ⟨rfl, HB2.out.trans (HC3.out.below HB2.out.size (by simp))⟩
end Go.Proofs.YtmbceheafjadhaaGreat
