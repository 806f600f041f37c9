/- sdk.Back without a channel. sdk.Attach twice; Pay and Back without a channel. sdk.Attach, refused for its tokens. sdk.New refused: a key too tall. -/
import Derived.Outline
import Derived.StillTailTactics
import Derived.Test.YtmbceheafjadhaaGreatMgSdkA
import Derived.Test.YtmbceheafjadhaaGreatMgSdkC
set_option linter.unusedVariables false
set_option linter.unusedSimpArgs false
namespace Go.Proofs.YtmbceheafjadhaaGreat
open Go.RowKit Go.Maps
theorem infoTx : (Tryz.prog.info? 70).map (·.size) = some 6 := by kernel_rfl
def zTx : Array Value := #[.slice none 0 0, .slice none 0 0, .int .u64 0, .string ByteArray.empty, .string ByteArray.empty, .slice none 0 0]
theorem zTx_one : zTx.all (·.oneCell') = true := by
  rw [Array.all_eq_true']
  intro x hx
  simp only [zTx, List.mem_toArray, List.mem_cons, List.not_mem_nil, or_false] at hx
  rcases hx with rfl | rfl | rfl | rfl | rfl | rfl <;> rfl
theorem zTx_over : over zTx 0 zTx.toList = zTx := (over_full zTx.toList zTx rfl).trans (Array.toArray_toList ..)
variable {w : World} {cb h n i : Nat} {seed : ByteArray}
set_option maxRecDepth 100000 in
set_option maxHeartbeats 1000000 in
theorem zback_any (k : ClZ w cb seed h n i) :
    Calls Tryz.prog 72 #[.pointer (some ⟨cb, 0, none⟩)] w fun e w' => e = .returned (.tuple #[.agg zTx, .int .i64 8]) ∧ Below w.heap.size w w' := by
  obtain ⟨kb, ctr, pb, mb, hc, _, _, _⟩ := k
  have c22 : ∀ o, (w.alloc o).cell? ⟨cb, 22, none⟩ = some (.bool false) := fun o => (hc.alloc o).cell 22
  have HB : Hid (∀ o, Below w.heap.size w (w.alloc o)) := fun o => (Below.refl _ _).alloc (Nat.le_refl _) o
  clear hc
  go_enter Tryz.func72, Tryz.ntmps72
  go_wp2_with (first
    | (refine wpList_store_part rfl 70 (.tmp 2) (.tmp 11) rfl w.heap.size 0 (cs := zTx) (Blk.newAt rfl) zTx zTx (by rfl) (by rfl) (Nat.le_refl 6) infoTx zTx_one zTx_over ?_; intro W4 hb4 hc4; have HO4 := Lib.hid hb4; have HC4 := Lib.hid hc4; clear hb4 hc4))
  exact bodyPost_ret (results_cell_row2 rfl _ HO4.out rfl Tryz.underlying70 infoTx) rfl ⟨rfl, (HB.out _).trans (HC4.out.below (by simp) (by simp))⟩
end Go.Proofs.YtmbceheafjadhaaGreat
namespace Go.Proofs.YtmbceheafjadhaaGreat
open Go.RowKit Go.Maps
variable {w : World} {cb h n i out am tk : Nat} {seed tx : ByteArray} {l : Lk} {D : DU}
set_option maxRecDepth 100000 in
theorem sattach_twice (k : ClAt w cb seed h n i tx out l am tk D) (ent : Array Value) :
    Calls Tryz.prog 69 #[.pointer (some ⟨cb, 0, none⟩), .agg ent] w fun e w' => e = .returned (.int .i64 8) ∧ Below w.heap.size w w' := by
  obtain ⟨kb, ctr, pb, mb, hc, _, _, _⟩ := k
  have c22 : ∀ o, (w.alloc o).cell? ⟨cb, 22, none⟩ = some (.bool true) := fun o => (hc.alloc o).cell 22
  clear hc
  go_enter Tryz.func69, Tryz.ntmps69
  go_wp2_with fail
  go_ret
  exact ⟨rfl, (Below.refl _ _).alloc (Nat.le_refl _) _⟩
set_option maxRecDepth 100000 in
set_option maxHeartbeats 2000000 in
theorem zpay_any (x : Nat) (hx6 : x < 18446744073709551616) (k : ClZ w cb seed h n i) :
    Calls Tryz.prog 70 #[.pointer (some ⟨cb, 0, none⟩), .int .u64 x] w fun e w' => e = .returned (.tuple #[.agg (opP 0 ByteArray.empty 0 ByteArray.empty), .int .i64 8]) ∧ Below w.heap.size w w' := by
  obtain ⟨kb, ctr, pb, mb, hc, hk, hp, hm⟩ := k
  have HO : Hid (∀ o, Blk ((w.alloc (.cells (opP 0 ByteArray.empty 0 ByteArray.empty) 147)).alloc o) w.heap.size 147 (opP 0 ByteArray.empty 0 ByteArray.empty)) := fun o => (Blk.new _ _ _).alloc o
  have HC := Lib.hid hc
  have hlt := hc.lt
  have hne : ¬ cb = w.heap.size + 1 := by omega
  have HA := fun W => Lib.hid (add_any 0 x W (by omega) (by omega) (by omega) (by omega))
  clear hc hk hp hm
  go_enter Tryz.func70, Tryz.ntmps70
  go_wp2_with (first
    | (refine wpList_load_blk rfl 250 (.tmp 11) rfl cb 23 3 (HC.out.alloc _) (relC 0 0 mb) (by rfl) (by simp [clZ, relC]) Tryz.underlying250 infoRel (by simp [clZ]) ?_)
    | (refine wpList_store_part rfl 250 (.tmp 6) (.tmp 12) rfl (w.heap.size + 1) 0 (cs := zRel) (Blk.newAt (by simp)) (relC 0 0 mb) (relC 0 0 mb) (by rfl) (by rfl) (Nat.le_refl 3) infoRel (relC_one _ _ _) (relC_over _ _ _) ?_; intro W1 hb1 hc1; have HR1 := Lib.hid hb1; have HC1 := Lib.hid hc1; have r0 : W1.cell? ⟨w.heap.size + 1, 0, none⟩ = some (.int .u64 0) := hb1.cell 0; have f0 : W1.frozen? ⟨w.heap.size + 1, 0, none⟩ = false := hb1.frozen 0; have c22 : W1.cell? ⟨cb, 22, none⟩ = some (.bool false) := (Blk.ch ((HC.out.alloc _).alloc _) hc1 (by simp; omega)).cell 22; have HO1 : Hid (Blk W1 w.heap.size 147 (opP 0 ByteArray.empty 0 ByteArray.empty)) := Blk.ch (HO.out _) hc1 (by simp); have HB1 : Hid (Below w.heap.size w W1) := (((Below.refl w.heap.size w).alloc (Nat.le_refl _) _).alloc (by simp) _).trans (hc1.below (by simp; omega) (by simp)); clear hb1 hc1))
  refine (HA _).out.mono ?_
  rintro e w2 ⟨rfl, rfl⟩
  go_wp2_with (first
    | (refine wpList_store_part rfl 147 (.tmp 4) (.tmp 28) rfl w.heap.size 0 (HO1.out.far (by simp) _) (opP 0 ByteArray.empty 0 ByteArray.empty) (opP 0 ByteArray.empty 0 ByteArray.empty) (by rfl) (by rfl) (opP_fits _ _ _ _ _ _ _ _) infoOp (opP_one _ _ _ _) (opP_over _ _ _ _ _ _ _ _) ?_; intro W3 hb3 hc3; have HO3 := Lib.hid hb3; have HC3 := Lib.hid hc3; clear hb3 hc3))
  exact bodyPost_ret (results_cell_row2 rfl _ HO3.out rfl Tryz.underlying147 infoOp) rfl ⟨rfl, (HB1.out.setCell (by simp) _).trans (HC3.out.below (by have := HB1.out.size; simp; omega) (by simp))⟩
end Go.Proofs.YtmbceheafjadhaaGreat
namespace Go.Proofs.YtmbceheafjadhaaGreat
open Go.RowKit Go.Maps
variable {w : World} {cb h n i : Nat} {seed : ByteArray}
set_option maxRecDepth 100000 in
set_option maxHeartbeats 2000000 in
theorem zattach_no (k : ClZ w cb seed h n i) (hn : n ≤ 4096) (tx : ByteArray) (out : Nat) (l : Lk) (hl : l.ok) (hkey : l.key = rootB seed h) (han : l.anchor = tokB seed n 0) (htk : l.tok ≠ n) :
    Calls Tryz.prog 69 #[.pointer (some ⟨cb, 0, none⟩), .agg (entC tx out l)] w fun e w' => e = .returned (.int .i64 1) ∧ Below w.heap.size w w' := by
  have ht1 : ((l.tok : Int) == n) = false := by simp; omega
  have ht2 : ((l.tok : Int) != n) = true := by simp; omega
  have HN := fun W => Lib.hid (chnew_any tx out l W hl)
  have HK := Lib.hid k
  obtain ⟨kb, ctr, pb, mb, hc, hk, hp, hm⟩ := k
  have c24 : ∀ o, (w.alloc o).cell? ⟨cb, 22, none⟩ = some (.bool false) := fun o => (hc.alloc o).cell 22
  have HE : Hid (Blk (w.alloc (.cells (entC tx out l) 59)) w.heap.size 59 (entC tx out l)) := Blk.new _ _ _
  go_enter Tryz.func69, Tryz.ntmps69
  go_wp2_with (first
    | (refine wpList_load_blk rfl 59 (.tmp 3) rfl w.heap.size 0 11 HE.out (entC tx out l) (by rfl) (by simp [entC]) Tryz.underlying59 infoEnt (by simp [entC]) ?_))
  refine (HN _).out.mono ?_
  rintro e w1 ⟨rfl, hb1⟩
  have hba : Below w.heap.size w w1 := ((Below.refl w.heap.size w).alloc (Nat.le_refl _) _).trans (hb1.mono (by simp))
  have HE1 : Hid (Blk w1 w.heap.size 59 (entC tx out l)) := HE.out.bel hb1
  have HBA := Lib.hid hba
  have hz1 : w.heap.size < w1.heap.size := HE1.out.lt
  clear hb1 hba
  go_wp2_with (first
    | (refine wpList_store_part rfl 114 (.tmp 5) (.tmp 14) rfl w1.heap.size 0 (cs := zSt) (Blk.newAt rfl) (stC tx out l) (stC tx out l) (by rfl) (by rfl) (Nat.le_refl 20) infoSta (stC_one _ _ _) ((over_full (stC tx out l).toList zSt rfl).trans (Array.toArray_toList ..)) ?_; intro W2 hb2 hc2; have HS2 := Lib.hid hb2; have HC2 := Lib.hid hc2; have HE2 : Hid (Blk W2 w.heap.size 59 (entC tx out l)) := Blk.ch (HE1.out.alloc _) hc2 (by simp; omega); clear hb2 hc2))
  have HB2 : Hid (Below w.heap.size w W2.drew) := (((HBA.out.alloc HBA.out.size _).trans (HC2.out.below (by simp; omega) (by simp; omega)))).drew
  have hk2 : ClZ W2.drew cb seed h n i := HK.out.bel HB2.out
  have HR := Lib.hid (zroot_any hk2)
  have hp2 : ChainAt W2.drew pb seed n := hp.bel HB2.out
  have HAn : Hid (Calls Tryz.prog 133 #[.pointer (some ⟨pb, 0, none⟩)] W2.drew fun e w' => e = .returned (.string (tokB seed n 0)) ∧ w' = W2.drew) := ((panchor_any pb n seed _ hp2).mono fun _ _ ⟨e1, e2⟩ => ⟨e1, e2.symm⟩)
  have HLn : Hid (Calls Tryz.prog 151 #[.pointer (some ⟨pb, 0, none⟩)] W2.drew fun e w' => e = .returned (.int .i64 n) ∧ w' = W2.drew) := ((plen_any pb n seed _ hn hp2).mono fun _ _ ⟨e1, e2⟩ => ⟨e1, e2.symm⟩)
  have hc2 : Blk W2.drew cb 252 (clZ kb pb mb) := hc.bel HB2.out
  have d1 : W2.cell? ⟨cb, 1, none⟩ = some (.pointer (some ⟨pb, 0, none⟩)) := hc2.cell 1
  have x4 : W2.cell? ⟨w.heap.size, 4, none⟩ = some (.string (rootB seed h)) := by rw [← hkey]; exact HE2.out.cell 4
  have x7 : W2.cell? ⟨w.heap.size, 7, none⟩ = some (.string (tokB seed n 0)) := by rw [← han]; exact HE2.out.cell 7
  have x9 : W2.cell? ⟨w.heap.size, 9, none⟩ = some (.int .i64 l.tok) := HE2.out.cell 9
  clear hk2 hp2 hc2
  refine wp_region_still_tail 28 (by kernel_rfl) (by kernel_rfl) ?_
  change wpStill _ _ (World.drew _) (fun a' => wpList _ _ _ _ a' (World.drew _)) _ _
  simp only [List.take_succ_cons, List.take_zero, List.drop_succ_cons, List.drop_zero]
  repeat still_step
  still_call HR.out
  repeat still_step
  still_call HAn.out
  repeat still_step
  still_call HLn.out
  repeat still_step
  refine wpStill_nil ?_
  go_wp2_with fail
  go_ret
  exact ⟨rfl, HB2.out⟩
end Go.Proofs.YtmbceheafjadhaaGreat
namespace Go.Proofs.YtmbceheafjadhaaGreat
open Go.RowKit Go.Maps
variable {w : World}
theorem mnew_tall (seed : ByteArray) (w : World) :
    Calls Tryz.prog 33 #[.string seed, .int .i64 5] w fun e w' => e = .returned (.tuple #[.pointer none, .int .i64 1]) ∧ w' = w := by
  go_enter Tryz.func33, Tryz.ntmps33
  go_wp2_with fail
  go_ret2
  exact ⟨rfl, rfl⟩
set_option maxRecDepth 100000 in
set_option maxHeartbeats 1000000 in
theorem snew_tall (seed : ByteArray) (n : Nat) (w : World) (h1 : 1 ≤ n) (hn : n ≤ 4096) (hs : seed.size ≤ 1000000) :
    Calls Tryz.prog 66 #[.string seed, .int .i64 5, .int .i64 n] w fun e w' => e = .returned (.tuple #[.pointer none, .int .i64 1]) ∧ Below w.heap.size w w' := by
  go_enter Tryz.func66, Tryz.ntmps66
  go_wp2_with fail
  refine (mnew_tall seed w).mono ?_
  rintro e w1 ⟨rfl, rfl⟩
  go_wp2_with fail
  refine (pnew_any seed n _ h1 hn hs).mono ?_
  rintro e w2 ⟨pb, rfl, hp1, hp, hb2⟩
  have HB2 := Lib.hid hb2
  clear hp hb2
  go_wp2_with fail
  go_ret2
  exact ⟨rfl, HB2.out⟩
end Go.Proofs.YtmbceheafjadhaaGreat
