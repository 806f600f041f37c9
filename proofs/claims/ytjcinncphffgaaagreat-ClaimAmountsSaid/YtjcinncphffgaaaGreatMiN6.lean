/- A region that draws its order: operations that are taken first, under a condition on the world that need not hold behind the last one. law08's Cut of a proof: of any wins. law09's Cut of a transaction. The element of a row of the call's own. law11's Outs: outputs that came in, cut, and as the document has them. claim.Signed of any transaction: not right, or the key used up. -/
import Derived.Deep.RegionHeld3
import Derived.WalkKit
import Derived.Outline
import Derived.Deep.DeepCutAuto
import Derived.Deep.CutBlock
import Derived.Deep.AppendLies
import Derived.Test.YtjcinncphffgaaaGreatMiG29
import Derived.Test.YtjcinncphffgaaaGreatMiG30
import Derived.Test.YtjcinncphffgaaaGreatMiN1
import Derived.Test.YtjcinncphffgaaaGreatMiNum
import Derived.Test.YtjcinncphffgaaaGreatMiSmC
set_option linter.unusedVariables false
set_option linter.unusedSimpArgs false
namespace Go.Proofs.YtjcinncphffgaaaGreat
section
open Go.RowKit
section
variable {P : Program} {ops : Array Oper} {Q : Exit → Act → World → Prop} {md : Region.Mode} {S : World → Prop} {zs : List Nat}
end
end
section
open Go.RowKit Go.Maps
theorem blk_far {W : World} {B base size n : Nat} {t e : TypeId} {cs : Array Value} {v : Value} {xs : List Value} (h : Blk W B t cs) (hr : W.ownsRow base e size v n xs) (hte : t ≠ e) : some B ≠ v.ownBlock := fun q => h.kdT.own_ne hr hte B q.symm (by simp)
end
section
open Go.RowKit Go.Maps
theorem Tryz.infoInC : (Tryz.prog.info? 59).map (fun i => (i.zero, i.size, i.bytes)) = some (some (.agg zInp.cs), 4, 48) := by kernel_rfl
theorem Tryz.infoOutC : (Tryz.prog.info? 81).map (fun i => (i.zero, i.size, i.bytes)) = some (some (.agg zOu.cs), 9, 104) := by kernel_rfl
theorem cutN_min (s : ByteArray) (n : Nat) : min (s.size : Int) (n : Int) = (cutN s n : Int) := by unfold cutN; split <;> omega
theorem cutN_min40 (s : ByteArray) : min (s.size : Int) 40 = (cutN s 40 : Int) := cutN_min s 40
theorem incl1 (i : Inp) : ∀ u ∈ i.cl, u.oneCell' = true := fun u hu => Array.all_eq_true'.1 (incs_one i) u (by simpa [Inp.cl] using hu)
theorem oucl1 (o : Ou) : ∀ u ∈ o.cl, u.oneCell' = true := fun u hu => Array.all_eq_true'.1 (oucs_one o) u (by simpa [Ou.cl] using hu)
end
section
open Go.RowKit
end
section
open Go.RowKit Go.Maps
end
section
open Go.RowKit Go.Maps
set_option maxRecDepth 100000 in
set_option maxHeartbeats 1000000 in
theorem csigned_used (t : Txn) (kb ctr h i : Nat) (seed : ByteArray) (w : World) (hm : t.mem w) (hl : t.ins.length ≤ 1000) (hlo : t.outs.length ≤ 1000) (hlw : t.p.l.length ≤ 1000) (hz : ∀ o ∈ t.outs, o.am < 18446744073709551616 ∧ o.unit < 18446744073709551616) (hr : rightT t = true) (hk : KeyAt w kb ctr seed h i) (hh : h ≤ 4) (hi : 2 ^ h ≤ i) (hi2 : i ≤ 1000) :
  Calls Tryz.prog 22 #[.agg t.cs, .pointer (some ⟨kb, 0, none⟩)] w fun e w' => e = .returned (.tuple #[.agg zTx, .int .i64 14]) ∧ Below w.heap.size w w' := by
 have HR := fun W (h : Below w.heap.size w W) => Lib.hid (right_gen t W (hm.bel h) hl hlo hlw)
 have HCR := fun W (h : Below w.heap.size w W) => Lib.hid (core_gen t W (hm.bel h) hl hlo hlw hz)
 have HSG := fun W m (hb : Below w.heap.size w W) => Lib.hid (ksign_used kb ctr seed m h i W hh hi hi2 (hk.bel hb))
 rw [hr] at HR
 clear hm hr hk hz hh hi hi2
 have HB0 : Hid (Below w.heap.size w ((w.alloc (.cells t.cs 53)).alloc (.cells zTx 53))) := ((Below.refl _ _).alloc (Nat.le_refl _) _).alloc (by simp) _
 have HT0 : Hid (Blk ((w.alloc (.cells t.cs 53)).alloc (.cells zTx 53)) w.heap.size 53 t.cs) := (Blk.new _ _ _).alloc _
 have HZ0 : Hid (Blk ((w.alloc (.cells t.cs 53)).alloc (.cells zTx 53)) (w.heap.size + 1) 53 zTx) := Blk.newAt (by simp)
 go_enter Tryz.func22, Tryz.ntmps22
 go_wp2_with (first
  | (refine wpList_load_blk rfl 53 (.tmp 2) rfl w.heap.size 0 6 HT0.out t.cs (by rfl) (txn_ext t) Tryz.underlying53 infoTx (Nat.le_refl 6) ?_))
 refine (HR _ HB0.out).out.mono ?_
 rintro e w1 ⟨rfl, hb1⟩
 have HB1 : Hid (Below w.heap.size w w1) := HB0.out.trans (hb1.mono HB0.out.size)
 have HT1 := Lib.hid (HT0.out.bel hb1)
 have HZ1 := Lib.hid (HZ0.out.bel hb1)
 clear hb1 HB0 HT0 HZ0
 go_wp2_with (first
  | (refine wpList_load_blk rfl 53 (.tmp 2) rfl w.heap.size 0 6 HT1.out t.cs (by rfl) (txn_ext t) Tryz.underlying53 infoTx (Nat.le_refl 6) ?_))
 refine (HCR _ HB1.out).out.mono ?_
 rintro e w2 ⟨rfl, hb2⟩
 have HB2 : Hid (Below w.heap.size w w2) := HB1.out.trans (hb2.mono HB1.out.size)
 have HZ2 := Lib.hid (HZ1.out.bel hb2)
 clear hb2
 go_wp2_with fail
 refine (HSG _ _ HB2.out).out.mono ?_
 rintro e w3 ⟨rfl, rfl⟩
 go_wp2_with (first
  | (refine wpList_store_part rfl 53 (.tmp 4) (.tmp 22) rfl (w.heap.size + 1) 0 HZ2.out zTx zTx (by rfl) (by rfl) (Nat.le_refl 6) infoTx zTx_one zTx_over ?_; intro W8 hb8 hc8; have HZ8 := Lib.hid hb8; have HC8 := Lib.hid hc8; clear hb8 hc8))
 exact bodyPost_ret (results_cell_row2 rfl _ HZ8.out rfl Tryz.underlying53 infoTx) rfl ⟨rfl, HB2.out.trans (HC8.out.below HB2.out.size (by simp))⟩
end
end Go.Proofs.YtjcinncphffgaaaGreat
