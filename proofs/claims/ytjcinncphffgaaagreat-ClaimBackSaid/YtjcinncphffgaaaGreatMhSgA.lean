/- claim.Signed of any transaction: not right, or the key used up. Facts of law11's and law17's fixed calls, reckoned by the kernel. No program. (Printed by lit17.py.) Facts of law11's fixed calls, reckoned by the kernel. No program. (Printed by lit11.py.) -/
import Derived.Outline
import Derived.Test.YtjcinncphffgaaaGreatMhFastB
import Derived.Test.YtjcinncphffgaaaGreatMhG30
import Derived.Test.YtjcinncphffgaaaGreatMhG34
import Derived.Test.YtjcinncphffgaaaGreatMhG38
import Derived.Test.YtjcinncphffgaaaGreatMhSmC
set_option linter.unusedVariables false
set_option linter.unusedSimpArgs false
namespace Go.Proofs.YtjcinncphffgaaaGreat
open Go.RowKit Go.Maps
set_option maxRecDepth 100000 in
set_option maxHeartbeats 1000000 in
theorem csigned_used (t : Txn) (kb ctr h i : Nat) (seed : ByteArray) (w : World) (hm : t.mem w) (hl : t.ins.length ≤ 1000) (hlo : t.outs.length ≤ 1000) (hlw : t.p.l.length ≤ 1000) (hz : ∀ o ∈ t.outs, o.am < 18446744073709551616 ∧ o.unit < 18446744073709551616) (hr : rightT t = true) (hk : KeyAt w kb ctr seed h i) (hh : h ≤ 4) (hi : 2 ^ h ≤ i) (hi2 : i ≤ 1000) :
    Calls Tryz.prog 22 #[.agg t.cs, .pointer (some ⟨kb, 0, none⟩)] w fun e w' => e = .returned (.tuple #[.agg zTx, .int .i64 14]) ∧ Below w.heap.size w w' := by
  have HR := fun W (h : Below w.heap.size w W) => Lib.hid (right_gen t W (hm.bel h) hl hlo hlw)
  have HCR := fun W (h : Below w.heap.size w W) => Lib.hid (core_gen t W (hm.bel h) hl hlo hlw hz)
  have HSG := fun W m (hb : Below w.heap.size w W) => Lib.hid (ksign_used kb ctr seed m h i W hh hi hi2 (hk.bel hb))
  rw [hr] at HR
  clear hm hr hk hz hh hi hi2
  have HB0 : Hid (Below w.heap.size w ((w.alloc (.cells t.cs 53)).alloc (.cells zTx 53))) := ((Below.refl _ _).alloc (Nat.le_refl _) _).alloc (by simp) _
  have HT0 : Hid (Blk ((w.alloc (.cells t.cs 53)).alloc (.cells zTx 53)) w.heap.size 53 t.cs) := (Blk.new _ _ _).alloc _
  have HZ0 : Hid (Blk ((w.alloc (.cells t.cs 53)).alloc (.cells zTx 53)) (w.heap.size + 1) 53 zTx) := Blk.newAt (by simp)
  go_enter Tryz.func22, Tryz.ntmps22
  go_wp2_with (first
    | (refine wpList_load_blk rfl 53 (.tmp 2) rfl w.heap.size 0 6 HT0.out t.cs (by rfl) (txn_ext t) Tryz.underlying53 infoTx (Nat.le_refl 6) ?_))
  refine (HR _ HB0.out).out.mono ?_
  rintro e w1 ⟨rfl, hb1⟩
  have HB1 : Hid (Below w.heap.size w w1) := HB0.out.trans (hb1.mono HB0.out.size)
  have HT1 := Lib.hid (HT0.out.bel hb1)
  have HZ1 := Lib.hid (HZ0.out.bel hb1)
  clear hb1 HB0 HT0 HZ0
  go_wp2_with (first
    | (refine wpList_load_blk rfl 53 (.tmp 2) rfl w.heap.size 0 6 HT1.out t.cs (by rfl) (txn_ext t) Tryz.underlying53 infoTx (Nat.le_refl 6) ?_))
  refine (HCR _ HB1.out).out.mono ?_
  rintro e w2 ⟨rfl, hb2⟩
  have HB2 : Hid (Below w.heap.size w w2) := HB1.out.trans (hb2.mono HB1.out.size)
  have HZ2 := Lib.hid (HZ1.out.bel hb2)
  clear hb2
  go_wp2_with fail
  refine (HSG _ _ HB2.out).out.mono ?_
  rintro e w3 ⟨rfl, rfl⟩
  go_wp2_with (first
    | (refine wpList_store_part rfl 53 (.tmp 4) (.tmp 22) rfl (w.heap.size + 1) 0 HZ2.out zTx zTx (by rfl) (by rfl) (Nat.le_refl 6) infoTx zTx_one zTx_over ?_; intro W8 hb8 hc8; have HZ8 := Lib.hid hb8; have HC8 := Lib.hid hc8; clear hb8 hc8))
  exact bodyPost_ret (results_cell_row2 rfl _ HZ8.out rfl Tryz.underlying53 infoTx) rfl ⟨rfl, HB2.out.trans (HC8.out.below HB2.out.size (by simp))⟩
end Go.Proofs.YtjcinncphffgaaaGreat
namespace Go.Proofs.YtjcinncphffgaaaGreat
open Go.RowKit
def sdC : ByteArray := ⟨#[99, 108, 105, 101, 110, 116]⟩
def rC : ByteArray := rootB sdC 1
def txC17 : ByteArray := lkoX rC rC 100 20 9
def chC : ByteArray := nameO txC17 0
theorem rC_size : rC.size = 16 := rootB_size _ _
/-! digits -/
/-! the facts -/
theorem b_st : byL (startB wTok) = [74, 167, 239, 107, 31, 206, 73, 142, 183, 178, 217, 27, 132, 213, 253, 50] := by
  unfold startB
  rw [tag_eq]
  decide +kernel
theorem b_nx (s : ByteArray) (k : Nat) : byL (itB s (k + 1)) = fTag (byL wPay) [byL (itB s k)] := by
  rw [itB, nxtB, tag_eq]; rfl
theorem b_it0 : byL (itB (startB wTok) 0) = [74, 167, 239, 107, 31, 206, 73, 142, 183, 178, 217, 27, 132, 213, 253, 50] := by exact b_st
theorem b_it1 : byL (itB (startB wTok) 1) = [229, 87, 92, 42, 93, 253, 35, 230, 131, 234, 29, 155, 64, 7, 172, 45] := by rw [b_nx, b_it0]; decide +kernel
theorem b_it2 : byL (itB (startB wTok) 2) = [243, 126, 242, 108, 183, 61, 154, 236, 121, 117, 68, 149, 137, 10, 151, 48] := by rw [b_nx, b_it1]; decide +kernel
theorem b_it3 : byL (itB (startB wTok) 3) = [121, 83, 71, 138, 13, 251, 120, 33, 40, 116, 172, 58, 92, 201, 0, 156] := by rw [b_nx, b_it2]; decide +kernel
theorem b_it4 : byL (itB (startB wTok) 4) = [59, 247, 232, 24, 243, 238, 141, 36, 7, 111, 229, 130, 255, 165, 220, 194] := by rw [b_nx, b_it3]; decide +kernel
theorem b_it5 : byL (itB (startB wTok) 5) = [94, 248, 87, 69, 78, 65, 226, 122, 226, 121, 65, 191, 26, 177, 103, 34] := by rw [b_nx, b_it4]; decide +kernel
theorem ne_l {s t : ByteArray} {a b : List Nat} (hs : byL s = a) (ht : byL t = b) (h : a ≠ b) : s ≠ t := fun e => h (by rw [← hs, ← ht, e])
theorem itB_add (s : ByteArray) (a : Nat) : ∀ b, itB (itB s a) b = itB s (a + b)
  | 0 => rfl
  | b + 1 => by rw [itB, itB_add s a b]; rfl
theorem cnt_tok : cntGo (tokB wTok 5 0) (tokB wTok 5 2) 5 0 = (2, true) := by
  have e : ∀ i, itB (tokB wTok 5 2) i = itB (startB wTok) (3 + i) := fun i => itB_add _ 3 i
  have a : tokB wTok 5 0 = itB (startB wTok) 5 := rfl
  rw [cntGo, e, a, if_neg (ne_l b_it3 b_it5 (by decide)), cntGo, e, if_neg (ne_l b_it4 b_it5 (by decide)), cntGo, e, if_pos rfl]
theorem cntN_tok : cntN (tokB wTok 5 0) (tokB wTok 5 2) 5 = 2 := by
  unfold cntN
  rw [if_pos (tokB_size _ _ _), cnt_tok]; rfl
theorem cntE_tok : cntE (tokB wTok 5 0) (tokB wTok 5 2) 5 = 0 := by
  unfold cntE
  rw [if_pos (tokB_size _ _ _), cnt_tok]; rfl
end Go.Proofs.YtjcinncphffgaaaGreat
namespace Go.Proofs.YtjcinncphffgaaaGreat
open Go.RowKit
def sdG : ByteArray := ⟨#[103, 97, 116, 101]⟩
def rG : ByteArray := rootB sdG 0
theorem rG_size : rG.size = 16 := rootB_size _ _
def tx11 : ByteArray := lkoX rC rG 100 20 9
def ch11 : ByteArray := nameO tx11 0
theorem ver_60 : verB rC (vouchB ch11 60) (signB sdC 1 0 (vouchB ch11 60)) = true := ver_sign sdC (by omega) (by omega) _
def l0C : En := ⟨tx11, 0, lkoL rC rG 100 9⟩
def l1C : En := ⟨tx11, 1, lkoM rC rG 20 9 ch11⟩
theorem lk11 : lkT1 rC rG 100 20 9 = [l0C, l1C] := rfl
theorem po11 : paysO l0C 60 120 = [payO 50 rG, payO 60 rC] := rfl
end Go.Proofs.YtjcinncphffgaaaGreat
