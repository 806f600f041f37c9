/- lottery.Book.Make, where the numbers may be. -/
import Derived.Outline
import Derived.Deep.RegionHeld3
import Derived.Test.YtgnlakbmibkjgaaGreatMgLotE
import Derived.Test.YtgnlakbmibkjgaaGreatMgSdkB
set_option linter.unusedVariables false
set_option linter.unusedSimpArgs false
namespace Go.Proofs.YtgnlakbmibkjgaaGreat
open Go.RowKit Go.Maps
def zO : Of := ⟨ByteArray.empty, 0, 0, 0, 0, ByteArray.empty, ByteArray.empty, 0, false⟩
theorem zOf_one : zOf.all (·.oneCell') = true := ofcs_one zO
theorem zOf_over : over zOf 0 zOf.toList = zOf := ofcs_over zOf zO rfl
def mkO (ch salt : ByteArray) (next face wins many raw : Nat) : Of := ⟨ch, next, face, wins, many, comB salt (raw % many), salt, raw % many, false⟩
set_option maxRecDepth 100000 in
set_option maxHeartbeats 2000000 in
theorem make_full (b next : Nat) (ch client salt : ByteArray) (l : List Of) (face wins many raw : Nat) (w : World) (h : BookAt w b ch client next l) (hl : l.length ≤ 1000) (hf : ∀ o ∈ l, o.face < 18446744073709551616)
    (h0 : 0 < face) (hface : face < 18446744073709551616) (hm1 : 1 ≤ many) (hm2 : many ≤ 4294967296) (hw : wins ≤ many) (hz : face * wins % many = 0) (hs : salt.size ≤ 32) (hr : raw ≤ topV many) (hfull : roomN l face ≠ 0) :
    Calls Tryz.prog 32 #[.pointer (some ⟨b, 0, none⟩), .int .u64 face, .int .u64 wins, .int .u64 many, .string salt, .int .u64 raw] w fun e w' => e = .returned (.tuple #[.agg zOf, .int .i64 (roomN l face)]) ∧ Below w.heap.size w w' := by
  have HN := fun W => Lib.hid (nominal_any face wins many W hface hm1 hm2 hw hz)
  have HFA := fun W => Lib.hid (fair_ok raw many W hm1 hm2 hr)
  have HRM := fun W hW => Lib.hid (lroom_any b next ch client l face W hW hl hf hface)
  have HK := Lib.hid h
  have d32 : decide ((32 : Int) < (salt.size : Int)) = false := decide_eq_false (by omega)
  have d0 : ((face : Int) == 0) = false := beq_eq_false_iff_ne.2 (by omega)
  have f1 : (roomN l face != 0) = true := by simp [bne, beq_eq_false_iff_ne.2 hfull]
  generalize roomN l face = rm at HRM f1 ⊢
  clear h hl hf h0 hm1 hm2 hw hz hs hr hfull hface
  go_enter Tryz.func32, Tryz.ntmps32
  go_wp2_with fail
  refine (HN _).out.mono ?_
  rintro e w1 ⟨rfl, rfl⟩
  go_wp2_with fail
  refine (HFA _).out.mono ?_
  rintro e w2 ⟨rfl, rfl⟩
  have hR : Hid (Blk (w.alloc (.cells zOf 51)) w.heap.size 51 zOf) := Blk.new _ _ _
  have HB : Hid (Below w.heap.size w (w.alloc (.cells zOf 51))) := (Below.refl _ _).alloc (Nat.le_refl _) _
  go_wp2_with fail
  refine (HRM _ (HK.out.bel HB.out)).out.mono ?_
  rintro e w3 ⟨rfl, hb⟩
  replace hR := Lib.hid (hR.out.bel hb)
  replace HB := Lib.hid (HB.out.trans (hb.mono HB.out.size))
  clear hb
  go_wp2_with (first
    | (refine wpList_store_part rfl 51 (.tmp 12) (.tmp 59) rfl _ 0 hR.out zOf zOf (by rfl) (by rfl) (Nat.le_refl 9) infoOffer zOf_one zOf_over ?_; intro W6 hb6 hc6; have HB6 := Lib.hid hb6; have HC6 := Lib.hid hc6; clear hb6 hc6))
  exact bodyPost_ret (results_cell_row2 rfl _ HB6.out rfl Tryz.underlying51 infoOffer) rfl ⟨rfl, HB.out.trans (HC6.out.below HB.out.size (by simp))⟩
end Go.Proofs.YtgnlakbmibkjgaaGreat
