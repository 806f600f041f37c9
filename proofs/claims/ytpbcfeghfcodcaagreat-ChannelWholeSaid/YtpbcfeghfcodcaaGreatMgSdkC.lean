/- sdk: a client without a channel: Root, Name, Whole; Pay, Back refused come later. sdk.Output of a client without a channel. sdk.Attach, taken. law23: place, offer; what a long straight proof keeps. utxo.Terms of a channel. -/
import Derived.Outline
import Derived.StillTailTactics
import Derived.Deep.RegionHeld3
import Derived.Test.YtpbcfeghfcodcaaGreatMgNote
import Derived.Test.YtpbcfeghfcodcaaGreatMgSdkA
import Derived.Test.YtpbcfeghfcodcaaGreatMgSdkB
import Derived.Test.YtpbcfeghfcodcaaGreatMgWor
set_option linter.unusedVariables false
set_option linter.unusedSimpArgs false
namespace Go.Proofs.YtpbcfeghfcodcaaGreat
open Go.RowKit Go.Maps
variable {w : World} {cb h n i : Nat} {seed : ByteArray}
end Go.Proofs.YtpbcfeghfcodcaaGreat
namespace Go.Proofs.YtpbcfeghfcodcaaGreat
open Go.RowKit Go.Maps
theorem infoOut : (Tryz.prog.info? 26).map (·.size) = some 9 := by kernel_rfl
def zOut : Array Value := #[.int .i64 0, .int .u64 0, .string ByteArray.empty, .string ByteArray.empty, .int .i64 0, .string ByteArray.empty, .int .u64 0, .int .i64 0, .string ByteArray.empty]
def oOut (am : Nat) (key gate : ByteArray) (ex : Nat) (an : ByteArray) (unit n : Nat) : Array Value := #[.int .i64 2, .int .u64 (am : Nat), .string key, .string gate, .int .i64 (ex : Nat), .string an, .int .u64 (unit : Nat), .int .i64 (n : Nat), .string ByteArray.empty]
theorem oOut_one (am : Nat) (key gate : ByteArray) (ex : Nat) (an : ByteArray) (unit n : Nat) : (oOut am key gate ex an unit n).all (·.oneCell') = true := by
  rw [Array.all_eq_true']
  intro x hx
  simp only [oOut, List.mem_toArray, List.mem_cons, List.not_mem_nil, or_false] at hx
  rcases hx with rfl | rfl | rfl | rfl | rfl | rfl | rfl | rfl | rfl <;> rfl
theorem oOut_over (am : Nat) (key gate : ByteArray) (ex : Nat) (an : ByteArray) (unit n : Nat) : over zOut 0 (oOut am key gate ex an unit n).toList = oOut am key gate ex an unit n := (over_full (oOut am key gate ex an unit n).toList zOut rfl).trans (Array.toArray_toList ..)
variable {w : World} {cb h n i : Nat} {seed : ByteArray}
end Go.Proofs.YtpbcfeghfcodcaaGreat
namespace Go.Proofs.YtpbcfeghfcodcaaGreat
open Go.RowKit Go.Maps
/-- a client on its way to a channel -/
def clS (kb pb mb : Nat) (tx : ByteArray) (out : Nat) (l : Lk) : Array Value := (clC kb pb mb tx out l 0 0).setIfInBounds 22 (.bool false)
theorem clS_over (kb pb mb : Nat) (tx : ByteArray) (out : Nat) (l : Lk) : over (clZ kb pb mb) 2 (stC tx out l).toList = clS kb pb mb tx out l := by
  simp [clS, clZ, clC, stC, over]
theorem clS_set (kb pb mb : Nat) (tx : ByteArray) (out : Nat) (l : Lk) : (clS kb pb mb tx out l).setIfInBounds 22 (.bool true) = clC kb pb mb tx out l 0 0 := by
  simp [clS, clC]
variable {w : World} {cb h n i : Nat} {seed : ByteArray}
end Go.Proofs.YtpbcfeghfcodcaaGreat
namespace Go.Proofs.YtpbcfeghfcodcaaGreat
open Go.RowKit Go.Maps
theorem bel_st {V W : World} {o : Obj} (h : Ch [V.heap.size] (V.alloc o) W) : Below V.heap.size V W := ((Below.refl _ _).alloc (Nat.le_refl _) _).trans (h.below (by simp) (by simp))
theorem bel_drew {V V0 : World} (h : V = V0.drew) : Below V0.heap.size V0 V := by rw [h]; exact (Below.refl _ _).drew
def comC : ByteArray := ⟨#[48, 49, 50, 51, 52, 53, 54, 55, 56, 57, 97, 98, 99, 100, 101, 102]⟩
def ofC (ch : ByteArray) (ser face : Nat) : Array Value := #[.string ch, .int .u64 (ser : Nat), .int .u64 (face : Nat), .int .u64 1, .int .u64 2, .string ⟨#[48, 49, 50, 51, 52, 53, 54, 55, 56, 57, 97, 98, 99, 100, 101, 102]⟩, .string ByteArray.empty, .int .u64 0, .bool false]
theorem ofC_one (ch : ByteArray) (ser face : Nat) : (ofC ch ser face).all (·.oneCell') = true := by
  rw [Array.all_eq_true']
  intro x hx
  simp only [ofC, List.mem_toArray, List.mem_cons, List.not_mem_nil, or_false] at hx
  rcases hx with rfl | rfl | rfl | rfl | rfl | rfl | rfl | rfl | rfl <;> rfl
def zOf : Array Value := #[.string ByteArray.empty, .int .u64 0, .int .u64 0, .int .u64 0, .int .u64 0, .string ByteArray.empty, .string ByteArray.empty, .int .u64 0, .bool false]
theorem ofC_over (ch : ByteArray) (ser face : Nat) : over zOf 0 (ofC ch ser face).toList = ofC ch ser face := (over_full (ofC ch ser face).toList zOf rfl).trans (Array.toArray_toList ..)
def ofO (ch : ByteArray) (ser face : Nat) : Of := ⟨ch, ser, face, 1, 2, comC, ByteArray.empty, 0, false⟩
theorem ofO_cs (ch : ByteArray) (ser face : Nat) : (ofO ch ser face).cs = ofC ch ser face := rfl
theorem ofO_ok (ch : ByteArray) (ser face : Nat) (h1 : ser < 18446744073709551616) (h2 : face < 18446744073709551616) (h3 : face % 2 = 0) : (ofO ch ser face).ok := ⟨h1, h2, ⟨by show 1 ≤ 2; omega, by show 2 ≤ 4294967296; omega⟩, by show 1 ≤ 2; omega, by show face * 1 % 2 = 0; omega⟩
theorem comC_size : comC.size = 16 := rfl
theorem Blk.chN {w w' : World} {g : Nat} {t : TypeId} {cs : Array Value} {S : List Nat} {N : Nat} (h : Blk w g t cs) (hc : Ch S w w') (hS : ∀ x ∈ S, x < N) (hg : N ≤ g) : Blk w' g t cs := Blk.ch h hc (fun hm => by have := hS g hm; omega)
end Go.Proofs.YtpbcfeghfcodcaaGreat
namespace Go.Proofs.YtpbcfeghfcodcaaGreat
open Go.RowKit Go.Maps
def zTm : Tm := ⟨ByteArray.empty, ByteArray.empty, ByteArray.empty, 0, 0⟩
theorem tmcs_one (t : Tm) : t.cs.all (·.oneCell') = true := by
  rw [Array.all_eq_true']
  intro x hx
  simp only [Tm.cs, List.mem_toArray, List.mem_cons, List.not_mem_nil, or_false] at hx
  rcases hx with rfl | rfl | rfl | rfl | rfl <;> rfl
theorem tmcs_over (t : Tm) : over zTm.cs 0 t.cs.toList = t.cs := (over_full t.cs.toList zTm.cs rfl).trans (Array.toArray_toList ..)
def lkT (tx : ByteArray) (out : Nat) (l : Lk) : Tm := ⟨nameB tx out, l.key, l.anchor, l.unit, l.tok⟩
theorem results_cell_row1 : True := trivial
set_option maxRecDepth 100000 in
set_option maxHeartbeats 1000000 in
theorem terms_any (tx : ByteArray) (out : Nat) (l : Lk) (w0 : World) (ho : out < 256) (hz : tx.size ≤ 1000000) :
    Calls Tryz.prog 18 #[.agg (entC tx out l)] w0 fun e w' => e = .returned (.agg (lkT tx out l).cs) ∧ Below w0.heap.size w0 w' := by
  have HE : ∀ o, Hid (Blk ((w0.alloc (.cells (entC tx out l) 28)).alloc o) w0.heap.size 28 (entC tx out l)) := fun o => (Blk.new _ _ _).alloc o
  have HR : Hid (Blk ((w0.alloc (.cells (entC tx out l) 28)).alloc (.cells zTm.cs 57)) (w0.heap.size + 1) 57 zTm.cs) := Blk.newAt (by simp)
  have HB : Hid (Below w0.heap.size w0 ((w0.alloc (.cells (entC tx out l) 28)).alloc (.cells zTm.cs 57))) := ((Below.refl _ _).alloc (Nat.le_refl _) _).alloc (by simp) _
  go_enter Tryz.func18, Tryz.ntmps18
  go_wp2_with fail
  refine wp_region_held_drew (S := fun W => Hid (Blk W w0.heap.size 28 (entC tx out l))) (by kernel_rfl) (Lib.hid ((HE _).out.drewN 1)) (fun hS => ?_)
  refine wpAnyH_take (i := 0) (v := ?_) rfl (by kernel_rfl) (by kernel_rfl) (by kernel_rfl) (fun _ _ _ h => h) (Or.inl ⟨by rfl, ?_⟩) hS ?_
  rotate_left
  · (intro w _; go_simp; try with_reducible rfl)
  refine wpAnyH_take (i := 1) (v := .agg #[.string tx, .int .i64 (out : Nat)]) rfl (by kernel_rfl) (by kernel_rfl) (by kernel_rfl) (fun _ _ _ h => h) (yields_blk (by rfl) 23 (.tmp 3) (by rfl) w0.heap.size 0 2 (t := 28) (cs := entC tx out l) (fun W h => h.out) #[.string tx, .int .i64 (out : Nat)] (by rfl) (by rfl) Tryz.underlying23 infoPnt (by show 2 ≤ 11; omega)) hS ?_
  refine wpAnyH_take (i := 3) (v := ?_) rfl (by kernel_rfl) (by kernel_rfl) (by kernel_rfl) (fun _ _ _ h => h) (Or.inl ⟨by rfl, ?_⟩) hS ?_
  rotate_left
  · (intro w _; go_simp; try with_reducible rfl)
  refine wpAnyH_take (i := 4) (v := ?_) rfl (by kernel_rfl) (by kernel_rfl) (by kernel_rfl) (fun _ _ _ h => h) (Or.inl ⟨by rfl, ?_⟩) hS ?_
  rotate_left
  · (intro w _; go_simp; try with_reducible rfl)
  refine wpAnyH_take (i := 5) (v := ?_) rfl (by kernel_rfl) (by kernel_rfl) (by kernel_rfl) (fun _ _ _ h => h) (Or.inl ⟨by rfl, ?_⟩) hS ?_
  rotate_left
  · (intro w hS'; have hcell := (show World.cell? _ ⟨w0.heap.size, 4, none⟩ = some (.string l.key) from Blk.cell hS'.out 4); go_simp; try with_reducible rfl)
  refine wpAnyH_take (i := 6) (v := ?_) rfl (by kernel_rfl) (by kernel_rfl) (by kernel_rfl) (fun _ _ _ h => h) (Or.inl ⟨by rfl, ?_⟩) hS ?_
  rotate_left
  · (intro w _; go_simp; try with_reducible rfl)
  refine wpAnyH_take (i := 7) (v := ?_) rfl (by kernel_rfl) (by kernel_rfl) (by kernel_rfl) (fun _ _ _ h => h) (Or.inl ⟨by rfl, ?_⟩) hS ?_
  rotate_left
  · (intro w _; go_simp; try with_reducible rfl)
  refine wpAnyH_take (i := 8) (v := ?_) rfl (by kernel_rfl) (by kernel_rfl) (by kernel_rfl) (fun _ _ _ h => h) (Or.inl ⟨by rfl, ?_⟩) hS ?_
  rotate_left
  · (intro w hS'; have hcell := (show World.cell? _ ⟨w0.heap.size, 7, none⟩ = some (.string l.anchor) from Blk.cell hS'.out 7); go_simp; try with_reducible rfl)
  refine wpAnyH_take (i := 9) (v := ?_) rfl (by kernel_rfl) (by kernel_rfl) (by kernel_rfl) (fun _ _ _ h => h) (Or.inl ⟨by rfl, ?_⟩) hS ?_
  rotate_left
  · (intro w _; go_simp; try with_reducible rfl)
  refine wpAnyH_take (i := 10) (v := ?_) rfl (by kernel_rfl) (by kernel_rfl) (by kernel_rfl) (fun _ _ _ h => h) (Or.inl ⟨by rfl, ?_⟩) hS ?_
  rotate_left
  · (intro w _; go_simp; try with_reducible rfl)
  refine wpAnyH_take (i := 11) (v := ?_) rfl (by kernel_rfl) (by kernel_rfl) (by kernel_rfl) (fun _ _ _ h => h) (Or.inl ⟨by rfl, ?_⟩) hS ?_
  rotate_left
  · (intro w hS'; have hcell := (show World.cell? _ ⟨w0.heap.size, 8, none⟩ = some (.int .u64 l.unit) from Blk.cell hS'.out 8); go_simp; try with_reducible rfl)
  refine wpAnyH_take (i := 12) (v := ?_) rfl (by kernel_rfl) (by kernel_rfl) (by kernel_rfl) (fun _ _ _ h => h) (Or.inl ⟨by rfl, ?_⟩) hS ?_
  rotate_left
  · (intro w _; go_simp; try with_reducible rfl)
  refine wpAnyH_take (i := 13) (v := ?_) rfl (by kernel_rfl) (by kernel_rfl) (by kernel_rfl) (fun _ _ _ h => h) (Or.inl ⟨by rfl, ?_⟩) hS ?_
  rotate_left
  · (intro w _; go_simp; try with_reducible rfl)
  refine wpAnyH_take (i := 14) (v := ?_) rfl (by kernel_rfl) (by kernel_rfl) (by kernel_rfl) (fun _ _ _ h => h) (Or.inl ⟨by rfl, ?_⟩) hS ?_
  rotate_left
  · (intro w hS'; have hcell := (show World.cell? _ ⟨w0.heap.size, 9, none⟩ = some (.int .i64 l.tok) from Blk.cell hS'.out 9); go_simp; try with_reducible rfl)
  refine wpAnyH_ready (rs := [2]) (by kernel_rfl) (by simp) (AllReadyH.cons rfl (fun K hK => ?_) AllReadyH.nil)
  go_simp
  refine (cname_any tx out _ ho hz).mono ?_
  rintro e W ⟨rfl, hb⟩
  replace HR := Lib.hid (Blk.bel (HR.out.drewN 1) hb)
  have HE2 := Lib.hid (Blk.bel ((HE (.cells zTm.cs 57)).out.drewN 1) hb)
  replace HB := Lib.hid (HB.out.drew.trans (hb.mono HB.out.drew.size))
  clear hb hS
  go_simp
  refine hK.out _ _ HE2 (fun hS => ?_)
  clear hK K
  refine wpAnyH_take (i := 15) (v := ?_) rfl (by kernel_rfl) (by kernel_rfl) (by kernel_rfl) (fun _ _ _ h => h) (Or.inl ⟨by rfl, ?_⟩) hS ?_
  rotate_left
  · (intro w _; go_simp; try with_reducible rfl)
  refine wpAnyH_ready (rs := [16]) (by kernel_rfl) (by simp) (AllReadyH.cons rfl (fun K hK => ?_) AllReadyH.nil)
  refine step_store_part (by rfl) 57 (.tmp 2) (.tmp 18) (by rfl) (w0.heap.size + 1) 0 HR.out (lkT tx out l).cs (lkT tx out l).cs (by rfl) (by rfl) (Nat.le_refl 5) infoTm (tmcs_one _) (tmcs_over _) ?_
  intro W1 hb1 hc1
  have HT := Lib.hid hb1
  have HC := Lib.hid hc1
  clear hb1 hc1
  refine hK.out _ _ (Lib.hid (Blk.ch hS.out HC.out (by simp))) (fun _ => ?_)
  clear hK K hS
  refine wpAnyH_done (by kernel_rfl) ?_ _
  go_wp2_with fail
  exact bodyPost_ret (results_cell_row rfl _ _ (w0.heap.size + 1) 57 _ (0, 0) _ rfl HT.out Tryz.underlying57 rfl infoTm) rfl ⟨rfl, HB.out.trans (HC.out.below HB.out.size (by simp))⟩
end Go.Proofs.YtpbcfeghfcodcaaGreat
