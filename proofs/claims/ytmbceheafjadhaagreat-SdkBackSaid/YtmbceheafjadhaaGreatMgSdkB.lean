/- sdk.Give: refused. sdk.Give: no room; given. sdk: released.with: the faces, one more, in a new map. lottery.Ticket. In a region that draws its order: a part of a block is read; a map of the call's own is written. sdk: taken.lay. sdk.Take: had; no room; taken. sdk: what is bound, and whether there is room, in numbers. sdk.Take: no room; no leaf; taken. -/
import Derived.Outline
import Derived.StillTailTactics
import Derived.IntWalk
import Derived.OwnWalk
import Derived.Maps.OwnOps
import Derived.Deep.RegionHeld3
import Derived.Deep.RegionLaw
import Derived.Test.YtmbceheafjadhaaGreatMgNote
import Derived.Test.YtmbceheafjadhaaGreatMgNum
import Derived.Test.YtmbceheafjadhaaGreatMgSdkA
set_option linter.unusedVariables false
set_option linter.unusedSimpArgs false
namespace Go.Proofs.YtmbceheafjadhaaGreat
open Go.RowKit Go.Maps
variable {w : World} {cb kb ctr pb mb h n i out am tk : Nat} {seed tx : ByteArray} {l : Lk} {D : DU}
set_option maxRecDepth 100000 in
set_option maxHeartbeats 2000000 in
theorem sgive_low (x : Int) (k : CIn w cb kb ctr pb mb seed h n i tx out l am tk D) (hx : x < 1) :
    Calls Tryz.prog 158 #[.pointer (some ⟨cb, 0, none⟩), .int .i64 x] w fun e w' => e = .returned (.tuple #[.agg (opP 0 ByteArray.empty 0 ByteArray.empty), .int .i64 1]) ∧ Below w.heap.size w w' := by
  obtain ⟨hc, hk, hp, hm⟩ := k
  have HO : Hid (∀ o, Blk ((w.alloc (.cells (opP 0 ByteArray.empty 0 ByteArray.empty) 147)).alloc o) w.heap.size 147 (opP 0 ByteArray.empty 0 ByteArray.empty)) := fun o => (Blk.new _ _ _).alloc o
  have HC := Lib.hid hc
  have hlt := hc.lt
  have hne : ¬ cb = w.heap.size + 1 := by omega
  have hx1 : decide (x < 1) = true := decide_eq_true hx
  clear hc hk hp hm
  go_enter Tryz.func158, Tryz.ntmps158
  go_wp2_with (first
    | (refine wpList_load_blk rfl 250 (.tmp 12) rfl cb 23 3 (HC.out.alloc _) (relC am tk mb) (by rfl) (by simp [clC, relC]) Tryz.underlying250 infoRel (by simp [clC]) ?_)
    | (refine wpList_store_part rfl 250 (.tmp 6) (.tmp 13) rfl (w.heap.size + 1) 0 (cs := zRel) (Blk.newAt (by simp)) (relC am tk mb) (relC am tk mb) (by rfl) (by rfl) (Nat.le_refl 3) infoRel (relC_one _ _ _) (relC_over _ _ _) ?_; intro W1 hb1 hc1; have HR1 := Lib.hid hb1; have HC1 := Lib.hid hc1; have r0 : W1.cell? ⟨w.heap.size + 1, 0, none⟩ = some (.int .u64 am) := hb1.cell 0; have r1 : W1.cell? ⟨w.heap.size + 1, 1, none⟩ = some (.int .i64 tk) := hb1.cell 1; have r2 : W1.cell? ⟨w.heap.size + 1, 2, none⟩ = some (.map (some mb)) := hb1.cell 2; have f1 : W1.frozen? ⟨w.heap.size + 1, 1, none⟩ = false := hb1.frozen 1; have HCB1 := Lib.hid (Blk.ch ((HC.out.alloc _).alloc _) hc1 (by simp; omega)); have c1 : W1.cell? ⟨cb, 1, none⟩ = some (.pointer (some ⟨pb, 0, none⟩)) := HCB1.out.cell 1; have c22 : W1.cell? ⟨cb, 22, none⟩ = some (.bool true) := HCB1.out.cell 22; have HO1 : Hid (Blk W1 w.heap.size 147 (opP 0 ByteArray.empty 0 ByteArray.empty)) := Blk.ch (HO.out _) hc1 (by simp); have HB1 : Hid (Below w.heap.size w W1) := (((Below.refl w.heap.size w).alloc (Nat.le_refl _) _).alloc (by simp) _).trans (hc1.below (by simp; omega) (by simp)); clear hb1 hc1))
  go_quiet (fail)
  go_wp2_with (first
    | (refine wpList_store_part rfl 147 (.tmp 4) (.tmp 36) rfl w.heap.size 0 (HO1.out.drewN _) (opP 0 ByteArray.empty 0 ByteArray.empty) (opP 0 ByteArray.empty 0 ByteArray.empty) (by rfl) (by rfl) (opP_fits _ _ _ _ _ _ _ _) infoOp (opP_one _ _ _ _) (opP_over _ _ _ _ _ _ _ _) ?_; intro W3 hb3 hc3; have HO3 := Lib.hid hb3; have HC3 := Lib.hid hc3; clear hb3 hc3))
  exact bodyPost_ret (results_cell_row2 rfl _ HO3.out rfl Tryz.underlying147 infoOp) rfl ⟨rfl, (below_drewN HB1.out _).trans (HC3.out.below (by have := HB1.out.size; simp; omega) (by simp))⟩
set_option maxRecDepth 100000 in
set_option maxHeartbeats 2000000 in
theorem sgive_high (x : Int) (k : CIn w cb kb ctr pb mb seed h n i tx out l am tk D) (hn : n ≤ 4096) (htk : tk ≤ n) (hx : ¬ x < 1) (hx2 : (n : Int) - tk < x) :
    Calls Tryz.prog 158 #[.pointer (some ⟨cb, 0, none⟩), .int .i64 x] w fun e w' => e = .returned (.tuple #[.agg (opP 0 ByteArray.empty 0 ByteArray.empty), .int .i64 1]) ∧ Below w.heap.size w w' := by
  obtain ⟨hc, hk, hp, hm⟩ := k
  have HO : Hid (∀ o, Blk ((w.alloc (.cells (opP 0 ByteArray.empty 0 ByteArray.empty) 147)).alloc o) w.heap.size 147 (opP 0 ByteArray.empty 0 ByteArray.empty)) := fun o => (Blk.new _ _ _).alloc o
  have HC := Lib.hid hc
  have hlt := hc.lt
  have hne : ¬ cb = w.heap.size + 1 := by omega
  have hx1 : decide (x < 1) = false := decide_eq_false hx
  have hx3 : decide ((n : Int) - tk < x) = true := decide_eq_true hx2
  have hwr : IntKind.i64.wrap ((n : Int) - tk) = (n : Int) - tk := IntWalk.i64_in _ (by omega)
  have HP := Lib.hid hp
  clear hc hk hp hm
  go_enter Tryz.func158, Tryz.ntmps158
  go_wp2_with (first
    | (refine wpList_load_blk rfl 250 (.tmp 12) rfl cb 23 3 (HC.out.alloc _) (relC am tk mb) (by rfl) (by simp [clC, relC]) Tryz.underlying250 infoRel (by simp [clC]) ?_)
    | (refine wpList_store_part rfl 250 (.tmp 6) (.tmp 13) rfl (w.heap.size + 1) 0 (cs := zRel) (Blk.newAt (by simp)) (relC am tk mb) (relC am tk mb) (by rfl) (by rfl) (Nat.le_refl 3) infoRel (relC_one _ _ _) (relC_over _ _ _) ?_; intro W1 hb1 hc1; have HR1 := Lib.hid hb1; have HC1 := Lib.hid hc1; have r0 : W1.cell? ⟨w.heap.size + 1, 0, none⟩ = some (.int .u64 am) := hb1.cell 0; have r1 : W1.cell? ⟨w.heap.size + 1, 1, none⟩ = some (.int .i64 tk) := hb1.cell 1; have r2 : W1.cell? ⟨w.heap.size + 1, 2, none⟩ = some (.map (some mb)) := hb1.cell 2; have f1 : W1.frozen? ⟨w.heap.size + 1, 1, none⟩ = false := hb1.frozen 1; have HCB1 := Lib.hid (Blk.ch ((HC.out.alloc _).alloc _) hc1 (by simp; omega)); have c1 : W1.cell? ⟨cb, 1, none⟩ = some (.pointer (some ⟨pb, 0, none⟩)) := HCB1.out.cell 1; have c22 : W1.cell? ⟨cb, 22, none⟩ = some (.bool true) := HCB1.out.cell 22; have HO1 : Hid (Blk W1 w.heap.size 147 (opP 0 ByteArray.empty 0 ByteArray.empty)) := Blk.ch (HO.out _) hc1 (by simp); have HB1 : Hid (Below w.heap.size w W1) := (((Below.refl w.heap.size w).alloc (Nat.le_refl _) _).alloc (by simp) _).trans (hc1.below (by simp; omega) (by simp)); clear hb1 hc1))
  have HLn : Hid (Calls Tryz.prog 151 #[.pointer (some ⟨pb, 0, none⟩)] W1.drew fun e w' => e = .returned (.int .i64 n) ∧ w' = W1.drew) := ((plen_any pb n seed _ hn (HP.out.bel HB1.out.drew)).mono fun _ _ ⟨e1, e2⟩ => ⟨e1, e2.symm⟩)
  refine wp_region_still_tail 14 (by kernel_rfl) (by kernel_rfl) ?_
  change wpStill _ _ (World.drew _) (fun a' => wpList _ _ _ _ a' (World.drew _)) _ _
  simp only [List.take_succ_cons, List.take_zero, List.drop_succ_cons, List.drop_zero]
  repeat still_step
  still_call HLn.out
  repeat still_step
  refine wpStill_nil ?_
  go_wp2_with (first
    | (refine wpList_store_part rfl 147 (.tmp 4) (.tmp 36) rfl w.heap.size 0 (HO1.out.drewN 1) (opP 0 ByteArray.empty 0 ByteArray.empty) (opP 0 ByteArray.empty 0 ByteArray.empty) (by rfl) (by rfl) (opP_fits _ _ _ _ _ _ _ _) infoOp (opP_one _ _ _ _) (opP_over _ _ _ _ _ _ _ _) ?_; intro W3 hb3 hc3; have HO3 := Lib.hid hb3; have HC3 := Lib.hid hc3; clear hb3 hc3))
  exact bodyPost_ret (results_cell_row2 rfl _ HO3.out rfl Tryz.underlying147 infoOp) rfl ⟨rfl, (HB1.out.drew).trans (HC3.out.below (by have := HB1.out.size; simp; omega) (by simp))⟩
end Go.Proofs.YtmbceheafjadhaaGreat
namespace Go.Proofs.YtmbceheafjadhaaGreat
open Go.RowKit Go.Maps
theorem relC_set1 (am tk mb x t : Nat) (h : (tk : Int) + x = t) : (relC am tk mb).setIfInBounds 1 (.int .i64 (t : Nat)) = relC am t mb := rfl
theorem CIn.chO {S : List Nat} {w w' : World} {cb kb ctr pb mb h n i out am tk g : Nat} {seed tx : ByteArray} {l : Lk} {D : DU} {t : TypeId} {cs : Array Value} (k : CIn w cb kb ctr pb mb seed h n i tx out l am tk D) (hc : Ch S w w') (hS : S = [g]) (hg : Blk w g t cs) (t1 : t ≠ 252) (t2 : t ≠ 87) (t3 : t ≠ 192) (t4 : t ≠ 9) (t5 : t ≠ 234) : CIn w' cb kb ctr pb mb seed h n i tx out l am tk D := by
  subst hS
  obtain ⟨h1, h2, h3, h4⟩ := k
  obtain ⟨_, q1, q2, _⟩ := id h2
  exact ⟨Blk.ch h1 hc (by have := h1.ne_ hg (Ne.symm t1); simpa using this), h2.ch hc (by have := q1.ne_ hg (Ne.symm t2); simpa using this) (by have := q2.ne_ hg (Ne.symm t3); simpa using this) (not_str hg t4), h3.ch hc hg t5 t4, h4.ch hc (h4.ne_at hg)⟩
/-- the released part is written -/
theorem CIn.rel {w w' : World} {cb kb ctr pb mb h n i out am tk am' tk' : Nat} {seed tx : ByteArray} {l : Lk} {D : DU} (k : CIn w cb kb ctr pb mb seed h n i tx out l am tk D) (hc : Ch [cb] w w') (hb : Blk w' cb 252 (clC kb pb mb tx out l am' tk')) : CIn w' cb kb ctr pb mb seed h n i tx out l am' tk' D := by
  obtain ⟨h1, h2, h3, h4⟩ := k
  obtain ⟨_, q1, q2, _⟩ := id h2
  exact ⟨hb, h2.ch hc (by have := q1.ne_ h1 (by decide); simpa using this) (by have := q2.ne_ h1 (by decide); simpa using this) (not_str h1 (by decide)), h3.ch hc h1 (by decide) (by decide), h4.ch hc (h4.ne_at h1)⟩
variable {w : World} {cb kb ctr pb mb h n i out am tk : Nat} {seed tx : ByteArray} {l : Lk} {D : DU}
set_option maxRecDepth 100000 in
set_option maxHeartbeats 2000000 in
theorem sgive_full (x tm : Nat) (k : CIn w cb kb ctr pb mb seed h n i tx out l am tk D) (hl : l.ok) (h1 : am < 18446744073709551616) (hz : Maps.size D ≤ 1000) (hn : n ≤ 4096) (htm : tm ≤ n) (hsum : (tk : Int) + x = tm) (hx : 1 ≤ x) (hf : roomE am tm l.unit l.am D = 9) :
    Calls Tryz.prog 158 #[.pointer (some ⟨cb, 0, none⟩), .int .i64 x] w fun e w' => e = .returned (.tuple #[.agg (opP 0 ByteArray.empty 0 ByteArray.empty), .int .i64 9]) ∧ Below w.heap.size w w' := by
  have HK := Lib.hid k
  obtain ⟨hc, hk, hp, hm⟩ := k
  have HO : Hid (∀ o, Blk ((w.alloc (.cells (opP 0 ByteArray.empty 0 ByteArray.empty) 147)).alloc o) w.heap.size 147 (opP 0 ByteArray.empty 0 ByteArray.empty)) := fun o => (Blk.new _ _ _).alloc o
  have HC := Lib.hid hc
  have HL := Lib.hid hl
  have hlt := hc.lt
  have hne : ¬ cb = w.heap.size + 1 := by omega
  have hx1 : decide ((x : Int) < 1) = false := decide_eq_false (by omega)
  have hx3 : decide ((n : Int) - tk < x) = false := decide_eq_false (by omega)
  have hwr : IntKind.i64.wrap ((n : Int) - tk) = (n : Int) - tk := IntWalk.i64_in _ (by omega)
  have HP := Lib.hid hp
  clear hc hk hp hm hl
  go_enter Tryz.func158, Tryz.ntmps158
  go_wp2_with (first
    | (refine wpList_load_blk rfl 250 (.tmp 12) rfl cb 23 3 (HC.out.alloc _) (relC am tk mb) (by rfl) (by simp [clC, relC]) Tryz.underlying250 infoRel (by simp [clC]) ?_)
    | (refine wpList_store_part rfl 250 (.tmp 6) (.tmp 13) rfl (w.heap.size + 1) 0 (cs := zRel) (Blk.newAt (by simp)) (relC am tk mb) (relC am tk mb) (by rfl) (by rfl) (Nat.le_refl 3) infoRel (relC_one _ _ _) (relC_over _ _ _) ?_; intro W1 hb1 hc1; have HR1 := Lib.hid hb1; have HC1 := Lib.hid hc1; have r0 : W1.cell? ⟨w.heap.size + 1, 0, none⟩ = some (.int .u64 am) := hb1.cell 0; have r1 : W1.cell? ⟨w.heap.size + 1, 1, none⟩ = some (.int .i64 tk) := hb1.cell 1; have r2 : W1.cell? ⟨w.heap.size + 1, 2, none⟩ = some (.map (some mb)) := hb1.cell 2; have f1 : W1.frozen? ⟨w.heap.size + 1, 1, none⟩ = false := hb1.frozen 1; have HCB1 := Lib.hid (Blk.ch ((HC.out.alloc _).alloc _) hc1 (by simp; omega)); have c1 : W1.cell? ⟨cb, 1, none⟩ = some (.pointer (some ⟨pb, 0, none⟩)) := HCB1.out.cell 1; have c22 : W1.cell? ⟨cb, 22, none⟩ = some (.bool true) := HCB1.out.cell 22; have HO1 : Hid (Blk W1 w.heap.size 147 (opP 0 ByteArray.empty 0 ByteArray.empty)) := Blk.ch (HO.out _) hc1 (by simp); have HB1 : Hid (Below w.heap.size w W1) := (((Below.refl w.heap.size w).alloc (Nat.le_refl _) _).alloc (by simp) _).trans (hc1.below (by simp; omega) (by simp)); clear hb1 hc1))
  have HLn : Hid (Calls Tryz.prog 151 #[.pointer (some ⟨pb, 0, none⟩)] W1.drew fun e w' => e = .returned (.int .i64 n) ∧ w' = W1.drew) := ((plen_any pb n seed _ hn (HP.out.bel HB1.out.drew)).mono fun _ _ ⟨e1, e2⟩ => ⟨e1, e2.symm⟩)
  refine wp_region_still_tail 14 (by kernel_rfl) (by kernel_rfl) ?_
  change wpStill _ _ (World.drew _) (fun a' => wpList _ _ _ _ a' (World.drew _)) _ _
  simp only [List.take_succ_cons, List.take_zero, List.drop_succ_cons, List.drop_zero]
  repeat still_step
  still_call HLn.out
  repeat still_step
  refine wpStill_nil ?_
  have HR2 : Hid (Blk (W1.drew.setCell ⟨w.heap.size + 1, 1, none⟩ (.int .i64 (tm : Nat))) (w.heap.size + 1) 250 (relC am tm mb)) := by have := (HR1.out.drewN 1).set_ 1 (.int .i64 (tm : Nat)); rwa [relC_set1 am tk mb x tm hsum] at this
  have HB2 : Hid (Below w.heap.size w (W1.drew.setCell ⟨w.heap.size + 1, 1, none⟩ (.int .i64 (tm : Nat)))) := HB1.out.drew.setCell (by simp) _
  have HO2 : Hid (Blk (W1.drew.setCell ⟨w.heap.size + 1, 1, none⟩ (.int .i64 (tm : Nat))) w.heap.size 147 (opP 0 ByteArray.empty 0 ByteArray.empty)) := (HO1.out.drewN 1).far (by simp) _
  have HRM := Lib.hid (sroom_any (w := W1.drew.setCell ⟨w.heap.size + 1, 1, none⟩ (.int .i64 (tm : Nat))) am tm mb D (HK.out.bel HB2.out).at_ HL.out h1 (by omega) (HK.out.bel HB2.out).2.2.2 hz)
  rw [hf] at HRM
  go_wp2_with fail
  refine HRM.out.mono ?_
  rintro e w3 ⟨rfl, hb3⟩
  have HO3 := Lib.hid (HO2.out.bel hb3)
  have HB3 := Lib.hid (HB2.out.trans (hb3.mono HB2.out.size))
  clear hb3
  go_wp2_with (first
    | (refine wpList_store_part rfl 147 (.tmp 4) (.tmp 47) rfl w.heap.size 0 HO3.out (opP 0 ByteArray.empty 0 ByteArray.empty) (opP 0 ByteArray.empty 0 ByteArray.empty) (by rfl) (by rfl) (opP_fits _ _ _ _ _ _ _ _) infoOp (opP_one _ _ _ _) (opP_over _ _ _ _ _ _ _ _) ?_; intro W4 hb4 hc4; have HO4 := Lib.hid hb4; have HC4 := Lib.hid hc4; clear hb4 hc4))
  exact bodyPost_ret (results_cell_row2 rfl _ HO4.out rfl Tryz.underlying147 infoOp) rfl ⟨rfl, HB3.out.trans (HC4.out.below HB3.out.size (by simp))⟩
set_option maxRecDepth 100000 in
set_option maxHeartbeats 2000000 in
theorem sgive_ok (x tm : Nat) (k : CIn w cb kb ctr pb mb seed h n i tx out l am tk D) (hl : l.ok) (h1 : am < 18446744073709551616) (hz : Maps.size D ≤ 1000) (hn : n ≤ 4096) (htm : tm ≤ n) (hsum : (tk : Int) + x = tm) (hx : 1 ≤ x) (ho : out < 256) (hxx : tx.size ≤ 1000000) (hf : roomE am tm l.unit l.am D = 0) :
    Calls Tryz.prog 158 #[.pointer (some ⟨cb, 0, none⟩), .int .i64 x] w fun e w' => e = .returned (.tuple #[.agg (opP 3 (nameB tx out) 0 (tokB seed n tm)), .int .i64 0]) ∧ CIn w' cb kb ctr pb mb seed h n i tx out l am tm D ∧ Ch [cb] w w' := by
  have HN := fun W hc => Lib.hid (sname_blk (w := W) (cb := cb) (am := am) (tk := tm) (l := l) kb pb mb hc ho hxx)
  have HT := fun W hp => Lib.hid (ptoken_any pb n tm seed W hn htm hp)
  generalize tokB seed n tm = tkn at *
  generalize nameB tx out = nm at *
  have HK := Lib.hid k
  obtain ⟨hc, hk, hp, hm⟩ := k
  have HO : Hid (∀ o, Blk ((w.alloc (.cells (opP 0 ByteArray.empty 0 ByteArray.empty) 147)).alloc o) w.heap.size 147 (opP 0 ByteArray.empty 0 ByteArray.empty)) := fun o => (Blk.new _ _ _).alloc o
  have HC := Lib.hid hc
  have HL := Lib.hid hl
  have hlt := hc.lt
  have hne : ¬ cb = w.heap.size + 1 := by omega
  have hx1 : decide ((x : Int) < 1) = false := decide_eq_false (by omega)
  have hx3 : decide ((n : Int) - tk < x) = false := decide_eq_false (by omega)
  have hwr : IntKind.i64.wrap ((n : Int) - tk) = (n : Int) - tk := IntWalk.i64_in _ (by omega)
  have HP := Lib.hid hp
  clear hc hk hp hm hl
  go_enter Tryz.func158, Tryz.ntmps158
  go_wp2_with (first
    | (refine wpList_load_blk rfl 250 (.tmp 12) rfl cb 23 3 (HC.out.alloc _) (relC am tk mb) (by rfl) (by simp [clC, relC]) Tryz.underlying250 infoRel (by simp [clC]) ?_)
    | (refine wpList_store_part rfl 250 (.tmp 6) (.tmp 13) rfl (w.heap.size + 1) 0 (cs := zRel) (Blk.newAt (by simp)) (relC am tk mb) (relC am tk mb) (by rfl) (by rfl) (Nat.le_refl 3) infoRel (relC_one _ _ _) (relC_over _ _ _) ?_; intro W1 hb1 hc1; have HR1 := Lib.hid hb1; have HC1 := Lib.hid hc1; have r0 : W1.cell? ⟨w.heap.size + 1, 0, none⟩ = some (.int .u64 am) := hb1.cell 0; have r1 : W1.cell? ⟨w.heap.size + 1, 1, none⟩ = some (.int .i64 tk) := hb1.cell 1; have r2 : W1.cell? ⟨w.heap.size + 1, 2, none⟩ = some (.map (some mb)) := hb1.cell 2; have f1 : W1.frozen? ⟨w.heap.size + 1, 1, none⟩ = false := hb1.frozen 1; have HCB1 := Lib.hid (Blk.ch ((HC.out.alloc _).alloc _) hc1 (by simp; omega)); have c1 : W1.cell? ⟨cb, 1, none⟩ = some (.pointer (some ⟨pb, 0, none⟩)) := HCB1.out.cell 1; have c22 : W1.cell? ⟨cb, 22, none⟩ = some (.bool true) := HCB1.out.cell 22; have HO1 : Hid (Blk W1 w.heap.size 147 (opP 0 ByteArray.empty 0 ByteArray.empty)) := Blk.ch (HO.out _) hc1 (by simp); have HB1 : Hid (Below w.heap.size w W1) := (((Below.refl w.heap.size w).alloc (Nat.le_refl _) _).alloc (by simp) _).trans (hc1.below (by simp; omega) (by simp)); clear hb1 hc1))
  have HLn : Hid (Calls Tryz.prog 151 #[.pointer (some ⟨pb, 0, none⟩)] W1.drew fun e w' => e = .returned (.int .i64 n) ∧ w' = W1.drew) := ((plen_any pb n seed _ hn (HP.out.bel HB1.out.drew)).mono fun _ _ ⟨e1, e2⟩ => ⟨e1, e2.symm⟩)
  refine wp_region_still_tail 14 (by kernel_rfl) (by kernel_rfl) ?_
  change wpStill _ _ (World.drew _) (fun a' => wpList _ _ _ _ a' (World.drew _)) _ _
  simp only [List.take_succ_cons, List.take_zero, List.drop_succ_cons, List.drop_zero]
  repeat still_step
  still_call HLn.out
  repeat still_step
  refine wpStill_nil ?_
  have HR2 : Hid (Blk (W1.drew.setCell ⟨w.heap.size + 1, 1, none⟩ (.int .i64 (tm : Nat))) (w.heap.size + 1) 250 (relC am tm mb)) := by have := (HR1.out.drewN 1).set_ 1 (.int .i64 (tm : Nat)); rwa [relC_set1 am tk mb x tm hsum] at this
  have HB2 : Hid (Below w.heap.size w (W1.drew.setCell ⟨w.heap.size + 1, 1, none⟩ (.int .i64 (tm : Nat)))) := HB1.out.drew.setCell (by simp) _
  have HO2 : Hid (Blk (W1.drew.setCell ⟨w.heap.size + 1, 1, none⟩ (.int .i64 (tm : Nat))) w.heap.size 147 (opP 0 ByteArray.empty 0 ByteArray.empty)) := (HO1.out.drewN 1).far (by simp) _
  have HRM := Lib.hid (sroom_any (w := W1.drew.setCell ⟨w.heap.size + 1, 1, none⟩ (.int .i64 (tm : Nat))) am tm mb D (HK.out.bel HB2.out).at_ HL.out h1 (by omega) (HK.out.bel HB2.out).2.2.2 hz)
  rw [hf] at HRM
  go_wp2_with fail
  refine HRM.out.mono ?_
  rintro e w3 ⟨rfl, hb3⟩
  have HO3 := Lib.hid (HO2.out.bel hb3)
  have HR3 := Lib.hid (HR2.out.bel hb3)
  have HB3 := Lib.hid (HB2.out.trans (hb3.mono HB2.out.size))
  have q1 : w3.cell? ⟨w.heap.size + 1, 1, none⟩ = some (.int .i64 tm) := HR3.out.cell 1
  have HK3 := Lib.hid (HK.out.bel HB3.out)
  have q2 : w3.cell? ⟨cb, 1, none⟩ = some (.pointer (some ⟨pb, 0, none⟩)) := HK3.out.1.cell 1
  have HTk : Hid (Calls Tryz.prog 56 #[.pointer (some ⟨pb, 0, none⟩), .int .i64 tm] w3.drew fun e w' => e = .returned (.tuple #[.string tkn, .int .i64 0]) ∧ w' = w3.drew) := ((HT _ (HK3.out.bel (Below.refl _ _).drew).2.2.1).out.mono fun _ _ ⟨e1, e2⟩ => ⟨e1, e2.symm⟩)
  clear hb3
  go_wp2_with fail
  refine wp_region_still_tail 11 (by kernel_rfl) (by kernel_rfl) ?_
  change wpStill _ _ (World.drew _) (fun a' => wpList _ _ _ _ a' (World.drew _)) _ _
  simp only [List.take_succ_cons, List.take_zero, List.drop_succ_cons, List.drop_zero]
  repeat still_step
  still_call HTk.out
  repeat still_step
  refine wpStill_nil ?_
  go_wp2_with (first
    | (refine wpList_load_blk rfl 250 (.tmp 6) rfl (w.heap.size + 1) 0 3 (HR3.out.drewN 1) (relC am tm mb) (by rfl) (by simp [relC]) Tryz.underlying250 infoRel (by simp [relC]) ?_)
    | (refine wpList_store_part rfl 250 (.tmp 62) (.tmp 60) rfl cb 23 (HK3.out.1.drewN 1) (relC am tm mb) (clC kb pb mb tx out l am tm) (by rfl) (by rfl) (by simp [clC, relC]) infoRel (relC_one _ _ _) (by simp [clC, relC, over]) ?_; intro W4 hb4 hc4; have HK4 := Lib.hid ((HK3.out.bel (Below.refl _ _).drew).rel hc4 hb4); have HO4 := Lib.hid (Blk.ch (HO3.out.drewN 1) hc4 (by simp; omega)); have HC4 : Hid (Ch [cb] w W4) := (Ch.of_below HB3.out.drew [cb]).trans hc4; clear hb4 hc4))
  refine (HN _ HK4.out.1).out.mono ?_
  rintro e w5 ⟨rfl, hb5⟩
  have HK5 := Lib.hid (HK4.out.bel hb5)
  have HO5 := Lib.hid (HO4.out.bel hb5)
  have HC5 : Hid (Ch [cb] w w5) := HC4.out.trans (Ch.of_below hb5 _)
  clear hb5
  go_wp2_with (first
    | (refine wpList_store_part rfl 147 (.tmp 4) (.tmp 66) rfl w.heap.size 0 HO5.out (opP 3 nm 0 tkn) (opP 3 nm 0 tkn) (by rfl) (by rfl) (opP_fits _ _ _ _ _ _ _ _) infoOp (opP_one _ _ _ _) (opP_over _ _ _ _ _ _ _ _) ?_; intro W6 hb6 hc6; have HO6 := Lib.hid hb6; have HC6 := Lib.hid hc6; clear hb6 hc6))
  exact bodyPost_ret (results_cell_row2 rfl _ HO6.out rfl Tryz.underlying147 infoOp) rfl ⟨rfl, HK5.out.chO HC6.out rfl HO5.out (by decide) (by decide) (by decide) (by decide) (by decide), ((HC5.out.mono (S' := [cb, w.heap.size]) (by simp <;> omega)).trans (HC6.out.mono (by simp))).mono (by simp <;> omega)⟩
end Go.Proofs.YtmbceheafjadhaaGreat
namespace Go.Proofs.YtmbceheafjadhaaGreat
open Go.RowKit Go.Maps
/-- an entry of a map literal -/
theorem wpList_insert_own {H : Type} {P : Program} (w : World) {ops : Array Oper} {rest : List Oper} {o : Oper} {a : Act} {Q : Exit → Act → World → Prop}
    (hg : o.guard = none) (m x v : Operand) (t : TypeId) (hop : o.op = Op.insert t m x v)
    (k e : TypeId) (K : Keyed P k) (ht : P.underlying t = some (.map k e)) (R : Value → Option (DataW H × List MemPlace)) (b n : Nat) (D : DataW H)
    (hm : a.eval m = .map (some b)) (hown : w.ownsMap P k R b n D) (hn : n < maxLen) (key val : Value) (kl : Lit) (hx : a.eval x = key) (hv : a.eval v = val) (hkey : keyOf P k key = some kl)
    (d : DataW H) (ps : List MemPlace) (hval : R val = some (d, ps))
    (hK : ∀ w', w'.ownsMap P k R b (n + 1) (D.put kl d) → w.grownBy w' (some b) → wpList P ops Q rest (a.put o.dst undef) w') :
    wpList P ops Q (o :: rest) a w := by
  refine wpList_plain hg fun K' hK' => ?_
  obtain ⟨w', hrun, r1, r2⟩ := hown.update K ht hn hkey hval
  unfold Oper.wp
  simp [execOp, hop, hm, hx, hv, hrun, Result.andThen]
  exact hK' _ _ (hK w' r1 r2)
def zRelW : Array Value := #[.int .u64 0, .int .i64 0, .map none]
theorem has_nil (kl : Lit) : Maps.has (DataW.map [] : DU) kl = false := rfl
theorem has_put (D : DU) (n c : Nat) (hD : Tidy D) (z : Lit) (hz : WideAt.IsKeyLit z) (h : Maps.has (D.put (ku n) (.lit (ku c))) z = true) : z = ku n ∨ Maps.has D z = true := by
  obtain ⟨es, rfl, hap⟩ := hD
  change Maps.has (.map (DataW.insert (ku n, .lit (ku c)) (es.filter fun p => !p.1.sameKey (ku n)))) z = true at h
  rw [has_eq, List.any_eq_true] at h
  obtain ⟨p, hp, hs⟩ := h
  rcases mem_insert' _ _ _ hp with rfl | hp
  · exact .inl (WideAt.sameKey_eq hs).symm
  · refine .inr ?_
    rw [has_eq, List.any_eq_true]
    exact ⟨p, (List.mem_filter.1 hp).1, hs⟩
variable {w : World} {D : DU}
set_option maxRecDepth 100000 in
set_option maxHeartbeats 4000000 in
theorem swith_any (am tk mb ser face : Nat) (hm : MpU w mb D) (hz : Maps.size D ≤ 1000) (hs6 : ser < 18446744073709551616) (hf6 : face < 18446744073709551616) (hno : Maps.has D (ku ser) = false) :
    Calls Tryz.prog 205 #[.agg (relC am tk mb), .int .u64 ser, .int .u64 face] w fun e w' => ∃ mb' D', e = .returned (.agg (relC am tk mb')) ∧ w.heap.size ≤ mb' ∧ MpU w' mb' D' ∧ allD D' = allD D + face ∧ Maps.size D' ≤ Maps.size D + 1 ∧ Below w.heap.size w w' := by
  have hmm := @run_makeMap Tryz.prog
  have hml := hm.lt
  have HR0 : Hid (∀ o, Blk ((w.alloc (.cells (relC am tk mb) 250)).alloc o) w.heap.size 250 (relC am tk mb)) := fun o => (Blk.new _ _ _).alloc o
  have HZ : Hid (∀ o, Blk ((w.alloc o).alloc (.cells zRelW 250)) (w.heap.size + 1) 250 zRelW) := fun o => Blk.newAt (by simp)
  have HM := Lib.hid hm
  have HNO := Lib.hid hno
  clear hm hno
  have HNEW : Hid (∀ o o', (((w.alloc o).alloc o').alloc (.map #[] 0)).ownsMap Tryz.prog 55 elU (w.heap.size + 2) 0 (.map [])) := fun o o' => by have := MpU.new ((w.alloc o).alloc o'); rw [World.size_alloc, World.size_alloc] at this; exact this
  have HBA : Hid (∀ o o' o'', Below w.heap.size w (((w.alloc o).alloc o').alloc o'')) := fun o o' o'' => (((Below.refl _ _).alloc (Nat.le_refl _) _).alloc (by simp) _).alloc (by simp; omega) _
  go_enter Tryz.func205, Tryz.ntmps205
  go_wp2_with (first
    | (refine wpList_insert_own _ rfl (.tmp 10) (.tmp 11) (.tmp 12) 248 rfl 55 55 lawU Tryz.underlying248 _ (w.heap.size + 2) 0 (.map []) rfl (HNEW.out _ _) (by unfold maxLen; omega) _ _ _ rfl rfl (ku_key ser hs6) _ [] (elU_mk face hf6) ?_; intro w1 hown1 hg1; have HOWN1 := Lib.hid (MpU.tight hown1); have HR1 : Hid (Blk w1 w.heap.size 250 (relC am tk mb)) := Blk.ch ((HR0.out _).alloc _) (Ch.of_grown hg1) (by simp); have HZ1 : Hid (Blk w1 (w.heap.size + 1) 250 zRelW) := Blk.ch ((HZ.out _).alloc _) (Ch.of_grown hg1) (by simp); have HM1 : Hid (MpU w1 mb D) := (HM.out.ch (Ch.of_below (HBA.out _ _ _) []) (by simp)).ch (Ch.of_grown hg1) (by simp; omega); have HB1 : Hid (Below w.heap.size w w1) := (HBA.out _ _ _).grown hg1 (by simp; omega) (fun g hg => by injection hg with hg; omega); have r2 := HR1.out.cell 2; simp [relC] at r2; clear hown1 hg1)
    | (at_range; refine wpList_range_own _ rfl _ 248 rfl 55 55 lawU Tryz.underlying248 _ mb _ _ rfl HM1.out ?_; intro w2 hrg2 hg2 hs2; have HRG2 := Lib.hid hrg2; have HG2 := Lib.hid hg2; clear hrg2 hg2 hs2)
    | go_in)
  go_frame
  have HBZ : Hid (Below w.heap.size w w2) := HB1.out.grown HG2.out HB1.out.size (fun _ h => by cases h)
  have HR2 : Hid (Blk w2 w.heap.size 250 (relC am tk mb)) := HR1.out.ch (ch_none HG2.out) (by simp)
  have HZ2 : Hid (Blk w2 (w.heap.size + 1) 250 zRelW) := HZ1.out.ch (ch_none HG2.out) (by simp)
  have HN2 : Hid (MpU w2 (w.heap.size + 1 + 1) ((DataW.map [] : DU).put (ku ser) (.lit (ku face)))) := HOWN1.out.ch (ch_none HG2.out) (by simp)
  have hRS : w.heap.size + 1 + 1 < w1.heap.size := HOWN1.out.lt
  have hal : allD ((DataW.map [] : DU).put (ku ser) (.lit (ku face))) = face := by
    rw [allD_put (.map []) ser face (MpU.new w).tidy (MpU.new w).keys rfl]
    simp [allD, sD, totI]
  have hsz : Maps.size ((DataW.map [] : DU).put (ku ser) (.lit (ku face))) = 1 := by
    rw [Maps.size_put (MpU.new w).tidy]; rfl
  have hsD : sD (Maps.has D) D = allD D := rfl
  have hrel0 : ∀ z, WideAt.IsKeyLit z → Maps.has ((DataW.map [] : DU).put (ku ser) (.lit (ku face))) z = true → z = ku ser ∨ (Maps.has D z = false ∨ Maps.has D z = true) ∧ False := fun z hz hh => by
    rcases has_put (.map []) ser face (MpU.new w).tidy z hz hh with h | h
    · exact .inl h
    · rw [has_nil] at h; cases h
  have HTD : Hid (Tidy D) := HM.out.tidy
  generalize hR : w1.heap.size = R at *
  obtain ⟨M, hM⟩ : ∃ M, w.heap.size + 1 + 1 = M := ⟨_, rfl⟩
  have hMl : w.heap.size + 2 = M := by omega
  rw [hM] at HN2 hRS ⊢
  have HM' := Lib.hid hMl
  have hM1 : w.heap.size + 1 < M := by omega
  clear hM hMl
  generalize (DataW.map [] : DU).put (ku ser) (.lit (ku face)) = D0 at *
  have HRL : Hid (∀ z, WideAt.IsKeyLit z → Maps.has D0 z = true → z = ku ser ∨ Maps.has D z = false) := fun z hz hh => (hrel0 z hz hh).imp id (fun h => h.2.elim)
  clear hrel0 hR r2
  go_loopw [8, 9] (fun _ _ wr => ∃ (left : Lit → Bool) (cnt : Nat) (D' : DU), Hid (wr.ranges Tryz.prog 55 elU mb R (Maps.size D) D left cnt) ∧ Hid (MpU wr M D') ∧ allD D' + sD left D = allD D + face ∧ Hid (∀ z, WideAt.IsKeyLit z → Maps.has D' z = true → z = ku ser ∨ left z = false) ∧ Maps.size D' + cnt ≤ Maps.size D + 1 ∧ Hid (Blk wr w.heap.size 250 (relC am tk mb)) ∧ Hid (Blk wr (w.heap.size + 1) 250 zRelW) ∧ Hid (Below w.heap.size w wr)) (fun _ _ wr => wr.rangeLeft mb R)
  case atStart => exact ⟨_, _, D0, HRG2, HN2, by rw [hal, hsD]; omega, HRL, by omega, HR2, HZ2, HBZ⟩
  case round =>
    obtain ⟨left, cnt, D', HRG, HN, hsum, HL, hcnt, HR, HZ, HB⟩ := hrel
    clear hal hsz hsD HRL HR2 HZ2 HBZ HN2 HRG2
    have q2 := HR.out.cell 2
    have g2 := HR.out.frozen 2
    have tok1 : True := trivial
    go_wp2_with (first
      | (clear tok1; at_next; refine wpList_next_ranges_ii _ rfl _ rfl 55 55 .u64 .u64 lawU Tryz.underlying55 Tryz.underlying55 mb R (Maps.size D) _ _ _ rfl HRG.out ?_ ?_)
      | go_in)
    · intro _ hl0
      have hs0 : allD D' = allD D + face := by rw [sD_end left D hl0] at hsum; omega
      simp [relC] at q2
      go_wp2_with (first
        | (refine wpList_load_blk rfl 250 (.tmp 3) rfl w.heap.size 0 3 (HR.out.set_ 2 (.map (some M))) (relC am tk M) (by rfl) (by rfl) Tryz.underlying250 infoRel (by simp [relC]) ?_)
        | (refine wpList_store_part rfl 250 (.tmp 6) (.tmp 27) rfl (w.heap.size + 1) 0 (HZ.out.far (by simp <;> omega) _) (relC am tk M) (relC am tk M) (by rfl) (by rfl) (Nat.le_refl 3) infoRel (relC_one _ _ _) ((over_full (relC am tk M).toList zRelW rfl).trans (Array.toArray_toList ..)) ?_; intro W3 hb3 hc3; have HO3 := Lib.hid hb3; have HC3 := Lib.hid hc3; clear hb3 hc3)
        | go_in)
      exact bodyPost_ret (results_cell_row rfl _ _ (w.heap.size + 1) 250 _ (0, 0) _ rfl HO3.out Tryz.underlying250 rfl infoRel) rfl ⟨M, D', rfl, by omega, (HN.out.ch (Ch.set_ (b := w.heap.size) (List.mem_singleton.2 rfl) _ _ _) (by simp <;> omega)).ch HC3.out (by simp <;> omega), hs0, by omega, (HB.out.setCell (by simp) _).trans (HC3.out.below (by have := HB.out.size; simp; omega) (by simp))⟩
    · intro x c1 w3 cnt1 hwx hwc hlx hat hrg1 hlt hg1 hs1 hen
      obtain ⟨b0, b1⟩ := wf64 hwc
      obtain ⟨x0, x1⟩ := wf64 hwx
      have hsm : sD left D = c1 + sD (fun z => left z && !z.sameKey (.int .u64 x)) D := sD_step left D _ c1 HTD.out trivial hlx hat
      have hhx := has_true_of_atKey hat
      have HN3 : Hid (MpU w3 M D') := HN.out.ch (Ch.of_grown hg1) (by simp; omega)
      have HR3 : Hid (Blk w3 w.heap.size 250 (relC am tk mb)) := HR.out.ch (Ch.of_grown hg1) (by simp; omega)
      have HZ3 : Hid (Blk w3 (w.heap.size + 1) 250 zRelW) := HZ.out.ch (Ch.of_grown hg1) (by simp; omega)
      have HB3 : Hid (Below w.heap.size w w3) := HB.out.grown hg1 HB.out.size (fun j hj => by cases hj; omega)
      obtain ⟨xn, rfl⟩ := Int.eq_ofNat_of_zero_le x0
      obtain ⟨cn, rfl⟩ := Int.eq_ofNat_of_zero_le b0
      have hnh : Maps.has D' (ku xn) = false := by
        cases hh : Maps.has D' (ku xn) with
        | false => rfl
        | true =>
          rcases HL.out _ (ku_is xn) hh with e | e
          · have : Maps.has D (ku xn) = true := hhx
            rw [e, HNO.out] at this; cases this
          · have : left (ku xn) = true := hlx
            rw [e] at this; cases this
      have hS := HN3.out.sum_put xn cn hnh
      have hZ := HN3.out.size_put xn cn hnh
      have HRG1 := Lib.hid hrg1
      have HNH := Lib.hid hnh
      have HS := Lib.hid hS
      have HZS := Lib.hid hZ
      have hlt1 := hlt
      have HSM := Lib.hid hsm
      clear hg1 hrg1 hat hnh hS hZ hsm hhx q2 g2
      go_wp2_with (first
        | (at_mapUpdate; refine wpList_mapUpdate_own _ rfl (.tmp 22) (.tmp 23) (.tmp 24) 248 rfl 55 55 lawU Tryz.underlying248 _ M (Maps.size D') D' rfl HN3.out (by unfold maxLen; omega) _ _ _ rfl rfl (ku_key xn (by omega)) _ [] (elU_mk cn (by omega)) ?_; intro w4 hown4 hg4; have HN4 := Lib.hid (MpU.tight hown4); have HG4 := Lib.hid hg4; clear hown4 hg4)
        | go_in)
      go_frame
      go_roundw
      case rel =>
        refine ⟨_, cnt1, _, HRG1.out.kept HG4.out (fun e => by injection e with e; omega) (fun e => by injection e with e; omega), HN4, ?_, ?_, ?_, HR3.out.ch (Ch.of_grown HG4.out) (by simp <;> omega), HZ3.out.ch (Ch.of_grown HG4.out) (by simp <;> omega), HB3.out.grown HG4.out HB3.out.size (fun j hj => by cases hj; omega)⟩
        · rw [HS.out]; have := HSM.out; omega
        · intro z hz hh
          rcases has_put D' xn cn HN3.out.tidy z hz hh with e | e
          · refine .inr ?_
            rw [e]
            have : (ku xn).sameKey (.int .u64 (xn : Int)) = true := WideAt.sameKey_self (ku_is xn)
            simp [this]
          · rcases HL.out z hz e with e | e
            · exact .inl e
            · exact .inr (by simp [e])
        · rw [HZS.out]; omega
      case measure => rw [(HRG1.out.kept HG4.out (fun e => by injection e with e; omega) (fun e => by injection e with e; omega)).left_eq, HRG.out.left_eq]; exact hlt1
end Go.Proofs.YtmbceheafjadhaaGreat
namespace Go.Proofs.YtmbceheafjadhaaGreat
open Go.RowKit Go.Maps
theorem infoTk : (Tryz.prog.info? 131).map (·.size) = some 8 := by kernel_rfl
theorem tkcs_one (t : Tk) : (t.cs).all (·.oneCell') = true := by
  rw [Array.all_eq_true']
  intro x hx
  simp only [Tk.cs, List.mem_toArray, List.mem_cons, List.not_mem_nil, or_false] at hx
  rcases hx with rfl | rfl | rfl | rfl | rfl | rfl | rfl | rfl <;> rfl
def zTick : Tk := ⟨ByteArray.empty, 0, 0, 0, 0, ByteArray.empty, 0, ByteArray.empty⟩
theorem tkcs_over (s t : Tk) : over s.cs 0 t.cs.toList = t.cs := (over_full t.cs.toList s.cs rfl).trans (Array.toArray_toList ..)
set_option maxRecDepth 100000 in
set_option maxHeartbeats 1000000 in
theorem lticket_any (ch : ByteArray) (ser face wins many : Nat) (com salt : ByteArray) (drawn : Nat) (taken : Bool) (cl : Nat) (w : World) :
    Calls Tryz.prog 206 #[.agg #[.string ch, .int .u64 ser, .int .u64 face, .int .u64 wins, .int .u64 many, .string com, .string salt, .int .u64 drawn, .bool taken], .int .u64 cl] w fun e w' => e = .returned (.agg (Tk.cs ⟨ch, ser, face, wins, many, com, cl, ByteArray.empty⟩)) ∧ Below w.heap.size w w' := by
  have HB : Hid (∀ o o', Below w.heap.size w ((w.alloc o).alloc o')) := fun o o' => ((Below.refl _ _).alloc (Nat.le_refl _) _).alloc (by simp) _
  go_enter Tryz.func206, Tryz.ntmps206
  go_wp2_with (first
    | (refine wpList_store_part rfl 131 (.tmp 4) (.tmp 18) rfl (w.heap.size + 1) 0 (cs := zTick.cs) (Blk.newAt (by simp)) (Tk.cs ⟨ch, ser, face, wins, many, com, cl, ByteArray.empty⟩) (Tk.cs ⟨ch, ser, face, wins, many, com, cl, ByteArray.empty⟩) (by rfl) (by rfl) (Nat.le_refl 8) infoTk (tkcs_one _) (tkcs_over _ _) ?_; intro W4 hb4 hc4; have HO4 := Lib.hid hb4; have HC4 := Lib.hid hc4; clear hb4 hc4))
  exact bodyPost_ret (results_cell_row rfl _ _ (w.heap.size + 1) 131 _ (0, 0) _ rfl HO4.out Tryz.underlying131 rfl infoTk) rfl ⟨rfl, (HB.out _ _).trans (HC4.out.below (by simp; omega) (by simp))⟩
end Go.Proofs.YtmbceheafjadhaaGreat
namespace Go.Proofs.YtmbceheafjadhaaGreat
open Go.RowKit Go.Maps
theorem wp_gen {P : Program} {c : Code} {Q : Exit → Act → World → Prop} {a : Act} {w : World} (h : ∀ W, W = w → c.wp P Q a W) : c.wp P Q a w := h w rfl
theorem yields_blk {ops : Array Oper} {S : World → Prop} {op : Oper} {a : Act} (hw : Region.wanted op (yielded ops a.tmps) = true) (ty : TypeId) (x : Operand) (ho : op.op = .load ty x)
    (g off n : Nat) {t : TypeId} {cs : Array Value} {fs : Array Field} (hS : ∀ w, S w → Blk w g t cs) (part : Array Value) (hx : a.eval x = .pointer (some ⟨g, off, none⟩)) (hp : cs.extract off (off + n) = part)
    (hu : Tryz.prog.underlying ty = some (.struct fs)) (hi : (Tryz.prog.info? ty).map (·.size) = some n) (hn : off + n ≤ cs.size) : YieldsIf Tryz.prog ops S op (.agg part) a := by
  subst hp
  have := yieldsIf_load_mid (P := Tryz.prog) (ops := ops) (S := S) hw ty x ho g off hx (cs.extract off (off + n)).toList _ (fun w h => World.rangeAt_of_block (w := w) (b := g) (C := cs) (t := t) (fr := (0, 0)) (hS w h) off n) hu rfl (by rw [hi]; simp; omega)
  rwa [Array.toArray_toList] at this
theorem step_mapUpdate_own {ops : Array Oper} {o : Oper} {a : Act} {w : World} {K : Act → World → Prop} {Q : Exit → Act → World → Prop} {E : Prop} (hgd : o.guard = none) (m x v : Operand) (ho : o.op = .mapUpdate 248 m x v)
    (b : Nat) {D : DU} (hm : a.eval m = .map (some b)) (hown : MpU w b D) (hn : Maps.size D < maxLen) (ser face : Nat) (hx : a.eval x = .int .u64 (ser : Int)) (hv : a.eval v = .int .u64 (face : Int)) (h1 : ser < 18446744073709551616) (h2 : face < 18446744073709551616)
    (h : ∀ W, MpU W b (D.put (ku ser) (.lit (ku face))) → w.grownBy W (some b) → K (a.put o.dst undef) W) : if Region.wanted o (yielded ops a.tmps) = true then Oper.wp Tryz.prog o a w K Q else E := by
  have hw : Region.wanted o (yielded ops a.tmps) = true := by simp [Region.wanted, hgd]
  rw [if_pos hw]
  obtain ⟨w', hrun, r1, r2⟩ := World.ownsMap.update hown lawU Tryz.underlying248 hn (ku_key ser h1) (elU_mk face h2)
  unfold Oper.wp
  simp [execOp, ho, hm, hx, hv, hrun, Result.andThen]
  exact h w' (MpU.tight r1) r2
end Go.Proofs.YtmbceheafjadhaaGreat
namespace Go.Proofs.YtmbceheafjadhaaGreat
open Go.RowKit Go.Maps
/-- a gate.Op with a ticket -/
def opT (ch : ByteArray) (t : Tk) : Array Value := #[.int .i64 5, .string ch, .string ByteArray.empty, .int .i64 0, .int .i64 0, .int .u64 0, .string ByteArray.empty, .string ByteArray.empty, .int .i64 0, .string ByteArray.empty, .int .u64 0, .int .i64 0, .string ByteArray.empty, .int .u64 0, .int .u64 0, .int .u64 0, .int .u64 0, .string ByteArray.empty, .string t.ch, .int .u64 (t.ser : Nat), .int .u64 (t.face : Nat), .int .u64 (t.wins : Nat), .int .u64 (t.many : Nat), .string t.com, .int .u64 (t.cl : Nat), .string t.sig, .int .i64 0]
theorem opT_one (ch : ByteArray) (t : Tk) : (opT ch t).all (·.oneCell') = true := by
  rw [Array.all_eq_true']
  intro x hx
  simp only [opT, List.mem_toArray, List.mem_cons, List.not_mem_nil, or_false] at hx
  rcases hx with rfl | rfl | rfl | rfl | rfl | rfl | rfl | rfl | rfl | rfl | rfl | rfl | rfl | rfl | rfl | rfl | rfl | rfl | rfl | rfl | rfl | rfl | rfl | rfl | rfl | rfl | rfl <;> rfl
theorem opT_over (kind : Nat) (c : ByteArray) (am : Nat) (s : ByteArray) (ch : ByteArray) (t : Tk) : over (opP kind c am s) 0 (opT ch t).toList = opT ch t := (over_full (opT ch t).toList (opP kind c am s) rfl).trans (Array.toArray_toList ..)
def takC (cb : Nat) (t : Tk) : Array Value := #[.pointer (some ⟨cb, 0, none⟩), .string t.ch, .int .u64 (t.ser : Nat), .int .u64 (t.face : Nat), .int .u64 (t.wins : Nat), .int .u64 (t.many : Nat), .string t.com, .int .u64 (t.cl : Nat), .string t.sig]
def Tk.signed (t : Tk) (sig : ByteArray) : Tk := ⟨t.ch, t.ser, t.face, t.wins, t.many, t.com, t.cl, sig⟩
theorem CIn.put {w w' : World} {cb kb ctr pb mb h n i out am tk : Nat} {seed tx : ByteArray} {l : Lk} {D D' : DU} (k : CIn w cb kb ctr pb mb seed h n i tx out l am tk D) (hc : Ch [mb] w w') (hm : MpU w' mb D') : CIn w' cb kb ctr pb mb seed h n i tx out l am tk D' := by
  obtain ⟨h1, ⟨vl, q1, q2, q3⟩, h3, h4⟩ := k
  obtain ⟨g, p1, p2⟩ := h3
  have ns : ∀ g' ∈ [mb], ∀ cs fr, w.heap[g']? ≠ some (Obj.cells cs 9 fr) := by
    intro g' hg cs fr he
    simp at hg; subst hg
    obtain ⟨es, clock, hb, _⟩ := h4
    rw [hb] at he; cases he
  refine ⟨Blk.ch h1 hc (by simpa using (h4.ne_blk h1).symm), KeyAt.ch ⟨vl, q1, q2, q3⟩ hc (by simpa using (h4.ne_blk q1).symm) (by simpa using (h4.ne_blk q2).symm) ns, ⟨g, Blk.ch p1 hc (by simpa using (h4.ne_blk p1).symm), Blk.ch p2 hc (by simpa using (h4.ne_blk p2).symm)⟩, hm⟩
/-- the key has signed -/
theorem CIn.sign {w w' : World} {cb kb ctr pb mb h n i out am tk : Nat} {seed tx : ByteArray} {l : Lk} {D : DU} (k : CIn w cb kb ctr pb mb seed h n i tx out l am tk D) (hc : Ch [ctr] w w') (hk : KeyAt w' kb ctr seed h (i + 1)) : CIn w' cb kb ctr pb mb seed h n (i + 1) tx out l am tk D := by
  obtain ⟨h1, ⟨vl, q1, q2, q3⟩, h3, h4⟩ := k
  exact ⟨Blk.ch h1 hc (by have := h1.ne_ q2 (by decide); simpa using this), hk, h3.ch hc q2 (by decide) (by decide), h4.ch hc (h4.ne_at q2)⟩
variable {w : World} {cb kb ctr pb mb h n i out am tk : Nat} {seed tx : ByteArray} {l : Lk} {D : DU}
set_option maxRecDepth 100000 in
set_option maxHeartbeats 1000000 in
theorem takenlay_any (t : Tk) (sig : ByteArray) (k : CIn w cb kb ctr pb mb seed h n i tx out l am tk D) (hz : Maps.size D ≤ 1000) (ht : t.ok) (ho : out < 256) (hxx : tx.size ≤ 1000000) :
    Calls Tryz.prog 208 #[.agg (takC cb t), .string sig] w fun e w' => e = .returned (.agg (opT (nameB tx out) (t.signed sig))) ∧ CIn w' cb kb ctr pb mb seed h n i tx out l am tk (D.put (ku t.ser) (.lit (ku t.face))) ∧ Ch [mb] w w' := by
  have hser := ht.ser
  have hface := ht.face
  clear ht
  obtain ⟨ch, ser, face, wins, many, com, cl, sg⟩ := t
  unfold takC Tk.signed
  have hlt := k.1.lt
  have HKA := Lib.hid k
  clear k
  simp only at hser hface ⊢
  have hml := HKA.out.2.2.2.lt
  go_enter Tryz.func208, Tryz.ntmps208
  go_wp2_with fail
  refine wp_gen fun W1 hW1 => ?_
  have HT1 : Hid (Blk W1 w.heap.size 320 (takC cb ⟨ch, ser, face, wins, many, com, cl, sig⟩)) := by rw [hW1]; exact (Blk.new w 320 (takC cb ⟨ch, ser, face, wins, many, com, cl, sig⟩)).alloc _
  have HO1 : Hid (Blk W1 (w.heap.size + 1) 147 (opP 0 ByteArray.empty 0 ByteArray.empty)) := by rw [hW1]; exact Blk.newAt (by simp)
  have HB1 : Hid (Below w.heap.size w W1) := by rw [hW1]; exact ((Below.refl _ _).alloc (Nat.le_refl _) _).alloc (by simp) _
  have HK1 := Lib.hid (HKA.out.bel HB1.out)
  clear hW1 HKA
  obtain ⟨W2, hrun, hown2, hg2⟩ := World.ownsMap.update (HK1.out.2.2.2.ch (Ch.drewN [] W1 1) (by simp) : MpU W1.drew mb D) lawU Tryz.underlying248 (by unfold maxLen; omega) (ku_key ser hser) (elU_mk face hface)
  have hcw : Ch [mb] W1 W2 := ((Ch.drewN [] W1 1).mono (by simp)).trans (Ch.of_grown hg2)
  have HC2 : Hid (Ch [mb] w W2) := (Ch.of_below HB1.out _).trans hcw
  have HK2 := Lib.hid (HK1.out.put hcw (MpU.tight hown2))
  have HT2 : Hid (Blk W2 w.heap.size 320 (takC cb ⟨ch, ser, face, wins, many, com, cl, sig⟩)) := HT1.out.ch hcw (by simp; omega)
  have HO2 : Hid (Blk W2 (w.heap.size + 1) 147 (opP 0 ByteArray.empty 0 ByteArray.empty)) := HO1.out.ch hcw (by simp; omega)
  clear hown2 hg2 hcw
  refine wp_region_held_drew (S := fun W => Hid (Blk W w.heap.size 320 (takC cb ⟨ch, ser, face, wins, many, com, cl, sig⟩) ∧ Blk W cb 252 (clC kb pb mb tx out l am tk))) (by kernel_rfl) (Lib.hid ⟨HT1.out.drewN 1, HK1.out.1.drewN 1⟩) (fun hS => ?_)
  refine wpAnyH_take (i := 0) (v := ?_) rfl (by kernel_rfl) (by kernel_rfl) (by kernel_rfl) (fun _ _ _ h => h) (Or.inl ⟨by rfl, ?_⟩) hS ?_
  rotate_left
  · (intro w _; go_simp; try with_reducible rfl)
  refine wpAnyH_take (i := 1) (v := ?_) rfl (by kernel_rfl) (by kernel_rfl) (by kernel_rfl) (fun _ _ _ h => h) (Or.inl ⟨by rfl, ?_⟩) hS ?_
  rotate_left
  · (intro w hS'; have hcell := (show World.cell? _ ⟨_, 0, none⟩ = some (.pointer (some ⟨cb, 0, none⟩)) from Blk.cell hS'.out.1 0); go_simp; try with_reducible rfl)
  refine wpAnyH_take (i := 2) (v := ?_) rfl (by kernel_rfl) (by kernel_rfl) (by kernel_rfl) (fun _ _ _ h => h) (Or.inl ⟨by rfl, ?_⟩) hS ?_
  rotate_left
  · (intro w _; go_simp; try with_reducible rfl)
  refine wpAnyH_take (i := 3) (v := ?_) rfl (by kernel_rfl) (by kernel_rfl) (by kernel_rfl) (fun _ _ _ h => h) (Or.inl ⟨by rfl, ?_⟩) hS ?_
  rotate_left
  · (intro w _; go_simp; try with_reducible rfl)
  refine wpAnyH_take (i := 4) (v := ?_) rfl (by kernel_rfl) (by kernel_rfl) (by kernel_rfl) (fun _ _ _ h => h) (Or.inl ⟨by rfl, ?_⟩) hS ?_
  rotate_left
  · (intro w _; go_simp; try with_reducible rfl)
  refine wpAnyH_take (i := 5) (v := ?_) rfl (by kernel_rfl) (by kernel_rfl) (by kernel_rfl) (fun _ _ _ h => h) (Or.inl ⟨by rfl, ?_⟩) hS ?_
  rotate_left
  · (intro w hS'; have hcell := (show World.cell? _ ⟨_, 25, none⟩ = some (.map (some mb)) from Blk.cell hS'.out.2 25); go_simp; try with_reducible rfl)
  refine wpAnyH_take (i := 6) (v := ?_) rfl (by kernel_rfl) (by kernel_rfl) (by kernel_rfl) (fun _ _ _ h => h) (Or.inl ⟨by rfl, ?_⟩) hS ?_
  rotate_left
  · (intro w _; go_simp; try with_reducible rfl)
  refine wpAnyH_take (i := 7) (v := ?_) rfl (by kernel_rfl) (by kernel_rfl) (by kernel_rfl) (fun _ _ _ h => h) (Or.inl ⟨by rfl, ?_⟩) hS ?_
  rotate_left
  · (intro w _; go_simp; try with_reducible rfl)
  refine wpAnyH_take (i := 8) (v := ?_) rfl (by kernel_rfl) (by kernel_rfl) (by kernel_rfl) (fun _ _ _ h => h) (Or.inl ⟨by rfl, ?_⟩) hS ?_
  rotate_left
  · (intro w hS'; have hcell := (show World.cell? _ ⟨_, 2, none⟩ = some (.int .u64 ser) from Blk.cell hS'.out.1 2); go_simp; try with_reducible rfl)
  refine wpAnyH_take (i := 9) (v := ?_) rfl (by kernel_rfl) (by kernel_rfl) (by kernel_rfl) (fun _ _ _ h => h) (Or.inl ⟨by rfl, ?_⟩) hS ?_
  rotate_left
  · (intro w _; go_simp; try with_reducible rfl)
  refine wpAnyH_take (i := 10) (v := ?_) rfl (by kernel_rfl) (by kernel_rfl) (by kernel_rfl) (fun _ _ _ h => h) (Or.inl ⟨by rfl, ?_⟩) hS ?_
  rotate_left
  · (intro w _; go_simp; try with_reducible rfl)
  refine wpAnyH_take (i := 11) (v := ?_) rfl (by kernel_rfl) (by kernel_rfl) (by kernel_rfl) (fun _ _ _ h => h) (Or.inl ⟨by rfl, ?_⟩) hS ?_
  rotate_left
  · (intro w hS'; have hcell := (show World.cell? _ ⟨_, 3, none⟩ = some (.int .u64 face) from Blk.cell hS'.out.1 3); go_simp; try with_reducible rfl)
  refine wpAnyH_ready (rs := [12]) (by kernel_rfl) (by simp) (AllReadyH.cons rfl (fun K hK => ?_) AllReadyH.nil)
  go_simp
  refine hK.out _ _ (Lib.hid ⟨HT2.out, HK2.out.1⟩) (fun _ => ?_)
  clear hK K hS hrun
  refine wpAnyH_done (by kernel_rfl) ?_ _
  go_wp2_with fail
  refine wp_region_held_drew (S := fun W => Hid (Blk W w.heap.size 320 (takC cb ⟨ch, ser, face, wins, many, com, cl, sig⟩))) (by kernel_rfl) (Lib.hid (HT2.out.drewN 1)) (fun hS => ?_)
  refine wpAnyH_take (i := 0) (v := ?_) rfl (by kernel_rfl) (by kernel_rfl) (by kernel_rfl) (fun _ _ _ h => h) (Or.inl ⟨by rfl, ?_⟩) hS ?_
  rotate_left
  · (intro w _; go_simp; try with_reducible rfl)
  refine wpAnyH_take (i := 1) (v := ?_) rfl (by kernel_rfl) (by kernel_rfl) (by kernel_rfl) (fun _ _ _ h => h) (Or.inl ⟨by rfl, ?_⟩) hS ?_
  rotate_left
  · (intro w hS'; have hcell := (show World.cell? _ ⟨_, 0, none⟩ = some (.pointer (some ⟨cb, 0, none⟩)) from Blk.cell hS'.out 0); go_simp; try with_reducible rfl)
  refine wpAnyH_take (i := 3) (v := ?_) rfl (by kernel_rfl) (by kernel_rfl) (by kernel_rfl) (fun _ _ _ h => h) (Or.inl ⟨by rfl, ?_⟩) hS ?_
  rotate_left
  · (intro w _; go_simp; try with_reducible rfl)
  refine wpAnyH_take (i := 4) (v := .agg #[.string ch, .int .u64 (ser : Nat), .int .u64 (face : Nat), .int .u64 (wins : Nat), .int .u64 (many : Nat), .string com, .int .u64 (cl : Nat), .string sig]) rfl (by kernel_rfl) (by kernel_rfl) (by kernel_rfl) (fun _ _ _ h => h) (yields_blk (by rfl) 131 (.tmp 23) (by rfl) w.heap.size 1 8 (t := 320) (cs := takC cb ⟨ch, ser, face, wins, many, com, cl, sig⟩) (fun W h => h.out) #[.string ch, .int .u64 (ser : Nat), .int .u64 (face : Nat), .int .u64 (wins : Nat), .int .u64 (many : Nat), .string com, .int .u64 (cl : Nat), .string sig] (by rfl) (by rfl) Tryz.underlying131 infoTk (Nat.le_refl 9)) hS ?_
  refine wpAnyH_ready (rs := [2]) (by kernel_rfl) (by simp) (AllReadyH.cons rfl (fun K hK => ?_) AllReadyH.nil)
  go_simp
  refine (sname_blk kb pb mb (w := W2.drew) (HK2.out.1.drewN 1) ho hxx).mono ?_
  rintro e w3 ⟨rfl, hb3⟩
  have hb3' : Below W2.heap.size W2 w3 := ((Below.refl _ _).drew).trans hb3
  have HK3 := Lib.hid (HK2.out.bel hb3')
  have HO3 := Lib.hid (HO2.out.bel hb3')
  have HT3 := Lib.hid (HT2.out.bel hb3')
  have HC3 : Hid (Ch [mb] w w3) := HC2.out.trans (Ch.of_below hb3' _)
  clear hb3 hb3'
  go_simp
  refine hK.out _ _ HT3 (fun hS3 => ?_)
  clear hK K
  refine wpAnyH_take (i := 5) (v := ?_) rfl (by kernel_rfl) (by kernel_rfl) (by kernel_rfl) (fun _ _ _ h => h) (Or.inl ⟨by rfl, ?_⟩) hS3 ?_
  rotate_left
  · (intro w _; go_simp; try with_reducible rfl)
  refine wpAnyH_ready (rs := [6]) (by kernel_rfl) (by simp) (AllReadyH.cons rfl (fun K hK => ?_) AllReadyH.nil)
  refine step_store_part (by rfl) 147 (.tmp 4) (.tmp 25) (by rfl) (w.heap.size + 1) 0 HO3.out (opT (nameB tx out) ⟨ch, ser, face, wins, many, com, cl, sig⟩) (opT (nameB tx out) ⟨ch, ser, face, wins, many, com, cl, sig⟩) (by rfl) (by rfl) (Nat.le_refl 27) infoOp (opT_one _ _) (opT_over _ _ _ _ _ _) ?_
  intro W4 hb4 hc4
  have HO4 := Lib.hid hb4
  have HC4 := Lib.hid hc4
  clear hb4 hc4
  refine hK.out _ _ (Lib.hid (Blk.ch HT3.out HC4.out (by simp))) (fun _ => ?_)
  clear hK K
  refine wpAnyH_done (by kernel_rfl) ?_ _
  go_wp2_with fail
  exact bodyPost_ret (results_cell_row rfl _ _ (w.heap.size + 1) 147 _ (0, 0) _ rfl HO4.out Tryz.underlying147 rfl infoOp) rfl ⟨rfl, HK3.out.chO HC4.out rfl HO3.out (by decide) (by decide) (by decide) (by decide) (by decide), ((HC3.out.mono (S' := [mb, w.heap.size + 1]) (by simp <;> omega)).trans (HC4.out.mono (by simp))).mono (by simp <;> omega)⟩
set_option maxRecDepth 100000 in
set_option maxHeartbeats 1000000 in
theorem ssigned_take (msg : ByteArray) (t : Tk) (k : CIn w cb kb ctr pb mb seed h n i tx out l am tk D) (hz : Maps.size D ≤ 1000) (ht : t.ok) (hh : h ≤ 4) (hi : i < 2 ^ h) (hs : seed.size ≤ 1000000) (hmz : msg.size ≤ 900000) (ho : out < 256) (hx : tx.size ≤ 1000000) :
    Calls Tryz.prog 153 #[.pointer (some ⟨cb, 0, none⟩), .string msg, .func (Fn.func 208) #[.agg (takC cb t)] #[]] w fun e w' => e = .returned (.tuple #[.agg (opT (nameB tx out) (t.signed (signB seed h i msg))), .int .i64 0]) ∧ CIn w' cb kb ctr pb mb seed h n (i + 1) tx out l am tk (D.put (ku t.ser) (.lit (ku t.face))) ∧ Ch [ctr, mb] w w' := by
  have ha := (Below.refl w.heap.size w).alloc (Nat.le_refl _) (.cells (opP 0 ByteArray.empty 0 ByteArray.empty) 147)
  have HA := Lib.hid (k.bel ha)
  obtain ⟨hc, hk, hp, hm⟩ := k
  have c0 : ∀ o, (w.alloc o).cell? ⟨cb, 0, none⟩ = some (.pointer (some ⟨kb, 0, none⟩)) := fun o => (hc.alloc o).cell 0
  have HU := Lib.hid (ksign_ok kb ctr seed msg h i (w.alloc (.cells (opP 0 ByteArray.empty 0 ByteArray.empty) 147)) hh hi hs hmz HA.out.2.1)
  have HO : Hid (Blk (w.alloc (.cells (opP 0 ByteArray.empty 0 ByteArray.empty) 147)) w.heap.size 147 (opP 0 ByteArray.empty 0 ByteArray.empty)) := Blk.new _ _ _
  have HCA : Hid (Ch [ctr, mb] w (w.alloc (.cells (opP 0 ByteArray.empty 0 ByteArray.empty) 147))) := Ch.alloc _ _ _
  have hlm : mb < w.heap.size := hm.lt
  generalize signB seed h i msg = sig at *
  clear hc hk hp hm ha
  go_enter Tryz.func153, Tryz.ntmps153
  go_wp2_with fail
  refine HU.out.mono ?_
  rintro e w1 ⟨rfl, hk1, hc1⟩
  have K1 := Lib.hid (HA.out.sign hc1 hk1)
  have O1 : Hid (Blk w1 w.heap.size 147 (opP 0 ByteArray.empty 0 ByteArray.empty)) := Blk.ch HO.out hc1 (by obtain ⟨_, _, k2, _⟩ := HA.out.2.1; have := HO.out.ne_ k2 (by decide); simpa using this)
  have HC1 : Hid (Ch [ctr, mb] w w1) := HCA.out.trans (hc1.mono (by simp))
  clear hk1 hc1 c0
  go_wp2_with fail
  refine (takenlay_any t sig K1.out hz ht ho hx).mono ?_
  rintro e w2 ⟨rfl, hk2, hc2⟩
  have K2 := Lib.hid hk2
  have O2 : Hid (Blk w2 w.heap.size 147 (opP 0 ByteArray.empty 0 ByteArray.empty)) := Blk.ch O1.out hc2 (by simp; omega)
  have HC2 : Hid (Ch [ctr, mb] w w2) := HC1.out.trans (hc2.mono (by simp))
  clear hk2 hc2
  go_wp2_with (first | (refine wpList_store_part rfl 147 (.tmp 6) (.tmp 25) rfl w.heap.size 0 O2.out (opT (nameB tx out) (t.signed sig)) (opT (nameB tx out) (t.signed sig)) (by rfl) (by rfl) (Nat.le_refl 27) infoOp (opT_one _ _) (opT_over _ _ _ _ _ _) ?_; intro W3 hb3 hc3; have HO3 := Lib.hid hb3; have HC3 := Lib.hid hc3; clear hb3 hc3))
  refine bodyPost_ret (results_cell_row2 rfl _ HO3.out rfl Tryz.underlying147 infoOp) rfl ⟨rfl, K2.out.chO HC3.out rfl O2.out (by decide) (by decide) (by decide) (by decide) (by decide), ((HC2.out.mono (S' := [ctr, mb, w.heap.size]) (by simp <;> omega)).trans (HC3.out.mono (by simp))).mono (by simp <;> omega)⟩
end Go.Proofs.YtmbceheafjadhaaGreat
namespace Go.Proofs.YtmbceheafjadhaaGreat
open Go.RowKit Go.Maps
/-- an offer as the client sees it -/
structure Of where
  ch : ByteArray
  ser : Nat
  face : Nat
  wins : Nat
  many : Nat
  com : ByteArray
  salt : ByteArray
  drawn : Nat
  taken : Bool
def Of.cs (o : Of) : Array Value := #[.string o.ch, .int .u64 (o.ser : Nat), .int .u64 (o.face : Nat), .int .u64 (o.wins : Nat), .int .u64 (o.many : Nat), .string o.com, .string o.salt, .int .u64 (o.drawn : Nat), .bool o.taken]
def Of.tk (o : Of) (cl : Nat) : Tk := ⟨o.ch, o.ser, o.face, o.wins, o.many, o.com, cl, ByteArray.empty⟩
structure Of.ok (o : Of) : Prop where
  ser : o.ser < 18446744073709551616
  face : o.face < 18446744073709551616
  many : 1 ≤ o.many ∧ o.many ≤ 4294967296
  wins : o.wins ≤ o.many
  nom : o.face * o.wins % o.many = 0
/-- a look-up, as an equation -/
theorem MpU.look {w : World} {b : Nat} {D : DU} (h : MpU w b D) (n : Nat) (hn : n < 18446744073709551616) : ∃ c, (Instr.lookup 248 (.map (some b)) (.int .u64 (n : Int)) true).run Tryz.prog w = .ok (.tuple #[.int .u64 c, .bool (Maps.has D (ku n))]) w := by
  obtain ⟨v, ps, hrun, hv⟩ := World.ownsMap.look_ok h lawU Tryz.underlying248 (zeroU w) (elU_mk 0 (by omega)) (ku_key n hn)
  obtain ⟨c, rfl, _, _⟩ := plainElem_int_inv Tryz.underlying55 hv
  exact ⟨c, hrun⟩
variable {w : World} {cb kb ctr pb mb h n i out am tk : Nat} {seed tx : ByteArray} {l : Lk} {D : DU}
set_option maxRecDepth 100000 in
set_option maxHeartbeats 600000 in
theorem stake_had (o : Of) (cl : Nat) (k : CIn w cb kb ctr pb mb seed h n i tx out l am tk D) (hk : o.ok) (hch : o.ch = nameB tx out) (ho : out < 256) (hxx : tx.size ≤ 1000000) (had : Maps.has D (ku o.ser) = true) :
    Calls Tryz.prog 159 #[.pointer (some ⟨cb, 0, none⟩), .agg o.cs, .int .u64 cl] w fun e w' => e = .returned (.tuple #[.agg (opP 0 ByteArray.empty 0 ByteArray.empty), .int .i64 7]) ∧ Below w.heap.size w w' := by
  have hser := hk.ser
  have HNOM := fun W => Lib.hid (nominal_any o.face o.wins o.many W hk.face hk.many.1 hk.many.2 hk.wins hk.nom)
  clear hk
  obtain ⟨ch, ser, face, wins, many, com, salt, drawn, tkn⟩ := o
  simp only [Of.cs] at hser hch had HNOM ⊢
  have hlt := k.1.lt
  have hne0 : ¬ cb = w.heap.size := by omega
  have hne1 : ¬ cb = w.heap.size + 1 := by omega
  have HKA := Lib.hid k
  have HN := fun W hc => Lib.hid (sname_blk (w := W) (cb := cb) (am := am) (tk := tk) (l := l) kb pb mb hc ho hxx)
  subst hch
  generalize nameB tx out = nm at *
  clear k
  go_enter Tryz.func159, Tryz.ntmps159
  go_wp2_with fail
  refine (HNOM _).out.mono ?_
  rintro e WA ⟨rfl, hWA⟩
  have HOF : Hid (Blk WA w.heap.size 262 #[.string nm, .int .u64 ser, .int .u64 face, .int .u64 wins, .int .u64 many, .string com, .string salt, .int .u64 drawn, .bool tkn]) := by rw [hWA]; exact (Blk.new _ _ _).alloc _
  have HB0 : Hid (Below w.heap.size w WA) := by rw [hWA]; exact ((Below.refl _ _).alloc (Nat.le_refl _) _).alloc (by simp) _
  have HO0 : Hid (Blk WA (w.heap.size + 1) 147 (opP 0 ByteArray.empty 0 ByteArray.empty)) := by rw [hWA]; exact Blk.newAt (by simp)
  have o0 := HOF.out.cell 0
  have o1 := HOF.out.cell 1
  have o2 := HOF.out.cell 2
  have o5 := HOF.out.cell 5
  simp at o0 o1 o2 o5
  have HK0 := Lib.hid (HKA.out.bel HB0.out)
  have c22 : WA.cell? ⟨cb, 22, none⟩ = some (.bool true) := HK0.out.1.cell 22
  have c25 : WA.cell? ⟨cb, 25, none⟩ = some (.map (some mb)) := HK0.out.1.cell 25
  clear hWA
  obtain ⟨cq, hlook⟩ := MpU.look (w := WA.drew) (HK0.out.2.2.2.ch (Ch.drewN [] WA 1) (by simp)) ser hser
  rw [had] at hlook
  go_wp2_with fail
  refine wp_region_still_tail 12 (by kernel_rfl) (by kernel_rfl) ?_
  change wpStill _ _ (World.drew _) (fun a' => wpList _ _ _ _ a' (World.drew _)) _ _
  simp only [List.take_succ_cons, List.take_zero, List.drop_succ_cons, List.drop_zero]
  repeat still_step
  refine wpStill_nil ?_
  clear hlook
  go_wp2_with fail
  have hnn : (nm.toList != nm.toList) = false := by simp
  go_region_held3 (fun w' => w'.cell? ⟨w.heap.size, 0, none⟩ = some (.string nm))
    (first
      | go_keep
      | assumption)
    ((first
      | (go_at_call 154; refine (HN _ (by exact (HK0.out.1.drewN 1).drewN 1)).out.mono ?_; rintro e W5 ⟨rfl, hb5⟩; have HB5 : Hid (Below w.heap.size w W5) := (HB0.out.drew.drew).trans (hb5.mono HB0.out.size); have HK5 := Lib.hid (HKA.out.bel HB5.out); have HO5 : Hid (Blk W5 (w.heap.size + 1) 147 (opP 0 ByteArray.empty 0 ByteArray.empty)) := ((HO0.out.drewN 1).drewN 1).bel hb5; have HOF5 : Hid (Blk W5 w.heap.size 262 #[.string nm, .int .u64 ser, .int .u64 face, .int .u64 wins, .int .u64 many, .string com, .string salt, .int .u64 drawn, .bool tkn]) := ((HOF.out.drewN 1).drewN 1).bel hb5; clear hb5; have p0 := HOF5.out.cell 0; simp at p0)))
  go_wp2_with (first | (refine wpList_store_part rfl 147 (.tmp 6) (.tmp 54) rfl (w.heap.size + 1) 0 HO5.out (opP 0 ByteArray.empty 0 ByteArray.empty) (opP 0 ByteArray.empty 0 ByteArray.empty) (by rfl) (by rfl) (opP_fits _ _ _ _ _ _ _ _) infoOp (opP_one _ _ _ _) (opP_over _ _ _ _ _ _ _ _) ?_; intro W9 hb9 hc9; have HO9 := Lib.hid hb9; have HC9 := Lib.hid hc9; clear hb9 hc9))
  exact bodyPost_ret (results_cell_row2 rfl _ HO9.out rfl Tryz.underlying147 infoOp) rfl ⟨rfl, HB5.out.trans (HC9.out.below HB5.out.size (by simp))⟩
end Go.Proofs.YtmbceheafjadhaaGreat
namespace Go.Proofs.YtmbceheafjadhaaGreat
open Go.RowKit Go.Maps
theorem room_yes {am tk u lam : Nat} {D : DU} {A b : Nat} (hA : allD D = (A : Nat)) (hb : am + tk * u + A = b) (hl : b ≤ lam) (h6 : lam < 18446744073709551616) : roomE am tk u lam D = 0 := by
  unfold roomE bdOk bdT
  rw [if_pos]
  have e : ((tk : Int) * u) = ((tk * u : Nat) : Int) := by simp
  refine ⟨⟨?_, ?_⟩, ?_⟩
  · omega
  · rw [hA, e]; omega
  · rw [hA, e]; omega
theorem room_no {am tk u lam : Nat} {D : DU} {A b : Nat} (hA : allD D = (A : Nat)) (hb : am + tk * u + A = b) (hl : lam < b) : roomE am tk u lam D = 9 := by
  unfold roomE bdOk bdT
  rw [if_neg]
  have e : ((tk : Int) * u) = ((tk * u : Nat) : Int) := by simp
  rintro ⟨_, h⟩
  rw [hA, e] at h; omega
theorem bound_yes {am tk u lam : Nat} {D : DU} {A b : Nat} (hA : allD D = (A : Nat)) (hb : am + tk * u + A = b) (hl : b ≤ lam) (h6 : lam < 18446744073709551616) : boundV am tk u D = (b : Int) := by
  have e : ((tk : Int) * u) = ((tk * u : Nat) : Int) := by simp
  have hok : bdOk am tk u D := ⟨by omega, by unfold bdT; rw [hA, e]; omega⟩
  unfold boundV
  rw [if_pos hok]
  unfold bdT
  rw [hA, e]
  omega
end Go.Proofs.YtmbceheafjadhaaGreat
namespace Go.Proofs.YtmbceheafjadhaaGreat
open Go.RowKit Go.Maps
theorem infoOffer : (Tryz.prog.info? 262).map (·.size) = some 9 := by kernel_rfl
variable {w : World} {cb kb ctr pb mb h n i out am tk : Nat} {seed tx : ByteArray} {l : Lk} {D : DU}
set_option maxRecDepth 100000 in
set_option maxHeartbeats 1000000 in
theorem stake_full (o : Of) (cl : Nat) (k : CIn w cb kb ctr pb mb seed h n i tx out l am tk D) (hk : o.ok) (hch : o.ch = nameB tx out) (ho : out < 256) (hxx : tx.size ≤ 1000000) (had : Maps.has D (ku o.ser) = false)
    (hl : l.ok) (h1 : am < 18446744073709551616) (h2 : tk ≤ 1000000) (hz : Maps.size D ≤ 900) (hroom : ∀ D' : DU, allD D' = allD D + o.face → roomE am tk l.unit l.am D' = 9) :
    Calls Tryz.prog 159 #[.pointer (some ⟨cb, 0, none⟩), .agg o.cs, .int .u64 cl] w fun e w' => e = .returned (.tuple #[.agg (opP 0 ByteArray.empty 0 ByteArray.empty), .int .i64 9]) ∧ Below w.heap.size w w' := by
  have HZ := Lib.hid hz
  have HL := Lib.hid hl
  have HAM := Lib.hid h1
  have HTK := Lib.hid h2
  have hface := hk.face
  have HROOM := Lib.hid hroom
  have HAD := Lib.hid had
  clear hl h1 h2 hroom hz
  have hser := hk.ser
  have HNOM := fun W => Lib.hid (nominal_any o.face o.wins o.many W hk.face hk.many.1 hk.many.2 hk.wins hk.nom)
  clear hk
  obtain ⟨ch, ser, face, wins, many, com, salt, drawn, tkn⟩ := o
  simp only [Of.cs] at hser hch had HNOM ⊢
  have hlt := k.1.lt
  have hne0 : ¬ cb = w.heap.size := by omega
  have hne1 : ¬ cb = w.heap.size + 1 := by omega
  have HKA := Lib.hid k
  have HN := fun W hc => Lib.hid (sname_blk (w := W) (cb := cb) (am := am) (tk := tk) (l := l) kb pb mb hc ho hxx)
  subst hch
  generalize nameB tx out = nm at *
  clear k
  go_enter Tryz.func159, Tryz.ntmps159
  go_wp2_with fail
  refine (HNOM _).out.mono ?_
  rintro e WA ⟨rfl, hWA⟩
  have HOF : Hid (Blk WA w.heap.size 262 #[.string nm, .int .u64 ser, .int .u64 face, .int .u64 wins, .int .u64 many, .string com, .string salt, .int .u64 drawn, .bool tkn]) := by rw [hWA]; exact (Blk.new _ _ _).alloc _
  have HB0 : Hid (Below w.heap.size w WA) := by rw [hWA]; exact ((Below.refl _ _).alloc (Nat.le_refl _) _).alloc (by simp) _
  have HO0 : Hid (Blk WA (w.heap.size + 1) 147 (opP 0 ByteArray.empty 0 ByteArray.empty)) := by rw [hWA]; exact Blk.newAt (by simp)
  have o0 := HOF.out.cell 0
  have o1 := HOF.out.cell 1
  have o2 := HOF.out.cell 2
  have o5 := HOF.out.cell 5
  simp at o0 o1 o2 o5
  have HK0 := Lib.hid (HKA.out.bel HB0.out)
  have c22 : WA.cell? ⟨cb, 22, none⟩ = some (.bool true) := HK0.out.1.cell 22
  have c25 : WA.cell? ⟨cb, 25, none⟩ = some (.map (some mb)) := HK0.out.1.cell 25
  clear hWA
  obtain ⟨cq, hlook⟩ := MpU.look (w := WA.drew) (HK0.out.2.2.2.ch (Ch.drewN [] WA 1) (by simp)) ser hser
  rw [had] at hlook
  go_wp2_with fail
  refine wp_region_still_tail 12 (by kernel_rfl) (by kernel_rfl) ?_
  change wpStill _ _ (World.drew _) (fun a' => wpList _ _ _ _ a' (World.drew _)) _ _
  simp only [List.take_succ_cons, List.take_zero, List.drop_succ_cons, List.drop_zero]
  repeat still_step
  refine wpStill_nil ?_
  clear hlook
  go_wp2_with fail
  have hnn : (nm.toList != nm.toList) = false := by simp
  go_region_held3 (fun w' => w'.cell? ⟨w.heap.size, 0, none⟩ = some (.string nm))
    (first
      | go_keep
      | assumption)
    ((first
      | (go_at_call 154; refine (HN _ (by exact (HK0.out.1.drewN 1).drewN 1)).out.mono ?_; rintro e W5 ⟨rfl, hb5⟩; have HB5 : Hid (Below w.heap.size w W5) := (HB0.out.drew.drew).trans (hb5.mono HB0.out.size); have HK5 := Lib.hid (HKA.out.bel HB5.out); have HO5 : Hid (Blk W5 (w.heap.size + 1) 147 (opP 0 ByteArray.empty 0 ByteArray.empty)) := ((HO0.out.drewN 1).drewN 1).bel hb5; have HOF5 : Hid (Blk W5 w.heap.size 262 #[.string nm, .int .u64 ser, .int .u64 face, .int .u64 wins, .int .u64 many, .string com, .string salt, .int .u64 drawn, .bool tkn]) := ((HOF.out.drewN 1).drewN 1).bel hb5; clear hb5; have p0 := HOF5.out.cell 0; simp at p0)))
  go_wp2_with fail
  refine wp_region_held_drew (S := fun W => Hid (Blk W w.heap.size 262 #[.string nm, .int .u64 ser, .int .u64 face, .int .u64 wins, .int .u64 many, .string com, .string salt, .int .u64 drawn, .bool tkn] ∧ Blk W cb 252 (clC kb pb mb tx out l am tk))) (by kernel_rfl) (Lib.hid ⟨HOF5.out.drewN 1, HK5.out.1.drewN 1⟩) (fun hS => ?_)
  refine wpAnyH_take (i := 0) (v := ?_) rfl (by kernel_rfl) (by kernel_rfl) (by kernel_rfl) (fun _ _ _ h => h) (Or.inl ⟨by rfl, ?_⟩) hS ?_
  rotate_left
  · (intro w _; go_simp; try with_reducible rfl)
  refine wpAnyH_take (i := 1) (v := ?_) rfl (by kernel_rfl) (by kernel_rfl) (by kernel_rfl) (fun _ _ _ h => h) (Or.inl ⟨by rfl, ?_⟩) hS ?_
  rotate_left
  · (intro w _; go_simp; try with_reducible rfl)
  refine wpAnyH_take (i := 2) (v := ?_) rfl (by kernel_rfl) (by kernel_rfl) (by kernel_rfl) (fun _ _ _ h => h) (Or.inl ⟨by rfl, ?_⟩) hS ?_
  rotate_left
  · (intro w _; go_simp; try with_reducible rfl)
  refine wpAnyH_take (i := 3) (v := ?_) rfl (by kernel_rfl) (by kernel_rfl) (by kernel_rfl) (fun _ _ _ h => h) (Or.inl ⟨by rfl, ?_⟩) hS ?_
  rotate_left
  · (intro w _; go_simp; try with_reducible rfl)
  refine wpAnyH_take (i := 4) (v := .agg #[.int .u64 (am : Nat), .int .i64 (tk : Nat), .map (some mb)]) rfl (by kernel_rfl) (by kernel_rfl) (by kernel_rfl) (fun _ _ _ h => h) (yields_blk (by rfl) 250 (.tmp 59) (by rfl) cb 23 3 (t := 252) (cs := clC kb pb mb tx out l am tk) (fun W h => h.out.2) #[.int .u64 (am : Nat), .int .i64 (tk : Nat), .map (some mb)] (by rfl) (by rfl) Tryz.underlying250 infoRel (Nat.le_refl 26)) hS ?_
  refine wpAnyH_take (i := 5) (v := ?_) rfl (by kernel_rfl) (by kernel_rfl) (by kernel_rfl) (fun _ _ _ h => h) (Or.inl ⟨by rfl, ?_⟩) hS ?_
  rotate_left
  · (intro w _; go_simp; try with_reducible rfl)
  refine wpAnyH_take (i := 6) (v := ?_) rfl (by kernel_rfl) (by kernel_rfl) (by kernel_rfl) (fun _ _ _ h => h) (Or.inl ⟨by rfl, ?_⟩) hS ?_
  rotate_left
  · (intro w hS'; have hcell := (show World.cell? _ ⟨_, 1, none⟩ = some (.int .u64 ser) from Blk.cell hS'.out.1 1); go_simp; try with_reducible rfl)
  refine wpAnyH_take (i := 7) (v := ?_) rfl (by kernel_rfl) (by kernel_rfl) (by kernel_rfl) (fun _ _ _ h => h) (Or.inl ⟨by rfl, ?_⟩) hS ?_
  rotate_left
  · (intro w _; go_simp; try with_reducible rfl)
  refine wpAnyH_take (i := 8) (v := ?_) rfl (by kernel_rfl) (by kernel_rfl) (by kernel_rfl) (fun _ _ _ h => h) (Or.inl ⟨by rfl, ?_⟩) hS ?_
  rotate_left
  · (intro w hS'; have hcell := (show World.cell? _ ⟨_, 2, none⟩ = some (.int .u64 face) from Blk.cell hS'.out.1 2); go_simp; try with_reducible rfl)
  refine wpAnyH_ready (rs := [9]) (by kernel_rfl) (by simp) (AllReadyH.cons rfl (fun K hK => ?_) AllReadyH.nil)
  go_simp
  refine (swith_any am tk mb ser face (w := World.drew W5) (HK5.out.2.2.2.ch (Ch.drewN [] W5 1) (by simp)) (by have := HZ.out; omega) hser hface HAD.out).mono ?_
  rintro e w6 ⟨mb', D', rfl, _, hm6, hA6, hz6, hb6⟩
  have hb6' : Below W5.heap.size W5 w6 := ((Below.refl _ _).drew).trans hb6
  have HK6 := Lib.hid (HK5.out.bel hb6')
  have HO6 := Lib.hid (HO5.out.bel hb6')
  have HOF6 := Lib.hid (HOF5.out.bel hb6')
  have HB6 : Hid (Below w.heap.size w w6) := HB5.out.trans (hb6'.mono HB5.out.size)
  have HRM := Lib.hid (sroom_any am tk mb' D' HK6.out.at_ HL.out HAM.out HTK.out hm6 (by have := HZ.out; omega))
  rw [HROOM.out D' hA6] at HRM
  clear hb6 hb6' hm6 hA6 hz6
  go_simp
  refine hK.out _ _ (Lib.hid ⟨HOF6.out, HK6.out.1⟩) (fun hS6 => ?_)
  clear hK K hS
  refine wpAnyH_ready (rs := [10]) (by kernel_rfl) (by simp) (AllReadyH.cons rfl (fun K hK => ?_) AllReadyH.nil)
  go_simp
  refine HRM.out.mono ?_
  rintro e w7 ⟨rfl, hb7⟩
  have HK7 := Lib.hid (HK6.out.bel hb7)
  have HO7 := Lib.hid (HO6.out.bel hb7)
  have HOF7 := Lib.hid (HOF6.out.bel hb7)
  have HB7 : Hid (Below w.heap.size w w7) := HB6.out.trans (hb7.mono HB6.out.size)
  have p5 : w7.cell? ⟨w.heap.size, 5, none⟩ = some (.string com) := HOF7.out.cell 5
  clear hb7 HRM
  go_simp
  refine hK.out _ _ (Lib.hid ⟨HOF7.out, HK7.out.1⟩) (fun hS7 => ?_)
  clear hK K hS6
  refine wpAnyH_take (i := 11) (v := ?_) rfl (by kernel_rfl) (by kernel_rfl) (by kernel_rfl) (fun _ _ _ h => h) (Or.inl ⟨by rfl, ?_⟩) hS7 ?_
  rotate_left
  · (intro w _; go_simp; try with_reducible rfl)
  refine wpAnyH_ready (rs := [12]) (by kernel_rfl) (by simp) (AllReadyH.cons rfl (fun K hK => ?_) AllReadyH.nil)
  go_simp
  refine hK.out _ _ hS7 (fun _ => ?_)
  clear hK K hS7
  refine wpAnyH_done (by kernel_rfl) ?_ _
  go_wp2_with (first | (refine wpList_store_part rfl 147 (.tmp 6) (.tmp 68) rfl (w.heap.size + 1) 0 HO7.out (opP 0 ByteArray.empty 0 ByteArray.empty) (opP 0 ByteArray.empty 0 ByteArray.empty) (by rfl) (by rfl) (opP_fits _ _ _ _ _ _ _ _) infoOp (opP_one _ _ _ _) (opP_over _ _ _ _ _ _ _ _) ?_; intro W9 hb9 hc9; have HO9 := Lib.hid hb9; have HC9 := Lib.hid hc9; clear hb9 hc9))
  exact bodyPost_ret (results_cell_row2 rfl _ HO9.out rfl Tryz.underlying147 infoOp) rfl ⟨rfl, HB7.out.trans (HC9.out.below HB7.out.size (by simp))⟩
theorem Of.tkok {o : Of} (hk : o.ok) (hch : o.ch.size = 16) (hcom : o.com.size = 16) {cl : Nat} (hcl : cl < 18446744073709551616) : (o.tk cl).ok := by
  obtain ⟨h1, h2, h3, h4, h5⟩ := hk
  exact ⟨by show o.ch.size ≤ 4096; omega, h1, h2, by show o.wins < _; omega, by show o.many < _; omega, by show o.com.size ≤ 4096; omega, hcl⟩
set_option maxRecDepth 100000 in
set_option maxHeartbeats 2000000 in
theorem stake_ok (o : Of) (cl : Nat) (k : CIn w cb kb ctr pb mb seed h n i tx out l am tk D) (hk : o.ok) (hch : o.ch = nameB tx out) (hcom : o.com.size = 16) (hcl : cl < 18446744073709551616) (ho : out < 256) (hxx : tx.size ≤ 1000000) (had : Maps.has D (ku o.ser) = false)
    (hl : l.ok) (h1 : am < 18446744073709551616) (h2 : tk ≤ 1000000) (hz : Maps.size D ≤ 900) (hroom : ∀ D' : DU, allD D' = allD D + o.face → roomE am tk l.unit l.am D' = 0) (hh : h ≤ 4) (hi : i < 2 ^ h) (hs : seed.size ≤ 1000000) :
    Calls Tryz.prog 159 #[.pointer (some ⟨cb, 0, none⟩), .agg o.cs, .int .u64 cl] w fun e w' => e = .returned (.tuple #[.agg (opT (nameB tx out) ((o.tk cl).signed (signB seed h i (textB (o.tk cl))))), .int .i64 0]) ∧ CIn w' cb kb ctr pb mb seed h n (i + 1) tx out l am tk (D.put (ku o.ser) (.lit (ku o.face))) ∧ Ch [ctr, mb] w w' := by
  have hnz := nameB_size tx out
  have hok := Of.tkok hk (by rw [hch]; exact hnz) hcom hcl
  have htz : (textB (o.tk cl)).size ≤ 900000 := by rw [textB_size]; show 45 + o.ch.size + o.com.size ≤ _; rw [hch]; omega
  have HTX := fun W => Lib.hid (text_any (o.tk cl) W hok)
  have HSG := fun W k => Lib.hid (ssigned_take (w := W) (cb := cb) (kb := kb) (ctr := ctr) (pb := pb) (mb := mb) (n := n) (am := am) (tk := tk) (l := l) (D := D) (textB (o.tk cl)) (o.tk cl) k (Nat.le_trans hz (by omega)) hok hh hi hs htz ho hxx)
  have HZ := Lib.hid hz
  have HL := Lib.hid hl
  have HAM := Lib.hid h1
  have HTK := Lib.hid h2
  have hface := hk.face
  have HROOM := Lib.hid hroom
  have HAD := Lib.hid had
  have dcom : ((o.com.size : Int) != 16) = false := by simp; omega
  obtain ⟨_, _, hctr, _⟩ := id k.2.1
  have hcl1 : ctr < w.heap.size := hctr.lt
  have hml1 : mb < w.heap.size := k.2.2.2.lt
  clear hctr hl h1 h2 hroom hz hok htz hi hh hs hnz hcom
  generalize signB seed h i (textB (o.tk cl)) = sig at *
  generalize textB (o.tk cl) = txt at *
  unfold Of.tk at *
  have hser := hk.ser
  have HNOM := fun W => Lib.hid (nominal_any o.face o.wins o.many W hk.face hk.many.1 hk.many.2 hk.wins hk.nom)
  clear hk
  obtain ⟨ch, ser, face, wins, many, com, salt, drawn, tkn⟩ := o
  simp only [Of.cs] at hser hch had HNOM ⊢
  have hlt := k.1.lt
  have hne0 : ¬ cb = w.heap.size := by omega
  have hne1 : ¬ cb = w.heap.size + 1 := by omega
  have HKA := Lib.hid k
  have HN := fun W hc => Lib.hid (sname_blk (w := W) (cb := cb) (am := am) (tk := tk) (l := l) kb pb mb hc ho hxx)
  subst hch
  generalize nameB tx out = nm at *
  clear k
  go_enter Tryz.func159, Tryz.ntmps159
  go_wp2_with fail
  refine (HNOM _).out.mono ?_
  rintro e WA ⟨rfl, hWA⟩
  have HOF : Hid (Blk WA w.heap.size 262 #[.string nm, .int .u64 ser, .int .u64 face, .int .u64 wins, .int .u64 many, .string com, .string salt, .int .u64 drawn, .bool tkn]) := by rw [hWA]; exact (Blk.new _ _ _).alloc _
  have HB0 : Hid (Below w.heap.size w WA) := by rw [hWA]; exact ((Below.refl _ _).alloc (Nat.le_refl _) _).alloc (by simp) _
  have HO0 : Hid (Blk WA (w.heap.size + 1) 147 (opP 0 ByteArray.empty 0 ByteArray.empty)) := by rw [hWA]; exact Blk.newAt (by simp)
  have o0 := HOF.out.cell 0
  have o1 := HOF.out.cell 1
  have o2 := HOF.out.cell 2
  have o5 := HOF.out.cell 5
  simp at o0 o1 o2 o5
  have HK0 := Lib.hid (HKA.out.bel HB0.out)
  have c22 : WA.cell? ⟨cb, 22, none⟩ = some (.bool true) := HK0.out.1.cell 22
  have c25 : WA.cell? ⟨cb, 25, none⟩ = some (.map (some mb)) := HK0.out.1.cell 25
  clear hWA
  obtain ⟨cq, hlook⟩ := MpU.look (w := WA.drew) (HK0.out.2.2.2.ch (Ch.drewN [] WA 1) (by simp)) ser hser
  rw [had] at hlook
  go_wp2_with fail
  refine wp_region_still_tail 12 (by kernel_rfl) (by kernel_rfl) ?_
  change wpStill _ _ (World.drew _) (fun a' => wpList _ _ _ _ a' (World.drew _)) _ _
  simp only [List.take_succ_cons, List.take_zero, List.drop_succ_cons, List.drop_zero]
  repeat still_step
  refine wpStill_nil ?_
  clear hlook
  go_wp2_with fail
  have hnn : (nm.toList != nm.toList) = false := by simp
  go_region_held3 (fun w' => w'.cell? ⟨w.heap.size, 0, none⟩ = some (.string nm))
    (first
      | go_keep
      | assumption)
    ((first
      | (go_at_call 154; refine (HN _ (by exact (HK0.out.1.drewN 1).drewN 1)).out.mono ?_; rintro e W5 ⟨rfl, hb5⟩; have HB5 : Hid (Below w.heap.size w W5) := (HB0.out.drew.drew).trans (hb5.mono HB0.out.size); have HK5 := Lib.hid (HKA.out.bel HB5.out); have HO5 : Hid (Blk W5 (w.heap.size + 1) 147 (opP 0 ByteArray.empty 0 ByteArray.empty)) := ((HO0.out.drewN 1).drewN 1).bel hb5; have HOF5 : Hid (Blk W5 w.heap.size 262 #[.string nm, .int .u64 ser, .int .u64 face, .int .u64 wins, .int .u64 many, .string com, .string salt, .int .u64 drawn, .bool tkn]) := ((HOF.out.drewN 1).drewN 1).bel hb5; clear hb5; have p0 := HOF5.out.cell 0; simp at p0)))
  go_wp2_with fail
  refine wp_region_held_drew (S := fun W => Hid (Blk W w.heap.size 262 #[.string nm, .int .u64 ser, .int .u64 face, .int .u64 wins, .int .u64 many, .string com, .string salt, .int .u64 drawn, .bool tkn] ∧ Blk W cb 252 (clC kb pb mb tx out l am tk))) (by kernel_rfl) (Lib.hid ⟨HOF5.out.drewN 1, HK5.out.1.drewN 1⟩) (fun hS => ?_)
  refine wpAnyH_take (i := 0) (v := ?_) rfl (by kernel_rfl) (by kernel_rfl) (by kernel_rfl) (fun _ _ _ h => h) (Or.inl ⟨by rfl, ?_⟩) hS ?_
  rotate_left
  · (intro w _; go_simp; try with_reducible rfl)
  refine wpAnyH_take (i := 1) (v := ?_) rfl (by kernel_rfl) (by kernel_rfl) (by kernel_rfl) (fun _ _ _ h => h) (Or.inl ⟨by rfl, ?_⟩) hS ?_
  rotate_left
  · (intro w _; go_simp; try with_reducible rfl)
  refine wpAnyH_take (i := 2) (v := ?_) rfl (by kernel_rfl) (by kernel_rfl) (by kernel_rfl) (fun _ _ _ h => h) (Or.inl ⟨by rfl, ?_⟩) hS ?_
  rotate_left
  · (intro w _; go_simp; try with_reducible rfl)
  refine wpAnyH_take (i := 3) (v := ?_) rfl (by kernel_rfl) (by kernel_rfl) (by kernel_rfl) (fun _ _ _ h => h) (Or.inl ⟨by rfl, ?_⟩) hS ?_
  rotate_left
  · (intro w _; go_simp; try with_reducible rfl)
  refine wpAnyH_take (i := 4) (v := .agg #[.int .u64 (am : Nat), .int .i64 (tk : Nat), .map (some mb)]) rfl (by kernel_rfl) (by kernel_rfl) (by kernel_rfl) (fun _ _ _ h => h) (yields_blk (by rfl) 250 (.tmp 59) (by rfl) cb 23 3 (t := 252) (cs := clC kb pb mb tx out l am tk) (fun W h => h.out.2) #[.int .u64 (am : Nat), .int .i64 (tk : Nat), .map (some mb)] (by rfl) (by rfl) Tryz.underlying250 infoRel (Nat.le_refl 26)) hS ?_
  refine wpAnyH_take (i := 5) (v := ?_) rfl (by kernel_rfl) (by kernel_rfl) (by kernel_rfl) (fun _ _ _ h => h) (Or.inl ⟨by rfl, ?_⟩) hS ?_
  rotate_left
  · (intro w _; go_simp; try with_reducible rfl)
  refine wpAnyH_take (i := 6) (v := ?_) rfl (by kernel_rfl) (by kernel_rfl) (by kernel_rfl) (fun _ _ _ h => h) (Or.inl ⟨by rfl, ?_⟩) hS ?_
  rotate_left
  · (intro w hS'; have hcell := (show World.cell? _ ⟨_, 1, none⟩ = some (.int .u64 ser) from Blk.cell hS'.out.1 1); go_simp; try with_reducible rfl)
  refine wpAnyH_take (i := 7) (v := ?_) rfl (by kernel_rfl) (by kernel_rfl) (by kernel_rfl) (fun _ _ _ h => h) (Or.inl ⟨by rfl, ?_⟩) hS ?_
  rotate_left
  · (intro w _; go_simp; try with_reducible rfl)
  refine wpAnyH_take (i := 8) (v := ?_) rfl (by kernel_rfl) (by kernel_rfl) (by kernel_rfl) (fun _ _ _ h => h) (Or.inl ⟨by rfl, ?_⟩) hS ?_
  rotate_left
  · (intro w hS'; have hcell := (show World.cell? _ ⟨_, 2, none⟩ = some (.int .u64 face) from Blk.cell hS'.out.1 2); go_simp; try with_reducible rfl)
  refine wpAnyH_ready (rs := [9]) (by kernel_rfl) (by simp) (AllReadyH.cons rfl (fun K hK => ?_) AllReadyH.nil)
  go_simp
  refine (swith_any am tk mb ser face (w := World.drew W5) (HK5.out.2.2.2.ch (Ch.drewN [] W5 1) (by simp)) (by have := HZ.out; omega) hser hface HAD.out).mono ?_
  rintro e w6 ⟨mb', D', rfl, _, hm6, hA6, hz6, hb6⟩
  have hb6' : Below W5.heap.size W5 w6 := ((Below.refl _ _).drew).trans hb6
  have HK6 := Lib.hid (HK5.out.bel hb6')
  have HO6 := Lib.hid (HO5.out.bel hb6')
  have HOF6 := Lib.hid (HOF5.out.bel hb6')
  have HB6 : Hid (Below w.heap.size w w6) := HB5.out.trans (hb6'.mono HB5.out.size)
  have HRM := Lib.hid (sroom_any am tk mb' D' HK6.out.at_ HL.out HAM.out HTK.out hm6 (by have := HZ.out; omega))
  rw [HROOM.out D' hA6] at HRM
  clear hb6 hb6' hm6 hA6 hz6
  go_simp
  refine hK.out _ _ (Lib.hid ⟨HOF6.out, HK6.out.1⟩) (fun hS6 => ?_)
  clear hK K hS
  refine wpAnyH_ready (rs := [10]) (by kernel_rfl) (by simp) (AllReadyH.cons rfl (fun K hK => ?_) AllReadyH.nil)
  go_simp
  refine HRM.out.mono ?_
  rintro e w7 ⟨rfl, hb7⟩
  have HK7 := Lib.hid (HK6.out.bel hb7)
  have HO7 := Lib.hid (HO6.out.bel hb7)
  have HOF7 := Lib.hid (HOF6.out.bel hb7)
  have HB7 : Hid (Below w.heap.size w w7) := HB6.out.trans (hb7.mono HB6.out.size)
  have p5 : w7.cell? ⟨w.heap.size, 5, none⟩ = some (.string com) := HOF7.out.cell 5
  clear hb7 HRM
  go_simp
  refine hK.out _ _ (Lib.hid ⟨HOF7.out, HK7.out.1⟩) (fun hS7 => ?_)
  clear hK K hS6
  refine wpAnyH_take (i := 11) (v := ?_) rfl (by kernel_rfl) (by kernel_rfl) (by kernel_rfl) (fun _ _ _ h => h) (Or.inl ⟨by rfl, ?_⟩) hS7 ?_
  rotate_left
  · (intro w _; go_simp; try with_reducible rfl)
  refine wpAnyH_ready (rs := [12]) (by kernel_rfl) (by simp) (AllReadyH.cons rfl (fun K hK => ?_) AllReadyH.nil)
  go_simp
  refine hK.out _ _ hS7 (fun _ => ?_)
  clear hK K hS7
  refine wpAnyH_done (by kernel_rfl) ?_ _
  go_wp2_with (first
    | (refine wpList_load_blk rfl 262 (.tmp 4) rfl w.heap.size 0 9 HOF7.out #[.string nm, .int .u64 ser, .int .u64 face, .int .u64 wins, .int .u64 many, .string com, .string salt, .int .u64 drawn, .bool tkn] (by rfl) (by rfl) Tryz.underlying262 infoOffer (Nat.le_refl 9) ?_))
  refine (lticket_any nm ser face wins many com salt drawn tkn cl w7).mono ?_
  rintro e w8 ⟨rfl, hb8⟩
  have HK8 := Lib.hid (HK7.out.bel hb8)
  have HO8 := Lib.hid (HO7.out.bel hb8)
  have HB8 : Hid (Below w.heap.size w w8) := HB7.out.trans (hb8.mono HB7.out.size)
  clear hb8
  go_wp2_with (first
    | (refine wpList_store_part rfl 131 (.tmp 12) (.tmp 77) rfl w8.heap.size 0 (cs := zTick.cs) (Blk.new _ _ _) (Tk.cs ⟨nm, ser, face, wins, many, com, cl, ByteArray.empty⟩) (Tk.cs ⟨nm, ser, face, wins, many, com, cl, ByteArray.empty⟩) (by rfl) (by rfl) (Nat.le_refl 8) infoTk (tkcs_one _) (tkcs_over _ _) ?_; intro W9 hb9 hc9; have HX9 := Lib.hid hb9; have HC9 := Lib.hid hc9; clear hb9 hc9))
  have hb89 : Below w8.heap.size w8 W9 := ((Below.refl _ _).alloc (Nat.le_refl _) _).trans (HC9.out.below (by simp) (by simp))
  have HK9 := Lib.hid (HK8.out.bel hb89)
  have HO9 := Lib.hid (HO8.out.bel hb89)
  have HB9 : Hid (Below w.heap.size w W9) := HB8.out.trans (hb89.mono HB8.out.size)
  have hlt8 : w.heap.size + 1 < w8.heap.size := HO8.out.lt
  clear hb89 HC9
  generalize w8.heap.size = tb8 at HX9 hlt8 ⊢
  refine wp_region_held_drew (S := fun W => Hid (Blk W tb8 131 (Tk.cs ⟨nm, ser, face, wins, many, com, cl, ByteArray.empty⟩))) (by kernel_rfl) (Lib.hid (HX9.out.drewN 1)) (fun hS => ?_)
  refine wpAnyH_take (i := 0) (v := ?_) rfl (by kernel_rfl) (by kernel_rfl) (by kernel_rfl) (fun _ _ _ h => h) (Or.inl ⟨by rfl, ?_⟩) hS ?_
  rotate_left
  · (intro w _; go_simp; try with_reducible rfl)
  refine wpAnyH_take (i := 1) (v := .agg #[.string nm, .int .u64 (ser : Nat), .int .u64 (face : Nat), .int .u64 (wins : Nat), .int .u64 (many : Nat), .string com, .int .u64 (cl : Nat), .string ByteArray.empty]) rfl (by kernel_rfl) (by kernel_rfl) (by kernel_rfl) (fun _ _ _ h => h) (yields_blk (by rfl) 131 (.tmp 12) (by rfl) tb8 0 8 (t := 131) (cs := Tk.cs ⟨nm, ser, face, wins, many, com, cl, ByteArray.empty⟩) (fun W h => h.out) #[.string nm, .int .u64 (ser : Nat), .int .u64 (face : Nat), .int .u64 (wins : Nat), .int .u64 (many : Nat), .string com, .int .u64 (cl : Nat), .string ByteArray.empty] (by rfl) (by rfl) Tryz.underlying131 infoTk (Nat.le_refl 8)) hS ?_
  refine wpAnyH_take (i := 3) (v := ?_) rfl (by kernel_rfl) (by kernel_rfl) (by kernel_rfl) (fun _ _ _ h => h) (Or.inl ⟨by rfl, ?_⟩) hS ?_
  rotate_left
  · (intro w _; go_simp; try with_reducible rfl)
  refine wpAnyH_take (i := 4) (v := .agg #[.string nm, .int .u64 (ser : Nat), .int .u64 (face : Nat), .int .u64 (wins : Nat), .int .u64 (many : Nat), .string com, .int .u64 (cl : Nat), .string ByteArray.empty]) rfl (by kernel_rfl) (by kernel_rfl) (by kernel_rfl) (fun _ _ _ h => h) (yields_blk (by rfl) 131 (.tmp 12) (by rfl) tb8 0 8 (t := 131) (cs := Tk.cs ⟨nm, ser, face, wins, many, com, cl, ByteArray.empty⟩) (fun W h => h.out) #[.string nm, .int .u64 (ser : Nat), .int .u64 (face : Nat), .int .u64 (wins : Nat), .int .u64 (many : Nat), .string com, .int .u64 (cl : Nat), .string ByteArray.empty] (by rfl) (by rfl) Tryz.underlying131 infoTk (Nat.le_refl 8)) hS ?_
  refine wpAnyH_take (i := 5) (v := ?_) rfl (by kernel_rfl) (by kernel_rfl) (by kernel_rfl) (fun _ _ _ h => h) (Or.inl ⟨by rfl, ?_⟩) hS ?_
  rotate_left
  · (intro w _; go_simp; try with_reducible rfl)
  refine wpAnyH_take (i := 6) (v := ?_) rfl (by kernel_rfl) (by kernel_rfl) (by kernel_rfl) (fun _ _ _ h => h) (Or.inl ⟨by rfl, ?_⟩) hS ?_
  rotate_left
  · (intro w _; go_simp; try with_reducible rfl)
  refine wpAnyH_ready (rs := [2]) (by kernel_rfl) (by simp) (AllReadyH.cons rfl (fun K hK => ?_) AllReadyH.nil)
  go_simp
  refine (HTX _).out.mono ?_
  rintro e w10 ⟨rfl, hb10⟩
  have hb10' : Below W9.heap.size W9 w10 := ((Below.refl _ _).drew).trans hb10
  have HK10 := Lib.hid (HK9.out.bel hb10')
  have HO10 := Lib.hid (HO9.out.bel hb10')
  have HX10 := Lib.hid (HX9.out.bel hb10')
  have HB10 : Hid (Below w.heap.size w w10) := HB9.out.trans (hb10'.mono HB9.out.size)
  clear hb10 hb10'
  go_simp
  refine hK.out _ _ HX10 (fun hS10 => ?_)
  clear hK K hS
  refine wpAnyH_ready (rs := [7]) (by kernel_rfl) (by simp) (AllReadyH.cons rfl (fun K hK => ?_) AllReadyH.nil)
  go_simp
  refine (HSG _ HK10.out).out.mono ?_
  rintro e w11 ⟨rfl, hk11, hc11⟩
  have HK11 := Lib.hid hk11
  have HO11 : Hid (Blk w11 (w.heap.size + 1) 147 (opP 0 ByteArray.empty 0 ByteArray.empty)) := Blk.ch HO10.out hc11 (by simp; omega)
  have HX11 : Hid (Blk w11 tb8 131 (Tk.cs ⟨nm, ser, face, wins, many, com, cl, ByteArray.empty⟩)) := Blk.ch HX10.out hc11 (by simp; omega)
  have HC11 : Hid (Ch [ctr, mb] w w11) := (Ch.of_below HB10.out _).trans hc11
  clear hk11 hc11
  go_simp
  refine hK.out _ _ HX11 (fun hS11 => ?_)
  clear hK K hS10
  refine wpAnyH_take (i := 8) (v := ?_) rfl (by kernel_rfl) (by kernel_rfl) (by kernel_rfl) (fun _ _ _ h => h) (Or.inl ⟨by rfl, ?_⟩) hS11 ?_
  rotate_left
  · (intro w _; go_simp; try with_reducible rfl)
  refine wpAnyH_take (i := 9) (v := ?_) rfl (by kernel_rfl) (by kernel_rfl) (by kernel_rfl) (fun _ _ _ h => h) (Or.inl ⟨by rfl, ?_⟩) hS11 ?_
  rotate_left
  · (intro w _; go_simp; try with_reducible rfl)
  refine wpAnyH_ready (rs := [10]) (by kernel_rfl) (by simp) (AllReadyH.cons rfl (fun K hK => ?_) AllReadyH.nil)
  refine step_store_part (by rfl) 147 (.tmp 6) (.tmp 86) (by rfl) (w.heap.size + 1) 0 HO11.out (opT nm (Tk.signed ⟨nm, ser, face, wins, many, com, cl, ByteArray.empty⟩ sig)) (opT nm (Tk.signed ⟨nm, ser, face, wins, many, com, cl, ByteArray.empty⟩ sig)) (by rfl) (by rfl) (Nat.le_refl 27) infoOp (opT_one _ _) (opT_over _ _ _ _ _ _) ?_
  intro W12 hb12 hc12
  have HO12 := Lib.hid hb12
  have HC12 := Lib.hid hc12
  clear hb12 hc12
  refine hK.out _ _ (Lib.hid (Blk.ch HX11.out HC12.out (by simp; omega))) (fun hS12 => ?_)
  clear hK K hS11
  refine wpAnyH_ready (rs := [11]) (by kernel_rfl) (by simp) (AllReadyH.cons rfl (fun K hK => ?_) AllReadyH.nil)
  go_simp
  refine hK.out _ _ hS12 (fun _ => ?_)
  clear hK K
  refine wpAnyH_done (by kernel_rfl) ?_ _
  go_wp2_with fail
  exact bodyPost_ret (results_cell_row2 rfl _ HO12.out rfl Tryz.underlying147 infoOp) rfl ⟨rfl, HK11.out.chO HC12.out rfl HO11.out (by decide) (by decide) (by decide) (by decide) (by decide), ((HC11.out.mono (S' := [ctr, mb, w.heap.size + 1]) (by simp <;> omega)).trans (HC12.out.mono (by simp))).mono (by simp <;> omega)⟩
end Go.Proofs.YtmbceheafjadhaaGreat
