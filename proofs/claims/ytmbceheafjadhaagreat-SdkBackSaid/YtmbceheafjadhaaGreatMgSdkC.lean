/- sdk: a client without a channel: Root, Name, Whole; Pay, Back refused come later. sdk.Output of a client without a channel. sdk.Attach, taken. law23: place, offer; what a long straight proof keeps. sdk.Pay: taken. sdk.Take where no leaf is left. sdk: the client behind any calls; a round of Pay, Give. -/
import Derived.Outline
import Derived.StillTailTactics
import Derived.Deep.RegionHeld3
import Derived.Test.YtmbceheafjadhaaGreatMgNote
import Derived.Test.YtmbceheafjadhaaGreatMgSdkA
import Derived.Test.YtmbceheafjadhaaGreatMgSdkB
set_option linter.unusedVariables false
set_option linter.unusedSimpArgs false
namespace Go.Proofs.YtmbceheafjadhaaGreat
open Go.RowKit Go.Maps
variable {w : World} {cb h n i : Nat} {seed : ByteArray}
set_option maxRecDepth 100000 in
theorem zroot_any (k : ClZ w cb seed h n i) :
    Calls Tryz.prog 68 #[.pointer (some ⟨cb, 0, none⟩)] w fun e w' => e = .returned (.string (rootB seed h)) ∧ w' = w := by
  obtain ⟨kb, ctr, pb, mb, h1, h2, _, _⟩ := k
  have c0 := h1.cell 0
  simp [clZ] at c0
  clear h1
  go_enter Tryz.func68, Tryz.ntmps68
  go_wp2_with fail
  refine (kroot_any kb ctr seed h i w h2).mono ?_
  rintro e w1 ⟨rfl, rfl⟩
  go_wp2
  go_ret
  exact ⟨rfl, rfl⟩
set_option maxRecDepth 100000 in
theorem zname_any (k : ClZ w cb seed h n i) :
    Calls Tryz.prog 154 #[.pointer (some ⟨cb, 0, none⟩)] w fun e w' => e = .returned (.string ByteArray.empty) ∧ w' = w := by
  obtain ⟨kb, ctr, pb, mb, h1, _, _, _⟩ := k
  have c22 := h1.cell 22
  simp [clZ] at c22
  clear h1
  go_enter Tryz.func154, Tryz.ntmps154
  go_wp2_with fail
  go_ret
  exact ⟨rfl, rfl⟩
set_option maxRecDepth 100000 in
theorem zwhole_any (k : ClZ w cb seed h n i) :
    Calls Tryz.prog 162 #[.pointer (some ⟨cb, 0, none⟩)] w fun e w' => e = .returned (.int .u64 0) ∧ w' = w := by
  obtain ⟨kb, ctr, pb, mb, h1, _, _, _⟩ := k
  have c22 := h1.cell 22
  simp [clZ] at c22
  clear h1
  go_enter Tryz.func162, Tryz.ntmps162
  go_wp2_with fail
  go_ret
  exact ⟨rfl, rfl⟩
end Go.Proofs.YtmbceheafjadhaaGreat
namespace Go.Proofs.YtmbceheafjadhaaGreat
open Go.RowKit Go.Maps
theorem infoOut : (Tryz.prog.info? 57).map (·.size) = some 9 := by kernel_rfl
def zOut : Array Value := #[.int .i64 0, .int .u64 0, .string ByteArray.empty, .string ByteArray.empty, .int .i64 0, .string ByteArray.empty, .int .u64 0, .int .i64 0, .string ByteArray.empty]
def oOut (am : Nat) (key gate : ByteArray) (ex : Nat) (an : ByteArray) (unit n : Nat) : Array Value := #[.int .i64 2, .int .u64 (am : Nat), .string key, .string gate, .int .i64 (ex : Nat), .string an, .int .u64 (unit : Nat), .int .i64 (n : Nat), .string ByteArray.empty]
theorem oOut_one (am : Nat) (key gate : ByteArray) (ex : Nat) (an : ByteArray) (unit n : Nat) : (oOut am key gate ex an unit n).all (·.oneCell') = true := by
  rw [Array.all_eq_true']
  intro x hx
  simp only [oOut, List.mem_toArray, List.mem_cons, List.not_mem_nil, or_false] at hx
  rcases hx with rfl | rfl | rfl | rfl | rfl | rfl | rfl | rfl | rfl <;> rfl
theorem oOut_over (am : Nat) (key gate : ByteArray) (ex : Nat) (an : ByteArray) (unit n : Nat) : over zOut 0 (oOut am key gate ex an unit n).toList = oOut am key gate ex an unit n := (over_full (oOut am key gate ex an unit n).toList zOut rfl).trans (Array.toArray_toList ..)
variable {w : World} {cb h n i : Nat} {seed : ByteArray}
set_option maxRecDepth 100000 in
set_option maxHeartbeats 2000000 in
theorem zoutput_any (k : ClZ w cb seed h n i) (hn : n ≤ 4096) (am ex unit : Nat) (gate : ByteArray) :
    Calls Tryz.prog 67 #[.pointer (some ⟨cb, 0, none⟩), .int .u64 am, .string gate, .int .i64 ex, .int .u64 unit] w fun e w' => e = .returned (.agg #[.int .i64 2, .int .u64 am, .string (rootB seed h), .string gate, .int .i64 ex, .string (tokB seed n 0), .int .u64 unit, .int .i64 n, .string ByteArray.empty]) ∧ Below w.heap.size w w' := by
  have ha := fun o => ((Below.refl w.heap.size w).alloc (Nat.le_refl _) o).drew
  have HK := fun o => Lib.hid (k.bel (ha o))
  obtain ⟨kb, ctr, pb, mb, hc, hk, hp, hm⟩ := k
  have c1 : ∀ o, (w.alloc o).cell? ⟨cb, 1, none⟩ = some (.pointer (some ⟨pb, 0, none⟩)) := fun o => (hc.alloc o).cell 1
  have HR := fun o => Lib.hid (zroot_any (HK o).out)
  have HA : ∀ o, Hid (Calls Tryz.prog 133 #[.pointer (some ⟨pb, 0, none⟩)] (w.alloc o).drew fun e w' => e = .returned (.string (tokB seed n 0)) ∧ w' = (w.alloc o).drew) := fun o => ((panchor_any pb n seed _ (hp.bel (ha o))).mono fun _ _ ⟨e1, e2⟩ => ⟨e1, e2.symm⟩)
  have HN : ∀ o, Hid (Calls Tryz.prog 151 #[.pointer (some ⟨pb, 0, none⟩)] (w.alloc o).drew fun e w' => e = .returned (.int .i64 n) ∧ w' = (w.alloc o).drew) := fun o => ((plen_any pb n seed _ hn (hp.bel (ha o))).mono fun _ _ ⟨e1, e2⟩ => ⟨e1, e2.symm⟩)
  clear hc hk hp hm HK
  generalize rootB seed h = rt at *
  generalize tokB seed n 0 = an at *
  go_enter Tryz.func67, Tryz.ntmps67
  go_wp2_with fail
  refine wp_region_still_tail 17 (by kernel_rfl) (by kernel_rfl) ?_
  change wpStill _ _ (World.drew _) (fun a' => wpList _ _ _ _ a' (World.drew _)) _ _
  simp only [List.take_succ_cons, List.take_zero, List.drop_succ_cons, List.drop_zero]
  repeat still_step
  still_call (HR _).out
  repeat still_step
  still_call (HA _).out
  repeat still_step
  still_call (HN _).out
  repeat still_step
  refine wpStill_nil ?_
  have HO : Hid (Blk (w.alloc (.cells zOut 57)).drew w.heap.size 57 zOut) := Blk.new w _ _
  have HB : Hid (Below w.heap.size w (w.alloc (.cells zOut 57)).drew) := ((Below.refl w.heap.size w).alloc (Nat.le_refl _) _).drew
  refine wpList_store_part rfl 57 (.tmp 10) (.tmp 27) rfl w.heap.size 0 HO.out (oOut am rt gate ex an unit n) (oOut am rt gate ex an unit n) (by rfl) (by rfl) (Nat.le_refl 9) infoOut (oOut_one _ _ _ _ _ _ _) (oOut_over _ _ _ _ _ _ _) ?_
  intro W4 hb4 hc4
  have HO4 := Lib.hid hb4
  have HC4 := Lib.hid hc4
  clear hb4 hc4
  go_wp2_with fail
  exact bodyPost_ret (results_cell_row rfl _ _ w.heap.size 57 _ (0, 0) _ rfl HO4.out Tryz.underlying57 rfl infoOut) rfl ⟨rfl, HB.out.trans (HC4.out.below (by simp) (by simp))⟩
end Go.Proofs.YtmbceheafjadhaaGreat
namespace Go.Proofs.YtmbceheafjadhaaGreat
open Go.RowKit Go.Maps
/-- a client on its way to a channel -/
def clS (kb pb mb : Nat) (tx : ByteArray) (out : Nat) (l : Lk) : Array Value := (clC kb pb mb tx out l 0 0).setIfInBounds 22 (.bool false)
theorem clS_over (kb pb mb : Nat) (tx : ByteArray) (out : Nat) (l : Lk) : over (clZ kb pb mb) 2 (stC tx out l).toList = clS kb pb mb tx out l := by
  simp [clS, clZ, clC, stC, over]
theorem clS_set (kb pb mb : Nat) (tx : ByteArray) (out : Nat) (l : Lk) : (clS kb pb mb tx out l).setIfInBounds 22 (.bool true) = clC kb pb mb tx out l 0 0 := by
  simp [clS, clC]
variable {w : World} {cb h n i : Nat} {seed : ByteArray}
set_option maxRecDepth 100000 in
set_option maxHeartbeats 2000000 in
theorem zattach_ok {kb ctr pb mb : Nat} (k : ZIn w cb kb ctr pb mb seed h n i) (hn : n ≤ 4096) (tx : ByteArray) (out : Nat) (l : Lk) (hl : l.ok) (hkey : l.key = rootB seed h) (han : l.anchor = tokB seed n 0) (htk : l.tok = n) :
    Calls Tryz.prog 69 #[.pointer (some ⟨cb, 0, none⟩), .agg (entC tx out l)] w fun e w' => e = .returned (.int .i64 0) ∧ CIn w' cb kb ctr pb mb seed h n i tx out l 0 0 (.map []) ∧ Ch [cb] w w' := by
  have HN := fun W => Lib.hid (chnew_any tx out l W hl)
  have HK := Lib.hid k.at_
  obtain ⟨hc, hk, hp, hm⟩ := k
  have c24 : ∀ o, (w.alloc o).cell? ⟨cb, 22, none⟩ = some (.bool false) := fun o => (hc.alloc o).cell 22
  have HE : Hid (Blk (w.alloc (.cells (entC tx out l) 59)) w.heap.size 59 (entC tx out l)) := Blk.new _ _ _
  go_enter Tryz.func69, Tryz.ntmps69
  go_wp2_with (first
    | (refine wpList_load_blk rfl 59 (.tmp 3) rfl w.heap.size 0 11 HE.out (entC tx out l) (by rfl) (by simp [entC]) Tryz.underlying59 infoEnt (by simp [entC]) ?_))
  refine (HN _).out.mono ?_
  rintro e w1 ⟨rfl, hb1⟩
  have hba : Below w.heap.size w w1 := ((Below.refl w.heap.size w).alloc (Nat.le_refl _) _).trans (hb1.mono (by simp))
  have HE1 : Hid (Blk w1 w.heap.size 59 (entC tx out l)) := HE.out.bel hb1
  have HBA := Lib.hid hba
  have hz1 : w.heap.size < w1.heap.size := HE1.out.lt
  clear hb1 hba
  go_wp2_with (first
    | (refine wpList_store_part rfl 114 (.tmp 5) (.tmp 14) rfl w1.heap.size 0 (cs := zSt) (Blk.newAt rfl) (stC tx out l) (stC tx out l) (by rfl) (by rfl) (Nat.le_refl 20) infoSta (stC_one _ _ _) ((over_full (stC tx out l).toList zSt rfl).trans (Array.toArray_toList ..)) ?_; intro W2 hb2 hc2; have HS2 := Lib.hid hb2; have HC2 := Lib.hid hc2; have HE2 : Hid (Blk W2 w.heap.size 59 (entC tx out l)) := Blk.ch (HE1.out.alloc _) hc2 (by simp; omega); clear hb2 hc2))
  have HB2 : Hid (Below w.heap.size w W2.drew) := (((HBA.out.alloc HBA.out.size _).trans (HC2.out.below (by simp; omega) (by simp; omega)))).drew
  have hk2 : ClZ W2.drew cb seed h n i := HK.out.bel HB2.out
  have HR := Lib.hid (zroot_any hk2)
  have hp2 : ChainAt W2.drew pb seed n := hp.bel HB2.out
  have HAn : Hid (Calls Tryz.prog 133 #[.pointer (some ⟨pb, 0, none⟩)] W2.drew fun e w' => e = .returned (.string (tokB seed n 0)) ∧ w' = W2.drew) := ((panchor_any pb n seed _ hp2).mono fun _ _ ⟨e1, e2⟩ => ⟨e1, e2.symm⟩)
  have HLn : Hid (Calls Tryz.prog 151 #[.pointer (some ⟨pb, 0, none⟩)] W2.drew fun e w' => e = .returned (.int .i64 n) ∧ w' = W2.drew) := ((plen_any pb n seed _ hn hp2).mono fun _ _ ⟨e1, e2⟩ => ⟨e1, e2.symm⟩)
  have hc2 : Blk W2.drew cb 252 (clZ kb pb mb) := hc.bel HB2.out
  have d1 : W2.cell? ⟨cb, 1, none⟩ = some (.pointer (some ⟨pb, 0, none⟩)) := hc2.cell 1
  have x4 : W2.cell? ⟨w.heap.size, 4, none⟩ = some (.string (rootB seed h)) := by rw [← hkey]; exact HE2.out.cell 4
  have x7 : W2.cell? ⟨w.heap.size, 7, none⟩ = some (.string (tokB seed n 0)) := by rw [← han]; exact HE2.out.cell 7
  have x9 : W2.cell? ⟨w.heap.size, 9, none⟩ = some (.int .i64 n) := by rw [← htk]; exact HE2.out.cell 9
  clear hk2 hp2 hc2
  refine wp_region_still_tail 28 (by kernel_rfl) (by kernel_rfl) ?_
  change wpStill _ _ (World.drew _) (fun a' => wpList _ _ _ _ a' (World.drew _)) _ _
  simp only [List.take_succ_cons, List.take_zero, List.drop_succ_cons, List.drop_zero]
  repeat still_step
  still_call HR.out
  repeat still_step
  still_call HAn.out
  repeat still_step
  still_call HLn.out
  repeat still_step
  refine wpStill_nil ?_
  have HSD : Hid (Blk W2.drew w1.heap.size 114 (stC tx out l)) := HS2.out
  have HCD : Hid (Blk W2.drew cb 252 (clZ kb pb mb)) := hc.bel HB2.out
  go_wp2_with (first
    | (refine wpList_load_blk rfl 114 (.tmp 5) rfl w1.heap.size 0 20 HSD.out (stC tx out l) (by rfl) (by simp [stC]) Tryz.underlying114 infoSta (by simp [stC]) ?_)
    | (refine wpList_store_part rfl 114 (.tmp 53) (.tmp 51) rfl cb 2 HCD.out (stC tx out l) (clS kb pb mb tx out l) (by rfl) (by rfl) (by simp [clZ, stC]) infoSta (stC_one _ _ _) (clS_over _ _ _ _ _ _) ?_; intro W3 hb3 hc3; have HC3 := Lib.hid hc3; have HB3 := Lib.hid hb3; have y22 : W3.cell? ⟨cb, 22, none⟩ = some (.bool false) := hb3.cell 22; have z22 : W3.frozen? ⟨cb, 22, none⟩ = false := hb3.frozen 22; clear hb3 hc3))
  go_ret
  have hkD := hk.bel HB2.out
  have hmD : MpU W2.drew mb (.map []) := hm.ch (Ch.of_below HB2.out []) (by simp)
  obtain ⟨_, q1, q2, _⟩ := id hkD
  have hC4 := fun W (hw : Ch [cb] W2.drew W) (hbk : Blk W cb 252 (clC kb pb mb tx out l 0 0)) => (show CIn W cb kb ctr pb mb seed h n i tx out l 0 0 (.map []) ∧ Ch [cb] w W from
    ⟨⟨hbk, hkD.ch hw (by have := q1.ne_ HCD.out (by decide); simpa using this) (by have := q2.ne_ HCD.out (by decide); simpa using this) (not_str HCD.out (by decide)), (hp.bel HB2.out).ch hw HCD.out (by decide) (by decide), hmD.ch hw (hmD.ne_at HCD.out)⟩, (Ch.of_below HB2.out [cb]).trans hw⟩)
  exact ⟨rfl, hC4 _ (HC3.out.trans (Ch.set_ (List.mem_singleton.2 rfl) _ _ _)) (clS_set kb pb mb tx out l ▸ HB3.out.set_ 22 _)⟩
end Go.Proofs.YtmbceheafjadhaaGreat
namespace Go.Proofs.YtmbceheafjadhaaGreat
open Go.RowKit Go.Maps
theorem bel_st {V W : World} {o : Obj} (h : Ch [V.heap.size] (V.alloc o) W) : Below V.heap.size V W := ((Below.refl _ _).alloc (Nat.le_refl _) _).trans (h.below (by simp) (by simp))
theorem bel_drew {V V0 : World} (h : V = V0.drew) : Below V0.heap.size V0 V := by rw [h]; exact (Below.refl _ _).drew
set_option maxHeartbeats 400000 in
theorem place_any (w : World) : Calls Tryz.prog 157 #[] w fun e w' => e = .returned (.agg #[.string ⟨#[116, 116, 116, 116, 116, 116, 116, 116, 116, 116, 116, 116, 116, 116, 116, 116]⟩, .int .i64 1]) ∧ Below w.heap.size w w' := by
  go_enter Tryz.func157, Tryz.ntmps157
  go_wp2
  exact bodyPost_ret (results_cell_row rfl _ _ w.heap.size 54 #[.string ⟨#[116, 116, 116, 116, 116, 116, 116, 116, 116, 116, 116, 116, 116, 116, 116, 116]⟩, .int .i64 1] (0, 0) _ rfl (Blk.new _ _ _) Tryz.underlying54 rfl infoPnt) rfl ⟨rfl, (Below.refl _ _).alloc (Nat.le_refl _) _⟩
def comC : ByteArray := ⟨#[48, 49, 50, 51, 52, 53, 54, 55, 56, 57, 97, 98, 99, 100, 101, 102]⟩
def ofC (ch : ByteArray) (ser face : Nat) : Array Value := #[.string ch, .int .u64 (ser : Nat), .int .u64 (face : Nat), .int .u64 1, .int .u64 2, .string ⟨#[48, 49, 50, 51, 52, 53, 54, 55, 56, 57, 97, 98, 99, 100, 101, 102]⟩, .string ByteArray.empty, .int .u64 0, .bool false]
theorem ofC_one (ch : ByteArray) (ser face : Nat) : (ofC ch ser face).all (·.oneCell') = true := by
  rw [Array.all_eq_true']
  intro x hx
  simp only [ofC, List.mem_toArray, List.mem_cons, List.not_mem_nil, or_false] at hx
  rcases hx with rfl | rfl | rfl | rfl | rfl | rfl | rfl | rfl | rfl <;> rfl
def zOf : Array Value := #[.string ByteArray.empty, .int .u64 0, .int .u64 0, .int .u64 0, .int .u64 0, .string ByteArray.empty, .string ByteArray.empty, .int .u64 0, .bool false]
theorem ofC_over (ch : ByteArray) (ser face : Nat) : over zOf 0 (ofC ch ser face).toList = ofC ch ser face := (over_full (ofC ch ser face).toList zOf rfl).trans (Array.toArray_toList ..)
def ofO (ch : ByteArray) (ser face : Nat) : Of := ⟨ch, ser, face, 1, 2, comC, ByteArray.empty, 0, false⟩
theorem ofO_cs (ch : ByteArray) (ser face : Nat) : (ofO ch ser face).cs = ofC ch ser face := rfl
theorem ofO_ok (ch : ByteArray) (ser face : Nat) (h1 : ser < 18446744073709551616) (h2 : face < 18446744073709551616) (h3 : face % 2 = 0) : (ofO ch ser face).ok := ⟨h1, h2, ⟨by show 1 ≤ 2; omega, by show 2 ≤ 4294967296; omega⟩, by show 1 ≤ 2; omega, by show face * 1 % 2 = 0; omega⟩
theorem comC_size : comC.size = 16 := rfl
theorem Blk.chN {w w' : World} {g : Nat} {t : TypeId} {cs : Array Value} {S : List Nat} {N : Nat} (h : Blk w g t cs) (hc : Ch S w w') (hS : ∀ x ∈ S, x < N) (hg : N ≤ g) : Blk w' g t cs := Blk.ch h hc (fun hm => by have := hS g hm; omega)
end Go.Proofs.YtmbceheafjadhaaGreat
namespace Go.Proofs.YtmbceheafjadhaaGreat
open Go.RowKit Go.Maps
variable {w : World} {cb kb ctr pb mb h n i out am tk : Nat} {seed tx : ByteArray} {l : Lk} {D : DU}
set_option maxRecDepth 100000 in
set_option maxHeartbeats 1000000 in
theorem spay_ok (x tm : Nat) (k : CIn w cb kb ctr pb mb seed h n i tx out l am tk D) (hl : l.ok) (h1 : am < 18446744073709551616) (h2 : tk ≤ 1000000) (hz : Maps.size D ≤ 1000) (hx : 0 < x) (htm : am + x = tm) (hx6 : tm < 18446744073709551616) (hf : roomE tm tk l.unit l.am D = 0)
    (hh : h ≤ 4) (hi : i < 2 ^ h) (hs : seed.size ≤ 1000000) (ho : out < 256) (hxx : tx.size ≤ 1000000) :
    Calls Tryz.prog 70 #[.pointer (some ⟨cb, 0, none⟩), .int .u64 x] w fun e w' => e = .returned (.tuple #[.agg (opP 2 (nameB tx out) tm (signB seed h i (vouchB (nameB tx out) tm))), .int .i64 0]) ∧ CIn w' cb kb ctr pb mb seed h n (i + 1) tx out l tm tk D ∧ Ch [cb, ctr] w w' := by
  have hnz := nameB_size tx out
  have hvz := vouchB_size (nameB tx out) tm
  have HV := fun W => Lib.hid (voucher_any (nameB tx out) tm W (by omega) hx6)
  have HSG := fun W hc hk hp hm => Lib.hid (ssigned_pay (w := W) (cb := cb) (n := n) (am := am) (tk := tk) (l := l) (D := D) (vouchB (nameB tx out) tm) tm tk kb ctr pb mb hc hk hp hm hh hi hs (by omega) ho hxx)
  have HN := fun W hc => Lib.hid (sname_blk (w := W) (cb := cb) (am := am) (tk := tk) (l := l) kb pb mb hc ho hxx)
  generalize signB seed h i (vouchB (nameB tx out) tm) = sig at *
  generalize vouchB (nameB tx out) tm = vo at *
  generalize nameB tx out = nm at *
  clear hnz hvz hi hs ho hxx hh
  obtain ⟨_, hkq, hctr, _⟩ := id k.2.1
  have hcl : ctr < w.heap.size := hctr.lt
  clear hkq hctr
  have HK := Lib.hid k
  obtain ⟨hc, hk, hp, hm⟩ := k
  have HL := Lib.hid hl
  have hx0 : ((x : Int) == 0) = false := by simp; omega
  have HO : Hid (∀ o, Blk ((w.alloc (.cells (opP 0 ByteArray.empty 0 ByteArray.empty) 147)).alloc o) w.heap.size 147 (opP 0 ByteArray.empty 0 ByteArray.empty)) := fun o => (Blk.new _ _ _).alloc o
  have HC := Lib.hid hc
  have hlt := hc.lt
  have hne : ¬ cb = w.heap.size + 1 := by omega
  have e1 : plusV (am : Int) x = (tm : Int) := by rw [plusV, if_pos (by omega)]; omega
  have e2 : plusE (am : Int) x = 0 := by rw [plusE, if_pos (by omega)]
  have HA := fun W => Lib.hid (add_any am x W (by omega) (by omega) (by omega) (by omega))
  rw [e1, e2] at HA
  clear hc hk hp hm hl e1 e2
  go_enter Tryz.func70, Tryz.ntmps70
  go_wp2_with (first
    | (refine wpList_load_blk rfl 250 (.tmp 11) rfl cb 23 3 (HC.out.alloc _) (relC am tk mb) (by rfl) (by simp [clC, relC]) Tryz.underlying250 infoRel (by simp [clC]) ?_)
    | (refine wpList_store_part rfl 250 (.tmp 6) (.tmp 12) rfl (w.heap.size + 1) 0 (cs := zRel) (Blk.newAt (by simp)) (relC am tk mb) (relC am tk mb) (by rfl) (by rfl) (Nat.le_refl 3) infoRel (relC_one _ _ _) (relC_over _ _ _) ?_; intro W1 hb1 hc1; have HR1 := Lib.hid hb1; have HC1 := Lib.hid hc1; have r0 : W1.cell? ⟨w.heap.size + 1, 0, none⟩ = some (.int .u64 am) := hb1.cell 0; have r1 : W1.cell? ⟨w.heap.size + 1, 1, none⟩ = some (.int .i64 tk) := hb1.cell 1; have r2 : W1.cell? ⟨w.heap.size + 1, 2, none⟩ = some (.map (some mb)) := hb1.cell 2; have f0 : W1.frozen? ⟨w.heap.size + 1, 0, none⟩ = false := hb1.frozen 0; have c22 : W1.cell? ⟨cb, 22, none⟩ = some (.bool true) := (Blk.ch ((HC.out.alloc _).alloc _) hc1 (by simp; omega)).cell 22; have HO1 : Hid (Blk W1 w.heap.size 147 (opP 0 ByteArray.empty 0 ByteArray.empty)) := Blk.ch (HO.out _) hc1 (by simp); have HB1 : Hid (Below w.heap.size w W1) := (((Below.refl w.heap.size w).alloc (Nat.le_refl _) _).alloc (by simp) _).trans (hc1.below (by simp; omega) (by simp)); clear hb1 hc1))
  refine (HA _).out.mono ?_
  rintro e w2 ⟨rfl, rfl⟩
  have HR2 : Hid (Blk (w2.setCell ⟨w.heap.size + 1, 0, none⟩ (.int .u64 (tm : Nat))) (w.heap.size + 1) 250 (relC tm tk mb)) := by have := HR1.out.set_ 0 (.int .u64 (tm : Nat)); rwa [relC_set] at this
  have HB2 : Hid (Below w.heap.size w (w2.setCell ⟨w.heap.size + 1, 0, none⟩ (.int .u64 (tm : Nat)))) := HB1.out.setCell (by simp) _
  have HO2 : Hid (Blk (w2.setCell ⟨w.heap.size + 1, 0, none⟩ (.int .u64 (tm : Nat))) w.heap.size 147 (opP 0 ByteArray.empty 0 ByteArray.empty)) := HO1.out.far (by simp) _
  have HRM := Lib.hid (sroom_any (w := w2.setCell ⟨w.heap.size + 1, 0, none⟩ (.int .u64 (tm : Nat))) tm tk mb D (HK.out.bel HB2.out).at_ HL.out (by omega) h2 (HK.out.bel HB2.out).2.2.2 hz)
  rw [hf] at HRM
  go_wp2_with fail
  refine HRM.out.mono ?_
  rintro e w3 ⟨rfl, hb3⟩
  have HO3 := Lib.hid (HO2.out.bel hb3)
  have HR3 := Lib.hid (HR2.out.bel hb3)
  have HB3 := Lib.hid (HB2.out.trans (hb3.mono HB2.out.size))
  have HK3 := Lib.hid (HK.out.bel HB3.out.drew)
  clear hb3
  go_wp2_with fail
  refine wp_region_held_drew (S := fun W => Blk W (w.heap.size + 1) 250 (relC tm tk mb)) (by kernel_rfl) (HR3.out.drewN 1) (fun hS => ?_)
  refine wpAnyH_take (i := 0) (v := ?_) rfl (by kernel_rfl) (by kernel_rfl) (by kernel_rfl) (fun _ _ _ h => h) (Or.inl ⟨by rfl, ?_⟩) hS ?_
  rotate_left
  · (intro w _; go_simp; try with_reducible rfl)
  refine wpAnyH_take (i := 1) (v := ?_) rfl (by kernel_rfl) (by kernel_rfl) (by kernel_rfl) (fun _ _ _ h => h) (Or.inl ⟨by rfl, ?_⟩) hS ?_
  rotate_left
  · (intro w _; go_simp; try with_reducible rfl)
  refine wpAnyH_take (i := 3) (v := ?_) rfl (by kernel_rfl) (by kernel_rfl) (by kernel_rfl) (fun _ _ _ h => h) (Or.inl ⟨by rfl, ?_⟩) hS ?_
  rotate_left
  · (intro w _; go_simp; try with_reducible rfl)
  refine wpAnyH_take (i := 4) (v := ?_) rfl (by kernel_rfl) (by kernel_rfl) (by kernel_rfl) (fun _ _ _ h => h) (Or.inl ⟨by rfl, ?_⟩) hS ?_
  rotate_left
  · (intro w hS'; have hcell := (show World.cell? _ ⟨_, 0, none⟩ = some (.int .u64 tm) from Blk.cell hS' 0); go_simp; try with_reducible rfl)
  refine wpAnyH_take (i := 6) (v := ?_) rfl (by kernel_rfl) (by kernel_rfl) (by kernel_rfl) (fun _ _ _ h => h) (Or.inl ⟨by rfl, ?_⟩) hS ?_
  rotate_left
  · (intro w _; go_simp; try with_reducible rfl)
  refine wpAnyH_take (i := 7) (v := .agg #[.int .u64 (tm : Nat), .int .i64 (tk : Nat), .map (some mb)]) rfl (by kernel_rfl) (by kernel_rfl) (by kernel_rfl) (fun _ _ _ h => h) (yields_blk (by rfl) 250 (.tmp 6) (by rfl) (w.heap.size + 1) 0 3 (fun W h => h) #[.int .u64 (tm : Nat), .int .i64 (tk : Nat), .map (some mb)] (by rfl) (by rfl) Tryz.underlying250 infoRel (Nat.le_refl 3)) hS ?_
  refine wpAnyH_take (i := 8) (v := ?_) rfl (by kernel_rfl) (by kernel_rfl) (by kernel_rfl) (fun _ _ _ h => h) (Or.inl ⟨by rfl, ?_⟩) hS ?_
  rotate_left
  · (intro w _; go_simp; try with_reducible rfl)
  refine wpAnyH_take (i := 9) (v := ?_) rfl (by kernel_rfl) (by kernel_rfl) (by kernel_rfl) (fun _ _ _ h => h) (Or.inl ⟨by rfl, ?_⟩) hS ?_
  rotate_left
  · (intro w _; go_simp; try with_reducible rfl)
  refine wpAnyH_ready (rs := [2]) (by kernel_rfl) (by simp) (AllReadyH.cons rfl (fun K hK => ?_) AllReadyH.nil)
  go_simp
  refine (HN _ HK3.out.1).out.mono ?_
  rintro e w4 ⟨rfl, hb4⟩
  have HB4 : Hid (Below w.heap.size w w4) := HB3.out.drew.trans (hb4.mono HB3.out.drew.size)
  have HO4 : Hid (Blk w4 w.heap.size 147 (opP 0 ByteArray.empty 0 ByteArray.empty)) := (HO3.out.drewN 1).bel hb4
  have HR4 : Hid (Blk w4 (w.heap.size + 1) 250 (relC tm tk mb)) := hS.bel hb4
  clear hb4
  go_simp
  refine hK.out _ _ HR4.out (fun hS4 => ?_)
  clear hK K
  refine wpAnyH_ready (rs := [5]) (by kernel_rfl) (by simp) (AllReadyH.cons rfl (fun K hK => ?_) AllReadyH.nil)
  go_simp
  refine (HV _).out.mono ?_
  rintro e w5 ⟨rfl, hb5⟩
  have HB5 : Hid (Below w.heap.size w w5) := HB4.out.trans (hb5.mono HB4.out.size)
  have HO5 := Lib.hid (HO4.out.bel hb5)
  have HR5 := Lib.hid (HR4.out.bel hb5)
  have HK5 := Lib.hid (HK.out.bel HB5.out)
  clear hb5
  go_simp
  refine hK.out _ _ HR5.out (fun hS5 => ?_)
  clear hK K
  refine wpAnyH_ready (rs := [10]) (by kernel_rfl) (by simp) (AllReadyH.cons rfl (fun K hK => ?_) AllReadyH.nil)
  go_simp
  refine (HSG _ HK5.out.1 HK5.out.2.1 HK5.out.2.2.1 HK5.out.2.2.2).out.mono ?_
  rintro e w6 ⟨rfl, hk6, hc6⟩
  have HK6 := Lib.hid hk6
  have HO6 : Hid (Blk w6 w.heap.size 147 (opP 0 ByteArray.empty 0 ByteArray.empty)) := Blk.ch HO5.out hc6 (by simp; omega)
  have HR6 : Hid (Blk w6 (w.heap.size + 1) 250 (relC tm tk mb)) := Blk.ch HR5.out hc6 (by simp; omega)
  have HC6 : Hid (Ch [cb, ctr] w w6) := (Ch.of_below HB5.out _).trans hc6
  clear hk6 hc6
  go_simp
  refine hK.out _ _ HR6.out (fun hS6 => ?_)
  clear hK K
  refine wpAnyH_take (i := 11) (v := ?_) rfl (by kernel_rfl) (by kernel_rfl) (by kernel_rfl) (fun _ _ _ h => h) (Or.inl ⟨by rfl, ?_⟩) hS6 ?_
  rotate_left
  · (intro w _; go_simp; try with_reducible rfl)
  refine wpAnyH_take (i := 12) (v := ?_) rfl (by kernel_rfl) (by kernel_rfl) (by kernel_rfl) (fun _ _ _ h => h) (Or.inl ⟨by rfl, ?_⟩) hS6 ?_
  rotate_left
  · (intro w _; go_simp; try with_reducible rfl)
  refine wpAnyH_ready (rs := [13]) (by kernel_rfl) (by simp) (AllReadyH.cons rfl (fun K hK => ?_) AllReadyH.nil)
  refine step_store_part (by rfl) 147 (.tmp 4) (.tmp 54) (by rfl) w.heap.size 0 HO6.out (opP 2 nm tm sig) (opP 2 nm tm sig) (by rfl) (by rfl) (opP_fits _ _ _ _ _ _ _ _) infoOp (opP_one _ _ _ _) (opP_over _ _ _ _ _ _ _ _) ?_
  intro W7 hb7 hc7
  have HO7 := Lib.hid hb7
  have HC7 := Lib.hid hc7
  clear hb7 hc7
  refine hK.out _ _ (Blk.ch HR6.out HC7.out (by simp)) (fun hS7 => ?_)
  clear hK K
  refine wpAnyH_ready (rs := [14]) (by kernel_rfl) (by simp) (AllReadyH.cons rfl (fun K hK => ?_) AllReadyH.nil)
  go_simp
  refine hK.out _ _ hS7 (fun _ => ?_)
  clear hK K
  refine wpAnyH_done (by kernel_rfl) ?_ _
  go_wp2_with fail
  exact bodyPost_ret (results_cell_row2 rfl _ HO7.out rfl Tryz.underlying147 infoOp) rfl ⟨rfl, HK6.out.chO HC7.out rfl HO6.out (by decide) (by decide) (by decide) (by decide) (by decide), ((HC6.out.mono (S' := [cb, ctr, w.heap.size]) (by simp <;> omega)).trans (HC7.out.mono (by simp))).mono (by simp <;> omega)⟩
set_option maxRecDepth 100000 in
set_option maxHeartbeats 1000000 in
theorem spay_used (x tm : Nat) (k : CIn w cb kb ctr pb mb seed h n i tx out l am tk D) (hl : l.ok) (h1 : am < 18446744073709551616) (h2 : tk ≤ 1000000) (hz : Maps.size D ≤ 1000) (hx : 0 < x) (htm : am + x = tm) (hx6 : tm < 18446744073709551616) (hf : roomE tm tk l.unit l.am D = 0)
    (hh : h ≤ 4) (hi : 2 ^ h ≤ i) (hi2 : i ≤ 1000) (ho : out < 256) (hxx : tx.size ≤ 1000000) :
    Calls Tryz.prog 70 #[.pointer (some ⟨cb, 0, none⟩), .int .u64 x] w fun e w' => e = .returned (.tuple #[.agg (opP 0 ByteArray.empty 0 ByteArray.empty), .int .i64 14]) ∧ Below w.heap.size w w' := by
  have hnz := nameB_size tx out
  have hvz := vouchB_size (nameB tx out) tm
  have HV := fun W => Lib.hid (voucher_any (nameB tx out) tm W (by omega) hx6)
  have HSG := fun W hk f => Lib.hid (ssigned_used (w := W) (cb := cb) (n := n) (am := am) (tk := tk) (l := l) (D := D) (h := h) (i := i) (seed := seed) (tx := tx) (out := out) (vouchB (nameB tx out) tm) f hk hh hi hi2)
  have HN := fun W hc => Lib.hid (sname_blk (w := W) (cb := cb) (am := am) (tk := tk) (l := l) kb pb mb hc ho hxx)
  generalize vouchB (nameB tx out) tm = vo at *
  generalize nameB tx out = nm at *
  clear hnz hvz hi hi2 ho hxx hh
  have HK := Lib.hid k
  obtain ⟨hc, hk, hp, hm⟩ := k
  have HL := Lib.hid hl
  have hx0 : ((x : Int) == 0) = false := by simp; omega
  have HO : Hid (∀ o, Blk ((w.alloc (.cells (opP 0 ByteArray.empty 0 ByteArray.empty) 147)).alloc o) w.heap.size 147 (opP 0 ByteArray.empty 0 ByteArray.empty)) := fun o => (Blk.new _ _ _).alloc o
  have HC := Lib.hid hc
  have hlt := hc.lt
  have hne : ¬ cb = w.heap.size + 1 := by omega
  have e1 : plusV (am : Int) x = (tm : Int) := by rw [plusV, if_pos (by omega)]; omega
  have e2 : plusE (am : Int) x = 0 := by rw [plusE, if_pos (by omega)]
  have HA := fun W => Lib.hid (add_any am x W (by omega) (by omega) (by omega) (by omega))
  rw [e1, e2] at HA
  clear hc hk hp hm hl e1 e2
  go_enter Tryz.func70, Tryz.ntmps70
  go_wp2_with (first
    | (refine wpList_load_blk rfl 250 (.tmp 11) rfl cb 23 3 (HC.out.alloc _) (relC am tk mb) (by rfl) (by simp [clC, relC]) Tryz.underlying250 infoRel (by simp [clC]) ?_)
    | (refine wpList_store_part rfl 250 (.tmp 6) (.tmp 12) rfl (w.heap.size + 1) 0 (cs := zRel) (Blk.newAt (by simp)) (relC am tk mb) (relC am tk mb) (by rfl) (by rfl) (Nat.le_refl 3) infoRel (relC_one _ _ _) (relC_over _ _ _) ?_; intro W1 hb1 hc1; have HR1 := Lib.hid hb1; have HC1 := Lib.hid hc1; have r0 : W1.cell? ⟨w.heap.size + 1, 0, none⟩ = some (.int .u64 am) := hb1.cell 0; have r1 : W1.cell? ⟨w.heap.size + 1, 1, none⟩ = some (.int .i64 tk) := hb1.cell 1; have r2 : W1.cell? ⟨w.heap.size + 1, 2, none⟩ = some (.map (some mb)) := hb1.cell 2; have f0 : W1.frozen? ⟨w.heap.size + 1, 0, none⟩ = false := hb1.frozen 0; have c22 : W1.cell? ⟨cb, 22, none⟩ = some (.bool true) := (Blk.ch ((HC.out.alloc _).alloc _) hc1 (by simp; omega)).cell 22; have HO1 : Hid (Blk W1 w.heap.size 147 (opP 0 ByteArray.empty 0 ByteArray.empty)) := Blk.ch (HO.out _) hc1 (by simp); have HB1 : Hid (Below w.heap.size w W1) := (((Below.refl w.heap.size w).alloc (Nat.le_refl _) _).alloc (by simp) _).trans (hc1.below (by simp; omega) (by simp)); clear hb1 hc1))
  refine (HA _).out.mono ?_
  rintro e w2 ⟨rfl, rfl⟩
  have HR2 : Hid (Blk (w2.setCell ⟨w.heap.size + 1, 0, none⟩ (.int .u64 (tm : Nat))) (w.heap.size + 1) 250 (relC tm tk mb)) := by have := HR1.out.set_ 0 (.int .u64 (tm : Nat)); rwa [relC_set] at this
  have HB2 : Hid (Below w.heap.size w (w2.setCell ⟨w.heap.size + 1, 0, none⟩ (.int .u64 (tm : Nat)))) := HB1.out.setCell (by simp) _
  have HO2 : Hid (Blk (w2.setCell ⟨w.heap.size + 1, 0, none⟩ (.int .u64 (tm : Nat))) w.heap.size 147 (opP 0 ByteArray.empty 0 ByteArray.empty)) := HO1.out.far (by simp) _
  have HRM := Lib.hid (sroom_any (w := w2.setCell ⟨w.heap.size + 1, 0, none⟩ (.int .u64 (tm : Nat))) tm tk mb D (HK.out.bel HB2.out).at_ HL.out (by omega) h2 (HK.out.bel HB2.out).2.2.2 hz)
  rw [hf] at HRM
  go_wp2_with fail
  refine HRM.out.mono ?_
  rintro e w3 ⟨rfl, hb3⟩
  have HO3 := Lib.hid (HO2.out.bel hb3)
  have HR3 := Lib.hid (HR2.out.bel hb3)
  have HB3 := Lib.hid (HB2.out.trans (hb3.mono HB2.out.size))
  have HK3 := Lib.hid (HK.out.bel HB3.out.drew)
  clear hb3
  go_wp2_with fail
  refine wp_region_held_drew (S := fun W => Blk W (w.heap.size + 1) 250 (relC tm tk mb)) (by kernel_rfl) (HR3.out.drewN 1) (fun hS => ?_)
  refine wpAnyH_take (i := 0) (v := ?_) rfl (by kernel_rfl) (by kernel_rfl) (by kernel_rfl) (fun _ _ _ h => h) (Or.inl ⟨by rfl, ?_⟩) hS ?_
  rotate_left
  · (intro w _; go_simp; try with_reducible rfl)
  refine wpAnyH_take (i := 1) (v := ?_) rfl (by kernel_rfl) (by kernel_rfl) (by kernel_rfl) (fun _ _ _ h => h) (Or.inl ⟨by rfl, ?_⟩) hS ?_
  rotate_left
  · (intro w _; go_simp; try with_reducible rfl)
  refine wpAnyH_take (i := 3) (v := ?_) rfl (by kernel_rfl) (by kernel_rfl) (by kernel_rfl) (fun _ _ _ h => h) (Or.inl ⟨by rfl, ?_⟩) hS ?_
  rotate_left
  · (intro w _; go_simp; try with_reducible rfl)
  refine wpAnyH_take (i := 4) (v := ?_) rfl (by kernel_rfl) (by kernel_rfl) (by kernel_rfl) (fun _ _ _ h => h) (Or.inl ⟨by rfl, ?_⟩) hS ?_
  rotate_left
  · (intro w hS'; have hcell := (show World.cell? _ ⟨_, 0, none⟩ = some (.int .u64 tm) from Blk.cell hS' 0); go_simp; try with_reducible rfl)
  refine wpAnyH_take (i := 6) (v := ?_) rfl (by kernel_rfl) (by kernel_rfl) (by kernel_rfl) (fun _ _ _ h => h) (Or.inl ⟨by rfl, ?_⟩) hS ?_
  rotate_left
  · (intro w _; go_simp; try with_reducible rfl)
  refine wpAnyH_take (i := 7) (v := .agg #[.int .u64 (tm : Nat), .int .i64 (tk : Nat), .map (some mb)]) rfl (by kernel_rfl) (by kernel_rfl) (by kernel_rfl) (fun _ _ _ h => h) (yields_blk (by rfl) 250 (.tmp 6) (by rfl) (w.heap.size + 1) 0 3 (fun W h => h) #[.int .u64 (tm : Nat), .int .i64 (tk : Nat), .map (some mb)] (by rfl) (by rfl) Tryz.underlying250 infoRel (Nat.le_refl 3)) hS ?_
  refine wpAnyH_take (i := 8) (v := ?_) rfl (by kernel_rfl) (by kernel_rfl) (by kernel_rfl) (fun _ _ _ h => h) (Or.inl ⟨by rfl, ?_⟩) hS ?_
  rotate_left
  · (intro w _; go_simp; try with_reducible rfl)
  refine wpAnyH_take (i := 9) (v := ?_) rfl (by kernel_rfl) (by kernel_rfl) (by kernel_rfl) (fun _ _ _ h => h) (Or.inl ⟨by rfl, ?_⟩) hS ?_
  rotate_left
  · (intro w _; go_simp; try with_reducible rfl)
  refine wpAnyH_ready (rs := [2]) (by kernel_rfl) (by simp) (AllReadyH.cons rfl (fun K hK => ?_) AllReadyH.nil)
  go_simp
  refine (HN _ HK3.out.1).out.mono ?_
  rintro e w4 ⟨rfl, hb4⟩
  have HB4 : Hid (Below w.heap.size w w4) := HB3.out.drew.trans (hb4.mono HB3.out.drew.size)
  have HO4 : Hid (Blk w4 w.heap.size 147 (opP 0 ByteArray.empty 0 ByteArray.empty)) := (HO3.out.drewN 1).bel hb4
  have HR4 : Hid (Blk w4 (w.heap.size + 1) 250 (relC tm tk mb)) := hS.bel hb4
  clear hb4
  go_simp
  refine hK.out _ _ HR4.out (fun hS4 => ?_)
  clear hK K
  refine wpAnyH_ready (rs := [5]) (by kernel_rfl) (by simp) (AllReadyH.cons rfl (fun K hK => ?_) AllReadyH.nil)
  go_simp
  refine (HV _).out.mono ?_
  rintro e w5 ⟨rfl, hb5⟩
  have HB5 : Hid (Below w.heap.size w w5) := HB4.out.trans (hb5.mono HB4.out.size)
  have HO5 := Lib.hid (HO4.out.bel hb5)
  have HR5 := Lib.hid (HR4.out.bel hb5)
  have HK5 := Lib.hid (HK.out.bel HB5.out)
  clear hb5
  go_simp
  refine hK.out _ _ HR5.out (fun hS5 => ?_)
  clear hK K
  refine wpAnyH_ready (rs := [10]) (by kernel_rfl) (by simp) (AllReadyH.cons rfl (fun K hK => ?_) AllReadyH.nil)
  go_simp
  refine (HSG _ HK5.out.at_ _).out.mono ?_
  rintro e w6 ⟨rfl, hb6⟩
  have HO6 := Lib.hid (HO5.out.bel hb6)
  have HR6 := Lib.hid (HR5.out.bel hb6)
  have HB6 := Lib.hid (HB5.out.trans (hb6.mono HB5.out.size))
  clear hb6
  go_simp
  refine hK.out _ _ HR6.out (fun hS6 => ?_)
  clear hK K
  refine wpAnyH_take (i := 11) (v := ?_) rfl (by kernel_rfl) (by kernel_rfl) (by kernel_rfl) (fun _ _ _ h => h) (Or.inl ⟨by rfl, ?_⟩) hS6 ?_
  rotate_left
  · (intro w _; go_simp; try with_reducible rfl)
  refine wpAnyH_take (i := 12) (v := ?_) rfl (by kernel_rfl) (by kernel_rfl) (by kernel_rfl) (fun _ _ _ h => h) (Or.inl ⟨by rfl, ?_⟩) hS6 ?_
  rotate_left
  · (intro w _; go_simp; try with_reducible rfl)
  refine wpAnyH_ready (rs := [13]) (by kernel_rfl) (by simp) (AllReadyH.cons rfl (fun K hK => ?_) AllReadyH.nil)
  refine step_store_part (by rfl) 147 (.tmp 4) (.tmp 54) (by rfl) w.heap.size 0 HO6.out (opP 0 ByteArray.empty 0 ByteArray.empty) (opP 0 ByteArray.empty 0 ByteArray.empty) (by rfl) (by rfl) (opP_fits _ _ _ _ _ _ _ _) infoOp (opP_one _ _ _ _) (opP_over _ _ _ _ _ _ _ _) ?_
  intro W7 hb7 hc7
  have HO7 := Lib.hid hb7
  have HC7 := Lib.hid hc7
  clear hb7 hc7
  refine hK.out _ _ (Blk.ch HR6.out HC7.out (by simp)) (fun hS7 => ?_)
  clear hK K
  refine wpAnyH_ready (rs := [14]) (by kernel_rfl) (by simp) (AllReadyH.cons rfl (fun K hK => ?_) AllReadyH.nil)
  go_simp
  refine hK.out _ _ hS7 (fun _ => ?_)
  clear hK K
  refine wpAnyH_done (by kernel_rfl) ?_ _
  go_wp2_with fail
  exact bodyPost_ret (results_cell_row2 rfl _ HO7.out rfl Tryz.underlying147 infoOp) rfl ⟨rfl, HB6.out.trans (HC7.out.below HB6.out.size (by simp))⟩
end Go.Proofs.YtmbceheafjadhaaGreat
namespace Go.Proofs.YtmbceheafjadhaaGreat
open Go.RowKit Go.Maps
variable {w : World} {cb kb ctr pb mb h n i out am tk : Nat} {seed tx : ByteArray} {l : Lk} {D : DU}
set_option maxRecDepth 100000 in
set_option maxHeartbeats 2000000 in
theorem stake_used (o : Of) (cl : Nat) (k : CIn w cb kb ctr pb mb seed h n i tx out l am tk D) (hk : o.ok) (hch : o.ch = nameB tx out) (hcom : o.com.size = 16) (hcl : cl < 18446744073709551616) (ho : out < 256) (hxx : tx.size ≤ 1000000) (had : Maps.has D (ku o.ser) = false)
    (hl : l.ok) (h1 : am < 18446744073709551616) (h2 : tk ≤ 1000000) (hz : Maps.size D ≤ 900) (hroom : ∀ D' : DU, allD D' = allD D + o.face → roomE am tk l.unit l.am D' = 0) (hh : h ≤ 4) (hi : 2 ^ h ≤ i) (hi2 : i ≤ 1000) :
    Calls Tryz.prog 159 #[.pointer (some ⟨cb, 0, none⟩), .agg o.cs, .int .u64 cl] w fun e w' => e = .returned (.tuple #[.agg (opP 0 ByteArray.empty 0 ByteArray.empty), .int .i64 14]) ∧ Below w.heap.size w w' := by
  have hnz := nameB_size tx out
  have hok := Of.tkok hk (by rw [hch]; exact hnz) hcom hcl
  have htz : (textB (o.tk cl)).size ≤ 900000 := by rw [textB_size]; show 45 + o.ch.size + o.com.size ≤ _; rw [hch]; omega
  have HTX := fun W => Lib.hid (text_any (o.tk cl) W hok)
  have HSG := fun W f k => Lib.hid (ssigned_used (w := W) (cb := cb) (n := n) (am := am) (tk := tk) (l := l) (D := D) (h := h) (i := i) (seed := seed) (tx := tx) (out := out) (textB (o.tk cl)) f k hh hi hi2)
  have HZ := Lib.hid hz
  have HL := Lib.hid hl
  have HAM := Lib.hid h1
  have HTK := Lib.hid h2
  have hface := hk.face
  have HROOM := Lib.hid hroom
  have HAD := Lib.hid had
  have dcom : ((o.com.size : Int) != 16) = false := by simp; omega
  clear hl h1 h2 hroom hz hok htz hi hi2 hh hnz hcom
  generalize textB (o.tk cl) = txt at *
  unfold Of.tk at *
  have hser := hk.ser
  have HNOM := fun W => Lib.hid (nominal_any o.face o.wins o.many W hk.face hk.many.1 hk.many.2 hk.wins hk.nom)
  clear hk
  obtain ⟨ch, ser, face, wins, many, com, salt, drawn, tkn⟩ := o
  simp only [Of.cs] at hser hch had HNOM ⊢
  have hlt := k.1.lt
  have hne0 : ¬ cb = w.heap.size := by omega
  have hne1 : ¬ cb = w.heap.size + 1 := by omega
  have HKA := Lib.hid k
  have HN := fun W hc => Lib.hid (sname_blk (w := W) (cb := cb) (am := am) (tk := tk) (l := l) kb pb mb hc ho hxx)
  subst hch
  generalize nameB tx out = nm at *
  clear k
  go_enter Tryz.func159, Tryz.ntmps159
  go_wp2_with fail
  refine (HNOM _).out.mono ?_
  rintro e WA ⟨rfl, hWA⟩
  have HOF : Hid (Blk WA w.heap.size 262 #[.string nm, .int .u64 ser, .int .u64 face, .int .u64 wins, .int .u64 many, .string com, .string salt, .int .u64 drawn, .bool tkn]) := by rw [hWA]; exact (Blk.new _ _ _).alloc _
  have HB0 : Hid (Below w.heap.size w WA) := by rw [hWA]; exact ((Below.refl _ _).alloc (Nat.le_refl _) _).alloc (by simp) _
  have HO0 : Hid (Blk WA (w.heap.size + 1) 147 (opP 0 ByteArray.empty 0 ByteArray.empty)) := by rw [hWA]; exact Blk.newAt (by simp)
  have o0 := HOF.out.cell 0
  have o1 := HOF.out.cell 1
  have o2 := HOF.out.cell 2
  have o5 := HOF.out.cell 5
  simp at o0 o1 o2 o5
  have HK0 := Lib.hid (HKA.out.bel HB0.out)
  have c22 : WA.cell? ⟨cb, 22, none⟩ = some (.bool true) := HK0.out.1.cell 22
  have c25 : WA.cell? ⟨cb, 25, none⟩ = some (.map (some mb)) := HK0.out.1.cell 25
  clear hWA
  obtain ⟨cq, hlook⟩ := MpU.look (w := WA.drew) (HK0.out.2.2.2.ch (Ch.drewN [] WA 1) (by simp)) ser hser
  rw [had] at hlook
  go_wp2_with fail
  refine wp_region_still_tail 12 (by kernel_rfl) (by kernel_rfl) ?_
  change wpStill _ _ (World.drew _) (fun a' => wpList _ _ _ _ a' (World.drew _)) _ _
  simp only [List.take_succ_cons, List.take_zero, List.drop_succ_cons, List.drop_zero]
  repeat still_step
  refine wpStill_nil ?_
  clear hlook
  go_wp2_with fail
  have hnn : (nm.toList != nm.toList) = false := by simp
  go_region_held3 (fun w' => w'.cell? ⟨w.heap.size, 0, none⟩ = some (.string nm))
    (first
      | go_keep
      | assumption)
    ((first
      | (go_at_call 154; refine (HN _ (by exact (HK0.out.1.drewN 1).drewN 1)).out.mono ?_; rintro e W5 ⟨rfl, hb5⟩; have HB5 : Hid (Below w.heap.size w W5) := (HB0.out.drew.drew).trans (hb5.mono HB0.out.size); have HK5 := Lib.hid (HKA.out.bel HB5.out); have HO5 : Hid (Blk W5 (w.heap.size + 1) 147 (opP 0 ByteArray.empty 0 ByteArray.empty)) := ((HO0.out.drewN 1).drewN 1).bel hb5; have HOF5 : Hid (Blk W5 w.heap.size 262 #[.string nm, .int .u64 ser, .int .u64 face, .int .u64 wins, .int .u64 many, .string com, .string salt, .int .u64 drawn, .bool tkn]) := ((HOF.out.drewN 1).drewN 1).bel hb5; clear hb5; have p0 := HOF5.out.cell 0; simp at p0)))
  go_wp2_with fail
  refine wp_region_held_drew (S := fun W => Hid (Blk W w.heap.size 262 #[.string nm, .int .u64 ser, .int .u64 face, .int .u64 wins, .int .u64 many, .string com, .string salt, .int .u64 drawn, .bool tkn] ∧ Blk W cb 252 (clC kb pb mb tx out l am tk))) (by kernel_rfl) (Lib.hid ⟨HOF5.out.drewN 1, HK5.out.1.drewN 1⟩) (fun hS => ?_)
  refine wpAnyH_take (i := 0) (v := ?_) rfl (by kernel_rfl) (by kernel_rfl) (by kernel_rfl) (fun _ _ _ h => h) (Or.inl ⟨by rfl, ?_⟩) hS ?_
  rotate_left
  · (intro w _; go_simp; try with_reducible rfl)
  refine wpAnyH_take (i := 1) (v := ?_) rfl (by kernel_rfl) (by kernel_rfl) (by kernel_rfl) (fun _ _ _ h => h) (Or.inl ⟨by rfl, ?_⟩) hS ?_
  rotate_left
  · (intro w _; go_simp; try with_reducible rfl)
  refine wpAnyH_take (i := 2) (v := ?_) rfl (by kernel_rfl) (by kernel_rfl) (by kernel_rfl) (fun _ _ _ h => h) (Or.inl ⟨by rfl, ?_⟩) hS ?_
  rotate_left
  · (intro w _; go_simp; try with_reducible rfl)
  refine wpAnyH_take (i := 3) (v := ?_) rfl (by kernel_rfl) (by kernel_rfl) (by kernel_rfl) (fun _ _ _ h => h) (Or.inl ⟨by rfl, ?_⟩) hS ?_
  rotate_left
  · (intro w _; go_simp; try with_reducible rfl)
  refine wpAnyH_take (i := 4) (v := .agg #[.int .u64 (am : Nat), .int .i64 (tk : Nat), .map (some mb)]) rfl (by kernel_rfl) (by kernel_rfl) (by kernel_rfl) (fun _ _ _ h => h) (yields_blk (by rfl) 250 (.tmp 59) (by rfl) cb 23 3 (t := 252) (cs := clC kb pb mb tx out l am tk) (fun W h => h.out.2) #[.int .u64 (am : Nat), .int .i64 (tk : Nat), .map (some mb)] (by rfl) (by rfl) Tryz.underlying250 infoRel (Nat.le_refl 26)) hS ?_
  refine wpAnyH_take (i := 5) (v := ?_) rfl (by kernel_rfl) (by kernel_rfl) (by kernel_rfl) (fun _ _ _ h => h) (Or.inl ⟨by rfl, ?_⟩) hS ?_
  rotate_left
  · (intro w _; go_simp; try with_reducible rfl)
  refine wpAnyH_take (i := 6) (v := ?_) rfl (by kernel_rfl) (by kernel_rfl) (by kernel_rfl) (fun _ _ _ h => h) (Or.inl ⟨by rfl, ?_⟩) hS ?_
  rotate_left
  · (intro w hS'; have hcell := (show World.cell? _ ⟨_, 1, none⟩ = some (.int .u64 ser) from Blk.cell hS'.out.1 1); go_simp; try with_reducible rfl)
  refine wpAnyH_take (i := 7) (v := ?_) rfl (by kernel_rfl) (by kernel_rfl) (by kernel_rfl) (fun _ _ _ h => h) (Or.inl ⟨by rfl, ?_⟩) hS ?_
  rotate_left
  · (intro w _; go_simp; try with_reducible rfl)
  refine wpAnyH_take (i := 8) (v := ?_) rfl (by kernel_rfl) (by kernel_rfl) (by kernel_rfl) (fun _ _ _ h => h) (Or.inl ⟨by rfl, ?_⟩) hS ?_
  rotate_left
  · (intro w hS'; have hcell := (show World.cell? _ ⟨_, 2, none⟩ = some (.int .u64 face) from Blk.cell hS'.out.1 2); go_simp; try with_reducible rfl)
  refine wpAnyH_ready (rs := [9]) (by kernel_rfl) (by simp) (AllReadyH.cons rfl (fun K hK => ?_) AllReadyH.nil)
  go_simp
  refine (swith_any am tk mb ser face (w := World.drew W5) (HK5.out.2.2.2.ch (Ch.drewN [] W5 1) (by simp)) (by have := HZ.out; omega) hser hface HAD.out).mono ?_
  rintro e w6 ⟨mb', D', rfl, _, hm6, hA6, hz6, hb6⟩
  have hb6' : Below W5.heap.size W5 w6 := ((Below.refl _ _).drew).trans hb6
  have HK6 := Lib.hid (HK5.out.bel hb6')
  have HO6 := Lib.hid (HO5.out.bel hb6')
  have HOF6 := Lib.hid (HOF5.out.bel hb6')
  have HB6 : Hid (Below w.heap.size w w6) := HB5.out.trans (hb6'.mono HB5.out.size)
  have HRM := Lib.hid (sroom_any am tk mb' D' HK6.out.at_ HL.out HAM.out HTK.out hm6 (by have := HZ.out; omega))
  rw [HROOM.out D' hA6] at HRM
  clear hb6 hb6' hm6 hA6 hz6
  go_simp
  refine hK.out _ _ (Lib.hid ⟨HOF6.out, HK6.out.1⟩) (fun hS6 => ?_)
  clear hK K hS
  refine wpAnyH_ready (rs := [10]) (by kernel_rfl) (by simp) (AllReadyH.cons rfl (fun K hK => ?_) AllReadyH.nil)
  go_simp
  refine HRM.out.mono ?_
  rintro e w7 ⟨rfl, hb7⟩
  have HK7 := Lib.hid (HK6.out.bel hb7)
  have HO7 := Lib.hid (HO6.out.bel hb7)
  have HOF7 := Lib.hid (HOF6.out.bel hb7)
  have HB7 : Hid (Below w.heap.size w w7) := HB6.out.trans (hb7.mono HB6.out.size)
  have p5 : w7.cell? ⟨w.heap.size, 5, none⟩ = some (.string com) := HOF7.out.cell 5
  clear hb7 HRM
  go_simp
  refine hK.out _ _ (Lib.hid ⟨HOF7.out, HK7.out.1⟩) (fun hS7 => ?_)
  clear hK K hS6
  refine wpAnyH_take (i := 11) (v := ?_) rfl (by kernel_rfl) (by kernel_rfl) (by kernel_rfl) (fun _ _ _ h => h) (Or.inl ⟨by rfl, ?_⟩) hS7 ?_
  rotate_left
  · (intro w _; go_simp; try with_reducible rfl)
  refine wpAnyH_ready (rs := [12]) (by kernel_rfl) (by simp) (AllReadyH.cons rfl (fun K hK => ?_) AllReadyH.nil)
  go_simp
  refine hK.out _ _ hS7 (fun _ => ?_)
  clear hK K hS7
  refine wpAnyH_done (by kernel_rfl) ?_ _
  go_wp2_with (first
    | (refine wpList_load_blk rfl 262 (.tmp 4) rfl w.heap.size 0 9 HOF7.out #[.string nm, .int .u64 ser, .int .u64 face, .int .u64 wins, .int .u64 many, .string com, .string salt, .int .u64 drawn, .bool tkn] (by rfl) (by rfl) Tryz.underlying262 infoOffer (Nat.le_refl 9) ?_))
  refine (lticket_any nm ser face wins many com salt drawn tkn cl w7).mono ?_
  rintro e w8 ⟨rfl, hb8⟩
  have HK8 := Lib.hid (HK7.out.bel hb8)
  have HO8 := Lib.hid (HO7.out.bel hb8)
  have HB8 : Hid (Below w.heap.size w w8) := HB7.out.trans (hb8.mono HB7.out.size)
  clear hb8
  go_wp2_with (first
    | (refine wpList_store_part rfl 131 (.tmp 12) (.tmp 77) rfl w8.heap.size 0 (cs := zTick.cs) (Blk.new _ _ _) (Tk.cs ⟨nm, ser, face, wins, many, com, cl, ByteArray.empty⟩) (Tk.cs ⟨nm, ser, face, wins, many, com, cl, ByteArray.empty⟩) (by rfl) (by rfl) (Nat.le_refl 8) infoTk (tkcs_one _) (tkcs_over _ _) ?_; intro W9 hb9 hc9; have HX9 := Lib.hid hb9; have HC9 := Lib.hid hc9; clear hb9 hc9))
  have hb89 : Below w8.heap.size w8 W9 := ((Below.refl _ _).alloc (Nat.le_refl _) _).trans (HC9.out.below (by simp) (by simp))
  have HK9 := Lib.hid (HK8.out.bel hb89)
  have HO9 := Lib.hid (HO8.out.bel hb89)
  have HB9 : Hid (Below w.heap.size w W9) := HB8.out.trans (hb89.mono HB8.out.size)
  have hlt8 : w.heap.size + 1 < w8.heap.size := HO8.out.lt
  clear hb89 HC9
  generalize w8.heap.size = tb8 at HX9 hlt8 ⊢
  refine wp_region_held_drew (S := fun W => Hid (Blk W tb8 131 (Tk.cs ⟨nm, ser, face, wins, many, com, cl, ByteArray.empty⟩))) (by kernel_rfl) (Lib.hid (HX9.out.drewN 1)) (fun hS => ?_)
  refine wpAnyH_take (i := 0) (v := ?_) rfl (by kernel_rfl) (by kernel_rfl) (by kernel_rfl) (fun _ _ _ h => h) (Or.inl ⟨by rfl, ?_⟩) hS ?_
  rotate_left
  · (intro w _; go_simp; try with_reducible rfl)
  refine wpAnyH_take (i := 1) (v := .agg #[.string nm, .int .u64 (ser : Nat), .int .u64 (face : Nat), .int .u64 (wins : Nat), .int .u64 (many : Nat), .string com, .int .u64 (cl : Nat), .string ByteArray.empty]) rfl (by kernel_rfl) (by kernel_rfl) (by kernel_rfl) (fun _ _ _ h => h) (yields_blk (by rfl) 131 (.tmp 12) (by rfl) tb8 0 8 (t := 131) (cs := Tk.cs ⟨nm, ser, face, wins, many, com, cl, ByteArray.empty⟩) (fun W h => h.out) #[.string nm, .int .u64 (ser : Nat), .int .u64 (face : Nat), .int .u64 (wins : Nat), .int .u64 (many : Nat), .string com, .int .u64 (cl : Nat), .string ByteArray.empty] (by rfl) (by rfl) Tryz.underlying131 infoTk (Nat.le_refl 8)) hS ?_
  refine wpAnyH_take (i := 3) (v := ?_) rfl (by kernel_rfl) (by kernel_rfl) (by kernel_rfl) (fun _ _ _ h => h) (Or.inl ⟨by rfl, ?_⟩) hS ?_
  rotate_left
  · (intro w _; go_simp; try with_reducible rfl)
  refine wpAnyH_take (i := 4) (v := .agg #[.string nm, .int .u64 (ser : Nat), .int .u64 (face : Nat), .int .u64 (wins : Nat), .int .u64 (many : Nat), .string com, .int .u64 (cl : Nat), .string ByteArray.empty]) rfl (by kernel_rfl) (by kernel_rfl) (by kernel_rfl) (fun _ _ _ h => h) (yields_blk (by rfl) 131 (.tmp 12) (by rfl) tb8 0 8 (t := 131) (cs := Tk.cs ⟨nm, ser, face, wins, many, com, cl, ByteArray.empty⟩) (fun W h => h.out) #[.string nm, .int .u64 (ser : Nat), .int .u64 (face : Nat), .int .u64 (wins : Nat), .int .u64 (many : Nat), .string com, .int .u64 (cl : Nat), .string ByteArray.empty] (by rfl) (by rfl) Tryz.underlying131 infoTk (Nat.le_refl 8)) hS ?_
  refine wpAnyH_take (i := 5) (v := ?_) rfl (by kernel_rfl) (by kernel_rfl) (by kernel_rfl) (fun _ _ _ h => h) (Or.inl ⟨by rfl, ?_⟩) hS ?_
  rotate_left
  · (intro w _; go_simp; try with_reducible rfl)
  refine wpAnyH_take (i := 6) (v := ?_) rfl (by kernel_rfl) (by kernel_rfl) (by kernel_rfl) (fun _ _ _ h => h) (Or.inl ⟨by rfl, ?_⟩) hS ?_
  rotate_left
  · (intro w _; go_simp; try with_reducible rfl)
  refine wpAnyH_ready (rs := [2]) (by kernel_rfl) (by simp) (AllReadyH.cons rfl (fun K hK => ?_) AllReadyH.nil)
  go_simp
  refine (HTX _).out.mono ?_
  rintro e w10 ⟨rfl, hb10⟩
  have hb10' : Below W9.heap.size W9 w10 := ((Below.refl _ _).drew).trans hb10
  have HK10 := Lib.hid (HK9.out.bel hb10')
  have HO10 := Lib.hid (HO9.out.bel hb10')
  have HX10 := Lib.hid (HX9.out.bel hb10')
  have HB10 : Hid (Below w.heap.size w w10) := HB9.out.trans (hb10'.mono HB9.out.size)
  clear hb10 hb10'
  go_simp
  refine hK.out _ _ HX10 (fun hS10 => ?_)
  clear hK K hS
  refine wpAnyH_ready (rs := [7]) (by kernel_rfl) (by simp) (AllReadyH.cons rfl (fun K hK => ?_) AllReadyH.nil)
  go_simp
  refine (HSG _ _ HK10.out.at_).out.mono ?_
  rintro e w11 ⟨rfl, hb11⟩
  have HO11 := Lib.hid (HO10.out.bel hb11)
  have HX11 := Lib.hid (HX10.out.bel hb11)
  have HB11 : Hid (Below w.heap.size w w11) := HB10.out.trans (hb11.mono HB10.out.size)
  clear hb11
  go_simp
  refine hK.out _ _ HX11 (fun hS11 => ?_)
  clear hK K hS10
  refine wpAnyH_take (i := 8) (v := ?_) rfl (by kernel_rfl) (by kernel_rfl) (by kernel_rfl) (fun _ _ _ h => h) (Or.inl ⟨by rfl, ?_⟩) hS11 ?_
  rotate_left
  · (intro w _; go_simp; try with_reducible rfl)
  refine wpAnyH_take (i := 9) (v := ?_) rfl (by kernel_rfl) (by kernel_rfl) (by kernel_rfl) (fun _ _ _ h => h) (Or.inl ⟨by rfl, ?_⟩) hS11 ?_
  rotate_left
  · (intro w _; go_simp; try with_reducible rfl)
  refine wpAnyH_ready (rs := [10]) (by kernel_rfl) (by simp) (AllReadyH.cons rfl (fun K hK => ?_) AllReadyH.nil)
  refine step_store_part (by rfl) 147 (.tmp 6) (.tmp 86) (by rfl) (w.heap.size + 1) 0 HO11.out (opP 0 ByteArray.empty 0 ByteArray.empty) (opP 0 ByteArray.empty 0 ByteArray.empty) (by rfl) (by rfl) (opP_fits _ _ _ _ _ _ _ _) infoOp (opP_one _ _ _ _) (opP_over _ _ _ _ _ _ _ _) ?_
  intro W12 hb12 hc12
  have HO12 := Lib.hid hb12
  have HC12 := Lib.hid hc12
  clear hb12 hc12
  refine hK.out _ _ (Lib.hid (Blk.ch HX11.out HC12.out (by simp; omega))) (fun hS12 => ?_)
  clear hK K hS11
  refine wpAnyH_ready (rs := [11]) (by kernel_rfl) (by simp) (AllReadyH.cons rfl (fun K hK => ?_) AllReadyH.nil)
  go_simp
  refine hK.out _ _ hS12 (fun _ => ?_)
  clear hK K
  refine wpAnyH_done (by kernel_rfl) ?_ _
  go_wp2_with fail
  exact bodyPost_ret (results_cell_row2 rfl _ HO12.out rfl Tryz.underlying147 infoOp) rfl ⟨rfl, HB11.out.trans (HC12.out.below HB11.out.size (by simp))⟩
end Go.Proofs.YtmbceheafjadhaaGreat
namespace Go.Proofs.YtmbceheafjadhaaGreat
open Go.RowKit Go.Maps
/-- the client behind any calls: so many leaves used, so much bound, so many tickets at most -/
structure Cst (w : World) (cb kb ctr pb mb : Nat) (seed : ByteArray) (h n : Nat) (tx : ByteArray) (out : Nat) (l : Lk) (i b z : Nat) : Prop where
  ex : ∃ am tk A D, CIn w cb kb ctr pb mb seed h n i tx out l am tk D ∧ allD D = (A : Nat) ∧ am + tk * l.unit + A = b ∧ tk ≤ n ∧ Maps.size D ≤ z
  bd : b ≤ l.am
  le : i ≤ 2 ^ h
/-- what a call answers: done, and so much more is bound; or refused, and nothing is changed -/
def Rel (f : Int) (i b i' b' x lam : Nat) : Prop := (f = 0 ∧ b' = b + x) ∨ (f ≠ 0 ∧ b' = b ∧ i' = i ∧ (f = 9 → lam < b + x))
/-- the call that is answered: none; a voucher, a token, a ticket, signed -/
def OpG (seed : ByteArray) (h n : Nat) (nm : ByteArray) (f : Int) (op : Array Value) : Prop :=
  (f ≠ 0 ∧ op = opP 0 ByteArray.empty 0 ByteArray.empty) ∨
  (f = 0 ∧ ((∃ am i, i < 2 ^ h ∧ am < 18446744073709551616 ∧ op = opP 2 nm am (signB seed h i (vouchB nm am))) ∨
    (∃ j, j ≤ n ∧ op = opP 3 nm 0 (tokB seed n j)) ∨
    (∃ (t : Tk) (i : Nat), i < 2 ^ h ∧ t.ok ∧ t.ch = nm ∧ t.com.size = 16 ∧ t.sig = ByteArray.empty ∧ op = opT nm (t.signed (signB seed h i (textB t))))))
theorem OpG.size {seed nm : ByteArray} {h n : Nat} {f : Int} {op : Array Value} (k : OpG seed h n nm f op) : op.size = 27 := by
  rcases k with ⟨_, rfl⟩ | ⟨_, ⟨_, _, _, _, rfl⟩ | ⟨_, _, rfl⟩ | ⟨_, _, _, _, _, _, _, rfl⟩⟩ <;> rfl
theorem OpG.one {seed nm : ByteArray} {h n : Nat} {f : Int} {op : Array Value} (k : OpG seed h n nm f op) : op.all (·.oneCell') = true := by
  rcases k with ⟨_, rfl⟩ | ⟨_, ⟨_, _, _, _, rfl⟩ | ⟨_, _, rfl⟩ | ⟨_, _, _, _, _, _, _, rfl⟩⟩ <;> first | exact opP_one _ _ _ _ | exact opT_one _ _
variable {w : World} {cb kb ctr pb mb h n i out b z : Nat} {seed tx : ByteArray} {l : Lk}
theorem Cst.bel {w' : World} (k : Cst w cb kb ctr pb mb seed h n tx out l i b z) (hb : Below w.heap.size w w') : Cst w' cb kb ctr pb mb seed h n tx out l i b z := by
  obtain ⟨⟨am, tk, A, D, k1, k2⟩, k3, k4⟩ := k
  exact ⟨⟨am, tk, A, D, k1.bel hb, k2⟩, k3, k4⟩
theorem Cst.more (k : Cst w cb kb ctr pb mb seed h n tx out l i b z) {z' : Nat} (hz : z ≤ z') : Cst w cb kb ctr pb mb seed h n tx out l i b z' := by
  obtain ⟨⟨am, tk, A, D, k1, k2, k3, k4, k5⟩, k6, k7⟩ := k
  exact ⟨⟨am, tk, A, D, k1, k2, k3, k4, by omega⟩, k6, k7⟩
theorem st_bound (k : Cst w cb kb ctr pb mb seed h n tx out l i b z) (hl : l.ok) (hn : n ≤ 4096) (hz : z ≤ 1000) :
    Calls Tryz.prog 160 #[.pointer (some ⟨cb, 0, none⟩)] w fun e w' => e = .returned (.int .u64 (b : Int)) ∧ Below w.heap.size w w' := by
  obtain ⟨⟨am, tk, A, D, k1, k2, k3, k4, k5⟩, k6, k7⟩ := k
  have := sBound_any k1.at_ hl (by have := hl.am; omega) (by omega) (by omega)
  rwa [bound_yes k2 k3 k6 hl.am.2] at this
theorem pay_st (x : Nat) (k : Cst w cb kb ctr pb mb seed h n tx out l i b z) (hx : x ≤ 1000000) (hl : l.ok) (hl6 : l.am ≤ 1000000) (hn : n ≤ 4096) (hz : z ≤ 1000) (hh : h ≤ 4) (hs : seed.size ≤ 1000000) (ho : out < 256) (hxx : tx.size ≤ 1000000) :
    Calls Tryz.prog 70 #[.pointer (some ⟨cb, 0, none⟩), .int .u64 x] w fun e w' => ∃ op f i' b', e = .returned (.tuple #[.agg op, .int .i64 f]) ∧ OpG seed h n (nameB tx out) f op ∧ Cst w' cb kb ctr pb mb seed h n tx out l i' b' z ∧ Ch [cb, ctr, mb] w w' ∧ Rel f i b i' b' x l.am := by
  obtain ⟨⟨am, tk, A, D, k1, k2, k3, k4, k5⟩, k6, k7⟩ := k
  have KK : ∀ w', Below w.heap.size w w' → Cst w' cb kb ctr pb mb seed h n tx out l i b z := fun w' hb => ⟨⟨am, tk, A, D, k1.bel hb, k2, k3, k4, k5⟩, k6, k7⟩
  have h16 : 2 ^ h ≤ 16 := Nat.pow_le_pow_right (by omega) hh
  rcases Nat.eq_zero_or_pos x with rfl | hx0
  · refine (spay_zero k1.at_ (by omega)).mono ?_
    rintro e w' ⟨rfl, hb⟩
    exact ⟨_, 11, i, b, rfl, .inl ⟨by decide, rfl⟩, KK _ hb, Ch.of_below hb _, .inr ⟨by decide, rfl, rfl, fun h => absurd h (by decide)⟩⟩
  by_cases hr : b + x ≤ l.am
  · have hR := room_yes (am := am + x) (tk := tk) (u := l.unit) k2 (b := b + x) (by omega) hr hl.am.2
    by_cases hi : i < 2 ^ h
    · refine (spay_ok x (am + x) k1 hl (by omega) (by omega) (by omega) hx0 rfl (by omega) hR hh hi hs ho hxx).mono ?_
      rintro e w' ⟨rfl, hk, hc⟩
      exact ⟨_, 0, i + 1, b + x, rfl, .inr ⟨rfl, .inl ⟨am + x, i, hi, by omega, rfl⟩⟩, ⟨⟨am + x, tk, A, D, hk, k2, by omega, k4, k5⟩, hr, by omega⟩, hc.mono (by simp <;> omega), .inl ⟨rfl, rfl⟩⟩
    · refine (spay_used x (am + x) k1 hl (by omega) (by omega) (by omega) hx0 rfl (by omega) hR hh (by omega) (by omega) ho hxx).mono ?_
      rintro e w' ⟨rfl, hb⟩
      exact ⟨_, 14, i, b, rfl, .inl ⟨by decide, rfl⟩, KK _ hb, Ch.of_below hb _, .inr ⟨by decide, rfl, rfl, fun h => absurd h (by decide)⟩⟩
  · have hR := room_no (am := am + x) (tk := tk) (u := l.unit) (lam := l.am) k2 (b := b + x) (by omega) (by omega)
    refine (spay_full x k1.at_ hl (by omega) (by omega) (by omega) hx0 (by omega) hR).mono ?_
    rintro e w' ⟨rfl, hb⟩
    exact ⟨_, 9, i, b, rfl, .inl ⟨by decide, rfl⟩, KK _ hb, Ch.of_below hb _, .inr ⟨by decide, rfl, rfl, fun _ => by omega⟩⟩
theorem give_st (x : Nat) (k : Cst w cb kb ctr pb mb seed h n tx out l i b z) (hx : x ≤ 1000000) (hl : l.ok) (hl6 : l.am ≤ 1000000) (hn : n ≤ 4096) (hz : z ≤ 1000) (ho : out < 256) (hxx : tx.size ≤ 1000000) :
    Calls Tryz.prog 158 #[.pointer (some ⟨cb, 0, none⟩), .int .i64 x] w fun e w' => ∃ op f i' b', e = .returned (.tuple #[.agg op, .int .i64 f]) ∧ OpG seed h n (nameB tx out) f op ∧ Cst w' cb kb ctr pb mb seed h n tx out l i' b' z ∧ Ch [cb, ctr, mb] w w' ∧ Rel f i b i' b' (x * l.unit) l.am := by
  obtain ⟨⟨am, tk, A, D, k1, k2, k3, k4, k5⟩, k6, k7⟩ := k
  have KK : ∀ w', Below w.heap.size w w' → Cst w' cb kb ctr pb mb seed h n tx out l i b z := fun w' hb => ⟨⟨am, tk, A, D, k1.bel hb, k2, k3, k4, k5⟩, k6, k7⟩
  by_cases hx1 : (x : Int) < 1
  · refine (sgive_low x k1 hx1).mono ?_
    rintro e w' ⟨rfl, hb⟩
    exact ⟨_, 1, i, b, rfl, .inl ⟨by decide, rfl⟩, KK _ hb, Ch.of_below hb _, .inr ⟨by decide, rfl, rfl, fun h => absurd h (by decide)⟩⟩
  by_cases hx2 : (n : Int) - tk < x
  · refine (sgive_high x k1 hn k4 hx1 hx2).mono ?_
    rintro e w' ⟨rfl, hb⟩
    exact ⟨_, 1, i, b, rfl, .inl ⟨by decide, rfl⟩, KK _ hb, Ch.of_below hb _, .inr ⟨by decide, rfl, rfl, fun h => absurd h (by decide)⟩⟩
  have hm : (tk + x) * l.unit = tk * l.unit + x * l.unit := Nat.add_mul ..
  by_cases hr : b + x * l.unit ≤ l.am
  · have hR := room_yes (am := am) (tk := tk + x) (u := l.unit) k2 (b := b + x * l.unit) (by omega) hr hl.am.2
    refine (sgive_ok x (tk + x) k1 hl (by omega) (by omega) hn (by omega) (by omega) (by omega) ho hxx hR).mono ?_
    rintro e w' ⟨rfl, hk, hc⟩
    exact ⟨_, 0, i, b + x * l.unit, rfl, .inr ⟨rfl, .inr (.inl ⟨tk + x, by omega, rfl⟩)⟩, ⟨⟨am, tk + x, A, D, hk, k2, by omega, by omega, k5⟩, hr, k7⟩, hc.mono (by simp <;> omega), .inl ⟨rfl, rfl⟩⟩
  · have hR := room_no (am := am) (tk := tk + x) (u := l.unit) (lam := l.am) k2 (b := b + x * l.unit) (by omega) (by omega)
    refine (sgive_full x (tk + x) k1 hl (by omega) (by omega) hn (by omega) (by omega) (by omega) hR).mono ?_
    rintro e w' ⟨rfl, hb⟩
    exact ⟨_, 9, i, b, rfl, .inl ⟨by decide, rfl⟩, KK _ hb, Ch.of_below hb _, .inr ⟨by decide, rfl, rfl, fun _ => by omega⟩⟩
theorem take_st (o : Of) (cl : Nat) (k : Cst w cb kb ctr pb mb seed h n tx out l i b z) (hk : o.ok) (hch : o.ch = nameB tx out) (hcom : o.com.size = 16) (hcl : cl < 18446744073709551616) (hl : l.ok) (hl6 : l.am ≤ 1000000) (hn : n ≤ 4096) (hz : z ≤ 900) (hh : h ≤ 4) (hs : seed.size ≤ 1000000) (ho : out < 256) (hxx : tx.size ≤ 1000000) :
    Calls Tryz.prog 159 #[.pointer (some ⟨cb, 0, none⟩), .agg o.cs, .int .u64 cl] w fun e w' => ∃ op f i' b', e = .returned (.tuple #[.agg op, .int .i64 f]) ∧ OpG seed h n (nameB tx out) f op ∧ Cst w' cb kb ctr pb mb seed h n tx out l i' b' (z + 1) ∧ Ch [cb, ctr, mb] w w' ∧ Rel f i b i' b' o.face l.am := by
  obtain ⟨⟨am, tk, A, D, k1, k2, k3, k4, k5⟩, k6, k7⟩ := k
  have KK : ∀ w', Below w.heap.size w w' → Cst w' cb kb ctr pb mb seed h n tx out l i b (z + 1) := fun w' hb => ⟨⟨am, tk, A, D, k1.bel hb, k2, k3, k4, by omega⟩, k6, k7⟩
  have h16 : 2 ^ h ≤ 16 := Nat.pow_le_pow_right (by omega) hh
  have hface := hk.face
  cases had : Maps.has D (ku o.ser) with
  | true =>
    refine (stake_had o cl k1 hk hch ho hxx had).mono ?_
    rintro e w' ⟨rfl, hb⟩
    exact ⟨_, 7, i, b, rfl, .inl ⟨by decide, rfl⟩, KK _ hb, Ch.of_below hb _, .inr ⟨by decide, rfl, rfl, fun h => absurd h (by decide)⟩⟩
  | false =>
    by_cases hr : b + o.face ≤ l.am
    · have hR : ∀ D' : DU, allD D' = allD D + o.face → roomE am tk l.unit l.am D' = 0 := fun D' hd => room_yes (am := am) (tk := tk) (u := l.unit) (A := A + o.face) (b := b + o.face) (by rw [hd, k2]; simp) (by omega) hr hl.am.2
      by_cases hi : i < 2 ^ h
      · refine (stake_ok o cl k1 hk hch hcom hcl ho hxx had hl (by omega) (by omega) (by omega) hR hh hi hs).mono ?_
        rintro e w' ⟨rfl, hk', hc⟩
        have e1 := k1.2.2.2.sum_put o.ser o.face had
        have e2 := k1.2.2.2.size_put o.ser o.face had
        exact ⟨_, 0, i + 1, b + o.face, rfl, .inr ⟨rfl, .inr (.inr ⟨o.tk cl, i, hi, Of.tkok hk (by rw [hch]; exact nameB_size _ _) hcom hcl, hch, hcom, rfl, rfl⟩)⟩, ⟨⟨am, tk, A + o.face, _, hk', by rw [e1, k2]; simp, by omega, k4, by omega⟩, hr, by omega⟩, hc.mono (by simp <;> omega), .inl ⟨rfl, rfl⟩⟩
      · refine (stake_used o cl k1 hk hch hcom hcl ho hxx had hl (by omega) (by omega) (by omega) hR hh (by omega) (by omega)).mono ?_
        rintro e w' ⟨rfl, hb⟩
        exact ⟨_, 14, i, b, rfl, .inl ⟨by decide, rfl⟩, KK _ hb, Ch.of_below hb _, .inr ⟨by decide, rfl, rfl, fun h => absurd h (by decide)⟩⟩
    · have hR : ∀ D' : DU, allD D' = allD D + o.face → roomE am tk l.unit l.am D' = 9 := fun D' hd => room_no (am := am) (tk := tk) (u := l.unit) (lam := l.am) (A := A + o.face) (b := b + o.face) (by rw [hd, k2]; simp) (by omega) (by omega)
      refine (stake_full o cl k1 hk hch ho hxx had hl (by omega) (by omega) (by omega) hR).mono ?_
      rintro e w' ⟨rfl, hb⟩
      exact ⟨_, 9, i, b, rfl, .inl ⟨by decide, rfl⟩, KK _ hb, Ch.of_below hb _, .inr ⟨by decide, rfl, rfl, fun _ => by omega⟩⟩
end Go.Proofs.YtmbceheafjadhaaGreat
