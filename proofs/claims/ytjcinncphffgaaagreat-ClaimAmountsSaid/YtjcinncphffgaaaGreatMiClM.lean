/- claim.Make of any state. -/
import Derived.Outline
import Derived.OwnWalk
import Derived.Test.YtjcinncphffgaaaGreatMiClB
set_option linter.unusedVariables false
set_option linter.unusedSimpArgs false
namespace Go.Proofs.YtjcinncphffgaaaGreat
section
open Go.RowKit Go.Maps
theorem build_right {s : St} (h : buildE s = 0) (A : Option Addr) (c : Nat) (B : Option Addr) (d : Nat) (PA : Option Addr) (pc : Nat) : rightT (buildX s A c B d PA pc) = true ∧ paysF (worthV s).toNat (wholeV s).toNat = 0 := by
 have h1 : lookF (buildX s A c B d PA pc) (paysF (worthV s).toNat (wholeV s).toNat) = 0 := h
 unfold lookF at h1
 by_cases hp : paysF (worthV s).toNat (wholeV s).toNat = 0
 ·rw [if_pos hp] at h1
  by_cases hr : rightT (buildX s A c B d PA pc) = true
  ·exact ⟨hr, hp⟩
  ·rw [if_neg hr] at h1; exact absurd h1 (by decide)
 ·rw [if_neg hp] at h1; exact absurd h1 hp
theorem buildX_outs (s : St) (A : Option Addr) (c : Nat) (B : Option Addr) (d : Nat) (PA : Option Addr) (pc : Nat) : (buildX s A c B d PA pc).outs = paysL s.lock (worthV s).toNat (wholeV s).toNat := by simp only [buildX]
theorem buildX_cp (s : St) (A1 : Option Addr) (c1 : Nat) (B1 : Option Addr) (d1 : Nat) (P1 : Option Addr) (p1 : Nat) (A : Option Addr) (c : Nat) (B : Option Addr) (d : Nat) (PA : Option Addr) (pc : Nat) : cpT (buildX s A1 c1 B1 d1 P1 p1) A c B d PA pc = buildX s A c B d PA pc := by simp only [buildX, cpT]
theorem build_outs (s : St) : ∀ o ∈ paysL s.lock (worthV s).toNat (wholeV s).toNat, o.am < 18446744073709551616 ∧ o.unit < 18446744073709551616 := by
 have h1 : 0 ≤ worthV s ∧ worthV s < 18446744073709551616 := paidV_bd s s.faces
 have h2 := wholeV_bd s
 intro o ho
 unfold paysL at ho
 split at ho
 ·cases ho
 ·unfold paysO at ho
  rcases List.mem_cons.1 ho with rfl | ho
  ·exact ⟨by show (worthV s).toNat - 10 < _; omega, by show 0 < _; omega⟩
  ·split at ho
   ·rw [List.mem_singleton.1 ho]; exact ⟨by show (wholeV s).toNat - (worthV s).toNat < _; omega, by show 0 < _; omega⟩
   ·cases ho
theorem build_core (s : St) (A : Option Addr) (c : Nat) (B : Option Addr) (d : Nat) (PA : Option Addr) (pc : Nat) : coreX (buildX s A c B d PA pc) = coreX (buildX s none 0 none 0 none 0) := al_core ⟨rfl, rfl, rfl, rfl, rfl, rfl⟩
set_option maxRecDepth 100000 in
set_option maxHeartbeats 1000000 in
theorem mmake_used (s : St) (kb ctr h i : Nat) (seed : ByteArray) (w0 : World) (hf : s.fit) (hS : s.mem w0) (ht9 : s.tops.length ≤ 900) (h0 : buildE s = 0) (hk : KeyAt w0 kb ctr seed h i) (hh : h ≤ 4) (hi : 2 ^ h ≤ i) (hi2 : i ≤ 1000) :
  Calls Tryz.prog 47 #[.agg s.cs, .pointer (some ⟨kb, 0, none⟩)] w0 fun e w' => e = .returned (.tuple #[.agg zTx, .int .i64 14]) ∧ Below w0.heap.size w0 w' := by
 have HBU := fun W (h : Below w0.heap.size w0 W) => Lib.hid (cbuild_any s W hf (hS.bel h) ht9)
 have HSG := fun W t (hb : Below w0.heap.size w0 W) (ht : t.mem W) (hx : ∃ A c B d PA pc, t = buildX s A c B d PA pc) => Lib.hid (csigned_used t kb ctr h i seed W ht (by obtain ⟨A, c, B, d, PA, pc, rfl⟩ := hx; have := (right_t (build_right h0 A c B d PA pc).1).n1.2; omega) (by obtain ⟨A, c, B, d, PA, pc, rfl⟩ := hx; have := (right_t (build_right h0 A c B d PA pc).1).n2.2; omega) (by obtain ⟨A, c, B, d, PA, pc, rfl⟩ := hx; exact hf.wins) (by obtain ⟨A, c, B, d, PA, pc, rfl⟩ := hx; rw [buildX_outs]; exact build_outs s) (by obtain ⟨A, c, B, d, PA, pc, rfl⟩ := hx; exact (build_right h0 A c B d PA pc).1) (hk.bel hb) hh hi hi2)
 rw [h0] at HBU
 clear hf hS h0 hk hh hi hi2
 go_enter Tryz.func47, Tryz.ntmps47
 go_upto_region 1 with fail
 refine wp_gen fun V0 hV0 => ?_
 have HX0 : Hid (Blk V0 w0.heap.size 103 s.cs) := Lib.hid (by rw [hV0]; exact (Blk.new _ _ _).alloc _)
 have HZ0 : Hid (Blk V0 (w0.heap.size + 1) 53 zTx) := Lib.hid (by rw [hV0]; exact Blk.newAt (by simp))
 have HB0 : Hid (Below w0.heap.size w0 V0) := Lib.hid (by rw [hV0]; exact ((Below.refl _ _).alloc (Nat.le_refl _) _).alloc (by simp) _)
 clear hV0
 go_wp2_with (refine wpList_load_blk rfl 103 (.tmp 2) rfl w0.heap.size 0 20 HX0.out s.cs (by rfl) (st_ext s) Tryz.underlying103 infoSta (st_le s) ?_)
 refine (HBU V0 HB0.out).out.mono ?_
 rintro e V1 ⟨t, rfl, ho, _, hb⟩
 obtain ⟨hr, hx⟩ := ho (by first | rfl | trivial)
 have HM1 := Lib.hid hr.mem
 have HX1 := Lib.hid hx
 have HZ1 := Lib.hid (HZ0.out.bel hb)
 have HB1 : Hid (Below w0.heap.size w0 V1) := Lib.hid (HB0.out.trans (hb.mono HB0.out.size))
 clear ho hr hx hb HBU HX0 HZ0 HB0
 go_wp2_with (first
  | (refine wpList_store_part rfl 53 (.tmp 6) (.tmp 11) rfl V1.heap.size 0 (cs := zTx) (Blk.new _ _ _) t.cs t.cs (by rfl) (by rfl) (Nat.le_refl 6) infoTx (txncs_one t) (txn_over t rfl) ?_; intro V2 hb2 hc2; have hb := bel_st' hc2; have H6 := Lib.hid hb2; have HZ2 := Lib.hid (HZ1.out.bel hb); have HM2 := Lib.hid (HM1.out.bel hb); have HB2 : Hid (Below w0.heap.size w0 V2) := Lib.hid (HB1.out.trans (hb.mono HB1.out.size)); clear hb2 hc2 hb HZ1 HB1 HM1)
  | (refine wpList_load_blk rfl 53 (.tmp 6) rfl V1.heap.size 0 6 H6.out t.cs (by rfl) (txn_ext _) Tryz.underlying53 infoTx (Nat.le_refl 6) ?_))
 refine (HSG V2 t HB2.out HM2.out HX1.out).out.mono ?_
 rintro e V3 ⟨rfl, hb⟩
 have HZ3 := Lib.hid (HZ2.out.bel hb)
 have HB3 : Hid (Below w0.heap.size w0 V3) := Lib.hid (HB2.out.trans (hb.mono HB2.out.size))
 clear hb HSG HZ2 HB2 HM2 H6
 go_wp2_with (refine wpList_store_part rfl 53 (.tmp 4) (.tmp 20) rfl (w0.heap.size + 1) 0 HZ3.out zTx zTx (by rfl) (by rfl) (Nat.le_refl 6) infoTx zTx_one (txn_over zT rfl) ?_; intro V4 hb4 hc4; have HZ4 := Lib.hid hb4; have HC4 := Lib.hid hc4; clear hb4 hc4)
 exact bodyPost_ret (results_cell_row2 rfl _ HZ4.out rfl Tryz.underlying53 infoTx) rfl ⟨rfl, HB3.out.trans (HC4.out.below HB3.out.size (by simp))⟩
set_option maxRecDepth 100000 in
set_option maxHeartbeats 1000000 in
theorem mmake_ok (s : St) (kb ctr h i : Nat) (seed : ByteArray) (w0 : World) (hf : s.fit) (hS : s.mem w0) (ht9 : s.tops.length ≤ 900) (h0 : buildE s = 0) (hk : KeyAt w0 kb ctr seed h i) (hh : h ≤ 4) (hi : i < 2 ^ h) (hs : seed.size ≤ 1000000) :
  Calls Tryz.prog 47 #[.agg s.cs, .pointer (some ⟨kb, 0, none⟩)] w0 fun e w' => ∃ A c B d PA pc, e = .returned (.tuple #[.agg (sgA (buildX s A c B d PA pc) (signB seed h i (coreX (buildX s none 0 none 0 none 0)))).cs, .int .i64 0]) ∧ TxRows w0.heap.size w' (sgA (buildX s A c B d PA pc) (signB seed h i (coreX (buildX s none 0 none 0 none 0)))) ∧ KeyAt w' kb ctr seed h (i + 1) ∧ Ch [ctr] w0 w' := by
 have HBU := fun W (h : Below w0.heap.size w0 W) => Lib.hid (cbuild_any s W hf (hS.bel h) ht9)
 have HSG := fun W t (hb : Below w0.heap.size w0 W) (ht : t.mem W) (hz : t.nz) (hx : ∃ A c B d PA pc, t = buildX s A c B d PA pc) => Lib.hid (csigned_gen t kb ctr h i seed W ht hz (by obtain ⟨A, c, B, d, PA, pc, rfl⟩ := hx; exact hf.wins) (by obtain ⟨A, c, B, d, PA, pc, rfl⟩ := hx; rw [buildX_outs]; exact build_outs s) (by obtain ⟨A, c, B, d, PA, pc, rfl⟩ := hx; exact (build_right h0 A c B d PA pc).1) (hk.bel hb) hh hi hs)
 have HCO : Hid (∀ A c B d PA pc, coreX (buildX s A c B d PA pc) = coreX (buildX s none 0 none 0 none 0)) := Lib.hid (build_core s)
 have HCT : Hid (ctr < w0.heap.size) := Lib.hid (by obtain ⟨_, _, k2, _⟩ := hk; exact k2.lt)
 rw [h0] at HBU
 clear hf hS h0 hk hh hi
 go_enter Tryz.func47, Tryz.ntmps47
 go_upto_region 1 with fail
 refine wp_gen fun V0 hV0 => ?_
 have HX0 : Hid (Blk V0 w0.heap.size 103 s.cs) := Lib.hid (by rw [hV0]; exact (Blk.new _ _ _).alloc _)
 have HZ0 : Hid (Blk V0 (w0.heap.size + 1) 53 zTx) := Lib.hid (by rw [hV0]; exact Blk.newAt (by simp))
 have HB0 : Hid (Below w0.heap.size w0 V0) := Lib.hid (by rw [hV0]; exact ((Below.refl _ _).alloc (Nat.le_refl _) _).alloc (by simp) _)
 clear hV0
 go_wp2_with (refine wpList_load_blk rfl 103 (.tmp 2) rfl w0.heap.size 0 20 HX0.out s.cs (by rfl) (st_ext s) Tryz.underlying103 infoSta (st_le s) ?_)
 refine (HBU V0 HB0.out).out.mono ?_
 rintro e V1 ⟨t, rfl, ho, _, hb⟩
 obtain ⟨hr, hx⟩ := ho (by first | rfl | trivial)
 have HM1 := Lib.hid hr.mem
 have HN1 := Lib.hid hr.nz
 have HX1 := Lib.hid hx
 have HZ1 := Lib.hid (HZ0.out.bel hb)
 have HB1 : Hid (Below w0.heap.size w0 V1) := Lib.hid (HB0.out.trans (hb.mono HB0.out.size))
 clear ho hr hx hb HBU HX0 HZ0 HB0
 go_wp2_with (first
  | (refine wpList_store_part rfl 53 (.tmp 6) (.tmp 11) rfl V1.heap.size 0 (cs := zTx) (Blk.new _ _ _) t.cs t.cs (by rfl) (by rfl) (Nat.le_refl 6) infoTx (txncs_one t) (txn_over t rfl) ?_; intro V2 hb2 hc2; have hb := bel_st' hc2; have H6 := Lib.hid hb2; have HZ2 := Lib.hid (HZ1.out.bel hb); have HM2 := Lib.hid (HM1.out.bel hb); have HB2 : Hid (Below w0.heap.size w0 V2) := Lib.hid (HB1.out.trans (hb.mono HB1.out.size)); clear hb2 hc2 hb HZ1 HB1 HM1)
  | (refine wpList_load_blk rfl 53 (.tmp 6) rfl V1.heap.size 0 6 H6.out t.cs (by rfl) (txn_ext _) Tryz.underlying53 infoTx (Nat.le_refl 6) ?_))
 have hz2 := HZ2.out.lt
 refine (HSG V2 t HB2.out HM2.out HN1.out HX1.out).out.mono ?_
 rintro e V3 ⟨A, c, B, d, PA, pc, rfl, hr, hk, hc⟩
 obtain ⟨A1, c1, B1, d1, P1, p1, htx⟩ := HX1.out
 have hcp : cpT t A c B d PA pc = buildX s A c B d PA pc := by rw [htx]; exact buildX_cp ..
 have hco : coreX t = coreX (buildX s none 0 none 0 none 0) := by rw [htx]; exact HCO.out A1 c1 B1 d1 P1 p1
 rw [hcp, hco] at hr
 rw [hcp, hco]
 obtain ⟨u, hu⟩ : ∃ u, u = sgA (buildX s A c B d PA pc) (signB seed h i (coreX (buildX s none 0 none 0 none 0))) := ⟨_, rfl⟩
 rw [← hu] at hr ⊢
 have HU := Lib.hid hu
 have HZ3 : Hid (Blk V3 (w0.heap.size + 1) 53 zTx) := Lib.hid (HZ2.out.ch hc (by have := HCT.out; simp; omega))
 have HR3 := Lib.hid (hr.mono HB2.out.size)
 have HK3 := Lib.hid hk
 have HC3 : Hid (Ch [ctr] w0 V3) := Lib.hid ((Ch.of_below HB2.out _).trans hc)
 clear htx hcp hco hr hk hc hu HSG HZ2 HB2 HM2 H6 HX1
 go_wp2_with (refine wpList_store_part rfl 53 (.tmp 4) (.tmp 20) rfl (w0.heap.size + 1) 0 HZ3.out u.cs u.cs (by rfl) (by rfl) (Nat.le_refl 6) infoTx (txncs_one u) (txn_over u rfl) ?_; intro V4 hb4 hc4; have HZ4 := Lib.hid hb4; have HC4 := Lib.hid hc4; clear hb4 hc4)
 refine bodyPost_ret (results_cell_row2 rfl _ HZ4.out rfl Tryz.underlying53 infoTx) rfl ⟨A, c, B, d, PA, pc, ?_⟩
 rw [← HU.out]
 exact ⟨rfl, HR3.out.ch HC4.out HZ3.out.kdT (by decide) (by decide) (by decide), HK3.out.kd HC4.out HZ3.out.kdT (by decide) (by decide) (by decide), ((HC3.out.mono (S' := [ctr, w0.heap.size + 1]) (by simp)).trans (HC4.out.mono (by simp))).mono (by simp)⟩
end
end Go.Proofs.YtjcinncphffgaaaGreat
