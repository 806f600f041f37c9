/- claim.Signed of any transaction that may be, a leaf being left. -/
import Derived.Outline
import Derived.OwnWalk
import Derived.Laws.OwnMore
import Derived.Test.YtjcinncphffgaaaGreatMiG38
import Derived.Test.YtjcinncphffgaaaGreatMiK1
import Derived.Test.YtjcinncphffgaaaGreatMiK4
import Derived.Test.YtjcinncphffgaaaGreatMiSgD
set_option linter.unusedVariables false
set_option linter.unusedSimpArgs false
namespace Go.Proofs.YtjcinncphffgaaaGreat
section
open Go.RowKit Go.Maps
theorem KeyAt.kd {w w' : World} {kb cb h i g : Nat} {t : TypeId} {seed : ByteArray} (k : KeyAt w kb cb seed h i) (hc : Ch [g] w w') (hg : KdT w g t) (h1 : t ≠ 68) (h2 : t ≠ 160) (h3 : t ≠ 9) : KeyAt w' kb cb seed h i := by
 obtain ⟨vl, k1, k2, k3⟩ := id k
 refine k.ch hc ?_ ?_ ?_
 ·simp only [List.mem_singleton]; exact k1.kdT.ne_ hg (Ne.symm h1)
 ·simp only [List.mem_singleton]; exact k2.kdT.ne_ hg (Ne.symm h2)
 ·intro g' hm cs fr he
  rw [List.mem_singleton.1 hm] at he
  obtain ⟨c, fz, hg⟩ := hg
  rw [hg] at he
  injection he with he
  injection he with _ he
  exact h3 he
/-- a list whose elements have a third cell survives a write to a counter's block -/
theorem Sl.ctr {α : Type} {w w' : World} {B k kb ctr h i : Nat} {seed : ByteArray} {enc : α → List Value} {A : Option Addr} {l : List α} (hs : Sl w B k enc A l) (hk : KeyAt w kb ctr seed h i) (hx : ∀ x, 2 < (enc x).length) (hc : Ch [ctr] w w') (hB : B ≤ w.heap.size) : Sl w' B k enc A l := by
 obtain ⟨_, _, h2, _⟩ := hk
 exact hs.chH h2 (fun x o => ⟨2, (enc x)[2]'(hx x), List.getElem?_eq_getElem (hx x), by
  rw [Array.getElem?_eq_none (by show 2 ≤ o + 2; omega)]; simp⟩) hc hB
/-- one cell of one element of a list is written -/
theorem flat_set {α : Type} {enc : α → List Value} {k : Nat} (hk : ∀ x, (enc x).length = k) (l : List α) (i : Nat) (y : α) (q : Nat) (v : Value) (hi : i < l.length) (hq : q < k) (hy : enc y = (enc l[i]).set q v) : (l.flatMap enc).set (i * k + q) v = (l.set i y).flatMap enc := by
 have hlen : (l.flatMap enc).length = l.length * k := flatMap_len enc k hk l
 have hle : (i + 1) * k ≤ l.length * k := Nat.mul_le_mul_right k (by omega)
 rw [Nat.add_mul, Nat.one_mul] at hle
 apply List.ext_getElem?
 intro j
 rw [set_get hk l i y hi j, List.getElem?_set]
 by_cases h1 : i * k ≤ j ∧ j < i * k + k
 ·rw [if_pos h1, hy, List.getElem?_set]
  by_cases e : i * k + q = j
  ·subst e
   rw [if_pos rfl, if_pos (by omega), if_pos (by omega), if_pos (by rw [hk]; omega)]
  ·rw [if_neg e, if_neg (by omega)]
   have hz := hk l[i]
   have h2 : (enc l[i])[j - i * k]? = some ((enc l[i])[j - i * k]'(by omega)) := List.getElem?_eq_getElem _
   have h3 := flatMap_get enc k hk l i (j - i * k) l[i] _ (List.getElem?_eq_getElem hi) h2
   rw [show i * k + (j - i * k) = j by omega] at h3
   rw [h3, h2]
 ·rw [if_neg h1, if_neg (by omega)]
/-- all inputs signed -/
def sgA (u : Txn) (sig : ByteArray) : Txn := ⟨u.A, u.ins.map (sgI sig), u.c, u.B, u.outs, u.d, u.p⟩
theorem sgA_cs (u : Txn) (sig : ByteArray) : (sgA u sig).cs = u.cs := by
 show #[_, _, _, _, _, _] = #[_, _, _, _, _, _]
 simp [sgA]
/-- a transaction whose first inputs are signed -/
structure SgS (w : World) (u : Txn) (sig : ByteArray) (kb ctr : Nat) (seed : ByteArray) (h i : Nat) (k : Nat) (W : World) : Prop where
 row : W.ownsRow w.heap.size 59 4 (.slice u.A u.ins.length u.c) u.ins.length ((sgK sig u.ins k).flatMap Inp.cl)
 r2 : W.ownsRow w.heap.size 81 9 (.slice u.B u.outs.length u.d) u.outs.length (u.outs.flatMap Ou.cl)
 r3 : W.ownsRow w.heap.size 122 10 (.slice u.p.A u.p.l.length u.p.c) u.p.l.length (u.p.l.flatMap Wn.cl)
 nz : u.nz
 key : KeyAt W kb ctr seed h i
 hd : Blk W w.heap.size 53 u.cs
 res : Blk W (w.heap.size + 1) 53 zTx
 ch : Ch [ctr] w W
section
variable {w : World} {u : Txn} {sig : ByteArray} {kb ctr : Nat} {seed : ByteArray} {h i k : Nat} {W W' : World}
theorem SgS.step (s : SgS w u sig kb ctr seed h i k W) (hk : k < u.ins.length) : ∃ g, u.A = some ⟨g, 0, none⟩ ∧ (∃ v, W.cell? ⟨g, k * 4 + 3, none⟩ = some v) ∧ W.frozen? ⟨g, k * 4 + 3, none⟩ = false ∧ SgS w u sig kb ctr seed h i (k + 1) (W.setCell ⟨g, k * 4 + 3, none⟩ (.string sig)) := by
 obtain ⟨g, cap, hv, hg1, hg2⟩ := s.row.form (by omega)
 have hA : u.A = some ⟨g, 0, none⟩ := by injection hv
 have hr := s.row
 rw [hA] at hr
 have hlen : ((sgK sig u.ins k).flatMap Inp.cl).length = u.ins.length * 4 := hr.1
 have hlt : k * 4 + 3 < u.ins.length * 4 := by omega
 obtain ⟨hs, hgr⟩ := hr.stored (k * 4 + 3) (.string sig)
 have hc : Ch [g] W (W.setCell ⟨g, k * 4 + 3, none⟩ (.string sig)) := Ch.of_grown hgr
 have hkd : KdT W g 59 := Lib.ownsRow_kind hr g rfl
 have hsk := sgK_len sig u.ins k (by omega)
 have hk' : k < (sgK sig u.ins k).length := by omega
 have hat : (sgK sig u.ins k)[k] = u.ins[k] := by
  have h1 := sgK_at sig u.ins k hk
  rw [List.getElem?_eq_getElem hk'] at h1
  exact Option.some.inj h1
 have e := flat_set (enc := Inp.cl) (k := 4) (fun _ => rfl) (sgK sig u.ins k) k (sgI sig u.ins[k]) 3 (.string sig) hk' (by omega) (by rw [hat]; exact sgI_cl sig _)
 rw [sgK_set sig u.ins k hk] at e
 rw [e] at hs
 refine ⟨g, hA, ⟨_, (hr.cellAt _ hlt).trans (List.getElem?_eq_getElem (by omega))⟩, hr.frozenAt _, ⟨by rw [hA]; exact hs, own_chT s.r2 hc hkd (by decide), own_chT s.r3 hc hkd (by decide), s.nz, s.key.kd hc hkd (by decide) (by decide) (by decide), s.hd.ch hc (by simp only [List.mem_singleton]; exact s.hd.kdT.ne_ hkd (by decide)), s.res.ch hc (by simp only [List.mem_singleton]; exact s.res.kdT.ne_ hkd (by decide)), ?_⟩⟩
 exact (s.ch.mono (S' := [ctr, g]) (by simp)).trans (hc.mono (by simp)) |>.mono (by simp; omega)
theorem SgS.rows (s : SgS w u sig kb ctr seed h i u.ins.length W) (hc : Ch [w.heap.size + 1] W W') : TxRows w.heap.size W' (sgA u sig) ∧ KeyAt W' kb ctr seed h i ∧ Ch [ctr] w W' := by
 have hk := s.res.kdT
 have h1 := own_chT s.row hc hk (by decide)
 rw [sgK_end] at h1
 refine ⟨⟨?_, own_chT s.r2 hc hk (by decide), own_chT s.r3 hc hk (by decide), ⟨s.nz.a, s.nz.b, s.nz.p⟩⟩, s.key.kd hc hk (by decide) (by decide) (by decide), ?_⟩
 ·show W'.ownsRow _ _ _ (.slice u.A (u.ins.map (sgI sig)).length u.c) (u.ins.map (sgI sig)).length _
  rw [List.length_map]; exact h1
 ·exact (s.ch.mono (S' := [ctr, w.heap.size + 1]) (by simp)).trans (hc.mono (by simp)) |>.mono (by simp)
end
theorem sgK_zero (sig : ByteArray) (l : List Inp) : sgK sig l 0 = l := by unfold sgK; simp
set_option maxRecDepth 100000 in
set_option maxHeartbeats 2000000 in
theorem csigned_gen (t : Txn) (kb ctr h i : Nat) (seed : ByteArray) (w : World) (hm : t.mem w) (hz : t.nz) (hlw : t.p.l.length ≤ 1000) (ho : ∀ o ∈ t.outs, o.am < 18446744073709551616 ∧ o.unit < 18446744073709551616) (hr : rightT t = true) (hk : KeyAt w kb ctr seed h i) (hh : h ≤ 4) (hi : i < 2 ^ h) (hs : seed.size ≤ 1000000) :
  Calls Tryz.prog 22 #[.agg t.cs, .pointer (some ⟨kb, 0, none⟩)] w fun e w' => ∃ A c B d PA pc, e = .returned (.tuple #[.agg (sgA (cpT t A c B d PA pc) (signB seed h i (coreX t))).cs, .int .i64 0]) ∧ TxRows w.heap.size w' (sgA (cpT t A c B d PA pc) (signB seed h i (coreX t))) ∧ KeyAt w' kb ctr seed h (i + 1) ∧ Ch [ctr] w w' := by
 have hl4 := (right_t hr).n1.2
 have ho4 := (right_t hr).n2.2
 have HR := fun W (h : Below w.heap.size w W) => Lib.hid (right_gen t W (hm.bel h) (by omega) (by omega) hlw)
 have HCR := fun W (h : Below w.heap.size w W) => Lib.hid (core_gen t W (hm.bel h) (by omega) (by omega) hlw ho)
 have HSG := fun W (hk : KeyAt W kb ctr seed h i) => Lib.hid (ksign_ok kb ctr seed (coreX t) h i W hh hi hs (by have := corex_size t; omega) hk)
 rw [hr] at HR
 have HM := Lib.hid hm
 have HK := Lib.hid hk
 have HNZ := Lib.hid hz
 have HCT : Hid (ctr < w.heap.size) := Lib.hid (by obtain ⟨_, _, k2, _⟩ := hk; exact k2.lt)
 have HL : Hid (t.ins.length ≤ 1000 ∧ t.outs.length ≤ 1000 ∧ t.p.l.length ≤ 1000) := Lib.hid ⟨by omega, by omega, hlw⟩
 have HSC : ∀ (A : Option Addr) (c : Nat) (B : Option Addr) (d : Nat) (PA : Option Addr) (pc : Nat) (sig : ByteArray), Hid ((sgA (cpT t A c B d PA pc) sig).cs = (cpT t A c B d PA pc).cs) := fun A c B d PA pc sig => Lib.hid (sgA_cs _ _)
 clear hm hr hk hz hh hi hs ho ho4 hlw
 generalize signB seed h i (coreX t) = sig at *
 generalize coreX t = cr at *
 have HB0 : Hid (Below w.heap.size w ((w.alloc (.cells t.cs 53)).alloc (.cells zTx 53))) := ((Below.refl _ _).alloc (Nat.le_refl _) _).alloc (by simp) _
 have HT0 : Hid (Blk ((w.alloc (.cells t.cs 53)).alloc (.cells zTx 53)) w.heap.size 53 t.cs) := (Blk.new _ _ _).alloc _
 have HZ0 : Hid (Blk ((w.alloc (.cells t.cs 53)).alloc (.cells zTx 53)) (w.heap.size + 1) 53 zTx) := Blk.newAt (by simp)
 go_enter Tryz.func22, Tryz.ntmps22
 go_wp2_with (first
  | (refine wpList_load_blk rfl 53 (.tmp 2) rfl w.heap.size 0 6 HT0.out t.cs (by rfl) (txn_ext t) Tryz.underlying53 infoTx (Nat.le_refl 6) ?_))
 refine (HR _ HB0.out).out.mono ?_
 rintro e w1 ⟨rfl, hb1⟩
 have HB1 : Hid (Below w.heap.size w w1) := HB0.out.trans (hb1.mono HB0.out.size)
 have HT1 := Lib.hid (HT0.out.bel hb1)
 have HZ1 := Lib.hid (HZ0.out.bel hb1)
 clear hb1 HB0 HT0 HZ0
 go_wp2_with (first
  | (refine wpList_load_blk rfl 53 (.tmp 2) rfl w.heap.size 0 6 HT1.out t.cs (by rfl) (txn_ext t) Tryz.underlying53 infoTx (Nat.le_refl 6) ?_))
 refine (HCR _ HB1.out).out.mono ?_
 rintro e w2 ⟨rfl, hb2⟩
 have HB2 : Hid (Below w.heap.size w w2) := HB1.out.trans (hb2.mono HB1.out.size)
 have HT2 := Lib.hid (HT1.out.bel hb2)
 have HZ2 := Lib.hid (HZ1.out.bel hb2)
 clear hb2 HT1 HZ1 HB1 HR HCR
 go_wp2_with fail
 refine (HSG _ (HK.out.bel HB2.out)).out.mono ?_
 rintro e w3 ⟨rfl, hk3, hc3⟩
 have HK3 := Lib.hid hk3
 have HT3 : Hid (Blk w3 w.heap.size 53 t.cs) := Lib.hid (Blk.ch HT2.out hc3 (by have := HCT.out; simp; omega))
 have HZ3 : Hid (Blk w3 (w.heap.size + 1) 53 zTx) := Lib.hid (Blk.ch HZ2.out hc3 (by have := HCT.out; simp; omega))
 have hw3 : w.heap.size ≤ w3.heap.size := Nat.le_trans HB2.out.size hc3.size
 have hs1 : Sl w3 w.heap.size 4 Inp.cl t.A t.ins := (HM.out.ins.below HB2.out).ctr (HK.out.bel HB2.out) (fun _ => by show 2 < 4; decide) hc3 HB2.out.size
 have hs2 : Sl w3 w.heap.size 9 Ou.cl t.B t.outs := (HM.out.outs.below HB2.out).ctr (HK.out.bel HB2.out) (fun _ => by show 2 < 9; decide) hc3 HB2.out.size
 have hs3 : Sl w3 w.heap.size 10 Wn.cl t.p.A t.p.l := (HM.out.wins.below HB2.out).ctr (HK.out.bel HB2.out) (fun _ => by show 2 < 10; decide) hc3 HB2.out.size
 have HC1 := fun W (hc : Ch [w.heap.size] w3 W) => Lib.hid (clone_inG t.A t.ins t.c W ((hs1.below (hc.below hw3 (by simp))).more (Nat.le_trans hw3 hc.size)) HL.out.1 HNZ.out.a)
 have HC2 := fun W (hc : Ch [w.heap.size] w3 W) => Lib.hid (clone_outG t.B t.outs t.d W ((hs2.below (hc.below hw3 (by simp))).more (Nat.le_trans hw3 hc.size)) HL.out.2.1 HNZ.out.b)
 have HC3 := fun W (hc : Ch [w.heap.size] w3 W) => Lib.hid (clone_wnG t.p.A t.p.l t.p.c W ((hs3.below (hc.below hw3 (by simp))).more (Nat.le_trans hw3 hc.size)) HL.out.2.2 HNZ.out.p)
 have HCC : Hid (Ch [ctr] w w3) := Lib.hid ((Ch.of_below HB2.out _).trans hc3)
 clear hk3 hc3 hs1 hs2 hs3 HM HK HT2 HZ2 HB2 HSG
 go_wp2_with fail
 have HBD : Hid (Ch [w.heap.size] w3 (World.drew w3)) := Lib.hid (Ch.drewN _ _ 1)
 have HSZ : Hid (w.heap.size ≤ (World.drew w3).heap.size) := Lib.hid hw3
 have p0 : w3.cell? ⟨w.heap.size, 0, none⟩ = some (.slice t.A t.ins.length t.c) := HT3.out.cell 0
 have p1 : w3.cell? ⟨w.heap.size, 1, none⟩ = some (.slice t.B t.outs.length t.d) := HT3.out.cell 1
 refine wp_region_any (by kernel_rfl) ?_
 try (change wpAny _ _ _ _ _ _ _ (World.drew _))
 refine wpAny_take (i := 0) (v := ?_) rfl (by kernel_rfl) (by kernel_rfl) (by kernel_rfl) (fun _ _ _ h => h) (Or.inl ⟨by rfl, ?_⟩) ?_
 rotate_left
 ·(intro w; go_simp; try with_reducible rfl)
 refine wpAny_take (i := 3) (v := ?_) rfl (by kernel_rfl) (by kernel_rfl) (by kernel_rfl) (fun _ _ _ h => h) (Or.inl ⟨by rfl, ?_⟩) ?_
 rotate_left
 ·(intro w; go_simp; try with_reducible rfl)
 refine wpAny_ready (rs := [1, 4]) (by kernel_rfl) (by simp) (AllReady.cons rfl (fun K hK => ?_) (AllReady.cons rfl (fun K hK => ?_) AllReady.nil))
 ·go_simp
  refine hK _ _ ?_
  clear hK K
  refine wpAny_ready (rs := [2, 4]) (by kernel_rfl) (by simp) (AllReady.cons rfl (fun K hK => ?_) (AllReady.cons rfl (fun K hK => ?_) AllReady.nil))
  ·go_simp
   refine (HC1 (World.drew w3) HBD.out).out.mono ?_
   rintro e V1 ⟨A1, c1, rfl, hO, hn, hb⟩
   have HN1 := Lib.hid hn
   have HO1 := Lib.hid (hO.mono HSZ.out)
   have HB1 : Hid (Ch [w.heap.size] w3 V1) := Lib.hid (HBD.out.trans (Ch.of_below hb _))
   have HT1 : Hid (Blk V1 w.heap.size 53 t.cs) := Lib.hid (Blk.bel (w := World.drew w3) HT3.out hb)
   have HZ1 : Hid (Blk V1 (w.heap.size + 1) 53 zTx) := Lib.hid (Blk.bel (w := World.drew w3) HZ3.out hb)
   have q1 : V1.cell? ⟨w.heap.size, 1, none⟩ = some (.slice t.B t.outs.length t.d) := HT1.out.cell 1
   clear hb hO hn p0 p1 HBD HSZ
   go_simp
   refine hK _ _ ?_
   clear hK K
   refine wpAny_ready (rs := [4]) (by kernel_rfl) (by simp) (AllReady.cons rfl (fun K hK => ?_) AllReady.nil)
   go_simp
   refine hK _ _ ?_
   clear hK K
   refine wpAny_take (i := 6) (v := ?_) rfl (by kernel_rfl) (by kernel_rfl) (by kernel_rfl) (fun _ _ _ h => h) (Or.inl ⟨by rfl, ?_⟩) ?_
   rotate_left
   ·(intro w; go_simp; try with_reducible rfl)
   refine wpAny_ready (rs := [5]) (by kernel_rfl) (by simp) (AllReady.cons rfl (fun K hK => ?_) AllReady.nil)
   go_simp
   refine (HC2 V1 HB1.out).out.mono ?_
   rintro e V2 ⟨B1, d1, rfl, hO, hn, hb⟩
   have HN2 := Lib.hid hn
   have HO2 := Lib.hid (hO.mono (Nat.le_trans hw3 HB1.out.size))
   have HO1b := Lib.hid (own_belT HO1.out hb)
   have HB2 : Hid (Ch [w.heap.size] w3 V2) := Lib.hid (HB1.out.trans (Ch.of_below hb _))
   have HT2 := Lib.hid (HT1.out.bel hb)
   have HZ2 := Lib.hid (HZ1.out.bel hb)
   have r0 : V2.cell? ⟨w.heap.size, 0, none⟩ = some (.slice t.A t.ins.length t.c) := HT2.out.cell 0
   have r1 : V2.cell? ⟨w.heap.size, 1, none⟩ = some (.slice t.B t.outs.length t.d) := HT2.out.cell 1
   have f0 : V2.frozen? ⟨w.heap.size, 0, none⟩ = false := HT2.out.frozen 0
   have f1 : V2.frozen? ⟨w.heap.size, 1, none⟩ = false := HT2.out.frozen 1
   clear hb hO hn q1 HO1 HT1 HZ1
   go_simp
   refine hK _ _ ?_
   clear hK K
   refine wpAny_ready (rs := [7]) (by kernel_rfl) (by simp) (AllReady.cons rfl (fun K hK => ?_) AllReady.nil)
   go_simp
   refine hK _ _ ?_
   clear hK K
   refine wpAny_take (i := 8) (v := ?_) rfl (by kernel_rfl) (by kernel_rfl) (by kernel_rfl) (fun _ _ _ h => h) (Or.inl ⟨by rfl, ?_⟩) ?_
   rotate_left
   ·(intro w; go_simp; try with_reducible rfl)
   refine wpAny_ready (rs := [9]) (by kernel_rfl) (by simp) (AllReady.cons rfl (fun K hK => ?_) AllReady.nil)
   go_simp
   refine hK _ _ ?_
   clear hK K
   refine wpAny_done (by kernel_rfl) ?_ _
   generalize hV3 : World.setCell (World.setCell V2 ⟨w.heap.size, 0, none⟩ (.slice A1 t.ins.length c1)) ⟨w.heap.size, 1, none⟩ (.slice B1 t.outs.length d1) = V3
   have HTV3 : Hid (Blk V3 w.heap.size 53 #[.slice A1 t.ins.length c1, .slice B1 t.outs.length d1, .int .u64 (t.p.am : Nat), .string t.p.sig, .string t.p.tok, .slice t.p.A t.p.l.length t.p.c]) := Lib.hid (by rw [← hV3]; exact (HT2.out.set_ 0 (.slice A1 t.ins.length c1)).set_ 1 (.slice B1 t.outs.length d1))
   have HCS : Hid (Ch [w.heap.size] V2 V3) := Lib.hid (by rw [← hV3]; exact (Ch.set_ (by simp) _ _ _).trans (Ch.set_ (by simp) _ _ _))
   have HO3 := Lib.hid (own_chT HO1b.out HCS.out HT2.out.kdT (by decide))
   have HO4 := Lib.hid (own_chT HO2.out HCS.out HT2.out.kdT (by decide))
   have HZV3 := Lib.hid (HZ2.out.ch HCS.out (by simp))
   have HB3 : Hid (Ch [w.heap.size] w3 V3) := Lib.hid (HB2.out.trans HCS.out)
   have p5 : V3.cell? ⟨w.heap.size, 5, none⟩ = some (.slice t.p.A t.p.l.length t.p.c) := HTV3.out.cell 5
   clear hV3 HCS r0 r1 f0 f1 HT2 HZ2 HO1b HO2 HB1 HB2
   go_wp2_with fail
   refine (HC3 V3 HB3.out).out.mono ?_
   rintro e V4 ⟨P1, e1, rfl, hO, hn, hb⟩
   have HN3 := Lib.hid hn
   have HO7 := Lib.hid (hO.mono (Nat.le_trans hw3 HB3.out.size))
   have HO5 := Lib.hid (own_belT HO3.out hb)
   have HO6 := Lib.hid (own_belT HO4.out hb)
   have HT4 := Lib.hid (HTV3.out.bel hb)
   have HZ4 := Lib.hid (HZV3.out.bel hb)
   have HB4 : Hid (Ch [w.heap.size] w3 V4) := Lib.hid (HB3.out.trans (Ch.of_below hb _))
   have p5 : V4.cell? ⟨w.heap.size, 5, none⟩ = some (.slice t.p.A t.p.l.length t.p.c) := HT4.out.cell 5
   have p0 : V4.cell? ⟨w.heap.size, 0, none⟩ = some (.slice A1 t.ins.length c1) := HT4.out.cell 0
   have f5 : V4.frozen? ⟨w.heap.size, 5, none⟩ = false := HT4.out.frozen 5
   clear hb hO hn HO3 HO4 HTV3 HZV3 HB3 HC1 HC2 HC3
   have HS5 : Hid (SgS w (cpT t A1 c1 B1 d1 P1 e1) sig kb ctr seed h (i + 1) 0 (V4.setCell ⟨w.heap.size, 5, none⟩ (.slice P1 t.p.l.length e1))) := Lib.hid (by
    have hc5 : Ch [w.heap.size] V4 (V4.setCell ⟨w.heap.size, 5, none⟩ (.slice P1 t.p.l.length e1)) := Ch.set_ (by simp) _ _ _
    have hall := HB4.out.trans hc5
    refine ⟨?_, own_chT HO6.out hc5 HT4.out.kdT (by decide), own_chT HO7.out hc5 HT4.out.kdT (by decide), ⟨HN1.out, HN2.out, HN3.out⟩, HK3.out.kd hall HT3.out.kdT (by decide) (by decide) (by decide), HT4.out.set_ 5 (.slice P1 t.p.l.length e1), HZ4.out.ch hc5 (by simp), ?_⟩
    ·rw [sgK_zero]; exact own_chT HO5.out hc5 HT4.out.kdT (by decide)
    ·exact (HCC.out.mono (S' := [ctr, w.heap.size]) (by simp)).trans (hall.mono (by simp)) |>.mono (by simp))
   clear HO5 HO6 HO7 HT4 HZ4 HB4 HN1 HN2 HN3 HT3 HZ3 HK3 HCC HNZ HL
   go_wp2_with fail
   generalize V4.setCell ⟨w.heap.size, 5, none⟩ (.slice P1 t.p.l.length e1) = V5 at HS5 ⊢
   clear p0 p5 f5
   go_loopw [41] (fun v41 wr => ∃ k : Nat, k ≤ t.ins.length ∧ v41 = .int .i64 k ∧ Hid (SgS w (cpT t A1 c1 B1 d1 P1 e1) sig kb ctr seed h (i + 1) k wr)) (fun v41 _ => t.ins.length - (intOf v41).toNat)
   case atStart => exact ⟨0, Nat.zero_le _, rfl, HS5⟩
   case round =>
    clear HS5
    obtain ⟨k, hk, rfl, HS⟩ := hrel
    by_cases hlt : k < t.ins.length
    ·obtain ⟨g, hA, ⟨v0, hv0⟩, hf0, hs2⟩ := HS.out.step hlt
     have hA' : A1 = some ⟨g, 0, none⟩ := hA
     subst hA'
     have HS2 := Lib.hid hs2
     have c0 : wr.cell? ⟨w.heap.size, 0, none⟩ = some (.slice (some ⟨g, 0, none⟩) t.ins.length c1) := HS.out.hd.cell 0
     have d0 : decide (k < t.ins.length) = true := decide_eq_true hlt
     have d1 : decide ((k : Int) < (t.ins.length : Int)) = true := decide_eq_true (by omega)
     have n0 : (0 : Int) ≤ (k : Int) := by omega
     have n1 : (k : Int) < (t.ins.length : Int) := by omega
     clear hA hs2 HS
     go_wp2_with fail
     go_roundw
     case rel => exact ⟨k + 1, by omega, by go_num, HS2⟩
     case measure => simp [intOf]; omega
    ·obtain rfl : k = t.ins.length := by omega
     have d0 : decide (t.ins.length < t.ins.length) = false := by simp
     go_wp2_with (first
      | (refine wpList_load_blk rfl 53 (.tmp 2) rfl w.heap.size 0 6 HS.out.hd (cpT t A1 c1 B1 d1 P1 e1).cs (by rfl) (txn_ext _) Tryz.underlying53 infoTx (Nat.le_refl 6) ?_)
      | (refine wpList_store_part rfl 53 (.tmp 4) (.tmp 51) rfl (w.heap.size + 1) 0 HS.out.res (cpT t A1 c1 B1 d1 P1 e1).cs (cpT t A1 c1 B1 d1 P1 e1).cs (by rfl) (by rfl) (Nat.le_refl 6) infoTx (txncs_one _) (txn_over _ rfl) ?_; intro W8 hb8 hc8; have HZ8 := Lib.hid hb8; have HC8 := Lib.hid hc8; clear hb8 hc8))
     have hfin := HS.out.rows HC8.out
     exact bodyPost_ret (results_cell_row2 rfl _ HZ8.out rfl Tryz.underlying53 infoTx) rfl ⟨A1, c1, B1, d1, P1, e1, by rw [(HSC A1 c1 B1 d1 P1 e1 sig).out]; rfl, hfin.1, hfin.2.1, hfin.2.2⟩
  ·go_simp
   refine hK _ _ ?_
   clear hK K
   refine wpAny_ready (rs := [2]) (by kernel_rfl) (by simp) (AllReady.cons rfl (fun K hK => ?_) AllReady.nil)
   go_simp
   refine (HC1 (World.drew w3) HBD.out).out.mono ?_
   rintro e V1 ⟨A1, c1, rfl, hO, hn, hb⟩
   have HN1 := Lib.hid hn
   have HO1 := Lib.hid (hO.mono HSZ.out)
   have HB1 : Hid (Ch [w.heap.size] w3 V1) := Lib.hid (HBD.out.trans (Ch.of_below hb _))
   have HT1 : Hid (Blk V1 w.heap.size 53 t.cs) := Lib.hid (Blk.bel (w := World.drew w3) HT3.out hb)
   have HZ1 : Hid (Blk V1 (w.heap.size + 1) 53 zTx) := Lib.hid (Blk.bel (w := World.drew w3) HZ3.out hb)
   have q1 : V1.cell? ⟨w.heap.size, 1, none⟩ = some (.slice t.B t.outs.length t.d) := HT1.out.cell 1
   clear hb hO hn p0 p1 HBD HSZ
   go_simp
   refine hK _ _ ?_
   clear hK K
   refine wpAny_take (i := 6) (v := ?_) rfl (by kernel_rfl) (by kernel_rfl) (by kernel_rfl) (fun _ _ _ h => h) (Or.inl ⟨by rfl, ?_⟩) ?_
   rotate_left
   ·(intro w; go_simp; try with_reducible rfl)
   refine wpAny_ready (rs := [5]) (by kernel_rfl) (by simp) (AllReady.cons rfl (fun K hK => ?_) AllReady.nil)
   go_simp
   refine (HC2 V1 HB1.out).out.mono ?_
   rintro e V2 ⟨B1, d1, rfl, hO, hn, hb⟩
   have HN2 := Lib.hid hn
   have HO2 := Lib.hid (hO.mono (Nat.le_trans hw3 HB1.out.size))
   have HO1b := Lib.hid (own_belT HO1.out hb)
   have HB2 : Hid (Ch [w.heap.size] w3 V2) := Lib.hid (HB1.out.trans (Ch.of_below hb _))
   have HT2 := Lib.hid (HT1.out.bel hb)
   have HZ2 := Lib.hid (HZ1.out.bel hb)
   have r0 : V2.cell? ⟨w.heap.size, 0, none⟩ = some (.slice t.A t.ins.length t.c) := HT2.out.cell 0
   have r1 : V2.cell? ⟨w.heap.size, 1, none⟩ = some (.slice t.B t.outs.length t.d) := HT2.out.cell 1
   have f0 : V2.frozen? ⟨w.heap.size, 0, none⟩ = false := HT2.out.frozen 0
   have f1 : V2.frozen? ⟨w.heap.size, 1, none⟩ = false := HT2.out.frozen 1
   clear hb hO hn q1 HO1 HT1 HZ1
   go_simp
   refine hK _ _ ?_
   clear hK K
   refine wpAny_ready (rs := [7]) (by kernel_rfl) (by simp) (AllReady.cons rfl (fun K hK => ?_) AllReady.nil)
   go_simp
   refine hK _ _ ?_
   clear hK K
   refine wpAny_take (i := 8) (v := ?_) rfl (by kernel_rfl) (by kernel_rfl) (by kernel_rfl) (fun _ _ _ h => h) (Or.inl ⟨by rfl, ?_⟩) ?_
   rotate_left
   ·(intro w; go_simp; try with_reducible rfl)
   refine wpAny_ready (rs := [9]) (by kernel_rfl) (by simp) (AllReady.cons rfl (fun K hK => ?_) AllReady.nil)
   go_simp
   refine hK _ _ ?_
   clear hK K
   refine wpAny_done (by kernel_rfl) ?_ _
   generalize hV3 : World.setCell (World.setCell V2 ⟨w.heap.size, 0, none⟩ (.slice A1 t.ins.length c1)) ⟨w.heap.size, 1, none⟩ (.slice B1 t.outs.length d1) = V3
   have HTV3 : Hid (Blk V3 w.heap.size 53 #[.slice A1 t.ins.length c1, .slice B1 t.outs.length d1, .int .u64 (t.p.am : Nat), .string t.p.sig, .string t.p.tok, .slice t.p.A t.p.l.length t.p.c]) := Lib.hid (by rw [← hV3]; exact (HT2.out.set_ 0 (.slice A1 t.ins.length c1)).set_ 1 (.slice B1 t.outs.length d1))
   have HCS : Hid (Ch [w.heap.size] V2 V3) := Lib.hid (by rw [← hV3]; exact (Ch.set_ (by simp) _ _ _).trans (Ch.set_ (by simp) _ _ _))
   have HO3 := Lib.hid (own_chT HO1b.out HCS.out HT2.out.kdT (by decide))
   have HO4 := Lib.hid (own_chT HO2.out HCS.out HT2.out.kdT (by decide))
   have HZV3 := Lib.hid (HZ2.out.ch HCS.out (by simp))
   have HB3 : Hid (Ch [w.heap.size] w3 V3) := Lib.hid (HB2.out.trans HCS.out)
   have p5 : V3.cell? ⟨w.heap.size, 5, none⟩ = some (.slice t.p.A t.p.l.length t.p.c) := HTV3.out.cell 5
   clear hV3 HCS r0 r1 f0 f1 HT2 HZ2 HO1b HO2 HB1 HB2
   go_wp2_with fail
   refine (HC3 V3 HB3.out).out.mono ?_
   rintro e V4 ⟨P1, e1, rfl, hO, hn, hb⟩
   have HN3 := Lib.hid hn
   have HO7 := Lib.hid (hO.mono (Nat.le_trans hw3 HB3.out.size))
   have HO5 := Lib.hid (own_belT HO3.out hb)
   have HO6 := Lib.hid (own_belT HO4.out hb)
   have HT4 := Lib.hid (HTV3.out.bel hb)
   have HZ4 := Lib.hid (HZV3.out.bel hb)
   have HB4 : Hid (Ch [w.heap.size] w3 V4) := Lib.hid (HB3.out.trans (Ch.of_below hb _))
   have p5 : V4.cell? ⟨w.heap.size, 5, none⟩ = some (.slice t.p.A t.p.l.length t.p.c) := HT4.out.cell 5
   have p0 : V4.cell? ⟨w.heap.size, 0, none⟩ = some (.slice A1 t.ins.length c1) := HT4.out.cell 0
   have f5 : V4.frozen? ⟨w.heap.size, 5, none⟩ = false := HT4.out.frozen 5
   clear hb hO hn HO3 HO4 HTV3 HZV3 HB3 HC1 HC2 HC3
   have HS5 : Hid (SgS w (cpT t A1 c1 B1 d1 P1 e1) sig kb ctr seed h (i + 1) 0 (V4.setCell ⟨w.heap.size, 5, none⟩ (.slice P1 t.p.l.length e1))) := Lib.hid (by
    have hc5 : Ch [w.heap.size] V4 (V4.setCell ⟨w.heap.size, 5, none⟩ (.slice P1 t.p.l.length e1)) := Ch.set_ (by simp) _ _ _
    have hall := HB4.out.trans hc5
    refine ⟨?_, own_chT HO6.out hc5 HT4.out.kdT (by decide), own_chT HO7.out hc5 HT4.out.kdT (by decide), ⟨HN1.out, HN2.out, HN3.out⟩, HK3.out.kd hall HT3.out.kdT (by decide) (by decide) (by decide), HT4.out.set_ 5 (.slice P1 t.p.l.length e1), HZ4.out.ch hc5 (by simp), ?_⟩
    ·rw [sgK_zero]; exact own_chT HO5.out hc5 HT4.out.kdT (by decide)
    ·exact (HCC.out.mono (S' := [ctr, w.heap.size]) (by simp)).trans (hall.mono (by simp)) |>.mono (by simp))
   clear HO5 HO6 HO7 HT4 HZ4 HB4 HN1 HN2 HN3 HT3 HZ3 HK3 HCC HNZ HL
   go_wp2_with fail
   generalize V4.setCell ⟨w.heap.size, 5, none⟩ (.slice P1 t.p.l.length e1) = V5 at HS5 ⊢
   clear p0 p5 f5
   go_loopw [41] (fun v41 wr => ∃ k : Nat, k ≤ t.ins.length ∧ v41 = .int .i64 k ∧ Hid (SgS w (cpT t A1 c1 B1 d1 P1 e1) sig kb ctr seed h (i + 1) k wr)) (fun v41 _ => t.ins.length - (intOf v41).toNat)
   case atStart => exact ⟨0, Nat.zero_le _, rfl, HS5⟩
   case round =>
    clear HS5
    obtain ⟨k, hk, rfl, HS⟩ := hrel
    by_cases hlt : k < t.ins.length
    ·obtain ⟨g, hA, ⟨v0, hv0⟩, hf0, hs2⟩ := HS.out.step hlt
     have hA' : A1 = some ⟨g, 0, none⟩ := hA
     subst hA'
     have HS2 := Lib.hid hs2
     have c0 : wr.cell? ⟨w.heap.size, 0, none⟩ = some (.slice (some ⟨g, 0, none⟩) t.ins.length c1) := HS.out.hd.cell 0
     have d0 : decide (k < t.ins.length) = true := decide_eq_true hlt
     have d1 : decide ((k : Int) < (t.ins.length : Int)) = true := decide_eq_true (by omega)
     have n0 : (0 : Int) ≤ (k : Int) := by omega
     have n1 : (k : Int) < (t.ins.length : Int) := by omega
     clear hA hs2 HS
     go_wp2_with fail
     go_roundw
     case rel => exact ⟨k + 1, by omega, by go_num, HS2⟩
     case measure => simp [intOf]; omega
    ·obtain rfl : k = t.ins.length := by omega
     have d0 : decide (t.ins.length < t.ins.length) = false := by simp
     go_wp2_with (first
      | (refine wpList_load_blk rfl 53 (.tmp 2) rfl w.heap.size 0 6 HS.out.hd (cpT t A1 c1 B1 d1 P1 e1).cs (by rfl) (txn_ext _) Tryz.underlying53 infoTx (Nat.le_refl 6) ?_)
      | (refine wpList_store_part rfl 53 (.tmp 4) (.tmp 51) rfl (w.heap.size + 1) 0 HS.out.res (cpT t A1 c1 B1 d1 P1 e1).cs (cpT t A1 c1 B1 d1 P1 e1).cs (by rfl) (by rfl) (Nat.le_refl 6) infoTx (txncs_one _) (txn_over _ rfl) ?_; intro W8 hb8 hc8; have HZ8 := Lib.hid hb8; have HC8 := Lib.hid hc8; clear hb8 hc8))
     have hfin := HS.out.rows HC8.out
     exact bodyPost_ret (results_cell_row2 rfl _ HZ8.out rfl Tryz.underlying53 infoTx) rfl ⟨A1, c1, B1, d1, P1, e1, by rw [(HSC A1 c1 B1 d1 P1 e1 sig).out]; rfl, hfin.1, hfin.2.1, hfin.2.2⟩
 ·go_simp
  refine hK _ _ ?_
  clear hK K
  refine wpAny_ready (rs := [1]) (by kernel_rfl) (by simp) (AllReady.cons rfl (fun K hK => ?_) AllReady.nil)
  go_simp
  refine hK _ _ ?_
  clear hK K
  refine wpAny_ready (rs := [2]) (by kernel_rfl) (by simp) (AllReady.cons rfl (fun K hK => ?_) AllReady.nil)
  go_simp
  refine (HC1 (World.drew w3) HBD.out).out.mono ?_
  rintro e V1 ⟨A1, c1, rfl, hO, hn, hb⟩
  have HN1 := Lib.hid hn
  have HO1 := Lib.hid (hO.mono HSZ.out)
  have HB1 : Hid (Ch [w.heap.size] w3 V1) := Lib.hid (HBD.out.trans (Ch.of_below hb _))
  have HT1 : Hid (Blk V1 w.heap.size 53 t.cs) := Lib.hid (Blk.bel (w := World.drew w3) HT3.out hb)
  have HZ1 : Hid (Blk V1 (w.heap.size + 1) 53 zTx) := Lib.hid (Blk.bel (w := World.drew w3) HZ3.out hb)
  have q1 : V1.cell? ⟨w.heap.size, 1, none⟩ = some (.slice t.B t.outs.length t.d) := HT1.out.cell 1
  clear hb hO hn p0 p1 HBD HSZ
  go_simp
  refine hK _ _ ?_
  clear hK K
  refine wpAny_take (i := 6) (v := ?_) rfl (by kernel_rfl) (by kernel_rfl) (by kernel_rfl) (fun _ _ _ h => h) (Or.inl ⟨by rfl, ?_⟩) ?_
  rotate_left
  ·(intro w; go_simp; try with_reducible rfl)
  refine wpAny_ready (rs := [5]) (by kernel_rfl) (by simp) (AllReady.cons rfl (fun K hK => ?_) AllReady.nil)
  go_simp
  refine (HC2 V1 HB1.out).out.mono ?_
  rintro e V2 ⟨B1, d1, rfl, hO, hn, hb⟩
  have HN2 := Lib.hid hn
  have HO2 := Lib.hid (hO.mono (Nat.le_trans hw3 HB1.out.size))
  have HO1b := Lib.hid (own_belT HO1.out hb)
  have HB2 : Hid (Ch [w.heap.size] w3 V2) := Lib.hid (HB1.out.trans (Ch.of_below hb _))
  have HT2 := Lib.hid (HT1.out.bel hb)
  have HZ2 := Lib.hid (HZ1.out.bel hb)
  have r0 : V2.cell? ⟨w.heap.size, 0, none⟩ = some (.slice t.A t.ins.length t.c) := HT2.out.cell 0
  have r1 : V2.cell? ⟨w.heap.size, 1, none⟩ = some (.slice t.B t.outs.length t.d) := HT2.out.cell 1
  have f0 : V2.frozen? ⟨w.heap.size, 0, none⟩ = false := HT2.out.frozen 0
  have f1 : V2.frozen? ⟨w.heap.size, 1, none⟩ = false := HT2.out.frozen 1
  clear hb hO hn q1 HO1 HT1 HZ1
  go_simp
  refine hK _ _ ?_
  clear hK K
  refine wpAny_ready (rs := [7]) (by kernel_rfl) (by simp) (AllReady.cons rfl (fun K hK => ?_) AllReady.nil)
  go_simp
  refine hK _ _ ?_
  clear hK K
  refine wpAny_take (i := 8) (v := ?_) rfl (by kernel_rfl) (by kernel_rfl) (by kernel_rfl) (fun _ _ _ h => h) (Or.inl ⟨by rfl, ?_⟩) ?_
  rotate_left
  ·(intro w; go_simp; try with_reducible rfl)
  refine wpAny_ready (rs := [9]) (by kernel_rfl) (by simp) (AllReady.cons rfl (fun K hK => ?_) AllReady.nil)
  go_simp
  refine hK _ _ ?_
  clear hK K
  refine wpAny_done (by kernel_rfl) ?_ _
  generalize hV3 : World.setCell (World.setCell V2 ⟨w.heap.size, 0, none⟩ (.slice A1 t.ins.length c1)) ⟨w.heap.size, 1, none⟩ (.slice B1 t.outs.length d1) = V3
  have HTV3 : Hid (Blk V3 w.heap.size 53 #[.slice A1 t.ins.length c1, .slice B1 t.outs.length d1, .int .u64 (t.p.am : Nat), .string t.p.sig, .string t.p.tok, .slice t.p.A t.p.l.length t.p.c]) := Lib.hid (by rw [← hV3]; exact (HT2.out.set_ 0 (.slice A1 t.ins.length c1)).set_ 1 (.slice B1 t.outs.length d1))
  have HCS : Hid (Ch [w.heap.size] V2 V3) := Lib.hid (by rw [← hV3]; exact (Ch.set_ (by simp) _ _ _).trans (Ch.set_ (by simp) _ _ _))
  have HO3 := Lib.hid (own_chT HO1b.out HCS.out HT2.out.kdT (by decide))
  have HO4 := Lib.hid (own_chT HO2.out HCS.out HT2.out.kdT (by decide))
  have HZV3 := Lib.hid (HZ2.out.ch HCS.out (by simp))
  have HB3 : Hid (Ch [w.heap.size] w3 V3) := Lib.hid (HB2.out.trans HCS.out)
  have p5 : V3.cell? ⟨w.heap.size, 5, none⟩ = some (.slice t.p.A t.p.l.length t.p.c) := HTV3.out.cell 5
  clear hV3 HCS r0 r1 f0 f1 HT2 HZ2 HO1b HO2 HB1 HB2
  go_wp2_with fail
  refine (HC3 V3 HB3.out).out.mono ?_
  rintro e V4 ⟨P1, e1, rfl, hO, hn, hb⟩
  have HN3 := Lib.hid hn
  have HO7 := Lib.hid (hO.mono (Nat.le_trans hw3 HB3.out.size))
  have HO5 := Lib.hid (own_belT HO3.out hb)
  have HO6 := Lib.hid (own_belT HO4.out hb)
  have HT4 := Lib.hid (HTV3.out.bel hb)
  have HZ4 := Lib.hid (HZV3.out.bel hb)
  have HB4 : Hid (Ch [w.heap.size] w3 V4) := Lib.hid (HB3.out.trans (Ch.of_below hb _))
  have p5 : V4.cell? ⟨w.heap.size, 5, none⟩ = some (.slice t.p.A t.p.l.length t.p.c) := HT4.out.cell 5
  have p0 : V4.cell? ⟨w.heap.size, 0, none⟩ = some (.slice A1 t.ins.length c1) := HT4.out.cell 0
  have f5 : V4.frozen? ⟨w.heap.size, 5, none⟩ = false := HT4.out.frozen 5
  clear hb hO hn HO3 HO4 HTV3 HZV3 HB3 HC1 HC2 HC3
  have HS5 : Hid (SgS w (cpT t A1 c1 B1 d1 P1 e1) sig kb ctr seed h (i + 1) 0 (V4.setCell ⟨w.heap.size, 5, none⟩ (.slice P1 t.p.l.length e1))) := Lib.hid (by
   have hc5 : Ch [w.heap.size] V4 (V4.setCell ⟨w.heap.size, 5, none⟩ (.slice P1 t.p.l.length e1)) := Ch.set_ (by simp) _ _ _
   have hall := HB4.out.trans hc5
   refine ⟨?_, own_chT HO6.out hc5 HT4.out.kdT (by decide), own_chT HO7.out hc5 HT4.out.kdT (by decide), ⟨HN1.out, HN2.out, HN3.out⟩, HK3.out.kd hall HT3.out.kdT (by decide) (by decide) (by decide), HT4.out.set_ 5 (.slice P1 t.p.l.length e1), HZ4.out.ch hc5 (by simp), ?_⟩
   ·rw [sgK_zero]; exact own_chT HO5.out hc5 HT4.out.kdT (by decide)
   ·exact (HCC.out.mono (S' := [ctr, w.heap.size]) (by simp)).trans (hall.mono (by simp)) |>.mono (by simp))
  clear HO5 HO6 HO7 HT4 HZ4 HB4 HN1 HN2 HN3 HT3 HZ3 HK3 HCC HNZ HL
  go_wp2_with fail
  generalize V4.setCell ⟨w.heap.size, 5, none⟩ (.slice P1 t.p.l.length e1) = V5 at HS5 ⊢
  clear p0 p5 f5
  go_loopw [41] (fun v41 wr => ∃ k : Nat, k ≤ t.ins.length ∧ v41 = .int .i64 k ∧ Hid (SgS w (cpT t A1 c1 B1 d1 P1 e1) sig kb ctr seed h (i + 1) k wr)) (fun v41 _ => t.ins.length - (intOf v41).toNat)
  case atStart => exact ⟨0, Nat.zero_le _, rfl, HS5⟩
  case round =>
   clear HS5
   obtain ⟨k, hk, rfl, HS⟩ := hrel
   by_cases hlt : k < t.ins.length
   ·obtain ⟨g, hA, ⟨v0, hv0⟩, hf0, hs2⟩ := HS.out.step hlt
    have hA' : A1 = some ⟨g, 0, none⟩ := hA
    subst hA'
    have HS2 := Lib.hid hs2
    have c0 : wr.cell? ⟨w.heap.size, 0, none⟩ = some (.slice (some ⟨g, 0, none⟩) t.ins.length c1) := HS.out.hd.cell 0
    have d0 : decide (k < t.ins.length) = true := decide_eq_true hlt
    have d1 : decide ((k : Int) < (t.ins.length : Int)) = true := decide_eq_true (by omega)
    have n0 : (0 : Int) ≤ (k : Int) := by omega
    have n1 : (k : Int) < (t.ins.length : Int) := by omega
    clear hA hs2 HS
    go_wp2_with fail
    go_roundw
    case rel => exact ⟨k + 1, by omega, by go_num, HS2⟩
    case measure => simp [intOf]; omega
   ·obtain rfl : k = t.ins.length := by omega
    have d0 : decide (t.ins.length < t.ins.length) = false := by simp
    go_wp2_with (first
     | (refine wpList_load_blk rfl 53 (.tmp 2) rfl w.heap.size 0 6 HS.out.hd (cpT t A1 c1 B1 d1 P1 e1).cs (by rfl) (txn_ext _) Tryz.underlying53 infoTx (Nat.le_refl 6) ?_)
     | (refine wpList_store_part rfl 53 (.tmp 4) (.tmp 51) rfl (w.heap.size + 1) 0 HS.out.res (cpT t A1 c1 B1 d1 P1 e1).cs (cpT t A1 c1 B1 d1 P1 e1).cs (by rfl) (by rfl) (Nat.le_refl 6) infoTx (txncs_one _) (txn_over _ rfl) ?_; intro W8 hb8 hc8; have HZ8 := Lib.hid hb8; have HC8 := Lib.hid hc8; clear hb8 hc8))
    have hfin := HS.out.rows HC8.out
    exact bodyPost_ret (results_cell_row2 rfl _ HZ8.out rfl Tryz.underlying53 infoTx) rfl ⟨A1, c1, B1, d1, P1, e1, by rw [(HSC A1 c1 B1 d1 P1 e1 sig).out]; rfl, hfin.1, hfin.2.1, hfin.2.2⟩
end
end Go.Proofs.YtjcinncphffgaaaGreat
