/- coin.Copy of any transaction: the same in lists of its own. block.Right and block.ID of any block. chain: own: a block in lists of its own. -/
import Derived.Outline
import Derived.OwnWalk
import Derived.Deep.RegionHeld3
import Derived.Test.YtjcinncphffgaaaGreatMjG25
import Derived.Test.YtjcinncphffgaaaGreatMjG35
import Derived.Test.YtjcinncphffgaaaGreatMjK1
import Derived.Test.YtjcinncphffgaaaGreatMjK2
import Derived.Test.YtjcinncphffgaaaGreatMjK3
import Derived.Test.YtjcinncphffgaaaGreatMjNum
import Derived.Test.YtjcinncphffgaaaGreatMjWots
set_option linter.unusedVariables false
set_option linter.unusedSimpArgs false
namespace Go.Proofs.YtjcinncphffgaaaGreat
open Go.RowKit Go.Maps
/-- a transaction, its lists elsewhere -/
def cpT (t : Txn) (A : Option Addr) (c : Nat) (B : Option Addr) (d : Nat) (P : Option Addr) (e : Nat) : Txn := ⟨A, t.ins, c, B, t.outs, d, ⟨t.p.am, t.p.sig, t.p.tok, P, t.p.l, e⟩⟩
theorem cpT_al (t : Txn) (A : Option Addr) (c : Nat) (B : Option Addr) (d : Nat) (P : Option Addr) (e : Nat) : t.al (cpT t A c B d P e) := ⟨rfl, rfl, rfl, rfl, rfl, rfl⟩
/-- the blocks from n on are the same -/
structure SameB (n : Nat) (w W : World) : Prop where
  size : w.heap.size ≤ W.heap.size
  block : ∀ k, n ≤ k → k < w.heap.size → W.heap[k]? = w.heap[k]?
theorem SameB.refl (n : Nat) (w : World) : SameB n w w := ⟨Nat.le_refl _, fun _ _ _ => rfl⟩
theorem own_same {w W : World} {base n size : Nat} {e : TypeId} {v : Value} {xs : List Value} (h : w.ownsRow base e size v n xs) (hs : SameB base w W) : W.ownsRow base e size v n xs := by
  obtain ⟨h1, h2⟩ := h
  refine ⟨h1, ?_⟩
  rcases h2 with h2 | ⟨g, cap, cur, rfl, hb, hh, r⟩
  · exact .inl h2
  · exact .inr ⟨g, cap, cur, rfl, hb, (hs.block g hb (Array.getElem?_eq_some_iff.1 hh).1).trans hh, r⟩
theorem own_capC {w : World} {base n size m c : Nat} {e : TypeId} {A : Option Addr} {xs : List Value} (h : w.ownsRow base e size (.slice A m c) n xs) : n ≤ c := by
  obtain ⟨_, h | ⟨g, cap, cur, hv, h1, h2, h3, _⟩⟩ := h
  · obtain ⟨hv, hn⟩ := h
    injection hv with _ _ hc
    omega
  · injection hv with _ _ hc
    omega
theorem rw_same {α : Type} {w W : World} {n g k : Nat} {t : TypeId} {enc : α → List Value} {l : List α} (h : Rw w g k t enc l) (hs : SameB n w W) (hn : n ≤ g) : Rw W g k t enc l := by
  obtain ⟨cur, h1, h2, h3⟩ := h
  exact ⟨cur, (hs.block g hn h1.lt).trans h1, h2, h3⟩
/-- a transaction whose lists are the call's own -/
structure TxRows (base : Nat) (w : World) (u : Txn) : Prop where
  r1 : w.ownsRow base 59 4 (.slice u.A u.ins.length u.c) u.ins.length (u.ins.flatMap Inp.cl)
  r2 : w.ownsRow base 81 9 (.slice u.B u.outs.length u.d) u.outs.length (u.outs.flatMap Ou.cl)
  r3 : w.ownsRow base 122 10 (.slice u.p.A u.p.l.length u.p.c) u.p.l.length (u.p.l.flatMap Wn.cl)
  nz : u.nz
section
variable {base : Nat} {w w' : World} {u : Txn}
theorem TxRows.mem (h : TxRows base w u) : u.mem w := ⟨Sl.of_own (fun _ => rfl) h.r1, Sl.of_own (fun _ => rfl) h.r2, Sl.of_own (fun _ => rfl) h.r3⟩
theorem TxRows.same {W : World} (h : TxRows base w u) (hs : SameB base w W) : TxRows base W u := ⟨own_same h.r1 hs, own_same h.r2 hs, own_same h.r3 hs, h.nz⟩
theorem TxRows.bel (h : TxRows base w u) (hb : Below w.heap.size w w') : TxRows base w' u := ⟨own_belT h.r1 hb, own_belT h.r2 hb, own_belT h.r3 hb, h.nz⟩
theorem TxRows.mono {b' : Nat} (h : TxRows base w u) (hb : b' ≤ base) : TxRows b' w u := ⟨h.r1.mono hb, h.r2.mono hb, h.r3.mono hb, h.nz⟩
theorem TxRows.ch {g : Nat} {t : TypeId} (h : TxRows base w u) (hc : Ch [g] w w') (hg : KdT w g t) (h1 : t ≠ 59) (h2 : t ≠ 81) (h3 : t ≠ 122) : TxRows base w' u := ⟨own_chT h.r1 hc hg h1, own_chT h.r2 hc hg h2, own_chT h.r3 hc hg h3, h.nz⟩
theorem TxRows.grown {v : Value} {size n : Nat} {e : TypeId} {xs : List Value} {base' : Nat} (h : TxRows base w u) (hr : w.ownsRow base' e size v n xs) (hg : w.grownBy w' v.ownBlock) (h1 : 59 ≠ e) (h2 : 81 ≠ e) (h3 : 122 ≠ e) : TxRows base w' u := ⟨own_keptT h.r1 hr h1 hg, own_keptT h.r2 hr h2 hg, own_keptT h.r3 hr h3 hg, h.nz⟩
end
set_option maxRecDepth 100000 in
set_option maxHeartbeats 2000000 in
theorem copy_any (t : Txn) (w : World) (hm : t.mem w) (hz : t.nz) (h1 : t.ins.length ≤ 1000) (h2 : t.outs.length ≤ 1000) (h3 : t.p.l.length ≤ 1000) :
    Calls Tryz.prog 67 #[.agg t.cs] w fun e w' => ∃ u : Txn, e = .returned (.agg u.cs) ∧ t.al u ∧ TxRows w.heap.size w' u ∧ Below w.heap.size w w' := by
  have HC1 := fun W (h : Below w.heap.size w W) => Lib.hid (clone_inG t.A t.ins t.c W ((hm.ins.below h).more h.size) h1 hz.a)
  have HC2 := fun W (h : Below w.heap.size w W) => Lib.hid (clone_outG t.B t.outs t.d W ((hm.outs.below h).more h.size) h2 hz.b)
  have HC3 := fun W (h : Below w.heap.size w W) => Lib.hid (clone_wnG t.p.A t.p.l t.p.c W ((hm.wins.below h).more h.size) h3 hz.p)
  clear hm hz
  go_enter Tryz.func67, Tryz.ntmps67
  go_wp2_with fail
  refine wp_gen fun V0 hV0 => ?_
  have HT0 : Hid (Blk V0 w.heap.size 53 t.cs) := Lib.hid (by rw [hV0]; exact (Blk.new _ _ _).alloc _)
  have HZ0 : Hid (Blk V0 (w.heap.size + 1) 53 zTxK) := Lib.hid (by rw [hV0]; exact Blk.newAt (by simp))
  have HBD : Hid (Below w.heap.size w (World.drew V0)) := Lib.hid (by rw [hV0]; exact (((Below.refl _ _).alloc (Nat.le_refl _) _).alloc (by simp) _).drew)
  have HSZ : Hid (w.heap.size ≤ (World.drew V0).heap.size) := HBD.out.size
  have p0 : V0.cell? ⟨w.heap.size, 0, none⟩ = some (.slice t.A t.ins.length t.c) := HT0.out.cell 0
  have p1 : V0.cell? ⟨w.heap.size, 1, none⟩ = some (.slice t.B t.outs.length t.d) := HT0.out.cell 1
  clear hV0
  refine wp_region_any (by kernel_rfl) ?_
  try (change wpAny _ _ _ _ _ _ _ (World.drew _))
  refine wpAny_take (i := 0) (v := ?_) rfl (by kernel_rfl) (by kernel_rfl) (by kernel_rfl) (fun _ _ _ h => h) (Or.inl ⟨by rfl, ?_⟩) ?_
  rotate_left
  · (intro w; go_simp; try with_reducible rfl)
  refine wpAny_take (i := 3) (v := ?_) rfl (by kernel_rfl) (by kernel_rfl) (by kernel_rfl) (fun _ _ _ h => h) (Or.inl ⟨by rfl, ?_⟩) ?_
  rotate_left
  · (intro w; go_simp; try with_reducible rfl)
  refine wpAny_ready (rs := [1, 4]) (by kernel_rfl) (by simp) (AllReady.cons rfl (fun K hK => ?_) (AllReady.cons rfl (fun K hK => ?_) AllReady.nil))
  · go_simp
    refine hK _ _ ?_
    clear hK K
    refine wpAny_ready (rs := [2, 4]) (by kernel_rfl) (by simp) (AllReady.cons rfl (fun K hK => ?_) (AllReady.cons rfl (fun K hK => ?_) AllReady.nil))
    · go_simp
      refine (HC1 (World.drew V0) HBD.out).out.mono ?_
      rintro e V1 ⟨A1, c1, rfl, hO, hn, hb⟩
      have HN1 := Lib.hid hn
      have HO1 := Lib.hid (hO.mono HSZ.out)
      have HB1 : Hid (Below w.heap.size w V1) := Lib.hid (HBD.out.trans (hb.mono HSZ.out))
      have HT1 : Hid (Blk V1 w.heap.size 53 t.cs) := Lib.hid (Blk.bel (w := World.drew V0) HT0.out hb)
      have HZ1 : Hid (Blk V1 (w.heap.size + 1) 53 zTxK) := Lib.hid (Blk.bel (w := World.drew V0) HZ0.out hb)
      have q1 : V1.cell? ⟨w.heap.size, 1, none⟩ = some (.slice t.B t.outs.length t.d) := HT1.out.cell 1
      clear hb hO hn p0 p1 HBD HSZ HT0 HZ0
      go_simp
      refine hK _ _ ?_
      clear hK K
      refine wpAny_ready (rs := [4]) (by kernel_rfl) (by simp) (AllReady.cons rfl (fun K hK => ?_) AllReady.nil)
      go_simp
      refine hK _ _ ?_
      clear hK K
      refine wpAny_take (i := 6) (v := ?_) rfl (by kernel_rfl) (by kernel_rfl) (by kernel_rfl) (fun _ _ _ h => h) (Or.inl ⟨by rfl, ?_⟩) ?_
      rotate_left
      · (intro w; go_simp; try with_reducible rfl)
      refine wpAny_ready (rs := [5]) (by kernel_rfl) (by simp) (AllReady.cons rfl (fun K hK => ?_) AllReady.nil)
      go_simp
      refine (HC2 V1 HB1.out).out.mono ?_
      rintro e V2 ⟨B1, d1, rfl, hO, hn, hb⟩
      have HN2 := Lib.hid hn
      have HO2 := Lib.hid (hO.mono HB1.out.size)
      have HO1b := Lib.hid (own_belT HO1.out hb)
      have HB2 : Hid (Below w.heap.size w V2) := Lib.hid (HB1.out.trans (hb.mono HB1.out.size))
      have HT2 := Lib.hid (HT1.out.bel hb)
      have HZ2 := Lib.hid (HZ1.out.bel hb)
      have r0 : V2.cell? ⟨w.heap.size, 0, none⟩ = some (.slice t.A t.ins.length t.c) := HT2.out.cell 0
      have r1 : V2.cell? ⟨w.heap.size, 1, none⟩ = some (.slice t.B t.outs.length t.d) := HT2.out.cell 1
      have f0 : V2.frozen? ⟨w.heap.size, 0, none⟩ = false := HT2.out.frozen 0
      have f1 : V2.frozen? ⟨w.heap.size, 1, none⟩ = false := HT2.out.frozen 1
      clear hb hO hn q1 HO1 HT1 HZ1
      go_simp
      refine hK _ _ ?_
      clear hK K
      refine wpAny_ready (rs := [7]) (by kernel_rfl) (by simp) (AllReady.cons rfl (fun K hK => ?_) AllReady.nil)
      go_simp
      refine hK _ _ ?_
      clear hK K
      refine wpAny_take (i := 8) (v := ?_) rfl (by kernel_rfl) (by kernel_rfl) (by kernel_rfl) (fun _ _ _ h => h) (Or.inl ⟨by rfl, ?_⟩) ?_
      rotate_left
      · (intro w; go_simp; try with_reducible rfl)
      refine wpAny_ready (rs := [9]) (by kernel_rfl) (by simp) (AllReady.cons rfl (fun K hK => ?_) AllReady.nil)
      go_simp
      refine hK _ _ ?_
      clear hK K
      refine wpAny_done (by kernel_rfl) ?_ _
      generalize hV3 : World.setCell (World.setCell V2 ⟨w.heap.size, 0, none⟩ (.slice A1 t.ins.length c1)) ⟨w.heap.size, 1, none⟩ (.slice B1 t.outs.length d1) = V3
      have HT3 : Hid (Blk V3 w.heap.size 53 #[.slice A1 t.ins.length c1, .slice B1 t.outs.length d1, .int .u64 (t.p.am : Nat), .string t.p.sig, .string t.p.tok, .slice t.p.A t.p.l.length t.p.c]) := Lib.hid (by rw [← hV3]; exact (HT2.out.set_ 0 (.slice A1 t.ins.length c1)).set_ 1 (.slice B1 t.outs.length d1))
      have HCS : Hid (Ch [w.heap.size] V2 V3) := Lib.hid (by rw [← hV3]; exact (Ch.set_ (by simp) _ _ _).trans (Ch.set_ (by simp) _ _ _))
      have HO3 := Lib.hid (own_chT HO1b.out HCS.out HT2.out.kdT (by decide))
      have HO4 := Lib.hid (own_chT HO2.out HCS.out HT2.out.kdT (by decide))
      have HZ3 := Lib.hid (HZ2.out.ch HCS.out (by simp))
      have HB3 : Hid (Below w.heap.size w V3) := Lib.hid (HB2.out.trans (HCS.out.below HB2.out.size (by simp)))
      have p5 : V3.cell? ⟨w.heap.size, 5, none⟩ = some (.slice t.p.A t.p.l.length t.p.c) := HT3.out.cell 5
      clear hV3 HCS r0 r1 f0 f1 HT2 HZ2 HO1b HO2 HB1 HB2
      go_wp2_with fail
      refine (HC3 V3 HB3.out).out.mono ?_
      rintro e V4 ⟨P1, e1, rfl, hO, hn, hb⟩
      have HN3 := Lib.hid hn
      have HO7 := Lib.hid (hO.mono HB3.out.size)
      have HO5 := Lib.hid (own_belT HO3.out hb)
      have HO6 := Lib.hid (own_belT HO4.out hb)
      have HT4 := Lib.hid (HT3.out.bel hb)
      have HZ4 := Lib.hid (HZ3.out.bel hb)
      have HB4 : Hid (Below w.heap.size w V4) := Lib.hid (HB3.out.trans (hb.mono HB3.out.size))
      have p5 : V4.cell? ⟨w.heap.size, 5, none⟩ = some (.slice t.p.A t.p.l.length t.p.c) := HT4.out.cell 5
      have f5 : V4.frozen? ⟨w.heap.size, 5, none⟩ = false := HT4.out.frozen 5
      clear hb hO hn HO3 HO4 HT3 HZ3 HB3 HC1 HC2 HC3
      have HT5 : Hid (Blk (V4.setCell ⟨w.heap.size, 5, none⟩ (.slice P1 t.p.l.length e1)) w.heap.size 53 (cpT t A1 c1 B1 d1 P1 e1).cs) := Lib.hid (HT4.out.set_ 5 (.slice P1 t.p.l.length e1))
      have HC5 : Hid (Ch [w.heap.size] V4 (V4.setCell ⟨w.heap.size, 5, none⟩ (.slice P1 t.p.l.length e1))) := Lib.hid (Ch.set_ (by simp) _ _ _)
      have HZ5 := Lib.hid (HZ4.out.ch HC5.out (by simp))
      have HR5 : Hid (TxRows w.heap.size (V4.setCell ⟨w.heap.size, 5, none⟩ (.slice P1 t.p.l.length e1)) (cpT t A1 c1 B1 d1 P1 e1)) := Lib.hid ⟨own_chT HO5.out HC5.out HT4.out.kdT (by decide), own_chT HO6.out HC5.out HT4.out.kdT (by decide), own_chT HO7.out HC5.out HT4.out.kdT (by decide), ⟨HN1.out, HN2.out, HN3.out⟩⟩
      have HB5 : Hid (Below w.heap.size w (V4.setCell ⟨w.heap.size, 5, none⟩ (.slice P1 t.p.l.length e1))) := Lib.hid (HB4.out.trans (HC5.out.below HB4.out.size (by simp)))
      clear HO5 HO6 HO7 HC5 HT4 HZ4 HB4
      go_wp2_with (first
        | (refine wpList_load_blk rfl 53 (.tmp 1) rfl w.heap.size 0 6 HT5.out (cpT t A1 c1 B1 d1 P1 e1).cs (by rfl) (txn_ext _) Tryz.underlying53 infoTx (Nat.le_refl 6) ?_)
        | (refine wpList_store_part rfl 53 (.tmp 2) (.tmp 17) rfl (w.heap.size + 1) 0 HZ5.out (cpT t A1 c1 B1 d1 P1 e1).cs (cpT t A1 c1 B1 d1 P1 e1).cs (by rfl) (by rfl) (Nat.le_refl 6) infoTx (txncs_one _) (txn_over _ rfl) ?_; intro W6 hb6 hc6; have HT6 := Lib.hid hb6; have HC6 := Lib.hid hc6; clear hb6 hc6))
      exact bodyPost_ret (results_cell_row rfl _ _ (w.heap.size + 1) 53 _ (0, 0) _ rfl HT6.out Tryz.underlying53 rfl infoTx) rfl ⟨_, rfl, cpT_al t A1 c1 B1 d1 P1 e1, HR5.out.ch HC6.out HZ5.out.kdT (by decide) (by decide) (by decide), HB5.out.trans (HC6.out.below HB5.out.size (by simp))⟩
    · go_simp
      refine hK _ _ ?_
      clear hK K
      refine wpAny_ready (rs := [2]) (by kernel_rfl) (by simp) (AllReady.cons rfl (fun K hK => ?_) AllReady.nil)
      go_simp
      refine (HC1 (World.drew V0) HBD.out).out.mono ?_
      rintro e V1 ⟨A1, c1, rfl, hO, hn, hb⟩
      have HN1 := Lib.hid hn
      have HO1 := Lib.hid (hO.mono HSZ.out)
      have HB1 : Hid (Below w.heap.size w V1) := Lib.hid (HBD.out.trans (hb.mono HSZ.out))
      have HT1 : Hid (Blk V1 w.heap.size 53 t.cs) := Lib.hid (Blk.bel (w := World.drew V0) HT0.out hb)
      have HZ1 : Hid (Blk V1 (w.heap.size + 1) 53 zTxK) := Lib.hid (Blk.bel (w := World.drew V0) HZ0.out hb)
      have q1 : V1.cell? ⟨w.heap.size, 1, none⟩ = some (.slice t.B t.outs.length t.d) := HT1.out.cell 1
      clear hb hO hn p0 p1 HBD HSZ HT0 HZ0
      go_simp
      refine hK _ _ ?_
      clear hK K
      refine wpAny_take (i := 6) (v := ?_) rfl (by kernel_rfl) (by kernel_rfl) (by kernel_rfl) (fun _ _ _ h => h) (Or.inl ⟨by rfl, ?_⟩) ?_
      rotate_left
      · (intro w; go_simp; try with_reducible rfl)
      refine wpAny_ready (rs := [5]) (by kernel_rfl) (by simp) (AllReady.cons rfl (fun K hK => ?_) AllReady.nil)
      go_simp
      refine (HC2 V1 HB1.out).out.mono ?_
      rintro e V2 ⟨B1, d1, rfl, hO, hn, hb⟩
      have HN2 := Lib.hid hn
      have HO2 := Lib.hid (hO.mono HB1.out.size)
      have HO1b := Lib.hid (own_belT HO1.out hb)
      have HB2 : Hid (Below w.heap.size w V2) := Lib.hid (HB1.out.trans (hb.mono HB1.out.size))
      have HT2 := Lib.hid (HT1.out.bel hb)
      have HZ2 := Lib.hid (HZ1.out.bel hb)
      have r0 : V2.cell? ⟨w.heap.size, 0, none⟩ = some (.slice t.A t.ins.length t.c) := HT2.out.cell 0
      have r1 : V2.cell? ⟨w.heap.size, 1, none⟩ = some (.slice t.B t.outs.length t.d) := HT2.out.cell 1
      have f0 : V2.frozen? ⟨w.heap.size, 0, none⟩ = false := HT2.out.frozen 0
      have f1 : V2.frozen? ⟨w.heap.size, 1, none⟩ = false := HT2.out.frozen 1
      clear hb hO hn q1 HO1 HT1 HZ1
      go_simp
      refine hK _ _ ?_
      clear hK K
      refine wpAny_ready (rs := [7]) (by kernel_rfl) (by simp) (AllReady.cons rfl (fun K hK => ?_) AllReady.nil)
      go_simp
      refine hK _ _ ?_
      clear hK K
      refine wpAny_take (i := 8) (v := ?_) rfl (by kernel_rfl) (by kernel_rfl) (by kernel_rfl) (fun _ _ _ h => h) (Or.inl ⟨by rfl, ?_⟩) ?_
      rotate_left
      · (intro w; go_simp; try with_reducible rfl)
      refine wpAny_ready (rs := [9]) (by kernel_rfl) (by simp) (AllReady.cons rfl (fun K hK => ?_) AllReady.nil)
      go_simp
      refine hK _ _ ?_
      clear hK K
      refine wpAny_done (by kernel_rfl) ?_ _
      generalize hV3 : World.setCell (World.setCell V2 ⟨w.heap.size, 0, none⟩ (.slice A1 t.ins.length c1)) ⟨w.heap.size, 1, none⟩ (.slice B1 t.outs.length d1) = V3
      have HT3 : Hid (Blk V3 w.heap.size 53 #[.slice A1 t.ins.length c1, .slice B1 t.outs.length d1, .int .u64 (t.p.am : Nat), .string t.p.sig, .string t.p.tok, .slice t.p.A t.p.l.length t.p.c]) := Lib.hid (by rw [← hV3]; exact (HT2.out.set_ 0 (.slice A1 t.ins.length c1)).set_ 1 (.slice B1 t.outs.length d1))
      have HCS : Hid (Ch [w.heap.size] V2 V3) := Lib.hid (by rw [← hV3]; exact (Ch.set_ (by simp) _ _ _).trans (Ch.set_ (by simp) _ _ _))
      have HO3 := Lib.hid (own_chT HO1b.out HCS.out HT2.out.kdT (by decide))
      have HO4 := Lib.hid (own_chT HO2.out HCS.out HT2.out.kdT (by decide))
      have HZ3 := Lib.hid (HZ2.out.ch HCS.out (by simp))
      have HB3 : Hid (Below w.heap.size w V3) := Lib.hid (HB2.out.trans (HCS.out.below HB2.out.size (by simp)))
      have p5 : V3.cell? ⟨w.heap.size, 5, none⟩ = some (.slice t.p.A t.p.l.length t.p.c) := HT3.out.cell 5
      clear hV3 HCS r0 r1 f0 f1 HT2 HZ2 HO1b HO2 HB1 HB2
      go_wp2_with fail
      refine (HC3 V3 HB3.out).out.mono ?_
      rintro e V4 ⟨P1, e1, rfl, hO, hn, hb⟩
      have HN3 := Lib.hid hn
      have HO7 := Lib.hid (hO.mono HB3.out.size)
      have HO5 := Lib.hid (own_belT HO3.out hb)
      have HO6 := Lib.hid (own_belT HO4.out hb)
      have HT4 := Lib.hid (HT3.out.bel hb)
      have HZ4 := Lib.hid (HZ3.out.bel hb)
      have HB4 : Hid (Below w.heap.size w V4) := Lib.hid (HB3.out.trans (hb.mono HB3.out.size))
      have p5 : V4.cell? ⟨w.heap.size, 5, none⟩ = some (.slice t.p.A t.p.l.length t.p.c) := HT4.out.cell 5
      have f5 : V4.frozen? ⟨w.heap.size, 5, none⟩ = false := HT4.out.frozen 5
      clear hb hO hn HO3 HO4 HT3 HZ3 HB3 HC1 HC2 HC3
      have HT5 : Hid (Blk (V4.setCell ⟨w.heap.size, 5, none⟩ (.slice P1 t.p.l.length e1)) w.heap.size 53 (cpT t A1 c1 B1 d1 P1 e1).cs) := Lib.hid (HT4.out.set_ 5 (.slice P1 t.p.l.length e1))
      have HC5 : Hid (Ch [w.heap.size] V4 (V4.setCell ⟨w.heap.size, 5, none⟩ (.slice P1 t.p.l.length e1))) := Lib.hid (Ch.set_ (by simp) _ _ _)
      have HZ5 := Lib.hid (HZ4.out.ch HC5.out (by simp))
      have HR5 : Hid (TxRows w.heap.size (V4.setCell ⟨w.heap.size, 5, none⟩ (.slice P1 t.p.l.length e1)) (cpT t A1 c1 B1 d1 P1 e1)) := Lib.hid ⟨own_chT HO5.out HC5.out HT4.out.kdT (by decide), own_chT HO6.out HC5.out HT4.out.kdT (by decide), own_chT HO7.out HC5.out HT4.out.kdT (by decide), ⟨HN1.out, HN2.out, HN3.out⟩⟩
      have HB5 : Hid (Below w.heap.size w (V4.setCell ⟨w.heap.size, 5, none⟩ (.slice P1 t.p.l.length e1))) := Lib.hid (HB4.out.trans (HC5.out.below HB4.out.size (by simp)))
      clear HO5 HO6 HO7 HC5 HT4 HZ4 HB4
      go_wp2_with (first
        | (refine wpList_load_blk rfl 53 (.tmp 1) rfl w.heap.size 0 6 HT5.out (cpT t A1 c1 B1 d1 P1 e1).cs (by rfl) (txn_ext _) Tryz.underlying53 infoTx (Nat.le_refl 6) ?_)
        | (refine wpList_store_part rfl 53 (.tmp 2) (.tmp 17) rfl (w.heap.size + 1) 0 HZ5.out (cpT t A1 c1 B1 d1 P1 e1).cs (cpT t A1 c1 B1 d1 P1 e1).cs (by rfl) (by rfl) (Nat.le_refl 6) infoTx (txncs_one _) (txn_over _ rfl) ?_; intro W6 hb6 hc6; have HT6 := Lib.hid hb6; have HC6 := Lib.hid hc6; clear hb6 hc6))
      exact bodyPost_ret (results_cell_row rfl _ _ (w.heap.size + 1) 53 _ (0, 0) _ rfl HT6.out Tryz.underlying53 rfl infoTx) rfl ⟨_, rfl, cpT_al t A1 c1 B1 d1 P1 e1, HR5.out.ch HC6.out HZ5.out.kdT (by decide) (by decide) (by decide), HB5.out.trans (HC6.out.below HB5.out.size (by simp))⟩
  · go_simp
    refine hK _ _ ?_
    clear hK K
    refine wpAny_ready (rs := [1]) (by kernel_rfl) (by simp) (AllReady.cons rfl (fun K hK => ?_) AllReady.nil)
    go_simp
    refine hK _ _ ?_
    clear hK K
    refine wpAny_ready (rs := [2]) (by kernel_rfl) (by simp) (AllReady.cons rfl (fun K hK => ?_) AllReady.nil)
    go_simp
    refine (HC1 (World.drew V0) HBD.out).out.mono ?_
    rintro e V1 ⟨A1, c1, rfl, hO, hn, hb⟩
    have HN1 := Lib.hid hn
    have HO1 := Lib.hid (hO.mono HSZ.out)
    have HB1 : Hid (Below w.heap.size w V1) := Lib.hid (HBD.out.trans (hb.mono HSZ.out))
    have HT1 : Hid (Blk V1 w.heap.size 53 t.cs) := Lib.hid (Blk.bel (w := World.drew V0) HT0.out hb)
    have HZ1 : Hid (Blk V1 (w.heap.size + 1) 53 zTxK) := Lib.hid (Blk.bel (w := World.drew V0) HZ0.out hb)
    have q1 : V1.cell? ⟨w.heap.size, 1, none⟩ = some (.slice t.B t.outs.length t.d) := HT1.out.cell 1
    clear hb hO hn p0 p1 HBD HSZ HT0 HZ0
    go_simp
    refine hK _ _ ?_
    clear hK K
    refine wpAny_take (i := 6) (v := ?_) rfl (by kernel_rfl) (by kernel_rfl) (by kernel_rfl) (fun _ _ _ h => h) (Or.inl ⟨by rfl, ?_⟩) ?_
    rotate_left
    · (intro w; go_simp; try with_reducible rfl)
    refine wpAny_ready (rs := [5]) (by kernel_rfl) (by simp) (AllReady.cons rfl (fun K hK => ?_) AllReady.nil)
    go_simp
    refine (HC2 V1 HB1.out).out.mono ?_
    rintro e V2 ⟨B1, d1, rfl, hO, hn, hb⟩
    have HN2 := Lib.hid hn
    have HO2 := Lib.hid (hO.mono HB1.out.size)
    have HO1b := Lib.hid (own_belT HO1.out hb)
    have HB2 : Hid (Below w.heap.size w V2) := Lib.hid (HB1.out.trans (hb.mono HB1.out.size))
    have HT2 := Lib.hid (HT1.out.bel hb)
    have HZ2 := Lib.hid (HZ1.out.bel hb)
    have r0 : V2.cell? ⟨w.heap.size, 0, none⟩ = some (.slice t.A t.ins.length t.c) := HT2.out.cell 0
    have r1 : V2.cell? ⟨w.heap.size, 1, none⟩ = some (.slice t.B t.outs.length t.d) := HT2.out.cell 1
    have f0 : V2.frozen? ⟨w.heap.size, 0, none⟩ = false := HT2.out.frozen 0
    have f1 : V2.frozen? ⟨w.heap.size, 1, none⟩ = false := HT2.out.frozen 1
    clear hb hO hn q1 HO1 HT1 HZ1
    go_simp
    refine hK _ _ ?_
    clear hK K
    refine wpAny_ready (rs := [7]) (by kernel_rfl) (by simp) (AllReady.cons rfl (fun K hK => ?_) AllReady.nil)
    go_simp
    refine hK _ _ ?_
    clear hK K
    refine wpAny_take (i := 8) (v := ?_) rfl (by kernel_rfl) (by kernel_rfl) (by kernel_rfl) (fun _ _ _ h => h) (Or.inl ⟨by rfl, ?_⟩) ?_
    rotate_left
    · (intro w; go_simp; try with_reducible rfl)
    refine wpAny_ready (rs := [9]) (by kernel_rfl) (by simp) (AllReady.cons rfl (fun K hK => ?_) AllReady.nil)
    go_simp
    refine hK _ _ ?_
    clear hK K
    refine wpAny_done (by kernel_rfl) ?_ _
    generalize hV3 : World.setCell (World.setCell V2 ⟨w.heap.size, 0, none⟩ (.slice A1 t.ins.length c1)) ⟨w.heap.size, 1, none⟩ (.slice B1 t.outs.length d1) = V3
    have HT3 : Hid (Blk V3 w.heap.size 53 #[.slice A1 t.ins.length c1, .slice B1 t.outs.length d1, .int .u64 (t.p.am : Nat), .string t.p.sig, .string t.p.tok, .slice t.p.A t.p.l.length t.p.c]) := Lib.hid (by rw [← hV3]; exact (HT2.out.set_ 0 (.slice A1 t.ins.length c1)).set_ 1 (.slice B1 t.outs.length d1))
    have HCS : Hid (Ch [w.heap.size] V2 V3) := Lib.hid (by rw [← hV3]; exact (Ch.set_ (by simp) _ _ _).trans (Ch.set_ (by simp) _ _ _))
    have HO3 := Lib.hid (own_chT HO1b.out HCS.out HT2.out.kdT (by decide))
    have HO4 := Lib.hid (own_chT HO2.out HCS.out HT2.out.kdT (by decide))
    have HZ3 := Lib.hid (HZ2.out.ch HCS.out (by simp))
    have HB3 : Hid (Below w.heap.size w V3) := Lib.hid (HB2.out.trans (HCS.out.below HB2.out.size (by simp)))
    have p5 : V3.cell? ⟨w.heap.size, 5, none⟩ = some (.slice t.p.A t.p.l.length t.p.c) := HT3.out.cell 5
    clear hV3 HCS r0 r1 f0 f1 HT2 HZ2 HO1b HO2 HB1 HB2
    go_wp2_with fail
    refine (HC3 V3 HB3.out).out.mono ?_
    rintro e V4 ⟨P1, e1, rfl, hO, hn, hb⟩
    have HN3 := Lib.hid hn
    have HO7 := Lib.hid (hO.mono HB3.out.size)
    have HO5 := Lib.hid (own_belT HO3.out hb)
    have HO6 := Lib.hid (own_belT HO4.out hb)
    have HT4 := Lib.hid (HT3.out.bel hb)
    have HZ4 := Lib.hid (HZ3.out.bel hb)
    have HB4 : Hid (Below w.heap.size w V4) := Lib.hid (HB3.out.trans (hb.mono HB3.out.size))
    have p5 : V4.cell? ⟨w.heap.size, 5, none⟩ = some (.slice t.p.A t.p.l.length t.p.c) := HT4.out.cell 5
    have f5 : V4.frozen? ⟨w.heap.size, 5, none⟩ = false := HT4.out.frozen 5
    clear hb hO hn HO3 HO4 HT3 HZ3 HB3 HC1 HC2 HC3
    have HT5 : Hid (Blk (V4.setCell ⟨w.heap.size, 5, none⟩ (.slice P1 t.p.l.length e1)) w.heap.size 53 (cpT t A1 c1 B1 d1 P1 e1).cs) := Lib.hid (HT4.out.set_ 5 (.slice P1 t.p.l.length e1))
    have HC5 : Hid (Ch [w.heap.size] V4 (V4.setCell ⟨w.heap.size, 5, none⟩ (.slice P1 t.p.l.length e1))) := Lib.hid (Ch.set_ (by simp) _ _ _)
    have HZ5 := Lib.hid (HZ4.out.ch HC5.out (by simp))
    have HR5 : Hid (TxRows w.heap.size (V4.setCell ⟨w.heap.size, 5, none⟩ (.slice P1 t.p.l.length e1)) (cpT t A1 c1 B1 d1 P1 e1)) := Lib.hid ⟨own_chT HO5.out HC5.out HT4.out.kdT (by decide), own_chT HO6.out HC5.out HT4.out.kdT (by decide), own_chT HO7.out HC5.out HT4.out.kdT (by decide), ⟨HN1.out, HN2.out, HN3.out⟩⟩
    have HB5 : Hid (Below w.heap.size w (V4.setCell ⟨w.heap.size, 5, none⟩ (.slice P1 t.p.l.length e1))) := Lib.hid (HB4.out.trans (HC5.out.below HB4.out.size (by simp)))
    clear HO5 HO6 HO7 HC5 HT4 HZ4 HB4
    go_wp2_with (first
      | (refine wpList_load_blk rfl 53 (.tmp 1) rfl w.heap.size 0 6 HT5.out (cpT t A1 c1 B1 d1 P1 e1).cs (by rfl) (txn_ext _) Tryz.underlying53 infoTx (Nat.le_refl 6) ?_)
      | (refine wpList_store_part rfl 53 (.tmp 2) (.tmp 17) rfl (w.heap.size + 1) 0 HZ5.out (cpT t A1 c1 B1 d1 P1 e1).cs (cpT t A1 c1 B1 d1 P1 e1).cs (by rfl) (by rfl) (Nat.le_refl 6) infoTx (txncs_one _) (txn_over _ rfl) ?_; intro W6 hb6 hc6; have HT6 := Lib.hid hb6; have HC6 := Lib.hid hc6; clear hb6 hc6))
    exact bodyPost_ret (results_cell_row rfl _ _ (w.heap.size + 1) 53 _ (0, 0) _ rfl HT6.out Tryz.underlying53 rfl infoTx) rfl ⟨_, rfl, cpT_al t A1 c1 B1 d1 P1 e1, HR5.out.ch HC6.out HZ5.out.kdT (by decide) (by decide) (by decide), HB5.out.trans (HC6.out.below HB5.out.size (by simp))⟩
end Go.Proofs.YtjcinncphffgaaaGreat
namespace Go.Proofs.YtjcinncphffgaaaGreat
open Go.RowKit Go.Maps
/-- no list is too long -/
def Txn.sm (t : Txn) : Prop := t.ins.length ≤ 1000 ∧ t.outs.length ≤ 1000 ∧ t.p.l.length ≤ 1000
theorem TxOk.sm {t : Txn} (h : TxOk t) : t.sm := ⟨h.ins, h.outs, h.pf.len⟩
set_option maxRecDepth 100000 in
set_option maxHeartbeats 2000000 in
theorem bright1_gen (t : Txn) (w : World) (hm : t.mem w) (hk : t.sm) : Calls Tryz.prog 135 #[.agg t.cs] w fun e w' => e = .returned (.bool (!rightT t)) ∧ Below w.heap.size w w' := by
  have HF := fun W (h : Below w.heap.size w W) => Lib.hid (right_gen t W (hm.bel h) hk.1 hk.2.1 hk.2.2)
  have HX := Lib.hid (Blk.new w 53 t.cs)
  have HB0 : Hid (Below w.heap.size w (w.alloc (.cells t.cs 53))) := Lib.hid ((Below.refl _ _).alloc (Nat.le_refl _) _)
  generalize rightT t = b at HF ⊢
  clear hm hk
  go_enter Tryz.func135, Tryz.ntmps135
  go_wp2_with (first | (refine wpList_load_blk rfl 53 (.tmp 1) rfl w.heap.size 0 6 HX.out t.cs (by rfl) (txn_ext t) Tryz.underlying53 infoTx (Nat.le_refl 6) ?_))
  refine (HF _ HB0.out).out.mono ?_
  rintro e w1 ⟨rfl, hb⟩
  have HB : Hid (Below w.heap.size w w1) := Lib.hid (HB0.out.trans (hb.mono HB0.out.size))
  clear hb
  go_wp2
  go_ret
  exact ⟨rfl, HB.out⟩
set_option maxRecDepth 100000 in
set_option maxHeartbeats 1000000 in
theorem indexb_tx  (A : Option Addr) (l : List Txn) (c : Nat) (q : Txn → Bool) (w : World) (hS : Sl w w.heap.size 6 Txn.cl A l) (hl : l.length ≤ 1000000)
    (HF : ∀ W, Below w.heap.size w W → ∀ x ∈ l, Calls Tryz.prog 135 (#[.agg x.cs] ++ #[]) W fun e w' => e = .returned (.bool (q x)) ∧ Below W.heap.size W w') :
    Calls Tryz.prog 178 #[.slice A l.length c, .func (Fn.func 135) #[] #[]] w fun e w' => e = .returned (.int .i64 (fIdx q l)) ∧ Below w.heap.size w w' := by
  have HS := Lib.hid hS
  have HFF := Lib.hid HF
  clear hS HF
  go_enter Tryz.func178, Tryz.ntmps178
  go_wp2_with fail
  go_loopw [8] (fun i wr => ∃ k : Nat, k ≤ l.length ∧ i = .int .i64 k ∧ Hid ((l.take k).any q = false) ∧ Hid (Below w.heap.size w wr)) (fun i _ => l.length - (intOf i).toNat)
  case atStart => exact ⟨0, Nat.zero_le _, rfl, Lib.hid rfl, Lib.hid (Below.refl _ _)⟩
  case round =>
    obtain ⟨k, hk, rfl, HT, HB⟩ := hrel
    have hz := HB.out.size
    by_cases hlt : k < l.length
    · obtain ⟨ab, off, rfl, hbB, hc⟩ := (HS.out.below HB.out).at_ hlt
      have HC1 := HFF.out wr HB.out _ (List.getElem_mem hlt)
      have HTS : Hid ((l.take (k + 1)).any q = ((l.take k).any q || q l[k])) := by
        show _ = _
        rw [List.take_succ_eq_append_getElem hlt, List.any_append]
        simp
      have HIX := Lib.hid (fIdx_at q l k hlt HT.out)
      generalize l[k] = x at hc HC1 HTS HIX
      have HCC := Lib.hid hc
      have HCL := Lib.hid HC1
      clear hc HC1
      go_wp2_with (refine wpList_load_tx rfl (.tmp 14) rfl ab (off + k * 6) (by rfl) x HCC.out ?_)
      refine HCL.out.mono ?_
      rintro e W1 ⟨rfl, hb⟩
      have HB1 := Lib.hid (HB.out.trans (hb.mono hz))
      clear hb HCL
      generalize q x = b at HTS HIX ⊢
      cases b with
      | true =>
        have HI1 := Lib.hid (HIX.out rfl)
        clear HIX HTS
        go_wp2_with fail
        go_ret
        exact ⟨by rw [HI1.out]; rfl, HB1.out⟩
      | false =>
        have HT1 : Hid ((l.take (k + 1)).any q = false) := Lib.hid (by rw [HTS.out, HT.out]; rfl)
        clear HIX HTS
        go_wp2_with fail
        go_roundw
        case rel => exact ⟨k + 1, by omega, by go_num, HT1, HB1⟩
        case measure => simp [intOf]; omega
    · have hkl : k = l.length := by omega
      subst hkl
      have HE := Lib.hid (fIdx_none q l (by rw [List.take_length] at HT; exact HT.out))
      go_wp2_with fail
      go_ret
      exact ⟨by rw [HE.out]; rfl, HB.out⟩
set_option maxRecDepth 100000 in
theorem containsb_tx  (A : Option Addr) (l : List Txn) (c : Nat) (q : Txn → Bool) (w : World) (hS : Sl w w.heap.size 6 Txn.cl A l) (hl : l.length ≤ 1000000)
    (HF : ∀ W, Below w.heap.size w W → ∀ x ∈ l, Calls Tryz.prog 135 (#[.agg x.cs] ++ #[]) W fun e w' => e = .returned (.bool (q x)) ∧ Below W.heap.size W w') :
    Calls Tryz.prog 136 #[.slice A l.length c, .func (Fn.func 135) #[] #[]] w fun e w' => e = .returned (.bool (l.any q)) ∧ Below w.heap.size w w' := by
  have HI := Lib.hid (indexb_tx  A l c q w hS hl HF)
  have HD := Lib.hid (fIdx_any q l)
  generalize fIdx q l = z at HI HD
  generalize l.any q = b at HD ⊢
  clear hS HF
  have hd : decide ((0 : Int) ≤ z) = b := HD.out
  clear HD
  go_enter Tryz.func136, Tryz.ntmps136
  go_wp2_with fail
  refine HI.out.mono ?_
  rintro e W1 ⟨rfl, hb⟩
  have HB := Lib.hid hb
  clear hb HI
  go_wp2
  go_ret
  exact ⟨rfl, HB.out⟩
theorem any_oddT (l : List Txn) : (l.any fun t => !rightT t) = !l.all rightT := by simp [List.all_eq_not_any_not]
set_option maxRecDepth 100000 in
set_option maxHeartbeats 4000000 in
theorem bright_gen (b : Bm) (w : World) (hm : b.mem w) (hl : b.txs.length ≤ 1000) (hk : ∀ t ∈ b.txs, t.sm) :
    Calls Tryz.prog 63 #[.agg b.cs] w fun e w' => e = .returned (.bool (rightK b.bk)) ∧ Below w.heap.size w w' := by
  have HC := fun W (h : Below w.heap.size w W) => Lib.hid (containsb_tx b.A b.txs b.c (fun t => !rightT t) W ((hm.sl.below h).more h.size) (by omega) (fun W' h' t ht => bright1_gen t W' (((hm.txs t ht).1.bel h).bel h') (hk t ht)))
  have HK : Hid (rightK b.bk = (decide (1 ≤ b.h) && decide (b.h ≤ 4294967295) && decide (b.prev.size = 16) && decide (b.txs.length ≤ 8) && !(b.txs.any fun t => !rightT t))) := Lib.hid (by rw [any_oddT, Bool.not_not]; rfl)
  generalize rightK b.bk = rk at HK ⊢
  generalize (b.txs.any fun t => !rightT t) = ro at HC HK
  have HX : Hid (Blk (w.alloc (.cells b.cs 37)) w.heap.size 37 b.cs) := Lib.hid (Blk.new _ _ _)
  have HB : Hid (Below w.heap.size w (w.alloc (.cells b.cs 37))) := Lib.hid ((Below.refl _ _).alloc (Nat.le_refl _) _)
  have c0 : (w.alloc (.cells b.cs 37)).cell? ⟨w.heap.size, 0, none⟩ = some (.int .i64 b.h) := HX.out.cell 0
  have c1 : (w.alloc (.cells b.cs 37)).cell? ⟨w.heap.size, 1, none⟩ = some (.string b.prev) := HX.out.cell 1
  have c2 : (w.alloc (.cells b.cs 37)).cell? ⟨w.heap.size, 2, none⟩ = some (.slice b.A b.txs.length b.c) := HX.out.cell 2
  clear hm hk
  by_cases h1 : 1 ≤ b.h
  · have d1 : decide ((1 : Int) ≤ b.h) = true := decide_eq_true h1
    have d1' : decide (b.h ≥ 1) = true := decide_eq_true h1
    by_cases h2 : b.h ≤ 4294967295
    · have d2 : decide (b.h ≤ (4294967295 : Int)) = true := decide_eq_true h2
      by_cases h3 : b.prev.size = 16
      · have d3 : ((b.prev.size : Int) == 16) = true := by simp; omega
        by_cases h4 : b.txs.length ≤ 8
        · have d4 : decide ((b.txs.length : Int) ≤ 8) = true := decide_eq_true (by omega)
          have d4' : decide (b.txs.length ≤ 8) = true := decide_eq_true h4
          obtain rfl : rk = !ro := by rw [HK.out, decide_eq_true h1, decide_eq_true h2, decide_eq_true h3, decide_eq_true h4]; rfl
          clear h1 h2 h3 h4 HK
          go_enter Tryz.func63, Tryz.ntmps63
          go_wp2_with fail
          refine (HC _ HB.out).out.mono ?_
          rintro e W1 ⟨rfl, hb⟩
          have HB1 := Lib.hid (HB.out.trans (hb.mono HB.out.size))
          clear hb
          go_wp2_with fail
          go_ret
          exact ⟨rfl, HB1.out⟩
        · have d4 : decide ((b.txs.length : Int) ≤ 8) = false := decide_eq_false (by omega)
          have d4' : decide (b.txs.length ≤ 8) = false := decide_eq_false h4
          obtain rfl : rk = false := by rw [HK.out, decide_eq_false h4, Bool.and_false, Bool.false_and]
          clear h1 h2 h3 h4 HC HK
          go_enter Tryz.func63, Tryz.ntmps63
          go_wp2_with fail
          go_ret
          exact ⟨rfl, HB.out⟩
      · have d3 : ((b.prev.size : Int) == 16) = false := by simp; omega
        obtain rfl : rk = false := by rw [HK.out, decide_eq_false h3, Bool.and_false, Bool.false_and, Bool.false_and]
        clear h1 h2 h3 HC HK
        go_enter Tryz.func63, Tryz.ntmps63
        go_wp2_with fail
        go_ret
        exact ⟨rfl, HB.out⟩
    · have d2 : decide (b.h ≤ (4294967295 : Int)) = false := decide_eq_false h2
      obtain rfl : rk = false := by rw [HK.out, decide_eq_false h2, Bool.and_false, Bool.false_and, Bool.false_and, Bool.false_and]
      clear h1 h2 HC HK
      go_enter Tryz.func63, Tryz.ntmps63
      go_wp2_with fail
      go_ret
      exact ⟨rfl, HB.out⟩
  · have d1 : decide ((1 : Int) ≤ b.h) = false := decide_eq_false h1
    have d1' : decide (b.h ≥ 1) = false := decide_eq_false h1
    obtain rfl : rk = false := by rw [HK.out, decide_eq_false h1, Bool.false_and, Bool.false_and, Bool.false_and, Bool.false_and]
    clear h1 HC HK
    go_enter Tryz.func63, Tryz.ntmps63
    go_wp2_with fail
    go_ret
    exact ⟨rfl, HB.out⟩
theorem joinT_snoc (l : List Txn) (k : Nat) (h : k < l.length) : joinT (l.take (k + 1)) = joinT (l.take k) ++ idT l[k] := by
  unfold joinT
  rw [List.take_succ_eq_append_getElem h, List.foldl_append]; rfl
theorem idT_size (t : Txn) : (idT t).size ≤ 16 := by
  unfold idT
  split
  · exact Nat.zero_le _
  · rw [tagB_size]; exact Nat.le_refl _
theorem joinT_size : ∀ (l : List Txn) (s : ByteArray), (l.foldl (fun s t => s ++ idT t) s).size ≤ s.size + 16 * l.length
  | [], s => by simp
  | t :: r, s => by
    have h1 := joinT_size r (s ++ idT t)
    have h2 := idT_size t
    rw [List.foldl_cons]
    rw [ByteArray.size_append] at h1
    simp only [List.length_cons]; omega
set_option maxRecDepth 100000 in
set_option maxHeartbeats 2000000 in
theorem joinedT_any (A : Option Addr) (l : List Txn) (c : Nat) (w : World) (hS : Sl w w.heap.size 6 Txn.cl A l) (hl : l.length ≤ 64) (hz : ∀ t ∈ l, t.mem w ∧ TxOk t) :
    Calls Tryz.prog 175 #[.slice A l.length c, .func (Fn.func 17) #[] #[]] w fun e w' => e = .returned (.string (joinT l)) ∧ Below w.heap.size w w' := by
  have HS := Lib.hid hS
  have HI := fun t (ht : t ∈ l) W (h : Below w.heap.size w W) => Lib.hid (id_gen t W ((hz t ht).1.bel h) (hz t ht).2.ins (hz t ht).2.outs (hz t ht).2.pf.len (hz t ht).2.out (by have := corex_size t; omega))
  clear hS hz
  go_enter Tryz.func175, Tryz.ntmps175
  go_wp2_with fail
  go_loopw [5, 10] (fun s i wr => ∃ k : Nat, k ≤ l.length ∧ i = .int .i64 k ∧ s = .string (joinT (l.take k)) ∧ Hid (Below w.heap.size w wr)) (fun _ i _ => l.length - (intOf i).toNat)
  case atStart => exact ⟨0, Nat.zero_le _, rfl, rfl, Lib.hid (Below.refl _ _)⟩
  case round =>
    obtain ⟨k, hk, rfl, rfl, HB⟩ := hrel
    have hzz := HB.out.size
    by_cases hlt : k < l.length
    · obtain ⟨ab, off, rfl, hbB, hc⟩ := (HS.out.below HB.out).at_ hlt
      have HJ := Lib.hid (joinT_snoc l k hlt)
      have hj' : (joinT (l.take k)).size ≤ 16 * 64 := by
        have e : (joinT (l.take k)).size ≤ _ := joinT_size (l.take k) ByteArray.empty
        rw [List.length_take, show ByteArray.empty.size = 0 from rfl] at e; omega
      have HF1 := HI _ (List.getElem_mem hlt)
      have ht := idT_size l[k]
      generalize l[k] = x at hc HJ HF1 ht
      generalize joinT (l.take k) = s at HJ hj' ⊢
      generalize idT x = tb at HJ HF1 ht
      have HCC := Lib.hid hc
      have d0 : decide (k < l.length) = true := decide_eq_true hlt
      clear hc
      go_wp2_with (first
        | (refine wpList_load_tx rfl (.tmp 12) rfl ab (off + k * 6) (by rfl) x HCC.out ?_)
        | (refine wpList_store_part rfl 53 (.tmp 7) (.tmp 13) rfl wr.heap.size 0 (cs := zTxK) (Blk.new _ _ _) x.cs x.cs (by rfl) (by rfl) (Nat.le_refl 6) infoTx (txncs_one x) (txn_over x rfl) ?_; intro W1 hb1 hc1; have HB1 := Lib.hid (HB.out.trans ((bel_st' hc1).mono hzz)); have HO1 := Lib.hid hb1; clear hb1 hc1)
        | (refine wpList_load_blk rfl 53 (.tmp 7) rfl wr.heap.size 0 6 HO1.out x.cs (by rfl) (txn_ext x) Tryz.underlying53 infoTx (Nat.le_refl 6) ?_))
      refine (HF1 _ HB1.out).out.mono ?_
      rintro e W2 ⟨rfl, hb⟩
      have HB2 := Lib.hid (HB1.out.trans (hb.mono HB1.out.size))
      clear hb HF1
      go_wp2_with fail
      go_roundw
      case rel => exact ⟨k + 1, by omega, by go_num, by rw [HJ.out], HB2⟩
      case measure => simp [intOf]; omega
    · have d0 : decide (k < l.length) = false := decide_eq_false hlt
      obtain rfl : k = l.length := by omega
      rw [List.take_length]
      go_wp2_with fail
      go_ret
      exact ⟨rfl, HB.out⟩
theorem high_any (n : Nat) (w : World) (h : n ≤ 9223372036854775807) : Calls Tryz.prog 174 #[.int .i64 (n : Int)] w fun e w' => e = .returned (.int .u64 (n : Int)) ∧ w' = w := by
  have HO := fun W => Lib.hid (of_any n W h)
  clear h
  go_enter Tryz.func174, Tryz.ntmps174
  go_wp2_with fail
  refine (HO _).out.mono ?_
  rintro e W1 ⟨rfl, rfl⟩
  go_wp2
  go_ret
  exact ⟨rfl, rfl⟩
set_option maxRecDepth 100000 in
set_option maxHeartbeats 2000000 in
theorem bid_gen (b : Bm) (w : World) (hm : b.mem w) (hl : b.txs.length ≤ 1000) (hk : ∀ t ∈ b.txs, TxOk t) :
    Calls Tryz.prog 131 #[.agg b.cs] w fun e w' => e = .returned (.string (idK b.bk)) ∧ Below w.heap.size w w' := by
  have HRT := fun W (h : Below w.heap.size w W) => Lib.hid (bright_gen b W (hm.bel h) hl (fun t ht => (hk t ht).sm))
  have HX : Hid (Blk (w.alloc (.cells b.cs 37)) w.heap.size 37 b.cs) := Lib.hid (Blk.new _ _ _)
  have HB : Hid (Below w.heap.size w (w.alloc (.cells b.cs 37))) := Lib.hid ((Below.refl _ _).alloc (Nat.le_refl _) _)
  have HI : Hid (idK b.bk = if rightK b.bk = true then tagB wBlock [putB b.h.toNat, b.prev, joinT b.txs] else ByteArray.empty) := Lib.hid rfl
  cases hr : rightK b.bk with
  | false =>
    rw [hr] at HRT
    obtain hi : idK b.bk = ByteArray.empty := by rw [HI.out, hr]; rfl
    rw [hi]
    clear hm hk hr hi HI
    go_enter Tryz.func131, Tryz.ntmps131
    go_wp2_with (first | (refine wpList_load_blk rfl 37 (.tmp 1) rfl w.heap.size 0 3 HX.out b.cs (by rfl) (bm_ext b) Tryz.underlying37 infoBk (Nat.le_refl 3) ?_))
    refine (HRT _ HB.out).out.mono ?_
    rintro e W1 ⟨rfl, hb⟩
    have HB1 := Lib.hid (HB.out.trans (hb.mono HB.out.size))
    clear hb
    go_wp2
    go_ret
    exact ⟨rfl, HB1.out⟩
  | true =>
    rw [hr] at HRT
    obtain hi : idK b.bk = tagB wBlock [putB b.h.toNat, b.prev, joinT b.txs] := by rw [HI.out, hr]; rfl
    rw [hi]
    obtain ⟨⟨p1, p2⟩, p3, p4, _⟩ := right_k hr
    have q1 : (1 : Int) ≤ b.h := p1
    have q2 : b.h ≤ 4294967295 := p2
    have q3 : b.prev.size = 16 := p3
    have q4 : b.txs.length ≤ 8 := p4
    obtain ⟨n, hn⟩ : ∃ n, b.h.toNat = n := ⟨_, rfl⟩
    have hbn : b.h = (n : Int) := by omega
    have HHI := fun W => Lib.hid (high_any n W (by omega))
    have HPU := fun W => Lib.hid (put_any n W (by omega))
    have HJO := fun W (h : Below w.heap.size w W) => Lib.hid (joinedT_any b.A b.txs b.c W ((hm.sl.below h).more h.size) (by omega) (fun t ht => ⟨(hm.txs t ht).1.bel h, hk t ht⟩))
    have hjz : (joinT b.txs).size ≤ 128 := by
      have e : (joinT b.txs).size ≤ _ := joinT_size b.txs ByteArray.empty
      rw [show ByteArray.empty.size = 0 from rfl] at e; omega
    have hpz := putB_size n
    rw [hn]
    have hcs : b.cs = #[.int .i64 (n : Int), .string b.prev, .slice b.A b.txs.length b.c] := by show #[_, _, _] = _; rw [hbn]
    generalize joinT b.txs = js at HJO hjz ⊢
    generalize putB n = pb at HPU hpz ⊢
    have HTG := fun W g (hg : g = W.heap.size) => Lib.hid (tag3 wBlock pb b.prev js W g hg (by decide) (by omega) (by omega) (by omega))
    have HCS := Lib.hid hcs
    clear hm hk hr hi HI p1 p2 p3 p4 q1 q2 q3 q4 hjz hpz hcs hbn hn hl
    go_enter Tryz.func131, Tryz.ntmps131
    go_wp2_with (first | (refine wpList_load_blk rfl 37 (.tmp 1) rfl w.heap.size 0 3 HX.out b.cs (by rfl) (bm_ext b) Tryz.underlying37 infoBk (Nat.le_refl 3) ?_))
    refine (HRT _ HB.out).out.mono ?_
    rintro e W1 ⟨rfl, hb⟩
    replace HX := Lib.hid (HX.out.bel hb)
    replace HB := Lib.hid (HB.out.trans (hb.mono HB.out.size))
    clear hb
    go_upto_region 3 with fail
    rw [HCS.out] at HX
    refine wp_region_held_drew (S := fun W => Hid (Blk W w.heap.size 37 #[.int .i64 (n : Int), .string b.prev, .slice b.A b.txs.length b.c])) (by kernel_rfl) (Lib.hid (HX.out.drewN 1)) (fun hS => ?_)
    replace HB : Hid (Below w.heap.size w (World.drew W1)) := Lib.hid HB.out.drew
    refine wpAnyH_genT fun X hX => ?_
    rw [← hX] at HB hS
    clear hX HX
    refine wpAnyH_take (i := 0) (v := ?_) rfl (by kernel_rfl) (by kernel_rfl) (by kernel_rfl) (fun _ _ _ h => h) (Or.inl ⟨by rfl, ?_⟩) hS ?_
    rotate_left
    · (intro w _; go_simp; try with_reducible rfl)
    refine wpAnyH_take (i := 1) (v := ?_) rfl (by kernel_rfl) (by kernel_rfl) (by kernel_rfl) (fun _ _ _ h => h) (Or.inl ⟨by rfl, ?_⟩) hS ?_
    rotate_left
    · (intro w hS'; have hcell := (show World.cell? _ ⟨_, 0, none⟩ = some (.int .i64 (n : Int)) from Blk.cell hS'.out 0); go_simp; try with_reducible rfl)
    refine wpAnyH_take (i := 4) (v := ?_) rfl (by kernel_rfl) (by kernel_rfl) (by kernel_rfl) (fun _ _ _ h => h) (Or.inl ⟨by rfl, ?_⟩) hS ?_
    rotate_left
    · (intro w _; go_simp; try with_reducible rfl)
    refine wpAnyH_take (i := 5) (v := ?_) rfl (by kernel_rfl) (by kernel_rfl) (by kernel_rfl) (fun _ _ _ h => h) (Or.inl ⟨by rfl, ?_⟩) hS ?_
    rotate_left
    · (intro w hS'; have hcell := (show World.cell? _ ⟨_, 1, none⟩ = some (.string b.prev) from Blk.cell hS'.out 1); go_simp; try with_reducible rfl)
    refine wpAnyH_take (i := 6) (v := ?_) rfl (by kernel_rfl) (by kernel_rfl) (by kernel_rfl) (fun _ _ _ h => h) (Or.inl ⟨by rfl, ?_⟩) hS ?_
    rotate_left
    · (intro w _; go_simp; try with_reducible rfl)
    refine wpAnyH_take (i := 7) (v := ?_) rfl (by kernel_rfl) (by kernel_rfl) (by kernel_rfl) (fun _ _ _ h => h) (Or.inl ⟨by rfl, ?_⟩) hS ?_
    rotate_left
    · (intro w hS'; have hcell := (show World.cell? _ ⟨_, 2, none⟩ = some (.slice b.A b.txs.length b.c) from Blk.cell hS'.out 2); go_simp; try with_reducible rfl)
    refine wpAnyH_ready (rs := [2]) (by kernel_rfl) (by simp) (AllReadyH.cons rfl (fun K hK => ?_) AllReadyH.nil)
    go_simp
    refine (HHI _).out.mono ?_
    rintro e Y ⟨rfl, hq⟩
    rw [hq]; clear hq
    go_simp
    refine hK.out _ _ hS (fun _ => ?_)
    clear hK K
    refine wpAnyH_ready (rs := [3]) (by kernel_rfl) (by simp) (AllReadyH.cons rfl (fun K hK => ?_) AllReadyH.nil)
    go_simp
    refine (HPU _).out.mono ?_
    rintro e Y ⟨rfl, hb⟩
    replace hS := Lib.hid (hS.out.bel hb)
    replace HB := Lib.hid (HB.out.trans (hb.mono HB.out.size))
    clear hb
    go_simp
    refine hK.out _ _ hS (fun _ => ?_)
    clear hK K
    refine wpAnyH_ready (rs := [8]) (by kernel_rfl) (by simp) (AllReadyH.cons rfl (fun K hK => ?_) AllReadyH.nil)
    go_simp
    refine (HJO _ HB.out).out.mono ?_
    rintro e Z ⟨rfl, hb⟩
    replace hS := Lib.hid (hS.out.bel hb)
    replace HB := Lib.hid (HB.out.trans (hb.mono HB.out.size))
    clear hb
    go_simp
    refine hK.out _ _ hS (fun _ => ?_)
    clear hK K
    refine wpAnyH_ready (rs := [9]) (by kernel_rfl) (by simp) (AllReadyH.cons rfl (fun K hK => ?_) AllReadyH.nil)
    go_simp
    refine hK.out _ _ (Lib.hid (hS.out.alloc _)) (fun hS9 => ?_)
    clear hK K
    refine wpAnyH_ready (rs := [10]) (by kernel_rfl) (by simp) (AllReadyH.cons rfl (fun K hK => ?_) AllReadyH.nil)
    go_simp
    refine (HTG Z _ rfl).out.mono ?_
    rintro e U ⟨rfl, hb⟩
    have hbz := hb.size
    have HBU : Hid (Below w.heap.size w U) := Lib.hid (HB.out.trans (hb.mono HB.out.size))
    have hS10 : Hid (Blk U w.heap.size 37 #[.int .i64 (n : Int), .string b.prev, .slice b.A b.txs.length b.c]) := Lib.hid (hS.out.bel hb)
    go_simp
    refine hK.out _ _ hS10 (fun _ => ?_)
    clear hK K
    refine wpAnyH_take (i := 11) (v := ?_) rfl (by kernel_rfl) (by kernel_rfl) (by kernel_rfl) (fun _ _ _ h => h) (Or.inl ⟨by rfl, ?_⟩) hS10 ?_
    rotate_left
    · (intro w _; go_simp; try with_reducible rfl)
    refine wpAnyH_done (by kernel_rfl) ?_ _
    go_simp
    go_wp2_with fail
    go_ret
    exact ⟨rfl, HBU.out⟩
end Go.Proofs.YtjcinncphffgaaaGreat
namespace Go.Proofs.YtjcinncphffgaaaGreat
open Go.RowKit Go.Maps
def zLm : Array Value := #[.int .i64 0, .string ByteArray.empty, .slice none 0 0, .pointer none]
theorem Tryz.infoLmC : (Tryz.prog.info? 152).map (fun i => (i.zero, i.size, i.bytes)) = some (some (.agg zLm), 4, 56) := by kernel_rfl
theorem clone_txG1 (l : List Txn) : ∀ u ∈ l.flatMap Txn.cl, u.oneCell' = true := by
  intro u hu
  obtain ⟨o, _, ho⟩ := List.mem_flatMap.1 hu
  exact Array.all_eq_true'.1 (txncs_one o) u (by simpa [Txn.cl] using ho)
set_option maxRecDepth 100000 in
set_option maxHeartbeats 400000 in
theorem clone_txG (A : Option Addr) (l : List Txn) (c : Nat) (w : World) (hS : Sl w w.heap.size 6 Txn.cl A l) (hl : l.length ≤ 1000) (hA : A = none → c = 0) :
    Calls Tryz.prog 138 #[.slice A l.length c] w fun e w' => ∃ A' c', e = .returned (.slice A' l.length c') ∧ w'.ownsRow w.heap.size 53 6 (.slice A' l.length c') l.length (l.flatMap Txn.cl) ∧ (A' = none → c' = 0) ∧ Below w.heap.size w w' := by
  obtain ⟨i0, hi, hz0, hz1, hz2⟩ := info_parts Tryz.infoTxC
  have Hhz := Lib.hid hz0
  clear hz0
  have qT : ∀ (w : World) (a : Option Addr) (n c n' c' : Nat), (binOp .eql 32 (.slice a n c) (.slice none n' c')).run Tryz.prog w = .ok (.bool a.isNone) w := fun w a n c n' c' => Lib.run_eql_slice_nil w _ _ a n c n' c' Tryz.underlying32
  cases A with
  | none =>
    have he : l = [] := by
      cases l with
      | nil => rfl
      | cons x r => obtain ⟨b, off, e, _⟩ := hS (by simp); cases e
    subst he
    rw [hA rfl]
    clear hS hA
    go_enter Tryz.func138, Tryz.ntmps138
    go_wp2
    go_ret
    exact ⟨none, 0, rfl, own_nil0 _ _ _ _, fun _ => rfl, Below.refl _ _⟩
  | some a =>
    have HN : Hid (∀ o, ∀ j u, (l.flatMap Txn.cl)[j]? = some u → (w.alloc o).cell? (a.add j) = some u) := fun o j u hu => by
      obtain ⟨i, x, q, h1, h2, h3⟩ := flat_at Txn.cl 6 (fun _ => rfl) l j u hu
      have hne : l ≠ [] := by rintro rfl; simp at h1
      obtain ⟨b, off, e, hb, hc⟩ := hS hne
      injection e with e
      subst e
      rw [addr_addA, World.cell?_alloc_lt w o _ hb, h3, ← Nat.add_assoc]
      exact hc i x h1 q u h2
    have HL := Lib.hid (flatMap_len Txn.cl 6 (fun _ => rfl) l)
    clear hS hA
    go_enter Tryz.func138, Tryz.ntmps138
    go_wp2_with (first
      | (at_builtin; go_must (refine wpList_append_own _ rfl (.tmp 5) (.tmp 6) _ rfl w.heap.size 53 i0 _ 6 112 Tryz.underlying32 hi Hhz.out hz1 hz2 rfl (by decide) _ 0 [] rfl (own_empty (Blk.new _ _ _) (Nat.le_refl _)) a l.length c (l.flatMap Txn.cl) rfl HL.out (HN.out _) (clone_txG1 l) (by simp only [maxLen]; omega) (by omega) (by simp) ?_); intro v' w2 hown1 hg1 hnil1))
    have HO2 := Lib.hid hown1
    have HB2 : Hid (Below w.heap.size w w2) := ((Below.refl w.heap.size w).alloc (Nat.le_refl _) _).grown hg1 (by simp) (fun j hj => by cases hj; exact Nat.le_refl _)
    clear hown1 hg1 hnil1
    rw [Nat.zero_add, List.nil_append] at HO2
    obtain ⟨A2, c2, rfl⟩ := own_form HO2.out
    go_ret
    exact ⟨A2, c2, rfl, HO2.out, fun h => by subst h; exact own_noneC HO2.out, HB2.out⟩
theorem clone_lmG1 (l : List Lm) : ∀ u ∈ l.flatMap Lm.cl, u.oneCell' = true := by
  intro u hu
  obtain ⟨o, _, ho⟩ := List.mem_flatMap.1 hu
  exact Array.all_eq_true'.1 (lmcs_one o) u (by simpa [Lm.cl] using ho)
set_option maxRecDepth 100000 in
set_option maxHeartbeats 400000 in
theorem clone_lmG (A : Option Addr) (l : List Lm) (c : Nat) (w : World) (hS : Sl w w.heap.size 4 Lm.cl A l) (hl : l.length ≤ 1000) (hA : A = none → c = 0) :
    Calls Tryz.prog 65 #[.slice A l.length c] w fun e w' => ∃ A' c', e = .returned (.slice A' l.length c') ∧ w'.ownsRow w.heap.size 152 4 (.slice A' l.length c') l.length (l.flatMap Lm.cl) ∧ (A' = none → c' = 0) ∧ Below w.heap.size w w' := by
  obtain ⟨i0, hi, hz0, hz1, hz2⟩ := info_parts Tryz.infoLmC
  have Hhz := Lib.hid hz0
  clear hz0
  have qT : ∀ (w : World) (a : Option Addr) (n c n' c' : Nat), (binOp .eql 134 (.slice a n c) (.slice none n' c')).run Tryz.prog w = .ok (.bool a.isNone) w := fun w a n c n' c' => Lib.run_eql_slice_nil w _ _ a n c n' c' Tryz.underlying134
  cases A with
  | none =>
    have he : l = [] := by
      cases l with
      | nil => rfl
      | cons x r => obtain ⟨b, off, e, _⟩ := hS (by simp); cases e
    subst he
    rw [hA rfl]
    clear hS hA
    go_enter Tryz.func65, Tryz.ntmps65
    go_wp2
    go_ret
    exact ⟨none, 0, rfl, own_nil0 _ _ _ _, fun _ => rfl, Below.refl _ _⟩
  | some a =>
    have HN : Hid (∀ o, ∀ j u, (l.flatMap Lm.cl)[j]? = some u → (w.alloc o).cell? (a.add j) = some u) := fun o j u hu => by
      obtain ⟨i, x, q, h1, h2, h3⟩ := flat_at Lm.cl 4 (fun _ => rfl) l j u hu
      have hne : l ≠ [] := by rintro rfl; simp at h1
      obtain ⟨b, off, e, hb, hc⟩ := hS hne
      injection e with e
      subst e
      rw [addr_addA, World.cell?_alloc_lt w o _ hb, h3, ← Nat.add_assoc]
      exact hc i x h1 q u h2
    have HL := Lib.hid (flatMap_len Lm.cl 4 (fun _ => rfl) l)
    clear hS hA
    go_enter Tryz.func65, Tryz.ntmps65
    go_wp2_with (first
      | (at_builtin; go_must (refine wpList_append_own _ rfl (.tmp 5) (.tmp 6) _ rfl w.heap.size 152 i0 _ 4 56 Tryz.underlying134 hi Hhz.out hz1 hz2 rfl (by decide) _ 0 [] rfl (own_empty (Blk.new _ _ _) (Nat.le_refl _)) a l.length c (l.flatMap Lm.cl) rfl HL.out (HN.out _) (clone_lmG1 l) (by simp only [maxLen]; omega) (by omega) (by simp) ?_); intro v' w2 hown1 hg1 hnil1))
    have HO2 := Lib.hid hown1
    have HB2 : Hid (Below w.heap.size w w2) := ((Below.refl w.heap.size w).alloc (Nat.le_refl _) _).grown hg1 (by simp) (fun j hj => by cases hj; exact Nat.le_refl _)
    clear hown1 hg1 hnil1
    rw [Nat.zero_add, List.nil_append] at HO2
    obtain ⟨A2, c2, rfl⟩ := own_form HO2.out
    go_ret
    exact ⟨A2, c2, rfl, HO2.out, fun h => by subst h; exact own_noneC HO2.out, HB2.out⟩


/-- a block whose first transactions are copies -/
structure OwS (w0 : World) (b : Bm) (A : Option Addr) (c : Nat) (D : List Txn) (w : World) : Prop where
  row : 0 < b.txs.length → ∃ g, A = some ⟨g, 0, none⟩ ∧ w0.heap.size + 2 ≤ g ∧ Rw w g 6 53 Txn.cl (D ++ b.txs.drop D.length)
  al : al2 (b.txs.take D.length) D
  txs : ∀ u ∈ D, TxRows w0.heap.size w u
  blk : Blk w w0.heap.size 37 (Bm.cs ⟨b.h, b.prev, A, b.txs, c⟩)
  res : Blk w (w0.heap.size + 1) 37 zBm.cs
  bel : Below w0.heap.size w0 w
section
variable {w0 w w' : World} {b : Bm} {A : Option Addr} {c : Nat} {D : List Txn}
theorem OwS.go (h : OwS w0 b A c D w) (hb : Below w.heap.size w w') : OwS w0 b A c D w' :=
  ⟨fun hl => by
    obtain ⟨g, h1, h2, h3⟩ := h.row hl
    exact ⟨g, h1, h2, h3.bel hb⟩, h.al, fun u hu => (h.txs u hu).bel hb, h.blk.bel hb, h.res.bel hb, h.bel.trans (hb.mono h.bel.size)⟩
theorem ow_get (l D : List Txn) (hk : D.length < l.length) : (D ++ l.drop D.length)[D.length]? = some l[D.length] := by
  rw [List.getElem?_append_right (Nat.le_refl _), Nat.sub_self, List.getElem?_drop, Nat.add_zero]
  exact List.getElem?_eq_getElem hk
theorem ow_len (l D : List Txn) (hk : D.length ≤ l.length) : (D ++ l.drop D.length).length = l.length := by simp; omega
theorem ow_set (l D : List Txn) (u : Txn) (hk : D.length < l.length) : (D ++ l.drop D.length).set D.length u = (D ++ [u]) ++ l.drop (D ++ [u]).length := by
  rw [List.set_append_right _ _ (Nat.le_refl _), Nat.sub_self, show l.drop D.length = l[D.length] :: l.drop (D.length + 1) from (List.getElem_cons_drop ..).symm, List.set_cons_zero]
  simp
theorem OwS.step (h : OwS w0 b A c D w) (hk : D.length < b.txs.length) {u : Txn} (ha : (b.txs[D.length]).al u) (hr : TxRows w0.heap.size w u) {g : Nat} (hg : A = some ⟨g, 0, none⟩) (hc : Ch [g] w w') (hd : KdT w g 53)
    (hw : Rw w' g 6 53 Txn.cl ((D ++ b.txs.drop D.length).set D.length u)) : OwS w0 b A c (D ++ [u]) w' := by
  obtain ⟨g', h1, h2, h3⟩ := h.row (by omega)
  have e : g' = g := by rw [hg] at h1; injection h1 with h1; injection h1 with h1; exact h1.symm
  subst e
  have hz := h.bel.size
  refine ⟨fun _ => ⟨g', hg, h2, by rw [← ow_set _ _ _ hk]; exact hw⟩, ?_, fun v hv => ?_, h.blk.ch hc (by simp; omega), h.res.ch hc (by simp; omega), h.bel.trans (hc.below hz (by simp; omega))⟩
  · rw [List.length_append, List.length_singleton, List.take_succ_eq_append_getElem hk]
    exact h.al.snoc ha
  · rcases List.mem_append.1 hv with hv | hv
    · exact (h.txs v hv).ch hc hd (by decide) (by decide) (by decide)
    · rw [List.mem_singleton.1 hv]; exact hr.ch hc hd (by decide) (by decide) (by decide)
theorem ow_cs (b : Bm) (A : Option Addr) (c : Nat) (D : List Txn) (hk : D.length = b.txs.length) : Bm.cs ⟨b.h, b.prev, A, b.txs, c⟩ = (Bm.mk b.h b.prev A D c).cs := by
  show #[_, _, _] = #[_, _, _]
  rw [hk]
theorem OwS.done (h : OwS w0 b A c D w) (hk : D.length = b.txs.length) (hn : A = none → c = 0) (hc : Ch [w0.heap.size + 1] w w') {W : World} (hs : SameB w0.heap.size w' W) : (Bm.mk b.h b.prev A D c).mem W := by
  refine ⟨?_, fun t ht => ⟨(((h.txs t ht).ch hc h.res.kdT (by decide) (by decide) (by decide)).same hs).mem, (h.txs t ht).nz⟩, hn⟩
  by_cases hl : 0 < b.txs.length
  · obtain ⟨g, h1, h2, h3⟩ := h.row hl
    rw [hk, List.drop_length, List.append_nil] at h3
    show Sl W W.heap.size 6 Txn.cl A D
    rw [h1]; exact (rw_same (h3.ch hc (by simp; omega)) hs (by omega)).sl (fun _ => rfl)
  · show Sl W W.heap.size 6 Txn.cl A D
    rw [List.length_eq_zero_iff.1 (show D.length = 0 by omega)]; exact Sl.nil _ _ _ _ _
theorem OwS.done_al (h : OwS w0 b A c D w) (hk : D.length = b.txs.length) : b.bk.al (Bm.mk b.h b.prev A D c).bk := by
  refine ⟨rfl, rfl, ?_⟩
  have := h.al
  rw [hk, List.take_length] at this
  exact this
end
set_option maxRecDepth 100000 in
set_option maxHeartbeats 4000000 in
theorem own_any (b : Bm) (w : World) (hm : b.mem w) (hl : b.txs.length ≤ 1000) (hk : ∀ t ∈ b.txs, t.sm) :
    Calls Tryz.prog 66 #[.agg b.cs] w fun e w' => ∃ b' : Bm, e = .returned (.agg b'.cs) ∧ b.bk.al b'.bk ∧ (∀ W, SameB w.heap.size w' W → b'.mem W) ∧ Below w.heap.size w w' := by
  have HCL := fun W (h : Below w.heap.size w W) => Lib.hid (clone_txG b.A b.txs b.c W ((hm.sl.below h).more h.size) hl hm.nz)
  have HCP := fun t (ht : t ∈ b.txs) W (h : Below w.heap.size w W) => Lib.hid (copy_any t W ((hm.txs t ht).1.bel h) (hm.txs t ht).2 (hk t ht).1 (hk t ht).2.1 (hk t ht).2.2)
  clear hm hk
  go_enter Tryz.func66, Tryz.ntmps66
  go_upto_region 1 with fail
  refine wp_gen fun V0 hV0 => ?_
  have HX0 : Hid (Blk V0 w.heap.size 37 b.cs) := Lib.hid (by rw [hV0]; exact (Blk.new _ _ _).alloc _)
  have HZ0 : Hid (Blk V0 (w.heap.size + 1) 37 zBm.cs) := Lib.hid (by rw [hV0]; exact Blk.newAt (by simp))
  have HB0 : Hid (Below w.heap.size w V0) := Lib.hid (by rw [hV0]; exact ((Below.refl _ _).alloc (Nat.le_refl _) _).alloc (by simp) _)
  have p2 : V0.cell? ⟨w.heap.size, 2, none⟩ = some (.slice b.A b.txs.length b.c) := HX0.out.cell 2
  have hN0 := HZ0.out.lt
  clear hV0
  go_wp2_with fail
  refine (HCL V0 HB0.out).out.mono ?_
  rintro e V1 ⟨A', c', rfl, hO, hn, hb⟩
  have HN := Lib.hid hn
  have HO := Lib.hid hO
  have HX1 := Lib.hid (HX0.out.bel hb)
  have HZ1 := Lib.hid (HZ0.out.bel hb)
  have HB1 : Hid (Below w.heap.size w V1) := Lib.hid (HB0.out.trans (hb.mono HB0.out.size))
  have p2 : V1.cell? ⟨w.heap.size, 2, none⟩ = some (.slice b.A b.txs.length b.c) := HX1.out.cell 2
  have f2 : V1.frozen? ⟨w.heap.size, 2, none⟩ = false := HX1.out.frozen 2
  have HV : Hid (w.heap.size + 2 ≤ V0.heap.size) := Lib.hid (by omega)
  clear hn hO hb HX0 HZ0 HB0 HCL
  go_upto_region 2 with fail
  refine wp_gen fun V2 hV2 => ?_
  have HCS : Hid (Ch [w.heap.size] V1 V2) := Lib.hid (by rw [hV2]; exact Ch.set_ (by simp) _ _ _)
  have HS : Hid (OwS w b A' c' [] V2) := Lib.hid ⟨fun hl0 => by
      have hO2 := own_chT HO.out HCS.out HX1.out.kdT (by decide)
      obtain ⟨g, h1, h2, h3⟩ := Rw.of_own (enc := Txn.cl) (fun _ => rfl) hO2 hl0
      exact ⟨g, h1, Nat.le_trans HV.out h2, h3⟩, al2.nil, (fun u hu => by cases hu), by rw [hV2]; exact HX1.out.set_ 2 (.slice A' b.txs.length c'), HZ1.out.ch HCS.out (by simp), HB1.out.trans (HCS.out.below HB1.out.size (by simp))⟩
  have p2 : V2.cell? ⟨w.heap.size, 2, none⟩ = some (.slice A' b.txs.length c') := HS.out.blk.cell 2
  clear hV2 HCS f2 HX1 HZ1 HB1 HO hN0
  go_wp2_with fail
  go_loopw [12] (fun i wr => ∃ (k : Nat) (D : List Txn), D.length = k ∧ k ≤ b.txs.length ∧ i = .int .i64 k ∧ Hid (OwS w b A' c' D wr)) (fun i _ => b.txs.length - (intOf i).toNat)
  case atStart => exact ⟨0, [], rfl, Nat.zero_le _, rfl, HS⟩
  case round =>
    clear HS p2
    obtain ⟨k, D, hD, hk, rfl, HS⟩ := hrel
    by_cases hlt : k < b.txs.length
    · subst hD
      obtain ⟨g, hA, hgN, hrw⟩ := HS.out.row (by omega)
      subst hA
      have HC : Hid (∀ j u, (b.txs[D.length]).cl[j]? = some u → wr.cell? ⟨g, D.length * 6 + j, none⟩ = some u) := Lib.hid (fun j u hu => by
        have h1 := (List.getElem?_eq_some_iff.1 (ow_get b.txs D hlt))
        have := Rw.cells (enc := Txn.cl) (fun _ => rfl) hrw D.length h1.1 j u (by rw [h1.2]; exact hu)
        exact this)
      have HME : Hid (b.txs[D.length] ∈ b.txs) := Lib.hid (List.getElem_mem hlt)
      have HCY := fun W (h : Below w.heap.size w W) => HCP _ HME.out W h
      have HST := fun W W' u (h : OwS w b (some ⟨g, 0, none⟩) c' D W) (ha : (b.txs[D.length]).al u) (hr : TxRows w.heap.size W u) (hc : Ch [g] W W') (hd : KdT W g 53) (hw : Rw W' g 6 53 Txn.cl ((D ++ b.txs.drop D.length).set D.length u)) => Lib.hid (h.step hlt ha hr rfl hc hd hw)
      have hln := ow_len b.txs D hk
      generalize b.txs[D.length] = x at HC HME HCY HST
      have d0 : decide (D.length < b.txs.length) = true := decide_eq_true hlt
      have d1 : (0 : Int) ≤ (D.length : Int) := by omega
      have d2 : (D.length : Int) < (b.txs.length : Int) := by omega
      have p2 : wr.cell? ⟨w.heap.size, 2, none⟩ = some (.slice (some ⟨g, 0, none⟩) b.txs.length c') := HS.out.blk.cell 2
      have hg4 : Hid (g < wr.heap.size) := Lib.hid hrw.lt
      clear hrw HCP
      go_upto_region 5 with (first
        | (refine wpList_load_tx rfl (.tmp 15) rfl g (D.length * 6) (by rfl) x HC.out ?_)
        | (refine wpList_store_part rfl 53 (.tmp 4) (.tmp 16) rfl wr.heap.size 0 (cs := zTxK) (Blk.new _ _ _) x.cs x.cs (by rfl) (by rfl) (Nat.le_refl 6) infoTx (txncs_one x) (txn_over x rfl) ?_; intro W1 hb1 hc1; have hb := bel_st' hc1; have H4 := Lib.hid hb1; replace HS := Lib.hid (HS.out.go hb); clear hb1 hc1 hb))
      try go_frame
      have hne4 : Hid (wr.heap.size ≠ g) := Lib.hid (by have := hg4.out; omega)
      generalize wr.heap.size = g4 at H4 hne4 ⊢
      refine wp_region_held_drew (S := fun W => Hid (Blk W w.heap.size 37 (Bm.cs ⟨b.h, b.prev, some ⟨g, 0, none⟩, b.txs, c'⟩) ∧ Blk W g4 53 x.cs)) (by kernel_rfl) (Lib.hid ⟨HS.out.blk.drewN 1, H4.out.drewN 1⟩) (fun hS => ?_)
      replace HS := Lib.hid (HS.out.go (Below.refl _ _).drew)
      refine wpAnyH_genT fun X hX => ?_
      rw [← hX] at HS hS
      clear hX H4 HC p2
      refine wpAnyH_take (i := 0) (v := ?_) rfl (by kernel_rfl) (by kernel_rfl) (by kernel_rfl) (fun _ _ _ h => h) (Or.inl ⟨by rfl, ?_⟩) hS ?_
      rotate_left
      · (intro w _; go_simp; try with_reducible rfl)
      refine wpAnyH_take (i := 1) (v := ?_) rfl (by kernel_rfl) (by kernel_rfl) (by kernel_rfl) (fun _ _ _ h => h) (Or.inl ⟨by rfl, ?_⟩) hS ?_
      rotate_left
      · (intro w hS'; have hcell := (show World.cell? _ ⟨_, 2, none⟩ = some (.slice (some ⟨g, 0, none⟩) b.txs.length c') from Blk.cell hS'.out.1 2); go_simp; try with_reducible rfl)
      refine wpAnyH_take (i := 2) (v := ?_) rfl (by kernel_rfl) (by kernel_rfl) (by kernel_rfl) (fun _ _ _ h => h) (Or.inl ⟨by rfl, ?_⟩) hS ?_
      rotate_left
      · (intro w _; go_simp; try with_reducible rfl)
      refine wpAnyH_take (i := 3) (v := .agg x.cs) rfl (by kernel_rfl) (by kernel_rfl) (by kernel_rfl) (fun _ _ _ h => h) (yields_blk (by rfl) 53 (.tmp 4) (by rfl) g4 0 6 (t := 53) (cs := x.cs) (fun W h => h.out.2) x.cs (by rfl) (txn_ext x) Tryz.underlying53 infoTx (Nat.le_refl 6)) hS ?_
      refine wpAnyH_ready (rs := [4]) (by kernel_rfl) (by simp) (AllReadyH.cons rfl (fun K hK => ?_) AllReadyH.nil)
      go_simp
      refine (HCY X HS.out.bel).out.mono ?_
      rintro e Y ⟨u, rfl, hal, hrows, hb⟩
      have HR := Lib.hid (hrows.mono HS.out.bel.size)
      replace HS := Lib.hid (HS.out.go hb)
      have H4 := Lib.hid (hS.out.2.bel hb)
      have HAL := Lib.hid hal
      clear hb hrows hal
      go_simp
      refine hK.out _ _ (Lib.hid ⟨HS.out.blk, H4.out⟩) (fun hS1 => ?_)
      clear hK K hS
      refine wpAnyH_take (i := 5) (v := ?_) rfl (by kernel_rfl) (by kernel_rfl) (by kernel_rfl) (fun _ _ _ h => h) (Or.inl ⟨by rfl, ?_⟩) hS1 ?_
      rotate_left
      · (intro w _; go_simp; try with_reducible rfl)
      refine wpAnyH_ready (rs := [6]) (by kernel_rfl) (by simp) (AllReadyH.cons rfl (fun K hK => ?_) AllReadyH.nil)
      obtain ⟨g', hg', _, cur, hcur, hcz, hcu⟩ := HS.out.row (by omega)
      injection hg' with hg'
      injection hg' with hg'
      subst hg'
      rw [hln] at hcz
      have hsz : D.length * 6 + u.cs.size ≤ cur.size := by
        have : u.cs.size = 6 := rfl
        omega
      obtain ⟨j6, hj6⟩ : ∃ j6, j6 = D.length * 6 := ⟨_, rfl⟩
      obtain ⟨ov, hov⟩ : ∃ ov, over cur j6 u.cs.toList = ov := ⟨_, rfl⟩
      rw [← hj6] at hsz ⊢
      refine step_store_part (by rfl) 53 (.tmp 22) (.tmp 21) (by rfl) g j6 hcur u.cs ov (by rfl) (by rfl) hsz infoTx (txncs_one u) hov ?_
      intro Z hz1 hz2
      rw [← hov, hj6] at hz1
      have HS2 := HST Y Z u HS.out HAL.out HR.out hz2 hcur.kdT (Rw.set (enc := Txn.cl) (k := 6) txcl_len (by rw [hln]; exact hcz) hcu D.length u (by rw [hln]; exact hlt) hz1)
      have h4g : Hid (Blk Z g4 53 x.cs) := Lib.hid (H4.out.ch hz2 (by have := hne4.out; simpa using this))
      clear HS hz1 hz2 hcur hcu
      refine hK.out _ _ (Lib.hid ⟨HS2.out.blk, h4g.out⟩) (fun hS2 => ?_)
      clear hK K hS1
      refine wpAnyH_done (by kernel_rfl) ?_ _
      go_simp
      go_wp2_with fail
      go_roundw
      case rel => exact ⟨D.length + 1, D ++ [u], by simp, by omega, by go_num, HS2⟩
      case measure => simp [intOf]; omega
    · have d0 : decide (k < b.txs.length) = false := decide_eq_false hlt
      obtain rfl : k = b.txs.length := by omega
      have HFI := fun W (hc : Ch [w.heap.size + 1] wr W) => Lib.hid (fun V (hv : SameB w.heap.size W V) => HS.out.done hD HN.out hc hv)
      have HAL := Lib.hid (HS.out.done_al hD)
      have HXE : Hid (Blk wr w.heap.size 37 (Bm.mk b.h b.prev A' D c').cs) := Lib.hid (by rw [← ow_cs b A' c' D hD]; exact HS.out.blk)
      go_wp2_with (first
        | (refine wpList_load_blk rfl 37 (.tmp 1) rfl w.heap.size 0 3 HXE.out (Bm.mk b.h b.prev A' D c').cs (by rfl) (bm_ext _) Tryz.underlying37 infoBk (Nat.le_refl 3) ?_)
        | (refine wpList_store_part rfl 37 (.tmp 2) (.tmp 24) rfl (w.heap.size + 1) 0 HS.out.res (Bm.mk b.h b.prev A' D c').cs (Bm.mk b.h b.prev A' D c').cs (by rfl) (by rfl) (Nat.le_refl 3) infoBk (bmcs_one _) (bm_over _ rfl) ?_; intro W6 hb6 hc6; have HT6 := Lib.hid hb6; have HC6 := Lib.hid hc6; clear hb6 hc6))
      exact bodyPost_ret (results_cell_row rfl _ _ (w.heap.size + 1) 37 _ (0, 0) _ rfl HT6.out Tryz.underlying37 rfl infoBk) rfl ⟨_, rfl, HAL.out, (HFI _ HC6.out).out, HS.out.bel.trans (HC6.out.below HS.out.bel.size (by simp))⟩
end Go.Proofs.YtjcinncphffgaaaGreat
