/- law18: its own play, of any state and call. -/
import Derived.Outline
import Derived.Test.YtjcinncphffgaaaGreatMiN1
set_option linter.unusedVariables false
set_option linter.unusedSimpArgs false
namespace Go.Proofs.YtjcinncphffgaaaGreat
section
open Go.RowKit Go.Maps
noncomputable def playE18 (s : St) (mt : Nat) (o : Op17) : Int :=
 if o.kind = 0 then vouE s o.am o.s o.r else if o.kind = 1 then tokE s o.s mt o.r else if o.kind = 2 then ticE s o.x o.r else moreE s o.e (fitsB o.e.o)
noncomputable def playS18 (s : St) (mt : Nat) (o : Op17) : St :=
 if o.kind = 0 then s.vouch o.am o.s else if o.kind = 1 then s.token o.s (cntN s.lock.o.anchor o.s mt) else if o.kind = 2 then tickS s o.x else s.addtop o.e
set_option maxRecDepth 100000 in
set_option maxHeartbeats 4000000 in
theorem play18_any (s : St) (mt : Nat) (o : Op17) (w : World) (hg : s.good mt) (hS : s.mem w) (ho : o.fit) :
  Calls Tryz.prog 49 #[.agg s.cs, .agg o.cs] w (ChR (playS18 s mt o) (playE18 s mt o) w) := by
 have HX : Hid (Blk (((w.alloc (.cells s.cs 103)).alloc (.cells o.cs 124)).alloc (.cells zSt 103)) w.heap.size 103 s.cs) := Lib.hid (((Blk.new w _ _).alloc _).alloc _)
 have HO : Hid (Blk (((w.alloc (.cells s.cs 103)).alloc (.cells o.cs 124)).alloc (.cells zSt 103)) (w.heap.size + 1) 124 o.cs) := Lib.hid (Blk.alloc (Blk.newAt (by simp)) _)
 have HR : Hid (Blk (((w.alloc (.cells s.cs 103)).alloc (.cells o.cs 124)).alloc (.cells zSt 103)) (w.heap.size + 1 + 1) 103 zSt) := Blk.newAt (by simp)
 have HB : Hid (Below w.heap.size w (((w.alloc (.cells s.cs 103)).alloc (.cells o.cs 124)).alloc (.cells zSt 103))) := (((Below.refl _ _).alloc (Nat.le_refl _) _).alloc (by simp) _).alloc (by simp <;> omega) _
 have c0 : ∀ q, (((w.alloc (.cells s.cs 103)).alloc (.cells o.cs 124)).alloc q).cell? ⟨w.heap.size + 1, 0, none⟩ = some (.int .i64 o.kind) := fun q => Blk.cell (Blk.alloc (Blk.newAt (by simp)) q) 0
 have c1 : ∀ q, (((w.alloc (.cells s.cs 103)).alloc (.cells o.cs 124)).alloc q).cell? ⟨w.heap.size + 1, 1, none⟩ = some (.int .u64 o.am) := fun q => Blk.cell (Blk.alloc (Blk.newAt (by simp)) q) 1
 have c2 : ∀ q, (((w.alloc (.cells s.cs 103)).alloc (.cells o.cs 124)).alloc q).cell? ⟨w.heap.size + 1, 2, none⟩ = some (.string o.s) := fun q => Blk.cell (Blk.alloc (Blk.newAt (by simp)) q) 2
 have c24 : ∀ q, (((w.alloc (.cells s.cs 103)).alloc (.cells o.cs 124)).alloc q).cell? ⟨w.heap.size + 1, 24, none⟩ = some (.int .u64 o.r) := fun q => Blk.cell (Blk.alloc (Blk.newAt (by simp)) q) 24
 have H0 := fun W hW => Lib.hid (xvoucher_any s o.am o.s o.r W hg.fit (hS.bel (w' := W) hW) ho.am ho.s ho.r)
 have H1 := fun W hW => Lib.hid (xtoken_any s o.s mt o.r W hg.fit (hS.bel (w' := W) hW) hg.an hg.tok hg.mt ho.r)
 have H2 := fun W hW => Lib.hid (xticket_any s o.x o.r W hg.fit hg.wins (hS.bel (w' := W) hW) ho.x ho.r)
 have H3 := fun W hW => Lib.hid (xmore_any s o.e W hg.fit hg.tops (hS.bel (w' := W) hW) ho.eam (fitsB o.e.o) (fun W => fits_gen o.e.o W))
 have HE : Hid (playE18 s mt o = if o.kind = 0 then vouE s o.am o.s o.r else if o.kind = 1 then tokE s o.s mt o.r else if o.kind = 2 then ticE s o.x o.r else moreE s o.e (fitsB o.e.o)) := rfl
 have HP : Hid (playS18 s mt o = if o.kind = 0 then s.vouch o.am o.s else if o.kind = 1 then s.token o.s (cntN s.lock.o.anchor o.s mt) else if o.kind = 2 then tickS s o.x else s.addtop o.e) := rfl
 generalize playE18 s mt o = f at HE ⊢
 generalize playS18 s mt o = S' at HP ⊢
 generalize vouE s o.am o.s o.r = f0 at HE H0
 generalize tokE s o.s mt o.r = f1 at HE H1
 generalize ticE s o.x o.r = f2 at HE H2
 generalize moreE s o.e (fitsB o.e.o) = f3 at HE H3
 generalize s.vouch o.am o.s = S0 at HP H0
 generalize s.token o.s (cntN s.lock.o.anchor o.s mt) = S1 at HP H1
 generalize tickS s o.x = S2 at HP H2
 generalize s.addtop o.e = S3 at HP H3
 clear hg hS ho
 by_cases k0 : o.kind = 0
 ·obtain rfl : f = f0 := by rw [HE.out, if_pos k0]
  obtain rfl : S' = S0 := by rw [HP.out, if_pos k0]
  have d0 : (o.kind == 0) = true := by rw [k0]; rfl
  clear k0 H1 H2 H3 HE HP
  go_enter Tryz.func49, Tryz.ntmps49
  go_wp2_with (refine wpList_load_blk rfl 103 (.tmp 2) rfl w.heap.size 0 20 HX.out s.cs (by rfl) (st_ext s) Tryz.underlying103 infoSta (st_le s) ?_)
  refine (H0 _ HB.out).out.mono ?_
  rintro e V ⟨hb, hr⟩
  replace HR := Lib.hid (HR.out.bel hb)
  have HBo := HB
  replace HB := Lib.hid (HB.out.trans (hb.mono HB.out.size))
  clear hb
  rcases hr with ⟨hne, rfl⟩ | ⟨rfl, A, c, B, d, rfl, hl⟩
  ·have HNE := Lib.hid hne
   clear hne
   go_wp2_with (refine wpList_store_part rfl 103 (.tmp 4) (.tmp 18) rfl (w.heap.size + 1 + 1) 0 HR.out zSt zSt (by rfl) (by rfl) (Nat.le_refl 20) infoSta zStO (zStV rfl) ?_; intro W6 hb6 hc6; have HT := Lib.hid hb6; have HC6 := Lib.hid hc6; clear hb6 hc6)
   refine bodyPost_ret (results_cell_row2 rfl _ HT.out rfl Tryz.underlying103 infoSta) rfl ?_
   exact ⟨HB.out.trans (HC6.out.below HB.out.size (by simp <;> omega)), .inl ⟨HNE.out, rfl⟩⟩
  ·have HL := Lib.hid (hl.mono HBo.out.size)
   clear hl
   go_wp2_with (refine wpList_store_part rfl 103 (.tmp 4) (.tmp 18) rfl (w.heap.size + 1 + 1) 0 HR.out (S'.lists A c B d).cs (S'.lists A c B d).cs (by rfl) (by rfl) (Nat.le_refl 20) infoSta (stcs_one _) (st_over _ rfl) ?_; intro W6 hb6 hc6; have HT := Lib.hid hb6; have HC6 := Lib.hid hc6; clear hb6 hc6)
   refine bodyPost_ret (results_cell_row2 rfl _ HT.out rfl Tryz.underlying103 infoSta) rfl ?_
   exact ⟨HB.out.trans (HC6.out.below HB.out.size (by simp <;> omega)), .inr ⟨rfl, A, c, B, d, rfl, HL.out.ch HC6.out HR.out.kdT⟩⟩
 ·have d0 : (o.kind == 0) = false := beq_eq_false_iff_ne.2 k0
  by_cases k1 : o.kind = 1
  ·obtain rfl : f = f1 := by rw [HE.out, if_neg k0, if_pos k1]
   obtain rfl : S' = S1 := by rw [HP.out, if_neg k0, if_pos k1]
   have d1 : (o.kind == 1) = true := by rw [k1]; rfl
   clear k0 k1 H0 H2 H3 HE HP
   go_enter Tryz.func49, Tryz.ntmps49
   go_wp2_with (refine wpList_load_blk rfl 103 (.tmp 2) rfl w.heap.size 0 20 HX.out s.cs (by rfl) (st_ext s) Tryz.underlying103 infoSta (st_le s) ?_)
   refine (H1 _ HB.out).out.mono ?_
   rintro e V ⟨hb, hr⟩
   replace HR := Lib.hid (HR.out.bel hb)
   have HBo := HB
   replace HB := Lib.hid (HB.out.trans (hb.mono HB.out.size))
   clear hb
   rcases hr with ⟨hne, rfl⟩ | ⟨rfl, A, c, B, d, rfl, hl⟩
   ·have HNE := Lib.hid hne
    clear hne
    go_wp2_with (refine wpList_store_part rfl 103 (.tmp 4) (.tmp 28) rfl (w.heap.size + 1 + 1) 0 HR.out zSt zSt (by rfl) (by rfl) (Nat.le_refl 20) infoSta zStO (zStV rfl) ?_; intro W6 hb6 hc6; have HT := Lib.hid hb6; have HC6 := Lib.hid hc6; clear hb6 hc6)
    refine bodyPost_ret (results_cell_row2 rfl _ HT.out rfl Tryz.underlying103 infoSta) rfl ?_
    exact ⟨HB.out.trans (HC6.out.below HB.out.size (by simp <;> omega)), .inl ⟨HNE.out, rfl⟩⟩
   ·have HL := Lib.hid (hl.mono HBo.out.size)
    clear hl
    go_wp2_with (refine wpList_store_part rfl 103 (.tmp 4) (.tmp 28) rfl (w.heap.size + 1 + 1) 0 HR.out (S'.lists A c B d).cs (S'.lists A c B d).cs (by rfl) (by rfl) (Nat.le_refl 20) infoSta (stcs_one _) (st_over _ rfl) ?_; intro W6 hb6 hc6; have HT := Lib.hid hb6; have HC6 := Lib.hid hc6; clear hb6 hc6)
    refine bodyPost_ret (results_cell_row2 rfl _ HT.out rfl Tryz.underlying103 infoSta) rfl ?_
    exact ⟨HB.out.trans (HC6.out.below HB.out.size (by simp <;> omega)), .inr ⟨rfl, A, c, B, d, rfl, HL.out.ch HC6.out HR.out.kdT⟩⟩
  ·have d1 : (o.kind == 1) = false := beq_eq_false_iff_ne.2 k1
   by_cases k2 : o.kind = 2
   ·obtain rfl : f = f2 := by rw [HE.out, if_neg k0, if_neg k1, if_pos k2]
    obtain rfl : S' = S2 := by rw [HP.out, if_neg k0, if_neg k1, if_pos k2]
    have d2 : (o.kind == 2) = true := by rw [k2]; rfl
    clear k0 k1 k2 H0 H1 H3 HE HP
    go_enter Tryz.func49, Tryz.ntmps49
    go_wp2_with (first
     | (refine wpList_load_blk rfl 103 (.tmp 2) rfl w.heap.size 0 20 HX.out s.cs (by rfl) (st_ext s) Tryz.underlying103 infoSta (st_le s) ?_)
     | (refine wpList_load_blk rfl 122 (.tmp 33) rfl (w.heap.size + 1) 3 10 HO.out o.x.cs (by rfl) (op_win o) Tryz.underlying122 infoWn (by show 13 ≤ 25; omega) ?_))
    refine (H2 _ HB.out).out.mono ?_
    rintro e V ⟨hb, hr⟩
    replace HR := Lib.hid (HR.out.bel hb)
    have HBo := HB
    replace HB := Lib.hid (HB.out.trans (hb.mono HB.out.size))
    clear hb
    rcases hr with ⟨hne, rfl⟩ | ⟨rfl, A, c, B, d, rfl, hl⟩
    ·have HNE := Lib.hid hne
     clear hne
     go_wp2_with (refine wpList_store_part rfl 103 (.tmp 4) (.tmp 38) rfl (w.heap.size + 1 + 1) 0 HR.out zSt zSt (by rfl) (by rfl) (Nat.le_refl 20) infoSta zStO (zStV rfl) ?_; intro W6 hb6 hc6; have HT := Lib.hid hb6; have HC6 := Lib.hid hc6; clear hb6 hc6)
     refine bodyPost_ret (results_cell_row2 rfl _ HT.out rfl Tryz.underlying103 infoSta) rfl ?_
     exact ⟨HB.out.trans (HC6.out.below HB.out.size (by simp <;> omega)), .inl ⟨HNE.out, rfl⟩⟩
    ·have HL := Lib.hid (hl.mono HBo.out.size)
     clear hl
     go_wp2_with (refine wpList_store_part rfl 103 (.tmp 4) (.tmp 38) rfl (w.heap.size + 1 + 1) 0 HR.out (S'.lists A c B d).cs (S'.lists A c B d).cs (by rfl) (by rfl) (Nat.le_refl 20) infoSta (stcs_one _) (st_over _ rfl) ?_; intro W6 hb6 hc6; have HT := Lib.hid hb6; have HC6 := Lib.hid hc6; clear hb6 hc6)
     refine bodyPost_ret (results_cell_row2 rfl _ HT.out rfl Tryz.underlying103 infoSta) rfl ?_
     exact ⟨HB.out.trans (HC6.out.below HB.out.size (by simp <;> omega)), .inr ⟨rfl, A, c, B, d, rfl, HL.out.ch HC6.out HR.out.kdT⟩⟩
   ·have d2 : (o.kind == 2) = false := beq_eq_false_iff_ne.2 k2
    obtain rfl : f = f3 := by rw [HE.out, if_neg k0, if_neg k1, if_neg k2]
    obtain rfl : S' = S3 := by rw [HP.out, if_neg k0, if_neg k1, if_neg k2]
    clear k0 k1 k2 H0 H1 H2 HE HP
    go_enter Tryz.func49, Tryz.ntmps49
    go_wp2_with (first
     | (refine wpList_load_blk rfl 103 (.tmp 2) rfl w.heap.size 0 20 HX.out s.cs (by rfl) (st_ext s) Tryz.underlying103 infoSta (st_le s) ?_)
     | (refine wpList_load_blk rfl 89 (.tmp 41) rfl (w.heap.size + 1) 13 11 HO.out o.e.cs (by rfl) (op_en o) Tryz.underlying89 infoEnt (by show 24 ≤ 25; omega) ?_))
    refine (H3 _ HB.out).out.mono ?_
    rintro e V ⟨hb, hr⟩
    replace HR := Lib.hid (HR.out.bel hb)
    have HBo := HB
    replace HB := Lib.hid (HB.out.trans (hb.mono HB.out.size))
    clear hb
    rcases hr with ⟨hne, rfl⟩ | ⟨rfl, A, c, B, d, rfl, hl⟩
    ·have HNE := Lib.hid hne
     clear hne
     go_wp2_with (refine wpList_store_part rfl 103 (.tmp 4) (.tmp 44) rfl (w.heap.size + 1 + 1) 0 HR.out zSt zSt (by rfl) (by rfl) (Nat.le_refl 20) infoSta zStO (zStV rfl) ?_; intro W6 hb6 hc6; have HT := Lib.hid hb6; have HC6 := Lib.hid hc6; clear hb6 hc6)
     refine bodyPost_ret (results_cell_row2 rfl _ HT.out rfl Tryz.underlying103 infoSta) rfl ?_
     exact ⟨HB.out.trans (HC6.out.below HB.out.size (by simp <;> omega)), .inl ⟨HNE.out, rfl⟩⟩
    ·have HL := Lib.hid (hl.mono HBo.out.size)
     clear hl
     go_wp2_with (refine wpList_store_part rfl 103 (.tmp 4) (.tmp 44) rfl (w.heap.size + 1 + 1) 0 HR.out (S'.lists A c B d).cs (S'.lists A c B d).cs (by rfl) (by rfl) (Nat.le_refl 20) infoSta (stcs_one _) (st_over _ rfl) ?_; intro W6 hb6 hc6; have HT := Lib.hid hb6; have HC6 := Lib.hid hc6; clear hb6 hc6)
     refine bodyPost_ret (results_cell_row2 rfl _ HT.out rfl Tryz.underlying103 infoSta) rfl ?_
     exact ⟨HB.out.trans (HC6.out.below HB.out.size (by simp <;> omega)), .inr ⟨rfl, A, c, B, d, rfl, HL.out.ch HC6.out HR.out.kdT⟩⟩
end
end Go.Proofs.YtjcinncphffgaaaGreat
