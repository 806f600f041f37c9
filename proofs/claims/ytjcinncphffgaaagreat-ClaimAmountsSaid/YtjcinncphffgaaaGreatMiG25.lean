/- channel: own, of any state; slices.Clone of entries and wins. channel.Voucher, of any state. channel.Token, of any state. The first place where a test holds. -/
import Derived.Outline
import Derived.OwnWalk
import Derived.Lib.SliceRun
import Derived.Deep.RegionHeld3
import Derived.Deep.DeepCutAuto
import Derived.Deep.CutBlock
import Derived.Test.YtjcinncphffgaaaGreatMiG22
import Derived.Test.YtjcinncphffgaaaGreatMiLotD
import Derived.Test.YtjcinncphffgaaaGreatMiMerk
import Derived.Test.YtjcinncphffgaaaGreatMiNote
import Derived.Test.YtjcinncphffgaaaGreatMiNum
import Derived.Test.YtjcinncphffgaaaGreatMiWonA
set_option linter.unusedVariables false
set_option linter.unusedSimpArgs false
namespace Go.Proofs.YtjcinncphffgaaaGreat
section
open Go.RowKit Go.Maps
theorem Tryz.infoEn' : (Tryz.prog.info? 89).map (fun i => (i.zero, i.size, i.bytes)) = some (some (.agg zEn.cs), 11, 128) := by kernel_rfl
theorem Tryz.infoWnC : (Tryz.prog.info? 122).map (fun i => (i.zero, i.size, i.bytes)) = some (some (.agg zWn.cs), 10, 112) := by kernel_rfl
theorem encl_len (o : En) : o.cl.length = 11 := rfl
theorem encl_one (o : En) : ∀ u ∈ o.cl, u.oneCell' = true := by
 intro u hu
 have := encs_one o
 rw [Array.all_eq_true'] at this
 exact this u (by simpa [En.cl] using hu)
theorem wncl_len (o : Wn) : o.cl.length = 10 := rfl
theorem wncl_one (o : Wn) : ∀ u ∈ o.cl, u.oneCell' = true := by
 intro u hu
 have := wncs_one o
 rw [Array.all_eq_true'] at this
 exact this u (by simpa [Wn.cl] using hu)
set_option maxRecDepth 100000 in
set_option maxHeartbeats 400000 in
theorem clone_en (A : Option Addr) (l : List En) (c : Nat) (w : World) (hS : Sl w w.heap.size 11 En.cl A l) (hl : l.length ≤ 1000) (hA : A = none → c = 0) :
  Calls Tryz.prog 168 #[.slice A l.length c] w fun e w' => ∃ A' c', e = .returned (.slice A' l.length c') ∧ w'.ownsRow w.heap.size 89 11 (.slice A' l.length c') l.length (l.flatMap En.cl) ∧ (A' = none → c' = 0) ∧ Below w.heap.size w w' := by
 obtain ⟨i0, hi, hz0, hz1, hz2⟩ := info_parts Tryz.infoEn'
 have Hhz := Lib.hid hz0
 clear hz0
 have qT : ∀ (w : World) (a : Option Addr) (n c n' c' : Nat), (binOp .eql 85 (.slice a n c) (.slice none n' c')).run Tryz.prog w = .ok (.bool a.isNone) w := fun w a n c n' c' => Lib.run_eql_slice_nil w _ _ a n c n' c' Tryz.underlying85
 cases A with
 | none =>
  have he : l = [] := by
   cases l with
   | nil => rfl
   | cons x r => obtain ⟨b, off, e, _⟩ := hS (by simp); cases e
  subst he
  rw [hA rfl]
  clear hS hA
  go_enter Tryz.func168, Tryz.ntmps168
  go_wp2
  go_ret
  exact ⟨none, 0, rfl, own_nil0 _ _ _ _, fun _ => rfl, Below.refl _ _⟩
 | some a =>
  have HN : Hid (∀ o, ∀ j u, (l.flatMap En.cl)[j]? = some u → (w.alloc o).cell? (a.add j) = some u) := fun o j u hu => by
   obtain ⟨i, x, q, h1, h2, h3⟩ := flat_at En.cl 11 encl_len l j u hu
   have hne : l ≠ [] := by rintro rfl; simp at h1
   obtain ⟨b, off, e, hb, hc⟩ := hS hne
   injection e with e
   subst e
   rw [addr_addA, World.cell?_alloc_lt w o _ hb, h3, ← Nat.add_assoc]
   exact hc i x h1 q u h2
  have HL := Lib.hid (flatMap_len En.cl 11 encl_len l)
  have HF : Hid (∀ u ∈ l.flatMap En.cl, u.oneCell' = true) := fun u hu => by
   obtain ⟨o, _, ho⟩ := List.mem_flatMap.1 hu
   exact encl_one o u ho
  clear hS hA
  go_enter Tryz.func168, Tryz.ntmps168
  go_wp2_with (first
   | (at_builtin; go_must (refine wpList_append_own _ rfl (.tmp 5) (.tmp 6) _ rfl w.heap.size 89 i0 _ 11 128 Tryz.underlying85 hi Hhz.out hz1 hz2 rfl (by decide) _ 0 [] rfl (own_empty (Blk.new _ _ _) (Nat.le_refl _)) a l.length c (l.flatMap En.cl) rfl HL.out (HN.out _) HF.out (by simp only [maxLen]; omega) (by omega) (by simp) ?_); intro v' w2 hown1 hg1 hnil1))
  have HO2 := Lib.hid hown1
  have HB2 : Hid (Below w.heap.size w w2) := ((Below.refl w.heap.size w).alloc (Nat.le_refl _) _).grown hg1 (by simp) (fun j hj => by cases hj; exact Nat.le_refl _)
  clear hown1 hg1 hnil1
  rw [Nat.zero_add, List.nil_append] at HO2
  obtain ⟨A2, c2, rfl⟩ := own_form HO2.out
  go_ret
  exact ⟨A2, c2, rfl, HO2.out, fun h => by subst h; exact own_noneC HO2.out, HB2.out⟩
set_option maxRecDepth 100000 in
set_option maxHeartbeats 400000 in
theorem clone_wn (A : Option Addr) (l : List Wn) (c : Nat) (w : World) (hS : Sl w w.heap.size 10 Wn.cl A l) (hl : l.length ≤ 1000) (hA : A = none → c = 0) :
  Calls Tryz.prog 80 #[.slice A l.length c] w fun e w' => ∃ A' c', e = .returned (.slice A' l.length c') ∧ w'.ownsRow w.heap.size 122 10 (.slice A' l.length c') l.length (l.flatMap Wn.cl) ∧ (A' = none → c' = 0) ∧ Below w.heap.size w w' := by
 obtain ⟨i0, hi, hz0, hz1, hz2⟩ := info_parts Tryz.infoWnC
 have Hhz := Lib.hid hz0
 clear hz0
 have qT : ∀ (w : World) (a : Option Addr) (n c n' c' : Nat), (binOp .eql 49 (.slice a n c) (.slice none n' c')).run Tryz.prog w = .ok (.bool a.isNone) w := fun w a n c n' c' => Lib.run_eql_slice_nil w _ _ a n c n' c' Tryz.underlying49
 cases A with
 | none =>
  have he : l = [] := by
   cases l with
   | nil => rfl
   | cons x r => obtain ⟨b, off, e, _⟩ := hS (by simp); cases e
  subst he
  rw [hA rfl]
  clear hS hA
  go_enter Tryz.func80, Tryz.ntmps80
  go_wp2
  go_ret
  exact ⟨none, 0, rfl, own_nil0 _ _ _ _, fun _ => rfl, Below.refl _ _⟩
 | some a =>
  have HN : Hid (∀ o, ∀ j u, (l.flatMap Wn.cl)[j]? = some u → (w.alloc o).cell? (a.add j) = some u) := fun o j u hu => by
   obtain ⟨i, x, q, h1, h2, h3⟩ := flat_at Wn.cl 10 wncl_len l j u hu
   have hne : l ≠ [] := by rintro rfl; simp at h1
   obtain ⟨b, off, e, hb, hc⟩ := hS hne
   injection e with e
   subst e
   rw [addr_addA, World.cell?_alloc_lt w o _ hb, h3, ← Nat.add_assoc]
   exact hc i x h1 q u h2
  have HL := Lib.hid (flatMap_len Wn.cl 10 wncl_len l)
  have HF : Hid (∀ u ∈ l.flatMap Wn.cl, u.oneCell' = true) := fun u hu => by
   obtain ⟨o, _, ho⟩ := List.mem_flatMap.1 hu
   exact wncl_one o u ho
  clear hS hA
  go_enter Tryz.func80, Tryz.ntmps80
  go_wp2_with (first
   | (at_builtin; go_must (refine wpList_append_own _ rfl (.tmp 5) (.tmp 6) _ rfl w.heap.size 122 i0 _ 10 112 Tryz.underlying49 hi Hhz.out hz1 hz2 rfl (by decide) _ 0 [] rfl (own_empty (Blk.new _ _ _) (Nat.le_refl _)) a l.length c (l.flatMap Wn.cl) rfl HL.out (HN.out _) HF.out (by simp only [maxLen]; omega) (by omega) (by simp) ?_); intro v' w2 hown1 hg1 hnil1))
  have HO2 := Lib.hid hown1
  have HB2 : Hid (Below w.heap.size w w2) := ((Below.refl w.heap.size w).alloc (Nat.le_refl _) _).grown hg1 (by simp) (fun j hj => by cases hj; exact Nat.le_refl _)
  clear hown1 hg1 hnil1
  rw [Nat.zero_add, List.nil_append] at HO2
  obtain ⟨A2, c2, rfl⟩ := own_form HO2.out
  go_ret
  exact ⟨A2, c2, rfl, HO2.out, fun h => by subst h; exact own_noneC HO2.out, HB2.out⟩
/-- the same state, its lists elsewhere -/
def St.lists (s : St) (A : Option Addr) (c : Nat) (B : Option Addr) (d : Nat) : St := { s with A := A, c := c, B := B, d := d }
structure OwnSt (s : St) (w : World) (V : Value) (w' : World) (A : Option Addr) (c : Nat) (B : Option Addr) (d : Nat) : Prop where
 val : V = .agg (s.lists A c B d).cs
 r1 : w'.ownsRow w.heap.size 89 11 (.slice A s.tops.length c) s.tops.length (s.tops.flatMap En.cl)
 r2 : w'.ownsRow w.heap.size 122 10 (.slice B s.wins.length d) s.wins.length (s.wins.flatMap Wn.cl)
 n1 : A = none → c = 0
 n2 : B = none → d = 0
 below : Below w.heap.size w w'
set_option maxRecDepth 100000 in
set_option maxHeartbeats 2000000 in
theorem xown_any (s : St) (w : World) (hf : s.fit) (hS : s.mem w) :
  Calls Tryz.prog 121 #[.agg s.cs] w fun e w' => ∃ V A c B d, e = .returned V ∧ OwnSt s w V w' A c B d := by
 have HM := Lib.hid hS
 have HC1 := fun W h => Lib.hid (clone_en s.A s.tops s.c W h hf.tops HM.out.topsN)
 have HC2 := fun W h => Lib.hid (clone_wn s.B s.wins s.d W h hf.wins HM.out.winsN)
 clear hS hf
 go_enter Tryz.func121, Tryz.ntmps121
 go_wp2_with fail
 refine wp_gen fun X0 hX0 => ?_
 have HX : Hid (Blk X0 w.heap.size 103 s.cs) := Lib.hid (by rw [hX0]; exact (Blk.new _ _ _).alloc _)
 have HR : Hid (Blk X0 (w.heap.size + 1) 103 zSt) := Lib.hid (by rw [hX0]; exact Blk.newAt (by simp))
 have HB : Hid (Below w.heap.size w X0) := Lib.hid (by rw [hX0]; exact ((Below.refl _ _).alloc (Nat.le_refl _) _).alloc (by simp) _)
 clear hX0
 refine wp_region_held_drew (S := fun _ => True) (by kernel_rfl) trivial (fun hS => ?_)
 replace HX : Hid (Blk X0.drew w.heap.size 103 s.cs) := Lib.hid (HX.out.drewN 1)
 replace HR : Hid (Blk X0.drew (w.heap.size + 1) 103 zSt) := Lib.hid (HR.out.drewN 1)
 replace HB : Hid (Below w.heap.size w X0.drew) := HB.out.drew
 refine wpAnyH_genT fun X hX => ?_
 rw [← hX] at HX HR HB
 clear hX
 refine wpAnyH_take (i := 0) (v := ?_) rfl (by kernel_rfl) (by kernel_rfl) (by kernel_rfl) (fun _ _ _ h => h) (Or.inl ⟨by rfl, ?_⟩) hS ?_
 rotate_left
 ·(intro w _; go_simp; try with_reducible rfl)
 refine wpAnyH_take (i := 3) (v := ?_) rfl (by kernel_rfl) (by kernel_rfl) (by kernel_rfl) (fun _ _ _ h => h) (Or.inl ⟨by rfl, ?_⟩) hS ?_
 rotate_left
 ·(intro w _; go_simp; try with_reducible rfl)
 refine wpAnyH_take (i := 4) (v := ?_) rfl (by kernel_rfl) (by kernel_rfl) (by kernel_rfl) (fun _ _ _ h => h) (Or.inl ⟨by rfl, ?_⟩) hS ?_
 rotate_left
 ·(intro w _; go_simp; try with_reducible rfl)
 refine wpAnyH_ready (rs := [1, 5]) (by kernel_rfl) (by simp) (AllReadyH.cons rfl (fun K hK => ?_) (AllReadyH.cons rfl (fun K hK => ?_) AllReadyH.nil))
 ·have ucell : (X).cell? ⟨w.heap.size, 11, none⟩ = some ((.slice s.A s.tops.length s.c)) := HX.out.cell 11
  go_simp
  refine hK.out _ _ trivial (fun _ => ?_)
  clear hK K ucell
  refine wpAnyH_ready (rs := [2, 5]) (by kernel_rfl) (by simp) (AllReadyH.cons rfl (fun K hK => ?_) (AllReadyH.cons rfl (fun K hK => ?_) AllReadyH.nil))
  ·go_simp
   refine (HC1 _ ((HM.out.tops.below HB.out).more HB.out.size)).out.mono ?_
   rintro e X2 ⟨A2, c2, rfl, hO, hA2, hb⟩
   have HO1 := Lib.hid (hO.mono HB.out.size)
   have HN1 := Lib.hid hA2
   replace HX := Lib.hid (HX.out.bel hb)
   replace HR := Lib.hid (HR.out.bel hb)
   replace HB := Lib.hid (HB.out.trans (hb.mono HB.out.size))
   clear hO hA2 hb
   go_simp
   refine hK.out _ _ trivial (fun _ => ?_)
   clear hK K
   refine wpAnyH_ready (rs := [5]) (by kernel_rfl) (by simp) (AllReadyH.cons rfl (fun K hK => ?_) AllReadyH.nil)
   have ucell : (X2).cell? ⟨w.heap.size, 15, none⟩ = some ((.slice s.B s.wins.length s.d)) := HX.out.cell 15
   go_simp
   refine hK.out _ _ trivial (fun _ => ?_)
   clear hK K ucell
   refine wpAnyH_take (i := 7) (v := ?_) rfl (by kernel_rfl) (by kernel_rfl) (by kernel_rfl) (fun _ _ _ h => h) (Or.inl ⟨by rfl, ?_⟩) trivial ?_
   rotate_left
   ·(intro w _; go_simp; try with_reducible rfl)
   refine wpAnyH_ready (rs := [6]) (by kernel_rfl) (by simp) (AllReadyH.cons rfl (fun K hK => ?_) AllReadyH.nil)
   go_simp
   refine (HC2 _ ((HM.out.wins.below HB.out).more HB.out.size)).out.mono ?_
   rintro e X3 ⟨B2, d2, rfl, hO, hA2, hb⟩
   have HO2 := Lib.hid (hO.mono HB.out.size)
   have HN2 := Lib.hid hA2
   replace HO1 := Lib.hid (own_belT HO1.out hb)
   replace HX := Lib.hid (HX.out.bel hb)
   replace HR := Lib.hid (HR.out.bel hb)
   replace HB := Lib.hid (HB.out.trans (hb.mono HB.out.size))
   clear hO hA2 hb
   go_simp
   refine hK.out _ _ trivial (fun _ => ?_)
   clear hK K
   refine wpAnyH_ready (rs := [8]) (by kernel_rfl) (by simp) (AllReadyH.cons rfl (fun K hK => ?_) AllReadyH.nil)
   have u11 : X3.cell? ⟨w.heap.size, 11, none⟩ = some (.slice s.A s.tops.length s.c) := HX.out.cell 11
   have z11 : X3.frozen? ⟨w.heap.size, 11, none⟩ = false := HX.out.frozen 11
   go_simp
   refine hK.out _ _ trivial (fun _ => ?_)
   clear hK K u11 z11
   have hkd := HX.out.kdT
   have hcs : Ch [w.heap.size] X3 (X3.setCell ⟨w.heap.size, 11, none⟩ (.slice A2 s.tops.length c2)) := Ch.set_ (by simp) _ _ _
   replace HO1 := Lib.hid (own_chT HO1.out hcs hkd (by decide))
   replace HO2 := Lib.hid (own_chT HO2.out hcs hkd (by decide))
   replace HX := Lib.hid (HX.out.set_ 11 (.slice A2 s.tops.length c2))
   replace HR := Lib.hid (HR.out.far (p := ⟨w.heap.size, 11, none⟩) (by simp) (.slice A2 s.tops.length c2))
   replace HB := Lib.hid (HB.out.trans (hcs.below HB.out.size (by simp)))
   clear hkd hcs
   generalize X3.setCell ⟨w.heap.size, 11, none⟩ (.slice A2 s.tops.length c2) = X4 at HO1 HO2 HX HR HB ⊢
   refine wpAnyH_take (i := 9) (v := ?_) rfl (by kernel_rfl) (by kernel_rfl) (by kernel_rfl) (fun _ _ _ h => h) (Or.inl ⟨by rfl, ?_⟩) trivial ?_
   rotate_left
   ·(intro w _; go_simp; try with_reducible rfl)
   refine wpAnyH_take (i := 10) (v := ?_) rfl (by kernel_rfl) (by kernel_rfl) (by kernel_rfl) (fun _ _ _ h => h) (Or.inl ⟨by rfl, ?_⟩) trivial ?_
   rotate_left
   ·(intro w _; go_simp; try with_reducible rfl)
   refine wpAnyH_ready (rs := [11]) (by kernel_rfl) (by simp) (AllReadyH.cons rfl (fun K hK => ?_) AllReadyH.nil)
   have u15 : X4.cell? ⟨w.heap.size, 15, none⟩ = some (.slice s.B s.wins.length s.d) := HX.out.cell 15
   have z15 : X4.frozen? ⟨w.heap.size, 15, none⟩ = false := HX.out.frozen 15
   go_simp
   refine hK.out _ _ trivial (fun _ => ?_)
   clear hK K u15 z15
   have hkd := HX.out.kdT
   have hcs : Ch [w.heap.size] X4 (X4.setCell ⟨w.heap.size, 15, none⟩ (.slice B2 s.wins.length d2)) := Ch.set_ (by simp) _ _ _
   replace HO1 := Lib.hid (own_chT HO1.out hcs hkd (by decide))
   replace HO2 := Lib.hid (own_chT HO2.out hcs hkd (by decide))
   replace HX : Hid (Blk (X4.setCell ⟨w.heap.size, 15, none⟩ (.slice B2 s.wins.length d2)) w.heap.size 103 (s.lists A2 c2 B2 d2).cs) := Lib.hid (HX.out.set_ 15 (.slice B2 s.wins.length d2))
   replace HR := Lib.hid (HR.out.far (p := ⟨w.heap.size, 15, none⟩) (by simp) (.slice B2 s.wins.length d2))
   replace HB := Lib.hid (HB.out.trans (hcs.below HB.out.size (by simp)))
   clear hkd hcs
   generalize X4.setCell ⟨w.heap.size, 15, none⟩ (.slice B2 s.wins.length d2) = X5 at HO1 HO2 HX HR HB ⊢
   refine wpAnyH_done (by kernel_rfl) ?_ _
   go_wp2_with (first
    | (refine wpList_load_blk rfl 103 (.tmp 1) rfl w.heap.size 0 20 HX.out (s.lists A2 c2 B2 d2).cs (by rfl) (st_ext _) Tryz.underlying103 infoSta (st_le _) ?_)
    | (refine wpList_store_part rfl 103 (.tmp 2) (.tmp 13) rfl (w.heap.size + 1) 0 HR.out (s.lists A2 c2 B2 d2).cs (s.lists A2 c2 B2 d2).cs (by rfl) (by rfl) (Nat.le_refl 20) infoSta (stcs_one _) (st_over _ rfl) ?_; intro W6 hb6 hc6; have HT := Lib.hid hb6; have HC6 := Lib.hid hc6; clear hb6 hc6))
   exact bodyPost_ret (results_cell_row rfl _ _ (w.heap.size + 1) 103 _ (0, 0) _ rfl HT.out Tryz.underlying103 rfl infoSta) rfl ⟨_, A2, c2, B2, d2, rfl, rfl, own_chT HO1.out HC6.out HR.out.kdT (by decide), own_chT HO2.out HC6.out HR.out.kdT (by decide), HN1.out, HN2.out, HB.out.trans (HC6.out.below HB.out.size (by simp))⟩
  ·have ucell : (X).cell? ⟨w.heap.size, 15, none⟩ = some ((.slice s.B s.wins.length s.d)) := HX.out.cell 15
   go_simp
   refine hK.out _ _ trivial (fun _ => ?_)
   clear hK K ucell
   refine wpAnyH_ready (rs := [2]) (by kernel_rfl) (by simp) (AllReadyH.cons rfl (fun K hK => ?_) AllReadyH.nil)
   go_simp
   refine (HC1 _ ((HM.out.tops.below HB.out).more HB.out.size)).out.mono ?_
   rintro e X2 ⟨A2, c2, rfl, hO, hA2, hb⟩
   have HO1 := Lib.hid (hO.mono HB.out.size)
   have HN1 := Lib.hid hA2
   replace HX := Lib.hid (HX.out.bel hb)
   replace HR := Lib.hid (HR.out.bel hb)
   replace HB := Lib.hid (HB.out.trans (hb.mono HB.out.size))
   clear hO hA2 hb
   go_simp
   refine hK.out _ _ trivial (fun _ => ?_)
   clear hK K
   refine wpAnyH_take (i := 7) (v := ?_) rfl (by kernel_rfl) (by kernel_rfl) (by kernel_rfl) (fun _ _ _ h => h) (Or.inl ⟨by rfl, ?_⟩) trivial ?_
   rotate_left
   ·(intro w _; go_simp; try with_reducible rfl)
   refine wpAnyH_ready (rs := [6]) (by kernel_rfl) (by simp) (AllReadyH.cons rfl (fun K hK => ?_) AllReadyH.nil)
   go_simp
   refine (HC2 _ ((HM.out.wins.below HB.out).more HB.out.size)).out.mono ?_
   rintro e X3 ⟨B2, d2, rfl, hO, hA2, hb⟩
   have HO2 := Lib.hid (hO.mono HB.out.size)
   have HN2 := Lib.hid hA2
   replace HO1 := Lib.hid (own_belT HO1.out hb)
   replace HX := Lib.hid (HX.out.bel hb)
   replace HR := Lib.hid (HR.out.bel hb)
   replace HB := Lib.hid (HB.out.trans (hb.mono HB.out.size))
   clear hO hA2 hb
   go_simp
   refine hK.out _ _ trivial (fun _ => ?_)
   clear hK K
   refine wpAnyH_ready (rs := [8]) (by kernel_rfl) (by simp) (AllReadyH.cons rfl (fun K hK => ?_) AllReadyH.nil)
   have u11 : X3.cell? ⟨w.heap.size, 11, none⟩ = some (.slice s.A s.tops.length s.c) := HX.out.cell 11
   have z11 : X3.frozen? ⟨w.heap.size, 11, none⟩ = false := HX.out.frozen 11
   go_simp
   refine hK.out _ _ trivial (fun _ => ?_)
   clear hK K u11 z11
   have hkd := HX.out.kdT
   have hcs : Ch [w.heap.size] X3 (X3.setCell ⟨w.heap.size, 11, none⟩ (.slice A2 s.tops.length c2)) := Ch.set_ (by simp) _ _ _
   replace HO1 := Lib.hid (own_chT HO1.out hcs hkd (by decide))
   replace HO2 := Lib.hid (own_chT HO2.out hcs hkd (by decide))
   replace HX := Lib.hid (HX.out.set_ 11 (.slice A2 s.tops.length c2))
   replace HR := Lib.hid (HR.out.far (p := ⟨w.heap.size, 11, none⟩) (by simp) (.slice A2 s.tops.length c2))
   replace HB := Lib.hid (HB.out.trans (hcs.below HB.out.size (by simp)))
   clear hkd hcs
   generalize X3.setCell ⟨w.heap.size, 11, none⟩ (.slice A2 s.tops.length c2) = X4 at HO1 HO2 HX HR HB ⊢
   refine wpAnyH_take (i := 9) (v := ?_) rfl (by kernel_rfl) (by kernel_rfl) (by kernel_rfl) (fun _ _ _ h => h) (Or.inl ⟨by rfl, ?_⟩) trivial ?_
   rotate_left
   ·(intro w _; go_simp; try with_reducible rfl)
   refine wpAnyH_take (i := 10) (v := ?_) rfl (by kernel_rfl) (by kernel_rfl) (by kernel_rfl) (fun _ _ _ h => h) (Or.inl ⟨by rfl, ?_⟩) trivial ?_
   rotate_left
   ·(intro w _; go_simp; try with_reducible rfl)
   refine wpAnyH_ready (rs := [11]) (by kernel_rfl) (by simp) (AllReadyH.cons rfl (fun K hK => ?_) AllReadyH.nil)
   have u15 : X4.cell? ⟨w.heap.size, 15, none⟩ = some (.slice s.B s.wins.length s.d) := HX.out.cell 15
   have z15 : X4.frozen? ⟨w.heap.size, 15, none⟩ = false := HX.out.frozen 15
   go_simp
   refine hK.out _ _ trivial (fun _ => ?_)
   clear hK K u15 z15
   have hkd := HX.out.kdT
   have hcs : Ch [w.heap.size] X4 (X4.setCell ⟨w.heap.size, 15, none⟩ (.slice B2 s.wins.length d2)) := Ch.set_ (by simp) _ _ _
   replace HO1 := Lib.hid (own_chT HO1.out hcs hkd (by decide))
   replace HO2 := Lib.hid (own_chT HO2.out hcs hkd (by decide))
   replace HX : Hid (Blk (X4.setCell ⟨w.heap.size, 15, none⟩ (.slice B2 s.wins.length d2)) w.heap.size 103 (s.lists A2 c2 B2 d2).cs) := Lib.hid (HX.out.set_ 15 (.slice B2 s.wins.length d2))
   replace HR := Lib.hid (HR.out.far (p := ⟨w.heap.size, 15, none⟩) (by simp) (.slice B2 s.wins.length d2))
   replace HB := Lib.hid (HB.out.trans (hcs.below HB.out.size (by simp)))
   clear hkd hcs
   generalize X4.setCell ⟨w.heap.size, 15, none⟩ (.slice B2 s.wins.length d2) = X5 at HO1 HO2 HX HR HB ⊢
   refine wpAnyH_done (by kernel_rfl) ?_ _
   go_wp2_with (first
    | (refine wpList_load_blk rfl 103 (.tmp 1) rfl w.heap.size 0 20 HX.out (s.lists A2 c2 B2 d2).cs (by rfl) (st_ext _) Tryz.underlying103 infoSta (st_le _) ?_)
    | (refine wpList_store_part rfl 103 (.tmp 2) (.tmp 13) rfl (w.heap.size + 1) 0 HR.out (s.lists A2 c2 B2 d2).cs (s.lists A2 c2 B2 d2).cs (by rfl) (by rfl) (Nat.le_refl 20) infoSta (stcs_one _) (st_over _ rfl) ?_; intro W6 hb6 hc6; have HT := Lib.hid hb6; have HC6 := Lib.hid hc6; clear hb6 hc6))
   exact bodyPost_ret (results_cell_row rfl _ _ (w.heap.size + 1) 103 _ (0, 0) _ rfl HT.out Tryz.underlying103 rfl infoSta) rfl ⟨_, A2, c2, B2, d2, rfl, rfl, own_chT HO1.out HC6.out HR.out.kdT (by decide), own_chT HO2.out HC6.out HR.out.kdT (by decide), HN1.out, HN2.out, HB.out.trans (HC6.out.below HB.out.size (by simp))⟩
 ·have ucell : (X).cell? ⟨w.heap.size, 15, none⟩ = some ((.slice s.B s.wins.length s.d)) := HX.out.cell 15
  go_simp
  refine hK.out _ _ trivial (fun _ => ?_)
  clear hK K ucell
  refine wpAnyH_ready (rs := [1]) (by kernel_rfl) (by simp) (AllReadyH.cons rfl (fun K hK => ?_) AllReadyH.nil)
  have ucell : (X).cell? ⟨w.heap.size, 11, none⟩ = some ((.slice s.A s.tops.length s.c)) := HX.out.cell 11
  go_simp
  refine hK.out _ _ trivial (fun _ => ?_)
  clear hK K ucell
  refine wpAnyH_ready (rs := [2]) (by kernel_rfl) (by simp) (AllReadyH.cons rfl (fun K hK => ?_) AllReadyH.nil)
  go_simp
  refine (HC1 _ ((HM.out.tops.below HB.out).more HB.out.size)).out.mono ?_
  rintro e X2 ⟨A2, c2, rfl, hO, hA2, hb⟩
  have HO1 := Lib.hid (hO.mono HB.out.size)
  have HN1 := Lib.hid hA2
  replace HX := Lib.hid (HX.out.bel hb)
  replace HR := Lib.hid (HR.out.bel hb)
  replace HB := Lib.hid (HB.out.trans (hb.mono HB.out.size))
  clear hO hA2 hb
  go_simp
  refine hK.out _ _ trivial (fun _ => ?_)
  clear hK K
  refine wpAnyH_take (i := 7) (v := ?_) rfl (by kernel_rfl) (by kernel_rfl) (by kernel_rfl) (fun _ _ _ h => h) (Or.inl ⟨by rfl, ?_⟩) trivial ?_
  rotate_left
  ·(intro w _; go_simp; try with_reducible rfl)
  refine wpAnyH_ready (rs := [6]) (by kernel_rfl) (by simp) (AllReadyH.cons rfl (fun K hK => ?_) AllReadyH.nil)
  go_simp
  refine (HC2 _ ((HM.out.wins.below HB.out).more HB.out.size)).out.mono ?_
  rintro e X3 ⟨B2, d2, rfl, hO, hA2, hb⟩
  have HO2 := Lib.hid (hO.mono HB.out.size)
  have HN2 := Lib.hid hA2
  replace HO1 := Lib.hid (own_belT HO1.out hb)
  replace HX := Lib.hid (HX.out.bel hb)
  replace HR := Lib.hid (HR.out.bel hb)
  replace HB := Lib.hid (HB.out.trans (hb.mono HB.out.size))
  clear hO hA2 hb
  go_simp
  refine hK.out _ _ trivial (fun _ => ?_)
  clear hK K
  refine wpAnyH_ready (rs := [8]) (by kernel_rfl) (by simp) (AllReadyH.cons rfl (fun K hK => ?_) AllReadyH.nil)
  have u11 : X3.cell? ⟨w.heap.size, 11, none⟩ = some (.slice s.A s.tops.length s.c) := HX.out.cell 11
  have z11 : X3.frozen? ⟨w.heap.size, 11, none⟩ = false := HX.out.frozen 11
  go_simp
  refine hK.out _ _ trivial (fun _ => ?_)
  clear hK K u11 z11
  have hkd := HX.out.kdT
  have hcs : Ch [w.heap.size] X3 (X3.setCell ⟨w.heap.size, 11, none⟩ (.slice A2 s.tops.length c2)) := Ch.set_ (by simp) _ _ _
  replace HO1 := Lib.hid (own_chT HO1.out hcs hkd (by decide))
  replace HO2 := Lib.hid (own_chT HO2.out hcs hkd (by decide))
  replace HX := Lib.hid (HX.out.set_ 11 (.slice A2 s.tops.length c2))
  replace HR := Lib.hid (HR.out.far (p := ⟨w.heap.size, 11, none⟩) (by simp) (.slice A2 s.tops.length c2))
  replace HB := Lib.hid (HB.out.trans (hcs.below HB.out.size (by simp)))
  clear hkd hcs
  generalize X3.setCell ⟨w.heap.size, 11, none⟩ (.slice A2 s.tops.length c2) = X4 at HO1 HO2 HX HR HB ⊢
  refine wpAnyH_take (i := 9) (v := ?_) rfl (by kernel_rfl) (by kernel_rfl) (by kernel_rfl) (fun _ _ _ h => h) (Or.inl ⟨by rfl, ?_⟩) trivial ?_
  rotate_left
  ·(intro w _; go_simp; try with_reducible rfl)
  refine wpAnyH_take (i := 10) (v := ?_) rfl (by kernel_rfl) (by kernel_rfl) (by kernel_rfl) (fun _ _ _ h => h) (Or.inl ⟨by rfl, ?_⟩) trivial ?_
  rotate_left
  ·(intro w _; go_simp; try with_reducible rfl)
  refine wpAnyH_ready (rs := [11]) (by kernel_rfl) (by simp) (AllReadyH.cons rfl (fun K hK => ?_) AllReadyH.nil)
  have u15 : X4.cell? ⟨w.heap.size, 15, none⟩ = some (.slice s.B s.wins.length s.d) := HX.out.cell 15
  have z15 : X4.frozen? ⟨w.heap.size, 15, none⟩ = false := HX.out.frozen 15
  go_simp
  refine hK.out _ _ trivial (fun _ => ?_)
  clear hK K u15 z15
  have hkd := HX.out.kdT
  have hcs : Ch [w.heap.size] X4 (X4.setCell ⟨w.heap.size, 15, none⟩ (.slice B2 s.wins.length d2)) := Ch.set_ (by simp) _ _ _
  replace HO1 := Lib.hid (own_chT HO1.out hcs hkd (by decide))
  replace HO2 := Lib.hid (own_chT HO2.out hcs hkd (by decide))
  replace HX : Hid (Blk (X4.setCell ⟨w.heap.size, 15, none⟩ (.slice B2 s.wins.length d2)) w.heap.size 103 (s.lists A2 c2 B2 d2).cs) := Lib.hid (HX.out.set_ 15 (.slice B2 s.wins.length d2))
  replace HR := Lib.hid (HR.out.far (p := ⟨w.heap.size, 15, none⟩) (by simp) (.slice B2 s.wins.length d2))
  replace HB := Lib.hid (HB.out.trans (hcs.below HB.out.size (by simp)))
  clear hkd hcs
  generalize X4.setCell ⟨w.heap.size, 15, none⟩ (.slice B2 s.wins.length d2) = X5 at HO1 HO2 HX HR HB ⊢
  refine wpAnyH_done (by kernel_rfl) ?_ _
  go_wp2_with (first
   | (refine wpList_load_blk rfl 103 (.tmp 1) rfl w.heap.size 0 20 HX.out (s.lists A2 c2 B2 d2).cs (by rfl) (st_ext _) Tryz.underlying103 infoSta (st_le _) ?_)
   | (refine wpList_store_part rfl 103 (.tmp 2) (.tmp 13) rfl (w.heap.size + 1) 0 HR.out (s.lists A2 c2 B2 d2).cs (s.lists A2 c2 B2 d2).cs (by rfl) (by rfl) (Nat.le_refl 20) infoSta (stcs_one _) (st_over _ rfl) ?_; intro W6 hb6 hc6; have HT := Lib.hid hb6; have HC6 := Lib.hid hc6; clear hb6 hc6))
  exact bodyPost_ret (results_cell_row rfl _ _ (w.heap.size + 1) 103 _ (0, 0) _ rfl HT.out Tryz.underlying103 rfl infoSta) rfl ⟨_, A2, c2, B2, d2, rfl, rfl, own_chT HO1.out HC6.out HR.out.kdT (by decide), own_chT HO2.out HC6.out HR.out.kdT (by decide), HN1.out, HN2.out, HB.out.trans (HC6.out.below HB.out.size (by simp))⟩
end
section
open Go.RowKit Go.Maps
theorem zStS : zS.cs = zSt := rfl
theorem zStO : zSt.all (·.oneCell') = true := by rw [← zStS]; exact stcs_one _
theorem zStV {cs : Array Value} (h : cs.size = 20) : over cs 0 zSt.toList = zSt := by rw [← zStS]; exact st_over _ h
/-- a state's lists in rows of their own -/
structure LsAt (s : St) (N : Nat) (w : World) (A : Option Addr) (c : Nat) (B : Option Addr) (d : Nat) : Prop where
 r1 : w.ownsRow N 89 11 (.slice A s.tops.length c) s.tops.length (s.tops.flatMap En.cl)
 r2 : w.ownsRow N 122 10 (.slice B s.wins.length d) s.wins.length (s.wins.flatMap Wn.cl)
 n1 : A = none → c = 0
 n2 : B = none → d = 0
theorem LsAt.mem {s : St} {N : Nat} {w : World} {A B : Option Addr} {c d : Nat} (h : LsAt s N w A c B d) : (s.lists A c B d).mem w := ⟨Sl.of_own encl_len h.r1, Sl.of_own wncl_len h.r2, h.n1, h.n2⟩
theorem LsAt.bel {s : St} {N : Nat} {w w' : World} {A B : Option Addr} {c d : Nat} (h : LsAt s N w A c B d) (hb : Below w.heap.size w w') : LsAt s N w' A c B d := ⟨own_belT h.r1 hb, own_belT h.r2 hb, h.n1, h.n2⟩
theorem LsAt.mono {s : St} {N M : Nat} {w : World} {A B : Option Addr} {c d : Nat} (h : LsAt s N w A c B d) (hm : M ≤ N) : LsAt s M w A c B d := ⟨h.r1.mono hm, h.r2.mono hm, h.n1, h.n2⟩
theorem LsAt.ch {s : St} {N g : Nat} {w w' : World} {A B : Option Addr} {c d : Nat} (h : LsAt s N w A c B d) (hc : Ch [g] w w') (hg : KdT w g 103) : LsAt s N w' A c B d := ⟨own_chT h.r1 hc hg (by decide), own_chT h.r2 hc hg (by decide), h.n1, h.n2⟩
theorem OwnSt.ls {s : St} {w w' : World} {V : Value} {A B : Option Addr} {c d : Nat} (h : OwnSt s w V w' A c B d) : LsAt s w.heap.size w' A c B d := ⟨h.r1, h.r2, h.n1, h.n2⟩
/-- a call on a state: refused, or another state -/
def ChR (s : St) (f : Int) (w : World) (e : Ending) (w' : World) : Prop := Below w.heap.size w w' ∧
 ((f ≠ 0 ∧ e = .returned (.tuple #[.agg zSt, .int .i64 f])) ∨ (f = 0 ∧ ∃ A c B d, e = .returned (.tuple #[.agg (s.lists A c B d).cs, .int .i64 0]) ∧ LsAt s w.heap.size w' A c B d))
def St.vouch (s : St) (am : Nat) (sig : ByteArray) : St := { s with am := am, sig := sig }
def vouE (s : St) (am : Nat) (sig : ByteArray) (r : Nat) : Int :=
 if s.closed then 8 else if am ≤ s.am then 11 else if 400 < sig.size then 10 else if verB s.lock.o.key (vouchB s.name am) sig then (if xroomB (s.vouch am sig) r then 0 else 9) else 10
theorem St.fit.vouch {s : St} (h : s.fit) {am : Nat} (ha : am < 18446744073709551616) (sig : ByteArray) : (s.vouch am sig).fit := ⟨h.lam, h.lunit, ha, h.tokens, h.faces, h.nominal, h.tams, h.tops, h.wins, h.tx⟩
theorem St.mem.vouch {s : St} {w : World} (h : s.mem w) (am : Nat) (sig : ByteArray) : (s.vouch am sig).mem w := ⟨h.tops, h.wins, h.topsN, h.winsN⟩
set_option maxRecDepth 100000 in
set_option maxHeartbeats 4000000 in
theorem xvoucher_any (s : St) (am : Nat) (sig : ByteArray) (r : Nat) (w : World) (hf : s.fit) (hS : s.mem w) (ham : am < 18446744073709551616) (hsz : sig.size ≤ 1000000) (hr : r < 18446744073709551616) :
  Calls Tryz.prog 43 #[.agg s.cs, .int .u64 (am : Nat), .string sig, .int .u64 (r : Nat)] w (ChR (s.vouch am sig) (vouE s am sig r) w) := by
 have HX := Lib.hid (Blk.new w 103 s.cs)
 have HX0 : Hid (∀ o, Blk ((w.alloc (.cells s.cs 103)).alloc o) w.heap.size 103 s.cs) := Lib.hid (fun o => HX.out.alloc o)
 have HR : Hid (Blk ((w.alloc (.cells s.cs 103)).alloc (.cells zSt 103)) (w.heap.size + 1) 103 zSt) := Blk.newAt (by simp)
 have HB : Hid (Below w.heap.size w ((w.alloc (.cells s.cs 103)).alloc (.cells zSt 103))) := ((Below.refl _ _).alloc (Nat.le_refl _) _).alloc (by simp) _
 have c19 : ∀ o, ((w.alloc (.cells s.cs 103)).alloc o).cell? ⟨w.heap.size, 19, none⟩ = some (.bool s.closed) := fun o => (HX0.out o).cell 19
 have HNM := fun W => Lib.hid (sname_gen s W hf)
 have HVO := fun W => Lib.hid (voucher_any s.name am W (by unfold St.name; rw [nameO_size]; omega) ham)
 have hvz : (vouchB s.name am).size ≤ 900000 := by rw [vouchB_size]; unfold St.name; rw [nameO_size]; omega
 have HVE := fun W => Lib.hid (verify_any s.lock.o.key (vouchB s.name am) sig W hsz hvz)
 have HRO := fun W hW => Lib.hid (xroom_any (s.vouch am sig) r W (hf.vouch ham sig) hr ((hS.bel (w' := W) hW).vouch am sig))
 have HOW := fun W hW => Lib.hid (xown_any (s.vouch am sig) W (hf.vouch ham sig) ((hS.bel (w' := W) hW).vouch am sig))
 have HE : Hid (vouE s am sig r = if s.closed then 8 else if am ≤ s.am then 11 else if 400 < sig.size then 10 else if verB s.lock.o.key (vouchB s.name am) sig then (if xroomB (s.vouch am sig) r then 0 else 9) else 10) := rfl
 have c12 : ∀ o, ((w.alloc (.cells s.cs 103)).alloc o).cell? ⟨w.heap.size, 12, none⟩ = some (.int .u64 s.am) := fun o => (HX0.out o).cell 12
 generalize hve : verB s.lock.o.key (vouchB s.name am) sig = vb at HVE HE
 generalize vouchB s.name am = vo at HVO HVE
 generalize hnm : s.name = nm at HNM HVO
 generalize xroomB (s.vouch am sig) r = rb at HRO HE
 generalize vouE s am sig r = f at HE ⊢
 clear hve hnm hvz hf hS
 cases hcl : s.closed with
 | true =>
  rw [hcl] at c19 HE
  obtain rfl : f = 8 := HE.out
  clear hcl HE c12 HRO HOW HVE HVO HNM
  go_enter Tryz.func43, Tryz.ntmps43
  go_wp2_with (refine wpList_store_part rfl 103 (.tmp 8) (.tmp 13) rfl (w.heap.size + 1) 0 HR.out zSt zSt (by rfl) (by rfl) (Nat.le_refl 20) infoSta zStO (zStV rfl) ?_; intro W6 hb6 hc6; have HT := Lib.hid hb6; have HC6 := Lib.hid hc6; clear hb6 hc6)
  exact bodyPost_ret (results_cell_row2 rfl _ HT.out rfl Tryz.underlying103 infoSta) rfl ⟨HB.out.trans (HC6.out.below HB.out.size (by simp)), .inl ⟨by decide, rfl⟩⟩
 | false =>
  rw [hcl] at c19 HE
  clear hcl
  by_cases h1 : am ≤ s.am
  ·obtain rfl : f = 11 := by rw [HE.out, if_neg (by simp), if_pos h1]
   have d1 : decide ((am : Int) ≤ (s.am : Int)) = true := decide_eq_true (by omega)
   have d1' : decide (am ≤ s.am) = true := decide_eq_true h1
   clear h1 HE HRO HOW HVE HVO HNM
   go_enter Tryz.func43, Tryz.ntmps43
   go_wp2_with (refine wpList_store_part rfl 103 (.tmp 8) (.tmp 20) rfl (w.heap.size + 1) 0 HR.out zSt zSt (by rfl) (by rfl) (Nat.le_refl 20) infoSta zStO (zStV rfl) ?_; intro W6 hb6 hc6; have HT := Lib.hid hb6; have HC6 := Lib.hid hc6; clear hb6 hc6)
   exact bodyPost_ret (results_cell_row2 rfl _ HT.out rfl Tryz.underlying103 infoSta) rfl ⟨HB.out.trans (HC6.out.below HB.out.size (by simp)), .inl ⟨by decide, rfl⟩⟩
  ·have d1 : decide ((am : Int) ≤ (s.am : Int)) = false := decide_eq_false (by omega)
   have d1' : decide (am ≤ s.am) = false := decide_eq_false h1
   have HE1 : Hid (f = if 400 < sig.size then 10 else if vb then (if rb then 0 else 9) else 10) := Lib.hid (by rw [HE.out, if_neg (by simp), if_neg h1])
   clear h1 HE
   go_enter Tryz.func43, Tryz.ntmps43
   go_upto_region 5 with fail
   refine wp_gen fun X hX => ?_
   replace HX : Hid (Blk X w.heap.size 103 s.cs) := Lib.hid (by rw [hX]; exact HX0.out _)
   replace HR : Hid (Blk X (w.heap.size + 1) 103 zSt) := Lib.hid (by rw [hX]; exact HR.out)
   replace HB : Hid (Below w.heap.size w X) := Lib.hid (by rw [hX]; exact HB.out)
   clear hX HX0 c19 c12
   by_cases h2 : 400 < sig.size
   ·obtain rfl : f = 10 := by rw [HE1.out, if_pos h2]
    have d2 : decide ((400 : Int) < (sig.size : Int)) = true := decide_eq_true (by omega)
    have d2' : decide (400 < sig.size) = true := decide_eq_true h2
    clear h2 HE1
    refine wp_region_quiet_below (by kernel_rfl) (by kernel_rfl) ?_
    repeat (first | go_big_quiet_skip | (go_big_quiet_want; first | (fail; go_big_quiet_on) | (go_big_quiet_op; first | go_big_quiet_on | go_big_quiet_call (fail))))
    refine wpQuiet_nil ?_
    intro U hp
    have hb := bel_regrown hp
    clear hp
    replace HX := Lib.hid (HX.out.bel hb)
    replace HR := Lib.hid (HR.out.bel hb)
    replace HB := Lib.hid (HB.out.trans (hb.mono HB.out.size))
    clear hb
    go_wp2_with (refine wpList_store_part rfl 103 (.tmp 8) (.tmp 38) rfl (w.heap.size + 1) 0 HR.out zSt zSt (by rfl) (by rfl) (Nat.le_refl 20) infoSta zStO (zStV rfl) ?_; intro W6 hb6 hc6; have HT := Lib.hid hb6; have HC6 := Lib.hid hc6; clear hb6 hc6)
    exact bodyPost_ret (results_cell_row2 rfl _ HT.out rfl Tryz.underlying103 infoSta) rfl ⟨HB.out.trans (HC6.out.below HB.out.size (by simp)), .inl ⟨by decide, rfl⟩⟩
   ·have d2 : decide ((400 : Int) < (sig.size : Int)) = false := decide_eq_false (by omega)
    have d2' : decide (400 < sig.size) = false := decide_eq_false h2
    have HE2 : Hid (f = if vb then (if rb then 0 else 9) else 10) := Lib.hid (by rw [HE1.out, if_neg h2])
    have q4 := cell_rg (show X.cell? ⟨w.heap.size, 4, none⟩ = some (.string s.lock.o.key) from HX.out.cell 4)
    clear h2 HE1
    refine wp_region_quiet_below (by kernel_rfl) (by kernel_rfl) ?_
    repeat (first | go_big_quiet_skip | (go_big_quiet_want; first | ((refine quiet_load_blk 103 (.tmp 4) rfl w.heap.size 0 20 HX.out s.cs (by rfl) (st_ext s) Tryz.underlying103 infoSta (st_le s) ?_; go_simp); go_big_quiet_on) | (go_big_quiet_op; first | go_big_quiet_on | go_big_quiet_call ((first
         | (go_at_call 119; exact Calls.rg fun W _ => (HNM W).out)
         | (go_at_call 42; exact Calls.rg fun W _ => (HVO W).out)
         | (go_at_call 26; exact Calls.rg fun W _ => (HVE W).out))))))
    refine wpQuiet_nil ?_
    intro U hp
    have hb := bel_regrown hp
    clear hp
    replace HX := Lib.hid (HX.out.bel hb)
    replace HR := Lib.hid (HR.out.bel hb)
    replace HB := Lib.hid (HB.out.trans (hb.mono HB.out.size))
    clear hb
    clear q4
    cases vb with
    | false =>
     obtain rfl : f = 10 := HE2.out
     go_wp2_with (refine wpList_store_part rfl 103 (.tmp 8) (.tmp 38) rfl (w.heap.size + 1) 0 HR.out zSt zSt (by rfl) (by rfl) (Nat.le_refl 20) infoSta zStO (zStV rfl) ?_; intro W6 hb6 hc6; have HT := Lib.hid hb6; have HC6 := Lib.hid hc6; clear hb6 hc6)
     exact bodyPost_ret (results_cell_row2 rfl _ HT.out rfl Tryz.underlying103 infoSta) rfl ⟨HB.out.trans (HC6.out.below HB.out.size (by simp)), .inl ⟨by decide, rfl⟩⟩
    | true =>
     have HE3 : Hid (f = if rb then 0 else 9) := Lib.hid (by rw [HE2.out]; simp)
     have u12 : U.cell? ⟨w.heap.size, 12, none⟩ = some (.int .u64 s.am) := HX.out.cell 12
     have z12 : U.frozen? ⟨w.heap.size, 12, none⟩ = false := HX.out.frozen 12
     have u13 : U.cell? ⟨w.heap.size, 13, none⟩ = some (.string s.sig) := HX.out.cell 13
     have z13 : U.frozen? ⟨w.heap.size, 13, none⟩ = false := HX.out.frozen 13
     have HX2 : Hid (Blk ((U.setCell ⟨w.heap.size, 12, none⟩ (.int .u64 (am : Int))).setCell ⟨w.heap.size, 13, none⟩ (.string sig)) w.heap.size 103 (s.vouch am sig).cs) := Lib.hid ((HX.out.set_ 12 (.int .u64 (am : Int))).set_ 13 (.string sig))
     have HR2 : Hid (Blk ((U.setCell ⟨w.heap.size, 12, none⟩ (.int .u64 (am : Int))).setCell ⟨w.heap.size, 13, none⟩ (.string sig)) (w.heap.size + 1) 103 zSt) := Lib.hid ((HR.out.far (p := ⟨w.heap.size, 12, none⟩) (by simp) _).far (p := ⟨w.heap.size, 13, none⟩) (by simp) _)
     have HB2 : Hid (Below w.heap.size w ((U.setCell ⟨w.heap.size, 12, none⟩ (.int .u64 (am : Int))).setCell ⟨w.heap.size, 13, none⟩ (.string sig))) := (HB.out.setCell (by simp) _).setCell (by simp) _
     clear HE2 HX HR HB
     go_wp2_with (refine wpList_load_blk rfl 103 (.tmp 4) rfl w.heap.size 0 20 HX2.out (s.vouch am sig).cs (by rfl) (st_ext _) Tryz.underlying103 infoSta (st_le _) ?_)
     refine (HRO _ HB2.out).out.mono ?_
     rintro e W3 ⟨rfl, hb⟩
     replace HX := Lib.hid (HX2.out.bel hb)
     replace HR := Lib.hid (HR2.out.bel hb)
     replace HB := Lib.hid (HB2.out.trans (hb.mono HB2.out.size))
     clear hb HX2 HR2 HB2
     cases rb with
     | false =>
      obtain rfl : f = 9 := HE3.out
      go_wp2_with (refine wpList_store_part rfl 103 (.tmp 8) (.tmp 49) rfl (w.heap.size + 1) 0 HR.out zSt zSt (by rfl) (by rfl) (Nat.le_refl 20) infoSta zStO (zStV rfl) ?_; intro W6 hb6 hc6; have HT := Lib.hid hb6; have HC6 := Lib.hid hc6; clear hb6 hc6)
      exact bodyPost_ret (results_cell_row2 rfl _ HT.out rfl Tryz.underlying103 infoSta) rfl ⟨HB.out.trans (HC6.out.below HB.out.size (by simp)), .inl ⟨by decide, rfl⟩⟩
     | true =>
      obtain rfl : f = 0 := HE3.out
      go_wp2_with (refine wpList_load_blk rfl 103 (.tmp 4) rfl w.heap.size 0 20 HX.out (s.vouch am sig).cs (by rfl) (st_ext _) Tryz.underlying103 infoSta (st_le _) ?_)
      refine (HOW _ HB.out).out.mono ?_
      rintro e W4 ⟨V, A2, c2, B2, d2, rfl, ho⟩
      have hval := ho.val
      subst hval
      have hb := ho.below
      have HM2 := Lib.hid (ho.ls.mono HB.out.size)
      replace HR := Lib.hid (HR.out.bel hb)
      replace HB := Lib.hid (HB.out.trans (hb.mono HB.out.size))
      clear ho hb
      go_wp2_with (refine wpList_store_part rfl 103 (.tmp 8) (.tmp 51) rfl (w.heap.size + 1) 0 HR.out ((s.vouch am sig).lists A2 c2 B2 d2).cs ((s.vouch am sig).lists A2 c2 B2 d2).cs (by rfl) (by rfl) (Nat.le_refl 20) infoSta (stcs_one _) (st_over _ rfl) ?_; intro W6 hb6 hc6; have HT := Lib.hid hb6; have HC6 := Lib.hid hc6; clear hb6 hc6)
      exact bodyPost_ret (results_cell_row2 rfl _ HT.out rfl Tryz.underlying103 infoSta) rfl ⟨HB.out.trans (HC6.out.below HB.out.size (by simp)), .inr ⟨rfl, A2, c2, B2, d2, rfl, HM2.out.ch HC6.out HR.out.kdT⟩⟩
end
section
open Go.RowKit Go.Maps
/-- how many steps lead from a token to an anchor, as a function -/
def cntGo (a t : ByteArray) : Nat → Nat → Nat × Bool
 | 0, i => (i, decide (itB t i = a))
 | f + 1, i => if itB t i = a then (i, true) else cntGo a t f (i + 1)
theorem cntGo_eq {a t : ByteArray} {most n : Nat} {b : Bool} (h : CntP a t most n b) : ∀ f i, i + f = most → i ≤ n → cntGo a t f i = (n, b)
 | 0, i, hi, hn => by
  obtain ⟨h1, h2, h3, h4⟩ := h
  obtain rfl : n = i := by omega
  rw [cntGo, h3]
 | f + 1, i, hi, hn => by
  obtain ⟨h1, h2, h3, h4⟩ := id h
  rw [cntGo]
  by_cases e : n = i
  ·subst e
   rcases h4 with h4 | h4
   ·rw [h4] at h3
    rw [if_pos (of_decide_eq_true h3.symm), h4]
   ·omega
  ·rw [if_neg (h2 i (by omega))]
   exact cntGo_eq h f (i + 1) (by omega) (by omega)
def cntN (a t : ByteArray) (most : Nat) : Nat := if t.size = 16 then (if (cntGo a t most 0).2 then (cntGo a t most 0).1 else 0) else 0
def cntE (a t : ByteArray) (most : Nat) : Int := if t.size = 16 then (if (cntGo a t most 0).2 then 0 else 4) else 1
theorem cntN_le (a t : ByteArray) (most : Nat) (h : ∃ n b, CntP a t most n b) : cntN a t most ≤ most := by
 obtain ⟨n, b, h⟩ := h
 have e := cntGo_eq h most 0 (by omega) (by omega)
 have := h.1
 unfold cntN
 rw [e]
 split
 ·split
  ·exact this
  ·omega
 ·omega
theorem count_f (a t : ByteArray) (most : Nat) (w : World) (hm : most ≤ 4096) (ha : a.size = 16) :
  Calls Tryz.prog 122 #[.string a, .string t, .int .i64 most] w fun e w' => e = .returned (.tuple #[.int .i64 (cntN a t most : Nat), .int .i64 (cntE a t most)]) ∧ cntN a t most ≤ most ∧ Below w.heap.size w w' := by
 by_cases ht : t.size = 16
 ·refine (count_any a t most w hm ha ht).mono ?_
  rintro e w' ⟨n, b, h, rfl, hb⟩
  have hq := cntGo_eq h most 0 (by omega) (by omega)
  refine ⟨?_, cntN_le a t most ⟨n, b, h⟩, hb⟩
  unfold cntN cntE
  rw [if_pos ht, if_pos ht, hq]
  cases b <;> rfl
 ·refine (count_bad a t most w (.inr ht)).mono ?_
  rintro e w' ⟨rfl, hb⟩
  refine ⟨?_, by unfold cntN; rw [if_neg ht]; omega, hb⟩
  unfold cntN cntE
  rw [if_neg ht, if_neg ht]
  rfl
def St.token (s : St) (t : ByteArray) (n : Nat) : St := { s with tok := t, tokens := n }
def tokE (s : St) (t : ByteArray) (mt : Nat) (r : Nat) : Int :=
 if s.closed then 8 else if cntE s.lock.o.anchor t mt ≠ 0 then cntE s.lock.o.anchor t mt else if cntN s.lock.o.anchor t mt ≤ s.tokens then 11 else if xroomB (s.token t (cntN s.lock.o.anchor t mt)) r then 0 else 9
theorem St.fit.token {s : St} (h : s.fit) (t : ByteArray) {n : Nat} (hn : n ≤ 1000000) : (s.token t n).fit := ⟨h.lam, h.lunit, h.am, hn, h.faces, h.nominal, h.tams, h.tops, h.wins, h.tx⟩
theorem St.mem.token {s : St} {w : World} (h : s.mem w) (t : ByteArray) (n : Nat) : (s.token t n).mem w := ⟨h.tops, h.wins, h.topsN, h.winsN⟩
set_option maxRecDepth 100000 in
set_option maxHeartbeats 4000000 in
theorem xtoken_any (s : St) (t : ByteArray) (mt r : Nat) (w : World) (hf : s.fit) (hS : s.mem w) (ha : s.lock.o.anchor.size = 16) (hmt : s.lock.o.tok = (mt : Int)) (hm : mt ≤ 4096) (hr : r < 18446744073709551616) :
  Calls Tryz.prog 45 #[.agg s.cs, .string t, .int .u64 (r : Nat)] w (ChR (s.token t (cntN s.lock.o.anchor t mt)) (tokE s t mt r) w) := by
 have HX := Lib.hid (Blk.new w 103 s.cs)
 have HX0 : Hid (∀ o, Blk ((w.alloc (.cells s.cs 103)).alloc o) w.heap.size 103 s.cs) := Lib.hid (fun o => HX.out.alloc o)
 have HR : Hid (Blk ((w.alloc (.cells s.cs 103)).alloc (.cells zSt 103)) (w.heap.size + 1) 103 zSt) := Blk.newAt (by simp)
 have HB : Hid (Below w.heap.size w ((w.alloc (.cells s.cs 103)).alloc (.cells zSt 103))) := ((Below.refl _ _).alloc (Nat.le_refl _) _).alloc (by simp) _
 have c19 : ∀ o, ((w.alloc (.cells s.cs 103)).alloc o).cell? ⟨w.heap.size, 19, none⟩ = some (.bool s.closed) := fun o => (HX0.out o).cell 19
 have HCN := fun W => Lib.hid (count_f s.lock.o.anchor t mt W hm ha)
 have HRO := fun n (hn : n ≤ 1000000) W hW => Lib.hid (xroom_any (s.token t n) r W (hf.token t hn) hr ((hS.bel (w' := W) hW).token t n))
 have HOW := fun n (hn : n ≤ 1000000) W hW => Lib.hid (xown_any (s.token t n) W (hf.token t hn) ((hS.bel (w' := W) hW).token t n))
 have HE : Hid (tokE s t mt r = if s.closed then 8 else if cntE s.lock.o.anchor t mt ≠ 0 then cntE s.lock.o.anchor t mt else if cntN s.lock.o.anchor t mt ≤ s.tokens then 11 else if xroomB (s.token t (cntN s.lock.o.anchor t mt)) r then 0 else 9) := rfl
 have c7 : ∀ o, ((w.alloc (.cells s.cs 103)).alloc o).cell? ⟨w.heap.size, 7, none⟩ = some (.string s.lock.o.anchor) := fun o => (HX0.out o).cell 7
 have c9 : ∀ o, ((w.alloc (.cells s.cs 103)).alloc o).cell? ⟨w.heap.size, 9, none⟩ = some (.int .i64 (mt : Int)) := fun o => ((HX0.out o).cell 9).trans (by show some (Value.int .i64 s.lock.o.tok) = _; rw [hmt])
 generalize s.lock.o.anchor = an at HCN HE c7 ⊢
 generalize cntN an t mt = n at HCN HE ⊢
 generalize cntE an t mt = ce at HCN HE ⊢
 generalize tokE s t mt r = f at HE ⊢
 clear hf hS hmt ha
 cases hcl : s.closed with
 | true =>
  rw [hcl] at c19 HE
  obtain rfl : f = 8 := HE.out
  clear hcl HE c7 c9 HRO HOW HCN
  go_enter Tryz.func45, Tryz.ntmps45
  go_wp2_with (refine wpList_store_part rfl 103 (.tmp 6) (.tmp 12) rfl (w.heap.size + 1) 0 HR.out zSt zSt (by rfl) (by rfl) (Nat.le_refl 20) infoSta zStO (zStV rfl) ?_; intro W6 hb6 hc6; have HT := Lib.hid hb6; have HC6 := Lib.hid hc6; clear hb6 hc6)
  exact bodyPost_ret (results_cell_row2 rfl _ HT.out rfl Tryz.underlying103 infoSta) rfl ⟨HB.out.trans (HC6.out.below HB.out.size (by simp)), .inl ⟨by decide, rfl⟩⟩
 | false =>
  rw [hcl] at c19 HE
  have HE0 : Hid (f = if ce ≠ 0 then ce else if n ≤ s.tokens then 11 else if xroomB (s.token t n) r then 0 else 9) := Lib.hid (by rw [HE.out, if_neg (by simp)])
  clear hcl HE
  go_enter Tryz.func45, Tryz.ntmps45
  go_wp2_with fail
  refine (HCN _).out.mono ?_
  rintro e X ⟨rfl, hn, hb⟩
  have hn6 : n ≤ 1000000 := by omega
  have HRO1 := fun W hW => HRO n hn6 W hW
  have HOW1 := fun W hW => HOW n hn6 W hW
  replace HX : Hid (Blk X w.heap.size 103 s.cs) := Lib.hid ((HX0.out _).bel hb)
  replace HR := Lib.hid (HR.out.bel hb)
  replace HB := Lib.hid (HB.out.trans (hb.mono HB.out.size))
  clear hb HX0 c19 c7 c9 HCN HRO HOW hm
  by_cases h1 : ce = 0
  ·have d1 : (ce != 0) = false := by simp [h1]
   have HE1 : Hid (f = if n ≤ s.tokens then 11 else if xroomB (s.token t n) r then 0 else 9) := Lib.hid (by rw [HE0.out, if_neg (by simp [h1])])
   have u16 : X.cell? ⟨w.heap.size, 16, none⟩ = some (.int .i64 s.tokens) := HX.out.cell 16
   clear h1 HE0
   by_cases h2 : n ≤ s.tokens
   ·have d2 : decide ((n : Int) ≤ (s.tokens : Int)) = true := decide_eq_true (by omega)
    have d2' : decide (n ≤ s.tokens) = true := decide_eq_true h2
    obtain rfl : f = 11 := by rw [HE1.out, if_pos h2]
    clear h2 HE1 HRO1 HOW1
    go_wp2_with (refine wpList_store_part rfl 103 (.tmp 6) (.tmp 36) rfl (w.heap.size + 1) 0 HR.out zSt zSt (by rfl) (by rfl) (Nat.le_refl 20) infoSta zStO (zStV rfl) ?_; intro W6 hb6 hc6; have HT := Lib.hid hb6; have HC6 := Lib.hid hc6; clear hb6 hc6)
    exact bodyPost_ret (results_cell_row2 rfl _ HT.out rfl Tryz.underlying103 infoSta) rfl ⟨HB.out.trans (HC6.out.below HB.out.size (by simp)), .inl ⟨by decide, rfl⟩⟩
   ·have d2 : decide ((n : Int) ≤ (s.tokens : Int)) = false := decide_eq_false (by omega)
    have d2' : decide (n ≤ s.tokens) = false := decide_eq_false h2
    have HE2 : Hid (f = if xroomB (s.token t n) r then 0 else 9) := Lib.hid (by rw [HE1.out, if_neg h2])
    clear h2 HE1
    generalize hrb : xroomB (s.token t n) r = rb at HE2 HRO1
    have HE3 : Hid (f = if rb then 0 else 9) := HE2
    have HRO := HRO1
    have HOW := HOW1
    have z16 : X.frozen? ⟨w.heap.size, 16, none⟩ = false := HX.out.frozen 16
    have u14 : X.cell? ⟨w.heap.size, 14, none⟩ = some (.string s.tok) := HX.out.cell 14
    have z14 : X.frozen? ⟨w.heap.size, 14, none⟩ = false := HX.out.frozen 14
    have HX2 : Hid (Blk ((X.setCell ⟨w.heap.size, 14, none⟩ (.string t)).setCell ⟨w.heap.size, 16, none⟩ (.int .i64 (n : Int))) w.heap.size 103 (s.token t n).cs) := Lib.hid ((HX.out.set_ 14 (.string t)).set_ 16 (.int .i64 (n : Int)))
    have HR2 : Hid (Blk ((X.setCell ⟨w.heap.size, 14, none⟩ (.string t)).setCell ⟨w.heap.size, 16, none⟩ (.int .i64 (n : Int))) (w.heap.size + 1) 103 zSt) := Lib.hid ((HR.out.far (p := ⟨w.heap.size, 14, none⟩) (by simp) _).far (p := ⟨w.heap.size, 16, none⟩) (by simp) _)
    have HB2 : Hid (Below w.heap.size w ((X.setCell ⟨w.heap.size, 14, none⟩ (.string t)).setCell ⟨w.heap.size, 16, none⟩ (.int .i64 (n : Int)))) := (HB.out.setCell (by simp) _).setCell (by simp) _
    clear HE2 HX HR HB hrb HRO1 HOW1
    go_wp2_with (refine wpList_load_blk rfl 103 (.tmp 3) rfl w.heap.size 0 20 HX2.out (s.token t n).cs (by rfl) (st_ext _) Tryz.underlying103 infoSta (st_le _) ?_)
    refine (HRO _ HB2.out).out.mono ?_
    rintro e W3 ⟨rfl, hb⟩
    replace HX := Lib.hid (HX2.out.bel hb)
    replace HR := Lib.hid (HR2.out.bel hb)
    replace HB := Lib.hid (HB2.out.trans (hb.mono HB2.out.size))
    clear hb HX2 HR2 HB2
    cases rb with
    | false =>
     obtain rfl : f = 9 := HE3.out
     go_wp2_with (refine wpList_store_part rfl 103 (.tmp 6) (.tmp 46) rfl (w.heap.size + 1) 0 HR.out zSt zSt (by rfl) (by rfl) (Nat.le_refl 20) infoSta zStO (zStV rfl) ?_; intro W6 hb6 hc6; have HT := Lib.hid hb6; have HC6 := Lib.hid hc6; clear hb6 hc6)
     exact bodyPost_ret (results_cell_row2 rfl _ HT.out rfl Tryz.underlying103 infoSta) rfl ⟨HB.out.trans (HC6.out.below HB.out.size (by simp)), .inl ⟨by decide, rfl⟩⟩
    | true =>
     obtain rfl : f = 0 := HE3.out
     go_wp2_with (refine wpList_load_blk rfl 103 (.tmp 3) rfl w.heap.size 0 20 HX.out (s.token t n).cs (by rfl) (st_ext _) Tryz.underlying103 infoSta (st_le _) ?_)
     refine (HOW _ HB.out).out.mono ?_
     rintro e W4 ⟨V, A2, c2, B2, d2, rfl, ho⟩
     have hval := ho.val
     subst hval
     have hb := ho.below
     have HM2 := Lib.hid (ho.ls.mono HB.out.size)
     replace HR := Lib.hid (HR.out.bel hb)
     replace HB := Lib.hid (HB.out.trans (hb.mono HB.out.size))
     clear ho hb
     go_wp2_with (refine wpList_store_part rfl 103 (.tmp 6) (.tmp 48) rfl (w.heap.size + 1) 0 HR.out ((s.token t n).lists A2 c2 B2 d2).cs ((s.token t n).lists A2 c2 B2 d2).cs (by rfl) (by rfl) (Nat.le_refl 20) infoSta (stcs_one _) (st_over _ rfl) ?_; intro W6 hb6 hc6; have HT := Lib.hid hb6; have HC6 := Lib.hid hc6; clear hb6 hc6)
     exact bodyPost_ret (results_cell_row2 rfl _ HT.out rfl Tryz.underlying103 infoSta) rfl ⟨HB.out.trans (HC6.out.below HB.out.size (by simp)), .inr ⟨rfl, A2, c2, B2, d2, rfl, HM2.out.ch HC6.out HR.out.kdT⟩⟩
  ·have d1 : (ce != 0) = true := by simp [bne, beq_eq_false_iff_ne.2 h1]
   obtain rfl : f = ce := by rw [HE0.out, if_pos h1]
   have H1 := Lib.hid h1
   clear h1 HE0 HRO1 HOW1
   go_wp2_with (refine wpList_store_part rfl 103 (.tmp 6) (.tmp 29) rfl (w.heap.size + 1) 0 HR.out zSt zSt (by rfl) (by rfl) (Nat.le_refl 20) infoSta zStO (zStV rfl) ?_; intro W6 hb6 hc6; have HT := Lib.hid hb6; have HC6 := Lib.hid hc6; clear hb6 hc6)
   exact bodyPost_ret (results_cell_row2 rfl _ HT.out rfl Tryz.underlying103 infoSta) rfl ⟨HB.out.trans (HC6.out.below HB.out.size (by simp)), .inl ⟨H1.out, rfl⟩⟩
end
section
def fIdx {α : Type} (q : α → Bool) (l : List α) : Int := if l.any q then (l.findIdx q : Int) else -1
theorem fIdx_none {α : Type} (q : α → Bool) (l : List α) (h : l.any q = false) : fIdx q l = -1 := by unfold fIdx; rw [h]; rfl
theorem fIdx_any {α : Type} (q : α → Bool) (l : List α) : decide ((0 : Int) ≤ fIdx q l) = l.any q := by
 unfold fIdx
 cases l.any q with
 | true => simp
 | false => rfl
theorem fIdx_at {α : Type} (q : α → Bool) (l : List α) (k : Nat) (h : k < l.length) (hn : (l.take k).any q = false) : q l[k] = true → fIdx q l = (k : Int) := by
 intro hq
 have ha : l.any q = true := List.any_eq_true.2 ⟨_, List.getElem_mem h, hq⟩
 unfold fIdx
 rw [ha, if_pos rfl]
 congr 1
 rw [List.findIdx_eq h]
 refine ⟨hq, fun j hj => ?_⟩
 rw [List.any_eq_false] at hn
 have := hn (l[j]'(by omega)) (List.mem_take_iff_getElem.2 ⟨j, by omega, rfl⟩)
 simpa using this
end
end Go.Proofs.YtjcinncphffgaaaGreat
