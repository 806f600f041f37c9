/- chain: of no blocks: Deep and Spent; block.Same of blocks of no transactions; block.Begin. law12's fixed calls. -/
import Derived.RangeFuncWrites
import Derived.RangeFuncBox
import Derived.RangeFuncNested
import Derived.Outline
import Derived.Deep.RegionHeld3
import Derived.Test.YtjcinncphffgaaaGreatMjG28
import Derived.Test.YtjcinncphffgaaaGreatMjG34
import Derived.Test.YtjcinncphffgaaaGreatMjG44
import Derived.Test.YtjcinncphffgaaaGreatMjK6
import Derived.Test.YtjcinncphffgaaaGreatMjK7
import Derived.Test.YtjcinncphffgaaaGreatMjK9
set_option linter.unusedVariables false
set_option linter.unusedSimpArgs false
namespace Go.Proofs.YtjcinncphffgaaaGreat
open Go.RowKit Go.Maps Go.Sort Go.Shelf
theorem wpIn_gen {F : Fence} {n : Nat} {P : Program} {c : Code} {Q : Exit → Act → World → Prop} {a : Act} {w : World} (h : ∀ W, W = w → c.wpIn F n P Q a W) : c.wpIn F n P Q a w := h w rfl
section
attribute [local go_sem] Oper.semAt_some
set_option maxRecDepth 100000 in
set_option maxHeartbeats 1000000 in
theorem backward_stops (n Bn : Nat) (A : Option Addr) (c : Nat) (w : World) (hb : Blk w Bn 134 #[.slice A 0 c]) :
    SeqStopsK Fence.wide n Tryz.prog 180 #[.pointer (some ⟨Bn, 0, none⟩)] (fun x : Empty => x.elim) KeepsWalks (fun xs => xs = []) (fun _ => True) 0 w := fun l J Jx W hW hJ hJx hY h0 => by
  have H0 := Lib.hid h0
  have c0 : W.cell? ⟨Bn, 0, none⟩ = some (.slice A 0 c) := (hb.bel hW).cell 0
  have e1 : wrap64 ((0 : Int) - 1) = -1 := by rw [show (0 : Int) - 1 = -1 from rfl]; exact IntWalk.wrap64_in _ ⟨by decide, by decide⟩
  clear hJ hJx hY h0 hb hW
  refine callsIn_of_wp Tryz.func180 rfl trivial ?_ rfl
  simp only [Tryz.ntmps180, List.size_toArray, List.length_cons, List.length_nil, Nat.reduceAdd, Nat.reduceSub, Array.replicate_succ, Array.replicate_zero, List.push_toArray, List.append_toArray, List.nil_append, List.cons_append]
  gi_wp2
  gi_loopw [3] (fun i wr => i = .int .i64 (-1) ∧ Hid (J [] wr)) (fun _ _ => 0)
  case atStart => exact ⟨rfl, H0⟩
  case round =>
    obtain ⟨rfl, HJ⟩ := hrel
    gi_wp2_with fail
    go_end0
    exact ⟨⟨_, rfl⟩, .inl ⟨[], rfl, HJ.out⟩⟩
theorem backwardF_any (A : Option Addr) (k c : Nat) (w : World) : Calls Tryz.prog 139 #[.slice A k c] w fun e w' => e = .returned (.func (.func 180) #[] #[.pointer (some ⟨w.heap.size, 0, none⟩)]) ∧ w.alloc (.cells #[.slice A k c] 134) = w' := by
  have hmf : ∀ (fn : Fn) (first cap : Array Value) (w : World), (Instr.makeFunc fn first cap).run Tryz.prog w = .ok (.func fn first cap) w := fun _ _ _ _ => rfl
  go_enter Tryz.func139, Tryz.ntmps139
  go_wp2_with fail
  go_ret
  exact ⟨rfl, rfl⟩
set_option maxRecDepth 100000 in
set_option maxHeartbeats 2000000 in
theorem clast_none (fn : Fn) (cap : Array Value) (cb : Nat) (A : Option Addr) (c : Nat) (w : World) (hcb : cb < w.heap.size) (h : w.cell? ⟨cb, 1, none⟩ = some (.slice A 0 c)) :
    Calls Tryz.prog 68 #[.pointer (some ⟨cb, 0, none⟩), .func fn #[] cap] w fun e w' => e = .returned (.tuple #[.agg zTxK, .int .i64 0]) ∧ Below w.heap.size w w' := by
  have q1 : ∀ o1 o2 o3 o4, ((((w.alloc o1).alloc o2).alloc o3).alloc o4).cell? ⟨cb, 1, none⟩ = some (.slice A 0 c) := fun o1 o2 o3 o4 => by
    rw [World.cell?_alloc_lt _ _ _ (by simp; omega), World.cell?_alloc_lt _ _ _ (by simp; omega), World.cell?_alloc_lt _ _ _ (by simp; omega), World.cell?_alloc_lt _ _ _ hcb, h]
  refine (callsIn_wide (n := 5)).1 ?_
  refine callsIn_of_wp_marks Tryz.func68 rfl trivial ?_ rfl
  simp only [Tryz.ntmps68, List.size_toArray, List.length_cons, List.length_nil, Nat.reduceAdd, Nat.reduceSub, Array.replicate_succ, Array.replicate_zero, List.push_toArray, List.append_toArray, List.nil_append, List.cons_append]
  gi_wp2_with fail
  refine ⟨trivial, ?_⟩
  refine (callsIn_wide.2 (backwardF_any A 0 c _)).mono ?_
  rintro e w1 ⟨rfl, rfl⟩
  gi_wp2_with fail
  refine wpIn_gen fun W0 hW0 => ?_
  have hz0 : W0.heap.size = w.heap.size + 5 := by rw [hW0]; simp
  have hT0 : Blk W0 (w.heap.size + 2) 53 zTxK := by rw [hW0]; exact ((Blk.newAt (by simp)).alloc _).alloc _
  have hI0 : Blk W0 (w.heap.size + 3) 3 #[.int .i64 0] := by rw [hW0]; exact (Blk.newAt (by simp)).alloc _
  have hN0 : Blk W0 (w.heap.size + 4) 134 #[.slice A 0 c] := by rw [hW0]; exact Blk.newAt (by simp)
  have hB0 : Below w.heap.size w W0 := by rw [hW0]; exact (((((Below.refl _ _).alloc (Nat.le_refl _) _).alloc (by simp) _).alloc (by simp; omega) _).alloc (by simp; omega) _).alloc (by simp; omega) _
  have HZ0 := Lib.hid hz0
  clear hW0 q1
  refine wpIn_rangeFunc_ownH rfl (by decide) (gf := 180) (lb := #[.pointer (some ⟨w.heap.size + 4, 0, none⟩)]) rfl trivial (enters_of Tryz.func180 (by kernel_rfl) rfl)
    (backward_stops 4 (w.heap.size + 4) A c W0 hN0) KeepsWalks.trans (fun W l o o' _ ho _ hw => KeepsWalks.putObj o' ho hw) (Below.refl _ _) (fun x => x.elim)
    (fun _ W => Blk W (w.heap.size + 2) 53 zTxK ∧ Blk W (w.heap.size + 3) 3 #[.int .i64 0] ∧ Below w.heap.size w W ∧ W0.heap.size ≤ W.heap.size) (fun _ _ _ => False)
    (OwnFrom.and (ownFrom_blk _ _ _ (fun _ => zTxK)) (OwnFrom.and (ownFrom_blk _ _ _ (fun _ => #[.int .i64 0])) (OwnFrom.and (ownFrom_below (Nat.le_refl _) (by omega)) (fun _ _ _ _ hs hg _ => Nat.le_trans hs hg.size)))) (fun _ s W W' row hs _ _ => hs) ⟨hT0, hI0, hB0, Nat.le_refl _⟩
    (fun x _ _ => x.elim) (fun x => x.elim) ?assign ?body ?done ?stop
  case assign => exact fun _ _ x => x.elim
  case body => exact fun _ _ x => x.elim
  case stop => exact fun _ _ _ _ _ _ h => h.elim
  case done =>
    rintro D xs W hD rfl ⟨hT, hI, hB, hz⟩ hK
    have HB := Lib.hid hB
    have HK := Lib.hid hK
    have HT := Lib.hid hT
    have HI := Lib.hid hI
    have hD2 : w.heap.size + 5 ≤ D := by rw [← HZ0.out]; exact hD
    clear hB hK hT hI hz hT0 hI0 hN0 hB0
    have t0 : W.cell? ⟨w.heap.size + 1 + 1, 0, none⟩ = some (.slice none 0 0) := HT.out.cell 0
    have z0 : W.frozen? ⟨w.heap.size + 1 + 1, 0, none⟩ = false := HT.out.frozen 0
    have t1 : W.cell? ⟨w.heap.size + 1 + 1, 1, none⟩ = some (.slice none 0 0) := HT.out.cell 1
    have z1 : W.frozen? ⟨w.heap.size + 1 + 1, 1, none⟩ = false := HT.out.frozen 1
    have t2 : W.cell? ⟨w.heap.size + 1 + 1, 2, none⟩ = some (.int .u64 0) := HT.out.cell 2
    have z2 : W.frozen? ⟨w.heap.size + 1 + 1, 2, none⟩ = false := HT.out.frozen 2
    have t3 : W.cell? ⟨w.heap.size + 1 + 1, 3, none⟩ = some (.string ByteArray.empty) := HT.out.cell 3
    have z3 : W.frozen? ⟨w.heap.size + 1 + 1, 3, none⟩ = false := HT.out.frozen 3
    have t4 : W.cell? ⟨w.heap.size + 1 + 1, 4, none⟩ = some (.string ByteArray.empty) := HT.out.cell 4
    have z4 : W.frozen? ⟨w.heap.size + 1 + 1, 4, none⟩ = false := HT.out.frozen 4
    have t5 : W.cell? ⟨w.heap.size + 1 + 1, 5, none⟩ = some (.slice none 0 0) := HT.out.cell 5
    have z5 : W.frozen? ⟨w.heap.size + 1 + 1, 5, none⟩ = false := HT.out.frozen 5
    have t6 : W.cell? ⟨w.heap.size + 1 + 1 + 1, 0, none⟩ = some (.int .i64 0) := HI.out.cell 0
    have z6 : W.frozen? ⟨w.heap.size + 1 + 1 + 1, 0, none⟩ = false := HI.out.frozen 0
    gi_wp2_with fail
    generalize hW7 : World.setCell (World.setCell (World.setCell (World.setCell (World.setCell (World.setCell (World.setCell W ⟨w.heap.size + 1 + 1, 0, none⟩ (.slice none 0 0)) ⟨w.heap.size + 1 + 1, 1, none⟩ (.slice none 0 0)) ⟨w.heap.size + 1 + 1, 2, none⟩ (.int .u64 0)) ⟨w.heap.size + 1 + 1, 3, none⟩ (.string ⟨#[]⟩)) ⟨w.heap.size + 1 + 1, 4, none⟩ (.string ⟨#[]⟩)) ⟨w.heap.size + 1 + 1, 5, none⟩ (.slice none 0 0)) ⟨w.heap.size + 1 + 1 + 1, 0, none⟩ (.int .i64 0) = W7
    have HC7 : Hid (Ch [w.heap.size + 2, w.heap.size + 3] W W7) := Lib.hid (by
      rw [← hW7]
      exact ((((((Ch.set_ (b := w.heap.size + 2) (by simp) _ _ _).trans (Ch.set_ (b := w.heap.size + 2) (by simp) _ _ _)).trans (Ch.set_ (b := w.heap.size + 2) (by simp) _ _ _)).trans (Ch.set_ (b := w.heap.size + 2) (by simp) _ _ _)).trans (Ch.set_ (b := w.heap.size + 2) (by simp) _ _ _)).trans (Ch.set_ (b := w.heap.size + 2) (by simp) _ _ _)).trans (Ch.set_ (b := w.heap.size + 3) (by simp) _ _ _))
    have HT7 : Hid (Blk W7 (w.heap.size + 2) 53 zTxK) := Lib.hid (by
      rw [← hW7]
      exact ((((((HT.out.set_ 0 (.slice none 0 0)).set_ 1 (.slice none 0 0)).set_ 2 (.int .u64 0)).set_ 3 (.string ByteArray.empty)).set_ 4 (.string ByteArray.empty)).set_ 5 (.slice none 0 0)).far (p := ⟨w.heap.size + 1 + 1 + 1, 0, none⟩) (by simp) _)
    have HI7 : Hid (Blk W7 (w.heap.size + 3) 3 #[.int .i64 0]) := Lib.hid (by
      rw [← hW7]
      exact ((((((HI.out.far (p := ⟨w.heap.size + 1 + 1, 0, none⟩) (by simp) _).far (p := ⟨w.heap.size + 1 + 1, 1, none⟩) (by simp) _).far (p := ⟨w.heap.size + 1 + 1, 2, none⟩) (by simp) _).far (p := ⟨w.heap.size + 1 + 1, 3, none⟩) (by simp) _).far (p := ⟨w.heap.size + 1 + 1, 4, none⟩) (by simp) _).far (p := ⟨w.heap.size + 1 + 1, 5, none⟩) (by simp) _).set_ 0 (.int .i64 0))
    have hk7 : W7.heap[D]? = some (.deferred (some [])) := (HC7.out.block D (Array.getElem?_eq_some_iff.1 HK.out).1 (by simp; omega)).trans HK.out
    have hb7 : Below w.heap.size w W7 := HB.out.trans (HC7.out.below HB.out.size (by simp))
    have hb8 : Below w.heap.size w (W7.putObj D (.deferred none)) := hb7.trans ((Ch.of_grown (grownBy_putObj' _ D _)).below hb7.size (by simp; omega))
    have ht8 : Blk (W7.putObj D (.deferred none)) (w.heap.size + 2) 53 zTxK := (World.putObj_heap_other (by omega)).trans HT7.out
    have v0 : (W7.putObj D (.deferred none)).cell? ⟨w.heap.size + 1 + 1 + 1, 0, none⟩ = some (.int .i64 0) := Blk.cell (g := w.heap.size + 3) ((World.putObj_heap_other (by omega)).trans HI7.out) 0
    clear hW7
    refine ⟨by simp, .inl ⟨_, _, rfl, run_takeDeferred hk7, ?_⟩⟩
    refine ⟨_, results_cells2 (ty2 := 3) rfl _ ht8 rfl Tryz.underlying53 infoTx (a2 := ⟨w.heap.size + 1 + 1 + 1, 0, none⟩) (v := .int .i64 0) rfl (by simp [go_sem, v0]), rfl, hb8⟩
end
set_option maxRecDepth 100000 in
set_option maxHeartbeats 1000000 in
theorem cdeep_none (id : ByteArray) (cb : Nat) (A : Option Addr) (c : Nat) (w : World) (hcb : cb < w.heap.size) (h : w.cell? ⟨cb, 1, none⟩ = some (.slice A 0 c)) :
    Calls Tryz.prog 16 #[.pointer (some ⟨cb, 0, none⟩), .string id] w fun e w' => e = .returned (.int .i64 0) ∧ Below w.heap.size w w' := by
  have hmf : ∀ (fn : Fn) (first cap : Array Value) (w : World), (Instr.makeFunc fn first cap).run Tryz.prog w = .ok (.func fn first cap) w := fun _ _ _ _ => rfl
  have HL := fun o fn cap => Lib.hid (clast_none fn cap cb A c (w.alloc o) (by simp; omega) ((World.cell?_alloc_lt w o _ hcb).trans h))
  have HB : ∀ o, Hid (Below w.heap.size w (w.alloc o)) := fun o => Lib.hid ((Below.refl _ _).alloc (Nat.le_refl _) _)
  go_enter Tryz.func16, Tryz.ntmps16
  go_wp2_with fail
  refine (HL _ _ _).out.mono ?_
  rintro e W ⟨rfl, hb⟩
  have HBW : Hid (Below w.heap.size w W) := Lib.hid ((HB _).out.trans (hb.mono (HB _).out.size))
  have HBN : Hid (Below W.heap.size W (W.alloc (.cells zTxK 53))) := Lib.hid ((Below.refl _ _).alloc (Nat.le_refl _) _)
  clear hb HL
  go_wp2_with (refine wpList_store_part rfl 53 (.tmp 5) (.tmp 11) rfl W.heap.size 0 (cs := zTxK) (Blk.new _ _ _) zTxK zTxK (by rfl) (by rfl) (Nat.le_refl 6) infoTx (txK_one ..) (txK_over _ _ _ _ _ _ _ _ _ _ _ _ rfl) ?_; intro W6 hb6 hc6; have HBX := Lib.hid (bel_st' hc6); clear hb6 hc6)
  go_ret
  exact ⟨rfl, HBW.out.trans (HBX.out.mono HBW.out.size)⟩
set_option maxRecDepth 100000 in
set_option maxHeartbeats 1000000 in
theorem cspent_none (p : Pt) (cb : Nat) (A : Option Addr) (c : Nat) (w : World) (hcb : cb < w.heap.size) (h : w.cell? ⟨cb, 1, none⟩ = some (.slice A 0 c)) :
    Calls Tryz.prog 18 #[.pointer (some ⟨cb, 0, none⟩), .agg p.cs] w fun e w' => e = .returned (.tuple #[.agg zTxK, .int .i64 0]) ∧ Below w.heap.size w w' := by
  have hmf : ∀ (fn : Fn) (first cap : Array Value) (w : World), (Instr.makeFunc fn first cap).run Tryz.prog w = .ok (.func fn first cap) w := fun _ _ _ _ => rfl
  go_enter Tryz.func18, Tryz.ntmps18
  go_upto_region 1 with fail
  refine wp_gen fun V0 hV0 => ?_
  have HB : Hid (Below w.heap.size w V0) := Lib.hid (by rw [hV0]; exact ((Below.refl _ _).alloc (Nat.le_refl _) _).alloc (by simp) _)
  have HR : Hid (Blk V0 (w.heap.size + 1) 53 zTxK) := Lib.hid (by rw [hV0]; exact Blk.newAt (by simp))
  have HL := fun fn cap => Lib.hid (clast_none fn cap cb A c V0 (Nat.lt_of_lt_of_le hcb HB.out.size) ((HB.out.cell (p := ⟨cb, 1, none⟩) hcb).trans h))
  clear hV0 h
  go_wp2_with fail
  refine (HL _ _).out.mono ?_
  rintro e W ⟨rfl, hb⟩
  replace HR := Lib.hid (HR.out.bel hb)
  replace HB := Lib.hid (HB.out.trans (hb.mono HB.out.size))
  clear hb HL
  go_wp2_with (refine wpList_store_part rfl 53 (.tmp 4) (.tmp 9) rfl (w.heap.size + 1) 0 HR.out zTxK zTxK (by rfl) (by rfl) (Nat.le_refl 6) infoTx (txK_one ..) (txK_over _ _ _ _ _ _ _ _ _ _ _ _ rfl) ?_; intro W6 hb6 hc6; have HT6 := Lib.hid hb6; have HC6 := Lib.hid hc6; clear hb6 hc6)
  exact bodyPost_ret (results_cell_row2 rfl _ HT6.out rfl Tryz.underlying53 infoTx) rfl ⟨rfl, HB.out.trans (HC6.out.below HB.out.size (by simp))⟩
set_option maxRecDepth 100000 in
set_option maxHeartbeats 1000000 in
theorem equal_none (A B : Option Addr) (c d : Nat) (v : Value) (w : World) : Calls Tryz.prog 132 #[.slice A 0 c, .slice B 0 d, v] w fun e w' => e = .returned (.bool true) ∧ w' = w := by
  go_enter Tryz.func132, Tryz.ntmps132
  go_wp2_with fail
  go_loopw [17] (fun i wr => i = .int .i64 0 ∧ wr = w) (fun _ _ => 0)
  case atStart => exact ⟨rfl, rfl⟩
  case round =>
    obtain ⟨rfl, rfl⟩ := hrel
    go_wp2_with fail
    go_ret
    exact ⟨rfl, rfl⟩
set_option maxRecDepth 100000 in
set_option maxHeartbeats 1000000 in
theorem bsame_none (h : Int) (p : ByteArray) (A B : Option Addr) (c d : Nat) (w : World) : Calls Tryz.prog 61 #[.agg (Bm.mk h p A [] c).cs, .agg (Bm.mk h p B [] d).cs] w fun e w' => e = .returned (.bool true) ∧ Below w.heap.size w w' := by
  have HE := fun v W => Lib.hid (equal_none A B c d v W)
  have hq : (p.toList == p.toList) = true := by simp
  go_enter Tryz.func61, Tryz.ntmps61
  go_upto_region 1 with fail
  refine wp_gen fun V0 hV0 => ?_
  have HB : Hid (Below w.heap.size w V0) := Lib.hid (by rw [hV0]; exact ((Below.refl _ _).alloc (Nat.le_refl _) _).alloc (by simp) _)
  have hx : Blk V0 w.heap.size 37 (Bm.mk h p A [] c).cs := by rw [hV0]; exact (Blk.new _ _ _).alloc _
  have hy : Blk V0 (w.heap.size + 1) 37 (Bm.mk h p B [] d).cs := by rw [hV0]; exact Blk.newAt (by simp)
  have x0 : V0.cell? ⟨w.heap.size, 0, none⟩ = some (.int .i64 h) := hx.cell 0
  have x1 : V0.cell? ⟨w.heap.size, 1, none⟩ = some (.string p) := hx.cell 1
  have x2 : V0.cell? ⟨w.heap.size, 2, none⟩ = some (.slice A 0 c) := hx.cell 2
  have y0 : V0.cell? ⟨w.heap.size + 1, 0, none⟩ = some (.int .i64 h) := hy.cell 0
  have y1 : V0.cell? ⟨w.heap.size + 1, 1, none⟩ = some (.string p) := hy.cell 1
  have y2 : V0.cell? ⟨w.heap.size + 1, 2, none⟩ = some (.slice B 0 d) := hy.cell 2
  clear hV0 hx hy
  go_wp2_with fail
  refine (HE _ _).out.mono ?_
  rintro e W1 ⟨rfl, hq2⟩
  rw [hq2]; clear hq2 W1
  go_wp2_with fail
  go_ret
  exact ⟨rfl, HB.out⟩
set_option maxRecDepth 100000 in
set_option maxHeartbeats 1000000 in
theorem bbegin_any (A : Option Addr) (l : List Ou) (c : Nat) (i : Int) (w : World) (hS : Sl w w.heap.size 9 Ou.cl A l) (hl : l.length ≤ 64) (hz : ∀ o ∈ l, o.fz) :
    Calls Tryz.prog 59 #[.slice A l.length c, .int .i64 i] w fun e w' => e = .returned (.agg #[.string (firstB l), .int .i64 i]) ∧ Below w.heap.size w w' := by
  have HF := fun W (h : Below w.heap.size w W) => Lib.hid (first_any A l c W ((hS.below h).more h.size) hl hz)
  have HB : ∀ o, Hid (Below w.heap.size w (w.alloc o)) := fun o => Lib.hid ((Below.refl _ _).alloc (Nat.le_refl _) _)
  generalize firstB l = f at HF ⊢
  clear hS hz
  go_enter Tryz.func59, Tryz.ntmps59
  go_wp2_with fail
  refine (HF _ (HB _).out).out.mono ?_
  rintro e W ⟨rfl, hb⟩
  have hlt : w.heap.size < W.heap.size := Nat.lt_of_lt_of_le (by simp) hb.size
  have HR : Hid (Blk W w.heap.size 57 #[.string ByteArray.empty, .int .i64 0]) := Lib.hid ((Blk.new w 57 #[.string ByteArray.empty, .int .i64 0]).bel hb)
  have HBW : Hid (Below w.heap.size w W) := Lib.hid ((HB _).out.trans (hb.mono (HB _).out.size))
  clear hb HF HB
  have p0 : W.cell? ⟨w.heap.size, 0, none⟩ = some (.string ByteArray.empty) := HR.out.cell 0
  have p1 : W.cell? ⟨w.heap.size, 1, none⟩ = some (.int .i64 0) := HR.out.cell 1
  have f0 : W.frozen? ⟨w.heap.size, 0, none⟩ = false := HR.out.frozen 0
  have f1 : W.frozen? ⟨w.heap.size, 1, none⟩ = false := HR.out.frozen 1
  go_wp2_with fail
  have HT6 : Blk ((W.setCell ⟨w.heap.size, 0, none⟩ (.string f)).setCell ⟨w.heap.size, 1, none⟩ (.int .i64 i)) w.heap.size 57 #[.string f, .int .i64 i] := (HR.out.set_ 0 (.string f)).set_ 1 (.int .i64 i)
  have HC6 : Ch [w.heap.size] W ((W.setCell ⟨w.heap.size, 0, none⟩ (.string f)).setCell ⟨w.heap.size, 1, none⟩ (.int .i64 i)) := (Ch.set_ (by simp) _ _ _).trans (Ch.set_ (by simp) _ _ _)
  exact bodyPost_ret (results_cell_row rfl _ _ w.heap.size 57 _ (0, 0) _ rfl HT6 Tryz.underlying57 rfl infoPnt) rfl ⟨rfl, HBW.out.trans (HC6.below HBW.out.size (by simp))⟩
end Go.Proofs.YtjcinncphffgaaaGreat
namespace Go.Proofs.YtjcinncphffgaaaGreat
open Go.RowKit Go.Maps
theorem sl_one1 {α : Type} {W : World} {g : Nat} {t : TypeId} {cur : Array Value} {k : Nat} {en : α → List Value} {x : α} (hb : Blk W g t cur) (he : cur.toList = en x) (hl : (en x).length = k) : Sl W W.heap.size k en (some ⟨g, 0, none⟩) [x] := fun _ => ⟨g, 0, rfl, hb.lt, fun i y hi j u hu => by
  cases i with
  | zero =>
    injection hi with hi
    subst hi
    rw [show (0 + 0 * k + j) = j by simp, hb.cell, ← Array.getElem?_toList, he]
    exact hu
  | succ i => simp at hi⟩
def o12 : Ou := payO 5 hash16
theorem o12_new : newU [o12] = true := by decide
/-- the chain of the fixed calls -/
structure F12 (w0 : World) (cb : Nat) (m : CnM) (s : Cn) (w : World) : Prop where
  cn : CnAt w cb m s
  ou : Blk w w0.heap.size 81 o12.cs
  bel : Below w0.heap.size w0 w
section
variable {w0 w w' : World} {cb : Nat} {m m' : CnM} {s s' : Cn}
theorem F12.go (h : F12 w0 cb m s w) (hb : Below w.heap.size w w') : F12 w0 cb m s w' := ⟨h.cn.bel hb, h.ou.bel hb, h.bel.trans (hb.mono h.bel.size)⟩
theorem F12.to (h : F12 w0 cb m s w) (hc : Ch [cb] w w') (hw : w0.heap.size ≤ cb) (hk : CnAt w' cb m' s') : F12 w0 cb m' s' w' := ⟨hk, h.ou.ch hc (by have := h.ou.ne_ h.cn.hd (by decide); simpa using this), h.bel.trans (hc.below h.bel.size (by simpa using hw))⟩
theorem F12.sl (h : F12 w0 cb m s w) : Sl w w.heap.size 9 Ou.cl (some ⟨w0.heap.size, 0, none⟩) [o12] := sl_one1 h.ou rfl rfl
end
theorem ts_12 : TS (utN (firstB [o12]) [o12]) := ⟨tok_new o12_new (by decide) (fun o ho => by rw [List.mem_singleton.1 ho]; exact ⟨by decide, by decide⟩), utN_srtK _ _⟩
theorem r12 {f : ByteArray} (hf : f.size = 16) (A : Option Addr) (c : Nat) (n : Nat) (hn : 1 ≤ n ∧ n ≤ 2) : rightK (Bm.mk (n : Int) f A [] c).bk = true := by
  show (decide ((1 : Int) ≤ (n : Int)) && decide ((n : Int) ≤ 4294967295) && decide (f.size = 16) && decide (0 ≤ 8) && true) = true
  rw [decide_eq_true (by omega), decide_eq_true (by omega), decide_eq_true hf]; rfl
set_option maxRecDepth 100000 in
set_option maxHeartbeats 8000000 in
theorem fixed12_any (w : World) : Calls Tryz.prog 10 #[] w fun e w' => e = .returned (.bool true) ∧ Below w.heap.size w w' := by
  have hts := ts_12
  have htl : (utN (firstB [o12]) [o12]).length = 1 := utN_len _ _
  have hfs := firstB_size [o12]
  have HCN := fun W (h : Sl W W.heap.size 9 Ou.cl (some ⟨w.heap.size, 0, none⟩) [o12]) => Lib.hid (cnew_ok (some ⟨w.heap.size, 0, none⟩) [o12] 1 W h o12_new (fun o ho => by rw [List.mem_singleton.1 ho]; decide))
  have hfz : ∀ o ∈ [o12], o.fz := fun o ho => by rw [List.mem_singleton.1 ho]; exact ⟨by decide, by decide⟩
  have HFI := fun W (h : Sl W W.heap.size 9 Ou.cl (some ⟨w.heap.size, 0, none⟩) [o12]) => Lib.hid (first_any (some ⟨w.heap.size, 0, none⟩) [o12] 1 W h (by decide) hfz)
  have HBE := fun W (h : Sl W W.heap.size 9 Ou.cl (some ⟨w.heap.size, 0, none⟩) [o12]) => Lib.hid (bbegin_any (some ⟨w.heap.size, 0, none⟩) [o12] 1 0 W h (by decide) hfz)
  generalize firstB [o12] = f at hts htl hfs HCN HFI HBE
  generalize utN f [o12] = T0 at hts htl HCN
  have HTS := Lib.hid hts
  have HTL := Lib.hid htl
  have HFS := Lib.hid hfs
  clear hts htl hfs hfz
  go_enter Tryz.func10, Tryz.ntmps10
  go_upto_region 2 with fail
  refine wp_gen fun V0 hV0 => ?_
  have HO0 : Hid (Blk V0 w.heap.size 81 o12.cs) := Lib.hid (by rw [hV0]; exact Blk.new _ _ _)
  have HB0 : Hid (Below w.heap.size w V0) := Lib.hid (by rw [hV0]; exact (Below.refl _ _).alloc (Nat.le_refl _) _)
  clear hV0
  go_wp2_with fail
  refine (HCN V0 (sl_one1 HO0.out rfl rfl)).out.mono ?_
  rintro e V1 ⟨cb, m0, rfl, hcb, hat, hb⟩
  have HCW : Hid (w.heap.size ≤ cb) := Lib.hid (Nat.le_trans HB0.out.size hcb)
  have HF : Hid (F12 w cb m0 ⟨f, [], T0⟩ V1) := Lib.hid ⟨hat, HO0.out.bel hb, HB0.out.trans (hb.mono HB0.out.size)⟩
  clear hat hb hcb HO0 HB0 HCN
  go_wp2_with fail
  refine (cnew_no none [] 0 _ (Sl.nil _ _ _ _ _) (by decide) (by decide)).mono ?_
  rintro e V2 ⟨rfl, hb⟩
  replace HF := Lib.hid (HF.out.go hb)
  clear hb
  go_wp2_with fail
  refine (cpop_none HF.out.cn rfl).mono ?_
  rintro e V3 ⟨rfl, hb⟩
  replace HF := Lib.hid (HF.out.go hb)
  clear hb
  go_wp2_with (refine wpList_store_part rfl 37 (.tmp 6) (.tmp 44) rfl V3.heap.size 0 (cs := zBm.cs) (Blk.new _ _ _) zBm.cs zBm.cs (by rfl) (by rfl) (Nat.le_refl 3) infoBk (bmcs_one _) (bm_over _ rfl) ?_; intro V4 hb1 hc1; replace HF := Lib.hid (HF.out.go (bel_st' hc1)); clear hb1 hc1)
  refine (cmake_any none [] 0 HF.out.cn (fun y hy => by cases hy) HTS.out (by show 0 ≤ 1000; decide) (by show T0.length ≤ 800; rw [HTL.out]; decide) (Sl.nil _ _ _ _ _) (by decide) (fun t ht => by cases ht) (fun t ht => by cases ht)).mono ?_
  rintro e V5 ⟨⟨bh, bp, A, btx, bc⟩, rfl, hbh, hbp, hbt, hbm, hbx, hb⟩
  obtain rfl : bh = 1 := hbh
  obtain rfl : bp = f := hbp
  obtain rfl : btx = [] := by
    have hbt' : al2 btx [] := hbt
    cases hbt'; rfl
  have HM := Lib.hid hbm
  replace HF := Lib.hid (HF.out.go hb)
  clear hbt hbm hbx hb
  go_wp2_with (refine wpList_store_part rfl 37 (.tmp 8) (.tmp 47) rfl V5.heap.size 0 (cs := zBm.cs) (Blk.new _ _ _) (Bm.mk 1 bp A [] bc).cs (Bm.mk 1 bp A [] bc).cs (by rfl) (by rfl) (Nat.le_refl 3) infoBk (bmcs_one _) (bm_over _ rfl) ?_; intro V6 hb1 hc1; have hb := bel_st' hc1; have H8 := Lib.hid hb1; replace HF := Lib.hid (HF.out.go hb); replace HM := Lib.hid (HM.out.bel hb); clear hb1 hc1 hb)
  generalize V5.heap.size = g8 at H8 ⊢
  refine (ctip_any HF.out.cn (fun y hy => by cases hy) (by show 0 ≤ 1000000; decide)).mono ?_
  rintro e V7 ⟨rfl, hb⟩
  have HTP0 : tipC ⟨bp, [], T0⟩ = bp := rfl
  rw [HTP0]
  clear HTP0
  replace HF := Lib.hid (HF.out.go hb)
  replace HM := Lib.hid (HM.out.bel hb)
  replace H8 := Lib.hid (H8.out.bel hb)
  clear hb
  go_wp2_with fail
  refine (cpush_any zBm HF.out.cn (fun y hy => by cases hy) HTS.out (by show 0 ≤ 1000; decide) (by show T0.length ≤ 800; rw [HTL.out]; decide) (zbm_mem _) (by show 0 ≤ 1000; decide) (fun t ht => by cases ht)).mono ?_
  rintro e V8 ⟨rfl, hr⟩
  have h4 : pushC ⟨bp, [], T0⟩ zBm.bk = 4 := push_left rfl
  rw [h4] at hr ⊢
  have hb := hr.no (by decide)
  replace HF := Lib.hid (HF.out.go hb)
  replace HM := Lib.hid (HM.out.bel hb)
  replace H8 := Lib.hid (H8.out.bel hb)
  clear hb hr h4
  go_wp2_with fail
  refine (cpush_any (Bm.mk 2 bp none [] 0) HF.out.cn (fun y hy => by cases hy) HTS.out (by show 0 ≤ 1000; decide) (by show T0.length ≤ 800; rw [HTL.out]; decide) ⟨Sl.nil _ _ _ _ _, (fun t ht => by cases ht), fun _ => rfl⟩ (by show 0 ≤ 1000; decide) (fun t ht => by cases ht)).mono ?_
  rintro e V9 ⟨rfl, hr⟩
  have h4 : pushC ⟨bp, [], T0⟩ (Bm.mk 2 bp none [] 0).bk = 13 := push_rule (r12 HFS.out none 0 2 (by omega)) (.inl (by show ¬ ((2 : Int) = ((0 : Nat) : Int) + 1); decide))
  rw [h4] at hr ⊢
  have hb := hr.no (by decide)
  replace HF := Lib.hid (HF.out.go hb)
  replace HM := Lib.hid (HM.out.bel hb)
  replace H8 := Lib.hid (H8.out.bel hb)
  clear hb hr h4
  go_wp2_with (refine wpList_load_blk rfl 37 (.tmp 8) rfl g8 0 3 H8.out (Bm.mk 1 bp A [] bc).cs (by rfl) (bm_ext _) Tryz.underlying37 infoBk (Nat.le_refl 3) ?_)
  refine (cpush_any (Bm.mk 1 bp A [] bc) HF.out.cn (fun y hy => by cases hy) HTS.out (by show 0 ≤ 1000; decide) (by show T0.length ≤ 800; rw [HTL.out]; decide) HM.out (by show 0 ≤ 1000; decide) (fun t ht => by cases ht)).mono ?_
  rintro e V10 ⟨rfl, hr⟩
  have h4 : pushC ⟨bp, [], T0⟩ (Bm.mk 1 bp A [] bc).bk = 0 := push_run (r12 HFS.out A bc 1 (by omega)) rfl rfl
  rw [h4] at hr ⊢
  obtain ⟨m1, ⟨kh, kp, kt⟩, hal, hcn, hch⟩ := hr.ok rfl
  obtain rfl : 1 = kh := hal.h
  obtain rfl : bp = kp := hal.prev
  obtain rfl : kt = [] := by
    have := hal.txs
    have h2 : al2 [] kt := this
    cases h2; rfl
  have h8n : g8 ≠ cb := H8.out.ne_ HF.out.cn.hd (by decide)
  replace H8 := Lib.hid (H8.out.ch hch (by simpa using h8n))
  replace HM := Lib.hid (HM.out.cn HF.out.cn.hd hch)
  replace HF : Hid (F12 w cb m1 ⟨bp, [(⟨1, bp, []⟩, T0)], T0⟩ V10) := Lib.hid (HF.out.to hch HCW.out hcn)
  have HOK : Hid (Cn.okk ⟨bp, [(⟨1, bp, []⟩, T0)], T0⟩) := Lib.hid (fun y hy => by
    rw [List.mem_singleton.1 hy]
    exact ⟨r12 HFS.out A bc 1 (by omega), fun t ht => by cases ht⟩)
  clear hr h4 hal hcn hch h8n
  go_wp2_with (refine wpList_load_blk rfl 37 (.tmp 8) rfl g8 0 3 H8.out (Bm.mk 1 bp A [] bc).cs (by rfl) (bm_ext _) Tryz.underlying37 infoBk (Nat.le_refl 3) ?_)
  refine (cpush_any (Bm.mk 1 bp A [] bc) HF.out.cn HOK.out HTS.out (by show 1 ≤ 1000; decide) (by show T0.length ≤ 800; rw [HTL.out]; decide) HM.out (by show 0 ≤ 1000; decide) (fun t ht => by cases ht)).mono ?_
  rintro e V11 ⟨rfl, hr⟩
  have h4 : pushC ⟨bp, [(⟨1, bp, []⟩, T0)], T0⟩ (Bm.mk 1 bp A [] bc).bk = 13 := push_rule (r12 HFS.out A bc 1 (by omega)) (.inl (by show ¬ ((1 : Int) = ((1 : Nat) : Int) + 1); decide))
  rw [h4] at hr ⊢
  have hb := hr.no (by decide)
  replace HF := Lib.hid (HF.out.go hb)
  replace H8 := Lib.hid (H8.out.bel hb)
  clear hb hr h4 HM
  go_wp2_with fail
  refine (cat_any 1 0 HF.out.cn HOK.out (by show 1 ≤ 1000; decide) rfl (Nat.le_refl 1)).mono ?_
  rintro e V12 ⟨⟨b1h, b1p, A1, b1t, c1⟩, y, rfl, hy, hal, _, hb⟩
  obtain rfl : (⟨⟨1, bp, []⟩, T0⟩ : Bk × List En) = y := by injection hy
  obtain rfl : 1 = b1h := hal.h
  obtain rfl : bp = b1p := hal.prev
  obtain rfl : b1t = [] := by
    have h2 : al2 [] b1t := hal.txs
    cases h2; rfl
  replace HF := Lib.hid (HF.out.go hb)
  replace H8 := Lib.hid (H8.out.bel hb)
  clear hb hy hal
  go_wp2_with (refine wpList_store_part rfl 37 (.tmp 14) (.tmp 66) rfl V12.heap.size 0 (cs := zBm.cs) (Blk.new _ _ _) (Bm.mk 1 bp A1 [] c1).cs (Bm.mk 1 bp A1 [] c1).cs (by rfl) (by rfl) (Nat.le_refl 3) infoBk (bmcs_one _) (bm_over _ rfl) ?_; intro V13 hb1 hc1; have hb := bel_st' hc1; have H14 := Lib.hid hb1; replace HF := Lib.hid (HF.out.go hb); replace H8 := Lib.hid (H8.out.bel hb); clear hb1 hc1 hb)
  generalize V12.heap.size = g14 at H14 ⊢
  refine (cat_none 2 HF.out.cn (.inr (by show ((1 : Nat) : Int) < 2; decide))).mono ?_
  rintro e V14 ⟨rfl, hb⟩
  replace HF := Lib.hid (HF.out.go hb)
  replace H8 := Lib.hid (H8.out.bel hb)
  replace H14 := Lib.hid (H14.out.bel hb)
  clear hb
  go_wp2_with (refine wpList_store_part rfl 37 (.tmp 16) (.tmp 71) rfl V14.heap.size 0 (cs := zBm.cs) (Blk.new _ _ _) zBm.cs zBm.cs (by rfl) (by rfl) (Nat.le_refl 3) infoBk (bmcs_one _) (bm_over _ rfl) ?_; intro V15 hb1 hc1; have hb := bel_st' hc1; replace HF := Lib.hid (HF.out.go hb); replace H8 := Lib.hid (H8.out.bel hb); replace H14 := Lib.hid (H14.out.bel hb); clear hb1 hc1 hb)
  refine (cheight_any HF.out.cn).mono ?_
  rintro e V16 ⟨rfl, hq⟩
  rw [hq]; clear hq V16
  go_wp2_with fail
  refine (cpop_any (ls := []) (k := ⟨1, bp, []⟩) (T := T0) HF.out.cn rfl HOK.out (by show 1 ≤ 1000; decide)).mono ?_
  rintro e V17 ⟨⟨b2h, b2p, A2, b2t, c2⟩, m2, rfl, hal, _, hcn, hch⟩
  obtain rfl : 1 = b2h := hal.h
  obtain rfl : bp = b2p := hal.prev
  obtain rfl : b2t = [] := by
    have h2 : al2 [] b2t := hal.txs
    cases h2; rfl
  have h8n : g8 ≠ cb := H8.out.ne_ HF.out.cn.hd (by decide)
  have h14n : g14 ≠ cb := H14.out.ne_ HF.out.cn.hd (by decide)
  replace H8 := Lib.hid (H8.out.ch hch (by simpa using h8n))
  replace H14 := Lib.hid (H14.out.ch hch (by simpa using h14n))
  replace HF : Hid (F12 w cb m2 ⟨bp, [], T0⟩ V17) := Lib.hid (HF.out.to hch HCW.out hcn)
  clear hal hcn hch h8n h14n HOK
  go_wp2_with (refine wpList_store_part rfl 37 (.tmp 19) (.tmp 78) rfl V17.heap.size 0 (cs := zBm.cs) (Blk.new _ _ _) (Bm.mk 1 bp A2 [] c2).cs (Bm.mk 1 bp A2 [] c2).cs (by rfl) (by rfl) (Nat.le_refl 3) infoBk (bmcs_one _) (bm_over _ rfl) ?_; intro V18 hb1 hc1; have hb := bel_st' hc1; have H19 := Lib.hid hb1; replace HF := Lib.hid (HF.out.go hb); replace H8 := Lib.hid (H8.out.bel hb); replace H14 := Lib.hid (H14.out.bel hb); clear hb1 hc1 hb)
  generalize V17.heap.size = g19 at H19 ⊢
  refine (HBE V18 HF.out.sl).out.mono ?_
  rintro e V19 ⟨rfl, hb⟩
  replace HF := Lib.hid (HF.out.go hb)
  replace H8 := Lib.hid (H8.out.bel hb)
  replace H14 := Lib.hid (H14.out.bel hb)
  replace H19 := Lib.hid (H19.out.bel hb)
  clear hb HBE
  go_wp2_with fail
  have hl0 : m2.L.length = 0 := HF.out.cn.len
  refine (cspent_none (bp, 0) cb m2.A m2.c V19 HF.out.cn.hd.lt (by have := HF.out.cn.hd.cell 1; rw [hl0] at this; exact this)).mono ?_
  rintro e V20 ⟨rfl, hb⟩
  replace HF := Lib.hid (HF.out.go hb)
  replace H8 := Lib.hid (H8.out.bel hb)
  replace H14 := Lib.hid (H14.out.bel hb)
  replace H19 := Lib.hid (H19.out.bel hb)
  clear hb
  go_wp2_with (refine wpList_store_part rfl 53 (.tmp 21) (.tmp 85) rfl V20.heap.size 0 (cs := zTxK) (Blk.new _ _ _) zTxK zTxK (by rfl) (by rfl) (Nat.le_refl 6) infoTx (txK_one ..) (txK_over _ _ _ _ _ _ _ _ _ _ _ _ rfl) ?_; intro V21 hb1 hc1; have hb := bel_st' hc1; replace HF := Lib.hid (HF.out.go hb); replace H8 := Lib.hid (H8.out.bel hb); replace H14 := Lib.hid (H14.out.bel hb); replace H19 := Lib.hid (H19.out.bel hb); clear hb1 hc1 hb)
  refine (cset_any HF.out.cn).mono ?_
  rintro e V22 ⟨sb, sm, rfl, _, _, hset, hb⟩
  have HST := Lib.hid hset
  replace HF := Lib.hid (HF.out.go hb)
  replace H8 := Lib.hid (H8.out.bel hb)
  replace H14 := Lib.hid (H14.out.bel hb)
  replace H19 := Lib.hid (H19.out.bel hb)
  clear hb hset
  have hq : (bp.toList == bp.toList) = true := by simp
  have a0 : V22.cell? ⟨g14, 0, none⟩ = some (.int .i64 1) := H14.out.cell 0
  have a1 : V22.cell? ⟨g14, 1, none⟩ = some (.string bp) := H14.out.cell 1
  have a2 : V22.cell? ⟨g14, 2, none⟩ = some (.slice A1 0 c1) := H14.out.cell 2
  have b0 : V22.cell? ⟨g8, 0, none⟩ = some (.int .i64 1) := H8.out.cell 0
  have b1 : V22.cell? ⟨g8, 1, none⟩ = some (.string bp) := H8.out.cell 1
  have b2 : V22.cell? ⟨g8, 2, none⟩ = some (.slice A 0 bc) := H8.out.cell 2
  have d0 : V22.cell? ⟨g19, 0, none⟩ = some (.int .i64 1) := H19.out.cell 0
  have d1 : V22.cell? ⟨g19, 1, none⟩ = some (.string bp) := H19.out.cell 1
  have d2 : V22.cell? ⟨g19, 2, none⟩ = some (.slice A2 0 c2) := H19.out.cell 2
  go_wp2_with fail
  refine (HFI V22 HF.out.sl).out.mono ?_
  rintro e V23 ⟨rfl, hb⟩
  replace HST := Lib.hid (HST.out.bel hb)
  replace HF := Lib.hid (HF.out.go hb)
  replace H8 := Lib.hid (H8.out.bel hb)
  replace H14 := Lib.hid (H14.out.bel hb)
  replace H19 := Lib.hid (H19.out.bel hb)
  clear hb a0 a1 a2 b0 b1 b2 d0 d1 d2
  have a0 : V23.cell? ⟨g14, 0, none⟩ = some (.int .i64 1) := H14.out.cell 0
  have a1 : V23.cell? ⟨g14, 1, none⟩ = some (.string bp) := H14.out.cell 1
  have a2 : V23.cell? ⟨g14, 2, none⟩ = some (.slice A1 0 c1) := H14.out.cell 2
  have b0 : V23.cell? ⟨g8, 0, none⟩ = some (.int .i64 1) := H8.out.cell 0
  have b1 : V23.cell? ⟨g8, 1, none⟩ = some (.string bp) := H8.out.cell 1
  have b2 : V23.cell? ⟨g8, 2, none⟩ = some (.slice A 0 bc) := H8.out.cell 2
  have d0 : V23.cell? ⟨g19, 0, none⟩ = some (.int .i64 1) := H19.out.cell 0
  have d1 : V23.cell? ⟨g19, 1, none⟩ = some (.string bp) := H19.out.cell 1
  have d2 : V23.cell? ⟨g19, 2, none⟩ = some (.slice A2 0 c2) := H19.out.cell 2
  go_wp2_with fail
  refine (bsame_none 1 bp A1 A c1 bc V23).mono ?_
  rintro e V24 ⟨rfl, hb⟩
  replace HST := Lib.hid (HST.out.bel hb)
  replace HF := Lib.hid (HF.out.go hb)
  replace H8 := Lib.hid (H8.out.bel hb)
  replace H14 := Lib.hid (H14.out.bel hb)
  replace H19 := Lib.hid (H19.out.bel hb)
  clear hb a0 a1 a2 b0 b1 b2 d0 d1 d2
  have a0 : V24.cell? ⟨g14, 0, none⟩ = some (.int .i64 1) := H14.out.cell 0
  have a1 : V24.cell? ⟨g14, 1, none⟩ = some (.string bp) := H14.out.cell 1
  have a2 : V24.cell? ⟨g14, 2, none⟩ = some (.slice A1 0 c1) := H14.out.cell 2
  have b0 : V24.cell? ⟨g8, 0, none⟩ = some (.int .i64 1) := H8.out.cell 0
  have b1 : V24.cell? ⟨g8, 1, none⟩ = some (.string bp) := H8.out.cell 1
  have b2 : V24.cell? ⟨g8, 2, none⟩ = some (.slice A 0 bc) := H8.out.cell 2
  have d0 : V24.cell? ⟨g19, 0, none⟩ = some (.int .i64 1) := H19.out.cell 0
  have d1 : V24.cell? ⟨g19, 1, none⟩ = some (.string bp) := H19.out.cell 1
  have d2 : V24.cell? ⟨g19, 2, none⟩ = some (.slice A2 0 c2) := H19.out.cell 2
  go_wp2_with fail
  refine (bsame_none 1 bp A2 A c2 bc V24).mono ?_
  rintro e V25 ⟨rfl, hb⟩
  replace HST := Lib.hid (HST.out.bel hb)
  replace HF := Lib.hid (HF.out.go hb)
  replace H8 := Lib.hid (H8.out.bel hb)
  replace H14 := Lib.hid (H14.out.bel hb)
  replace H19 := Lib.hid (H19.out.bel hb)
  clear hb a0 a1 a2 b0 b1 b2 d0 d1 d2
  have a0 : V25.cell? ⟨g14, 0, none⟩ = some (.int .i64 1) := H14.out.cell 0
  have a1 : V25.cell? ⟨g14, 1, none⟩ = some (.string bp) := H14.out.cell 1
  have a2 : V25.cell? ⟨g14, 2, none⟩ = some (.slice A1 0 c1) := H14.out.cell 2
  have b0 : V25.cell? ⟨g8, 0, none⟩ = some (.int .i64 1) := H8.out.cell 0
  have b1 : V25.cell? ⟨g8, 1, none⟩ = some (.string bp) := H8.out.cell 1
  have b2 : V25.cell? ⟨g8, 2, none⟩ = some (.slice A 0 bc) := H8.out.cell 2
  have d0 : V25.cell? ⟨g19, 0, none⟩ = some (.int .i64 1) := H19.out.cell 0
  have d1 : V25.cell? ⟨g19, 1, none⟩ = some (.string bp) := H19.out.cell 1
  have d2 : V25.cell? ⟨g19, 2, none⟩ = some (.slice A2 0 c2) := H19.out.cell 2
  go_wp2_with fail
  refine (cheight_any HF.out.cn).mono ?_
  rintro e V26 ⟨rfl, hq2⟩
  rw [hq2]; clear hq2 V26
  go_wp2_with fail
  refine (ctip_any HF.out.cn (fun y hy => by cases hy) (by show 0 ≤ 1000000; decide)).mono ?_
  rintro e V27 ⟨rfl, hb⟩
  replace HST := Lib.hid (HST.out.bel hb)
  replace HF := Lib.hid (HF.out.go hb)
  replace H8 := Lib.hid (H8.out.bel hb)
  replace H14 := Lib.hid (H14.out.bel hb)
  replace H19 := Lib.hid (H19.out.bel hb)
  clear hb a0 a1 a2 b0 b1 b2 d0 d1 d2
  have a0 : V27.cell? ⟨g14, 0, none⟩ = some (.int .i64 1) := H14.out.cell 0
  have a1 : V27.cell? ⟨g14, 1, none⟩ = some (.string bp) := H14.out.cell 1
  have a2 : V27.cell? ⟨g14, 2, none⟩ = some (.slice A1 0 c1) := H14.out.cell 2
  have b0 : V27.cell? ⟨g8, 0, none⟩ = some (.int .i64 1) := H8.out.cell 0
  have b1 : V27.cell? ⟨g8, 1, none⟩ = some (.string bp) := H8.out.cell 1
  have b2 : V27.cell? ⟨g8, 2, none⟩ = some (.slice A 0 bc) := H8.out.cell 2
  have d0 : V27.cell? ⟨g19, 0, none⟩ = some (.int .i64 1) := H19.out.cell 0
  have d1 : V27.cell? ⟨g19, 1, none⟩ = some (.string bp) := H19.out.cell 1
  have d2 : V27.cell? ⟨g19, 2, none⟩ = some (.slice A2 0 c2) := H19.out.cell 2
  have HTP : tipC ⟨bp, [], T0⟩ = bp := rfl
  rw [HTP]
  clear HTP
  go_wp2_with fail
  refine (cdeep_none ⟨#[120]⟩ cb m2.A m2.c V27 HF.out.cn.hd.lt (by have := HF.out.cn.hd.cell 1; rw [hl0] at this; exact this)).mono ?_
  rintro e V28 ⟨rfl, hb⟩
  replace HST := Lib.hid (HST.out.bel hb)
  replace HF := Lib.hid (HF.out.go hb)
  replace H8 := Lib.hid (H8.out.bel hb)
  replace H14 := Lib.hid (H14.out.bel hb)
  replace H19 := Lib.hid (H19.out.bel hb)
  clear hb a0 a1 a2 b0 b1 b2 d0 d1 d2
  have a0 : V28.cell? ⟨g14, 0, none⟩ = some (.int .i64 1) := H14.out.cell 0
  have a1 : V28.cell? ⟨g14, 1, none⟩ = some (.string bp) := H14.out.cell 1
  have a2 : V28.cell? ⟨g14, 2, none⟩ = some (.slice A1 0 c1) := H14.out.cell 2
  have b0 : V28.cell? ⟨g8, 0, none⟩ = some (.int .i64 1) := H8.out.cell 0
  have b1 : V28.cell? ⟨g8, 1, none⟩ = some (.string bp) := H8.out.cell 1
  have b2 : V28.cell? ⟨g8, 2, none⟩ = some (.slice A 0 bc) := H8.out.cell 2
  have d0 : V28.cell? ⟨g19, 0, none⟩ = some (.int .i64 1) := H19.out.cell 0
  have d1 : V28.cell? ⟨g19, 1, none⟩ = some (.string bp) := H19.out.cell 1
  have d2 : V28.cell? ⟨g19, 2, none⟩ = some (.slice A2 0 c2) := H19.out.cell 2
  go_wp2_with fail
  refine (all_n 1 sb sm T0 V28 HST.out HTL.out (by decide) (by decide)).mono ?_
  rintro e V29 ⟨AV, cV, rfl, _, hb⟩
  replace HF := Lib.hid (HF.out.go hb)
  clear hb
  go_wp2_with fail
  go_ret
  exact ⟨rfl, HF.out.bel⟩
end Go.Proofs.YtjcinncphffgaaaGreat
