/- law08's and law09's Ref of a transaction: what it lays is its own. law09's Ref of a transaction; law12's txs. law12's txs. -/
import Derived.Outline
import Derived.Deep.RegionHeld3
import Derived.Deep.AppendLies
import Derived.Deep.DeepCutAuto
import Derived.Deep.CutBlock
import Derived.Test.YtjcinncphffgaaaGreatMjK3
import Derived.Test.YtjcinncphffgaaaGreatMjK7
import Derived.Test.YtjcinncphffgaaaGreatMjN7
set_option linter.unusedVariables false
set_option linter.unusedSimpArgs false
namespace Go.Proofs.YtjcinncphffgaaaGreat
open Go.RowKit Go.Maps
theorem Tryz.infoWinR : (Tryz.prog.info? 282).map (fun i => (i.zero, i.size, i.bytes)) = some (some (.agg zWn.cs), 10, 112) := by kernel_rfl
theorem Tryz.infoInR : (Tryz.prog.info? 232).map (fun i => (i.zero, i.size, i.bytes)) = some (some (.agg zInp.cs), 4, 48) := by kernel_rfl
theorem Tryz.infoTxR : (Tryz.prog.info? 147).map (fun i => (i.zero, i.size, i.bytes)) = some (some (.agg zTxK), 6, 112) := by kernel_rfl
theorem infoPfR : (Tryz.prog.info? 145).map (·.size) = some 4 := by kernel_rfl
theorem infoTxR6 : (Tryz.prog.info? 147).map (·.size) = some 6 := by kernel_rfl
set_option maxRecDepth 100000 in
set_option maxHeartbeats 1000000 in
theorem reftk_x (o : Tk) (w : World) : Calls Tryz.prog 204 #[.agg o.cs] w fun e w' => e = .returned (.agg #[.string o.ch, .int .u64 (o.ser : Nat), .int .u64 (o.face : Nat), .int .u64 (o.wins : Nat), .int .u64 (o.many : Nat), .string o.com, .int .u64 (o.cl : Nat), .string o.sig]) ∧ Below w.heap.size w w' := by
  obtain ⟨ch, ser, face, wins, many, com, cl, sig⟩ := o
  unfold Tk.cs
  go_enter Tryz.func204, Tryz.ntmps204
  go_wp2_with fail
  refine bodyPost_ret (v := .agg #[.string ch, .int .u64 (ser : Nat), .int .u64 (face : Nat), .int .u64 (wins : Nat), .int .u64 (many : Nat), .string com, .int .u64 (cl : Nat), .string sig]) (by simp [results, Tryz.results204, go_sem]) rfl ⟨rfl, ((Below.refl _ _).alloc (Nat.le_refl _) _).alloc (by simp) _⟩
theorem infoTkC : (Tryz.prog.info? 120).map (·.size) = some 8 := by kernel_rfl
theorem infoWinR10 : (Tryz.prog.info? 282).map (·.size) = some 10 := by kernel_rfl
set_option maxRecDepth 100000 in
set_option maxHeartbeats 1000000 in
theorem refwin_x (x : Wn) (w0 : World) : Calls Tryz.prog 177 #[.agg x.cs] w0 fun e w' => e = .returned (.agg #[.string x.t.ch, .int .u64 (x.t.ser : Nat), .int .u64 (x.t.face : Nat), .int .u64 (x.t.wins : Nat), .int .u64 (x.t.many : Nat), .string x.t.com, .int .u64 (x.t.cl : Nat), .string x.t.sig, .string x.salt, .int .u64 (x.drawn : Nat)]) ∧ Below w0.heap.size w0 w' := by
  go_enter Tryz.func177, Tryz.ntmps177
  go_upto_region 1 with fail
  refine wp_gen fun X0 hX => ?_
  have HX : Hid (Blk X0 w0.heap.size 122 x.cs) := Lib.hid (by rw [hX]; exact (Blk.new _ _ _).alloc _)
  have HR : Hid (Blk X0 (w0.heap.size + 1) 282 zWn.cs) := Lib.hid (by rw [hX]; exact Blk.newAt (by simp))
  have HB : Hid (Below w0.heap.size w0 X0) := Lib.hid (by rw [hX]; exact ((Below.refl _ _).alloc (Nat.le_refl _) _).alloc (by simp) _)
  clear hX
  refine wp_region_z (fun W => Hid (Blk W w0.heap.size 122 x.cs)) [8] (by kernel_rfl) (Lib.hid (HX.out.drewN 1)) (fun hS => ?_)
  replace HR : Hid (Blk X0.drew (w0.heap.size + 1) 282 zWn.cs) := Lib.hid (HR.out.drewN 1)
  replace HB : Hid (Below w0.heap.size w0 X0.drew) := HB.out.drew
  refine wpAnyZ_gen fun X hX => ?_
  rw [← hX] at HR HB hS
  clear hX HX
  refine wpAnyZ_take (i := 0) (v := ?_) rfl (by kernel_rfl) (by kernel_rfl) (by kernel_rfl) (by kernel_rfl) (by kernel_rfl) (by decide) (fun _ _ _ h => h) (Or.inl ⟨by rfl, ?_⟩) hS ?_
  rotate_left
  · (intro w _; go_simp; try with_reducible rfl)
  refine wpAnyZ_take (i := 1) (v := .agg x.t.cs) rfl (by kernel_rfl) (by kernel_rfl) (by kernel_rfl) (by kernel_rfl) (by kernel_rfl) (by decide) (fun _ _ _ h => h) ((yields_blk (by rfl) 120 (.tmp 3) (by rfl) w0.heap.size 0 8 (t := 122) (cs := x.cs) (fun W h => h.out) x.t.cs (by rfl) (by rfl) Tryz.underlying120 infoTkC (by show 8 ≤ 10; omega))) hS ?_
  refine wpAnyZ_take (i := 3) (v := ?_) rfl (by kernel_rfl) (by kernel_rfl) (by kernel_rfl) (by kernel_rfl) (by kernel_rfl) (by decide) (fun _ _ _ h => h) (Or.inl ⟨by rfl, ?_⟩) hS ?_
  rotate_left
  · (intro w _; go_simp; try with_reducible rfl)
  refine wpAnyZ_take (i := 4) (v := ?_) rfl (by kernel_rfl) (by kernel_rfl) (by kernel_rfl) (by kernel_rfl) (by kernel_rfl) (by decide) (fun _ _ _ h => h) (Or.inl ⟨by rfl, ?_⟩) hS ?_
  rotate_left
  · (intro w hS'; have hcell := (show World.cell? _ ⟨w0.heap.size, 8, none⟩ = some (.string x.salt) from Blk.cell hS'.out 8); go_simp; try with_reducible rfl)
  refine wpAnyZ_take (i := 5) (v := ?_) rfl (by kernel_rfl) (by kernel_rfl) (by kernel_rfl) (by kernel_rfl) (by kernel_rfl) (by decide) (fun _ _ _ h => h) (Or.inl ⟨by rfl, ?_⟩) hS ?_
  rotate_left
  · (intro w _; go_simp; try with_reducible rfl)
  refine wpAnyZ_take (i := 6) (v := ?_) rfl (by kernel_rfl) (by kernel_rfl) (by kernel_rfl) (by kernel_rfl) (by kernel_rfl) (by decide) (fun _ _ _ h => h) (Or.inl ⟨by rfl, ?_⟩) hS ?_
  rotate_left
  · (intro w hS'; have hcell := (show World.cell? _ ⟨w0.heap.size, 9, none⟩ = some (.int .u64 (x.drawn : Nat)) from Blk.cell hS'.out 9); go_simp; try with_reducible rfl)
  refine wpAnyZ_ready (rs := [2]) (by kernel_rfl) (by simp) (AllReadyZ.cons rfl (fun K hK => ?_) AllReadyZ.nil)
  go_simp
  refine (reftk_x x.t _).mono ?_
  rintro e W ⟨rfl, hb⟩
  replace HR := Lib.hid (HR.out.bel hb)
  replace HB := Lib.hid (HB.out.trans (hb.mono HB.out.size))
  have hSW := Lib.hid (hS.out.bel hb)
  clear hb
  go_simp
  refine hK.out _ _ (fun _ => hSW) ?_
  clear hK K
  refine wpAnyZ_take (i := 7) (v := ?_) rfl (by kernel_rfl) (by kernel_rfl) (by kernel_rfl) (by kernel_rfl) (by kernel_rfl) (by decide) (fun _ _ _ h => h) (Or.inl ⟨by rfl, ?_⟩) hSW ?_
  rotate_left
  · (intro w _; go_simp; try with_reducible rfl)
  refine wpAnyZ_ready (rs := [8]) (by kernel_rfl) (by simp) (AllReadyZ.cons rfl (fun K hK => ?_) AllReadyZ.nil)
  refine step_store_part (by rfl) 282 (.tmp 2) (.tmp 10) (by rfl) (w0.heap.size + 1) 0 HR.out x.cs x.cs (by rfl) (by rfl) (Nat.le_refl 10) infoWinR10 (wncs_one x) (wncs_over zWn x) ?_
  intro W1 hb1 hc1
  have HT := Lib.hid hb1
  have HC := Lib.hid hc1
  clear hb1 hc1
  refine hK.out _ _ (fun h => absurd (by decide) h) ?_
  clear hK K
  refine wpAnyZ_done (by kernel_rfl) ?_ _
  go_wp2_with fail
  exact bodyPost_ret (results_cell_row rfl _ _ (w0.heap.size + 1) 282 _ (0, 0) _ rfl HT.out Tryz.underlying282 rfl infoWinR10) rfl ⟨rfl, HB.out.trans (HC.out.below HB.out.size (by simp))⟩
/-- the cells of what a Ref of a proof has laid -/
def pfC8 (am : Nat) (sig tok : ByteArray) (A : Option Addr) (k c : Nat) : Array Value := #[.int .u64 (am : Nat), .string sig, .string tok, .slice A k c]
theorem pfC8_one (am : Nat) (sig tok : ByteArray) (A : Option Addr) (k c : Nat) : (pfC8 am sig tok A k c).all (·.oneCell') = true := by
  rw [Array.all_eq_true']
  intro x hx
  simp only [pfC8, List.mem_toArray, List.mem_cons, List.not_mem_nil, or_false] at hx
  rcases hx with rfl | rfl | rfl | rfl <;> rfl
theorem pfC8_over (am : Nat) (sig tok : ByteArray) (A : Option Addr) (k c : Nat) {cs : Array Value} (h : cs.size = 4) : over cs 0 (pfC8 am sig tok A k c).toList = pfC8 am sig tok A k c := (over_full (pfC8 am sig tok A k c).toList cs (by rw [h]; rfl)).trans (Array.toArray_toList ..)
set_option maxRecDepth 100000 in
set_option maxHeartbeats 4000000 in
theorem lref_any (p : Pf) (w0 : World) (hsl : Sl w0 w0.heap.size 10 Wn.cl p.A p.l) (hpl : p.l.length ≤ 1000) :
    Calls Tryz.prog 134 #[.agg p.cs] w0 fun e w' => ∃ (A : Option Addr) (k c : Nat), e = .returned (.agg #[.int .u64 (p.am : Nat), .string p.sig, .string p.tok, .slice A k c]) ∧ Below w0.heap.size w0 w' := by
  have HSL := Lib.hid hsl
  clear hsl
  obtain ⟨n0, hni, hn0, hw1, hw2⟩ := info_parts Tryz.infoWinR
  have Hnz := Lib.hid hn0
  clear hn0
  go_enter Tryz.func134, Tryz.ntmps134
  go_upto_region 1 with fail
  refine wp_gen fun X0 hX => ?_
  have HX : Hid (Blk X0 w0.heap.size 51 p.cs) := Lib.hid (by rw [hX]; exact (Blk.new _ _ _).alloc _)
  have HR : Hid (Blk X0 (w0.heap.size + 1) 145 zPf.cs) := Lib.hid (by rw [hX]; exact Blk.newAt (by simp))
  have HB : Hid (Below w0.heap.size w0 X0) := Lib.hid (by rw [hX]; exact ((Below.refl _ _).alloc (Nat.le_refl _) _).alloc (by simp) _)
  clear hX
  have c0 : X0.cell? ⟨w0.heap.size, 0, none⟩ = some (.int .u64 (p.am : Nat)) := HX.out.cell 0
  have c1 : X0.cell? ⟨w0.heap.size, 1, none⟩ = some (.string p.sig) := HX.out.cell 1
  have c2 : X0.cell? ⟨w0.heap.size, 2, none⟩ = some (.string p.tok) := HX.out.cell 2
  go_upto_region 2 with fail
  refine wp_gen fun W1 hW1 => ?_
  have HT : Hid (Blk W1 X0.heap.size 145 (pfC8 p.am p.sig p.tok none 0 0)) := Lib.hid (by rw [hW1]; exact Blk.new _ _ _)
  have HBV : Hid (Below X0.heap.size X0 W1) := Lib.hid (by rw [hW1]; exact (Below.refl _ _).alloc (Nat.le_refl _) _)
  have hgX : w0.heap.size + 1 < X0.heap.size := HR.out.lt
  replace HX := Lib.hid (HX.out.bel HBV.out)
  replace HR := Lib.hid (HR.out.bel HBV.out)
  replace HB := Lib.hid (HB.out.trans (HBV.out.mono HB.out.size))
  clear hW1 HBV c0 c1 c2
  generalize X0.heap.size = g at HT hgX ⊢
  have HO0 : Hid (W1.ownsRow w0.heap.size 282 10 (.slice none 0 0) 0 []) := Lib.hid (own_nil0 _ _ _ _)
  go_wp2_with fail
  go_loopw [4] (fun i wr => ∃ (k : Nat) (A : Option Addr) (c : Nat) (xs : List Value), k ≤ p.l.length ∧ i = .int .i64 k ∧ Hid (Blk wr w0.heap.size 51 p.cs) ∧ Hid (Blk wr (w0.heap.size + 1) 145 zPf.cs) ∧ Hid (Blk wr g 145 (pfC8 p.am p.sig p.tok A k c)) ∧ Hid (wr.ownsRow w0.heap.size 282 10 (.slice A k c) k xs) ∧ Hid (Below w0.heap.size w0 wr)) (fun i _ => p.l.length - (intOf i).toNat)
  case atStart => exact ⟨0, none, 0, [], Nat.zero_le _, rfl, HX, HR, HT, HO0, HB⟩
  case round =>
    clear HX HR HT HO0 HB
    obtain ⟨k, A, c, xs, hk, rfl, HX, HR, HT, HO, HB⟩ := hrel
    have c3 : wr.cell? ⟨w0.heap.size, 3, none⟩ = some (.slice p.A p.l.length p.c) := Blk.cell HX.out 3
    by_cases hlt : k < p.l.length
    · obtain ⟨ab, off, hA, hab, hc⟩ := HSL.out.at_ hlt
      rw [hA] at c3
      have HA := Lib.hid hA
      have HC := Lib.hid (fun (W : World) (hW : Below w0.heap.size w0 W) (j : Nat) (u : Value) (hu : (p.l[k]).cl[j]? = some u) => (hW.cell (p := ⟨ab, off + k * 10 + j, none⟩) hab).trans (hc j u hu))
      clear hA hc
      generalize p.l[k] = x at HC
      have d1 : decide ((k : Int) < (p.l.length : Int)) = true := decide_eq_true (by omega)
      have d3 : decide (k < p.l.length) = true := decide_eq_true hlt
      have hk0 : (0 : Int) ≤ (k : Int) := by omega
      have hkl : (k : Int) < (p.l.length : Int) := by omega
      go_upto_region 5 with fail
      refine wp_region_z (fun W => Hid (Blk W w0.heap.size 51 p.cs ∧ Blk W g 145 (pfC8 p.am p.sig p.tok A k c) ∧ ∀ j u, x.cl[j]? = some u → W.cell? ⟨ab, off + k * 10 + j, none⟩ = some u)) [11] (by kernel_rfl) (Lib.hid ⟨HX.out.drewN 1, HT.out.drewN 1, HC.out _ HB.out.drew⟩) (fun hS => ?_)
      replace HX : Hid (Blk wr.drew w0.heap.size 51 p.cs) := Lib.hid (HX.out.drewN 1)
      replace HR : Hid (Blk wr.drew (w0.heap.size + 1) 145 zPf.cs) := Lib.hid (HR.out.drewN 1)
      replace HT : Hid (Blk wr.drew g 145 (pfC8 p.am p.sig p.tok A k c)) := Lib.hid (HT.out.drewN 1)
      replace HO : Hid (wr.drew.ownsRow w0.heap.size 282 10 (.slice A k c) k xs) := Lib.hid HO.out.drew
      replace HB : Hid (Below w0.heap.size w0 wr.drew) := HB.out.drew
      clear c3
      refine wpAnyZ_gen fun X2 hX => ?_
      rw [← hX] at HX HR HB HT HO hS
      clear hX
      refine wpAnyZ_take (i := 0) (v := ?_) rfl (by kernel_rfl) (by kernel_rfl) (by kernel_rfl) (by kernel_rfl) (by kernel_rfl) (by decide) (fun _ _ _ h => h) (Or.inl ⟨by rfl, ?_⟩) hS ?_
      rotate_left
      · (intro w _; go_simp; try with_reducible rfl)
      refine wpAnyZ_take (i := 1) (v := ?_) rfl (by kernel_rfl) (by kernel_rfl) (by kernel_rfl) (by kernel_rfl) (by kernel_rfl) (by decide) (fun _ _ _ h => h) (Or.inl ⟨by rfl, ?_⟩) hS ?_
      rotate_left
      · (intro w hS'; have hcell := (show World.cell? _ ⟨g, 3, none⟩ = some (.slice A k c) from Blk.cell hS'.out.2.1 3); go_simp; try with_reducible rfl)
      refine wpAnyZ_take (i := 2) (v := ?_) rfl (by kernel_rfl) (by kernel_rfl) (by kernel_rfl) (by kernel_rfl) (by kernel_rfl) (by decide) (fun _ _ _ h => h) (Or.inl ⟨by rfl, ?_⟩) hS ?_
      rotate_left
      · (intro w _; go_simp; try with_reducible rfl)
      refine wpAnyZ_take (i := 3) (v := ?_) rfl (by kernel_rfl) (by kernel_rfl) (by kernel_rfl) (by kernel_rfl) (by kernel_rfl) (by decide) (fun _ _ _ h => h) (Or.inl ⟨by rfl, ?_⟩) hS ?_
      rotate_left
      · (intro w hS'; have hcell := (show World.cell? _ ⟨w0.heap.size, 3, none⟩ = some (.slice (some ⟨ab, off, none⟩) p.l.length p.c) from (Blk.cell hS'.out.1 3).trans (by rw [← HA.out]; rfl)); go_simp; try with_reducible rfl)
      refine wpAnyZ_take (i := 4) (v := ?_) rfl (by kernel_rfl) (by kernel_rfl) (by kernel_rfl) (by kernel_rfl) (by kernel_rfl) (by decide) (fun _ _ _ h => h) (Or.inl ⟨by rfl, ?_⟩) hS ?_
      rotate_left
      · (intro w _; go_simp; try with_reducible rfl)
      refine wpAnyZ_take (i := 5) (v := ?_) rfl (by kernel_rfl) (by kernel_rfl) (by kernel_rfl) (by kernel_rfl) (by kernel_rfl) (by decide) (fun _ _ _ h => h) (Or.inl ⟨by rfl, ?_⟩) hS ?_
      rotate_left
      · (intro w _; go_simp; try with_reducible rfl)
      refine wpAnyZ_take (i := 6) (v := .agg x.cs) rfl (by kernel_rfl) (by kernel_rfl) (by kernel_rfl) (by kernel_rfl) (by kernel_rfl) (by decide) (fun _ _ _ h => h) ((yields_rowz (by rfl) 122 (.tmp 24) (by rfl) ab (off + k * 10) x.cl (fun W h => h.out.2.2) x.cs (by rfl) (Array.toArray_toList ..) Tryz.underlying122 infoWn)) hS ?_
      refine wpAnyZ_ready (rs := [7]) (by kernel_rfl) (by simp) (AllReadyZ.cons rfl (fun K hK => ?_) AllReadyZ.nil)
      go_simp
      refine (refwin_x x _).mono ?_
      rintro e W ⟨rfl, hb⟩
      have HBX := Lib.hid hb
      clear hb
      go_simp
      have hSW := Lib.hid (And.intro (hS.out.1.bel HBX.out) (And.intro (hS.out.2.1.bel HBX.out) (HC.out _ (HB.out.trans (HBX.out.mono HB.out.size)))))
      refine hK.out _ _ (fun _ => hSW) ?_
      clear hK K
      clear hS
      refine wpAnyZ_ready (rs := [8]) (by kernel_rfl) (by simp) (AllReadyZ.cons rfl (fun K hK => ?_) AllReadyZ.nil)
      go_simp
      have hHW := HBX.out.size
      replace HBX := Lib.hid (HBX.out.alloc HBX.out.size (.cells x.cs 282))
      have HNB : Hid (Blk (W.alloc (.cells x.cs 282)) W.heap.size 282 x.cs) := Blk.new _ _ _
      refine hK.out _ _ (fun _ => Lib.hid ⟨hSW.out.1.alloc _, hSW.out.2.1.alloc _, HC.out _ (HB.out.trans (HBX.out.mono HB.out.size))⟩) ?_
      clear hK K hSW
      refine wpAnyZ_gen fun X1 hX1 => ?_
      replace hX1 : X1 = W.alloc (.cells x.cs 282) := hX1
      rw [← hX1] at HBX HNB
      clear hX1
      have HNW := Lib.hid (World.news_of_block HNB.out)
      have HO1 := Lib.hid (own_belT HO.out HBX.out)
      refine wpAnyZ_ready (rs := [9]) (by kernel_rfl) (by simp) (AllReadyZ.cons rfl (fun K hK => ?_) AllReadyZ.nil)
      refine step_append_lies _ (by rfl) (.tmp 20) (.tmp 27) 143 (by rfl) w0.heap.size 282 n0 _ 10 112 Tryz.underlying143 hni Hnz.out hw1 hw2 rfl (by omega) (.slice A k c) k xs (by rfl) HO1.out ⟨W.heap.size, 0, none⟩ 1 1 x.cl (by rfl) (by rfl) HNW.out (wncl_one x) (by omega) (by simp only [maxLen]; omega) (by omega) (Nat.le_trans HB.out.size HBX.out.size) _ rfl ?_
      intro gg cap W4 hown4 hgrow hat hlt4
      have HO4 := Lib.hid hown4
      have HX4 := Lib.hid ((HX.out.bel HBX.out).grown hgrow (blk_far (HX.out.bel HBX.out) HO1.out (by decide)))
      have HR4 := Lib.hid ((HR.out.bel HBX.out).grown hgrow (blk_far (HR.out.bel HBX.out) HO1.out (by decide)))
      have HT4 := Lib.hid ((HT.out.bel HBX.out).grown hgrow (blk_far (HT.out.bel HBX.out) HO1.out (by decide)))
      have HB4 : Hid (Below w0.heap.size w0 W4) := Lib.hid ((HB.out.trans (HBX.out.mono HB.out.size)).grown hgrow (Nat.le_trans HB.out.size HBX.out.size) (fun j hj => own_base HO1.out j hj))
      have hSC := Lib.hid (HC.out _ HB4.out)
      clear hown4 hgrow hat hlt4 HNB HNW HO1
      refine hK.out _ _ (fun _ => Lib.hid ⟨HX4.out, HT4.out, hSC.out⟩) ?_
      clear hK K
      have hS4 := Lib.hid (And.intro HX4.out (And.intro HT4.out hSC.out))
      refine wpAnyZ_take (i := 10) (v := ?_) rfl (by kernel_rfl) (by kernel_rfl) (by kernel_rfl) (by kernel_rfl) (by kernel_rfl) (by decide) (fun _ _ _ h => h) (Or.inl ⟨by rfl, ?_⟩) hS4 ?_
      rotate_left
      · (intro w _; go_simp; try with_reducible rfl)
      refine wpAnyZ_ready (rs := [11]) (by kernel_rfl) (by simp) (AllReadyZ.cons rfl (fun K hK => ?_) AllReadyZ.nil)
      have u3 : W4.cell? ⟨g, 3, none⟩ = some (.slice A k c) := HT4.out.cell 3
      have z3 : W4.frozen? ⟨g, 3, none⟩ = false := HT4.out.frozen 3
      go_simp
      refine hK.out _ _ (fun h => absurd (by decide) h) ?_
      clear hK K
      refine wpAnyZ_done (by kernel_rfl) ?_ _
      clear u3 z3 hS4 hSC HX HR HT HB HO HBX
      have HCS : Hid (Ch [g] W4 (W4.setCell ⟨g, 3, none⟩ (.slice (some ⟨gg, 0, none⟩) (k + 1) cap))) := Lib.hid (Ch.set_ (by simp) _ _ _)
      have HX5 := Lib.hid (HX4.out.ch HCS.out (by simp <;> omega))
      have HR5 := Lib.hid (HR4.out.ch HCS.out (by simp <;> omega))
      have HT5 : Hid (Blk (W4.setCell ⟨g, 3, none⟩ (.slice (some ⟨gg, 0, none⟩) (k + 1) cap)) g 145 (pfC8 p.am p.sig p.tok (some ⟨gg, 0, none⟩) (k + 1) cap)) := Lib.hid (HT4.out.set_ 3 (.slice (some ⟨gg, 0, none⟩) (k + 1) cap))
      have HO5 := Lib.hid (own_chT HO4.out HCS.out HT4.out.kdT (by decide))
      have HB5 := Lib.hid (HB4.out.trans (HCS.out.below HB4.out.size (by simp <;> omega)))
      generalize (W4.setCell ⟨g, 3, none⟩ (.slice (some ⟨gg, 0, none⟩) (k + 1) cap)) = W5 at HX5 HR5 HT5 HB5 HO5 ⊢
      clear HX4 HR4 HT4 HB4 HO4 HCS
      go_wp2_with fail
      go_roundw
      case rel => exact ⟨k + 1, _, _, _, by omega, by go_num, HX5, HR5, HT5, HO5, HB5⟩
      case measure => simp [intOf]; omega
    · have d3 : decide (k < p.l.length) = false := decide_eq_false hlt
      go_wp2_with (first
        | (refine wpList_load_blk rfl 145 (.tmp 3) rfl g 0 4 HT.out (pfC8 p.am p.sig p.tok A k c) (by rfl) (by rfl) Tryz.underlying145 infoPfR (Nat.le_refl 4) ?_)
        | (refine wpList_store_part rfl 145 (.tmp 2) (.tmp 30) rfl (w0.heap.size + 1) 0 HR.out (pfC8 p.am p.sig p.tok A k c) (pfC8 p.am p.sig p.tok A k c) (by rfl) (by rfl) (Nat.le_refl 4) infoPfR (pfC8_one ..) (pfC8_over _ _ _ _ _ _ rfl) ?_; intro W6 hb6 hc6; have HR6 := Lib.hid hb6; have HC6 := Lib.hid hc6; clear hb6 hc6))
      exact bodyPost_ret (results_cell_row rfl _ _ (w0.heap.size + 1) 145 _ (0, 0) _ rfl HR6.out Tryz.underlying145 rfl infoPfR) rfl ⟨A, k, c, rfl, HB.out.trans (HC6.out.below HB.out.size (by simp))⟩
end Go.Proofs.YtjcinncphffgaaaGreat
namespace Go.Proofs.YtjcinncphffgaaaGreat
open Go.RowKit Go.Maps
/-- a Ref in the making -/
structure RfS (w0 : World) (t : Txn) (g : Nat) (A : Option Addr) (k c : Nat) (xs : List Value) (B : Option Addr) (m d : Nat) (ys : List Value) (PA : Option Addr) (n pc : Nat) (w : World) : Prop where
  t1 : Blk w w0.heap.size 53 t.cs
  res : Blk w (w0.heap.size + 1) 147 zTxK
  blk : Blk w g 147 (txK A k c B m d t.p.am t.p.sig t.p.tok PA n pc)
  r1 : w.ownsRow w0.heap.size 232 4 (.slice A k c) k xs
  r2 : w.ownsRow w0.heap.size 131 9 (.slice B m d) m ys
  bel : Below w0.heap.size w0 w
section
variable {w0 w w' : World} {t : Txn} {g : Nat} {A : Option Addr} {k c : Nat} {xs : List Value} {B : Option Addr} {m d : Nat} {ys : List Value} {PA : Option Addr} {n pc : Nat}
theorem RfS.go (h : RfS w0 t g A k c xs B m d ys PA n pc w) (hb : Below w.heap.size w w') : RfS w0 t g A k c xs B m d ys PA n pc w' := ⟨h.t1.bel hb, h.res.bel hb, h.blk.bel hb, own_belT h.r1 hb, own_belT h.r2 hb, h.bel.trans (hb.mono h.bel.size)⟩
theorem RfS.addIn {A' : Option Addr} {k' c' : Nat} {xs' : List Value} (h : RfS w0 t g A k c xs B m d ys PA n pc w) (hg : w.grownBy w' (Value.slice A k c).ownBlock) (hr : w'.ownsRow w0.heap.size 232 4 (.slice A' k' c') k' xs') (hg2 : w0.heap.size + 1 < g) :
    RfS w0 t g A' k' c' xs' B m d ys PA n pc (w'.setCell ⟨g, 0, none⟩ (.slice A' k' c')) := by
  have b1 := h.t1.grown hg (blk_far h.t1 h.r1 (by decide))
  have b2 := h.res.grown hg (blk_far h.res h.r1 (by decide))
  have b3 := h.blk.grown hg (blk_far h.blk h.r1 (by decide))
  have b4 := own_keptT h.r2 h.r1 (by decide) hg
  have b5 : Below w0.heap.size w0 w' := h.bel.grown hg h.bel.size (fun j hj => own_base h.r1 j hj)
  have hcs : Ch [g] w' (w'.setCell ⟨g, 0, none⟩ (.slice A' k' c')) := Ch.set_ (by simp) _ _ _
  exact ⟨b1.ch hcs (by simp <;> omega), b2.ch hcs (by simp <;> omega), b3.set_ 0 (.slice A' k' c'), own_chT hr hcs b3.kdT (by decide), own_chT b4 hcs b3.kdT (by decide), b5.trans (hcs.below b5.size (by simp <;> omega))⟩
theorem RfS.addOut {B' : Option Addr} {m' d' : Nat} {ys' : List Value} (h : RfS w0 t g A k c xs B m d ys PA n pc w) (hg : w.grownBy w' (Value.slice B m d).ownBlock) (hr : w'.ownsRow w0.heap.size 131 9 (.slice B' m' d') m' ys') (hg2 : w0.heap.size + 1 < g) :
    RfS w0 t g A k c xs B' m' d' ys' PA n pc (w'.setCell ⟨g, 1, none⟩ (.slice B' m' d')) := by
  have b1 := h.t1.grown hg (blk_far h.t1 h.r2 (by decide))
  have b2 := h.res.grown hg (blk_far h.res h.r2 (by decide))
  have b3 := h.blk.grown hg (blk_far h.blk h.r2 (by decide))
  have b4 := own_keptT h.r1 h.r2 (by decide) hg
  have b5 : Below w0.heap.size w0 w' := h.bel.grown hg h.bel.size (fun j hj => own_base h.r2 j hj)
  have hcs : Ch [g] w' (w'.setCell ⟨g, 1, none⟩ (.slice B' m' d')) := Ch.set_ (by simp) _ _ _
  exact ⟨b1.ch hcs (by simp <;> omega), b2.ch hcs (by simp <;> omega), b3.set_ 1 (.slice B' m' d'), own_chT b4 hcs b3.kdT (by decide), own_chT hr hcs b3.kdT (by decide), b5.trans (hcs.below b5.size (by simp <;> omega))⟩
end
theorem inp_pt2 (x : Inp) : ∀ (j : Nat) (v : Value), x.pt.cs.toList[j]? = some v → x.cl[j]? = some v := fun j v h => by
  have e : x.cl = x.pt.cs.toList ++ [.int .i64 x.path, .string x.sig] := rfl
  rw [e, List.getElem?_append_left (List.getElem?_eq_some_iff.1 h).1]; exact h
set_option maxRecDepth 100000 in
set_option maxHeartbeats 4000000 in
theorem tref_any (t : Txn) (w0 : World) (hm : t.mem w0) (h1 : t.ins.length ≤ 1000) (h2 : t.outs.length ≤ 1000) (h3 : t.p.l.length ≤ 1000) :
    Calls Tryz.prog 62 #[.agg t.cs] w0 fun e w' => ∃ (A : Option Addr) (k c : Nat) (B : Option Addr) (m d : Nat) (PA : Option Addr) (n pc : Nat), e = .returned (.agg #[.slice A k c, .slice B m d, .int .u64 (t.p.am : Nat), .string t.p.sig, .string t.p.tok, .slice PA n pc]) ∧ Below w0.heap.size w0 w' := by
  have HLC := fun W (hW : Below w0.heap.size w0 W) => Lib.hid (lref_any t.p W (hm.bel hW).wins h3)
  have HSI := Lib.hid hm.ins
  have HSO := Lib.hid hm.outs
  clear hm
  obtain ⟨n0, hni, hn0, hn1, hn2⟩ := info_parts Tryz.infoInR
  have HNZ := Lib.hid hn0
  obtain ⟨o0, hoi, ho0, ho1, ho2⟩ := info_parts Tryz.infoOutR
  have HOZ := Lib.hid ho0
  clear hn0 ho0
  go_enter Tryz.func62, Tryz.ntmps62
  go_upto_region 1 with fail
  refine wp_gen fun X0 hX => ?_
  have HX : Hid (Blk X0 w0.heap.size 53 t.cs) := Lib.hid (by rw [hX]; exact (Blk.new _ _ _).alloc _)
  have HR : Hid (Blk X0 (w0.heap.size + 1) 147 zTxK) := Lib.hid (by rw [hX]; exact Blk.newAt (by simp))
  have HB : Hid (Below w0.heap.size w0 X0) := Lib.hid (by rw [hX]; exact ((Below.refl _ _).alloc (Nat.le_refl _) _).alloc (by simp) _)
  clear hX
  go_wp2_with (refine wpList_load_blk rfl 51 (.tmp 6) rfl w0.heap.size 2 4 HX.out t.p.cs (by rfl) (txn_pf t) Tryz.underlying51 infoPf (by show 6 ≤ 6; omega) ?_)
  refine (HLC _ HB.out).out.mono ?_
  rintro e W1 ⟨PA, n, pc, rfl, hb⟩
  replace HX := Lib.hid (HX.out.bel hb)
  replace HR := Lib.hid (HR.out.bel hb)
  replace HB := Lib.hid (HB.out.trans (hb.mono HB.out.size))
  clear hb HLC
  go_upto_region 2 with fail
  try go_frame
  refine wp_gen fun W2 hW2 => ?_
  have hgX : w0.heap.size + 1 < W1.heap.size := HR.out.lt
  have HBV : Hid (Below W1.heap.size W1 W2) := Lib.hid (by rw [hW2]; exact (Below.refl _ _).alloc (Nat.le_refl _) _)
  have HT : Hid (Blk W2 W1.heap.size 147 (txK none 0 0 none 0 0 t.p.am t.p.sig t.p.tok PA n pc)) := Lib.hid (by rw [hW2]; exact Blk.new _ _ _)
  have HF : Hid (RfS w0 t W1.heap.size none 0 0 [] none 0 0 [] PA n pc W2) := Lib.hid ⟨HX.out.bel HBV.out, HR.out.bel HBV.out, HT.out, own_nil0 _ _ _ _, own_nil0 _ _ _ _, HB.out.trans (HBV.out.mono HB.out.size)⟩
  clear hW2 HBV HT HX HR HB
  generalize W1.heap.size = g at HF hgX ⊢
  go_wp2_with fail
  go_loopw [4] (fun i wr => ∃ (k : Nat) (A : Option Addr) (c : Nat) (xs : List Value), k ≤ t.ins.length ∧ i = .int .i64 k ∧ Hid (RfS w0 t g A k c xs none 0 0 [] PA n pc wr)) (fun i _ => t.ins.length - (intOf i).toNat)
  case atStart => exact ⟨0, none, 0, [], Nat.zero_le _, rfl, HF⟩
  case round =>
    clear HF
    obtain ⟨k, A, c, xs, hk, rfl, HF⟩ := hrel
    have c0 : wr.cell? ⟨w0.heap.size, 0, none⟩ = some (.slice t.A t.ins.length t.c) := Blk.cell HF.out.t1 0
    by_cases hlt : k < t.ins.length
    · obtain ⟨ab, off, hA, hab, hc⟩ := HSI.out.at_ hlt
      rw [hA] at c0
      have HA := Lib.hid hA
      have HC := Lib.hid (fun (W : World) (hW : Below w0.heap.size w0 W) (j : Nat) (u : Value) (hu : (t.ins[k]).cl[j]? = some u) => (hW.cell (p := ⟨ab, off + k * 4 + j, none⟩) hab).trans (hc j u hu))
      clear hA hc
      generalize t.ins[k] = x at HC
      have d1 : decide ((k : Int) < (t.ins.length : Int)) = true := decide_eq_true (by omega)
      have d3 : decide (k < t.ins.length) = true := decide_eq_true hlt
      have hk0 : (0 : Int) ≤ (k : Int) := by omega
      have hkl : (k : Int) < (t.ins.length : Int) := by omega
      go_upto_region 5 with fail
      refine wp_region_z (fun W => Hid (Blk W w0.heap.size 53 t.cs ∧ Blk W g 147 (txK A k c none 0 0 t.p.am t.p.sig t.p.tok PA n pc) ∧ ∀ j u, x.cl[j]? = some u → W.cell? ⟨ab, off + k * 4 + j, none⟩ = some u)) [24] (by kernel_rfl) (Lib.hid ⟨HF.out.t1.drewN 1, HF.out.blk.drewN 1, HC.out _ HF.out.bel.drew⟩) (fun hS => ?_)
      replace HF : Hid (RfS w0 t g A k c xs none 0 0 [] PA n pc wr.drew) := Lib.hid (HF.out.go (Below.refl _ _).drew)
      clear c0
      refine wpAnyZ_gen fun X2 hX => ?_
      rw [← hX] at HF hS
      clear hX
      refine wpAnyZ_take (i := 0) (v := ?_) rfl (by kernel_rfl) (by kernel_rfl) (by kernel_rfl) (by kernel_rfl) (by kernel_rfl) (by decide) (fun _ _ _ h => h) (Or.inl ⟨by rfl, ?_⟩) hS ?_
      rotate_left
      · (intro w _; go_simp; try with_reducible rfl)
      refine wpAnyZ_take (i := 1) (v := ?_) rfl (by kernel_rfl) (by kernel_rfl) (by kernel_rfl) (by kernel_rfl) (by kernel_rfl) (by decide) (fun _ _ _ h => h) (Or.inl ⟨by rfl, ?_⟩) hS ?_
      rotate_left
      · (intro w hS'; have hcell := (show World.cell? _ ⟨g, 0, none⟩ = some (.slice A k c) from Blk.cell hS'.out.2.1 0); go_simp; try with_reducible rfl)
      refine wpAnyZ_take (i := 2) (v := ?_) rfl (by kernel_rfl) (by kernel_rfl) (by kernel_rfl) (by kernel_rfl) (by kernel_rfl) (by decide) (fun _ _ _ h => h) (Or.inl ⟨by rfl, ?_⟩) hS ?_
      rotate_left
      · (intro w _; go_simp; try with_reducible rfl)
      refine wpAnyZ_take (i := 3) (v := ?_) rfl (by kernel_rfl) (by kernel_rfl) (by kernel_rfl) (by kernel_rfl) (by kernel_rfl) (by decide) (fun _ _ _ h => h) (Or.inl ⟨by rfl, ?_⟩) hS ?_
      rotate_left
      · (intro w hS'; have hcell := (show World.cell? _ ⟨w0.heap.size, 0, none⟩ = some (.slice (some ⟨ab, off, none⟩) t.ins.length t.c) from (Blk.cell hS'.out.1 0).trans (by rw [← HA.out]; rfl)); go_simp; try with_reducible rfl)
      refine wpAnyZ_take (i := 4) (v := ?_) rfl (by kernel_rfl) (by kernel_rfl) (by kernel_rfl) (by kernel_rfl) (by kernel_rfl) (by decide) (fun _ _ _ h => h) (Or.inl ⟨by rfl, ?_⟩) hS ?_
      rotate_left
      · (intro w _; go_simp; try with_reducible rfl)
      refine wpAnyZ_take (i := 5) (v := ?_) rfl (by kernel_rfl) (by kernel_rfl) (by kernel_rfl) (by kernel_rfl) (by kernel_rfl) (by decide) (fun _ _ _ h => h) (Or.inl ⟨by rfl, ?_⟩) hS ?_
      rotate_left
      · (intro w _; go_simp; try with_reducible rfl)
      refine wpAnyZ_take (i := 6) (v := ?_) rfl (by kernel_rfl) (by kernel_rfl) (by kernel_rfl) (by kernel_rfl) (by kernel_rfl) (by decide) (fun _ _ _ h => h) (Or.inl ⟨by rfl, ?_⟩) hS ?_
      rotate_left
      · (intro w _; go_simp; try with_reducible rfl)
      refine wpAnyZ_take (i := 7) (v := .agg #[.string x.tx, .int .i64 x.out]) rfl (by kernel_rfl) (by kernel_rfl) (by kernel_rfl) (by kernel_rfl) (by kernel_rfl) (by decide) (fun _ _ _ h => h) ((yields_rowz (by rfl) 57 (.tmp 23) (by rfl) ab (off + k * 4) x.pt.cs.toList (fun W h j v hv => h.out.2.2 j v (inp_pt2 x j v hv)) #[.string x.tx, .int .i64 x.out] (by rfl) (Array.toArray_toList ..) Tryz.underlying57 infoPnt)) hS ?_
      refine wpAnyZ_take (i := 8) (v := ?_) rfl (by kernel_rfl) (by kernel_rfl) (by kernel_rfl) (by kernel_rfl) (by kernel_rfl) (by decide) (fun _ _ _ h => h) (Or.inl ⟨by rfl, ?_⟩) hS ?_
      rotate_left
      · (intro w _; go_simp; try with_reducible rfl)
      refine wpAnyZ_take (i := 9) (v := ?_) rfl (by kernel_rfl) (by kernel_rfl) (by kernel_rfl) (by kernel_rfl) (by kernel_rfl) (by decide) (fun _ _ _ h => h) (Or.inl ⟨by rfl, ?_⟩) hS ?_
      rotate_left
      · (intro w hS'; have hcell := (show World.cell? _ ⟨w0.heap.size, 0, none⟩ = some (.slice (some ⟨ab, off, none⟩) t.ins.length t.c) from (Blk.cell hS'.out.1 0).trans (by rw [← HA.out]; rfl)); go_simp; try with_reducible rfl)
      refine wpAnyZ_take (i := 10) (v := ?_) rfl (by kernel_rfl) (by kernel_rfl) (by kernel_rfl) (by kernel_rfl) (by kernel_rfl) (by decide) (fun _ _ _ h => h) (Or.inl ⟨by rfl, ?_⟩) hS ?_
      rotate_left
      · (intro w _; go_simp; try with_reducible rfl)
      refine wpAnyZ_take (i := 11) (v := ?_) rfl (by kernel_rfl) (by kernel_rfl) (by kernel_rfl) (by kernel_rfl) (by kernel_rfl) (by decide) (fun _ _ _ h => h) (Or.inl ⟨by rfl, ?_⟩) hS ?_
      rotate_left
      · (intro w _; go_simp; try with_reducible rfl)
      refine wpAnyZ_take (i := 12) (v := ?_) rfl (by kernel_rfl) (by kernel_rfl) (by kernel_rfl) (by kernel_rfl) (by kernel_rfl) (by decide) (fun _ _ _ h => h) (Or.inl ⟨by rfl, ?_⟩) hS ?_
      rotate_left
      · (intro w _; go_simp; try with_reducible rfl)
      refine wpAnyZ_take (i := 13) (v := ?_) rfl (by kernel_rfl) (by kernel_rfl) (by kernel_rfl) (by kernel_rfl) (by kernel_rfl) (by decide) (fun _ _ _ h => h) (Or.inl ⟨by rfl, ?_⟩) hS ?_
      rotate_left
      · (intro w hS'; have hcell := (show World.cell? _ ⟨ab, off + k * 4 + 2, none⟩ = some (.int .i64 x.path) from hS'.out.2.2 2 _ rfl); go_simp; try with_reducible rfl)
      refine wpAnyZ_take (i := 14) (v := ?_) rfl (by kernel_rfl) (by kernel_rfl) (by kernel_rfl) (by kernel_rfl) (by kernel_rfl) (by decide) (fun _ _ _ h => h) (Or.inl ⟨by rfl, ?_⟩) hS ?_
      rotate_left
      · (intro w _; go_simp; try with_reducible rfl)
      refine wpAnyZ_take (i := 15) (v := ?_) rfl (by kernel_rfl) (by kernel_rfl) (by kernel_rfl) (by kernel_rfl) (by kernel_rfl) (by decide) (fun _ _ _ h => h) (Or.inl ⟨by rfl, ?_⟩) hS ?_
      rotate_left
      · (intro w hS'; have hcell := (show World.cell? _ ⟨w0.heap.size, 0, none⟩ = some (.slice (some ⟨ab, off, none⟩) t.ins.length t.c) from (Blk.cell hS'.out.1 0).trans (by rw [← HA.out]; rfl)); go_simp; try with_reducible rfl)
      refine wpAnyZ_take (i := 16) (v := ?_) rfl (by kernel_rfl) (by kernel_rfl) (by kernel_rfl) (by kernel_rfl) (by kernel_rfl) (by decide) (fun _ _ _ h => h) (Or.inl ⟨by rfl, ?_⟩) hS ?_
      rotate_left
      · (intro w _; go_simp; try with_reducible rfl)
      refine wpAnyZ_take (i := 17) (v := ?_) rfl (by kernel_rfl) (by kernel_rfl) (by kernel_rfl) (by kernel_rfl) (by kernel_rfl) (by decide) (fun _ _ _ h => h) (Or.inl ⟨by rfl, ?_⟩) hS ?_
      rotate_left
      · (intro w _; go_simp; try with_reducible rfl)
      refine wpAnyZ_take (i := 18) (v := ?_) rfl (by kernel_rfl) (by kernel_rfl) (by kernel_rfl) (by kernel_rfl) (by kernel_rfl) (by decide) (fun _ _ _ h => h) (Or.inl ⟨by rfl, ?_⟩) hS ?_
      rotate_left
      · (intro w _; go_simp; try with_reducible rfl)
      refine wpAnyZ_take (i := 19) (v := ?_) rfl (by kernel_rfl) (by kernel_rfl) (by kernel_rfl) (by kernel_rfl) (by kernel_rfl) (by decide) (fun _ _ _ h => h) (Or.inl ⟨by rfl, ?_⟩) hS ?_
      rotate_left
      · (intro w hS'; have hcell := (show World.cell? _ ⟨ab, off + k * 4 + 3, none⟩ = some (.string x.sig) from hS'.out.2.2 3 _ rfl); go_simp; try with_reducible rfl)
      refine wpAnyZ_take (i := 20) (v := ?_) rfl (by kernel_rfl) (by kernel_rfl) (by kernel_rfl) (by kernel_rfl) (by kernel_rfl) (by decide) (fun _ _ _ h => h) (Or.inl ⟨by rfl, ?_⟩) hS ?_
      rotate_left
      · (intro w _; go_simp; try with_reducible rfl)
      refine wpAnyZ_ready (rs := [21]) (by kernel_rfl) (by simp) (AllReadyZ.cons rfl (fun K hK => ?_) AllReadyZ.nil)
      go_simp
      have HBA : Hid (Below X2.heap.size X2 (X2.alloc (.cells x.cs 232))) := Lib.hid ((Below.refl _ _).alloc (Nat.le_refl _) _)
      have HNB : Hid (Blk (X2.alloc (.cells x.cs 232)) X2.heap.size 232 x.cs) := Blk.new _ _ _
      refine hK.out _ _ (fun _ => Lib.hid ⟨hS.out.1.alloc _, hS.out.2.1.alloc _, HC.out _ (HF.out.go HBA.out).bel⟩) ?_
      clear hK K hS
      refine wpAnyZ_gen fun X1 hX1 => ?_
      replace hX1 : X1 = X2.alloc (.cells x.cs 232) := hX1
      rw [← hX1] at HBA HNB
      clear hX1
      have HNW := Lib.hid (World.news_of_block HNB.out)
      replace HF := Lib.hid (HF.out.go HBA.out)
      have hz1 := HF.out.bel.size
      refine wpAnyZ_ready (rs := [22]) (by kernel_rfl) (by simp) (AllReadyZ.cons rfl (fun K hK => ?_) AllReadyZ.nil)
      refine step_append_lies _ (by rfl) (.tmp 18) (.tmp 38) 142 (by rfl) w0.heap.size 232 n0 _ 4 48 Tryz.underlying142 hni HNZ.out hn1 hn2 rfl (by omega) (.slice A k c) k xs (by rfl) HF.out.r1 ⟨X2.heap.size, 0, none⟩ 1 1 x.cl (by rfl) (by rfl) HNW.out (incl1 x) (by omega) (by simp only [maxLen]; omega) (by omega) hz1 _ rfl ?_
      intro gg cap W4 hown4 hgrow hat hlt4
      have HF5 := Lib.hid (HF.out.addIn hgrow hown4 hgX)
      have HX4 := Lib.hid (HF.out.t1.grown hgrow (blk_far HF.out.t1 HF.out.r1 (by decide)))
      have HT4 := Lib.hid (HF.out.blk.grown hgrow (blk_far HF.out.blk HF.out.r1 (by decide)))
      have HB4 : Hid (Below w0.heap.size w0 W4) := Lib.hid (HF.out.bel.grown hgrow HF.out.bel.size (fun j hj => own_base HF.out.r1 j hj))
      have hS4 := Lib.hid (And.intro HX4.out (And.intro HT4.out (HC.out _ HB4.out)))
      clear hown4 hgrow hat hlt4 HNB HNW HF HBA
      refine hK.out _ _ (fun _ => hS4) ?_
      clear hK K
      refine wpAnyZ_take (i := 23) (v := ?_) rfl (by kernel_rfl) (by kernel_rfl) (by kernel_rfl) (by kernel_rfl) (by kernel_rfl) (by decide) (fun _ _ _ h => h) (Or.inl ⟨by rfl, ?_⟩) hS4 ?_
      rotate_left
      · (intro w _; go_simp; try with_reducible rfl)
      refine wpAnyZ_ready (rs := [24]) (by kernel_rfl) (by simp) (AllReadyZ.cons rfl (fun K hK => ?_) AllReadyZ.nil)
      have u3 : W4.cell? ⟨g, 0, none⟩ = some (.slice A k c) := HT4.out.cell 0
      have z3 : W4.frozen? ⟨g, 0, none⟩ = false := HT4.out.frozen 0
      go_simp
      refine hK.out _ _ (fun h => absurd (by decide) h) ?_
      clear hK K
      refine wpAnyZ_done (by kernel_rfl) ?_ _
      clear u3 z3 hS4 HX4 HT4 HB4
      generalize (W4.setCell ⟨g, 0, none⟩ (.slice (some ⟨gg, 0, none⟩) (k + 1) cap)) = W5 at HF5 ⊢
      go_wp2_with fail
      go_roundw
      case rel => exact ⟨k + 1, _, _, _, by omega, by go_num, HF5⟩
      case measure => simp [intOf]; omega
    · have d3 : decide (k < t.ins.length) = false := decide_eq_false hlt
      obtain ⟨kk, hkk⟩ : ∃ kk, kk = k := ⟨_, rfl⟩
      rw [← hkk] at HF
      clear hkk
      go_wp2_with fail
      clear c0 d3 hlt hk
      go_loopw [5] (fun i wr => ∃ (m : Nat) (B : Option Addr) (d : Nat) (ys : List Value), m ≤ t.outs.length ∧ i = .int .i64 m ∧ Hid (RfS w0 t g A kk c xs B m d ys PA n pc wr)) (fun i _ => t.outs.length - (intOf i).toNat)
      case atStart => exact ⟨0, none, 0, [], Nat.zero_le _, rfl, HF⟩
      case round =>
        clear HF
        obtain ⟨m, B, d, ys, hm, rfl, HF⟩ := hrel
        have c1 : wr.cell? ⟨w0.heap.size, 1, none⟩ = some (.slice t.B t.outs.length t.d) := Blk.cell HF.out.t1 1
        by_cases hlt : m < t.outs.length
        · obtain ⟨ab, off, hA, hab, hc⟩ := HSO.out.at_ hlt
          rw [hA] at c1
          have HA := Lib.hid hA
          have HC := Lib.hid (fun (W : World) (hW : Below w0.heap.size w0 W) (j : Nat) (u : Value) (hu : (t.outs[m]).cl[j]? = some u) => (hW.cell (p := ⟨ab, off + m * 9 + j, none⟩) hab).trans (hc j u hu))
          clear hA hc
          generalize t.outs[m] = x at HC
          have d1 : decide ((m : Int) < (t.outs.length : Int)) = true := decide_eq_true (by omega)
          have d3 : decide (m < t.outs.length) = true := decide_eq_true hlt
          have hk0 : (0 : Int) ≤ (m : Int) := by omega
          have hkl : (m : Int) < (t.outs.length : Int) := by omega
          go_upto_region 9 with fail
          refine wp_region_z (fun W => Hid (Blk W w0.heap.size 53 t.cs ∧ Blk W g 147 (txK A kk c B m d t.p.am t.p.sig t.p.tok PA n pc) ∧ ∀ j u, x.cl[j]? = some u → W.cell? ⟨ab, off + m * 9 + j, none⟩ = some u)) [11] (by kernel_rfl) (Lib.hid ⟨HF.out.t1.drewN 1, HF.out.blk.drewN 1, HC.out _ HF.out.bel.drew⟩) (fun hS => ?_)
          replace HF : Hid (RfS w0 t g A kk c xs B m d ys PA n pc wr.drew) := Lib.hid (HF.out.go (Below.refl _ _).drew)
          clear c1
          refine wpAnyZ_gen fun X2 hX => ?_
          rw [← hX] at HF hS
          clear hX
          refine wpAnyZ_take (i := 0) (v := ?_) rfl (by kernel_rfl) (by kernel_rfl) (by kernel_rfl) (by kernel_rfl) (by kernel_rfl) (by decide) (fun _ _ _ h => h) (Or.inl ⟨by rfl, ?_⟩) hS ?_
          rotate_left
          · (intro w _; go_simp; try with_reducible rfl)
          refine wpAnyZ_take (i := 1) (v := ?_) rfl (by kernel_rfl) (by kernel_rfl) (by kernel_rfl) (by kernel_rfl) (by kernel_rfl) (by decide) (fun _ _ _ h => h) (Or.inl ⟨by rfl, ?_⟩) hS ?_
          rotate_left
          · (intro w hS'; have hcell := (show World.cell? _ ⟨g, 1, none⟩ = some (.slice B m d) from Blk.cell hS'.out.2.1 1); go_simp; try with_reducible rfl)
          refine wpAnyZ_take (i := 2) (v := ?_) rfl (by kernel_rfl) (by kernel_rfl) (by kernel_rfl) (by kernel_rfl) (by kernel_rfl) (by decide) (fun _ _ _ h => h) (Or.inl ⟨by rfl, ?_⟩) hS ?_
          rotate_left
          · (intro w _; go_simp; try with_reducible rfl)
          refine wpAnyZ_take (i := 3) (v := ?_) rfl (by kernel_rfl) (by kernel_rfl) (by kernel_rfl) (by kernel_rfl) (by kernel_rfl) (by decide) (fun _ _ _ h => h) (Or.inl ⟨by rfl, ?_⟩) hS ?_
          rotate_left
          · (intro w hS'; have hcell := (show World.cell? _ ⟨w0.heap.size, 1, none⟩ = some (.slice (some ⟨ab, off, none⟩) t.outs.length t.d) from (Blk.cell hS'.out.1 1).trans (by rw [← HA.out]; rfl)); go_simp; try with_reducible rfl)
          refine wpAnyZ_take (i := 4) (v := ?_) rfl (by kernel_rfl) (by kernel_rfl) (by kernel_rfl) (by kernel_rfl) (by kernel_rfl) (by decide) (fun _ _ _ h => h) (Or.inl ⟨by rfl, ?_⟩) hS ?_
          rotate_left
          · (intro w _; go_simp; try with_reducible rfl)
          refine wpAnyZ_take (i := 5) (v := ?_) rfl (by kernel_rfl) (by kernel_rfl) (by kernel_rfl) (by kernel_rfl) (by kernel_rfl) (by decide) (fun _ _ _ h => h) (Or.inl ⟨by rfl, ?_⟩) hS ?_
          rotate_left
          · (intro w _; go_simp; try with_reducible rfl)
          refine wpAnyZ_take (i := 6) (v := .agg x.cs) rfl (by kernel_rfl) (by kernel_rfl) (by kernel_rfl) (by kernel_rfl) (by kernel_rfl) (by decide) (fun _ _ _ h => h) ((yields_rowz (by rfl) 81 (.tmp 53) (by rfl) ab (off + m * 9) x.cl (fun W h => h.out.2.2) x.cs (by rfl) (Array.toArray_toList ..) Tryz.underlying81 infoOuC)) hS ?_
          refine wpAnyZ_ready (rs := [7]) (by kernel_rfl) (by simp) (AllReadyZ.cons rfl (fun K hK => ?_) AllReadyZ.nil)
          go_simp
          refine (refout_x x _).mono ?_
          rintro e W ⟨rfl, hb⟩
          have hSW := Lib.hid (And.intro (hS.out.1.bel hb) (And.intro (hS.out.2.1.bel hb) (HC.out _ (HF.out.go hb).bel)))
          replace HF := Lib.hid (HF.out.go hb)
          clear hb
          go_simp
          refine hK.out _ _ (fun _ => hSW) ?_
          clear hK K
          clear hS
          refine wpAnyZ_ready (rs := [8]) (by kernel_rfl) (by simp) (AllReadyZ.cons rfl (fun K hK => ?_) AllReadyZ.nil)
          go_simp
          have HBA : Hid (Below W.heap.size W (W.alloc (.cells x.cs 131))) := Lib.hid ((Below.refl _ _).alloc (Nat.le_refl _) _)
          have HNB : Hid (Blk (W.alloc (.cells x.cs 131)) W.heap.size 131 x.cs) := Blk.new _ _ _
          refine hK.out _ _ (fun _ => Lib.hid ⟨hSW.out.1.alloc _, hSW.out.2.1.alloc _, HC.out _ (HF.out.go HBA.out).bel⟩) ?_
          clear hK K hSW
          refine wpAnyZ_gen fun X1 hX1 => ?_
          replace hX1 : X1 = W.alloc (.cells x.cs 131) := hX1
          rw [← hX1] at HBA HNB
          clear hX1
          have HNW := Lib.hid (World.news_of_block HNB.out)
          replace HF := Lib.hid (HF.out.go HBA.out)
          have hz1 := HF.out.bel.size
          refine wpAnyZ_ready (rs := [9]) (by kernel_rfl) (by simp) (AllReadyZ.cons rfl (fun K hK => ?_) AllReadyZ.nil)
          refine step_append_lies _ (by rfl) (.tmp 49) (.tmp 56) 24 (by rfl) w0.heap.size 131 o0 _ 9 104 Tryz.underlying24 hoi HOZ.out ho1 ho2 rfl (by omega) (.slice B m d) m ys (by rfl) HF.out.r2 ⟨W.heap.size, 0, none⟩ 1 1 x.cl (by rfl) (by rfl) HNW.out (oucl1 x) (by omega) (by simp only [maxLen]; omega) (by omega) hz1 _ rfl ?_
          intro gg cap W4 hown4 hgrow hat hlt4
          have HF5 := Lib.hid (HF.out.addOut hgrow hown4 hgX)
          have HX4 := Lib.hid (HF.out.t1.grown hgrow (blk_far HF.out.t1 HF.out.r2 (by decide)))
          have HT4 := Lib.hid (HF.out.blk.grown hgrow (blk_far HF.out.blk HF.out.r2 (by decide)))
          have HB4 : Hid (Below w0.heap.size w0 W4) := Lib.hid (HF.out.bel.grown hgrow HF.out.bel.size (fun j hj => own_base HF.out.r2 j hj))
          have hS4 := Lib.hid (And.intro HX4.out (And.intro HT4.out (HC.out _ HB4.out)))
          clear hown4 hgrow hat hlt4 HNB HNW HF HBA
          refine hK.out _ _ (fun _ => hS4) ?_
          clear hK K
          refine wpAnyZ_take (i := 10) (v := ?_) rfl (by kernel_rfl) (by kernel_rfl) (by kernel_rfl) (by kernel_rfl) (by kernel_rfl) (by decide) (fun _ _ _ h => h) (Or.inl ⟨by rfl, ?_⟩) hS4 ?_
          rotate_left
          · (intro w _; go_simp; try with_reducible rfl)
          refine wpAnyZ_ready (rs := [11]) (by kernel_rfl) (by simp) (AllReadyZ.cons rfl (fun K hK => ?_) AllReadyZ.nil)
          have u3 : W4.cell? ⟨g, 1, none⟩ = some (.slice B m d) := HT4.out.cell 1
          have z3 : W4.frozen? ⟨g, 1, none⟩ = false := HT4.out.frozen 1
          go_simp
          refine hK.out _ _ (fun h => absurd (by decide) h) ?_
          clear hK K
          refine wpAnyZ_done (by kernel_rfl) ?_ _
          clear u3 z3 hS4 HX4 HT4 HB4
          generalize (W4.setCell ⟨g, 1, none⟩ (.slice (some ⟨gg, 0, none⟩) (m + 1) cap)) = W5 at HF5 ⊢
          go_wp2_with fail
          go_roundw
          case rel => exact ⟨m + 1, _, _, _, by omega, by go_num, HF5⟩
          case measure => simp [intOf]; omega
        · have d3 : decide (m < t.outs.length) = false := decide_eq_false hlt
          go_wp2_with (first
            | (refine wpList_load_blk rfl 147 (.tmp 3) rfl g 0 6 HF.out.blk (txK A kk c B m d t.p.am t.p.sig t.p.tok PA n pc) (by rfl) (by rfl) Tryz.underlying147 infoTxR6 (Nat.le_refl 6) ?_)
            | (refine wpList_store_part rfl 147 (.tmp 2) (.tmp 59) rfl (w0.heap.size + 1) 0 HF.out.res (txK A kk c B m d t.p.am t.p.sig t.p.tok PA n pc) (txK A kk c B m d t.p.am t.p.sig t.p.tok PA n pc) (by rfl) (by rfl) (Nat.le_refl 6) infoTxR6 (txK_one ..) (txK_over _ _ _ _ _ _ _ _ _ _ _ _ rfl) ?_; intro W6 hb6 hc6; have HR6 := Lib.hid hb6; have HC6 := Lib.hid hc6; clear hb6 hc6))
          exact bodyPost_ret (results_cell_row rfl _ _ (w0.heap.size + 1) 147 _ (0, 0) _ rfl HR6.out Tryz.underlying147 rfl infoTxR6) rfl ⟨A, kk, c, B, m, d, PA, n, pc, rfl, HF.out.bel.trans (HC6.out.below HF.out.bel.size (by simp))⟩
end Go.Proofs.YtjcinncphffgaaaGreat
namespace Go.Proofs.YtjcinncphffgaaaGreat
open Go.RowKit Go.Maps
/-- transactions that are cut, in a list of the call's own -/
structure TsS (w0 : World) (A : Option Addr) (c : Nat) (D : List Txn) (w : World) : Prop where
  row : w.ownsRow w0.heap.size 53 6 (.slice A D.length c) D.length (D.flatMap Txn.cl)
  txs : ∀ u ∈ D, TxRows w0.heap.size w u
  ok : ∀ u ∈ D, TxOk u
  bel : Below w0.heap.size w0 w
section
variable {w0 w w' : World} {A : Option Addr} {c : Nat} {D : List Txn}
theorem TsS.go (h : TsS w0 A c D w) (hb : Below w.heap.size w w') : TsS w0 A c D w' := ⟨own_belT h.row hb, fun u hu => (h.txs u hu).bel hb, h.ok, h.bel.trans (hb.mono h.bel.size)⟩
theorem TsS.add {A' : Option Addr} {c' : Nat} {u : Txn} (h : TsS w0 A c D w) (hg : w.grownBy w' (Value.slice A D.length c).ownBlock) (hr : w'.ownsRow w0.heap.size 53 6 (.slice A' (D.length + 1) c') (D.length + 1) (D.flatMap Txn.cl ++ u.cl)) (hu : TxRows w0.heap.size w u) (hk : TxOk u) : TsS w0 A' c' (D ++ [u]) w' := by
  refine ⟨by rw [List.length_append, List.length_singleton, List.flatMap_append, List.flatMap_singleton]; exact hr, fun v hv => ?_, fun v hv => ?_, h.bel.grown hg h.bel.size (fun j hj => own_base h.row j hj)⟩
  · rcases List.mem_append.1 hv with hv | hv
    · exact (h.txs v hv).grown h.row hg (by decide) (by decide) (by decide)
    · rw [List.mem_singleton.1 hv]; exact hu.grown h.row hg (by decide) (by decide) (by decide)
  · rcases List.mem_append.1 hv with hv | hv
    · exact h.ok v hv
    · rw [List.mem_singleton.1 hv]; exact hk
theorem TsS.other {e : TypeId} {size n : Nat} {v : Value} {xs : List Value} (h : TsS w0 A c D w) (hr : w.ownsRow w0.heap.size e size v n xs) (hg : w.grownBy w' v.ownBlock) (h1 : 59 ≠ e) (h2 : 81 ≠ e) (h3 : 122 ≠ e) (h4 : 53 ≠ e) : TsS w0 A c D w' :=
  ⟨own_keptT h.row hr h4 hg, fun u hu => (h.txs u hu).grown hr hg h1 h2 h3, h.ok, h.bel.grown hg h.bel.size (fun j hj => own_base hr j hj)⟩
theorem TsS.mem (h : TsS w0 A c D w) : Sl w w.heap.size 6 Txn.cl A D ∧ ∀ t ∈ D, t.mem w ∧ t.nz := ⟨Sl.of_own (fun _ => rfl) h.row, fun t ht => ⟨(h.txs t ht).mem, (h.txs t ht).nz⟩⟩
end
set_option maxRecDepth 100000 in
set_option maxHeartbeats 4000000 in
theorem txs12_any (A0 : Option Addr) (l : List Txn) (c0 : Nat) (w0 : World) (hsl : Sl w0 w0.heap.size 6 Txn.cl A0 l) (hcm : ∀ t ∈ l, TxCame w0 t) (hl : l.length ≤ maxLen) :
    Calls Tryz.prog 11 #[.slice A0 l.length c0] w0 fun e w' => ∃ (A : Option Addr) (D : List Txn) (c : Nat) (B : Option Addr) (m d : Nat), e = .returned (.tuple #[.slice A D.length c, .slice B m d]) ∧ D.length ≤ 6 ∧ TsS w0 A c D w' := by
  unfold maxLen at hl
  have HSL := Lib.hid hsl
  have HCM := Lib.hid hcm
  clear hsl hcm
  obtain ⟨o0, hoi, ho0, ho1, ho2⟩ := info_parts Tryz.infoTxC
  have HOZ := Lib.hid ho0
  obtain ⟨r0, hri, hr0, hr1, hr2⟩ := info_parts Tryz.infoTxR
  have HRZ := Lib.hid hr0
  clear ho0 hr0
  have HO0 : Hid (TsS w0 (some ⟨w0.heap.size, 0, none⟩) 0 [] ((w0.alloc (.cells #[] 53)).alloc (.cells #[] 147))) := Lib.hid ⟨own_empty (show Blk _ _ _ _ from (Blk.new _ _ _).alloc _) (Nat.le_refl _), (fun u hu => by cases hu), (fun u hu => by cases hu), ((Below.refl _ _).alloc (Nat.le_refl _) _).alloc (by simp) _⟩
  have HR0 : Hid (((w0.alloc (.cells #[] 53)).alloc (.cells #[] 147)).ownsRow w0.heap.size 147 6 (.slice (some ⟨w0.heap.size + 1, 0, none⟩) 0 0) 0 []) := Lib.hid (own_empty (show Blk _ _ _ _ from Blk.newAt (by simp)) (by omega))
  go_enter Tryz.func11, Tryz.ntmps11
  go_wp2_with fail
  generalize (w0.alloc (.cells #[] 53)).alloc (.cells #[] 147) = W0 at HO0 HR0 ⊢
  go_loopw [4, 5, 6] (fun v4 v5 i wr => ∃ (k : Nat) (A : Option Addr) (c : Nat) (D : List Txn) (B : Option Addr) (d : Nat) (ys : List Value), k ≤ l.length ∧ k ≤ 6 ∧ D.length = k ∧ i = .int .i64 k ∧ v4 = .slice A k c ∧ v5 = .slice B k d ∧ Hid (TsS w0 A c D wr) ∧ Hid (wr.ownsRow w0.heap.size 147 6 (.slice B k d) k ys)) (fun _ _ i _ => 6 - (intOf i).toNat)
  case atStart => exact ⟨0, _, _, [], _, _, _, Nat.zero_le _, Nat.zero_le _, rfl, rfl, rfl, rfl, HO0, HR0⟩
  case round =>
    clear HO0 HR0
    obtain ⟨k, A, c, D, B, d, ys, hk, hk6, hD, rfl, rfl, rfl, HF, HR⟩ := hrel
    by_cases hlt : k < l.length ∧ k < 6
    · obtain ⟨hlt, h6⟩ := hlt
      obtain ⟨ab, off, hA, hab, hc⟩ := HSL.out.at_ hlt
      have HC := Lib.hid (fun (W : World) (hW : Below w0.heap.size w0 W) (j : Nat) (u : Value) (hu : (l[k]).cl[j]? = some u) => (hW.cell (p := ⟨ab, off + k * 6 + j, none⟩) hab).trans (hc j u hu))
      have HTC := fun W (hW : Below w0.heap.size w0 W) => Lib.hid (tcut_x l[k] W (HCM.out _ (List.getElem_mem hlt)) hW)
      subst hA
      clear hc
      generalize l[k] = x at HC HTC
      have HCx := Lib.hid (HC.out _ HF.out.bel)
      have d1 : decide ((k : Int) < (l.length : Int)) = true := decide_eq_true (by omega)
      have d2 : decide ((k : Int) < 6) = true := decide_eq_true (by omega)
      have d3 : decide (k < l.length) = true := decide_eq_true hlt
      subst hD
      go_wp2_with (refine wpList_load_tx rfl (.tmp 22) rfl ab (off + D.length * 6) (by rfl) x HCx.out ?_)
      refine (HTC wr HF.out.bel).out.mono ?_
      rintro e W1 ⟨u, rfl, hrows, huk, hb⟩
      have HBA : Hid (Below wr.heap.size wr (W1.alloc (.cells u.cs 53))) := Lib.hid (hb.alloc hb.size _)
      have HBW : Hid (Below W1.heap.size W1 (W1.alloc (.cells u.cs 53))) := Lib.hid ((Below.refl _ _).alloc (Nat.le_refl _) _)
      have HNB : Hid (Blk (W1.alloc (.cells u.cs 53)) W1.heap.size 53 u.cs) := Blk.new _ _ _
      have HRW := Lib.hid ((hrows.mono HF.out.bel.size).bel HBW.out)
      have HUK := Lib.hid huk
      have HR1 := Lib.hid (own_belT HR.out HBA.out)
      replace HF := Lib.hid (HF.out.go HBA.out)
      have HNW := Lib.hid (World.news_of_block HNB.out)
      clear hb hrows huk HR HCx HBA HBW HC HNB HTC
      go_upto_region 6 with (at_builtin; refine wpList_append_lies _ rfl (.tmp 19) (.tmp 25) _ rfl w0.heap.size 53 o0 _ 6 112 Tryz.underlying32 hoi HOZ.out ho1 ho2 rfl (by omega) (.slice A D.length c) D.length (D.flatMap Txn.cl) rfl HF.out.row ⟨W1.heap.size, 0, none⟩ 1 1 u.cl rfl rfl HNW.out (txcl_one u) (by omega) (by simp only [maxLen]; omega) (by omega) HF.out.bel.size _ rfl ?_; intro gg cap W5 hown hgrow hat hlt5; have HF5 := Lib.hid (HF.out.add hgrow hown HRW.out HUK.out); have HR5 := Lib.hid (own_keptT HR1.out HF.out.row (by decide) hgrow); clear hown hgrow hat hlt5 HF HR1 HRW HNW)
      have hln : (D ++ [u]).length = D.length + 1 := by simp
      obtain ⟨g', cur, hg', _, hcur, hce, hcz⟩ := own_atA (enc := Txn.cl) (k := 6) (c := cap) (A := some ⟨gg, 0, none⟩) (l := D ++ [u]) (fun _ => rfl) HF5.out.row D.length (by omega)
      injection hg' with hg'
      injection hg' with hg'
      subst hg'
      have hgu : (D ++ [u])[D.length]'(by omega) = u := by simp
      rw [hgu] at hce
      have HCE : Hid (cur.extract (D.length * 6) (D.length * 6 + 6) = u.cs) := Lib.hid (hce.trans (Array.toArray_toList ..))
      have HCU := Lib.hid hcur
      have hum := (HF5.out.txs u (by simp)).mem
      have HRF := Lib.hid (tref_any u W5 hum HUK.out.ins HUK.out.outs HUK.out.pf.len)
      clear hce hcur hum hgu
      have d4 : decide (D.length < D.length + 1) = true := by simp
      go_wp2_with (refine wpList_load_blk rfl 53 (.tmp 30) (by rfl) gg (D.length * 6) 6 HCU.out u.cs (by go_simp) HCE.out Tryz.underlying53 infoTx hcz ?_)
      refine HRF.out.mono ?_
      rintro e W6 ⟨xA, xk, xc, xB, xm, xd, xP, xn, xp, rfl, hb⟩
      have HBA : Hid (Below W5.heap.size W5 (W6.alloc (.cells (txK xA xk xc xB xm xd u.p.am u.p.sig u.p.tok xP xn xp) 147))) := Lib.hid (hb.alloc hb.size _)
      have HNB : Hid (Blk (W6.alloc (.cells (txK xA xk xc xB xm xd u.p.am u.p.sig u.p.tok xP xn xp) 147)) W6.heap.size 147 (txK xA xk xc xB xm xd u.p.am u.p.sig u.p.tok xP xn xp)) := Blk.new _ _ _
      have HF7 := Lib.hid (HF5.out.go HBA.out)
      have HR7 := Lib.hid (own_belT HR5.out HBA.out)
      have HNW := Lib.hid (World.news_of_block HNB.out)
      have HON := Lib.hid (fun v (hv : v ∈ (txK xA xk xc xB xm xd u.p.am u.p.sig u.p.tok xP xn xp).toList) => Array.all_eq_true'.1 (txK_one xA xk xc xB xm xd u.p.am u.p.sig u.p.tok xP xn xp) v (by simpa using hv))
      clear hb HF5 HR5 HBA HNB HCE HCU hcz HRF
      go_wp2_with (at_builtin; refine wpList_append_lies _ rfl (.tmp 27) (.tmp 33) _ rfl w0.heap.size 147 r0 _ 6 112 Tryz.underlying33 hri HRZ.out hr1 hr2 rfl (by omega) (.slice B D.length d) D.length ys rfl HR7.out ⟨W6.heap.size, 0, none⟩ 1 1 (txK xA xk xc xB xm xd u.p.am u.p.sig u.p.tok xP xn xp).toList rfl rfl HNW.out HON.out (by omega) (by simp only [maxLen]; omega) (by omega) HF7.out.bel.size _ rfl ?_; intro g8 cap8 W8 hown hgrow hat hlt5; have HR8 := Lib.hid hown; have HF8 := Lib.hid (HF7.out.other HR7.out hgrow (by decide) (by decide) (by decide) (by decide)); clear hown hgrow hat hlt5 HF7 HR7 HNW HON)
      go_roundw
      case rel => exact ⟨D.length + 1, _, _, D ++ [u], _, _, _, by omega, by omega, hln, by go_num, rfl, rfl, HF8, HR8⟩
      case measure => simp [intOf]; omega
    · have d1 : k < l.length → decide ((k : Int) < 6) = false := fun h => decide_eq_false (by omega)
      subst hD
      by_cases hkl : D.length < l.length
      · have d2 := d1 hkl
        have d3 : decide (D.length < l.length) = true := decide_eq_true hkl
        clear d1 hlt
        go_wp2_with fail
        go_ret2
        exact ⟨A, D, c, B, D.length, d, rfl, hk6, HF.out⟩
      · have d3 : decide (D.length < l.length) = false := decide_eq_false hkl
        clear d1 hlt
        go_wp2_with fail
        go_ret2
        exact ⟨A, D, c, B, D.length, d, rfl, hk6, HF.out⟩
end Go.Proofs.YtjcinncphffgaaaGreat
