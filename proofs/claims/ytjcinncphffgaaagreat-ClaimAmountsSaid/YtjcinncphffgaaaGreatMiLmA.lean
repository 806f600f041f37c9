/- law18: its cut; the state of a channel behind any of its calls; what a claim, and what brings back, pay. -/
import Derived.Outline
import Derived.Deep.DeepCutAuto
import Derived.Deep.CutBlock
import Derived.Deep.RegionHeld3
import Derived.Test.YtjcinncphffgaaaGreatMiClB
import Derived.Test.YtjcinncphffgaaaGreatMiClH
import Derived.Test.YtjcinncphffgaaaGreatMiClM
import Derived.Test.YtjcinncphffgaaaGreatMiFixN
import Derived.Test.YtjcinncphffgaaaGreatMiG31
import Derived.Test.YtjcinncphffgaaaGreatMiN1
import Derived.Test.YtjcinncphffgaaaGreatMiPlE
set_option linter.unusedVariables false
set_option linter.unusedSimpArgs false
namespace Go.Proofs.YtjcinncphffgaaaGreat
section
open Go.RowKit Go.Maps
set_option maxRecDepth 100000 in
set_option maxHeartbeats 1000000 in
theorem cut18_any (e0 : En) (w0 : World) : Calls Tryz.prog 48 #[.agg e0.cs] w0 fun e w' => e = .returned (.agg (cutE e0).cs) ∧ Below w0.heap.size w0 w' := by
 have HX : Hid (Blk ((w0.alloc (.cells e0.cs 89)).alloc (.cells zEn.cs 89)) w0.heap.size 89 e0.cs) := Lib.hid ((Blk.new _ _ _).alloc _)
 have HR : Hid (Blk ((w0.alloc (.cells e0.cs 89)).alloc (.cells zEn.cs 89)) (w0.heap.size + 1) 89 zEn.cs) := Blk.newAt (by simp)
 have HB : Hid (Below w0.heap.size w0 ((w0.alloc (.cells e0.cs 89)).alloc (.cells zEn.cs 89))) := ((Below.refl _ _).alloc (Nat.le_refl _) _).alloc (by simp) _
 have l8 := (cutN_le e0.tx 40).1
 go_enter Tryz.func48, Tryz.ntmps48
 go_upto_region 1 with fail
 refine wp_gen fun X0 hX => ?_
 replace HX : Hid (Blk X0 w0.heap.size 89 e0.cs) := Lib.hid (by rw [hX]; exact HX.out)
 replace HR : Hid (Blk X0 (w0.heap.size + 1) 89 zEn.cs) := Lib.hid (by rw [hX]; exact HR.out)
 replace HB : Hid (Below w0.heap.size w0 X0) := Lib.hid (by rw [hX]; exact HB.out)
 clear hX
 refine wp_region_held_drew (S := fun W => Hid (Blk W w0.heap.size 89 e0.cs)) (by kernel_rfl) (Lib.hid (HX.out.drewN 1)) (fun hS => ?_)
 replace HX : Hid (Blk X0.drew w0.heap.size 89 e0.cs) := Lib.hid (HX.out.drewN 1)
 replace HR : Hid (Blk X0.drew (w0.heap.size + 1) 89 zEn.cs) := Lib.hid (HR.out.drewN 1)
 replace HB : Hid (Below w0.heap.size w0 X0.drew) := HB.out.drew
 refine wpAnyH_genT fun X hX => ?_
 rw [← hX] at HX HR HB hS
 clear hX
 refine wpAnyH_take (i := 13) (v := ?_) rfl (by kernel_rfl) (by kernel_rfl) (by kernel_rfl) (fun _ _ _ h => h) (Or.inl ⟨by rfl, ?_⟩) hS ?_
 rotate_left
 ·(intro w _; go_simp; try with_reducible rfl)
 refine wpAnyH_take (i := 14) (v := .agg e0.o.cs) rfl (by kernel_rfl) (by kernel_rfl) (by kernel_rfl) (fun _ _ _ h => h) (yields_blk (by rfl) 81 (.tmp 16) (by rfl) w0.heap.size 2 9 (t := 89) (cs := e0.cs) (fun W h => h.out) e0.o.cs (by rfl) (en_ou e0) Tryz.underlying81 infoOuC (by show 11 ≤ 11; omega)) hS ?_
 refine wpAnyH_take (i := 0) (v := ?_) rfl (by kernel_rfl) (by kernel_rfl) (by kernel_rfl) (fun _ _ _ h => h) (Or.inl ⟨by rfl, ?_⟩) hS ?_
 rotate_left
 ·(intro w _; go_simp; try with_reducible rfl)
 refine wpAnyH_take (i := 1) (v := ?_) rfl (by kernel_rfl) (by kernel_rfl) (by kernel_rfl) (fun _ _ _ h => h) (Or.inl ⟨by rfl, ?_⟩) hS ?_
 rotate_left
 ·(intro w _; go_simp; try with_reducible rfl)
 refine wpAnyH_take (i := 2) (v := ?_) rfl (by kernel_rfl) (by kernel_rfl) (by kernel_rfl) (fun _ _ _ h => h) (Or.inl ⟨by rfl, ?_⟩) hS ?_
 rotate_left
 ·(intro w hS'; have hcell := (show World.cell? _ ⟨w0.heap.size, 0, none⟩ = some (.string e0.tx) from Blk.cell hS'.out 0); go_simp; try with_reducible rfl)
 refine wpAnyH_take (i := 3) (v := ?_) rfl (by kernel_rfl) (by kernel_rfl) (by kernel_rfl) (fun _ _ _ h => h) (Or.inl ⟨by rfl, ?_⟩) hS ?_
 rotate_left
 ·(intro w _; go_simp; try with_reducible rfl)
 refine wpAnyH_take (i := 4) (v := ?_) rfl (by kernel_rfl) (by kernel_rfl) (by kernel_rfl) (fun _ _ _ h => h) (Or.inl ⟨by rfl, ?_⟩) hS ?_
 rotate_left
 ·(intro w _; go_simp; try with_reducible rfl)
 refine wpAnyH_take (i := 5) (v := ?_) rfl (by kernel_rfl) (by kernel_rfl) (by kernel_rfl) (fun _ _ _ h => h) (Or.inl ⟨by rfl, ?_⟩) hS ?_
 rotate_left
 ·(intro w hS'; have hcell := (show World.cell? _ ⟨w0.heap.size, 0, none⟩ = some (.string e0.tx) from Blk.cell hS'.out 0); go_simp; try with_reducible rfl)
 refine wpAnyH_take (i := 6) (v := ?_) rfl (by kernel_rfl) (by kernel_rfl) (by kernel_rfl) (fun _ _ _ h => h) (Or.inl ⟨by rfl, ?_⟩) hS ?_
 rotate_left
 ·(intro w _; go_simp; try with_reducible rfl)
 refine wpAnyH_take (i := 7) (v := .int .i64 ((cutN e0.tx 40 : Nat) : Int)) rfl (by kernel_rfl) (by kernel_rfl) (by kernel_rfl) (fun _ _ _ h => h) (Or.inl ⟨by rfl, ?_⟩) hS ?_
 ·intro w _
  go_simp
  first | rw [cutN_if40] | rw [cutN_min40]
 refine wpAnyH_take (i := 8) (v := ?_) rfl (by kernel_rfl) (by kernel_rfl) (by kernel_rfl) (fun _ _ _ h => h) (Or.inl ⟨by rfl, ?_⟩) hS ?_
 rotate_left
 ·(intro w _; go_simp; try with_reducible rfl)
 refine wpAnyH_take (i := 9) (v := ?_) rfl (by kernel_rfl) (by kernel_rfl) (by kernel_rfl) (fun _ _ _ h => h) (Or.inl ⟨by rfl, ?_⟩) hS ?_
 rotate_left
 ·(intro w _; go_simp; try with_reducible rfl)
 refine wpAnyH_take (i := 10) (v := ?_) rfl (by kernel_rfl) (by kernel_rfl) (by kernel_rfl) (fun _ _ _ h => h) (Or.inl ⟨by rfl, ?_⟩) hS ?_
 rotate_left
 ·(intro w _; go_simp; try with_reducible rfl)
 refine wpAnyH_take (i := 11) (v := ?_) rfl (by kernel_rfl) (by kernel_rfl) (by kernel_rfl) (fun _ _ _ h => h) (Or.inl ⟨by rfl, ?_⟩) hS ?_
 rotate_left
 ·(intro w hS'; have hcell := (show World.cell? _ ⟨w0.heap.size, 1, none⟩ = some (.int .i64 e0.out) from Blk.cell hS'.out 1); go_simp; try with_reducible rfl)
 refine wpAnyH_take (i := 12) (v := ?_) rfl (by kernel_rfl) (by kernel_rfl) (by kernel_rfl) (fun _ _ _ h => h) (Or.inl ⟨by rfl, ?_⟩) hS ?_
 rotate_left
 ·(intro w _; go_simp; try with_reducible rfl)
 refine wpAnyH_ready (rs := [15]) (by kernel_rfl) (by simp) (AllReadyH.cons rfl (fun K hK => ?_) AllReadyH.nil)
 go_simp
 refine (cutout_x e0.o _).mono ?_
 rintro e W ⟨rfl, hb⟩
 replace HX := Lib.hid (HX.out.bel hb)
 replace HR := Lib.hid (HR.out.bel hb)
 replace HB := Lib.hid (HB.out.trans (hb.mono HB.out.size))
 clear hb hS
 go_simp
 refine hK.out _ _ HX (fun hS => ?_)
 clear hK K
 refine wpAnyH_take (i := 16) (v := ?_) rfl (by kernel_rfl) (by kernel_rfl) (by kernel_rfl) (fun _ _ _ h => h) (Or.inl ⟨by rfl, ?_⟩) hS ?_
 rotate_left
 ·(intro w _; go_simp; try with_reducible rfl)
 refine wpAnyH_ready (rs := [17]) (by kernel_rfl) (by simp) (AllReadyH.cons rfl (fun K hK => ?_) AllReadyH.nil)
 refine step_store_part (by rfl) 89 (.tmp 2) (.tmp 19) (by rfl) (w0.heap.size + 1) 0 HR.out (cutE e0).cs (cutE e0).cs (by rfl) (by rfl) (Nat.le_refl 11) infoEnt (encs_one _) (en_over _ rfl) ?_
 intro W1 hb1 hc1
 have HT := Lib.hid hb1
 have HC := Lib.hid hc1
 clear hb1 hc1
 refine hK.out _ _ (Lib.hid (Blk.ch hS.out HC.out (by simp))) (fun _ => ?_)
 clear hK K hS
 refine wpAnyH_done (by kernel_rfl) ?_ _
 go_wp2_with fail
 exact bodyPost_ret (results_cell_row rfl _ _ (w0.heap.size + 1) 89 _ (0, 0) _ rfl HT.out Tryz.underlying89 rfl infoEnt) rfl ⟨rfl, HB.out.trans (HC.out.below HB.out.size (by simp))⟩
theorem begin_cut {e : En} (h : e.o.tok ≤ 300) : beginX e = cutE e := by
 unfold beginX
 rw [if_neg (by show ¬ (300 < e.o.tok ∧ e.o.tok ≤ 4096); omega)]
theorem new18_inv {e : En} (he : e.fz) (h3 : e.o.tok ≤ 300) (h : newB (cutE e) (fitsB (cutE e).o) = true) : ∃ mt : Nat, Inv (newS (cutE e)) mt := by
 have := new_inv he (by rw [begin_cut h3]; exact h)
 rwa [begin_cut h3] at this
/-- as law17 makes the call: what is none of the first three kinds locks more -/
def k3 (o : Op17) : Op17 := if o.kind = 0 ∨ o.kind = 1 ∨ o.kind = 2 then o else { o with kind := 3 }
theorem k3_fit {o : Op17} (h : o.fit) : (k3 o).fit := by
 unfold k3
 split
 ·exact h
 ·exact ⟨h.am, h.s, h.x, h.eam, h.r⟩
theorem playE18_k3 (s : St) (mt : Nat) (o : Op17) : playE18 s mt o = playE s mt (k3 o) ∧ playS18 s mt o = playS s mt (k3 o) := by
 unfold k3 playE18 playE playS18 playS
 by_cases h0 : o.kind = 0
 ·simp [h0]
 ·by_cases h1 : o.kind = 1
  ·simp [h1]
  ·by_cases h2 : o.kind = 2
   ·simp [h2]
   ·simp [h0, h1, h2]
theorem play18_inv {s : St} {mt : Nat} {o : Op17} (h : Inv s mt) (ho : o.fit) (hE : playE18 s mt o = 0) : Inv (playS18 s mt o) mt := by
 rw [(playE18_k3 s mt o).1] at hE
 rw [(playE18_k3 s mt o).2]
 exact play_inv h (k3_fit ho) hE
/-- what a call left -/
def PlR18 (s : St) (mt : Nat) (p : Op17) (q : St) (f : Int) : Prop := f = 0 → playE18 s mt p = 0 ∧ ∃ A c B d, q = (playS18 s mt p).lists A c B d
theorem play18_one (s : St) (mt : Nat) (o : Op17) (w : World) (hg : s.good mt) (hS : s.mem w) (ho : o.fit) :
  Calls Tryz.prog 49 #[.agg s.cs, .agg o.cs] w fun e w' => ∃ q f, e = .returned (.tuple #[.agg q.cs, .int .i64 f]) ∧ Below w.heap.size w w' ∧ (∃ N, LsAt q N w' q.A q.c q.B q.d) ∧ PlR18 s mt o q f :=
 (play18_any s mt o w hg hS ho).mono fun e w' ⟨hb, h⟩ => by
  rcases h with ⟨h0, he⟩ | ⟨h0, A, c, B, d, he, hl⟩
  ·exact ⟨zS, playE18 s mt o, by rw [zStS]; exact he, hb, ⟨0, ⟨⟨rfl, .inl ⟨rfl, rfl⟩⟩, ⟨rfl, .inl ⟨rfl, rfl⟩⟩, fun _ => rfl, fun _ => rfl⟩⟩, fun h => absurd h h0⟩
  ·exact ⟨_, 0, he, hb, ⟨_, ⟨hl.r1, hl.r2, hl.n1, hl.n2⟩⟩, fun _ => ⟨h0, A, c, B, d, rfl⟩⟩
/-! what is paid -/
theorem pays18_tot {e : En} {v n : Nat} (h : paysF v n = 0) (hn : n < 18446744073709551616) : totI (ousI (paysL e v n)) + 10 = n ∧ ∃ r, paysL e v n = payO (v - 10) e.o.gate :: r := by
 have hc : ¬ (v ≤ 10 ∨ n < v) := by
  intro hc
  unfold paysF at h
  rw [if_pos hc] at h
  exact absurd h (by decide)
 unfold paysL
 rw [if_neg hc]
 unfold paysO
 refine ⟨?_, _, rfl⟩
 by_cases q : v < n
 ·rw [if_pos q]
  show ((v - 10 : Nat) : Int) + (((n - v : Nat) : Int) + 0) + 10 = n
  omega
 ·rw [if_neg q]
  show ((v - 10 : Nat) : Int) + 0 + 10 = n
  omega
theorem claim_amounts {s : St} (h : buildE s = 0) (A : Option Addr) (c : Nat) (B : Option Addr) (d : Nat) (PA : Option Addr) (pc : Nat) :
  totE (ousI (buildX s A c B d PA pc).outs) = 0 ∧ totV (ousI (buildX s A c B d PA pc).outs) + 10 = wholeV s ∧ (∃ o r, (buildX s A c B d PA pc).outs = o :: r ∧ o.key = s.lock.o.gate) ∧ (buildX s A c B d PA pc).ins.length = 1 + s.tops.length ∧ rightT (buildX s A c B d PA pc) = true := by
 obtain ⟨hr, hp⟩ := build_right h A c B d PA pc
 have hb := wholeV_bd s
 obtain ⟨h1, r, h2⟩ := pays18_tot (e := s.lock) hp (by omega)
 rw [buildX_outs]
 have h3 : totI (ousI (paysL s.lock (worthV s).toNat (wholeV s).toNat)) < 18446744073709551616 := by omega
 refine ⟨if_pos h3, ?_, ⟨_, _, h2, rfl⟩, ?_, hr⟩
 ·unfold totV; rw [if_pos h3]; omega
 ·show (insOf (s.lock :: s.tops) 2 ByteArray.empty).length = _
  unfold insOf
  rw [List.length_map, List.length_cons]; omega
theorem back_amounts {s : St} {key : ByteArray} (h : backE (s.lock :: s.tops) key = 0) (A : Option Addr) (c : Nat) (B : Option Addr) (d : Nat) :
  totE (ousI (backX (s.lock :: s.tops) key A c B d).outs) = 0 ∧ totV (ousI (backX (s.lock :: s.tops) key A c B d).outs) + 10 = wholeV s ∧ (backX (s.lock :: s.tops) key A c B d).outs.length = 1 := by
 have he : totE (topsI (s.lock :: s.tops)) = 0 := by
  by_cases q : totE (topsI (s.lock :: s.tops)) = 0
  ·exact q
  ·unfold backE at h; rw [if_pos q] at h; exact absurd h q
 have hv : ¬ totV (topsI (s.lock :: s.tops)) ≤ 10 := by
  intro q
  unfold backE at h
  rw [if_neg (by simp [he]), if_pos q] at h
  exact absurd h (by decide)
 have ht : totI (topsI (s.lock :: s.tops)) < 18446744073709551616 := by
  by_cases q : totI (topsI (s.lock :: s.tops)) < 18446744073709551616
  ·exact q
  ·unfold totE at he; rw [if_neg q] at he; exact absurd he (by decide)
 have hw : totV (topsI (s.lock :: s.tops)) = wholeV s := (whole_tot s ht).1
 have hb := wholeV_bd s
 rw [hw] at hv
 have e1 : ousI (backX (s.lock :: s.tops) key A c B d).outs = [(((wholeV s).toNat - 10 : Nat) : Int)] := by
  show [(((totV (topsI (s.lock :: s.tops))).toNat - 10 : Nat) : Int)] = _
  rw [hw]
 rw [e1]
 have h3 : totI [(((wholeV s).toNat - 10 : Nat) : Int)] < 18446744073709551616 := by show _ + 0 < _; omega
 refine ⟨if_pos h3, ?_, rfl⟩
 unfold totV; rw [if_pos h3]
 show _ + 0 + 10 = _
 omega
theorem back_low {s : St} {key : ByteArray} (h : backE (s.lock :: s.tops) key = 11) : wholeV s ≤ 10 := by
 by_cases q : totE (topsI (s.lock :: s.tops)) = 0
 ·have ht : totI (topsI (s.lock :: s.tops)) < 18446744073709551616 := by
   by_cases q' : totI (topsI (s.lock :: s.tops)) < 18446744073709551616
   ·exact q'
   ·unfold totE at q; rw [if_neg q'] at q; exact absurd q (by decide)
  have hw : totV (topsI (s.lock :: s.tops)) = wholeV s := (whole_tot s ht).1
  unfold backE at h
  rw [if_neg (by simp [q])] at h
  by_cases hv : totV (topsI (s.lock :: s.tops)) ≤ 10
  ·rwa [hw] at hv
  ·rw [if_neg hv] at h
   split at h <;> exact absurd h (by decide)
 ·unfold backE at h
  rw [if_pos q] at h
  unfold totE at h
  split at h <;> exact absurd h (by decide)
end
end Go.Proofs.YtjcinncphffgaaaGreat
