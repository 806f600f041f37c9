/- draw.Nominal of any numbers. channel.Ticket, of any state. channel.Ticket, of any state: a ticket that won. channel.Ticket, of any state. channel.More, of any state. channel.More, of any state: the walk, up to its tests. channel.New, Close, of any output and state. slices.Equal, note.Same, channel.Same of what is alike. channel.Same of states that are alike. law09's CutOut, law17's cut, law08's cutTicket and cutWin, of anything. law08's cutTicket, cutWin, of anything. law08's cutWin; law17's cut, of anything. law17's cut, of anything. law17: play, of any state and call. -/
import Derived.Outline
import Derived.Deep.RegionHeld3
import Derived.Deep.DeepCutAuto
import Derived.Deep.CutBlock
import Derived.Deep.AppendLies
import Derived.Test.YtjcinncphffgaaaGreatMjClmA
import Derived.Test.YtjcinncphffgaaaGreatMjG26
import Derived.Test.YtjcinncphffgaaaGreatMjNum
set_option linter.unusedVariables false
set_option linter.unusedSimpArgs false
namespace Go.Proofs.YtjcinncphffgaaaGreat
open Go.RowKit
end Go.Proofs.YtjcinncphffgaaaGreat
namespace Go.Proofs.YtjcinncphffgaaaGreat
open Go.RowKit Go.Maps
end Go.Proofs.YtjcinncphffgaaaGreat
namespace Go.Proofs.YtjcinncphffgaaaGreat
open Go.RowKit Go.Maps
end Go.Proofs.YtjcinncphffgaaaGreat
namespace Go.Proofs.YtjcinncphffgaaaGreat
open Go.RowKit Go.Maps
end Go.Proofs.YtjcinncphffgaaaGreat
namespace Go.Proofs.YtjcinncphffgaaaGreat
open Go.RowKit Go.Maps
end Go.Proofs.YtjcinncphffgaaaGreat
namespace Go.Proofs.YtjcinncphffgaaaGreat
open Go.RowKit Go.Maps
theorem own_keptT {w w' : World} {base base' n n' size size' : Nat} {e e' : TypeId} {v v' : Value} {xs xs' : List Value} (h : w.ownsRow base e size v n xs) (h' : w.ownsRow base' e' size' v' n' xs') (hne : e ≠ e') (hg : w.grownBy w' v'.ownBlock) : w'.ownsRow base e size v n xs := by
  refine h.kept hg ?_
  cases hv : v.ownBlock with
  | none => exact .inl rfl
  | some g =>
    refine .inr fun hq => ?_
    obtain ⟨c, fz, h1⟩ := Lib.ownsRow_kind h g hv
    obtain ⟨c', fz', h2⟩ := Lib.ownsRow_kind h' g hq.symm
    rw [h1] at h2
    injection h2 with h2
    injection h2 with _ h2
    exact hne h2
theorem ou_over (o : Ou) {cs : Array Value} (h : cs.size = 9) : over cs 0 o.cs.toList = o.cs := (over_full o.cs.toList cs (by rw [h]; rfl)).trans (Array.toArray_toList ..)
theorem infoOuC : (Tryz.prog.info? 81).map (·.size) = some 9 := by kernel_rfl
end Go.Proofs.YtjcinncphffgaaaGreat
namespace Go.Proofs.YtjcinncphffgaaaGreat
open Go.RowKit Go.Maps
end Go.Proofs.YtjcinncphffgaaaGreat
namespace Go.Proofs.YtjcinncphffgaaaGreat
open Go.RowKit Go.Maps
end Go.Proofs.YtjcinncphffgaaaGreat
namespace Go.Proofs.YtjcinncphffgaaaGreat
open Go.RowKit Go.Maps
end Go.Proofs.YtjcinncphffgaaaGreat
namespace Go.Proofs.YtjcinncphffgaaaGreat
open Go.RowKit Go.Maps
def cutN (s : ByteArray) (n : Nat) : Nat := if n < s.size then n else s.size
def cutT (s : ByteArray) (n : Nat) : ByteArray := s.extract 0 (cutN s n)
theorem cutN_le (s : ByteArray) (n : Nat) : cutN s n ≤ s.size ∧ cutN s n ≤ n := by unfold cutN; split <;> omega
theorem cutT_size (s : ByteArray) (n : Nat) : (cutT s n).size = cutN s n := by
  have := cutN_le s n
  unfold cutT
  rw [ByteArray.size_extract]; omega
theorem cutN_if (s : ByteArray) (n : Nat) : (if (n : Int) < (s.size : Int) then (n : Int) else (s.size : Int)) = (cutN s n : Int) := by
  unfold cutN
  by_cases h : n < s.size
  · rw [if_pos h, if_pos (by omega)]
  · rw [if_neg h, if_neg (by omega)]
theorem cutN_if40 (s : ByteArray) : (if (40 : Int) < (s.size : Int) then (40 : Int) else (s.size : Int)) = (cutN s 40 : Int) := cutN_if s 40
theorem cutN_if450 (s : ByteArray) : (if (450 : Int) < (s.size : Int) then (450 : Int) else (s.size : Int)) = (cutN s 450 : Int) := cutN_if s 450
def cutO (o : Ou) : Ou := { o with key := cutT o.key 40, gate := cutT o.gate 40, anchor := cutT o.anchor 40, of_ := cutT o.of_ 40 }
set_option maxRecDepth 100000 in
set_option maxHeartbeats 1000000 in
theorem cutout_any (o : Ou) (w : World) : Calls Tryz.prog 54 #[.agg o.cs] w fun e w' => e = .returned (.agg (cutO o).cs) ∧ Below w.heap.size w w' := by
  have HX : Hid (Blk ((w.alloc (.cells o.cs 81)).alloc (.cells zOu.cs 81)) w.heap.size 81 o.cs) := Lib.hid ((Blk.new _ _ _).alloc _)
  have HR : Hid (Blk ((w.alloc (.cells o.cs 81)).alloc (.cells zOu.cs 81)) (w.heap.size + 1) 81 zOu.cs) := Blk.newAt (by simp)
  have HB : Hid (Below w.heap.size w ((w.alloc (.cells o.cs 81)).alloc (.cells zOu.cs 81))) := ((Below.refl _ _).alloc (Nat.le_refl _) _).alloc (by simp) _
  go_enter Tryz.func54, Tryz.ntmps54
  go_upto_region 1 with fail
  refine wp_gen fun X hX => ?_
  replace HX : Hid (Blk X w.heap.size 81 o.cs) := Lib.hid (by rw [hX]; exact HX.out)
  replace HR : Hid (Blk X (w.heap.size + 1) 81 zOu.cs) := Lib.hid (by rw [hX]; exact HR.out)
  replace HB : Hid (Below w.heap.size w X) := Lib.hid (by rw [hX]; exact HB.out)
  clear hX
  have c2 : X.cell? ⟨w.heap.size, 2, none⟩ = some (.string o.key) := HX.out.cell 2
  have c3 : X.cell? ⟨w.heap.size, 3, none⟩ = some (.string o.gate) := HX.out.cell 3
  have c5 : X.cell? ⟨w.heap.size, 5, none⟩ = some (.string o.anchor) := HX.out.cell 5
  have c8 : X.cell? ⟨w.heap.size, 8, none⟩ = some (.string o.of_) := HX.out.cell 8
  have z2 : X.frozen? ⟨w.heap.size, 2, none⟩ = false := HX.out.frozen 2
  have z3 : X.frozen? ⟨w.heap.size, 3, none⟩ = false := HX.out.frozen 3
  have z5 : X.frozen? ⟨w.heap.size, 5, none⟩ = false := HX.out.frozen 5
  have z8 : X.frozen? ⟨w.heap.size, 8, none⟩ = false := HX.out.frozen 8
  have l2 := (cutN_le o.key 40).1
  have l3 := (cutN_le o.gate 40).1
  have l5 := (cutN_le o.anchor 40).1
  have l8 := (cutN_le o.of_ 40).1
  have HXf : Hid (Blk ((((X.setCell ⟨w.heap.size, 2, none⟩ (.string (o.key.extract 0 (cutN o.key 40)))).setCell ⟨w.heap.size, 3, none⟩ (.string (o.gate.extract 0 (cutN o.gate 40)))).setCell ⟨w.heap.size, 5, none⟩ (.string (o.anchor.extract 0 (cutN o.anchor 40)))).setCell ⟨w.heap.size, 8, none⟩ (.string (o.of_.extract 0 (cutN o.of_ 40)))) w.heap.size 81 (cutO o).cs) := Lib.hid ((((HX.out.set_ 2 _).set_ 3 _).set_ 5 _).set_ 8 _)
  have HRf : Hid (Blk ((((X.setCell ⟨w.heap.size, 2, none⟩ (.string (o.key.extract 0 (cutN o.key 40)))).setCell ⟨w.heap.size, 3, none⟩ (.string (o.gate.extract 0 (cutN o.gate 40)))).setCell ⟨w.heap.size, 5, none⟩ (.string (o.anchor.extract 0 (cutN o.anchor 40)))).setCell ⟨w.heap.size, 8, none⟩ (.string (o.of_.extract 0 (cutN o.of_ 40)))) (w.heap.size + 1) 81 zOu.cs) := Lib.hid ((((HR.out.far (p := ⟨w.heap.size, 2, none⟩) (by simp) _).far (p := ⟨w.heap.size, 3, none⟩) (by simp) _).far (p := ⟨w.heap.size, 5, none⟩) (by simp) _).far (p := ⟨w.heap.size, 8, none⟩) (by simp) _)
  have HBf : Hid (Below w.heap.size w ((((X.setCell ⟨w.heap.size, 2, none⟩ (.string (o.key.extract 0 (cutN o.key 40)))).setCell ⟨w.heap.size, 3, none⟩ (.string (o.gate.extract 0 (cutN o.gate 40)))).setCell ⟨w.heap.size, 5, none⟩ (.string (o.anchor.extract 0 (cutN o.anchor 40)))).setCell ⟨w.heap.size, 8, none⟩ (.string (o.of_.extract 0 (cutN o.of_ 40))))) := (((HB.out.setCell (by simp) _).setCell (by simp) _).setCell (by simp) _).setCell (by simp) _
  clear HX HR HB
  go_upto_region 5 with fail
  simp only [cutN_if40, Int.toNat_natCast]
  clear c2 c3 c5 c8 z2 z3 z5 z8 l2 l3 l5 l8
  go_wp2_with (first
    | (refine wpList_load_blk rfl 81 (.tmp 1) rfl w.heap.size 0 9 HXf.out (cutO o).cs (by rfl) (by rfl) Tryz.underlying81 infoOuC (Nat.le_refl 9) ?_)
    | (refine wpList_store_part rfl 81 (.tmp 2) (.tmp 35) rfl (w.heap.size + 1) 0 HRf.out (cutO o).cs (cutO o).cs (by rfl) (by rfl) (Nat.le_refl 9) infoOuC (oucs_one _) (ou_over _ rfl) ?_; intro W6 hb6 hc6; have HT := Lib.hid hb6; have HC6 := Lib.hid hc6; clear hb6 hc6))
  exact bodyPost_ret (results_cell_row rfl _ _ (w.heap.size + 1) 81 _ (0, 0) _ rfl HT.out Tryz.underlying81 rfl infoOuC) rfl ⟨rfl, HBf.out.trans (HC6.out.below HBf.out.size (by simp))⟩
end Go.Proofs.YtjcinncphffgaaaGreat
namespace Go.Proofs.YtjcinncphffgaaaGreat
open Go.RowKit Go.Maps
def cutK (t : Tk) : Tk := { t with ch := cutT t.ch 40, com := cutT t.com 40, sig := cutT t.sig 450 }
theorem tkcsC_one (t : Tk) : t.cs.all (·.oneCell') = true := by
  rw [Array.all_eq_true']
  intro x hx
  simp only [Tk.cs, List.mem_toArray, List.mem_cons, List.not_mem_nil, or_false] at hx
  rcases hx with rfl | rfl | rfl | rfl | rfl | rfl | rfl | rfl <;> rfl
theorem tkC_over (t : Tk) {cs : Array Value} (h : cs.size = 8) : over cs 0 t.cs.toList = t.cs := (over_full t.cs.toList cs (by rw [h]; rfl)).trans (Array.toArray_toList ..)
set_option maxRecDepth 100000 in
set_option maxHeartbeats 1000000 in
theorem cutticket_any (t : Tk) (w : World) : Calls Tryz.prog 183 #[.agg t.cs] w fun e w' => e = .returned (.agg (cutK t).cs) ∧ Below w.heap.size w w' := by
  have HX : Hid (Blk ((w.alloc (.cells t.cs 120)).alloc (.cells zTk0.cs 120)) w.heap.size 120 t.cs) := Lib.hid ((Blk.new _ _ _).alloc _)
  have HR : Hid (Blk ((w.alloc (.cells t.cs 120)).alloc (.cells zTk0.cs 120)) (w.heap.size + 1) 120 zTk0.cs) := Blk.newAt (by simp)
  have HB : Hid (Below w.heap.size w ((w.alloc (.cells t.cs 120)).alloc (.cells zTk0.cs 120))) := ((Below.refl _ _).alloc (Nat.le_refl _) _).alloc (by simp) _
  go_enter Tryz.func183, Tryz.ntmps183
  go_upto_region 1 with fail
  refine wp_gen fun X hX => ?_
  replace HX : Hid (Blk X w.heap.size 120 t.cs) := Lib.hid (by rw [hX]; exact HX.out)
  replace HR : Hid (Blk X (w.heap.size + 1) 120 zTk0.cs) := Lib.hid (by rw [hX]; exact HR.out)
  replace HB : Hid (Below w.heap.size w X) := Lib.hid (by rw [hX]; exact HB.out)
  clear hX
  have c0 : X.cell? ⟨w.heap.size, 0, none⟩ = some (.string t.ch) := HX.out.cell 0
  have c5 : X.cell? ⟨w.heap.size, 5, none⟩ = some (.string t.com) := HX.out.cell 5
  have c7 : X.cell? ⟨w.heap.size, 7, none⟩ = some (.string t.sig) := HX.out.cell 7
  have z0 : X.frozen? ⟨w.heap.size, 0, none⟩ = false := HX.out.frozen 0
  have z5 : X.frozen? ⟨w.heap.size, 5, none⟩ = false := HX.out.frozen 5
  have z7 : X.frozen? ⟨w.heap.size, 7, none⟩ = false := HX.out.frozen 7
  have l0 := (cutN_le t.ch 40).1
  have l5 := (cutN_le t.com 40).1
  have l7 := (cutN_le t.sig 450).1
  have HXf : Hid (Blk (((X.setCell ⟨w.heap.size, 0, none⟩ (.string (t.ch.extract 0 (cutN t.ch 40)))).setCell ⟨w.heap.size, 5, none⟩ (.string (t.com.extract 0 (cutN t.com 40)))).setCell ⟨w.heap.size, 7, none⟩ (.string (t.sig.extract 0 (cutN t.sig 450)))) w.heap.size 120 (cutK t).cs) := Lib.hid (((HX.out.set_ 0 _).set_ 5 _).set_ 7 _)
  have HRf : Hid (Blk (((X.setCell ⟨w.heap.size, 0, none⟩ (.string (t.ch.extract 0 (cutN t.ch 40)))).setCell ⟨w.heap.size, 5, none⟩ (.string (t.com.extract 0 (cutN t.com 40)))).setCell ⟨w.heap.size, 7, none⟩ (.string (t.sig.extract 0 (cutN t.sig 450)))) (w.heap.size + 1) 120 zTk0.cs) := Lib.hid (((HR.out.far (p := ⟨w.heap.size, 0, none⟩) (by simp) _).far (p := ⟨w.heap.size, 5, none⟩) (by simp) _).far (p := ⟨w.heap.size, 7, none⟩) (by simp) _)
  have HBf : Hid (Below w.heap.size w (((X.setCell ⟨w.heap.size, 0, none⟩ (.string (t.ch.extract 0 (cutN t.ch 40)))).setCell ⟨w.heap.size, 5, none⟩ (.string (t.com.extract 0 (cutN t.com 40)))).setCell ⟨w.heap.size, 7, none⟩ (.string (t.sig.extract 0 (cutN t.sig 450))))) := ((HB.out.setCell (by simp) _).setCell (by simp) _).setCell (by simp) _
  clear HX HR HB
  go_upto_region 4 with fail
  simp only [cutN_if40, cutN_if450, Int.toNat_natCast]
  clear c0 c5 c7 z0 z5 z7 l0 l5 l7
  go_wp2_with (first
    | (refine wpList_load_blk rfl 120 (.tmp 1) rfl w.heap.size 0 8 HXf.out (cutK t).cs (by rfl) (by rfl) Tryz.underlying120 infoTk' (Nat.le_refl 8) ?_)
    | (refine wpList_store_part rfl 120 (.tmp 2) (.tmp 27) rfl (w.heap.size + 1) 0 HRf.out (cutK t).cs (cutK t).cs (by rfl) (by rfl) (Nat.le_refl 8) infoTk' (tkcsC_one _) (tkC_over _ rfl) ?_; intro W6 hb6 hc6; have HT := Lib.hid hb6; have HC6 := Lib.hid hc6; clear hb6 hc6))
  exact bodyPost_ret (results_cell_row rfl _ _ (w.heap.size + 1) 120 _ (0, 0) _ rfl HT.out Tryz.underlying120 rfl infoTk') rfl ⟨rfl, HBf.out.trans (HC6.out.below HBf.out.size (by simp))⟩
def cutW (x : Wn) : Wn := ⟨cutK x.t, cutT x.salt 40, x.drawn⟩
end Go.Proofs.YtjcinncphffgaaaGreat
namespace Go.Proofs.YtjcinncphffgaaaGreat
open Go.RowKit Go.Maps
theorem cutticket_x (t : Tk) (w : World) : Calls Tryz.prog 183 #[.agg t.cs] w fun e w' => e = .returned (.agg #[.string (cutT t.ch 40), .int .u64 (t.ser : Nat), .int .u64 (t.face : Nat), .int .u64 (t.wins : Nat), .int .u64 (t.many : Nat), .string (cutT t.com 40), .int .u64 (t.cl : Nat), .string (cutT t.sig 450)]) ∧ Below w.heap.size w w' := cutticket_any t w
theorem cutout_x (o : Ou) (w : World) : Calls Tryz.prog 54 #[.agg o.cs] w fun e w' => e = .returned (.agg #[.int .i64 o.kind, .int .u64 (o.am : Nat), .string (cutT o.key 40), .string (cutT o.gate 40), .int .i64 o.ex, .string (cutT o.anchor 40), .int .u64 (o.unit : Nat), .int .i64 o.tok, .string (cutT o.of_ 40)]) ∧ Below w.heap.size w w' := cutout_any o w
theorem wn_tk (x : Wn) : x.cs.extract 0 (0 + 8) = x.t.cs := by rfl
set_option maxRecDepth 100000 in
set_option maxHeartbeats 500000 in
theorem cutwin_any (x : Wn) (w0 : World) : Calls Tryz.prog 143 #[.agg x.cs] w0 fun e w' => e = .returned (.agg (cutW x).cs) ∧ Below w0.heap.size w0 w' := by
  have HX : Hid (Blk ((w0.alloc (.cells x.cs 122)).alloc (.cells zWn.cs 122)) w0.heap.size 122 x.cs) := Lib.hid ((Blk.new _ _ _).alloc _)
  have HR : Hid (Blk ((w0.alloc (.cells x.cs 122)).alloc (.cells zWn.cs 122)) (w0.heap.size + 1) 122 zWn.cs) := Blk.newAt (by simp)
  have HB : Hid (Below w0.heap.size w0 ((w0.alloc (.cells x.cs 122)).alloc (.cells zWn.cs 122))) := ((Below.refl _ _).alloc (Nat.le_refl _) _).alloc (by simp) _
  have l8 := (cutN_le x.salt 40).1
  go_enter Tryz.func143, Tryz.ntmps143
  go_upto_region 1 with fail
  refine wp_gen fun X0 hX => ?_
  replace HX : Hid (Blk X0 w0.heap.size 122 x.cs) := Lib.hid (by rw [hX]; exact HX.out)
  replace HR : Hid (Blk X0 (w0.heap.size + 1) 122 zWn.cs) := Lib.hid (by rw [hX]; exact HR.out)
  replace HB : Hid (Below w0.heap.size w0 X0) := Lib.hid (by rw [hX]; exact HB.out)
  clear hX
  refine wp_region_held_drew (S := fun W => Hid (Blk W w0.heap.size 122 x.cs)) (by kernel_rfl) (Lib.hid (HX.out.drewN 1)) (fun hS => ?_)
  replace HX : Hid (Blk X0.drew w0.heap.size 122 x.cs) := Lib.hid (HX.out.drewN 1)
  replace HR : Hid (Blk X0.drew (w0.heap.size + 1) 122 zWn.cs) := Lib.hid (HR.out.drewN 1)
  replace HB : Hid (Below w0.heap.size w0 X0.drew) := HB.out.drew
  refine wpAnyH_genT fun X hX => ?_
  rw [← hX] at HX HR HB hS
  clear hX
  refine wpAnyH_take (i := 0) (v := ?_) rfl (by kernel_rfl) (by kernel_rfl) (by kernel_rfl) (fun _ _ _ h => h) (Or.inl ⟨by rfl, ?_⟩) hS ?_
  rotate_left
  · (intro w _; go_simp; try with_reducible rfl)
  refine wpAnyH_take (i := 1) (v := .agg x.t.cs) rfl (by kernel_rfl) (by kernel_rfl) (by kernel_rfl) (fun _ _ _ h => h) (yields_blk (by rfl) 120 (.tmp 3) (by rfl) w0.heap.size 0 8 (t := 122) (cs := x.cs) (fun W h => h.out) x.t.cs (by rfl) (wn_tk x) Tryz.underlying120 infoTk' (by show 8 ≤ 10; omega)) hS ?_
  refine wpAnyH_take (i := 3) (v := ?_) rfl (by kernel_rfl) (by kernel_rfl) (by kernel_rfl) (fun _ _ _ h => h) (Or.inl ⟨by rfl, ?_⟩) hS ?_
  rotate_left
  · (intro w _; go_simp; try with_reducible rfl)
  refine wpAnyH_take (i := 4) (v := ?_) rfl (by kernel_rfl) (by kernel_rfl) (by kernel_rfl) (fun _ _ _ h => h) (Or.inl ⟨by rfl, ?_⟩) hS ?_
  rotate_left
  · (intro w hS'; have hcell := (show World.cell? _ ⟨w0.heap.size, 8, none⟩ = some (.string x.salt) from Blk.cell hS'.out 8); go_simp; try with_reducible rfl)
  refine wpAnyH_take (i := 5) (v := ?_) rfl (by kernel_rfl) (by kernel_rfl) (by kernel_rfl) (fun _ _ _ h => h) (Or.inl ⟨by rfl, ?_⟩) hS ?_
  rotate_left
  · (intro w _; go_simp; try with_reducible rfl)
  refine wpAnyH_take (i := 6) (v := ?_) rfl (by kernel_rfl) (by kernel_rfl) (by kernel_rfl) (fun _ _ _ h => h) (Or.inl ⟨by rfl, ?_⟩) hS ?_
  rotate_left
  · (intro w hS'; have hcell := (show World.cell? _ ⟨w0.heap.size, 8, none⟩ = some (.string x.salt) from Blk.cell hS'.out 8); go_simp; try with_reducible rfl)
  refine wpAnyH_take (i := 7) (v := ?_) rfl (by kernel_rfl) (by kernel_rfl) (by kernel_rfl) (fun _ _ _ h => h) (Or.inl ⟨by rfl, ?_⟩) hS ?_
  rotate_left
  · (intro w _; go_simp; try with_reducible rfl)
  refine wpAnyH_take (i := 8) (v := .int .i64 ((cutN x.salt 40 : Nat) : Int)) rfl (by kernel_rfl) (by kernel_rfl) (by kernel_rfl) (fun _ _ _ h => h) (Or.inl ⟨by rfl, ?_⟩) hS ?_
  · intro w _
    go_simp
    rw [cutN_if40]
  refine wpAnyH_take (i := 9) (v := ?_) rfl (by kernel_rfl) (by kernel_rfl) (by kernel_rfl) (fun _ _ _ h => h) (Or.inl ⟨by rfl, ?_⟩) hS ?_
  rotate_left
  · (intro w _; go_simp; try with_reducible rfl)
  refine wpAnyH_take (i := 10) (v := ?_) rfl (by kernel_rfl) (by kernel_rfl) (by kernel_rfl) (fun _ _ _ h => h) (Or.inl ⟨by rfl, ?_⟩) hS ?_
  rotate_left
  · (intro w _; go_simp; try with_reducible rfl)
  refine wpAnyH_take (i := 11) (v := ?_) rfl (by kernel_rfl) (by kernel_rfl) (by kernel_rfl) (fun _ _ _ h => h) (Or.inl ⟨by rfl, ?_⟩) hS ?_
  rotate_left
  · (intro w hS'; have hcell := (show World.cell? _ ⟨w0.heap.size, 9, none⟩ = some (.int .u64 x.drawn) from Blk.cell hS'.out 9); go_simp; try with_reducible rfl)
  refine wpAnyH_ready (rs := [2]) (by kernel_rfl) (by simp) (AllReadyH.cons rfl (fun K hK => ?_) AllReadyH.nil)
  go_simp
  refine (cutticket_x x.t _).mono ?_
  rintro e W ⟨rfl, hb⟩
  replace HX := Lib.hid (HX.out.bel hb)
  replace HR := Lib.hid (HR.out.bel hb)
  replace HB := Lib.hid (HB.out.trans (hb.mono HB.out.size))
  clear hb hS
  go_simp
  refine hK.out _ _ HX (fun hS => ?_)
  clear hK K
  refine wpAnyH_take (i := 12) (v := ?_) rfl (by kernel_rfl) (by kernel_rfl) (by kernel_rfl) (fun _ _ _ h => h) (Or.inl ⟨by rfl, ?_⟩) hS ?_
  rotate_left
  · (intro w _; go_simp; try with_reducible rfl)
  refine wpAnyH_ready (rs := [13]) (by kernel_rfl) (by simp) (AllReadyH.cons rfl (fun K hK => ?_) AllReadyH.nil)
  refine step_store_part (by rfl) 122 (.tmp 2) (.tmp 15) (by rfl) (w0.heap.size + 1) 0 HR.out (cutW x).cs (cutW x).cs (by rfl) (by rfl) (Nat.le_refl 10) infoWn (wncs_one _) (wncs_over zWn _) ?_
  intro W1 hb1 hc1
  have HT := Lib.hid hb1
  have HC := Lib.hid hc1
  clear hb1 hc1
  refine hK.out _ _ (Lib.hid (Blk.ch hS.out HC.out (by simp))) (fun _ => ?_)
  clear hK K hS
  refine wpAnyH_done (by kernel_rfl) ?_ _
  go_wp2_with fail
  exact bodyPost_ret (results_cell_row rfl _ _ (w0.heap.size + 1) 122 _ (0, 0) _ rfl HT.out Tryz.underlying122 rfl infoWn) rfl ⟨rfl, HB.out.trans (HC.out.below HB.out.size (by simp))⟩
end Go.Proofs.YtjcinncphffgaaaGreat
namespace Go.Proofs.YtjcinncphffgaaaGreat
open Go.RowKit Go.Maps
end Go.Proofs.YtjcinncphffgaaaGreat
namespace Go.Proofs.YtjcinncphffgaaaGreat
open Go.RowKit Go.Maps
end Go.Proofs.YtjcinncphffgaaaGreat
