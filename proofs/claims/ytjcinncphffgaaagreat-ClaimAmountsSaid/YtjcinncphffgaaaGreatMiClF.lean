/- claim.Fund of any entry and output. -/
import Derived.Outline
import Derived.OwnWalk
import Derived.Defers
import Derived.Deep.AppendLies
import Derived.Laws.OwnMore
import Derived.Test.YtjcinncphffgaaaGreatMiClB
set_option linter.unusedVariables false
set_option linter.unusedSimpArgs false
namespace Go.Proofs.YtjcinncphffgaaaGreat
section
open Go.RowKit Go.Maps
theorem build_ouF (o : Ou) (W : World) : (Instr.buildSlice 22 1 #[(0, .agg o.cs)]).run Tryz.prog W = .ok (.slice (some ⟨W.heap.size, 0, none⟩) 1 1) (W.alloc (.cells o.cs 81)) := by
 kernel_rfl
theorem wpList_build_ouF {ops : Array Oper} {rest : List Oper} {o : Oper} {a : Act} {w : World} {Q : Exit → Act → World → Prop} (hg : o.guard = none) (x : Operand) (ho : o.op = .buildSlice 22 1 #[(0, x)]) (y : Ou) (hx : a.eval x = .agg y.cs)
  (h : wpList Tryz.prog ops Q rest (a.put o.dst (.slice (some ⟨w.heap.size, 0, none⟩) 1 1)) (w.alloc (.cells y.cs 81))) : wpList Tryz.prog ops Q (o :: rest) a w :=
 wpList_plain hg fun _ hK => by
  have e : ((#[(0, x)] : Array (Nat × Operand)).map fun (i, x) => (i, a.eval x)) = #[(0, .agg y.cs)] := by simp [hx]
  unfold Oper.wp execOp
  simp only [ho, Sem.run_bind, e, build_ouF, Result.andThen_ok]
  exact hK _ _ h
theorem wpList_build_enF {ops : Array Oper} {rest : List Oper} {o : Oper} {a : Act} {w : World} {Q : Exit → Act → World → Prop} (hg : o.guard = none) (x : Operand) (ho : o.op = .buildSlice 85 1 #[(0, x)]) (y : En) (hx : a.eval x = .agg y.cs)
  (h : wpList Tryz.prog ops Q rest (a.put o.dst (.slice (some ⟨w.heap.size, 0, none⟩) 1 1)) (w.alloc (.cells y.cs 89))) : wpList Tryz.prog ops Q (o :: rest) a w :=
 wpList_plain hg fun _ hK => by
  have e : ((#[(0, x)] : Array (Nat × Operand)).map fun (i, x) => (i, a.eval x)) = #[(0, .agg y.cs)] := by simp [hx]
  unfold Oper.wp execOp
  simp only [ho, Sem.run_bind, e, build_en, Result.andThen_ok]
  exact hK _ _ h
/-- what Fund's transaction lays -/
def fundO (x : En) (o : Ou) : List Ou := o :: (if o.am + 10 < x.o.am then [payO (x.o.am - (o.am + 10)) x.o.key] else [])
/-- what Fund makes, its lists' places told -/
def fundX (x : En) (o : Ou) (A : Option Addr) (c : Nat) (B : Option Addr) (d : Nat) : Txn := ⟨A, insOf [x] 1 ByteArray.empty, c, B, fundO x o, d, noPf⟩
noncomputable def fundE (x : En) (o : Ou) : Int := if x.o.kind ≠ 1 then 1 else if x.o.am < o.am + 10 then 11 else lookF (fundX x o none 0 none 0) 0
theorem fundX_look (x : En) (o : Ou) (A : Option Addr) (c : Nat) (B : Option Addr) (d : Nat) : lookF (fundX x o A c B d) 0 = lookF (fundX x o none 0 none 0) 0 := rfl
/-- Fund's entry in a block, and its results -/
structure FuS (w : World) (x : En) (t : Txn) (f : Int) (W : World) : Prop where
 x : Blk W w.heap.size 89 x.cs
 lk : LkS w (w.heap.size + 2) (w.heap.size + 3) t f W
theorem FuS.go {w W W' : World} {x : En} {t : Txn} {f : Int} (h : FuS w x t f W) (hb : Below W.heap.size W W') : FuS w x t f W' := ⟨h.x.bel hb, h.lk.go hb⟩
theorem FuS.no_ {w W : World} {x : En} {t : Txn} {f : Int} (h : FuS w x t f W) (f' : Int) : FuS w x t f' (W.setCell ⟨w.heap.size + 3, 0, none⟩ (.int .i64 f')) :=
 ⟨h.x.far (p := ⟨w.heap.size + 3, 0, none⟩) (by simp) _, h.lk.no_ f'⟩
theorem FuS.to {w W W' : World} {x : En} {t t' : Txn} {f : Int} (h : FuS w x t f W) (hc : Ch [w.heap.size + 2] W W') (hd : Blk W' (w.heap.size + 2) 53 t'.cs) : FuS w x t' f W' :=
 ⟨h.x.ch hc (by simp), h.lk.to hc hd⟩
set_option maxRecDepth 100000 in
set_option maxHeartbeats 4000000 in
theorem cfund_any (x : En) (o : Ou) (w0 : World) (ho : o.am < 18446744073709551616) (hx : x.o.am < 18446744073709551616) :
  Calls Tryz.prog 31 #[.agg x.cs, .agg o.cs] w0 fun e w' => ∃ t : Txn, e = .returned (.tuple #[.agg t.cs, .int .i64 (fundE x o)]) ∧ (fundE x o = 0 → TxRows w0.heap.size w' t ∧ ∃ A c B d, t = fundX x o A c B d) ∧ (fundE x o ≠ 0 → t = zT) ∧ Below w0.heap.size w0 w' := by
 obtain ⟨i0, hi, hz0, hz1, hz2⟩ := info_parts Tryz.infoOut9
 have Hhz := Lib.hid hz0
 have HFE : Hid (fundE x o = if x.o.kind ≠ 1 then 1 else if x.o.am < o.am + 10 then 11 else lookF (fundX x o none 0 none 0) 0) := rfl
 have HLK : ∀ A c B d, Hid (lookF (fundX x o A c B d) 0 = lookF (fundX x o none 0 none 0) 0) := fun A c B d => Lib.hid (fundX_look x o A c B d)
 obtain ⟨us, hus⟩ : ∃ us, us = o.am + 10 := ⟨_, rfl⟩
 clear hz0
 generalize fundE x o = fe at HFE ⊢
 go_enter_defers Tryz.func31, Tryz.ntmps31
 go_upto_region 2 with fail
 refine wp_gen fun V0 hV0 => ?_
 have HK0 : Hid (FuS w0 x zT 0 V0) := Lib.hid (by rw [hV0]; exact ⟨(((Blk.new _ _ _).alloc _).alloc _).alloc _, Blk.alloc (Blk.newAt (by simp)) _, Blk.newAt (by simp), ((((Below.refl _ _).alloc (Nat.le_refl _) _).alloc (by simp) _).alloc (by simp <;> omega) _).alloc (by simp <;> omega) _, by omega, by omega⟩)
 have HQ0 : Hid (Blk V0 (w0.heap.size + 1) 81 o.cs) := Lib.hid (by rw [hV0]; exact ((Blk.newAt (by simp)).alloc _).alloc _)
 clear hV0
 have k2 : V0.cell? ⟨w0.heap.size, 2, none⟩ = some (.int .i64 x.o.kind) := HK0.out.x.cell 2
 by_cases hk : x.o.kind = 1
 ·have d0 : (x.o.kind != 1) = false := by rw [hk]; rfl
  have m1 : V0.cell? ⟨w0.heap.size + 1, 1, none⟩ = some (.int .u64 o.am) := HQ0.out.cell 1
  have m3 : V0.cell? ⟨w0.heap.size, 3, none⟩ = some (.int .u64 x.o.am) := HK0.out.x.cell 3
  go_wp2_with fail
  refine (add_any _ _ _ (by omega) (by omega) (by omega) (by omega)).mono ?_
  rintro e w6 ⟨rfl, rfl⟩
  have e0 : w6.cell? ⟨w0.heap.size + 3, 0, none⟩ = some (.int .i64 0) := HK0.out.lk.no.cell 0
  have f0 : w6.frozen? ⟨w0.heap.size + 3, 0, none⟩ = false := HK0.out.lk.no.frozen 0
  by_cases hlow : x.o.am < us
  ·obtain rfl : fe = 11 := by rw [HFE.out, if_neg (by simp [hk]), if_pos (by rw [← hus]; exact hlow)]
   by_cases h64 : us < 18446744073709551616
   ·have e1 : plusV (o.am : Int) 10 = (us : Int) := by unfold plusV; rw [if_pos (by omega)]; omega
    have e2 : plusE (o.am : Int) 10 = 0 := by unfold plusE; rw [if_pos (by omega)]
    rw [e1, e2]
    have HK1 := Lib.hid (HK0.out.no_ 0)
    have d1 : decide ((x.o.am : Int) < (us : Int)) = true := decide_eq_true (by omega)
    have d1' : decide ((us : Int) > (x.o.am : Int)) = true := d1
    have d1n : decide (x.o.am < us) = true := decide_eq_true hlow
    clear HFE hlow h64 e1 e2 hk k2 hus
    go_upto_region 6 with fail
    refine wp_gen fun W7 hW7 => ?_
    rw [← hW7] at HK1
    clear hW7 e0 f0
    have e0 := HK1.out.lk.no.cell 0
    have f0 : W7.frozen? ⟨w0.heap.size + 3, 0, none⟩ = false := HK1.out.lk.no.frozen 0
    go_wp2_with (first
     | (refine wpList_load_blk rfl 53 (.tmp 4) rfl (w0.heap.size + 2) 0 6 HK1.out.lk.hd zTx (by rfl) (by rfl) Tryz.underlying53 infoTx (Nat.le_refl 6) ?_)
     | (refine wpList_store_part rfl 53 (.tmp 4) (.tmp 28) rfl (w0.heap.size + 2) 0 HK1.out.lk.hd zTx zTx (by rfl) (by rfl) (Nat.le_refl 6) infoTx zTx_one (txn_over zT rfl) ?_; intro W8 hb8 hc8; have HK8 := Lib.hid (HK1.out.to (t' := zT) hc8 hb8); have y0 := HK8.out.lk.no.cell 0; have z0 : W8.frozen? ⟨w0.heap.size + 3, 0, none⟩ = false := HK8.out.lk.no.frozen 0; clear hb8 hc8))
    have HKZ := Lib.hid (HK8.out.no_ 11)
    refine leaves_cons (f := 101) (args := #[.pointer (some ⟨w0.heap.size + 2, 0, none⟩), .pointer (some ⟨w0.heap.size + 3, 0, none⟩)]) (by simp) (by simp [go_sem]) ?_
    refine (clook_gen (w0.heap.size + 2) (w0.heap.size + 3) zT 11 .returning _ HKZ.out.lk.hd HKZ.out.lk.no (zT_mem _) (by decide) (by decide) (by decide)).mono ?_
    rintro e u' w9 ⟨rfl, rfl, hT9, hE9, hc9⟩
    have HLF : lookF zT 11 = 11 := by unfold lookF; rw [if_neg (by decide)]
    rw [HLF] at hE9 hT9
    have HT9 : Blk w9 (w0.heap.size + 2) 53 zT.cs := by rw [if_neg (by decide)] at hT9; exact hT9
    have HB9 : Below w0.heap.size w0 w9 := HKZ.out.lk.bel.trans (hc9.below HKZ.out.lk.bel.size (by simp))
    have v0 : w9.cell? ⟨w0.heap.size + 3, 0, none⟩ = some (.int .i64 11) := hE9.cell 0
    exact ⟨_, results_cells2 (ty2 := 28) rfl _ HT9 rfl Tryz.underlying53 infoTx (a2 := ⟨w0.heap.size + 3, 0, none⟩) (v := .int .i64 11) rfl (by simp [go_sem, v0]), zT, rfl, (fun h => by cases h), (fun _ => rfl), HB9⟩
   ·have e1 : plusE (o.am : Int) 10 = 2 := by unfold plusE; rw [if_neg (by omega)]
    rw [e1]
    generalize plusV (o.am : Int) 10 = pv
    have HK1 := Lib.hid (HK0.out.no_ 2)
    clear HFE hlow h64 e1 hk k2 hus
    go_upto_region 6 with fail
    refine wp_gen fun W7 hW7 => ?_
    rw [← hW7] at HK1
    clear hW7 e0 f0
    have e0 := HK1.out.lk.no.cell 0
    have f0 : W7.frozen? ⟨w0.heap.size + 3, 0, none⟩ = false := HK1.out.lk.no.frozen 0
    go_wp2_with (first
     | (refine wpList_load_blk rfl 53 (.tmp 4) rfl (w0.heap.size + 2) 0 6 HK1.out.lk.hd zTx (by rfl) (by rfl) Tryz.underlying53 infoTx (Nat.le_refl 6) ?_)
     | (refine wpList_store_part rfl 53 (.tmp 4) (.tmp 28) rfl (w0.heap.size + 2) 0 HK1.out.lk.hd zTx zTx (by rfl) (by rfl) (Nat.le_refl 6) infoTx zTx_one (txn_over zT rfl) ?_; intro W8 hb8 hc8; have HK8 := Lib.hid (HK1.out.to (t' := zT) hc8 hb8); have y0 := HK8.out.lk.no.cell 0; have z0 : W8.frozen? ⟨w0.heap.size + 3, 0, none⟩ = false := HK8.out.lk.no.frozen 0; clear hb8 hc8))
    have HKZ := Lib.hid (HK8.out.no_ 11)
    refine leaves_cons (f := 101) (args := #[.pointer (some ⟨w0.heap.size + 2, 0, none⟩), .pointer (some ⟨w0.heap.size + 3, 0, none⟩)]) (by simp) (by simp [go_sem]) ?_
    refine (clook_gen (w0.heap.size + 2) (w0.heap.size + 3) zT 11 .returning _ HKZ.out.lk.hd HKZ.out.lk.no (zT_mem _) (by decide) (by decide) (by decide)).mono ?_
    rintro e u' w9 ⟨rfl, rfl, hT9, hE9, hc9⟩
    have HLF : lookF zT 11 = 11 := by unfold lookF; rw [if_neg (by decide)]
    rw [HLF] at hE9 hT9
    have HT9 : Blk w9 (w0.heap.size + 2) 53 zT.cs := by rw [if_neg (by decide)] at hT9; exact hT9
    have HB9 : Below w0.heap.size w0 w9 := HKZ.out.lk.bel.trans (hc9.below HKZ.out.lk.bel.size (by simp))
    have v0 : w9.cell? ⟨w0.heap.size + 3, 0, none⟩ = some (.int .i64 11) := hE9.cell 0
    exact ⟨_, results_cells2 (ty2 := 28) rfl _ HT9 rfl Tryz.underlying53 infoTx (a2 := ⟨w0.heap.size + 3, 0, none⟩) (v := .int .i64 11) rfl (by simp [go_sem, v0]), zT, rfl, (fun h => by cases h), (fun _ => rfl), HB9⟩
  ·have e1 : plusV (o.am : Int) 10 = (us : Int) := by unfold plusV; rw [if_pos (by omega)]; omega
   have e2 : plusE (o.am : Int) 10 = 0 := by unfold plusE; rw [if_pos (by omega)]
   rw [e1, e2]
   have HK1 := Lib.hid (HK0.out.no_ 0)
   have hfe : fe = lookF (fundX x o none 0 none 0) 0 := by rw [HFE.out, if_neg (by simp [hk]), if_neg (by rw [← hus]; exact hlow)]
   have HF2 := Lib.hid hfe
   have d1 : decide ((x.o.am : Int) < (us : Int)) = false := decide_eq_false (by omega)
   have d1' : decide ((us : Int) > (x.o.am : Int)) = false := d1
   have d1n : decide (x.o.am < us) = false := decide_eq_false hlow
   obtain ⟨left, hleq⟩ : ∃ left, left = x.o.am - us := ⟨_, rfl⟩
   have hwr : IntKind.u64.wrap ((x.o.am : Int) - (us : Int)) = (left : Int) := by rw [IntWalk.u64_in _ (by omega)]; omega
   have HGE := Lib.hid hlow
   have HQ1 : Hid (Blk (w6.setCell ⟨w0.heap.size + 3, 0, none⟩ (.int .i64 0)) (w0.heap.size + 1) 81 o.cs) := Lib.hid (HQ0.out.far (p := ⟨w0.heap.size + 3, 0, none⟩) (by simp) _)
   have HUS := Lib.hid hus
   have HLQ := Lib.hid hleq
   clear HFE hfe e1 e2 hk k2 m1 hlow hus hleq
   go_upto_region 7 with fail
   refine wp_gen fun W1 hW1 => ?_
   rw [← hW1] at HK1 HQ1
   clear hW1 e0 f0 HK0 HQ0 d1 d1' d1n m3 d0
   have hb2 : Below W1.heap.size W1 (W1.alloc (.cells x.cs 89)) := (Below.refl _ _).alloc (Nat.le_refl _) _
   have HX2 : Hid (Blk (W1.alloc (.cells x.cs 89)) W1.heap.size 89 x.cs) := Lib.hid (Blk.new _ _ _)
   have HK2 := Lib.hid (HK1.out.go hb2)
   replace HQ1 := Lib.hid (HQ1.out.bel hb2)
   clear hb2
   go_wp2_with (first
    | (refine wpList_load_blk rfl 89 (.tmp 2) rfl w0.heap.size 0 11 HK1.out.x x.cs (by rfl) (en_ext x) Tryz.underlying89 infoEnt (Nat.le_refl 11) ?_)
    | (refine wpList_build_enF rfl (.tmp 29) rfl x (by rfl) ?_))
   refine (show Calls Tryz.prog 103 #[.int .i64 1, .slice (some ⟨W1.heap.size, 0, none⟩) 1 1] (W1.alloc (.cells x.cs 89)) _ from cfrom_any 1 (some ⟨W1.heap.size, 0, none⟩) [x] 1 _ (sl_one_en HX2.out) (by show 1 ≤ 1000; omega)).mono ?_
   rintro e W3 ⟨A', c', rfl, hO, hn, _, hb⟩
   have HO3 := Lib.hid (hO.mono HK2.out.lk.bel.size)
   have HN3 := Lib.hid hn
   have HK3 := Lib.hid (HK2.out.go hb)
   have HQ3 := Lib.hid (HQ1.out.bel hb)
   have q0 : W3.cell? ⟨w0.heap.size + 2, 0, none⟩ = some (.slice none 0 0) := HK3.out.lk.hd.cell 0
   have r0 : W3.frozen? ⟨w0.heap.size + 2, 0, none⟩ = false := HK3.out.lk.hd.frozen 0
   clear hO hn hb HK1 HK2 HX2
   go_upto_region 8 with fail
   have hcs : Ch [w0.heap.size + 2] W3 (W3.setCell ⟨w0.heap.size + 2, 0, none⟩ (.slice A' 1 c')) := Ch.set_ (by simp) _ _ _
   have HK4 : Hid (FuS w0 x ⟨A', insOf [x] 1 ByteArray.empty, c', none, [], 0, noPf⟩ 0 (W3.setCell ⟨w0.heap.size + 2, 0, none⟩ (.slice A' 1 c'))) := Lib.hid (HK3.out.to (t' := ⟨A', insOf [x] 1 ByteArray.empty, c', none, [], 0, noPf⟩) hcs (HK3.out.lk.hd.set_ 0 (.slice A' 1 c')))
   have HO4 := Lib.hid (own_chT HO3.out hcs HK3.out.lk.hd.kdT (by decide))
   have HQ4 := Lib.hid (HQ3.out.ch hcs (by simp))
   clear hcs HO3 HK3 q0 r0 HQ1 HQ3
   generalize W3.setCell ⟨w0.heap.size + 2, 0, none⟩ (.slice A' 1 c') = W4 at HK4 HO4 HQ4 ⊢
   have hb5 : Below W4.heap.size W4 (W4.alloc (.cells o.cs 81)) := (Below.refl _ _).alloc (Nat.le_refl _) _
   have HK5 := Lib.hid (HK4.out.go hb5)
   have HO5 := Lib.hid (own_belT HO4.out hb5)
   have HP5 : Hid ((W4.alloc (.cells o.cs 81)).ownsRow w0.heap.size 81 9 (.slice (some ⟨W4.heap.size, 0, none⟩) 1 1) 1 o.cl) := Lib.hid (World.ownsRow_lit (base := w0.heap.size) (size := 9) (e := 81) W4 o.cs 1 HK4.out.lk.bel.size (by decide) rfl)
   have q1 : (W4.alloc (.cells o.cs 81)).cell? ⟨w0.heap.size + 2, 1, none⟩ = some (.slice none 0 0) := HK5.out.lk.hd.cell 1
   have r1 : (W4.alloc (.cells o.cs 81)).frozen? ⟨w0.heap.size + 2, 1, none⟩ = false := HK5.out.lk.hd.frozen 1
   clear hb5 HO4
   go_upto_region 9 with (first
    | (refine wpList_load_blk rfl 81 (.tmp 3) rfl (w0.heap.size + 1) 0 9 HQ4.out o.cs (by rfl) (ouv_ext o) Tryz.underlying81 infoOuC (Nat.le_refl 9) ?_)
    | (refine wpList_build_ouF rfl (.tmp 33) rfl o (by rfl) ?_))
   clear HK4 HQ4
   have hcs : Ch [w0.heap.size + 2] (W4.alloc (.cells o.cs 81)) ((W4.alloc (.cells o.cs 81)).setCell ⟨w0.heap.size + 2, 1, none⟩ (.slice (some ⟨W4.heap.size, 0, none⟩) 1 1)) := Ch.set_ (by simp) _ _ _
   have HK6 : Hid (FuS w0 x ⟨A', insOf [x] 1 ByteArray.empty, c', some ⟨W4.heap.size, 0, none⟩, [o], 1, noPf⟩ 0 ((W4.alloc (.cells o.cs 81)).setCell ⟨w0.heap.size + 2, 1, none⟩ (.slice (some ⟨W4.heap.size, 0, none⟩) 1 1))) := Lib.hid (HK5.out.to (t' := ⟨A', insOf [x] 1 ByteArray.empty, c', some ⟨W4.heap.size, 0, none⟩, [o], 1, noPf⟩) hcs (HK5.out.lk.hd.set_ 1 (.slice (some ⟨W4.heap.size, 0, none⟩) 1 1)))
   have HO6 := Lib.hid (own_chT HO5.out hcs HK5.out.lk.hd.kdT (by decide))
   have HP6 := Lib.hid (own_chT HP5.out hcs HK5.out.lk.hd.kdT (by decide))
   clear hcs HO5 HP5 HK5 q1 r1
   generalize (W4.alloc (.cells o.cs 81)).setCell ⟨w0.heap.size + 2, 1, none⟩ (.slice (some ⟨W4.heap.size, 0, none⟩) 1 1) = W6 at HK6 HO6 HP6 ⊢
   generalize W4.heap.size = g4 at HK6 HP6 ⊢
   have m3 : W6.cell? ⟨w0.heap.size, 3, none⟩ = some (.int .u64 x.o.am) := HK6.out.x.cell 3
   by_cases hleft : us < x.o.am
   ·have d2 : decide ((0 : Int) < (left : Int)) = true := decide_eq_true (by have := HLQ.out; omega)
    have d2' : decide ((left : Int) > 0) = true := d2
    have d2n : decide (0 < left) = true := decide_eq_true (by have := HLQ.out; omega)
    have hoo : fundO x o = [o] ++ [payO left x.o.key] := by unfold fundO; rw [if_pos (by rw [← HUS.out]; exact hleft), ← HUS.out, ← HLQ.out]; rfl
    have HOO := Lib.hid hoo
    have k4 : W6.cell? ⟨w0.heap.size, 4, none⟩ = some (.string x.o.key) := HK6.out.x.cell 4
    have t1 : W6.cell? ⟨w0.heap.size + 2, 1, none⟩ = some (.slice (some ⟨g4, 0, none⟩) 1 1) := HK6.out.lk.hd.cell 1
    have hb7 : Below W6.heap.size W6 (W6.alloc (.cells (payO left x.o.key).cs 81)) := (Below.refl _ _).alloc (Nat.le_refl _) _
    have HK7 := Lib.hid (HK6.out.go hb7)
    have HO7 := Lib.hid (own_belT HO6.out hb7)
    have HP7 := Lib.hid (own_belT HP6.out hb7)
    have HNB : Hid (Blk (W6.alloc (.cells (payO left x.o.key).cs 81)) W6.heap.size 81 (payO left x.o.key).cs) := Blk.new _ _ _
    have HNW := Lib.hid (World.news_of_block HNB.out)
    clear hleft hoo hb7 HK6 HO6 HP6
    go_upto_region 11 with fail
    clear d2 d2' d2n hwr m3
    go_upto_region 12 with (at_builtin; refine wpList_append_lies _ rfl (.tmp 44) (.tmp 50) _ rfl w0.heap.size 81 i0 _ 9 104 Tryz.underlying22 hi Hhz.out hz1 hz2 rfl (by omega) (.slice (some ⟨g4, 0, none⟩) 1 1) 1 o.cl rfl HP7.out ⟨W6.heap.size, 0, none⟩ 1 1 (payO left x.o.key).cl rfl rfl HNW.out (oucl1 _) (by omega) (by simp only [maxLen]; omega) (by omega) HK7.out.lk.bel.size _ rfl ?_; intro gg cap W8 hown hgrow hat hlt5; have HP8 := Lib.hid hown; have HO8 := Lib.hid (own_keptT HO7.out HP7.out (by decide) hgrow); have HK8 : Hid (FuS w0 x ⟨A', insOf [x] 1 ByteArray.empty, c', some ⟨g4, 0, none⟩, [o], 1, noPf⟩ 0 W8) := Lib.hid ⟨HK7.out.x.grown hgrow (blk_far HK7.out.x HP7.out (by decide)), HK7.out.lk.hd.grown hgrow (blk_far HK7.out.lk.hd HP7.out (by decide)), HK7.out.lk.no.grown hgrow (blk_far HK7.out.lk.no HP7.out (by decide)), HK7.out.lk.bel.grown hgrow HK7.out.lk.bel.size (fun j hj => own_base HP7.out j hj), HK7.out.lk.lo⟩; have q1 : W8.cell? ⟨w0.heap.size + 2, 1, none⟩ = some (.slice (some ⟨g4, 0, none⟩) 1 1) := HK8.out.lk.hd.cell 1; have r1 : W8.frozen? ⟨w0.heap.size + 2, 1, none⟩ = false := HK8.out.lk.hd.frozen 1; clear hown hgrow hat hlt5 HO7 HP7 HK7 HNW HNB)
    have hcs : Ch [w0.heap.size + 2] W8 (W8.setCell ⟨w0.heap.size + 2, 1, none⟩ (.slice (some ⟨gg, 0, none⟩) 2 cap)) := Ch.set_ (by simp) _ _ _
    have HK9 : Hid (FuS w0 x (fundX x o A' c' (some ⟨gg, 0, none⟩) cap) 0 (W8.setCell ⟨w0.heap.size + 2, 1, none⟩ (.slice (some ⟨gg, 0, none⟩) 2 cap))) := Lib.hid (HK8.out.to (t' := fundX x o A' c' (some ⟨gg, 0, none⟩) cap) hcs (by unfold fundX; rw [HOO.out]; exact HK8.out.lk.hd.set_ 1 (.slice (some ⟨gg, 0, none⟩) 2 cap)))
    have HR9 : Hid (TxRows w0.heap.size (W8.setCell ⟨w0.heap.size + 2, 1, none⟩ (.slice (some ⟨gg, 0, none⟩) 2 cap)) (fundX x o A' c' (some ⟨gg, 0, none⟩) cap)) := Lib.hid (by
     unfold fundX
     rw [HOO.out]
     exact ⟨own_chT HO8.out hcs HK8.out.lk.hd.kdT (by decide), by simpa using own_chT HP8.out hcs HK8.out.lk.hd.kdT (by decide), own_nil0 _ _ _ _, ⟨HN3.out, (fun h => by cases h), (fun _ => rfl)⟩⟩)
    clear hcs HO8 HP8 HK8 q1 r1 k4 t1 HOO
    try go_frame
    generalize W8.setCell ⟨w0.heap.size + 2, 1, none⟩ (.slice (some ⟨gg, 0, none⟩) 2 cap) = Wx at HK9 HR9 ⊢
    have e0 : Wx.cell? ⟨w0.heap.size + 3, 0, none⟩ = some (.int .i64 0) := HK9.out.lk.no.cell 0
    have f0 : Wx.frozen? ⟨w0.heap.size + 3, 0, none⟩ = false := HK9.out.lk.no.frozen 0
    go_wp2_with (first
     | (refine wpList_load_blk rfl 53 (.tmp 4) rfl (w0.heap.size + 2) 0 6 HK9.out.lk.hd (fundX x o A' c' (some ⟨gg, 0, none⟩) cap).cs (by rfl) (txn_ext _) Tryz.underlying53 infoTx (Nat.le_refl 6) ?_)
     | (refine wpList_store_part rfl 53 (.tmp 4) (.tmp 53) rfl (w0.heap.size + 2) 0 HK9.out.lk.hd (fundX x o A' c' (some ⟨gg, 0, none⟩) cap).cs (fundX x o A' c' (some ⟨gg, 0, none⟩) cap).cs (by rfl) (by rfl) (Nat.le_refl 6) infoTx (txncs_one _) (txn_over _ rfl) ?_; intro W8 hb8 hc8; have HK8 := Lib.hid (HK9.out.to (t' := fundX x o A' c' (some ⟨gg, 0, none⟩) cap) hc8 hb8); have HR8 : Hid (TxRows w0.heap.size W8 (fundX x o A' c' (some ⟨gg, 0, none⟩) cap)) := Lib.hid (HR9.out.ch hc8 HK9.out.lk.hd.kdT (by decide) (by decide) (by decide)); have y0 : W8.cell? ⟨w0.heap.size + 3, 0, none⟩ = some (.int .i64 0) := HK8.out.lk.no.cell 0; have z0 : W8.frozen? ⟨w0.heap.size + 3, 0, none⟩ = false := HK8.out.lk.no.frozen 0; clear hb8 hc8))
    have HKZ := Lib.hid (HK8.out.no_ 0)
    have HR5 : Hid (TxRows w0.heap.size (W8.setCell ⟨w0.heap.size + 3, 0, none⟩ (.int .i64 0)) (fundX x o A' c' (some ⟨gg, 0, none⟩) cap)) := Lib.hid (HR8.out.ch (Ch.set_ (b := w0.heap.size + 3) (by simp) _ _ _) HK8.out.lk.no.kdT (by decide) (by decide) (by decide))
    refine leaves_cons (f := 101) (args := #[.pointer (some ⟨w0.heap.size + 2, 0, none⟩), .pointer (some ⟨w0.heap.size + 3, 0, none⟩)]) (by simp) (by simp [go_sem]) ?_
    refine (clook_gen (w0.heap.size + 2) (w0.heap.size + 3) (fundX x o A' c' (some ⟨gg, 0, none⟩) cap) 0 .returning _ HKZ.out.lk.hd HKZ.out.lk.no HR5.out.mem (by show 1 ≤ 1000; decide) (by show (fundO x o).length ≤ 1000; unfold fundO; split <;> simp) (by show 0 ≤ 1000; decide)).mono ?_
    rintro e u' w9 ⟨rfl, rfl, hT9, hE9, hc9⟩
    rw [(HLK A' c' (some ⟨gg, 0, none⟩) cap).out, ← HF2.out] at hE9 hT9
    have HB9 : Below w0.heap.size w0 w9 := HKZ.out.lk.bel.trans (hc9.below HKZ.out.lk.bel.size (by simp))
    have v0 : w9.cell? ⟨w0.heap.size + 3, 0, none⟩ = some (.int .i64 fe) := hE9.cell 0
    have HR10 : TxRows w0.heap.size w9 (fundX x o A' c' (some ⟨gg, 0, none⟩) cap) := by
     have hT := HKZ.out.lk.hd.kdT
     have hE := HKZ.out.lk.no.kdT
     exact ⟨own_ch2 HR5.out.r1 hc9 hT hE (by decide) (by decide), own_ch2 HR5.out.r2 hc9 hT hE (by decide) (by decide), own_ch2 HR5.out.r3 hc9 hT hE (by decide) (by decide), HR5.out.nz⟩
    by_cases hbz : fe = 0
    ·rw [if_pos hbz] at hT9
     exact ⟨_, results_cells2 (ty2 := 28) rfl _ hT9 rfl Tryz.underlying53 infoTx (a2 := ⟨w0.heap.size + 3, 0, none⟩) (v := .int .i64 fe) rfl (by simp [go_sem, v0]), _, rfl, (fun _ => ⟨HR10, A', c', (some ⟨gg, 0, none⟩), cap, rfl⟩), (fun h => absurd hbz h), HB9⟩
    ·rw [if_neg hbz] at hT9
     exact ⟨_, results_cells2 (ty2 := 28) rfl _ hT9 rfl Tryz.underlying53 infoTx (a2 := ⟨w0.heap.size + 3, 0, none⟩) (v := .int .i64 fe) rfl (by simp [go_sem, v0]), zT, rfl, (fun h => absurd h hbz), (fun _ => rfl), HB9⟩
   ·have _u : True := trivial
    have d2 : decide ((0 : Int) < (left : Int)) = false := decide_eq_false (by have := HLQ.out; omega)
    have d2' : decide ((left : Int) > 0) = false := d2
    have d2n : decide (0 < left) = false := decide_eq_false (by have := HLQ.out; omega)
    have hoo : fundO x o = [o] := by unfold fundO; rw [if_neg (by rw [← HUS.out]; exact hleft)]
    have HOO := Lib.hid hoo
    have HK9 : Hid (FuS w0 x (fundX x o A' c' (some ⟨g4, 0, none⟩) 1) 0 W6) := Lib.hid (by unfold fundX; rw [HOO.out]; exact HK6.out)
    have HR9 : Hid (TxRows w0.heap.size W6 (fundX x o A' c' (some ⟨g4, 0, none⟩) 1)) := Lib.hid (by
     unfold fundX
     rw [HOO.out]
     exact ⟨HO6.out, by simpa using HP6.out, own_nil0 _ _ _ _, ⟨HN3.out, (fun h => by cases h), (fun _ => rfl)⟩⟩)
    clear hleft hoo HK6 HO6 HP6 HOO
    go_upto_region 12 with fail
    clear d2 d2' d2n hwr m3
    generalize W6 = Wx at HK9 HR9 ⊢
    try go_frame
    have e0 : Wx.cell? ⟨w0.heap.size + 3, 0, none⟩ = some (.int .i64 0) := HK9.out.lk.no.cell 0
    have f0 : Wx.frozen? ⟨w0.heap.size + 3, 0, none⟩ = false := HK9.out.lk.no.frozen 0
    go_wp2_with (first
     | (refine wpList_load_blk rfl 53 (.tmp 4) rfl (w0.heap.size + 2) 0 6 HK9.out.lk.hd (fundX x o A' c' (some ⟨g4, 0, none⟩) 1).cs (by rfl) (txn_ext _) Tryz.underlying53 infoTx (Nat.le_refl 6) ?_)
     | (refine wpList_store_part rfl 53 (.tmp 4) (.tmp 53) rfl (w0.heap.size + 2) 0 HK9.out.lk.hd (fundX x o A' c' (some ⟨g4, 0, none⟩) 1).cs (fundX x o A' c' (some ⟨g4, 0, none⟩) 1).cs (by rfl) (by rfl) (Nat.le_refl 6) infoTx (txncs_one _) (txn_over _ rfl) ?_; intro W8 hb8 hc8; have HK8 := Lib.hid (HK9.out.to (t' := fundX x o A' c' (some ⟨g4, 0, none⟩) 1) hc8 hb8); have HR8 : Hid (TxRows w0.heap.size W8 (fundX x o A' c' (some ⟨g4, 0, none⟩) 1)) := Lib.hid (HR9.out.ch hc8 HK9.out.lk.hd.kdT (by decide) (by decide) (by decide)); have y0 : W8.cell? ⟨w0.heap.size + 3, 0, none⟩ = some (.int .i64 0) := HK8.out.lk.no.cell 0; have z0 : W8.frozen? ⟨w0.heap.size + 3, 0, none⟩ = false := HK8.out.lk.no.frozen 0; clear hb8 hc8))
    have HKZ := Lib.hid (HK8.out.no_ 0)
    have HR5 : Hid (TxRows w0.heap.size (W8.setCell ⟨w0.heap.size + 3, 0, none⟩ (.int .i64 0)) (fundX x o A' c' (some ⟨g4, 0, none⟩) 1)) := Lib.hid (HR8.out.ch (Ch.set_ (b := w0.heap.size + 3) (by simp) _ _ _) HK8.out.lk.no.kdT (by decide) (by decide) (by decide))
    refine leaves_cons (f := 101) (args := #[.pointer (some ⟨w0.heap.size + 2, 0, none⟩), .pointer (some ⟨w0.heap.size + 3, 0, none⟩)]) (by simp) (by simp [go_sem]) ?_
    refine (clook_gen (w0.heap.size + 2) (w0.heap.size + 3) (fundX x o A' c' (some ⟨g4, 0, none⟩) 1) 0 .returning _ HKZ.out.lk.hd HKZ.out.lk.no HR5.out.mem (by show 1 ≤ 1000; decide) (by show (fundO x o).length ≤ 1000; unfold fundO; split <;> simp) (by show 0 ≤ 1000; decide)).mono ?_
    rintro e u' w9 ⟨rfl, rfl, hT9, hE9, hc9⟩
    rw [(HLK A' c' (some ⟨g4, 0, none⟩) 1).out, ← HF2.out] at hE9 hT9
    have HB9 : Below w0.heap.size w0 w9 := HKZ.out.lk.bel.trans (hc9.below HKZ.out.lk.bel.size (by simp))
    have v0 : w9.cell? ⟨w0.heap.size + 3, 0, none⟩ = some (.int .i64 fe) := hE9.cell 0
    have HR10 : TxRows w0.heap.size w9 (fundX x o A' c' (some ⟨g4, 0, none⟩) 1) := by
     have hT := HKZ.out.lk.hd.kdT
     have hE := HKZ.out.lk.no.kdT
     exact ⟨own_ch2 HR5.out.r1 hc9 hT hE (by decide) (by decide), own_ch2 HR5.out.r2 hc9 hT hE (by decide) (by decide), own_ch2 HR5.out.r3 hc9 hT hE (by decide) (by decide), HR5.out.nz⟩
    by_cases hbz : fe = 0
    ·rw [if_pos hbz] at hT9
     exact ⟨_, results_cells2 (ty2 := 28) rfl _ hT9 rfl Tryz.underlying53 infoTx (a2 := ⟨w0.heap.size + 3, 0, none⟩) (v := .int .i64 fe) rfl (by simp [go_sem, v0]), _, rfl, (fun _ => ⟨HR10, A', c', (some ⟨g4, 0, none⟩), 1, rfl⟩), (fun h => absurd hbz h), HB9⟩
    ·rw [if_neg hbz] at hT9
     exact ⟨_, results_cells2 (ty2 := 28) rfl _ hT9 rfl Tryz.underlying53 infoTx (a2 := ⟨w0.heap.size + 3, 0, none⟩) (v := .int .i64 fe) rfl (by simp [go_sem, v0]), zT, rfl, (fun h => absurd h hbz), (fun _ => rfl), HB9⟩
 ·have d0 : (x.o.kind != 1) = true := by rw [bne_iff_ne]; exact hk
  obtain rfl : fe = 1 := by rw [HFE.out, if_pos hk]
  have HK1 := HK0
  have e0 : V0.cell? ⟨w0.heap.size + 3, 0, none⟩ = some (.int .i64 0) := HK0.out.lk.no.cell 0
  have f0 : V0.frozen? ⟨w0.heap.size + 3, 0, none⟩ = false := HK0.out.lk.no.frozen 0
  clear HFE hk
  go_upto_region 3 with fail
  refine wp_gen fun W7 hW7 => ?_
  rw [← hW7] at HK1
  clear hW7 e0 f0
  have e0 := HK1.out.lk.no.cell 0
  have f0 : W7.frozen? ⟨w0.heap.size + 3, 0, none⟩ = false := HK1.out.lk.no.frozen 0
  go_wp2_with (first
   | (refine wpList_load_blk rfl 53 (.tmp 4) rfl (w0.heap.size + 2) 0 6 HK1.out.lk.hd zTx (by rfl) (by rfl) Tryz.underlying53 infoTx (Nat.le_refl 6) ?_)
   | (refine wpList_store_part rfl 53 (.tmp 4) (.tmp 12) rfl (w0.heap.size + 2) 0 HK1.out.lk.hd zTx zTx (by rfl) (by rfl) (Nat.le_refl 6) infoTx zTx_one (txn_over zT rfl) ?_; intro W8 hb8 hc8; have HK8 := Lib.hid (HK1.out.to (t' := zT) hc8 hb8); have y0 := HK8.out.lk.no.cell 0; have z0 : W8.frozen? ⟨w0.heap.size + 3, 0, none⟩ = false := HK8.out.lk.no.frozen 0; clear hb8 hc8))
  have HKZ := Lib.hid (HK8.out.no_ 1)
  refine leaves_cons (f := 101) (args := #[.pointer (some ⟨w0.heap.size + 2, 0, none⟩), .pointer (some ⟨w0.heap.size + 3, 0, none⟩)]) (by simp) (by simp [go_sem]) ?_
  refine (clook_gen (w0.heap.size + 2) (w0.heap.size + 3) zT 1 .returning _ HKZ.out.lk.hd HKZ.out.lk.no (zT_mem _) (by decide) (by decide) (by decide)).mono ?_
  rintro e u' w9 ⟨rfl, rfl, hT9, hE9, hc9⟩
  have HLF : lookF zT 1 = 1 := by unfold lookF; rw [if_neg (by decide)]
  rw [HLF] at hE9 hT9
  have HT9 : Blk w9 (w0.heap.size + 2) 53 zT.cs := by rw [if_neg (by decide)] at hT9; exact hT9
  have HB9 : Below w0.heap.size w0 w9 := HKZ.out.lk.bel.trans (hc9.below HKZ.out.lk.bel.size (by simp))
  have v0 : w9.cell? ⟨w0.heap.size + 3, 0, none⟩ = some (.int .i64 1) := hE9.cell 0
  exact ⟨_, results_cells2 (ty2 := 28) rfl _ HT9 rfl Tryz.underlying53 infoTx (a2 := ⟨w0.heap.size + 3, 0, none⟩) (v := .int .i64 1) rfl (by simp [go_sem, v0]), zT, rfl, (fun h => by cases h), (fun _ => rfl), HB9⟩
end
end Go.Proofs.YtjcinncphffgaaaGreat
