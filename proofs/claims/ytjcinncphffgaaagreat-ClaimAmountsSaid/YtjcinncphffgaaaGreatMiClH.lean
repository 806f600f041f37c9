/- claim.Back of any entries. -/
import Derived.Outline
import Derived.OwnWalk
import Derived.Defers
import Derived.IntWalk
import Derived.Test.YtjcinncphffgaaaGreatMiClG
import Derived.Test.YtjcinncphffgaaaGreatMiG31
set_option linter.unusedVariables false
set_option linter.unusedSimpArgs false
namespace Go.Proofs.YtjcinncphffgaaaGreat
section
open Go.RowKit Go.Maps
/-- what brings entries back to a key, its lists' places told -/
def backX (L : List En) (key : ByteArray) (A : Option Addr) (c : Nat) (B : Option Addr) (d : Nat) : Txn := ⟨A, insOf L 3 ByteArray.empty, c, B, [payO ((totV (topsI L)).toNat - 10) key], d, noPf⟩
/-- what Back answers -/
noncomputable def backE (L : List En) (key : ByteArray) : Int := if totE (topsI L) ≠ 0 then totE (topsI L) else if totV (topsI L) ≤ 10 then 11 else if rightT (backX L key none 0 none 0) = true then 0 else 4
theorem backX_right (L : List En) (key : ByteArray) (A : Option Addr) (c : Nat) (B : Option Addr) (d : Nat) : rightT (backX L key A c B d) = rightT (backX L key none 0 none 0) := rfl
theorem zT_mem (w : World) : zT.mem w := ⟨Sl.nil _ _ _ _ _, Sl.nil _ _ _ _ _, Sl.nil _ _ _ _ _⟩
/-- what stands in a call's result: a transaction's block, a number's -/
structure LkS (w : World) (tb eb : Nat) (t : Txn) (f : Int) (W : World) : Prop where
 hd : Blk W tb 53 t.cs
 no : Blk W eb 28 #[.int .i64 f]
 bel : Below w.heap.size w W
 lo : w.heap.size ≤ tb ∧ w.heap.size ≤ eb
theorem LkS.go {w W W' : World} {tb eb : Nat} {t : Txn} {f : Int} (h : LkS w tb eb t f W) (hb : Below W.heap.size W W') : LkS w tb eb t f W' := ⟨h.hd.bel hb, h.no.bel hb, h.bel.trans (hb.mono h.bel.size), h.lo⟩
theorem LkS.no_ {w W : World} {tb eb : Nat} {t : Txn} {f : Int} (h : LkS w tb eb t f W) (f' : Int) : LkS w tb eb t f' (W.setCell ⟨eb, 0, none⟩ (.int .i64 f')) :=
 ⟨h.hd.far (p := ⟨eb, 0, none⟩) (h.hd.ne_ h.no (by decide)) _, h.no.set_ 0 (.int .i64 f'), h.bel.setCell h.lo.2 _, h.lo⟩
theorem LkS.to {w W W' : World} {tb eb : Nat} {t t' : Txn} {f : Int} (h : LkS w tb eb t f W) (hc : Ch [tb] W W') (hd : Blk W' tb 53 t'.cs) : LkS w tb eb t' f W' :=
 ⟨hd, h.no.ch hc (by simp only [List.mem_singleton]; exact Ne.symm (h.hd.ne_ h.no (by decide))), h.bel.trans (hc.below h.bel.size (by simp; exact h.lo.1)), h.lo⟩
set_option maxRecDepth 100000 in
set_option maxHeartbeats 2000000 in
theorem cback_gen (A : Option Addr) (L : List En) (c : Nat) (key : ByteArray) (w : World) (hS : Sl w w.heap.size 11 En.cl A L) (hl : L.length ≤ 1000) (ha : ∀ e ∈ L, e.o.am < 18446744073709551616) :
  Calls Tryz.prog 35 #[.slice A L.length c, .string key] w fun e w' => ∃ t : Txn, e = .returned (.tuple #[.agg t.cs, .int .i64 (backE L key)]) ∧ (backE L key = 0 → TxRows w.heap.size w' t ∧ ∃ A' c' B d, t = backX L key A' c' B d) ∧ (backE L key ≠ 0 → t = zT) ∧ Below w.heap.size w w' := by
 obtain ⟨i0, hi, hz0, hz1, hz2⟩ := info_parts Tryz.infoU64
 have Hhz := Lib.hid hz0
 have HS := Lib.hid hS
 have HSUM := fun A c W h => Lib.hid (sum64_any A (topsI L) c W (by simp [topsI]; omega) (by
  intro x hx
  obtain ⟨e, he, rfl⟩ := List.mem_map.1 hx
  have := ha e he
  omega) h)
 have HSN := fun k h => Lib.hid (topsI_snoc L k h)
 have HTZ : Hid ((topsI L).length = L.length) := Lib.hid (by simp [topsI])
 have HTK : Hid (topsI (L.take L.length) = topsI L) := Lib.hid (by rw [List.take_length])
 have HBE : Hid (backE L key = if totE (topsI L) ≠ 0 then totE (topsI L) else if totV (topsI L) ≤ 10 then 11 else if rightT (backX L key none 0 none 0) = true then 0 else 4) := rfl
 have HTV : Hid (0 ≤ totV (topsI L) ∧ totV (topsI L) < 18446744073709551616) := Lib.hid (by
  have h0 := totI_ge (topsI L) (by
   intro x hx
   obtain ⟨e, he, rfl⟩ := List.mem_map.1 hx
   omega)
  unfold totV
  split <;> omega)
 have HBX : ∀ A' c' B d, Hid (backX L key A' c' B d = ⟨A', insOf L 3 ByteArray.empty, c', B, [payO ((totV (topsI L)).toNat - 10) key], d, noPf⟩) := fun _ _ _ _ => rfl
 generalize backE L key = be at HBE ⊢
 clear hz0 hS ha
 go_enter_defers Tryz.func35, Tryz.ntmps35
 go_wp2_with fail
 refine wp_gen fun W0 hW0 => ?_
 have HK0 : Hid (LkS w w.heap.size (w.heap.size + 1) zT 0 W0) := Lib.hid (by rw [hW0]; exact ⟨(Blk.new _ _ _).alloc _, Blk.newAt (by simp), ((Below.refl _ _).alloc (Nat.le_refl _) _).alloc (by simp) _, by omega, by omega⟩)
 clear hW0
 go_loopw [6, 12] (fun v i wr => ∃ (k : Nat) (B : Option Addr) (c : Nat), k ≤ L.length ∧ i = .int .i64 k ∧ v = .slice B k c ∧ Hid (wr.ownsRow w.heap.size 48 1 (.slice B k c) k (encA (topsI (L.take k)))) ∧ Hid (LkS w w.heap.size (w.heap.size + 1) zT 0 wr)) (fun _ i _ => L.length - (intOf i).toNat)
 case atStart => exact ⟨0, none, 0, Nat.zero_le _, rfl, rfl, Lib.hid (own_nil _ _ _ _), HK0⟩
 case round =>
  clear HK0
  obtain ⟨k, B, cc, hk, rfl, rfl, HO, HK⟩ := hrel
  by_cases hlt : k < L.length
  ·obtain ⟨ab, off, hA, hbB, hc⟩ := (HS.out.below HK.out.bel).at_ hlt
   subst hA
   have HSN1 := HSN k hlt
   generalize L[k] = x at hc HSN1
   generalize topsI (L.take k) = ff at HO HSN1
   have HCC := Lib.hid hc
   have d0 : decide (k < L.length) = true := decide_eq_true hlt
   have d1 : decide ((k : Int) < (L.length : Int)) = true := decide_eq_true (by omega)
   have n0 : (0 : Int) ≤ (k : Int) := by omega
   have n1 : (k : Int) < (L.length : Int) := by omega
   clear hc HSN
   go_upto_region 6 with (first
    | (refine wpList_load_en rfl (.tmp 14) rfl ab (off + k * 11) (by rfl) x HCC.out ?_)
    | (refine wpList_store_part rfl 89 (.tmp 8) (.tmp 15) rfl wr.heap.size 0 (cs := zEnt) (Blk.new _ _ _) x.cs x.cs (by rfl) (by rfl) (Nat.le_refl 11) infoEnt (encs_one x) (en_over x rfl) ?_; intro W1 hb1 hc1; have hb := bel_st' hc1; have HOW := Lib.hid (own_belT HO.out hb); have g3 : W1.cell? ⟨wr.heap.size, 3, none⟩ = some (.int .u64 x.o.am) := hb1.cell 3; have HKW := Lib.hid (HK.out.go hb); clear hb1 hc1 hb))
   try go_frame
   generalize wr.heap.size = g8 at g3 ⊢
   have hba : Below W1.heap.size W1 (W1.alloc (.cells #[.int .u64 (x.o.am : Nat)] 48)) := (Below.refl _ _).alloc (Nat.le_refl _) _
   have HO2 := Lib.hid (own_belT HOW.out hba)
   have HK2 := Lib.hid (HKW.out.go hba)
   clear hba HO HK HCC HOW HKW
   go_upto_region 7 with (at_builtin; refine wpList_append_lies _ rfl (.tmp 16) (.tmp 20) _ rfl w.heap.size 48 i0 _ 1 8 Tryz.underlying199 hi Hhz.out hz1 hz2 rfl (by omega) (.slice B k cc) k _ rfl HO2.out ⟨W1.heap.size, 0, none⟩ 1 1 [.int .u64 (x.o.am : Nat)] rfl rfl (news_alloc _ _ _ _ _ rfl rfl) (one_int _) (by omega) (by simp only [maxLen]; omega) (by omega) HK2.out.bel.size _ rfl ?_; intro gg cap W5 hown hgrow hat hlt5; have HO5 := Lib.hid hown; have HK5 : Hid (LkS w w.heap.size (w.heap.size + 1) zT 0 W5) := Lib.hid ⟨HK2.out.hd.grown hgrow (blk_far HK2.out.hd HO2.out (by decide)), HK2.out.no.grown hgrow (blk_far HK2.out.no HO2.out (by decide)), HK2.out.bel.grown hgrow HK2.out.bel.size (fun j hj => own_base HO2.out j hj), HK2.out.lo⟩; clear hown hgrow hat hlt5 HO2 HK2 g3)
   go_wp2_with fail
   go_roundw
   case rel => exact ⟨k + 1, _, _, by omega, by go_num, rfl, Lib.hid (by rw [HSN1.out, encA_snoc']; exact HO5.out), HK5⟩
   case measure => simp [intOf]; omega
  ·obtain rfl : k = L.length := by omega
   rw [HTK.out] at HO
   have hsl := HSUM B cc wr (Sl.of_own (base := w.heap.size) (n := L.length) (c := cc) (e := 48) (fun _ => rfl) (by rw [u64_flat, HTZ.out]; exact HO.out))
   rw [HTZ.out] at hsl
   have d0 : decide (L.length < L.length) = false := by simp
   clear HSUM HSN HTK HTZ HO
   go_wp2_with fail
   refine hsl.out.mono ?_
   rintro e w6 ⟨rfl, rfl⟩
   clear hsl d0
   generalize totV (topsI L) = tv at HBE HTV HBX ⊢
   generalize totE (topsI L) = te at HBE ⊢
   have e0 : w6.cell? ⟨w.heap.size + 1, 0, none⟩ = some (.int .i64 0) := HK.out.no.cell 0
   have f0 : w6.frozen? ⟨w.heap.size + 1, 0, none⟩ = false := HK.out.no.frozen 0
   have HK1 := Lib.hid (HK.out.no_ te)
   clear HK
   by_cases hte : te = 0
   ·subst hte
    have m0 : ((0 : Int) != 0) = false := rfl
    by_cases hlow : tv ≤ 10
    ·obtain rfl : be = 11 := by rw [HBE.out, if_neg (by simp), if_pos hlow]
     have d1 : decide (tv ≤ 10) = true := decide_eq_true hlow
     clear HBE hlow HTV
     go_upto_region 12 with fail
     refine wp_gen fun W7 hW7 => ?_
     rw [← hW7] at HK1
     clear hW7 e0 f0 m0
     have e0 : W7.cell? ⟨w.heap.size + 1, 0, none⟩ = some (.int .i64 _) := HK1.out.no.cell 0
     have f0 : W7.frozen? ⟨w.heap.size + 1, 0, none⟩ = false := HK1.out.no.frozen 0
     go_wp2_with (first
      | (refine wpList_load_blk rfl 53 (.tmp 4) rfl w.heap.size 0 6 HK1.out.hd zTx (by rfl) (by rfl) Tryz.underlying53 infoTx (Nat.le_refl 6) ?_)
      | (refine wpList_store_part rfl 53 (.tmp 4) (.tmp 31) rfl w.heap.size 0 HK1.out.hd zTx zTx (by rfl) (by rfl) (Nat.le_refl 6) infoTx zTx_one (txn_over zT rfl) ?_; intro W8 hb8 hc8; have HK8 := Lib.hid (HK1.out.to (t' := zT) hc8 hb8); have y0 := HK8.out.no.cell 0; have z0 : W8.frozen? ⟨w.heap.size + 1, 0, none⟩ = false := HK8.out.no.frozen 0; clear hb8 hc8)
      | (refine wpList_store_part rfl 53 (.tmp 4) (.tmp 36) rfl w.heap.size 0 HK1.out.hd zTx zTx (by rfl) (by rfl) (Nat.le_refl 6) infoTx zTx_one (txn_over zT rfl) ?_; intro W8 hb8 hc8; have HK8 := Lib.hid (HK1.out.to (t' := zT) hc8 hb8); have y0 := HK8.out.no.cell 0; have z0 : W8.frozen? ⟨w.heap.size + 1, 0, none⟩ = false := HK8.out.no.frozen 0; clear hb8 hc8))
     have HKZ := Lib.hid (HK8.out.no_ 11)
     refine leaves_cons (f := 101) (args := #[.pointer (some ⟨w.heap.size, 0, none⟩), .pointer (some ⟨w.heap.size + 1, 0, none⟩)]) (by simp) (by simp [go_sem]) ?_
     refine (clook_gen w.heap.size (w.heap.size + 1) zT 11 .returning _ HKZ.out.hd HKZ.out.no (zT_mem _) (by decide) (by decide) (by decide)).mono ?_
     rintro e u' w9 ⟨rfl, rfl, hT9, hE9, hc9⟩
     have HLF : lookF zT 11 = 11 := by unfold lookF; rw [if_neg (by first | decide | exact HNE.out)]
     rw [HLF] at hE9 hT9
     have HT9 : Blk w9 w.heap.size 53 zT.cs := by rw [if_neg (by first | decide | exact HNE.out)] at hT9; exact hT9
     have HB9 : Below w.heap.size w w9 := HKZ.out.bel.trans (hc9.below HKZ.out.bel.size (by simp))
     have v0 : w9.cell? ⟨w.heap.size + 1, 0, none⟩ = some (.int .i64 11) := hE9.cell 0
     exact ⟨_, results_cells2 (ty2 := 28) rfl _ HT9 rfl Tryz.underlying53 infoTx (a2 := ⟨w.heap.size + 1, 0, none⟩) (v := .int .i64 11) rfl (by simp [go_sem, v0]), zT, rfl, (fun h => by cases h), (fun _ => rfl), HB9⟩
    ·have d1 : decide (tv ≤ 10) = false := decide_eq_false hlow
     have hbe : be = if rightT (backX L key none 0 none 0) = true then 0 else 4 := by rw [HBE.out, if_neg (by simp), if_neg hlow]
     have HBE2 := Lib.hid hbe
     obtain ⟨am, ham⟩ : ∃ am : Nat, tv = ((am + 10 : Nat) : Int) := ⟨tv.toNat - 10, by have := HTV.out; omega⟩
     have HAM : Hid (0 < am ∧ am < 18446744073709551616) := Lib.hid (by have := HTV.out; omega)
     have hwr : IntKind.u64.wrap (tv - 10) = (am : Int) := by rw [IntWalk.u64_in _ (by have := HTV.out; omega)]; omega
     have HAX : Hid (tv.toNat - 10 = am) := Lib.hid (by omega)
     clear hbe HBE hlow HTV ham
     go_upto_region 13 with fail
     refine wp_gen fun W7 hW7 => ?_
     rw [← hW7] at HK1
     clear hW7 e0 f0 m0 d1
     go_wp2_with fail
     refine (cfrom_any 3 A L c W7 ((HS.out.below HK1.out.bel).more HK1.out.bel.size) hl).mono ?_
     rintro e W8 ⟨A', c', rfl, hO, hn, _, hb⟩
     have HO8 := Lib.hid (hO.mono HK1.out.bel.size)
     have HN8 := Lib.hid hn
     have HK8 := Lib.hid (HK1.out.go hb)
     have q0 : W8.cell? ⟨w.heap.size, 0, none⟩ = some (.slice none 0 0) := HK8.out.hd.cell 0
     have r0 : W8.frozen? ⟨w.heap.size, 0, none⟩ = false := HK8.out.hd.frozen 0
     clear hO hn hb HK1
     go_upto_region 14 with fail
     refine wp_gen fun W9 hW9 => ?_
     have HC9 : Hid (Ch [w.heap.size] W8 W9) := Lib.hid (by rw [hW9]; exact Ch.set_ (by simp) _ _ _)
     have HT9 : Hid (Blk W9 w.heap.size 53 #[.slice A' L.length c', .slice none 0 0, .int .u64 0, .string ByteArray.empty, .string ByteArray.empty, .slice none 0 0]) := Lib.hid (by rw [hW9]; exact HK8.out.hd.set_ 0 (.slice A' L.length c'))
     have HO9 := Lib.hid (own_chT HO8.out HC9.out HK8.out.hd.kdT (by decide))
     have HE9 := Lib.hid (HK8.out.no.ch HC9.out (by simp))
     have HB9 : Hid (Below w.heap.size w W9) := Lib.hid (HK8.out.bel.trans (HC9.out.below HK8.out.bel.size (by simp)))
     have q1 : ∀ o, (W9.alloc o).cell? ⟨w.heap.size, 1, none⟩ = some (.slice none 0 0) := fun o => (HT9.out.alloc o).cell 1
     have r1 : ∀ o, (W9.alloc o).frozen? ⟨w.heap.size, 1, none⟩ = false := fun o => (HT9.out.alloc o).frozen 1
     have HLT : Hid (w.heap.size + 1 < W9.heap.size) := Lib.hid HE9.out.lt
     clear hW9 HC9 HO8 q0 r0 HK8
     go_upto_region 15 with fail
     refine wp_gen fun Wx hWx => ?_
     have hOB : Blk (W9.alloc (.cells (payO am key).cs 81)) W9.heap.size 81 (payO am key).cs := Blk.new _ _ _
     have hcx : Ch [w.heap.size] (W9.alloc (.cells (payO am key).cs 81)) Wx := by rw [hWx]; exact Ch.set_ (by simp) _ _ _
     have HTX : Hid (Blk Wx w.heap.size 53 (backX L key A' c' (some ⟨W9.heap.size, 0, none⟩) 1).cs) := Lib.hid (by
      have h1 := (HT9.out.alloc (.cells (payO am key).cs 81)).set_ 1 (.slice (some ⟨W9.heap.size, 0, none⟩) 1 1)
      rw [HBX A' c' (some ⟨W9.heap.size, 0, none⟩) 1, HAX.out, hWx]
      show Blk _ _ _ #[.slice A' (insOf L 3 ByteArray.empty).length c', _, _, _, _, _]
      rw [insOf_len]
      exact h1)
     have hab : Below W9.heap.size W9 (W9.alloc (.cells (payO am key).cs 81)) := (Below.refl _ _).alloc (Nat.le_refl _) _
     have HR1 : Hid (Wx.ownsRow w.heap.size 59 4 (.slice A' L.length c') L.length ((insOf L 3 ByteArray.empty).flatMap Inp.cl)) := Lib.hid (own_chT (own_belT HO9.out hab) hcx (HT9.out.alloc _).kdT (by decide))
     have HR2 : Hid (Wx.ownsRow w.heap.size 81 9 (.slice (some ⟨W9.heap.size, 0, none⟩) 1 1) 1 (payO am key).cl) := Lib.hid (own_chT (by have := World.ownsRow_lit (base := w.heap.size) (size := 9) (e := 81) W9 (payO am key).cs 1 HB9.out.size (by decide) rfl; exact this) hcx (HT9.out.alloc _).kdT (by decide))
     have HKX : Hid (LkS w w.heap.size (w.heap.size + 1) (backX L key A' c' (some ⟨W9.heap.size, 0, none⟩) 1) 0 Wx) := Lib.hid ⟨HTX.out, (HE9.out.alloc _).ch hcx (by simp), (HB9.out.trans (hab.mono HB9.out.size)).trans (hcx.below (by simp; exact Nat.le_trans HB9.out.size (Nat.le_succ _)) (by simp)), by omega, by omega⟩
     clear hWx hOB hcx hab HTX HT9 HO9 HE9 HB9 q1 r1
     generalize W9.heap.size = go at *
     have e0 : Wx.cell? ⟨w.heap.size + 1, 0, none⟩ = some (.int .i64 0) := HKX.out.no.cell 0
     have HRT := Lib.hid (backX_right L key A' c' (some ⟨go, 0, none⟩) 1)
     go_wp2_with (first
      | (refine wpList_load_blk rfl 53 (.tmp 4) rfl w.heap.size 0 6 HKX.out.hd (backX L key A' c' (some ⟨go, 0, none⟩) 1).cs (by rfl) (txn_ext _) Tryz.underlying53 infoTx (Nat.le_refl 6) ?_)
      | (refine wpList_store_part rfl 53 (.tmp 4) (.tmp 46) rfl w.heap.size 0 HKX.out.hd (backX L key A' c' (some ⟨go, 0, none⟩) 1).cs (backX L key A' c' (some ⟨go, 0, none⟩) 1).cs (by rfl) (by rfl) (Nat.le_refl 6) infoTx (txncs_one _) (txn_over _ rfl) ?_; intro W8 hb8 hc8; have HK8 := Lib.hid (HKX.out.to (t' := backX L key A' c' (some ⟨go, 0, none⟩) 1) hc8 hb8); have HR3 := Lib.hid (own_chT HR1.out hc8 HKX.out.hd.kdT (by decide)); have HR4 := Lib.hid (own_chT HR2.out hc8 HKX.out.hd.kdT (by decide)); have y0 : W8.cell? ⟨w.heap.size + 1, 0, none⟩ = some (.int .i64 0) := HK8.out.no.cell 0; have z0 : W8.frozen? ⟨w.heap.size + 1, 0, none⟩ = false := HK8.out.no.frozen 0; clear hb8 hc8))
     have HKZ := Lib.hid (HK8.out.no_ 0)
     have HC5 : Hid (Ch [w.heap.size + 1] W8 (W8.setCell ⟨w.heap.size + 1, 0, none⟩ (.int .i64 0))) := Lib.hid (Ch.set_ (by simp) _ _ _)
     have HR5 : Hid (TxRows w.heap.size (W8.setCell ⟨w.heap.size + 1, 0, none⟩ (.int .i64 0)) (backX L key A' c' (some ⟨go, 0, none⟩) 1)) := Lib.hid (by
      refine ⟨?_, own_chT (by rw [HBX A' c' (some ⟨go, 0, none⟩) 1, HAX.out]; simpa using HR4.out) HC5.out HK8.out.no.kdT (by decide), own_nil0 _ _ _ _, ⟨HN8.out, (fun h => by cases h), (fun _ => rfl)⟩⟩
      show World.ownsRow _ _ _ _ (.slice A' (insOf L 3 ByteArray.empty).length c') (insOf L 3 ByteArray.empty).length _
      rw [insOf_len]
      exact own_chT HR3.out HC5.out HK8.out.no.kdT (by decide))
     refine leaves_cons (f := 101) (args := #[.pointer (some ⟨w.heap.size, 0, none⟩), .pointer (some ⟨w.heap.size + 1, 0, none⟩)]) (by simp) (by simp [go_sem]) ?_
     refine (clook_gen w.heap.size (w.heap.size + 1) (backX L key A' c' (some ⟨go, 0, none⟩) 1) 0 .returning _ HKZ.out.hd HKZ.out.no HR5.out.mem (by show (insOf L 3 ByteArray.empty).length ≤ 1000; rw [insOf_len]; exact hl) (by show 1 ≤ 1000; decide) (by show 0 ≤ 1000; decide)).mono ?_
     rintro e u' w9 ⟨rfl, rfl, hT9, hE9, hc9⟩
     have hlf : lookF (backX L key A' c' (some ⟨go, 0, none⟩) 1) 0 = be := by unfold lookF; rw [if_pos rfl, HRT.out, HBE2.out]
     rw [hlf] at hE9 hT9
     have HB9 : Below w.heap.size w w9 := HKZ.out.bel.trans (hc9.below HKZ.out.bel.size (by simp))
     have v0 : w9.cell? ⟨w.heap.size + 1, 0, none⟩ = some (.int .i64 be) := hE9.cell 0
     have HR9 : TxRows w.heap.size w9 (backX L key A' c' (some ⟨go, 0, none⟩) 1) := by
      have hT := HKZ.out.hd.kdT
      have hE := HKZ.out.no.kdT
      exact ⟨own_ch2 HR5.out.r1 hc9 hT hE (by decide) (by decide), own_ch2 HR5.out.r2 hc9 hT hE (by decide) (by decide), own_ch2 HR5.out.r3 hc9 hT hE (by decide) (by decide), HR5.out.nz⟩
     by_cases hbz : be = 0
     ·rw [if_pos hbz] at hT9
      exact ⟨_, results_cells2 (ty2 := 28) rfl _ hT9 rfl Tryz.underlying53 infoTx (a2 := ⟨w.heap.size + 1, 0, none⟩) (v := .int .i64 be) rfl (by simp [go_sem, v0]), _, rfl, (fun _ => ⟨HR9, A', c', _, 1, rfl⟩), (fun h => absurd hbz h), HB9⟩
     ·rw [if_neg hbz] at hT9
      exact ⟨_, results_cells2 (ty2 := 28) rfl _ hT9 rfl Tryz.underlying53 infoTx (a2 := ⟨w.heap.size + 1, 0, none⟩) (v := .int .i64 be) rfl (by simp [go_sem, v0]), zT, rfl, (fun h => absurd h hbz), (fun _ => rfl), HB9⟩
   ·have m0 : (te != 0) = true := by rw [bne_iff_ne]; exact hte
    obtain rfl : be = te := by rw [HBE.out, if_pos hte]
    have HNE := Lib.hid hte
    clear HBE HTV hte
    go_upto_region 10 with fail
    refine wp_gen fun W7 hW7 => ?_
    rw [← hW7] at HK1
    clear hW7 e0 f0 m0
    have e0 : W7.cell? ⟨w.heap.size + 1, 0, none⟩ = some (.int .i64 _) := HK1.out.no.cell 0
    have f0 : W7.frozen? ⟨w.heap.size + 1, 0, none⟩ = false := HK1.out.no.frozen 0
    go_wp2_with (first
     | (refine wpList_load_blk rfl 53 (.tmp 4) rfl w.heap.size 0 6 HK1.out.hd zTx (by rfl) (by rfl) Tryz.underlying53 infoTx (Nat.le_refl 6) ?_)
     | (refine wpList_store_part rfl 53 (.tmp 4) (.tmp 31) rfl w.heap.size 0 HK1.out.hd zTx zTx (by rfl) (by rfl) (Nat.le_refl 6) infoTx zTx_one (txn_over zT rfl) ?_; intro W8 hb8 hc8; have HK8 := Lib.hid (HK1.out.to (t' := zT) hc8 hb8); have y0 := HK8.out.no.cell 0; have z0 : W8.frozen? ⟨w.heap.size + 1, 0, none⟩ = false := HK8.out.no.frozen 0; clear hb8 hc8)
     | (refine wpList_store_part rfl 53 (.tmp 4) (.tmp 36) rfl w.heap.size 0 HK1.out.hd zTx zTx (by rfl) (by rfl) (Nat.le_refl 6) infoTx zTx_one (txn_over zT rfl) ?_; intro W8 hb8 hc8; have HK8 := Lib.hid (HK1.out.to (t' := zT) hc8 hb8); have y0 := HK8.out.no.cell 0; have z0 : W8.frozen? ⟨w.heap.size + 1, 0, none⟩ = false := HK8.out.no.frozen 0; clear hb8 hc8))
    have HKZ := Lib.hid (HK8.out.no_ be)
    refine leaves_cons (f := 101) (args := #[.pointer (some ⟨w.heap.size, 0, none⟩), .pointer (some ⟨w.heap.size + 1, 0, none⟩)]) (by simp) (by simp [go_sem]) ?_
    refine (clook_gen w.heap.size (w.heap.size + 1) zT be .returning _ HKZ.out.hd HKZ.out.no (zT_mem _) (by decide) (by decide) (by decide)).mono ?_
    rintro e u' w9 ⟨rfl, rfl, hT9, hE9, hc9⟩
    have HLF : lookF zT be = be := by unfold lookF; rw [if_neg (by first | decide | exact HNE.out)]
    rw [HLF] at hE9 hT9
    have HT9 : Blk w9 w.heap.size 53 zT.cs := by rw [if_neg (by first | decide | exact HNE.out)] at hT9; exact hT9
    have HB9 : Below w.heap.size w w9 := HKZ.out.bel.trans (hc9.below HKZ.out.bel.size (by simp))
    have v0 : w9.cell? ⟨w.heap.size + 1, 0, none⟩ = some (.int .i64 be) := hE9.cell 0
    exact ⟨_, results_cells2 (ty2 := 28) rfl _ HT9 rfl Tryz.underlying53 infoTx (a2 := ⟨w.heap.size + 1, 0, none⟩) (v := .int .i64 be) rfl (by simp [go_sem, v0]), zT, rfl, (fun h => absurd h HNE.out), (fun _ => rfl), HB9⟩
end
end Go.Proofs.YtjcinncphffgaaaGreat
