/- claim: from of any entries; look of any transaction. -/
import Derived.Outline
import Derived.OwnWalk
import Derived.Defers
import Derived.Deep.AppendLies
import Derived.Test.YtjcinncphffgaaaGreatMiSgE
import Derived.Test.YtjcinncphffgaaaGreatMiSmC
set_option linter.unusedVariables false
set_option linter.unusedSimpArgs false
namespace Go.Proofs.YtjcinncphffgaaaGreat
section
open Go.RowKit Go.Maps
set_option maxRecDepth 100000 in
set_option maxHeartbeats 1000000 in
theorem cfrom_any (path : Int) (A : Option Addr) (L : List En) (c : Nat) (w : World) (hS : Sl w w.heap.size 11 En.cl A L) (hl : L.length ≤ 1000) :
  Calls Tryz.prog 103 #[.int .i64 path, .slice A L.length c] w fun e w' => ∃ A' c', e = .returned (.slice A' L.length c') ∧ w'.ownsRow w.heap.size 59 4 (.slice A' L.length c') L.length ((insOf L path ByteArray.empty).flatMap Inp.cl) ∧ (A' = none → c' = 0) ∧ (L.length = 0 → A' = none ∧ c' = 0) ∧ Below w.heap.size w w' := by
 obtain ⟨i0, hi, hz0, hz1, hz2⟩ := info_parts Tryz.infoIn4
 have Hhz := Lib.hid hz0
 have HS := Lib.hid hS
 clear hz0 hS
 go_enter Tryz.func103, Tryz.ntmps103
 go_wp2_with fail
 go_loopw [5, 10] (fun v5 v10 wr => ∃ (k : Nat) (B : Option Addr) (d : Nat), k ≤ L.length ∧ v5 = .slice B k d ∧ v10 = .int .i64 k ∧ (k = 0 → B = none ∧ d = 0) ∧ Hid (wr.ownsRow w.heap.size 59 4 (.slice B k d) k ((insOf (L.take k) path ByteArray.empty).flatMap Inp.cl)) ∧ Hid (Below w.heap.size w wr)) (fun _ v10 _ => L.length - (intOf v10).toNat)
 case atStart => exact ⟨0, none, 0, Nat.zero_le _, rfl, rfl, (fun _ => ⟨rfl, rfl⟩), Lib.hid (own_nil _ _ _ _), Lib.hid (Below.refl _ _)⟩
 case round =>
  obtain ⟨k, B, d, hk, rfl, rfl, hz0, HO, HB⟩ := hrel
  have HZ0 := Lib.hid hz0
  clear hz0
  by_cases hlt : k < L.length
  ·obtain ⟨ab, off, hA, hbB, hc⟩ := (HS.out.below HB.out).at_ hlt
   subst hA
   have HSN := Lib.hid (insOf_snoc L path ByteArray.empty k hlt)
   generalize L[k] = x at hc HSN
   generalize (insOf (L.take k) path ByteArray.empty).flatMap Inp.cl = ff at HO HSN
   have HC := Lib.hid hc
   have d0 : decide (k < L.length) = true := decide_eq_true hlt
   have d1 : decide ((k : Int) < (L.length : Int)) = true := decide_eq_true (by omega)
   have n0 : (0 : Int) ≤ (k : Int) := by omega
   have n1 : (k : Int) < (L.length : Int) := by omega
   clear hc
   go_upto_region 5 with (first
    | (refine wpList_load_en rfl (.tmp 12) rfl ab (off + k * 11) (by rfl) x HC.out ?_)
    | (refine wpList_store_part rfl 89 (.tmp 7) (.tmp 13) rfl wr.heap.size 0 (cs := zEnt) (Blk.new _ _ _) x.cs x.cs (by rfl) (by rfl) (Nat.le_refl 11) infoEnt (encs_one x) (en_over x rfl) ?_; intro W1 hb1 hc1; have hb := bel_st' hc1; have H7 := Lib.hid hb1; have HO1 := Lib.hid (own_belT HO.out hb); have HB1 := Lib.hid (HB.out.trans (hb.mono HB.out.size)); clear hb1 hc1 hb))
   try go_frame
   generalize wr.heap.size = g7 at H7 ⊢
   have hba : Below W1.heap.size W1 (W1.alloc (.cells (Inp.mk x.tx x.out path ByteArray.empty).cs 59)) := (Below.refl _ _).alloc (Nat.le_refl _) _
   have HO2 := Lib.hid (own_belT HO1.out hba)
   have HB2 := Lib.hid (HB1.out.trans (hba.mono HB1.out.size))
   have HNB : Hid (Blk (W1.alloc (.cells (Inp.mk x.tx x.out path ByteArray.empty).cs 59)) W1.heap.size 59 (Inp.mk x.tx x.out path ByteArray.empty).cs) := Blk.new _ _ _
   have HNW := Lib.hid (World.news_of_block HNB.out)
   clear hba HO1 HB1 HO HB HC
   go_upto_region 6 with (first
    | (refine wpList_load_blk rfl 57 (.tmp 15) rfl g7 0 2 H7.out #[.string x.tx, .int .i64 x.out] (by rfl) (by rfl) Tryz.underlying57 infoPnt (by show 2 ≤ 11; omega) ?_)
    | (at_builtin; refine wpList_append_lies _ rfl (.tmp 14) (.tmp 19) _ rfl w.heap.size 59 i0 _ 4 48 Tryz.underlying47 hi Hhz.out hz1 hz2 rfl (by omega) (.slice B k d) k ff rfl HO2.out ⟨W1.heap.size, 0, none⟩ 1 1 (Inp.mk x.tx x.out path ByteArray.empty).cl rfl rfl HNW.out (incl1 _) (by omega) (by simp only [maxLen]; omega) (by omega) HB2.out.size _ rfl ?_; intro gg cap W5 hown hgrow hat hlt5; have HO5 := Lib.hid hown; have HB5 := Lib.hid (HB2.out.grown hgrow HB2.out.size (fun j hj => own_base HO2.out j hj)); clear hown hgrow hat hlt5 HO2 HB2 HNW HNB))
   go_wp2_with fail
   go_roundw
   case rel => exact ⟨k + 1, _, _, by omega, rfl, by go_num, (fun h => by omega), Lib.hid (by rw [HSN.out]; exact HO5.out), HB5⟩
   case measure => simp [intOf]; omega
  ·obtain rfl : k = L.length := by omega
   rw [List.take_length] at HO
   have d0 : decide (L.length < L.length) = false := by simp
   have HN : Hid (B = none → d = 0) := Lib.hid (fun h => by subst h; exact own_noneC HO.out)
   go_wp2_with fail
   go_ret
   exact ⟨B, d, rfl, HO.out, HN.out, HZ0.out, HB.out⟩
/-- a row stays where two blocks of other types are changed -/
theorem own_ch2 {g g' : Nat} {w w' : World} {base n size : Nat} {t t' e : TypeId} {v : Value} {xs : List Value} (h : w.ownsRow base e size v n xs) (hc : Ch [g, g'] w w') (hg : KdT w g t) (hg' : KdT w g' t') (hne : t ≠ e) (hne' : t' ≠ e) : w'.ownsRow base e size v n xs :=
 Ch.owns hc h (fun b hb hm => by
  have h1 := hg.own_ne h hne b hb
  have h2 := hg'.own_ne h hne' b hb
  simp at h1 h2 hm
  rcases hm with e | e
  ·exact h1 e
  ·exact h2 e)
/-- no transaction -/
def zT : Txn := ⟨none, [], 0, none, [], 0, noPf⟩
/-- what look leaves of a transaction and a number -/
noncomputable def lookF (t : Txn) (f : Int) : Int := if f = 0 then (if rightT t = true then 0 else 4) else f
set_option maxRecDepth 100000 in
set_option maxHeartbeats 1000000 in
theorem clook_gen (tb eb : Nat) (t : Txn) (f : Int) (u : FrameMode) (w : World) (hT : Blk w tb 53 t.cs) (hE : Blk w eb 28 #[.int .i64 f]) (hm : t.mem w) (h1 : t.ins.length ≤ 1000) (h2 : t.outs.length ≤ 1000) (h3 : t.p.l.length ≤ 1000) :
  CallsD Tryz.prog 101 #[.pointer (some ⟨tb, 0, none⟩), .pointer (some ⟨eb, 0, none⟩)] u w fun e u' w' => u' = u ∧ e = .returned (.tuple #[]) ∧ Blk w' tb 53 (if lookF t f = 0 then t.cs else zTx) ∧ Blk w' eb 28 #[.int .i64 (lookF t f)] ∧ Ch [tb, eb] w w' := by
 have HR := Lib.hid (right_gen t w hm h1 h2 h3)
 have HT := Lib.hid hT
 have HE := Lib.hid hE
 have HLF : Hid (lookF t f = if f = 0 then (if rightT t = true then 0 else 4) else f) := Lib.hid rfl
 have e0 : w.cell? ⟨eb, 0, none⟩ = some (.int .i64 f) := hE.cell 0
 have HNE : Hid (tb ≠ eb) := Lib.hid (hT.ne_ hE (by decide))
 clear hT hE hm h1 h2 h3
 generalize lookF t f = lf at HLF ⊢
 by_cases hf : f = 0
 ·subst hf
  have d0 : ((0 : Int) == 0) = true := rfl
  cases hr : rightT t with
  | true =>
   obtain rfl : lf = 0 := by rw [HLF.out, if_pos rfl, hr]; rfl
   rw [hr] at HR
   clear hr HLF
   go_enter_d Tryz.func101, Tryz.ntmps101
   go_wp2_with (refine wpList_load_blkG (by rfl) 53 (.tmp 10) rfl tb 0 6 HT.out t.cs (by rfl) (txn_ext t) Tryz.underlying53 infoTx (Nat.le_refl 6) ?_)
   refine HR.out.mono ?_
   rintro e w1 ⟨rfl, hb1⟩
   have f0 : w1.cell? ⟨eb, 0, none⟩ = some (.int .i64 0) := (HE.out.bel hb1).cell 0
   have HB1 := Lib.hid hb1
   clear hb1
   go_wp2
   go_end0
   exact ⟨rfl, HT.out.bel HB1.out, HE.out.bel HB1.out, Ch.of_below HB1.out _⟩
  | false =>
   obtain rfl : lf = 4 := by rw [HLF.out, if_pos rfl, hr]; rfl
   rw [hr] at HR
   clear hr HLF
   go_enter_d Tryz.func101, Tryz.ntmps101
   go_wp2_with (refine wpList_load_blkG (by rfl) 53 (.tmp 10) rfl tb 0 6 HT.out t.cs (by rfl) (txn_ext t) Tryz.underlying53 infoTx (Nat.le_refl 6) ?_)
   refine HR.out.mono ?_
   rintro e w1 ⟨rfl, hb1⟩
   have HE1 := Lib.hid (HE.out.bel hb1)
   have HT1 := Lib.hid (HT.out.bel hb1)
   have f0 : w1.cell? ⟨eb, 0, none⟩ = some (.int .i64 0) := HE1.out.cell 0
   have z0 : w1.frozen? ⟨eb, 0, none⟩ = false := HE1.out.frozen 0
   have HC1 : Hid (Ch [tb, eb] w w1) := Lib.hid (Ch.of_below hb1 _)
   have HE2 : Hid (Blk (w1.setCell ⟨eb, 0, none⟩ (.int .i64 4)) eb 28 #[.int .i64 4]) := Lib.hid (HE1.out.set_ 0 (.int .i64 4))
   have HT2 : Hid (Blk (w1.setCell ⟨eb, 0, none⟩ (.int .i64 4)) tb 53 t.cs) := Lib.hid (HT1.out.far (p := ⟨eb, 0, none⟩) HNE.out _)
   have HC2 : Hid (Ch [tb, eb] w (w1.setCell ⟨eb, 0, none⟩ (.int .i64 4))) := Lib.hid (HC1.out.trans (Ch.set_ (by simp) _ _ _))
   clear hb1
   go_wp2_with (refine wpList_store_part rfl 53 (.tmp 23) (.tmp 22) rfl tb 0 HT2.out zTx zTx (by rfl) (by rfl) (Nat.le_refl 6) infoTx zTx_one (txn_over zT rfl) ?_; intro W8 hb8 hc8; have HZ8 := Lib.hid hb8; have HC8 := Lib.hid hc8; clear hb8 hc8)
   go_end0
   exact ⟨rfl, HZ8.out, HE2.out.ch HC8.out (by have := HNE.out; simp; omega), HC2.out.trans (HC8.out.mono (by simp))⟩
 ·have d0 : (f == 0) = false := beq_eq_false_iff_ne.2 hf
  have d1 : (f != 0) = true := by rw [bne_iff_ne]; exact hf
  have d2 : ¬ f = 0 := hf
  obtain rfl : lf = f := by rw [HLF.out, if_neg hf]
  clear HLF HR hf
  go_enter_d Tryz.func101, Tryz.ntmps101
  go_wp2_with (refine wpList_store_part rfl 53 (.tmp 23) (.tmp 22) rfl tb 0 HT.out zTx zTx (by rfl) (by rfl) (Nat.le_refl 6) infoTx zTx_one (txn_over zT rfl) ?_; intro W8 hb8 hc8; have HZ8 := Lib.hid hb8; have HC8 := Lib.hid hc8; clear hb8 hc8)
  go_end0
  exact ⟨rfl, by first | exact HZ8.out | (rw [if_neg d2]; exact HZ8.out), HE.out.ch HC8.out (by have := HNE.out; simp; omega), HC8.out.mono (by simp)⟩
end
end Go.Proofs.YtjcinncphffgaaaGreat
