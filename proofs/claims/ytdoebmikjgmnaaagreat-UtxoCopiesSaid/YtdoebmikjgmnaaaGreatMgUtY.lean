/- law11's Spend. -/
import Derived.Outline
import Derived.Laws.OwnMore
import Derived.Deep.RegionHeld3
import Derived.Deep.AppendLies
import Derived.Test.YtdoebmikjgmnaaaGreatMgG09
import Derived.Test.YtdoebmikjgmnaaaGreatMgG16
import Derived.Test.YtdoebmikjgmnaaaGreatMgG24
import Derived.Test.YtdoebmikjgmnaaaGreatMgG31
import Derived.Test.YtdoebmikjgmnaaaGreatMgG33
import Derived.Test.YtdoebmikjgmnaaaGreatMgG34
set_option linter.unusedVariables false
set_option linter.unusedSimpArgs false
namespace Go.Proofs.YtdoebmikjgmnaaaGreat
open Go.RowKit Go.Maps Go.Sort
/-- inputs that spend all of some outputs -/
def insOf (L : List En) (path : Int) (sig : ByteArray) : List Inp := L.map fun e => ⟨e.tx, e.out, path, sig⟩
def spendT (A : Option Addr) (c : Nat) (L : List En) (path : Int) (B : Option Addr) (outs : List Ou) (d : Nat) (p : Pf) (sig : ByteArray) : Txn := ⟨A, insOf L path sig, c, B, outs, d, p⟩
theorem insOf_len (L : List En) (path : Int) (sig : ByteArray) : (insOf L path sig).length = L.length := by simp [insOf]
theorem insOf_snoc (L : List En) (path : Int) (sig : ByteArray) (k : Nat) (h : k < L.length) : (insOf (L.take (k + 1)) path sig).flatMap Inp.cl = (insOf (L.take k) path sig).flatMap Inp.cl ++ (Inp.mk L[k].tx L[k].out path sig).cl := by
  unfold insOf
  rw [List.take_succ_eq_append_getElem h, List.map_append, List.flatMap_append]; simp
/-- the first k signed -/
def insK (L : List En) (path : Int) (sig : ByteArray) (k : Nat) : List Inp := insOf (L.take k) path sig ++ insOf (L.drop k) path ByteArray.empty
theorem insK_len (L : List En) (path : Int) (sig : ByteArray) (k : Nat) : (insK L path sig k).length = L.length := by
  unfold insK
  rw [List.length_append, insOf_len, insOf_len, ← List.length_append, List.take_append_drop]
theorem insK_zero (L : List En) (path : Int) (sig : ByteArray) : insK L path sig 0 = insOf L path ByteArray.empty := by simp [insK, insOf]
theorem insK_all (L : List En) (path : Int) (sig : ByteArray) : insK L path sig L.length = insOf L path sig := by simp [insK, insOf]
theorem flat4_len (l : List Inp) : (l.flatMap Inp.cl).length = 4 * l.length := by
  induction l with
  | nil => rfl
  | cons x r ih => rw [List.flatMap_cons, List.length_append, ih, incl_len]; simp only [List.length_cons]; omega
theorem insK_set (L : List En) (path : Int) (sig : ByteArray) (k : Nat) (h : k < L.length) : ((insK L path sig k).flatMap Inp.cl).set (k * 4 + 3) (.string sig) = (insK L path sig (k + 1)).flatMap Inp.cl := by
  unfold insK
  have hd : L.drop k = L[k] :: L.drop (k + 1) := List.drop_eq_getElem_cons h
  have h4 : ((insOf (L.take k) path sig).flatMap Inp.cl).length = k * 4 := by rw [flat4_len, insOf_len, List.length_take, Nat.min_eq_left (by omega)]; omega
  rw [List.flatMap_append, List.flatMap_append, insOf_snoc L path sig k h, List.set_append_right _ _ (by omega), h4, Nat.add_sub_cancel_left, hd]
  simp only [insOf, List.map_cons, List.flatMap_cons, List.append_assoc]
  rfl
theorem insK_at (L : List En) (path : Int) (sig : ByteArray) (k : Nat) (h : k < L.length) : ((insK L path sig k).flatMap Inp.cl)[k * 4 + 3]? = some (.string ByteArray.empty) := by
  unfold insK
  have hd : L.drop k = L[k] :: L.drop (k + 1) := List.drop_eq_getElem_cons h
  have h4 : ((insOf (L.take k) path sig).flatMap Inp.cl).length = k * 4 := by rw [flat4_len, insOf_len, List.length_take, Nat.min_eq_left (by omega)]; omega
  rw [List.flatMap_append, List.getElem?_append_right (by omega), h4, Nat.add_sub_cancel_left, hd]
  rfl
theorem Tryz.infoInB : (Tryz.prog.info? 64).map (fun i => (i.zero, i.size, i.bytes)) = some (some (.agg #[.string ByteArray.empty, .int .i64 0, .int .i64 0, .string ByteArray.empty]), 4, 48) := by kernel_rfl
def spC0 (A : Option Addr) (k c : Nat) (B : Option Addr) (n d : Nat) (p : Pf) : Array Value := #[.slice A k c, .slice B n d, .int .u64 (p.am : Nat), .string p.sig, .string p.tok, .slice p.A p.l.length p.c]
theorem spC0_one (A : Option Addr) (k c : Nat) (B : Option Addr) (n d : Nat) (p : Pf) : (spC0 A k c B n d p).all (·.oneCell') = true := by
  rw [Array.all_eq_true']
  intro x hx
  simp only [spC0, List.mem_toArray, List.mem_cons, List.not_mem_nil, or_false] at hx
  rcases hx with rfl | rfl | rfl | rfl | rfl | rfl <;> rfl
theorem spC0_over (A : Option Addr) (k c : Nat) (B : Option Addr) (n d : Nat) (p : Pf) {cs : Array Value} (h : cs.size = 6) : over cs 0 (spC0 A k c B n d p).toList = spC0 A k c B n d p := (over_full (spC0 A k c B n d p).toList cs (by rw [h]; rfl)).trans (Array.toArray_toList ..)
theorem spC0_tx (A : Option Addr) (c : Nat) (l : List Inp) (B : Option Addr) (outs : List Ou) (d : Nat) (p : Pf) : spC0 A l.length c B outs.length d p = (Txn.mk A l c B outs d p).cs := rfl
def zTx0 : Array Value := #[.slice none 0 0, .slice none 0 0, .int .u64 0, .string ByteArray.empty, .string ByteArray.empty, .slice none 0 0]
theorem inc_len4 (i : Inp) : i.cl.length = 4 := rfl
theorem incl_one (i : Inp) : ∀ u ∈ i.cl, u.oneCell' = true := by
  intro u hu
  simp only [Inp.cl, Inp.cs, List.mem_cons, List.not_mem_nil, or_false] at hu
  rcases hu with rfl | rfl | rfl | rfl <;> rfl
theorem ch_below {S : List Nat} {w w6 wr : World} (h : Ch S w w6) (hb : Below w.heap.size w6 wr) : Ch S w wr :=
  ⟨hb.os.trans h.os, hb.tape.trans h.tape, hb.output.trans h.output, Nat.le_trans h.size hb.size, fun i hi hn => (hb.block i hi).trans (h.block i hi hn)⟩
theorem sl_key {α : Type} {w w' : World} {k cb j0 : Nat} {enc : α → List Value} {A : Option Addr} {l : List α} {a b : Int} {Bd : Nat} (hBd : Bd ≤ w.heap.size) (h : Sl w Bd k enc A l) (hcb : Blk w cb 86 #[.int .i64 a, .int .i64 b]) (hc : Ch [cb] w w')
    (hs : ∀ x, ∃ s, (enc x)[j0]? = some (.string s)) : Sl w' Bd k enc A l := fun hn => by
  obtain ⟨bk, off, hA, hlt, hcells⟩ := h hn
  have hbk : bk ≠ cb := by
    rintro rfl
    obtain ⟨x, r, rfl⟩ : ∃ x r, l = x :: r := by
      cases l with
      | nil => exact absurd rfl hn
      | cons x r => exact ⟨x, r, rfl⟩
    obtain ⟨s, hj⟩ := hs x
    have h0 := hcells 0 x rfl j0 _ hj
    rw [hcb.cell] at h0
    match off + 0 * k + j0, h0 with
    | 0, h0 => simp at h0
    | 1, h0 => simp at h0
    | n + 2, h0 => simp at h0
  refine ⟨bk, off, hA, hlt, fun i x hx j u hu => ?_⟩
  have e := hc.block bk (Nat.lt_of_lt_of_le hlt hBd) (by simpa using hbk)
  rw [← hcells i x hx j u hu]
  unfold World.cell?
  rw [e]
theorem txn_over (t : Txn) {cs : Array Value} (h : cs.size = 6) : over cs 0 t.cs.toList = t.cs := (over_full t.cs.toList cs (by rw [h]; rfl)).trans (Array.toArray_toList ..)
theorem spend_cs (A : Option Addr) (c : Nat) (L : List En) (path : Int) (B : Option Addr) (outs : List Ou) (d : Nat) (p : Pf) (sig : ByteArray) : (spendT A c L path B outs d p sig).cs = (spendT A c L path B outs d p ByteArray.empty).cs := by
  unfold spendT Txn.cs
  simp only [insOf_len]
/-- what Spend answers -/
def SpendR (L : List En) (path : Int) (B : Option Addr) (outs : List Ou) (d : Nat) (p : Pf) (sig : ByteArray) (kb cb : Nat) (seed : ByteArray) (h i : Nat) (w : World) (e : Ending) (w' : World) : Prop :=
  ∃ A c, e = .returned (.agg (spendT A c L path B outs d p sig).cs) ∧ (spendT A c L path B outs d p sig).mem w' ∧ KeyAt w' kb cb seed h i ∧ Ch [cb] w w'
set_option maxRecDepth 100000 in
set_option maxHeartbeats 4000000 in
theorem spend_any (A0 : Option Addr) (L : List En) (c0 : Nat) (path : Int) (B : Option Addr) (outs : List Ou) (d : Nat) (p : Pf) (kb cb : Nat) (seed : ByteArray) (h i : Nat) (w : World)
    (hL : Sl w w.heap.size 11 En.cl A0 L) (hO : Sl w w.heap.size 9 Ou.cl B outs) (hP : Sl w w.heap.size 10 Wn.cl p.A p.l) (hl : L.length ≤ 1000) (hlo : outs.length ≤ 1000) (hlw : p.l.length ≤ 1000)
    (hz : ∀ o ∈ outs, o.am < 18446744073709551616 ∧ o.unit < 18446744073709551616) (hk : KeyAt w kb cb seed h i) (hh : h ≤ 4) (hi : i < 2 ^ h) (hs : seed.size ≤ 1000000) :
    Calls Tryz.prog 16 #[.slice A0 L.length c0, .int .i64 path, .slice B outs.length d, .agg p.cs, .pointer (some ⟨kb, 0, none⟩)] w
      (SpendR L path B outs d p (signB seed h i (coreX (spendT none 0 L path B outs d p ByteArray.empty))) kb cb seed h (i + 1) w) := by
  obtain ⟨i0, hi0, hz0, hz1, hz2⟩ := info_parts Tryz.infoInB
  have Hz0 := Lib.hid hz0
  have HL := Lib.hid hL
  have HO := Lib.hid hO
  have HP := Lib.hid hP
  have HK := Lib.hid hk
  have HPX : Hid (Blk ((w.alloc (.cells p.cs 51)).alloc (.cells zTx0 53)) w.heap.size 51 p.cs) := Lib.hid ((Blk.new _ _ _).alloc _)
  have HR0 : Hid (Blk ((w.alloc (.cells p.cs 51)).alloc (.cells zTx0 53)) (w.heap.size + 1) 53 zTx0) := Blk.newAt (by simp)
  have HB0 : Hid (Below w.heap.size w ((w.alloc (.cells p.cs 51)).alloc (.cells zTx0 53))) := ((Below.refl _ _).alloc (Nat.le_refl _) _).alloc (by simp) _
  have HCG := fun W A c (hm : (spendT A c L path B outs d p ByteArray.empty).mem W) => Lib.hid (core_gen (spendT A c L path B outs d p ByteArray.empty) W hm (by show (insOf L path ByteArray.empty).length ≤ 1000; rw [insOf_len]; exact hl) hlo hlw hz)
  obtain ⟨core, hcore⟩ : ∃ core, core = coreX (spendT none 0 L path B outs d p ByteArray.empty) := ⟨_, rfl⟩
  have hcz := corex_size (spendT none 0 L path B outs d p ByteArray.empty)
  rw [← hcore] at hcz
  have HCR : Hid (∀ A c, coreX (spendT A c L path B outs d p ByteArray.empty) = core) := Lib.hid (fun A c => hcore.symm)
  rw [← hcore]
  have HSG := fun W (hk : KeyAt W kb cb seed h i) => Lib.hid (ksign_ok kb cb seed core h i W hh hi hs (by omega) hk)
  generalize signB seed h i core = sig at HSG ⊢
  clear hcore hz0 hL hO hP hk hh hi hs hz
  go_enter Tryz.func16, Tryz.ntmps16
  go_wp2_with (first
    | (refine wpList_load_blk rfl 51 (.tmp 8) rfl w.heap.size 0 4 (Blk.alloc HPX.out (.cells zTx0 53)) #[.int .u64 (p.am : Nat), .string p.sig, .string p.tok, .slice p.A p.l.length p.c] (by rfl) (by rfl) Tryz.underlying51 infoPf (Nat.le_refl 4) ?_)
    | (refine wpList_load_blk rfl 51 (.tmp 8) rfl w.heap.size 0 4 HPX.out #[.int .u64 (p.am : Nat), .string p.sig, .string p.tok, .slice p.A p.l.length p.c] (by rfl) (by rfl) Tryz.underlying51 infoPf (Nat.le_refl 4) ?_)
    | (refine wpList_store_part rfl 53 (.tmp 11) (.tmp 18) rfl (w.heap.size + 2) 0 (cs := zTx0) (Blk.newAt (by simp)) (spC0 none 0 0 B outs.length d p) (spC0 none 0 0 B outs.length d p) (by rfl) (by rfl) (Nat.le_refl 6) infoTx (spC0_one ..) (spC0_over _ _ _ _ _ _ _ rfl) ?_; intro W1 hb1 hc1; have HT := Lib.hid hb1; have HR := Lib.hid (Blk.ch (HR0.out.alloc (.cells zTx0 53)) hc1 (by simp)); have HB := Lib.hid ((HB0.out.alloc (by simp; omega) (.cells zTx0 53)).trans (hc1.below (by simp; omega) (by simp))); clear hb1 hc1))
  go_loopw [12] (fun i wr => ∃ (k : Nat) (A : Option Addr) (c : Nat), k ≤ L.length ∧ i = .int .i64 k ∧ Hid (wr.ownsRow w.heap.size 64 4 (.slice A k c) k ((insOf (L.take k) path ByteArray.empty).flatMap Inp.cl)) ∧ Hid (Blk wr (w.heap.size + 2) 53 (spC0 A k c B outs.length d p)) ∧ Hid (Blk wr (w.heap.size + 1) 53 zTx0) ∧ Hid (Below w.heap.size w wr)) (fun i _ => L.length - (intOf i).toNat)
  case atStart => exact ⟨0, none, 0, Nat.zero_le _, rfl, Lib.hid (own_nil0 _ _ _ _), HT, HR, HB⟩
  case round =>
    clear HT HR HB HPX HR0 HB0
    obtain ⟨k, A, c, hk, rfl, HO1, HT, HR, HB⟩ := hrel
    by_cases hlt : k < L.length
    · have d0 : decide (k < L.length) = true := decide_eq_true hlt
      obtain ⟨ab, off, rfl, hab, hc⟩ := HL.out.at_ hlt
      have HSN := Lib.hid (insOf_snoc L path ByteArray.empty k hlt)
      generalize L[k] = x at hc HSN
      have HC := Lib.hid hc
      have HAB := Lib.hid hab
      have k1 : (k : Int) < (L.length : Int) := by omega
      clear hc hab
      go_upto_region 5 with fail
      refine wp_region_held_drew (S := fun W => Hid (Below w.heap.size w W)) (by kernel_rfl) (Lib.hid HB.out.drew) (fun hS => ?_)
      replace HT : Hid (Blk wr.drew (w.heap.size + 2) 53 (spC0 A k c B outs.length d p)) := Lib.hid (HT.out.drewN 1)
      replace HR : Hid (Blk wr.drew (w.heap.size + 1) 53 zTx0) := Lib.hid (HR.out.drewN 1)
      replace HO1 := Lib.hid HO1.out.drew
      refine wpAnyH_genT fun Y hY => ?_
      rw [← hY] at HT HR HO1 hS
      clear hY HB
      have HB : True := trivial
      refine wpAnyH_take (i := 0) (v := ?_) rfl (by kernel_rfl) (by kernel_rfl) (by kernel_rfl) (fun _ _ _ h => h) (Or.inl ⟨by rfl, ?_⟩) hS ?_
      rotate_left
      · (intro w _; go_simp; try with_reducible rfl)
      refine wpAnyH_take (i := 2) (v := ?_) rfl (by kernel_rfl) (by kernel_rfl) (by kernel_rfl) (fun _ _ _ h => h) (Or.inl ⟨by rfl, ?_⟩) hS ?_
      rotate_left
      · (intro w _; go_simp; try with_reducible rfl)
      refine wpAnyH_take (i := 3) (v := ?_) rfl (by kernel_rfl) (by kernel_rfl) (by kernel_rfl) (fun _ _ _ h => h) (Or.inl ⟨by rfl, ?_⟩) hS ?_
      rotate_left
      · (intro w _; go_simp; try with_reducible rfl)
      refine wpAnyH_take (i := 4) (v := ?_) rfl (by kernel_rfl) (by kernel_rfl) (by kernel_rfl) (fun _ _ _ h => h) (Or.inl ⟨by rfl, ?_⟩) hS ?_
      rotate_left
      · (intro w _; go_simp; try with_reducible rfl)
      refine wpAnyH_take (i := 5) (v := ?_) rfl (by kernel_rfl) (by kernel_rfl) (by kernel_rfl) (fun _ _ _ h => h) (Or.inl ⟨by rfl, ?_⟩) hS ?_
      rotate_left
      · (intro w _; go_simp; try with_reducible rfl)
      refine wpAnyH_take (i := 6) (v := .agg #[.string x.tx, .int .i64 x.out]) rfl (by kernel_rfl) (by kernel_rfl) (by kernel_rfl) (fun _ _ _ h => h) (yields_row (by rfl) 39 (.tmp 30) (by rfl) ab (off + k * 11) [.string x.tx, .int .i64 x.out] (fun W hW j v hv => rows_bel HC.out HAB.out hW.out j v (by have e : x.cl = [Value.string x.tx, .int .i64 x.out] ++ x.o.cl := rfl; rw [e, List.getElem?_append_left (by exact (List.getElem?_eq_some_iff.1 hv).1)]; exact hv)) #[.string x.tx, .int .i64 x.out] (by go_simp) (by rfl) Tryz.underlying39 infoPnt) hS ?_
      refine wpAnyH_take (i := 7) (v := ?_) rfl (by kernel_rfl) (by kernel_rfl) (by kernel_rfl) (fun _ _ _ h => h) (Or.inl ⟨by rfl, ?_⟩) hS ?_
      rotate_left
      · (intro w _; go_simp; try with_reducible rfl)
      refine wpAnyH_take (i := 8) (v := ?_) rfl (by kernel_rfl) (by kernel_rfl) (by kernel_rfl) (fun _ _ _ h => h) (Or.inl ⟨by rfl, ?_⟩) hS ?_
      rotate_left
      · (intro w _; go_simp; try with_reducible rfl)
      refine wpAnyH_ready (rs := [1, 9]) (by kernel_rfl) (by simp) (AllReadyH.cons rfl (fun K hK => ?_) (AllReadyH.cons rfl (fun K hK => ?_) AllReadyH.nil))
      · have q8 : Y.cell? ⟨w.heap.size + 2, 0, none⟩ = some (.slice A k c) := HT.out.cell 0
        go_simp
        refine hK.out _ _ hS (fun hS => ?_)
        clear hK K q8
        refine wpAnyH_ready (rs := [9]) (by kernel_rfl) (by simp) (AllReadyH.cons rfl (fun K hK => ?_) AllReadyH.nil)
        go_simp
        have HBX : Hid (Below Y.heap.size Y (Y.alloc (.cells (Inp.mk x.tx x.out path ByteArray.empty).cs 64))) := Lib.hid ((Below.refl _ _).alloc (Nat.le_refl _) _)
        have HNB : Hid (Blk (Y.alloc (.cells (Inp.mk x.tx x.out path ByteArray.empty).cs 64)) Y.heap.size 64 (Inp.mk x.tx x.out path ByteArray.empty).cs) := Blk.new _ _ _
        refine hK.out _ _ (Lib.hid (hS.out.trans (HBX.out.mono hS.out.size))) (fun hS1 => ?_)
        clear hK K
        refine wpAnyH_genT fun X1 hX1 => ?_
        replace hX1 : X1 = Y.alloc (.cells (Inp.mk x.tx x.out path ByteArray.empty).cs 64) := hX1
        have hS2 : Hid (Below w.heap.size w X1) := Lib.hid (by rw [hX1]; exact hS.out.trans (HBX.out.mono hS.out.size))
        rw [← hX1] at HBX HNB
        clear hX1 hS1 hS
        replace HT := Lib.hid (HT.out.bel HBX.out)
        replace HR := Lib.hid (HR.out.bel HBX.out)
        replace HO1 := Lib.hid (Ch.owns (Ch.of_below HBX.out []) HO1.out (by simp))
        have hS := hS2
        have HNW := Lib.hid (World.news_of_block HNB.out)
        clear HBX HNB hS2
        have hbz1 : w.heap.size ≤ X1.heap.size := hS.out.size
        refine wpAnyH_ready (rs := [10]) (by kernel_rfl) (by simp) (AllReadyH.cons rfl (fun K hK => ?_) AllReadyH.nil)
        refine step_append_lies _ (by rfl) (.tmp 26) (.tmp 34) 48 (by rfl) w.heap.size 64 i0 _ 4 48 Tryz.underlying48 hi0 Hz0.out hz1 hz2 rfl (by omega) (.slice A k c) k _ (by rfl) HO1.out ⟨Y.heap.size, 0, none⟩ 1 1 (Inp.mk x.tx x.out path ByteArray.empty).cl (by rfl) (by rfl) HNW.out (incl_one _) (by omega) (by simp only [maxLen]; omega) (by omega) hbz1 _ rfl ?_
        intro gr cap W4 hown4 hgrow hat hlt4
        replace HT := Lib.hid (Blk.grown HT.out hgrow (blk_not_row HT.out (by decide) HO1.out))
        replace HR := Lib.hid (Blk.grown HR.out hgrow (blk_not_row HR.out (by decide) HO1.out))
        have hS4 : Hid (Below w.heap.size w W4) := Lib.hid (hS.out.grown hgrow hbz1 (own_base HO1.out))
        replace HO1 := Lib.hid hown4
        have hgr : some (w.heap.size + 2) ≠ (Value.slice (some ⟨gr, 0, none⟩) (k + 1) cap).ownBlock := blk_not_row HT.out (by decide) HO1.out
        have HGR : Hid (gr ≠ w.heap.size + 2) := Lib.hid (by intro e; exact hgr (by rw [← e]; rfl))
        clear hown4 hgrow hat hlt4 HNW hgr hS hbz1
        refine hK.out _ _ hS4 (fun hS => ?_)
        clear hK K hS4
        refine wpAnyH_take (i := 11) (v := ?_) rfl (by kernel_rfl) (by kernel_rfl) (by kernel_rfl) (fun _ _ _ h => h) (Or.inl ⟨by rfl, ?_⟩) hS ?_
        rotate_left
        · (intro w _; go_simp; try with_reducible rfl)
        have q8 : W4.cell? ⟨w.heap.size + 2, 0, none⟩ = some (.slice A k c) := HT.out.cell 0
        have z8 : W4.frozen? ⟨w.heap.size + 2, 0, none⟩ = false := HT.out.frozen 0
        refine wpAnyH_ready (rs := [12]) (by kernel_rfl) (by simp) (AllReadyH.cons rfl (fun K hK => ?_) AllReadyH.nil)
        go_simp
        refine hK.out _ _ (Lib.hid (hS.out.setCell (by simp; omega) _)) (fun _ => ?_)
        clear hK K q8 z8
        refine wpAnyH_genT fun W5 hW5 => ?_
        replace HB : Hid (Below w.heap.size w W5) := Lib.hid (by rw [hW5]; exact hS.out.setCell (by simp; omega) _)
        replace HT : Hid (Blk W5 (w.heap.size + 2) 53 (spC0 (some ⟨gr, 0, none⟩) (k + 1) cap B outs.length d p)) := Lib.hid (by rw [hW5]; exact HT.out.set_ 0 _)
        replace HR : Hid (Blk W5 (w.heap.size + 1) 53 zTx0) := Lib.hid (by rw [hW5]; exact HR.out.far (by simp) _)
        replace HO1 : Hid (W5.ownsRow w.heap.size 64 4 (.slice (some ⟨gr, 0, none⟩) (k + 1) cap) (k + 1) ((insOf (L.take k) path ByteArray.empty).flatMap Inp.cl ++ (Inp.mk x.tx x.out path ByteArray.empty).cl)) := Lib.hid (by rw [hW5]; exact Ch.owns (Ch.set_ (S := [w.heap.size + 2]) (by simp) _ 0 _) HO1.out (fun b hb => by have : gr = b := Option.some.inj hb; have := HGR.out; simp; omega))
        clear hW5 hS
        refine wpAnyH_done (by kernel_rfl) ?_ _
        go_wp2_with fail
        go_roundw
        case rel => exact ⟨k + 1, some ⟨gr, 0, none⟩, cap, by omega, by go_num, Lib.hid (by rw [HSN.out]; exact HO1.out), HT, HR, HB⟩
        case measure => simp [intOf]; omega
      · go_simp
        have HBX : Hid (Below Y.heap.size Y (Y.alloc (.cells (Inp.mk x.tx x.out path ByteArray.empty).cs 64))) := Lib.hid ((Below.refl _ _).alloc (Nat.le_refl _) _)
        have HNB : Hid (Blk (Y.alloc (.cells (Inp.mk x.tx x.out path ByteArray.empty).cs 64)) Y.heap.size 64 (Inp.mk x.tx x.out path ByteArray.empty).cs) := Blk.new _ _ _
        refine hK.out _ _ (Lib.hid (hS.out.trans (HBX.out.mono hS.out.size))) (fun hS1 => ?_)
        clear hK K
        refine wpAnyH_genT fun X1 hX1 => ?_
        replace hX1 : X1 = Y.alloc (.cells (Inp.mk x.tx x.out path ByteArray.empty).cs 64) := hX1
        have hS2 : Hid (Below w.heap.size w X1) := Lib.hid (by rw [hX1]; exact hS.out.trans (HBX.out.mono hS.out.size))
        rw [← hX1] at HBX HNB
        clear hX1 hS1 hS
        replace HT := Lib.hid (HT.out.bel HBX.out)
        replace HR := Lib.hid (HR.out.bel HBX.out)
        replace HO1 := Lib.hid (Ch.owns (Ch.of_below HBX.out []) HO1.out (by simp))
        have hS := hS2
        have HNW := Lib.hid (World.news_of_block HNB.out)
        clear HBX HNB hS2
        have q8 : X1.cell? ⟨w.heap.size + 2, 0, none⟩ = some (.slice A k c) := HT.out.cell 0
        refine wpAnyH_ready (rs := [1]) (by kernel_rfl) (by simp) (AllReadyH.cons rfl (fun K hK => ?_) AllReadyH.nil)
        go_simp
        refine hK.out _ _ hS (fun hS => ?_)
        clear hK K q8
        have hbz1 : w.heap.size ≤ X1.heap.size := hS.out.size
        refine wpAnyH_ready (rs := [10]) (by kernel_rfl) (by simp) (AllReadyH.cons rfl (fun K hK => ?_) AllReadyH.nil)
        refine step_append_lies _ (by rfl) (.tmp 26) (.tmp 34) 48 (by rfl) w.heap.size 64 i0 _ 4 48 Tryz.underlying48 hi0 Hz0.out hz1 hz2 rfl (by omega) (.slice A k c) k _ (by rfl) HO1.out ⟨Y.heap.size, 0, none⟩ 1 1 (Inp.mk x.tx x.out path ByteArray.empty).cl (by rfl) (by rfl) HNW.out (incl_one _) (by omega) (by simp only [maxLen]; omega) (by omega) hbz1 _ rfl ?_
        intro gr cap W4 hown4 hgrow hat hlt4
        replace HT := Lib.hid (Blk.grown HT.out hgrow (blk_not_row HT.out (by decide) HO1.out))
        replace HR := Lib.hid (Blk.grown HR.out hgrow (blk_not_row HR.out (by decide) HO1.out))
        have hS4 : Hid (Below w.heap.size w W4) := Lib.hid (hS.out.grown hgrow hbz1 (own_base HO1.out))
        replace HO1 := Lib.hid hown4
        have hgr : some (w.heap.size + 2) ≠ (Value.slice (some ⟨gr, 0, none⟩) (k + 1) cap).ownBlock := blk_not_row HT.out (by decide) HO1.out
        have HGR : Hid (gr ≠ w.heap.size + 2) := Lib.hid (by intro e; exact hgr (by rw [← e]; rfl))
        clear hown4 hgrow hat hlt4 HNW hgr hS hbz1
        refine hK.out _ _ hS4 (fun hS => ?_)
        clear hK K hS4
        refine wpAnyH_take (i := 11) (v := ?_) rfl (by kernel_rfl) (by kernel_rfl) (by kernel_rfl) (fun _ _ _ h => h) (Or.inl ⟨by rfl, ?_⟩) hS ?_
        rotate_left
        · (intro w _; go_simp; try with_reducible rfl)
        have q8 : W4.cell? ⟨w.heap.size + 2, 0, none⟩ = some (.slice A k c) := HT.out.cell 0
        have z8 : W4.frozen? ⟨w.heap.size + 2, 0, none⟩ = false := HT.out.frozen 0
        refine wpAnyH_ready (rs := [12]) (by kernel_rfl) (by simp) (AllReadyH.cons rfl (fun K hK => ?_) AllReadyH.nil)
        go_simp
        refine hK.out _ _ (Lib.hid (hS.out.setCell (by simp; omega) _)) (fun _ => ?_)
        clear hK K q8 z8
        refine wpAnyH_genT fun W5 hW5 => ?_
        replace HB : Hid (Below w.heap.size w W5) := Lib.hid (by rw [hW5]; exact hS.out.setCell (by simp; omega) _)
        replace HT : Hid (Blk W5 (w.heap.size + 2) 53 (spC0 (some ⟨gr, 0, none⟩) (k + 1) cap B outs.length d p)) := Lib.hid (by rw [hW5]; exact HT.out.set_ 0 _)
        replace HR : Hid (Blk W5 (w.heap.size + 1) 53 zTx0) := Lib.hid (by rw [hW5]; exact HR.out.far (by simp) _)
        replace HO1 : Hid (W5.ownsRow w.heap.size 64 4 (.slice (some ⟨gr, 0, none⟩) (k + 1) cap) (k + 1) ((insOf (L.take k) path ByteArray.empty).flatMap Inp.cl ++ (Inp.mk x.tx x.out path ByteArray.empty).cl)) := Lib.hid (by rw [hW5]; exact Ch.owns (Ch.set_ (S := [w.heap.size + 2]) (by simp) _ 0 _) HO1.out (fun b hb => by have : gr = b := Option.some.inj hb; have := HGR.out; simp; omega))
        clear hW5 hS
        refine wpAnyH_done (by kernel_rfl) ?_ _
        go_wp2_with fail
        go_roundw
        case rel => exact ⟨k + 1, some ⟨gr, 0, none⟩, cap, by omega, by go_num, Lib.hid (by rw [HSN.out]; exact HO1.out), HT, HR, HB⟩
        case measure => simp [intOf]; omega
    · have d0 : decide (k < L.length) = false := decide_eq_false hlt
      obtain rfl : k = L.length := by omega
      rw [List.take_length] at HO1
      have HM := Lib.hid (show (spendT A c L path B outs d p ByteArray.empty).mem wr from ⟨Sl.of_own (base := w.heap.size) (n := L.length) (c := c) (e := 64) (fun _ => rfl) (by have := HO1.out; show wr.ownsRow _ _ _ _ (insOf L path ByteArray.empty).length _; rwa [insOf_len]), (HO.out.below HB.out).more HB.out.size, (HP.out.below HB.out).more HB.out.size⟩)
      have HCG1 := Lib.hid (HCG wr A c HM.out).out
      rw [HCR.out] at HCG1
      have HTX : Hid (Blk wr (w.heap.size + 2) 53 (spendT A c L path B outs d p ByteArray.empty).cs) := Lib.hid (by have := HT.out; rw [show L.length = (insOf L path ByteArray.empty).length by rw [insOf_len]] at this; exact this)
      go_wp2_with (refine wpList_load_blk rfl 53 (.tmp 11) rfl (w.heap.size + 2) 0 6 HTX.out (spendT A c L path B outs d p ByteArray.empty).cs (by rfl) (txn_ext _) Tryz.underlying53 infoTx (Nat.le_refl 6) ?_)
      refine HCG1.out.mono ?_
      rintro e w5 ⟨rfl, hb⟩
      replace HTX := Lib.hid (HTX.out.bel hb)
      replace HR := Lib.hid (HR.out.bel hb)
      replace HO1 := Lib.hid (Ch.owns (Ch.of_below hb []) HO1.out (by simp))
      replace HB := Lib.hid (HB.out.trans (hb.mono HB.out.size))
      clear hb HCG1 HCG HM HT
      go_wp2_with fail
      refine (HSG w5 (HK.out.bel HB.out)).out.mono ?_
      rintro e w6 ⟨rfl, hk6, hc6⟩
      obtain ⟨vl, kk1, kk2, kk3⟩ := (HK.out.bel HB.out)
      have hcw : cb < w.heap.size := by obtain ⟨_, _, q, _⟩ := HK.out; exact q.lt
      replace HTX := Lib.hid (HTX.out.ch hc6 (by simp; omega))
      replace HR := Lib.hid (HR.out.ch hc6 (by simp; omega))
      have HOW : Hid (w6.ownsRow w.heap.size 64 4 (.slice A L.length c) L.length ((insK L path sig 0).flatMap Inp.cl)) := Lib.hid (by rw [insK_zero]; exact Ch.owns hc6 HO1.out (fun b hb => by have := own_base HO1.out b hb; simp; omega))
      have hzw : w.heap.size ≤ w5.heap.size := HB.out.size
      have HSO := Lib.hid (sl_key (j0 := 2) hzw (HO.out.below HB.out) kk2 hc6 (fun x => ⟨x.key, rfl⟩))
      have HSP := Lib.hid (sl_key (j0 := 0) hzw (HP.out.below HB.out) kk2 hc6 (fun x => ⟨x.t.ch, rfl⟩))
      have HC6 : Hid (Ch [cb] w w6) := Lib.hid ((Ch.of_below HB.out _).trans hc6)
      have HK6 := Lib.hid hk6
      have hz6 : w.heap.size ≤ w6.heap.size := HC6.out.size
      have hkw : kb < w.heap.size := by obtain ⟨_, q, _⟩ := HK.out; exact q.lt
      clear kk1 kk2 kk3 hc6 hk6 HO1 HB HO HP HSG HK hcz HCR
      go_wp2_with fail
      go_loopw [15] (fun ii wr => ∃ k : Nat, k ≤ L.length ∧ ii = .int .i64 k ∧ Hid (wr.ownsRow w.heap.size 64 4 (.slice A L.length c) L.length ((insK L path sig k).flatMap Inp.cl)) ∧ Hid (Blk wr (w.heap.size + 2) 53 (spendT A c L path B outs d p ByteArray.empty).cs) ∧ Hid (Blk wr (w.heap.size + 1) 53 zTx0) ∧ Hid (KeyAt wr kb cb seed h (i + 1)) ∧ Hid (Below w.heap.size w6 wr)) (fun i _ => L.length - (intOf i).toNat)
      case atStart => exact ⟨0, Nat.zero_le _, rfl, HOW, HTX, HR, HK6, Lib.hid (Below.refl _ _)⟩
      case round =>
        clear HOW HTX HR HK6
        obtain ⟨k, hk, rfl, HOW, HTX, HR, HKK, HB⟩ := hrel
        have c0 : wr.cell? ⟨w.heap.size + 2, 0, none⟩ = some (.slice A L.length c) := by have := HTX.out.cell 0; rw [this]; show some (Value.slice A (insOf L path ByteArray.empty).length c) = _; rw [insOf_len]
        by_cases hlt : k < L.length
        · have d0 : decide (k < L.length) = true := decide_eq_true hlt
          obtain ⟨gr, rfl⟩ : ∃ gr, A = some ⟨gr, 0, none⟩ := by
            rcases HOW.out.2 with ⟨h0, _⟩ | ⟨g', cap, cur, h0, _⟩
            · injection h0 with _ h1 _; omega
            · injection h0 with h0 _ _; exact ⟨g', h0⟩
          have hgb := own_base HOW.out gr rfl
          have q3 : wr.cell? ⟨gr, k * 4 + 3, none⟩ = some (.string ByteArray.empty) := by rw [HOW.out.cellAt (k * 4 + 3) (by omega)]; exact insK_at L path sig k hlt
          have z3 : wr.frozen? ⟨gr, k * 4 + 3, none⟩ = false := HOW.out.frozenAt _
          have k1 : (k : Int) < (L.length : Int) := by omega
          obtain ⟨wq, hwq⟩ : ∃ wq, wq = wr.setCell ⟨gr, k * 4 + 3, none⟩ (.string sig) := ⟨_, rfl⟩
          have hne2 := row_ne HTX.out (by decide) HOW.out _ rfl
          have hne1 := row_ne HR.out (by decide) HOW.out _ rfl
          have HOW2 : Hid (wq.ownsRow w.heap.size 64 4 (.slice (some ⟨gr, 0, none⟩) L.length c) L.length ((insK L path sig (k + 1)).flatMap Inp.cl)) := Lib.hid (by rw [hwq, ← insK_set L path sig k hlt]; exact (HOW.out.stored _ _).1)
          have HTX2 : Hid (Blk wq (w.heap.size + 2) 53 (spendT (some ⟨gr, 0, none⟩) c L path B outs d p ByteArray.empty).cs) := Lib.hid (by rw [hwq]; exact HTX.out.far (by simpa using Ne.symm hne2) _)
          have HR2 : Hid (Blk wq (w.heap.size + 1) 53 zTx0) := Lib.hid (by rw [hwq]; exact HR.out.far (by simpa using Ne.symm hne1) _)
          have HKK2 : Hid (KeyAt wq kb cb seed h (i + 1)) := Lib.hid (by
            rw [hwq]
            refine HKK.out.ch (Ch.set_ (S := [gr]) (by simp) _ _ _) (by simp; omega) (by simp; omega) (fun g hg cs fr he => ?_)
            simp at hg; subst hg
            obtain ⟨cs', fz, hkd⟩ := Lib.ownsRow_kind HOW.out g rfl
            rw [he] at hkd
            injection hkd with hkd
            injection hkd with _ hkd _
            exact absurd hkd (by decide))
          have HB2 : Hid (Below w.heap.size w6 wq) := Lib.hid (by rw [hwq]; exact HB.out.setCell (by simpa using hgb) _)
          clear hne1 hne2 HOW HTX HR HKK HB hgb
          go_wp2_with fail
          rw [← hwq]
          clear hwq q3 z3 c0
          go_roundw
          case rel => exact ⟨k + 1, by omega, by go_num, HOW2, HTX2, HR2, HKK2, HB2⟩
          case measure => simp [intOf]; omega
        · have d0 : decide (k < L.length) = false := decide_eq_false hlt
          obtain rfl : k = L.length := by omega
          rw [insK_all] at HOW
          rw [← spend_cs A c L path B outs d p sig] at HTX
          have hzr := HB.out.size
          go_wp2_with (first
            | (refine wpList_load_blk rfl 53 (.tmp 11) rfl (w.heap.size + 2) 0 6 HTX.out (spendT A c L path B outs d p sig).cs (by rfl) (txn_ext _) Tryz.underlying53 infoTx (Nat.le_refl 6) ?_)
            | (refine wpList_store_part rfl 53 (.tmp 10) (.tmp 57) rfl (w.heap.size + 1) 0 HR.out (spendT A c L path B outs d p sig).cs (spendT A c L path B outs d p sig).cs (by rfl) (by rfl) (Nat.le_refl 6) infoTx (txncs_one _) (txn_over _ rfl) ?_; intro W6 hb6 hc6; have HT6 := Lib.hid hb6; have HC7 := Lib.hid hc6; clear hb6 hc6))
          have HB6 : Hid (Below w.heap.size w6 W6) := Lib.hid (HB.out.trans (HC7.out.below (by omega) (by simp)))
          have HOW6 : Hid (W6.ownsRow w.heap.size 64 4 (.slice A L.length c) L.length ((insOf L path sig).flatMap Inp.cl)) := Lib.hid (Ch.owns HC7.out HOW.out (fun b hb hmem => by simp at hmem; subst hmem; exact blk_not_row HR.out (by decide) HOW.out hb.symm))
          have HK7 : Hid (KeyAt W6 kb cb seed h (i + 1)) := Lib.hid (HKK.out.ch HC7.out (by simp; omega) (by simp; omega) (fun g hg cs fr he => by
            simp at hg; subst hg
            have hq := HR.out
            unfold Blk at hq
            rw [hq] at he
            injection he with he
            injection he with _ he _
            exact absurd he (by decide)))
          exact bodyPost_ret (results_cell_row rfl _ _ (w.heap.size + 1) 53 _ (0, 0) _ rfl HT6.out Tryz.underlying53 rfl infoTx) rfl ⟨A, c, rfl, ⟨Sl.of_own (base := w.heap.size) (n := L.length) (c := c) (e := 64) (fun _ => rfl) (by have := HOW6.out; show W6.ownsRow _ _ _ _ (insOf L path sig).length _; rwa [insOf_len]), (HSO.out.below HB6.out).more (by have := HB6.out.size; omega), (HSP.out.below HB6.out).more (by have := HB6.out.size; omega)⟩, HK7.out, ch_below HC6.out HB6.out⟩
end Go.Proofs.YtdoebmikjgmnaaaGreat
