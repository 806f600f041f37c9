/- utxo: sums: what is wrong with a transaction's amounts. utxo.Terms of any output. note.Worth of any proof, as a function. utxo: claims: what is wrong with a claim. -/
import Derived.Outline
import Derived.Deep.RegionHeld3
import Derived.Test.YtjcinncphffgaaaGreatMjG15
import Derived.Test.YtjcinncphffgaaaGreatMjG21
import Derived.Test.YtjcinncphffgaaaGreatMjG25
import Derived.Test.YtjcinncphffgaaaGreatMjG26
import Derived.Test.YtjcinncphffgaaaGreatMjG30
import Derived.Test.YtjcinncphffgaaaGreatMjG31
import Derived.Test.YtjcinncphffgaaaGreatMjSdkB
set_option linter.unusedVariables false
set_option linter.unusedSimpArgs false
namespace Go.Proofs.YtjcinncphffgaaaGreat
open Go.RowKit Go.Maps
/-- what is wrong with a transaction's amounts -/
def sumsE (L : List En) (outs : List Ou) : Int :=
  if totE (topsI L) ≠ 0 then totE (topsI L) else if totE (ousI outs) ≠ 0 then totE (ousI outs) else if plusE (totV (ousI outs)) 10 ≠ 0 then plusE (totV (ousI outs)) 10 else if plusV (totV (ousI outs)) 10 = totV (topsI L) then 0 else 13
def SumsR (se : Int) (tn : Nat) (g : Nat) (t : Txn) (core : ByteArray) (h : Int) (L : List En) (w : World) (e : Ending) (w' : World) : Prop :=
  e = .returned (.int .i64 se) ∧ Ch [g] w w' ∧ (se = 0 → SpAt w' g t core h L tn)
theorem totV_nn {l : List Int} (h : ∀ x ∈ l, 0 ≤ x) : 0 ≤ totV l ∧ totV l < 18446744073709551616 := by
  have := totI_ge l h
  unfold totV
  split <;> omega
theorem topsI_nn (L : List En) : ∀ x ∈ topsI L, 0 ≤ x := by
  intro x hx
  obtain ⟨e, _, rfl⟩ := List.mem_map.1 hx
  exact Int.natCast_nonneg _
theorem ousI_nn (L : List Ou) : ∀ x ∈ ousI L, 0 ≤ x := by
  intro x hx
  obtain ⟨e, _, rfl⟩ := List.mem_map.1 hx
  exact Int.natCast_nonneg _
theorem spX_set (t : Txn) (core : ByteArray) (h : Int) (A : Option Addr) (n c wh v : Nat) : (spX t core h A n c wh).setIfInBounds 9 (.int .u64 (v : Nat)) = spX t core h A n c v := by rfl
theorem SpAt.whole {w W : World} {g : Nat} {t : Txn} {core : ByteArray} {h : Int} {L : List En} {wh : Nat} (k : SpAt w g t core h L wh) (hb : Below w.heap.size w W) (v : Nat) : SpAt (W.setCell ⟨g, 9, none⟩ (.int .u64 (v : Nat))) g t core h L v := by
  obtain ⟨A, c, h1, h2, h3⟩ := (k.bel hb).ex
  refine ⟨A, c, ?_, ?_, h3⟩
  · have := h1.set_ 9 (.int .u64 (v : Nat))
    rwa [spX_set] at this
  · intro hn
    obtain ⟨b, off, hA, hlt, hc⟩ := h2 hn
    have hne : b ≠ g := h3 _ hA
    refine ⟨b, off, hA, by simpa [World.setCell] using hlt, fun i x hx j u hu => ?_⟩
    rw [World.cell?_setCell_other _ _ _ _ (by simp [hne])]
    exact hc i x hx j u hu
set_option maxRecDepth 100000 in
set_option maxHeartbeats 2000000 in
theorem sums_any (g : Nat) (t : Txn) (core : ByteArray) (h : Int) (L : List En) (wh : Nat) (w : World) (hk : SpAt w g t core h L wh) (hm : t.mem w) (hl : L.length ≤ 1000) (hlo : t.outs.length ≤ 1000)
    (ha : ∀ e ∈ L, e.o.am < 18446744073709551616) (hao : ∀ o ∈ t.outs, o.am < 18446744073709551616) :
    Calls Tryz.prog 107 #[.pointer (some ⟨g, 0, none⟩)] w (SumsR (sumsE L t.outs) (totV (topsI L)).toNat g t core h L w) := by
  obtain ⟨i0, hi, hz0, hz1, hz2⟩ := info_parts Tryz.infoU64
  have Hhz := Lib.hid hz0
  have HK := Lib.hid hk
  obtain ⟨A, c, hB, hL, _⟩ := hk.ex
  have HSL := Lib.hid hL
  have HG := Lib.hid hB
  have HSUM := fun A c W h => Lib.hid (sum64_any A (topsI L) c W (by simp [topsI]; omega) (by
    intro x hx
    obtain ⟨e, he, rfl⟩ := List.mem_map.1 hx
    have := ha e he
    omega) h)
  have HWH := fun W (hb : Below w.heap.size w W) => Lib.hid (coinwhole_any t.B t.outs t.d W (hm.bel hb).outs hlo hao)
  have HSN := fun k h => Lib.hid (topsI_snoc L k h)
  have HTZ : Hid ((topsI L).length = L.length) := Lib.hid (by simp [topsI])
  have HTK : Hid (topsI (L.take L.length) = topsI L) := Lib.hid (by rw [List.take_length])
  have HTV := Lib.hid (totV_nn (topsI_nn L))
  have HTO := Lib.hid (totV_nn (ousI_nn t.outs))
  have HE : Hid (sumsE L t.outs = if totE (topsI L) ≠ 0 then totE (topsI L) else if totE (ousI t.outs) ≠ 0 then totE (ousI t.outs) else if plusE (totV (ousI t.outs)) 10 ≠ 0 then plusE (totV (ousI t.outs)) 10 else if plusV (totV (ousI t.outs)) 10 = totV (topsI L) then 0 else 13) := rfl
  have c8 : w.cell? ⟨g, 8, none⟩ = some (.slice A L.length c) := HG.out.cell 8
  obtain ⟨tn, htn⟩ : ∃ tn : Nat, totV (topsI L) = tn := ⟨(totV (topsI L)).toNat, by have := HTV.out; omega⟩
  rw [show (totV (topsI L)).toNat = tn by omega]
  rw [htn] at HE
  have HTN := Lib.hid htn
  clear htn
  generalize sumsE L t.outs = se at HE ⊢
  clear hz0 hk hm hB hL ha hao
  go_enter Tryz.func107, Tryz.ntmps107
  go_wp2_with fail
  go_loopw [3, 15] (fun v i wr => ∃ (k : Nat) (B : Option Addr) (c : Nat), k ≤ L.length ∧ i = .int .i64 k ∧ v = .slice B k c ∧ Hid (wr.ownsRow w.heap.size 48 1 (.slice B k c) k (encA (topsI (L.take k)))) ∧ Hid (Below w.heap.size w wr)) (fun _ i _ => L.length - (intOf i).toNat)
  case atStart => exact ⟨0, none, 0, Nat.zero_le _, rfl, rfl, Lib.hid (own_nil _ _ _ _), Lib.hid (Below.refl _ _)⟩
  case round =>
    clear c8
    obtain ⟨k, B, cc, hk, rfl, rfl, HO, HB⟩ := hrel
    have hz := HB.out.size
    by_cases hlt : k < L.length
    · obtain ⟨ab, off, hAe, hbB, hc⟩ := (HSL.out.below HB.out).at_ hlt
      subst hAe
      have HSN1 := HSN k hlt
      generalize L[k] = x at hc HSN1
      generalize topsI (L.take k) = ff at HO HSN1
      have HCC := Lib.hid hc
      clear hc HSN
      go_wp2_with (first
        | (refine wpList_load_en rfl (.tmp 17) rfl ab (off + k * 11) (by rfl) x HCC.out ?_)
        | (refine wpList_store_part rfl 89 (.tmp 5) (.tmp 18) rfl wr.heap.size 0 (cs := zEn.cs) (Blk.new _ _ _) x.cs x.cs (by rfl) (by rfl) (Nat.le_refl 11) infoEnt (encs_one x) (en_over x rfl) ?_; intro W1 hb1 hc1; have hb := bel_st' hc1; have HOW := Lib.hid (Ch.owns (Ch.of_below hb []) HO.out (by simp)); have g3 : W1.cell? ⟨wr.heap.size, 3, none⟩ = some (.int .u64 x.o.am) := hb1.cell 3; have HBW := Lib.hid (HB.out.trans (hb.mono hz)); have hzw1 : w.heap.size ≤ W1.heap.size := Nat.le_trans hz hb.size; clear hb1 hc1 hb)
        | (at_builtin; go_must (refine wpList_append_own _ rfl (.tmp 19) (.tmp 23) _ rfl w.heap.size 48 i0 _ 1 8 Tryz.underlying199 hi Hhz.out hz1 hz2 rfl (by decide) _ k _ rfl (HOW.out.alloc _) ⟨W1.heap.size, 0, none⟩ 1 1 [.int .u64 (x.o.am : Nat)] rfl rfl (news_alloc _ _ _ _ _ rfl rfl) (one_int _) (by simp only [maxLen]; omega) (by omega) (by simp; omega) ?_); intro v' W2 hown1 hg1 hnil1; have HO1 := Lib.hid hown1; have HB2 := Lib.hid ((HBW.out.alloc HBW.out.size _).grown hg1 (HBW.out.alloc HBW.out.size _).size (own_base HOW.out)); clear hown1 hg1 hnil1))
      obtain ⟨B3, c3, rfl⟩ := own_form HO1.out
      go_roundw
      case rel => exact ⟨k + 1, B3, c3, by omega, by go_num, rfl, Lib.hid (by rw [HSN1.out, encA_snoc']; exact HO1.out), HB2⟩
      case measure => simp [intOf]; omega
    · have hkl : k = L.length := by omega
      subst hkl
      rw [HTK.out] at HO
      have htn : tn < 18446744073709551616 := by have := HTV.out; have := HTN.out; omega
      have hsl := HSUM B cc wr (Sl.of_own (base := w.heap.size) (n := L.length) (c := cc) (e := 48) (fun _ => rfl) (by rw [u64_flat, HTZ.out]; exact HO.out))
      rw [HTZ.out] at hsl
      rw [HTN.out] at hsl
      have g1 : wr.cell? ⟨g, 1, none⟩ = some (.slice t.B t.outs.length t.d) := (HG.out.bel HB.out).cell 1
      generalize totE (topsI L) = te at HE hsl
      clear HSUM HSN HTK HO HTV
      go_wp2_with fail
      refine hsl.out.mono ?_
      rintro e w6 ⟨rfl, rfl⟩
      clear hsl
      by_cases h1 : te = 0
      rotate_left
      · have d1 : (te != 0) = true := by simp [bne, beq_eq_false_iff_ne.2 h1]
        obtain rfl : se = te := by rw [HE.out, if_pos h1]
        have HN := Lib.hid h1
        clear h1
        go_wp2_with fail
        go_ret
        exact ⟨rfl, Ch.of_below HB.out _, fun h => absurd h HN.out⟩
      subst h1
      replace HE : Hid (se = if totE (ousI t.outs) ≠ 0 then totE (ousI t.outs) else if plusE (totV (ousI t.outs)) 10 ≠ 0 then plusE (totV (ousI t.outs)) 10 else if plusV (totV (ousI t.outs)) 10 = (tn : Int) then 0 else 13) := Lib.hid (by rw [HE.out]; simp only [ne_eq, not_true_eq_false, if_false])
      have HW := Lib.hid (HWH _ HB.out).out
      have ho := HTO.out
      generalize totE (ousI t.outs) = te at HE HW
      generalize totV (ousI t.outs) = tv at HE HW ho
      clear HWH HTO
      go_wp2_with fail
      refine HW.out.mono ?_
      rintro e w7 ⟨rfl, hb⟩
      replace HB := Lib.hid (HB.out.trans (Below.mono hb HB.out.size))
      clear hb HW g1
      by_cases h2 : te = 0
      rotate_left
      · have d1 : (te != 0) = true := by simp [bne, beq_eq_false_iff_ne.2 h2]
        obtain rfl : se = te := by rw [HE.out, if_pos h2]
        have HN := Lib.hid h2
        clear h2
        go_wp2_with fail
        go_ret
        exact ⟨rfl, Ch.of_below HB.out _, fun h => absurd h HN.out⟩
      subst h2
      replace HE : Hid (se = if plusE tv 10 ≠ 0 then plusE tv 10 else if plusV tv 10 = (tn : Int) then 0 else 13) := Lib.hid (by rw [HE.out]; simp only [ne_eq, not_true_eq_false, if_false])
      have HAD := fun W => Lib.hid (add_any tv 10 W ho.1 (by omega) ho.2 (by omega))
      generalize plusE tv 10 = pe at HE HAD
      generalize plusV tv 10 = pv at HE HAD
      have HKW := Lib.hid (HK.out.whole HB.out tn)
      have HCW : Hid (Ch [g] w (w7.setCell ⟨g, 9, none⟩ (.int .u64 (tn : Nat)))) := Lib.hid ((Ch.of_below HB.out [g]).trans (Ch.set_ (by simp) _ 9 _))
      have g9 : w7.cell? ⟨g, 9, none⟩ = some (.int .u64 (wh : Nat)) := (HG.out.bel HB.out).cell 9
      have z9 : w7.frozen? ⟨g, 9, none⟩ = false := (HG.out.bel HB.out).frozen 9
      clear ho
      go_wp2_with fail
      refine (HAD _).out.mono ?_
      rintro e w8 ⟨rfl, rfl⟩
      clear HAD
      by_cases h3 : pe = 0
      rotate_left
      · have d1 : (pe == 0) = false := beq_eq_false_iff_ne.2 h3
        obtain rfl : se = pe := by rw [HE.out, if_pos h3]
        have HN := Lib.hid h3
        clear h3
        go_wp2_with fail
        go_ret
        exact ⟨rfl, HCW.out, fun h => absurd h HN.out⟩
      subst h3
      by_cases h4 : pv = (tn : Int)
      · have d1 : (pv != (tn : Int)) = false := by rw [h4]; simp
        obtain rfl : se = 0 := by rw [HE.out, if_neg (by simp), if_pos h4]
        clear h4 HE
        go_wp2_with fail
        go_ret
        exact ⟨rfl, HCW.out, fun _ => HKW.out⟩
      · have d1 : (pv != (tn : Int)) = true := by simp [bne, beq_eq_false_iff_ne.2 h4]
        obtain rfl : se = 13 := by rw [HE.out, if_neg (by simp), if_neg h4]
        clear h4 HE
        go_wp2_with fail
        go_ret
        exact ⟨rfl, HCW.out, fun h => absurd h (by decide)⟩
end Go.Proofs.YtjcinncphffgaaaGreat
namespace Go.Proofs.YtjcinncphffgaaaGreat
open Go.RowKit Go.Maps
def enT (e : En) (mt : Nat) : Tm := ⟨nameO e.tx e.out, e.o.key, e.o.anchor, e.o.unit, mt⟩
set_option maxRecDepth 100000 in
set_option maxHeartbeats 1000000 in
theorem terms_gen (e : En) (mt : Nat) (w0 : World) (hz : e.tx.size ≤ 1000000) (hmt : e.o.tok = (mt : Int)) :
    Calls Tryz.prog 165 #[.agg e.cs] w0 fun e' w' => e' = .returned (.agg (enT e mt).cs) ∧ Below w0.heap.size w0 w' := by
  have HE : ∀ o, Hid (Blk ((w0.alloc (.cells e.cs 89)).alloc o) w0.heap.size 89 e.cs) := fun o => (Blk.new _ _ _).alloc o
  have HR : Hid (Blk ((w0.alloc (.cells e.cs 89)).alloc (.cells zTm.cs 269)) (w0.heap.size + 1) 269 zTm.cs) := Blk.newAt (by simp)
  have HB : Hid (Below w0.heap.size w0 ((w0.alloc (.cells e.cs 89)).alloc (.cells zTm.cs 269))) := ((Below.refl _ _).alloc (Nat.le_refl _) _).alloc (by simp) _
  have HMT := Lib.hid hmt
  have HZ := Lib.hid hz
  clear hmt hz
  go_enter Tryz.func165, Tryz.ntmps165
  go_wp2_with fail
  refine wp_region_held_drew (S := fun W => Hid (Blk W w0.heap.size 89 e.cs)) (by kernel_rfl) (Lib.hid ((HE _).out.drewN 1)) (fun hS => ?_)
  refine wpAnyH_take (i := 0) (v := ?_) rfl (by kernel_rfl) (by kernel_rfl) (by kernel_rfl) (fun _ _ _ h => h) (Or.inl ⟨by rfl, ?_⟩) hS ?_
  rotate_left
  · (intro w _; go_simp; try with_reducible rfl)
  refine wpAnyH_take (i := 1) (v := .agg #[.string e.tx, .int .i64 e.out]) rfl (by kernel_rfl) (by kernel_rfl) (by kernel_rfl) (fun _ _ _ h => h) (yields_blk (by rfl) 57 (.tmp 3) (by rfl) w0.heap.size 0 2 (t := 89) (cs := e.cs) (fun W h => h.out) #[.string e.tx, .int .i64 e.out] (by rfl) (by rfl) Tryz.underlying57 infoPnt (by show 2 ≤ 11; omega)) hS ?_
  refine wpAnyH_take (i := 3) (v := ?_) rfl (by kernel_rfl) (by kernel_rfl) (by kernel_rfl) (fun _ _ _ h => h) (Or.inl ⟨by rfl, ?_⟩) hS ?_
  rotate_left
  · (intro w _; go_simp; try with_reducible rfl)
  refine wpAnyH_take (i := 4) (v := ?_) rfl (by kernel_rfl) (by kernel_rfl) (by kernel_rfl) (fun _ _ _ h => h) (Or.inl ⟨by rfl, ?_⟩) hS ?_
  rotate_left
  · (intro w _; go_simp; try with_reducible rfl)
  refine wpAnyH_take (i := 5) (v := ?_) rfl (by kernel_rfl) (by kernel_rfl) (by kernel_rfl) (fun _ _ _ h => h) (Or.inl ⟨by rfl, ?_⟩) hS ?_
  rotate_left
  · (intro w hS'; have hcell := (show World.cell? _ ⟨w0.heap.size, 4, none⟩ = some (.string e.o.key) from Blk.cell hS'.out 4); go_simp; try with_reducible rfl)
  refine wpAnyH_take (i := 6) (v := ?_) rfl (by kernel_rfl) (by kernel_rfl) (by kernel_rfl) (fun _ _ _ h => h) (Or.inl ⟨by rfl, ?_⟩) hS ?_
  rotate_left
  · (intro w _; go_simp; try with_reducible rfl)
  refine wpAnyH_take (i := 7) (v := ?_) rfl (by kernel_rfl) (by kernel_rfl) (by kernel_rfl) (fun _ _ _ h => h) (Or.inl ⟨by rfl, ?_⟩) hS ?_
  rotate_left
  · (intro w _; go_simp; try with_reducible rfl)
  refine wpAnyH_take (i := 8) (v := ?_) rfl (by kernel_rfl) (by kernel_rfl) (by kernel_rfl) (fun _ _ _ h => h) (Or.inl ⟨by rfl, ?_⟩) hS ?_
  rotate_left
  · (intro w hS'; have hcell := (show World.cell? _ ⟨w0.heap.size, 7, none⟩ = some (.string e.o.anchor) from Blk.cell hS'.out 7); go_simp; try with_reducible rfl)
  refine wpAnyH_take (i := 9) (v := ?_) rfl (by kernel_rfl) (by kernel_rfl) (by kernel_rfl) (fun _ _ _ h => h) (Or.inl ⟨by rfl, ?_⟩) hS ?_
  rotate_left
  · (intro w _; go_simp; try with_reducible rfl)
  refine wpAnyH_take (i := 10) (v := ?_) rfl (by kernel_rfl) (by kernel_rfl) (by kernel_rfl) (fun _ _ _ h => h) (Or.inl ⟨by rfl, ?_⟩) hS ?_
  rotate_left
  · (intro w _; go_simp; try with_reducible rfl)
  refine wpAnyH_take (i := 11) (v := ?_) rfl (by kernel_rfl) (by kernel_rfl) (by kernel_rfl) (fun _ _ _ h => h) (Or.inl ⟨by rfl, ?_⟩) hS ?_
  rotate_left
  · (intro w hS'; have hcell := (show World.cell? _ ⟨w0.heap.size, 8, none⟩ = some (.int .u64 e.o.unit) from Blk.cell hS'.out 8); go_simp; try with_reducible rfl)
  refine wpAnyH_take (i := 12) (v := ?_) rfl (by kernel_rfl) (by kernel_rfl) (by kernel_rfl) (fun _ _ _ h => h) (Or.inl ⟨by rfl, ?_⟩) hS ?_
  rotate_left
  · (intro w _; go_simp; try with_reducible rfl)
  refine wpAnyH_take (i := 13) (v := ?_) rfl (by kernel_rfl) (by kernel_rfl) (by kernel_rfl) (fun _ _ _ h => h) (Or.inl ⟨by rfl, ?_⟩) hS ?_
  rotate_left
  · (intro w _; go_simp; try with_reducible rfl)
  refine wpAnyH_take (i := 14) (v := ?_) rfl (by kernel_rfl) (by kernel_rfl) (by kernel_rfl) (fun _ _ _ h => h) (Or.inl ⟨by rfl, ?_⟩) hS ?_
  rotate_left
  · (intro w hS'; have hcell := (show World.cell? _ ⟨w0.heap.size, 9, none⟩ = some (.int .i64 (mt : Int)) from (Blk.cell hS'.out 9).trans (congrArg (fun b => some (Value.int .i64 b)) HMT.out)); go_simp; try with_reducible rfl)
  refine wpAnyH_ready (rs := [2]) (by kernel_rfl) (by simp) (AllReadyH.cons rfl (fun K hK => ?_) AllReadyH.nil)
  go_simp
  refine (cname_gen e.tx e.out _ HZ.out).mono ?_
  rintro e' W ⟨rfl, hb⟩
  replace HR := Lib.hid (Blk.bel (HR.out.drewN 1) hb)
  have HE2 := Lib.hid (Blk.bel ((HE (.cells zTm.cs 269)).out.drewN 1) hb)
  replace HB := Lib.hid (HB.out.drew.trans (hb.mono HB.out.drew.size))
  clear hb hS
  go_simp
  refine hK.out _ _ HE2 (fun hS => ?_)
  clear hK K
  refine wpAnyH_take (i := 15) (v := ?_) rfl (by kernel_rfl) (by kernel_rfl) (by kernel_rfl) (fun _ _ _ h => h) (Or.inl ⟨by rfl, ?_⟩) hS ?_
  rotate_left
  · (intro w _; go_simp; try with_reducible rfl)
  refine wpAnyH_ready (rs := [16]) (by kernel_rfl) (by simp) (AllReadyH.cons rfl (fun K hK => ?_) AllReadyH.nil)
  refine step_store_part (by rfl) 269 (.tmp 2) (.tmp 18) (by rfl) (w0.heap.size + 1) 0 HR.out (enT e mt).cs (enT e mt).cs (by rfl) (by rfl) (Nat.le_refl 5) infoTm (tmcs_one _) (tmcs_over _) ?_
  intro W1 hb1 hc1
  have HT := Lib.hid hb1
  have HC := Lib.hid hc1
  clear hb1 hc1
  refine hK.out _ _ (Lib.hid (Blk.ch hS.out HC.out (by simp))) (fun _ => ?_)
  clear hK K hS
  refine wpAnyH_done (by kernel_rfl) ?_ _
  go_wp2_with fail
  exact bodyPost_ret (results_cell_row rfl _ _ (w0.heap.size + 1) 269 _ (0, 0) _ rfl HT.out Tryz.underlying269 rfl infoTm) rfl ⟨rfl, HB.out.trans (HC.out.below HB.out.size (by simp))⟩
end Go.Proofs.YtjcinncphffgaaaGreat
namespace Go.Proofs.YtjcinncphffgaaaGreat
open Go.RowKit Go.Maps
/-- how many steps lead from a token to an anchor, of so many -/
noncomputable def cntF (a t : ByteArray) (most : Nat) : Option Nat := (List.range (most + 1)).find? fun j => decide (itB t j = a)
theorem cnt_fun {a t : ByteArray} {most n : Nat} {b : Bool} (h : CntP a t most n b) : cntF a t most = if b then some n else none := by
  obtain ⟨h1, h2, rfl, h4⟩ := h
  unfold cntF
  by_cases e : itB t n = a
  · rw [decide_eq_true e, if_pos rfl, List.find?_eq_some_iff_append]
    refine ⟨decide_eq_true e, List.range n, (List.range (most - n)).map (fun j => n + 1 + j), ?_, ?_⟩
    · apply List.ext_getElem
      · simp; omega
      · intro i hi1 hi2
        simp only [List.length_range] at hi1
        simp only [List.getElem_range, List.getElem_append, List.length_range]
        split
        · rfl
        · rename_i hlt
          by_cases q : i = n
          · subst q; simp
          · obtain ⟨m, rfl⟩ : ∃ m, i = n + 1 + m := ⟨i - (n + 1), by omega⟩
            have : n + 1 + m - n = m + 1 := by omega
            simp only [this, List.getElem_cons_succ, List.getElem_map, List.getElem_range]
    · intro j hj
      rw [List.mem_range] at hj
      rw [decide_eq_false (h2 j hj)]; rfl
  · rw [decide_eq_false e] at h4 ⊢
    obtain rfl : n = most := by simpa using h4
    rw [if_neg (by decide), List.find?_eq_none]
    intro j hj
    rw [List.mem_range] at hj
    by_cases q : j = n
    · subst q; simpa using e
    · simpa using h2 j (by omega)
/-- the tokens' worth, and what is wrong -/
noncomputable def tokF (t : Tm) (p : Pf) : Int × Int :=
  if p.tok = ByteArray.empty then (0, 0) else if p.tok.size ≠ 16 then (0, 1) else match cntF t.anchor p.tok t.tokens with
    | some n => (mulV n t.unit, mulE n t.unit)
    | none => (0, 4)
theorem emp_sz : ByteArray.empty.size = 0 := rfl
theorem tok_fun {t : Tm} {p : Pf} {v : Nat} {f : Int} (h : TokX t p v f) : tokF t p = ((v : Int), f) := by
  unfold tokF
  rcases h with ⟨h1, rfl, rfl⟩ | ⟨h1, h2, rfl, rfl⟩ | ⟨h1, n, b, hc, hv, hf⟩
  · rw [if_pos h1]; rfl
  · rw [if_neg h2, if_pos h1]; rfl
  · rw [if_neg (fun e => by rw [e, emp_sz] at h1; omega), if_neg (by omega), cnt_fun hc]
    cases b
    · simp only [Bool.false_eq_true, if_false] at hv hf ⊢
      rw [hv, hf]
    · simp only [if_true] at hv hf ⊢
      rw [hv, hf]
/-- what is wrong with the first win that is wrong -/
def facF (t : Tm) (seen : List Nat) : List Wn → Int
  | [] => 0
  | x :: r => if facE t seen x = 0 then facF t (seen ++ [x.t.ser]) r else facE t seen x
theorem fac_ok (t : Tm) : ∀ (l pre : List Wn), (∀ i (h : i < l.length), facE t (sers (pre ++ l.take i)) l[i] = 0) → facF t (sers pre) l = 0
  | [], _, _ => rfl
  | x :: r, pre, h => by
    have h0 : facE t (sers pre) x = 0 := by have := h 0 (by simp); simpa using this
    rw [facF, if_pos h0]
    have hs : sers pre ++ [x.t.ser] = sers (pre ++ [x]) := by simp [sers]
    rw [hs]
    refine fac_ok t r (pre ++ [x]) fun i hi => ?_
    have := h (i + 1) (by simpa using hi)
    simpa [List.append_assoc] using this
theorem fac_bad (t : Tm) : ∀ (l pre : List Wn) (k : Nat) (hk : k < l.length), (∀ i (h : i < l.length), i < k → facE t (sers (pre ++ l.take i)) l[i] = 0) → facE t (sers (pre ++ l.take k)) l[k] ≠ 0 → facF t (sers pre) l = facE t (sers (pre ++ l.take k)) l[k]
  | x :: r, pre, 0, _, _, hn => by
    have e : facE t (sers (pre ++ (x :: r).take 0)) (x :: r)[0] = facE t (sers pre) x := by simp
    rw [e] at hn ⊢
    rw [facF, if_neg hn]
  | x :: r, pre, k + 1, hk, h, hn => by
    have h0 : facE t (sers pre) x = 0 := by have := h 0 (by simp) (by omega); simpa using this
    rw [facF, if_pos h0]
    have hs : sers pre ++ [x.t.ser] = sers (pre ++ [x]) := by simp [sers]
    have e : ∀ i (hi : i < r.length), facE t (sers (pre ++ (x :: r).take (i + 1))) ((x :: r)[i + 1]'(by simpa using hi)) = facE t (sers (pre ++ [x] ++ r.take i)) r[i] := fun i hi => by simp [List.append_assoc]
    rw [e k (by simpa using hk)] at hn ⊢
    rw [hs]
    refine fac_bad t r (pre ++ [x]) k (by simpa using hk) (fun i hi hik => ?_) hn
    rw [← e i hi]
    exact h (i + 1) (by simpa using hi) (by omega)
theorem fac_fun {t : Tm} {p : Pf} (h : OkTo t p.l p.l.length) : facF t [] p.l = 0 := fac_ok t p.l [] fun i hi => by simpa using h i hi hi
theorem facx_fun {t : Tm} {p : Pf} {f : Int} (h : FacX t p f) : facF t [] p.l = f ∧ f ≠ 0 := by
  obtain ⟨k, hk, h1, rfl, h3⟩ := h
  refine ⟨?_, h3⟩
  have := fac_bad t p.l [] k hk (fun i hi hik => by simpa using h1 i hi hik) (by simpa using h3)
  simpa [sers] using this
/-- what a proof is worth, and what is wrong -/
noncomputable def worF (t : Tm) (p : Pf) : Int × Int :=
  if rightB p = false then (0, 1) else if paidB t p = false then (0, 10) else if (tokF t p).2 ≠ 0 then (0, (tokF t p).2) else if facF t [] p.l ≠ 0 then (0, facF t [] p.l)
  else (totV (fcI p.l ++ [(p.am : Int), (tokF t p).1]), totE (fcI p.l ++ [(p.am : Int), (tokF t p).1]))
theorem wor_fun {t : Tm} {p : Pf} {w w' : World} {e : Ending} (h : WorR t p w e w') : e = .returned (.tuple #[.int .u64 (worF t p).1, .int .i64 (worF t p).2]) ∧ Below w.heap.size w w' := by
  obtain ⟨hb, v, f, rfl, h⟩ := h
  refine ⟨?_, hb⟩
  suffices hw : worF t p = (v, f) by rw [hw]
  unfold worF
  rcases h with ⟨h1, rfl, rfl⟩ | ⟨h1, h⟩
  · rw [if_pos h1]
  · rw [if_neg (by rw [h1]; decide)]
    rcases h with ⟨h2, rfl, rfl⟩ | ⟨h2, h⟩
    · rw [if_pos h2]
    · rw [if_neg (by rw [h2]; decide)]
      rcases h with ⟨z, hz, hf, rfl⟩ | ⟨z, hz, h⟩
      · rw [tok_fun hz, if_pos hf]
      · rw [tok_fun hz]
        simp only [ne_eq, not_true_eq_false, if_false]
        rcases h with ⟨hx, rfl⟩ | ⟨hok, rfl, rfl⟩
        · obtain ⟨e1, e2⟩ := facx_fun hx
          rw [e1, if_pos e2]
        · rw [fac_fun hok]
          simp only [not_true_eq_false, if_false]
theorem worth_fun (t : Tm) (p : Pf) (w : World) (ht : t.ok) (hl : p.l.length ≤ 1000) (hfit : ∀ x ∈ p.l, x.fit) (hS : Sl w w.heap.size 10 Wn.cl p.A p.l) (hs : p.sig.size ≤ 1000000) (ha : p.am < 18446744073709551616) :
    Calls Tryz.prog 164 #[.agg t.cs, .agg p.cs] w fun e w' => e = .returned (.tuple #[.int .u64 (worF t p).1, .int .i64 (worF t p).2]) ∧ Below w.heap.size w w' :=
  (worth_any t p w ht hl hfit hS hs ha).mono fun _ _ h => wor_fun h
end Go.Proofs.YtjcinncphffgaaaGreat
namespace Go.Proofs.YtjcinncphffgaaaGreat
open Go.RowKit Go.Maps
/-- what is wrong with a claim -/
noncomputable def claimsE (x0 : En) (t : Txn) (wh : Nat) : Int :=
  if path0 t ≠ 2 then 0 else if (worF (enT x0 x0.o.tok.toNat) t.p).2 ≠ 0 then (worF (enT x0 x0.o.tok.toNat) t.p).2
  else if (worF (enT x0 x0.o.tok.toNat) t.p).1 ≤ 10 ∨ (wh : Int) < (worF (enT x0 x0.o.tok.toNat) t.p).1 then 11
  else if eqLo (paysO x0 (worF (enT x0 x0.o.tok.toNat) t.p).1.toNat wh) t.outs = true then 0 else 13
theorem tokF_nn (t : Tm) (p : Pf) : 0 ≤ (tokF t p).1 := by
  unfold tokF
  by_cases h1 : p.tok = ByteArray.empty
  · rw [if_pos h1]; exact Int.le_refl 0
  · rw [if_neg h1]
    by_cases h2 : p.tok.size ≠ 16
    · rw [if_pos h2]; exact Int.le_refl 0
    · rw [if_neg h2]
      cases cntF t.anchor p.tok t.tokens with
      | some n => dsimp only; exact mulV_nn n t.unit
      | none => exact Int.le_refl 0
theorem zero_bd : (0 : Int) ≤ 0 ∧ (0 : Int) < 18446744073709551616 := by decide
theorem worF_bd (t : Tm) (p : Pf) : 0 ≤ (worF t p).1 ∧ (worF t p).1 < 18446744073709551616 := by
  unfold worF
  by_cases h1 : rightB p = false
  · rw [if_pos h1]; exact zero_bd
  rw [if_neg h1]
  by_cases h2 : paidB t p = false
  · rw [if_pos h2]; exact zero_bd
  rw [if_neg h2]
  by_cases h3 : (tokF t p).2 ≠ 0
  · rw [if_pos h3]; exact zero_bd
  rw [if_neg h3]
  by_cases h4 : facF t [] p.l ≠ 0
  · rw [if_pos h4]; exact zero_bd
  rw [if_neg h4]
  refine totV_nn fun x hx => ?_
  rcases List.mem_append.1 hx with h | h
  · obtain ⟨y, _, rfl⟩ := List.mem_map.1 h
    exact Int.natCast_nonneg _
  · simp only [List.mem_cons, List.not_mem_nil, or_false] at h
    rcases h with h | h
    · rw [h]; exact Int.natCast_nonneg _
    · rw [h]; exact tokF_nn t p
/-- a channel's entry, as claims ask of it -/
structure LockE (x : En) : Prop where
  tok0 : 0 ≤ x.o.tok
  tok : x.o.tok ≤ 4096
  anchor : x.o.anchor.size = 16
  unit : x.o.unit < 18446744073709551616
structure PfOk (p : Pf) : Prop where
  len : p.l.length ≤ 1000
  fit : ∀ x ∈ p.l, x.fit
  sig : p.sig.size ≤ 1000000
  am : p.am < 18446744073709551616
set_option maxRecDepth 100000 in
set_option maxHeartbeats 1000000 in
theorem claims_any (g : Nat) (t : Txn) (core : ByteArray) (h : Int) (L : List En) (wh : Nat) (w : World) (hk : SpAt w g t core h L wh) (hm : t.mem w) (hn : 0 < t.ins.length) (hl0 : 0 < L.length) (hl : L.length ≤ 1000) (hl2 : t.ins.length ≤ 1000) (hlo : t.outs.length ≤ 1000)
    (hx0 : L[0].tx.size ≤ 1000000) (hlk : path0 t = 2 → LockE L[0]) (hp : PfOk t.p) (hwh : wh < 18446744073709551616) :
    Calls Tryz.prog 108 #[.pointer (some ⟨g, 0, none⟩)] w fun e w' => e = .returned (.int .i64 (claimsE L[0] t wh)) ∧ Below w.heap.size w w' := by
  obtain ⟨A, c, hB, hL, _⟩ := hk.ex
  obtain ⟨ab, off, hA, hab, hc⟩ := hL.at_ hl0
  subst hA
  obtain ⟨tb, tf, hT, htb, hd⟩ := hm.ins.at_ hn
  have HG := Lib.hid hB
  have HTA := Lib.hid hT
  have HEQ := fun W (hb : Below w.heap.size w W) A' c' l (h : Sl W W.heap.size 9 Ou.cl A' l) (hl : l.length ≤ 1000000) => Lib.hid (equal_ou A' t.B l t.outs c' t.d W h (hm.bel hb).outs hl (by omega))
  have HPO := Lib.hid hp
  have HWO := fun W (hb : Below w.heap.size w W) (ht : (enT L[0] L[0].o.tok.toNat).ok) => Lib.hid (worth_fun (enT L[0] L[0].o.tok.toNat) t.p W ht HPO.out.len HPO.out.fit ((hm.bel hb).wins) HPO.out.sig HPO.out.am)
  have HBD := Lib.hid (worF_bd (enT L[0] L[0].o.tok.toNat) t.p)
  have HCE : Hid (claimsE L[0] t wh = (if path0 t ≠ 2 then 0 else if (worF (enT L[0] L[0].o.tok.toNat) t.p).2 ≠ 0 then (worF (enT L[0] L[0].o.tok.toNat) t.p).2
    else if (worF (enT L[0] L[0].o.tok.toNat) t.p).1 ≤ 10 ∨ (wh : Int) < (worF (enT L[0] L[0].o.tok.toNat) t.p).1 then 11
    else if eqLo (paysO L[0] (worF (enT L[0] L[0].o.tok.toNat) t.p).1.toNat wh) t.outs = true then 0 else 13 : Int)) := rfl
  generalize claimsE L[0] t wh = ce at HCE ⊢
  have g0 : w.cell? ⟨g, 0, none⟩ = some (.slice (some ⟨tb, tf, none⟩) t.ins.length t.c) := (HG.out.cell 0).trans (by show some (Value.slice t.A _ _) = _; rw [HTA.out])
  have y2 : w.cell? ⟨tb, tf + 2, none⟩ = some (.int .i64 (path0 t)) := by
    have := hd 2 (.int .i64 t.ins[0].path) rfl
    rw [show path0 t = t.ins[0].path from by unfold path0; rw [List.headD_eq_head?_getD, List.head?_eq_getElem?, List.getElem?_eq_getElem hn]; rfl]
    simpa using this
  have HC : Hid (∀ j v, L[0].cl[j]? = some v → w.cell? ⟨ab, off + j, none⟩ = some v) := Lib.hid (fun j v hv => by have := hc j v hv; simpa using this)
  have HAB := Lib.hid hab
  have k1 : (0 : Int) < (t.ins.length : Int) := by omega
  have k4 : (0 : Int) < (L.length : Int) := by omega
  have k4' : 0 < L.length := hl0
  have HLK := Lib.hid hlk
  have HX0 := Lib.hid hx0
  generalize L[0] = x at HC HLK HX0 HWO HBD HCE
  generalize L.length = n at HG k4 k4'
  generalize path0 t = pa at y2 HLK HCE
  clear hk hm hB hL hd hT htb hc hab hx0 hlk hp hl hl0
  by_cases hp2 : pa = 2
  rotate_left
  · have d1 : (pa != 2) = true := by simp [bne, beq_eq_false_iff_ne.2 hp2]
    obtain rfl : ce = 0 := by rw [HCE.out, if_pos hp2]
    clear hp2
    go_enter Tryz.func108, Tryz.ntmps108
    go_wp2_with fail
    go_ret
    exact ⟨rfl, Below.refl _ _⟩
  have d1 : (pa != 2) = false := by simp [bne, beq_iff_eq.2 hp2]
  have hlk := HLK.out hp2
  have HMT : Hid (x.o.tok = (x.o.tok.toNat : Int)) := Lib.hid (by have := hlk.tok0; omega)
  have HTR := fun W => Lib.hid (terms_gen x x.o.tok.toNat W HX0.out HMT.out)
  have HTK : Hid ((enT x x.o.tok.toNat).ok) := Lib.hid ⟨by show (nameO x.tx x.out).size ≤ 4096; rw [nameO_size]; omega, hlk.anchor, hlk.unit, by show x.o.tok.toNat ≤ 4096; have := hlk.tok; omega⟩
  replace HCE : Hid (ce = (if (worF (enT x x.o.tok.toNat) t.p).2 ≠ 0 then (worF (enT x x.o.tok.toNat) t.p).2
    else if (worF (enT x x.o.tok.toNat) t.p).1 ≤ 10 ∨ (wh : Int) < (worF (enT x x.o.tok.toNat) t.p).1 then 11
    else if eqLo (paysO x (worF (enT x x.o.tok.toNat) t.p).1.toNat wh) t.outs = true then 0 else 13 : Int)) := Lib.hid (by rw [HCE.out, if_neg (by simpa using hp2)])
  generalize (worF (enT x x.o.tok.toNat) t.p).2 = wf at HCE HWO
  obtain ⟨wv, hwv⟩ : ∃ wv : Nat, (worF (enT x x.o.tok.toNat) t.p).1 = wv := ⟨(worF (enT x x.o.tok.toNat) t.p).1.toNat, by have := HBD.out; omega⟩
  rw [hwv] at HCE HBD HWO
  have hwb := HBD.out.2
  rw [Int.toNat_natCast] at HCE
  generalize enT x x.o.tok.toNat = tm at HTR HTK HWO hwv
  clear hp2 hlk HLK HMT HBD hwv
  go_enter Tryz.func108, Tryz.ntmps108
  go_upto_region 3 with fail
  refine wp_region_held_drew (S := fun W => Hid (Below w.heap.size w W)) (by kernel_rfl) (Lib.hid (Below.refl _ _).drew) (fun hS => ?_)
  refine wpAnyH_genT fun X hX => ?_
  rw [← hX] at hS
  clear hX
  refine wpAnyH_take (i := 0) (v := ?_) rfl (by kernel_rfl) (by kernel_rfl) (by kernel_rfl) (fun _ _ _ h => h) (Or.inl ⟨by rfl, ?_⟩) hS ?_
  rotate_left
  · (intro w _; go_simp; try with_reducible rfl)
  refine wpAnyH_take (i := 1) (v := ?_) rfl (by kernel_rfl) (by kernel_rfl) (by kernel_rfl) (fun _ _ _ h => h) (Or.inl ⟨by rfl, ?_⟩) hS ?_
  rotate_left
  · (intro w _; go_simp; try with_reducible rfl)
  refine wpAnyH_take (i := 2) (v := ?_) rfl (by kernel_rfl) (by kernel_rfl) (by kernel_rfl) (fun _ _ _ h => h) (Or.inl ⟨by rfl, ?_⟩) hS ?_
  rotate_left
  · (intro w _; go_simp; try with_reducible rfl)
  refine wpAnyH_take (i := 3) (v := ?_) rfl (by kernel_rfl) (by kernel_rfl) (by kernel_rfl) (fun _ _ _ h => h) (Or.inl ⟨by rfl, ?_⟩) hS ?_
  rotate_left
  · (intro w hS'; have hcell := (show World.cell? _ ⟨g, 8, none⟩ = some (.slice (some ⟨ab, off, none⟩) n c) from Blk.cell (HG.out.bel hS'.out) 8); go_simp; try with_reducible rfl)
  refine wpAnyH_take (i := 4) (v := ?_) rfl (by kernel_rfl) (by kernel_rfl) (by kernel_rfl) (fun _ _ _ h => h) (Or.inl ⟨by rfl, ?_⟩) hS ?_
  rotate_left
  · (intro w _; go_simp; try with_reducible rfl)
  refine wpAnyH_take (i := 5) (v := .agg x.cs) rfl (by kernel_rfl) (by kernel_rfl) (by kernel_rfl) (fun _ _ _ h => h) (yields_row (by rfl) 89 (.tmp 20) (by rfl) ab off x.cl (fun W hW => rows_bel HC.out HAB.out hW.out) x.cs (by go_simp) (Array.toArray_toList ..) Tryz.underlying89 infoEnt) hS ?_
  refine wpAnyH_take (i := 7) (v := ?_) rfl (by kernel_rfl) (by kernel_rfl) (by kernel_rfl) (fun _ _ _ h => h) (Or.inl ⟨by rfl, ?_⟩) hS ?_
  rotate_left
  · (intro w _; go_simp; try with_reducible rfl)
  refine wpAnyH_take (i := 8) (v := ?_) rfl (by kernel_rfl) (by kernel_rfl) (by kernel_rfl) (fun _ _ _ h => h) (Or.inl ⟨by rfl, ?_⟩) hS ?_
  rotate_left
  · (intro w _; go_simp; try with_reducible rfl)
  refine wpAnyH_take (i := 9) (v := ?_) rfl (by kernel_rfl) (by kernel_rfl) (by kernel_rfl) (fun _ _ _ h => h) (Or.inl ⟨by rfl, ?_⟩) hS ?_
  rotate_left
  · (intro w _; go_simp; try with_reducible rfl)
  refine wpAnyH_take (i := 10) (v := ?_) rfl (by kernel_rfl) (by kernel_rfl) (by kernel_rfl) (fun _ _ _ h => h) (Or.inl ⟨by rfl, ?_⟩) hS ?_
  rotate_left
  · (intro w _; go_simp; try with_reducible rfl)
  have hpf : (spX t core h (some ⟨ab, off, none⟩) n c wh).extract 2 (2 + 4) = t.p.cs := spX_pf t core h (some ⟨ab, off, none⟩) n c wh
  refine wpAnyH_take (i := 11) (v := .agg t.p.cs) rfl (by kernel_rfl) (by kernel_rfl) (by kernel_rfl) (fun _ _ _ h => h) (yields_blk (by rfl) 51 (.tmp 26) (by rfl) g 2 4 (t := 265) (cs := spX t core h (some ⟨ab, off, none⟩) n c wh) (fun W h => HG.out.bel h.out) t.p.cs (by go_simp) hpf Tryz.underlying51 infoPf (by show 6 ≤ 10; omega)) hS ?_
  refine wpAnyH_ready (rs := [6]) (by kernel_rfl) (by simp) (AllReadyH.cons rfl (fun K hK => ?_) AllReadyH.nil)
  go_simp
  refine (HTR _).out.mono ?_
  rintro e V ⟨rfl, hb⟩
  have hS2 : Hid (Below w.heap.size w V) := Lib.hid (hS.out.trans (hb.mono hS.out.size))
  clear hb HTR
  go_simp
  refine hK.out _ _ hS2 (fun hS => ?_)
  clear hK K hS2
  refine wpAnyH_ready (rs := [12]) (by kernel_rfl) (by simp) (AllReadyH.cons rfl (fun K hK => ?_) AllReadyH.nil)
  go_simp
  refine (HWO _ hS.out HTK.out).out.mono ?_
  rintro e V2 ⟨rfl, hb⟩
  have hS2 : Hid (Below w.heap.size w V2) := Lib.hid (hS.out.trans (hb.mono hS.out.size))
  clear hb HWO hS
  go_simp
  refine hK.out _ _ hS2 (fun hS => ?_)
  clear hK K
  refine wpAnyH_take (i := 13) (v := ?_) rfl (by kernel_rfl) (by kernel_rfl) (by kernel_rfl) (fun _ _ _ h => h) (Or.inl ⟨by rfl, ?_⟩) hS ?_
  rotate_left
  · (intro w _; go_simp; try with_reducible rfl)
  refine wpAnyH_take (i := 14) (v := ?_) rfl (by kernel_rfl) (by kernel_rfl) (by kernel_rfl) (fun _ _ _ h => h) (Or.inl ⟨by rfl, ?_⟩) hS ?_
  rotate_left
  · (intro w _; go_simp; try with_reducible rfl)
  refine wpAnyH_take (i := 15) (v := ?_) rfl (by kernel_rfl) (by kernel_rfl) (by kernel_rfl) (fun _ _ _ h => h) (Or.inl ⟨by rfl, ?_⟩) hS ?_
  rotate_left
  · (intro w _; go_simp; try with_reducible rfl)
  refine wpAnyH_take (i := 16) (v := ?_) rfl (by kernel_rfl) (by kernel_rfl) (by kernel_rfl) (fun _ _ _ h => h) (Or.inl ⟨by rfl, ?_⟩) hS ?_
  rotate_left
  · (intro w _; go_simp; try with_reducible rfl)
  refine wpAnyH_take (i := 17) (v := ?_) rfl (by kernel_rfl) (by kernel_rfl) (by kernel_rfl) (fun _ _ _ h => h) (Or.inl ⟨by rfl, ?_⟩) hS ?_
  rotate_left
  · (intro w _; go_simp; try with_reducible rfl)
  clear hS
  refine wpAnyH_done (by kernel_rfl) ?_ _
  by_cases hf : wf = 0
  rotate_left
  · have e1 : (wf != 0) = true := by simp [bne, beq_eq_false_iff_ne.2 hf]
    obtain rfl : ce = wf := by rw [HCE.out, if_pos hf]
    clear hf
    go_wp2_with fail
    go_ret
    exact ⟨rfl, hS2.out⟩
  subst hf
  replace HCE : Hid (ce = if (wv : Int) ≤ 10 ∨ (wh : Int) < (wv : Int) then 11 else if eqLo (paysO x wv wh) t.outs = true then 0 else 13) := Lib.hid (by rw [HCE.out, if_neg (by simp)])
  go_upto_region 6 with fail
  refine wp_region_held_drew (S := fun W => Hid (Below w.heap.size w W)) (by kernel_rfl) (Lib.hid hS2.out.drew) (fun hS => ?_)
  refine wpAnyH_genT fun X6 hX => ?_
  rw [← hX] at hS
  clear hX hS2 g0 y2
  refine wpAnyH_take (i := 0) (v := ?_) rfl (by kernel_rfl) (by kernel_rfl) (by kernel_rfl) (fun _ _ _ h => h) (Or.inl ⟨by rfl, ?_⟩) hS ?_
  rotate_left
  · (intro w _; go_simp; try with_reducible rfl)
  refine wpAnyH_take (i := 1) (v := ?_) rfl (by kernel_rfl) (by kernel_rfl) (by kernel_rfl) (fun _ _ _ h => h) (Or.inl ⟨by rfl, ?_⟩) hS ?_
  rotate_left
  · (intro w _; go_simp; try with_reducible rfl)
  refine wpAnyH_take (i := 2) (v := ?_) rfl (by kernel_rfl) (by kernel_rfl) (by kernel_rfl) (fun _ _ _ h => h) (Or.inl ⟨by rfl, ?_⟩) hS ?_
  rotate_left
  · (intro w _; go_simp; try with_reducible rfl)
  refine wpAnyH_take (i := 3) (v := ?_) rfl (by kernel_rfl) (by kernel_rfl) (by kernel_rfl) (fun _ _ _ h => h) (Or.inl ⟨by rfl, ?_⟩) hS ?_
  rotate_left
  · (intro w hS'; have hcell := (show World.cell? _ ⟨g, 8, none⟩ = some (.slice (some ⟨ab, off, none⟩) n c) from Blk.cell (HG.out.bel hS'.out) 8); go_simp; try with_reducible rfl)
  refine wpAnyH_take (i := 4) (v := ?_) rfl (by kernel_rfl) (by kernel_rfl) (by kernel_rfl) (fun _ _ _ h => h) (Or.inl ⟨by rfl, ?_⟩) hS ?_
  rotate_left
  · (intro w _; go_simp; try with_reducible rfl)
  refine wpAnyH_take (i := 5) (v := .agg x.cs) rfl (by kernel_rfl) (by kernel_rfl) (by kernel_rfl) (fun _ _ _ h => h) (yields_row (by rfl) 89 (.tmp 39) (by rfl) ab off x.cl (fun W hW => rows_bel HC.out HAB.out hW.out) x.cs (by go_simp) (Array.toArray_toList ..) Tryz.underlying89 infoEnt) hS ?_
  refine wpAnyH_take (i := 6) (v := ?_) rfl (by kernel_rfl) (by kernel_rfl) (by kernel_rfl) (fun _ _ _ h => h) (Or.inl ⟨by rfl, ?_⟩) hS ?_
  rotate_left
  · (intro w _; go_simp; try with_reducible rfl)
  refine wpAnyH_take (i := 7) (v := ?_) rfl (by kernel_rfl) (by kernel_rfl) (by kernel_rfl) (fun _ _ _ h => h) (Or.inl ⟨by rfl, ?_⟩) hS ?_
  rotate_left
  · (intro w _; go_simp; try with_reducible rfl)
  refine wpAnyH_take (i := 8) (v := ?_) rfl (by kernel_rfl) (by kernel_rfl) (by kernel_rfl) (fun _ _ _ h => h) (Or.inl ⟨by rfl, ?_⟩) hS ?_
  rotate_left
  · (intro w _; go_simp; try with_reducible rfl)
  refine wpAnyH_take (i := 9) (v := ?_) rfl (by kernel_rfl) (by kernel_rfl) (by kernel_rfl) (fun _ _ _ h => h) (Or.inl ⟨by rfl, ?_⟩) hS ?_
  rotate_left
  · (intro w _; go_simp; try with_reducible rfl)
  refine wpAnyH_take (i := 10) (v := ?_) rfl (by kernel_rfl) (by kernel_rfl) (by kernel_rfl) (fun _ _ _ h => h) (Or.inl ⟨by rfl, ?_⟩) hS ?_
  rotate_left
  · (intro w hS'; have hcell := (show World.cell? _ ⟨g, 9, none⟩ = some (.int .u64 (wh : Nat)) from Blk.cell (HG.out.bel hS'.out) 9); go_simp; try with_reducible rfl)
  refine wpAnyH_ready (rs := [11]) (by kernel_rfl) (by simp) (AllReadyH.cons rfl (fun K hK => ?_) AllReadyH.nil)
  go_simp
  by_cases hlow : (wv : Int) ≤ 10 ∨ (wh : Int) < (wv : Int)
  · obtain rfl : ce = 11 := by rw [HCE.out, if_pos hlow]
    refine (pays_low x wv wh _ (by omega)).mono ?_
    rintro e V3 ⟨rfl, hb⟩
    have hS3 : Hid (Below w.heap.size w V3) := Lib.hid (hS.out.trans (hb.mono hS.out.size))
    clear hb hS hlow HCE
    go_simp
    refine hK.out _ _ hS3 (fun hS => ?_)
    clear hK K
    refine wpAnyH_take (i := 12) (v := ?_) rfl (by kernel_rfl) (by kernel_rfl) (by kernel_rfl) (fun _ _ _ h => h) (Or.inl ⟨by rfl, ?_⟩) hS ?_
    rotate_left
    · (intro w _; go_simp; try with_reducible rfl)
    refine wpAnyH_take (i := 13) (v := ?_) rfl (by kernel_rfl) (by kernel_rfl) (by kernel_rfl) (fun _ _ _ h => h) (Or.inl ⟨by rfl, ?_⟩) hS ?_
    rotate_left
    · (intro w _; go_simp; try with_reducible rfl)
    refine wpAnyH_take (i := 14) (v := ?_) rfl (by kernel_rfl) (by kernel_rfl) (by kernel_rfl) (fun _ _ _ h => h) (Or.inl ⟨by rfl, ?_⟩) hS ?_
    rotate_left
    · (intro w _; go_simp; try with_reducible rfl)
    refine wpAnyH_take (i := 15) (v := ?_) rfl (by kernel_rfl) (by kernel_rfl) (by kernel_rfl) (fun _ _ _ h => h) (Or.inl ⟨by rfl, ?_⟩) hS ?_
    rotate_left
    · (intro w _; go_simp; try with_reducible rfl)
    refine wpAnyH_take (i := 16) (v := ?_) rfl (by kernel_rfl) (by kernel_rfl) (by kernel_rfl) (fun _ _ _ h => h) (Or.inl ⟨by rfl, ?_⟩) hS ?_
    rotate_left
    · (intro w _; go_simp; try with_reducible rfl)
    clear hS
    refine wpAnyH_done (by kernel_rfl) ?_ _
    go_wp2_with fail
    go_ret
    exact ⟨rfl, hS3.out⟩
  · replace HCE : Hid (ce = if eqLo (paysO x wv wh) t.outs = true then 0 else 13) := Lib.hid (by rw [HCE.out, if_neg hlow])
    refine (pays_ok x wv wh _ (by omega) (by omega) hwh).mono ?_
    rintro e V3 ⟨A3, c3, rfl, hsl, hb⟩
    have hS3 : Hid (Below w.heap.size w V3) := Lib.hid (hS.out.trans (hb.mono hS.out.size))
    have HSL := Lib.hid hsl
    have hpl : (paysO x wv wh).length ≤ 1000000 := by unfold paysO; split <;> simp
    have HE3 := fun W (hb : Below V3.heap.size V3 W) => Lib.hid (HEQ W (hS3.out.trans (hb.mono hS3.out.size)) A3 c3 (paysO x wv wh) ((HSL.out.below hb).more hb.size) hpl).out
    generalize paysO x wv wh = po at HE3 HCE ⊢
    generalize eqLo po t.outs = eb at HE3 HCE
    clear hb hS hlow HEQ hsl hpl HSL
    go_simp
    refine hK.out _ _ hS3 (fun hS => ?_)
    clear hK K
    refine wpAnyH_take (i := 12) (v := ?_) rfl (by kernel_rfl) (by kernel_rfl) (by kernel_rfl) (fun _ _ _ h => h) (Or.inl ⟨by rfl, ?_⟩) hS ?_
    rotate_left
    · (intro w _; go_simp; try with_reducible rfl)
    refine wpAnyH_take (i := 13) (v := ?_) rfl (by kernel_rfl) (by kernel_rfl) (by kernel_rfl) (fun _ _ _ h => h) (Or.inl ⟨by rfl, ?_⟩) hS ?_
    rotate_left
    · (intro w _; go_simp; try with_reducible rfl)
    refine wpAnyH_take (i := 14) (v := ?_) rfl (by kernel_rfl) (by kernel_rfl) (by kernel_rfl) (fun _ _ _ h => h) (Or.inl ⟨by rfl, ?_⟩) hS ?_
    rotate_left
    · (intro w _; go_simp; try with_reducible rfl)
    refine wpAnyH_take (i := 15) (v := ?_) rfl (by kernel_rfl) (by kernel_rfl) (by kernel_rfl) (fun _ _ _ h => h) (Or.inl ⟨by rfl, ?_⟩) hS ?_
    rotate_left
    · (intro w _; go_simp; try with_reducible rfl)
    refine wpAnyH_take (i := 16) (v := ?_) rfl (by kernel_rfl) (by kernel_rfl) (by kernel_rfl) (fun _ _ _ h => h) (Or.inl ⟨by rfl, ?_⟩) hS ?_
    rotate_left
    · (intro w _; go_simp; try with_reducible rfl)
    clear hS
    refine wpAnyH_done (by kernel_rfl) ?_ _
    have g1 : V3.cell? ⟨g, 1, none⟩ = some (.slice t.B t.outs.length t.d) := Blk.cell (HG.out.bel hS3.out) 1
    go_wp2_with fail
    refine (HE3 _ (Below.refl _ _)).out.mono ?_
    rintro e V4 ⟨rfl, hb⟩
    replace hS3 : Hid (Below w.heap.size w V4) := Lib.hid (hS3.out.trans (hb.mono hS3.out.size))
    clear hb g1 HE3
    cases eb with
    | true =>
      obtain rfl : ce = 0 := HCE.out
      go_wp2_with fail
      go_ret
      exact ⟨rfl, hS3.out⟩
    | false =>
      obtain rfl : ce = 13 := HCE.out
      go_wp2_with fail
      go_ret
      exact ⟨rfl, hS3.out⟩
end Go.Proofs.YtjcinncphffgaaaGreat
