/- utxo: found: what a transaction spends, on one path. utxo: may: what is wrong with spending one input. coin.Whole: what a list of outputs is on the whole. utxo: Total of a set's outputs. -/
import Derived.Outline
import Derived.Deep.RegionHeld3
import Derived.Deep.AppendLies
import Derived.Test.YtjcinncphffgaaaGreatMjG22
import Derived.Test.YtjcinncphffgaaaGreatMjG26
import Derived.Test.YtjcinncphffgaaaGreatMjG28
import Derived.Test.YtjcinncphffgaaaGreatMjG30
import Derived.Test.YtjcinncphffgaaaGreatMjMerk
set_option linter.unusedVariables false
set_option linter.unusedSimpArgs false
namespace Go.Proofs.YtjcinncphffgaaaGreat
open Go.RowKit Go.Maps Go.Sort
/-- what found answers -/
def FoundR (fe : Int) (L : List En) (t : Txn) (core : ByteArray) (h : Int) (w : World) (e : Ending) (w' : World) : Prop := Below w.heap.size w w' ∧
  ((fe ≠ 0 ∧ e = .returned (.tuple #[.pointer none, .int .i64 fe])) ∨
   (fe = 0 ∧ ∃ g, w.heap.size ≤ g ∧ SpAt w' g t core h L 0 ∧ e = .returned (.tuple #[.pointer (some ⟨g, 0, none⟩), .int .i64 0])))
theorem row_ne {W : World} {g : Nat} {t e : TypeId} {cs : Array Value} (h : Blk W g t cs) (hte : t ≠ e) {base size k c : Nat} {A : Option Addr} {xs : List Value} (hr : W.ownsRow base e size (.slice A k c) k xs) : ∀ a, A = some a → a.block ≠ g := by
  intro a ha hb
  subst ha
  have hn := blk_not_row h hte hr
  rcases hr.2 with ⟨h0, _⟩ | ⟨g', cap, cur, h0, _⟩
  · injection h0 with h0; cases h0
  · injection h0 with h0 _ _
    injection h0 with h0
    subst h0
    exact hn (by rw [← hb]; rfl)
set_option maxRecDepth 100000 in
set_option maxHeartbeats 4000000 in
theorem found_any (sb b : Nat) (T : List En) (t : Txn) (h : Int) (w : World) (hS : SetAt w sb b T) (hm : t.mem w) (hl : t.ins.length ≤ 1000) (hlo : t.outs.length ≤ 1000) (hlw : t.p.l.length ≤ 1000) (hz : ∀ o ∈ t.outs, o.am < 18446744073709551616 ∧ o.unit < 18446744073709551616) :
    Calls Tryz.prog 105 #[.pointer (some ⟨sb, 0, none⟩), .agg t.cs, .int .i64 h] w (FoundR (foundE T t) (spentT T t) t (coreX t) h w) := by
  obtain ⟨i0, hi, hz0, hz1, hz2⟩ := info_parts Tryz.infoEn'
  have Hz0 := Lib.hid hz0
  have HS := Lib.hid hS
  have HR := fun W (hb : Below w.heap.size w W) => Lib.hid (right_gen t W (hm.bel hb) hl hlo hlw)
  have HC := fun W (hb : Below w.heap.size w W) => Lib.hid (core_gen t W (hm.bel hb) hl hlo hlw hz)
  have HSI := Lib.hid hm.ins
  have HX : Hid (Blk (w.alloc (.cells t.cs 53)) w.heap.size 53 t.cs) := Lib.hid (Blk.new _ _ _)
  have HB : Hid (Below w.heap.size w (w.alloc (.cells t.cs 53))) := Lib.hid ((Below.refl _ _).alloc (Nat.le_refl _) _)
  have HFE : Hid (foundE T t = if rightT t = false then 4 else if (t.ins.all (hasI T)) = false then 6 else if oneP t && (decide (path0 t = 2) || noneP t.p) then 0 else 13) := rfl
  have HCP := fun W (hb : Below w.heap.size w W) px => Lib.hid (containsp_in px t.A t.ins t.c (fun i => decide (i.path ≠ path0 t)) W ((hm.bel hb).ins) (by omega))
  have HOP : Hid (oneP t = !(t.ins.any fun i => decide (i.path ≠ path0 t))) := rfl
  have hmf : ∀ (fn : Fn) (first cap : Array Value) (w : World), (Instr.makeFunc fn first cap).run Tryz.prog w = .ok (.func fn first cap) w := fun _ _ _ _ => rfl
  obtain ⟨L, hL⟩ : ∃ L, L = spentT T t := ⟨_, rfl⟩
  rw [← hL]
  have HLE := Lib.hid hL
  clear hL
  clear hm hz hS hz0
  cases hr : rightT t with
  | false =>
    obtain ⟨fe, hfe⟩ : ∃ fe, fe = foundE T t := ⟨_, rfl⟩
    rw [← hfe]
    obtain rfl : fe = 4 := by rw [hfe, HFE.out, if_pos hr]
    clear hfe
    rw [hr] at HR
    clear hr
    go_enter Tryz.func105, Tryz.ntmps105
    go_wp2_with (refine wpList_load_blk rfl 53 (.tmp 4) rfl w.heap.size 0 6 HX.out t.cs (by rfl) (txn_ext t) Tryz.underlying53 infoTx (Nat.le_refl 6) ?_)
    refine (HR _ HB.out).out.mono ?_
    rintro e w1 ⟨rfl, hb⟩
    replace HB := Lib.hid (HB.out.trans (Below.mono hb HB.out.size))
    clear hb
    go_wp2
    go_ret2
    exact ⟨HB.out, .inl ⟨by decide, rfl⟩⟩
  | true =>
    have HG := Lib.hid (right_t hr)
    replace HFE : Hid (foundE T t = if (t.ins.all (hasI T)) = false then 6 else if oneP t && (decide (path0 t = 2) || noneP t.p) then 0 else 13) := Lib.hid (by rw [HFE.out, if_neg (by rw [hr]; decide)])
    generalize foundE T t = fe at HFE ⊢
    rw [hr] at HR
    clear hr
    obtain ⟨core, hcore⟩ : ∃ core, core = coreX t := ⟨_, rfl⟩
    rw [← hcore] at HC ⊢
    clear hcore
    have hn1 := HG.out.n1
    go_enter Tryz.func105, Tryz.ntmps105
    go_wp2_with (refine wpList_load_blk rfl 53 (.tmp 4) rfl w.heap.size 0 6 HX.out t.cs (by rfl) (txn_ext t) Tryz.underlying53 infoTx (Nat.le_refl 6) ?_)
    refine (HR _ HB.out).out.mono ?_
    rintro e w1 ⟨rfl, hb⟩
    replace HX := Lib.hid (HX.out.bel hb)
    replace HB := Lib.hid (HB.out.trans (Below.mono hb HB.out.size))
    clear hb HR
    go_upto_region 3 with fail
    refine wp_gen fun X0 hX => ?_
    rw [← hX] at HX HB
    clear hX
    refine wp_region_held_drew (S := fun W => Hid (Blk W w.heap.size 53 t.cs)) (by kernel_rfl) (Lib.hid (HX.out.drewN 1)) (fun hS => ?_)
    replace HB : Hid (Below w.heap.size w X0.drew) := HB.out.drew
    refine wpAnyH_genT fun X hX => ?_
    rw [← hX] at HB hS
    clear hX HX
    refine wpAnyH_take (i := 0) (v := .agg #[.slice t.A t.ins.length t.c, .slice t.B t.outs.length t.d, .int .u64 (t.p.am : Nat), .string t.p.sig, .string t.p.tok, .slice t.p.A t.p.l.length t.p.c]) rfl (by kernel_rfl) (by kernel_rfl) (by kernel_rfl) (fun _ _ _ h => h) (yields_blk (by rfl) 53 (.tmp 4) (by rfl) w.heap.size 0 6 (t := 53) (cs := t.cs) (fun W h => h.out) #[.slice t.A t.ins.length t.c, .slice t.B t.outs.length t.d, .int .u64 (t.p.am : Nat), .string t.p.sig, .string t.p.tok, .slice t.p.A t.p.l.length t.p.c] (by rfl) (by rfl) Tryz.underlying53 infoTx (Nat.le_refl 6)) hS ?_
    refine wpAnyH_take (i := 1) (v := .agg t.cs) rfl (by kernel_rfl) (by kernel_rfl) (by kernel_rfl) (fun _ _ _ h => h) (yields_blk (by rfl) 53 (.tmp 4) (by rfl) w.heap.size 0 6 (t := 53) (cs := t.cs) (fun W h => h.out) t.cs (by rfl) (by rfl) Tryz.underlying53 infoTx (Nat.le_refl 6)) hS ?_
    refine wpAnyH_take (i := 3) (v := ?_) rfl (by kernel_rfl) (by kernel_rfl) (by kernel_rfl) (fun _ _ _ h => h) (Or.inl ⟨by rfl, ?_⟩) hS ?_
    rotate_left
    · (intro w _; go_simp; try with_reducible rfl)
    refine wpAnyH_ready (rs := [2]) (by kernel_rfl) (by simp) (AllReadyH.cons rfl (fun K hK => ?_) AllReadyH.nil)
    go_simp
    refine (HC _ HB.out).out.mono ?_
    rintro e w2 ⟨rfl, hb⟩
    have hS2 := Lib.hid (hS.out.bel hb)
    replace HB := Lib.hid (HB.out.trans (hb.mono HB.out.size))
    clear hb
    go_simp
    refine hK.out _ _ hS2 (fun hS => ?_)
    clear hK K hS2
    refine wpAnyH_take (i := 4) (v := ?_) rfl (by kernel_rfl) (by kernel_rfl) (by kernel_rfl) (fun _ _ _ h => h) (Or.inl ⟨by rfl, ?_⟩) hS ?_
    rotate_left
    · (intro w _; go_simp; try with_reducible rfl)
    refine wpAnyH_ready (rs := [5]) (by kernel_rfl) (by simp) (AllReadyH.cons rfl (fun K hK => ?_) AllReadyH.nil)
    go_simp
    have HBX : Hid (Below w2.heap.size w2 (w2.alloc (.cells (spX t core h none 0 0 0) 265))) := Lib.hid ((Below.refl _ _).alloc (Nat.le_refl _) _)
    have HNB : Hid (Blk (w2.alloc (.cells (spX t core h none 0 0 0) 265)) w2.heap.size 265 (spX t core h none 0 0 0)) := Blk.new _ _ _
    refine hK.out _ _ (Lib.hid (hS.out.bel HBX.out)) (fun hS3 => ?_)
    clear hK K
    refine wpAnyH_genT fun w3 hX1 => ?_
    replace hX1 : w3 = w2.alloc (.cells (spX t core h none 0 0 0) 265) := hX1
    rw [← hX1] at HBX HNB
    have HX := Lib.hid (hS.out.bel HBX.out)
    replace HB := Lib.hid (HB.out.trans (HBX.out.mono HB.out.size))
    have hgl : w.heap.size ≤ w2.heap.size := by have := hS.out.lt; omega
    generalize w2.heap.size = g at HNB hgl ⊢
    clear hS HBX hX1
    refine wpAnyH_take (i := 6) (v := ?_) rfl (by kernel_rfl) (by kernel_rfl) (by kernel_rfl) (fun _ _ _ h => h) (Or.inl ⟨by rfl, ?_⟩) HX ?_
    rotate_left
    · (intro w _; go_simp; try with_reducible rfl)
    refine wpAnyH_done (by kernel_rfl) ?_ _
    have c0 : w3.cell? ⟨w.heap.size, 0, none⟩ = some (.slice t.A t.ins.length t.c) := HX.out.cell 0
    obtain ⟨TA, hTA⟩ : ∃ TA, t.A = TA := ⟨_, rfl⟩
    have HTA := Lib.hid hTA
    rw [hTA] at c0 HSI HCP
    clear hTA
    go_wp2_with fail
    go_loopw [27] (fun i wr => ∃ (k : Nat) (A : Option Addr) (c : Nat), k ≤ t.ins.length ∧ i = .int .i64 k ∧ Hid ((t.ins.take k).all (hasI T) = true) ∧ Hid (Blk wr g 265 (spX t core h A k c 0)) ∧ Hid (wr.ownsRow w.heap.size 89 11 (.slice A k c) k (((t.ins.take k).map (entD T)).flatMap En.cl)) ∧ Hid (Blk wr w.heap.size 53 t.cs) ∧ Hid (Below w.heap.size w wr)) (fun i _ => t.ins.length - (intOf i).toNat)
    case atStart => exact ⟨0, none, 0, Nat.zero_le _, rfl, Lib.hid rfl, HNB, Lib.hid (own_nil0 _ _ _ _), HX, HB⟩
    case round =>
      clear HX HB HNB c0
      obtain ⟨k, A, c, hk, rfl, HA, HN, HO, HX, HB⟩ := hrel
      have hz := HB.out.size
      by_cases hlt : k < t.ins.length
      · have d0 : decide (k < t.ins.length) = true := decide_eq_true hlt
        have hok := inB_ok (HG.out.ins _ (List.getElem_mem hlt))
        obtain ⟨ab, off, hAe, hbB, hc⟩ := (HSI.out.below HB.out).at_ hlt
        subst hAe
        have HCC := Lib.hid hc
        have HSN := Lib.hid (spent_snoc T t.ins k hlt)
        have HAS : Hid ((t.ins.take (k + 1)).all (hasI T) = ((t.ins.take k).all (hasI T) && hasI T t.ins[k])) := Lib.hid (by rw [List.take_succ_eq_append_getElem hlt, List.all_append]; simp)
        have HBAD : Hid (hasI T t.ins[k] = false → t.ins.all (hasI T) = false) := Lib.hid (fun h => by rw [List.all_eq_false]; exact ⟨_, List.getElem_mem hlt, by rw [h]; simp⟩)
        have HLK : Hid (∀ W, Ut W b T → (Instr.lookup 184 (.map (some b)) (.agg #[.string t.ins[k].tx, .int .i64 t.ins[k].out]) true).run Tryz.prog W = .ok (.tuple #[.agg ((getU T t.ins[k].pt).getD zOu).cs, .bool (getU T t.ins[k].pt).isSome]) W) := Lib.hid (fun W h => h.look t.ins[k].pt hok)
        have HED : Hid (entD T t.ins[k] = ⟨t.ins[k].tx, t.ins[k].out, (getU T t.ins[k].pt).getD zOu⟩) := rfl
        have HHI : Hid (hasI T t.ins[k] = (getU T t.ins[k].pt).isSome) := rfl
        generalize t.ins[k] = x at HCC hok HSN HAS HBAD HLK HED HHI
        generalize entD T x = ee at HSN HED
        generalize hasI T x = hx at HAS HBAD HHI
        generalize (getU T x.pt).getD zOu = oo at HLK HED
        generalize (getU T x.pt).isSome = bo at HLK HHI
        clear hc hok
        have hga : g < wr.heap.size := Blk.lt HN.out
        go_upto_region 7 with (first
          | (refine wpList_load_in rfl (.tmp 29) rfl ab (off + k * 4) (by rfl) x HCC.out ?_)
          | (refine wpList_store_part rfl 59 (.tmp 10) (.tmp 30) rfl wr.heap.size 0 (cs := zInp.cs) (Blk.new _ _ _) x.cs x.cs (by rfl) (by rfl) (Nat.le_refl 4) infoIn (incs_one x) (inv_over x rfl) ?_; intro W1 hb1 hc1; have hb := bel_st' hc1; have H5 := Lib.hid hb1; replace HX := Lib.hid (HX.out.bel hb); replace HN := Lib.hid (HN.out.bel hb); replace HO := Lib.hid (Ch.owns (Ch.of_below hb []) HO.out (by simp)); replace HB := Lib.hid (HB.out.trans (Below.mono hb HB.out.size)); clear hb1 hc1 hb))
        generalize wr.heap.size = a5 at H5 hga ⊢
        have HSW := Lib.hid (HS.out.bel HB.out)
        refine wp_region_held_drew (S := fun W => Hid (Below W1.heap.size W1 W)) (by kernel_rfl) (Lib.hid (Below.refl _ _).drew) (fun hS => ?_)
        refine wpAnyH_genT fun X hX => ?_
        rw [← hX] at hS
        clear hX
        refine wpAnyH_take (i := 0) (v := ?_) rfl (by kernel_rfl) (by kernel_rfl) (by kernel_rfl) (fun _ _ _ h => h) (Or.inl ⟨by rfl, ?_⟩) hS ?_
        rotate_left
        · (intro w _; go_simp; try with_reducible rfl)
        refine wpAnyH_take (i := 1) (v := ?_) rfl (by kernel_rfl) (by kernel_rfl) (by kernel_rfl) (fun _ _ _ h => h) (Or.inl ⟨by rfl, ?_⟩) hS ?_
        rotate_left
        · (intro w _; go_simp; try with_reducible rfl)
        refine wpAnyH_take (i := 2) (v := ?_) rfl (by kernel_rfl) (by kernel_rfl) (by kernel_rfl) (fun _ _ _ h => h) (Or.inl ⟨by rfl, ?_⟩) hS ?_
        rotate_left
        · (intro w _; go_simp; try with_reducible rfl)
        refine wpAnyH_take (i := 3) (v := ?_) rfl (by kernel_rfl) (by kernel_rfl) (by kernel_rfl) (fun _ _ _ h => h) (Or.inl ⟨by rfl, ?_⟩) hS ?_
        rotate_left
        · (intro w hS'; have hcell := (show World.cell? _ ⟨sb, 0, none⟩ = some (.map (some b)) from Blk.cell (HSW.out.bel hS'.out).hd 0); go_simp; try with_reducible rfl)
        refine wpAnyH_take (i := 4) (v := ?_) rfl (by kernel_rfl) (by kernel_rfl) (by kernel_rfl) (fun _ _ _ h => h) (Or.inl ⟨by rfl, ?_⟩) hS ?_
        rotate_left
        · (intro w _; go_simp; try with_reducible rfl)
        refine wpAnyH_take (i := 5) (v := .agg #[.string x.tx, .int .i64 x.out]) rfl (by kernel_rfl) (by kernel_rfl) (by kernel_rfl) (fun _ _ _ h => h) (yields_blk (by rfl) 57 (.tmp 36) (by rfl) a5 0 2 (t := 59) (cs := x.cs) (fun W h => H5.out.bel h.out) #[.string x.tx, .int .i64 x.out] (by rfl) (by rfl) Tryz.underlying57 (by kernel_rfl) (by show 2 ≤ 4; omega)) hS ?_
        refine wpAnyH_take (i := 6) (v := ?_) rfl (by kernel_rfl) (by kernel_rfl) (by kernel_rfl) (fun _ _ _ h => h) (Or.inl ⟨by rfl, ?_⟩) hS ?_
        rotate_left
        · (intro w hS'; have hcell := (HLK.out _ (HSW.out.bel hS'.out).ut); go_simp; try with_reducible rfl)
        refine wpAnyH_take (i := 7) (v := ?_) rfl (by kernel_rfl) (by kernel_rfl) (by kernel_rfl) (fun _ _ _ h => h) (Or.inl ⟨by rfl, ?_⟩) hS ?_
        rotate_left
        · (intro w _; go_simp; try with_reducible rfl)
        refine wpAnyH_take (i := 8) (v := ?_) rfl (by kernel_rfl) (by kernel_rfl) (by kernel_rfl) (fun _ _ _ h => h) (Or.inl ⟨by rfl, ?_⟩) hS ?_
        rotate_left
        · (intro w _; go_simp; try with_reducible rfl)
        refine wpAnyH_ready (rs := [9, 10]) (by kernel_rfl) (by simp) (AllReadyH.cons rfl (fun K hK => ?_) (AllReadyH.cons rfl (fun K hK => ?_) AllReadyH.nil))
        · go_simp
          refine hK.out _ _ hS (fun hS => ?_)
          clear hK K
          refine wpAnyH_ready (rs := [10]) (by kernel_rfl) (by simp) (AllReadyH.cons rfl (fun K hK => ?_) AllReadyH.nil)
          go_simp
          have HBX : Hid (Below X.heap.size X (X.alloc (.cells zOu.cs 81))) := Lib.hid ((Below.refl _ _).alloc (Nat.le_refl _) _)
          have HNB : Hid (Blk (X.alloc (.cells zOu.cs 81)) X.heap.size 81 zOu.cs) := Blk.new _ _ _
          refine hK.out _ _ (Lib.hid (hS.out.trans (HBX.out.mono hS.out.size))) (fun hS1 => ?_)
          clear hK K
          refine wpAnyH_genT fun X1 hX1 => ?_
          replace hX1 : X1 = X.alloc (.cells zOu.cs 81) := hX1
          rw [← hX1] at HBX HNB
          have hS2 : Hid (Below W1.heap.size W1 X1) := Lib.hid (hS.out.trans (HBX.out.mono hS.out.size))
          have hgX : W1.heap.size ≤ X.heap.size := hS.out.size
          clear hX1 hS1 HBX hS
          generalize X.heap.size = gg at HNB hgX ⊢
          refine wpAnyH_ready (rs := [11]) (by kernel_rfl) (by simp) (AllReadyH.cons rfl (fun K hK => ?_) AllReadyH.nil)
          refine step_store_part (by rfl) 81 (.tmp 11) (.tmp 39) (by rfl) gg 0 HNB.out oo.cs oo.cs (by rfl) (by rfl) (Nat.le_refl 9) infoOu9 (oucs_one oo) (ouv_over oo rfl) ?_
          intro Wq hb1 hc1
          have HT := Lib.hid hb1
          have hS3 : Hid (Below W1.heap.size W1 Wq) := Lib.hid (hS2.out.trans (hc1.below hS2.out.size (by simp; omega)))
          clear hb1 hc1 HNB
          refine hK.out _ _ hS3 (fun hS => ?_)
          clear hK K hS2
          refine wpAnyH_take (i := 12) (v := ?_) rfl (by kernel_rfl) (by kernel_rfl) (by kernel_rfl) (fun _ _ _ h => h) (Or.inl ⟨by rfl, ?_⟩) hS ?_
          rotate_left
          · (intro w _; go_simp; try with_reducible rfl)
          clear hS
          refine wpAnyH_done (by kernel_rfl) ?_ _
          have hx5 : a5 < gg := by have := (show Blk _ _ _ _ from H5.out).lt; omega
          replace H5 := Lib.hid (H5.out.bel hS3.out)
          replace HX := Lib.hid (HX.out.bel hS3.out)
          replace HN := Lib.hid (HN.out.bel hS3.out)
          replace HO := Lib.hid (Ch.owns (Ch.of_below hS3.out []) HO.out (by simp))
          replace HB := Lib.hid (HB.out.trans (hS3.out.mono HB.out.size))
          clear hS3 HSW
          cases bo with
          | false =>
            obtain rfl : fe = 6 := by rw [HFE.out, if_pos (HBAD.out HHI.out)]
            go_wp2_with fail
            go_ret2
            exact ⟨HB.out, .inl ⟨by decide, rfl⟩⟩
          | true =>
            have HA1 : Hid ((t.ins.take (k + 1)).all (hasI T) = true) := Lib.hid (by rw [HAS.out, HA.out, HHI.out]; rfl)
            clear HBAD HAS HHI HLK
            go_upto_region 10 with fail
            refine wp_region_held_drew (S := fun W => Hid (Blk W a5 59 x.cs ∧ Blk W gg 81 oo.cs)) (by kernel_rfl) (Lib.hid ⟨H5.out.drewN 1, HT.out.drewN 1⟩) (fun hS => ?_)
            replace HX : Hid (Blk (World.drew _) w.heap.size 53 t.cs) := Lib.hid (HX.out.drewN 1)
            replace HN : Hid (Blk (World.drew _) g 265 (spX t core h A k c 0)) := Lib.hid (HN.out.drewN 1)
            replace HO := Lib.hid HO.out.drew
            replace HB : Hid (Below w.heap.size w (World.drew _)) := HB.out.drew
            refine wpAnyH_genT fun Y hY => ?_
            rw [← hY] at HX HN HO HB hS
            clear hY H5 HT
            refine wpAnyH_take (i := 0) (v := ?_) rfl (by kernel_rfl) (by kernel_rfl) (by kernel_rfl) (fun _ _ _ h => h) (Or.inl ⟨by rfl, ?_⟩) hS ?_
            rotate_left
            · (intro w _; go_simp; try with_reducible rfl)
            refine wpAnyH_take (i := 1) (v := ?_) rfl (by kernel_rfl) (by kernel_rfl) (by kernel_rfl) (fun _ _ _ h => h) (Or.inl ⟨by rfl, ?_⟩) hS ?_
            rotate_left
            · (intro w _; go_simp; try with_reducible rfl)
            refine wpAnyH_take (i := 2) (v := ?_) rfl (by kernel_rfl) (by kernel_rfl) (by kernel_rfl) (fun _ _ _ h => h) (Or.inl ⟨by rfl, ?_⟩) hS ?_
            rotate_left
            · (intro w _; go_simp; try with_reducible rfl)
            refine wpAnyH_take (i := 3) (v := ?_) rfl (by kernel_rfl) (by kernel_rfl) (by kernel_rfl) (fun _ _ _ h => h) (Or.inl ⟨by rfl, ?_⟩) hS ?_
            rotate_left
            · (intro w _; go_simp; try with_reducible rfl)
            refine wpAnyH_take (i := 5) (v := ?_) rfl (by kernel_rfl) (by kernel_rfl) (by kernel_rfl) (fun _ _ _ h => h) (Or.inl ⟨by rfl, ?_⟩) hS ?_
            rotate_left
            · (intro w _; go_simp; try with_reducible rfl)
            refine wpAnyH_take (i := 6) (v := .agg #[.string x.tx, .int .i64 x.out]) rfl (by kernel_rfl) (by kernel_rfl) (by kernel_rfl) (fun _ _ _ h => h) (yields_blk (by rfl) 57 (.tmp 48) (by rfl) a5 0 2 (t := 59) (cs := x.cs) (fun W h => h.out.1) #[.string x.tx, .int .i64 x.out] (by rfl) (by rfl) Tryz.underlying57 (by kernel_rfl) (by show 2 ≤ 4; omega)) hS ?_
            refine wpAnyH_take (i := 7) (v := .agg #[.int .i64 oo.kind, .int .u64 (oo.am : Nat), .string oo.key, .string oo.gate, .int .i64 oo.ex, .string oo.anchor, .int .u64 (oo.unit : Nat), .int .i64 oo.tok, .string oo.of_]) rfl (by kernel_rfl) (by kernel_rfl) (by kernel_rfl) (fun _ _ _ h => h) (yields_blk (by rfl) 81 (.tmp 11) (by rfl) gg 0 9 (t := 81) (cs := oo.cs) (fun W h => h.out.2) #[.int .i64 oo.kind, .int .u64 (oo.am : Nat), .string oo.key, .string oo.gate, .int .i64 oo.ex, .string oo.anchor, .int .u64 (oo.unit : Nat), .int .i64 oo.tok, .string oo.of_] (by rfl) (by rfl) Tryz.underlying81 infoOu9 (Nat.le_refl 9)) hS ?_
            refine wpAnyH_take (i := 8) (v := ?_) rfl (by kernel_rfl) (by kernel_rfl) (by kernel_rfl) (fun _ _ _ h => h) (Or.inl ⟨by rfl, ?_⟩) hS ?_
            rotate_left
            · (intro w _; go_simp; try with_reducible rfl)
            refine wpAnyH_ready (rs := [4, 9]) (by kernel_rfl) (by simp) (AllReadyH.cons rfl (fun K hK => ?_) (AllReadyH.cons rfl (fun K hK => ?_) AllReadyH.nil))
            · have q8 : Y.cell? ⟨g, 8, none⟩ = some (.slice A k c) := HN.out.cell 8
              go_simp
              refine hK.out _ _ hS (fun hS => ?_)
              clear hK K q8
              refine wpAnyH_ready (rs := [9]) (by kernel_rfl) (by simp) (AllReadyH.cons rfl (fun K hK => ?_) AllReadyH.nil)
              go_simp
              have HBX : Hid (Below Y.heap.size Y (Y.alloc (.cells (En.mk x.tx x.out oo).cs 89))) := Lib.hid ((Below.refl _ _).alloc (Nat.le_refl _) _)
              have HNB : Hid (Blk (Y.alloc (.cells (En.mk x.tx x.out oo).cs 89)) Y.heap.size 89 (En.mk x.tx x.out oo).cs) := Blk.new _ _ _
              refine hK.out _ _ (Lib.hid ⟨hS.out.1.bel HBX.out, hS.out.2.bel HBX.out⟩) (fun _ => ?_)
              clear hK K
              refine wpAnyH_genT fun X1 hX1 => ?_
              replace hX1 : X1 = Y.alloc (.cells (En.mk x.tx x.out oo).cs 89) := hX1
              rw [← hX1] at HBX HNB
              clear hX1
              replace HX := Lib.hid (HX.out.bel HBX.out)
              replace HN := Lib.hid (HN.out.bel HBX.out)
              replace HO := Lib.hid (Ch.owns (Ch.of_below HBX.out []) HO.out (by simp))
              replace HB := Lib.hid (HB.out.trans (HBX.out.mono HB.out.size))
              replace hS : Hid (Blk X1 a5 59 x.cs ∧ Blk X1 gg 81 oo.cs) := Lib.hid ⟨hS.out.1.bel HBX.out, hS.out.2.bel HBX.out⟩
              have HNW := Lib.hid (World.news_of_block HNB.out)
              clear HBX HNB
              have hbz1 : w.heap.size ≤ X1.heap.size := HB.out.size
              refine wpAnyH_ready (rs := [10]) (by kernel_rfl) (by simp) (AllReadyH.cons rfl (fun K hK => ?_) AllReadyH.nil)
              refine step_append_lies _ (by rfl) (.tmp 47) (.tmp 52) 85 (by rfl) w.heap.size 89 i0 _ 11 128 Tryz.underlying85 hi Hz0.out hz1 hz2 rfl (by omega) (.slice A k c) k _ (by rfl) HO.out ⟨Y.heap.size, 0, none⟩ 1 1 (En.mk x.tx x.out oo).cl (by rfl) (by rfl) HNW.out (encl_one _) (by omega) (by simp only [maxLen]; omega) (by omega) hbz1 _ rfl ?_
              intro gr cap W4 hown4 hgrow hat hlt4
              replace HX := Lib.hid (Blk.grown HX.out hgrow (blk_not_row HX.out (by decide) HO.out))
              replace HN := Lib.hid (Blk.grown HN.out hgrow (blk_not_row HN.out (by decide) HO.out))
              have hS4 : Hid (Blk W4 a5 59 x.cs ∧ Blk W4 gg 81 oo.cs) := Lib.hid ⟨Blk.grown hS.out.1 hgrow (blk_not_row hS.out.1 (by decide) HO.out), Blk.grown hS.out.2 hgrow (blk_not_row hS.out.2 (by decide) HO.out)⟩
              replace HB := Lib.hid (HB.out.grown hgrow hbz1 (own_base HO.out))
              replace HO := Lib.hid hown4
              have hgr : some g ≠ (Value.slice (some ⟨gr, 0, none⟩) (k + 1) cap).ownBlock := blk_not_row HN.out (by decide) HO.out
              have HGR : Hid (gr ≠ g) := Lib.hid (by intro e; subst e; exact hgr rfl)
              clear hown4 hgrow hat hlt4 HNW hgr hS hbz1
              refine hK.out _ _ hS4 (fun hS => ?_)
              clear hK K hS4
              refine wpAnyH_take (i := 11) (v := ?_) rfl (by kernel_rfl) (by kernel_rfl) (by kernel_rfl) (fun _ _ _ h => h) (Or.inl ⟨by rfl, ?_⟩) hS ?_
              rotate_left
              · (intro w _; go_simp; try with_reducible rfl)
              refine wpAnyH_take (i := 12) (v := ?_) rfl (by kernel_rfl) (by kernel_rfl) (by kernel_rfl) (fun _ _ _ h => h) (Or.inl ⟨by rfl, ?_⟩) hS ?_
              rotate_left
              · (intro w _; go_simp; try with_reducible rfl)
              have q8 : W4.cell? ⟨g, 8, none⟩ = some (.slice A k c) := HN.out.cell 8
              have z8 : W4.frozen? ⟨g, 8, none⟩ = false := HN.out.frozen 8
              refine wpAnyH_ready (rs := [13]) (by kernel_rfl) (by simp) (AllReadyH.cons rfl (fun K hK => ?_) AllReadyH.nil)
              go_simp
              have h5g : Hid (a5 ≠ g ∧ gg ≠ g) := Lib.hid ⟨hS.out.1.ne_ HN.out (by decide), hS.out.2.ne_ HN.out (by decide)⟩
              refine hK.out _ _ (Lib.hid ⟨hS.out.1.far (by simpa using h5g.out.1) _, hS.out.2.far (by simpa using h5g.out.2) _⟩) (fun _ => ?_)
              clear hK K q8 z8 hS
              refine wpAnyH_genT fun W5 hW5 => ?_
              have hwg : Hid (w.heap.size ≠ g) := Lib.hid (HX.out.ne_ HN.out (by decide))
              replace HX : Hid (Blk W5 w.heap.size 53 t.cs) := Lib.hid (by rw [hW5]; exact HX.out.far (by simpa using hwg.out) _)
              replace HN : Hid (Blk W5 g 265 (spX t core h (some ⟨gr, 0, none⟩) (k + 1) cap 0)) := Lib.hid (by rw [hW5]; exact HN.out.set_ 8 _)
              replace HO : Hid (W5.ownsRow w.heap.size 89 11 (.slice (some ⟨gr, 0, none⟩) (k + 1) cap) (k + 1) (((t.ins.take k).map (entD T)).flatMap En.cl ++ (En.mk x.tx x.out oo).cl)) := Lib.hid (by rw [hW5]; exact Ch.owns (Ch.set_ (S := [g]) (by simp) _ 8 _) HO.out (fun b hb => by have : gr = b := Option.some.inj hb; have := HGR.out; simp; omega))
              replace HB : Hid (Below w.heap.size w W5) := Lib.hid (by rw [hW5]; exact HB.out.setCell (by simp; omega) _)
              clear hW5
              refine wpAnyH_done (by kernel_rfl) ?_ _
              go_wp2_with fail
              go_roundw
              case rel => exact ⟨k + 1, some ⟨gr, 0, none⟩, cap, by omega, by go_num, HA1, HN, Lib.hid (by rw [HSN.out, HED.out]; exact HO.out), HX, HB⟩
              case measure => simp [intOf]; omega
            · go_simp
              have HBX : Hid (Below Y.heap.size Y (Y.alloc (.cells (En.mk x.tx x.out oo).cs 89))) := Lib.hid ((Below.refl _ _).alloc (Nat.le_refl _) _)
              have HNB : Hid (Blk (Y.alloc (.cells (En.mk x.tx x.out oo).cs 89)) Y.heap.size 89 (En.mk x.tx x.out oo).cs) := Blk.new _ _ _
              refine hK.out _ _ (Lib.hid ⟨hS.out.1.bel HBX.out, hS.out.2.bel HBX.out⟩) (fun _ => ?_)
              clear hK K
              refine wpAnyH_genT fun X1 hX1 => ?_
              replace hX1 : X1 = Y.alloc (.cells (En.mk x.tx x.out oo).cs 89) := hX1
              rw [← hX1] at HBX HNB
              clear hX1
              replace HX := Lib.hid (HX.out.bel HBX.out)
              replace HN := Lib.hid (HN.out.bel HBX.out)
              replace HO := Lib.hid (Ch.owns (Ch.of_below HBX.out []) HO.out (by simp))
              replace HB := Lib.hid (HB.out.trans (HBX.out.mono HB.out.size))
              replace hS : Hid (Blk X1 a5 59 x.cs ∧ Blk X1 gg 81 oo.cs) := Lib.hid ⟨hS.out.1.bel HBX.out, hS.out.2.bel HBX.out⟩
              have HNW := Lib.hid (World.news_of_block HNB.out)
              clear HBX HNB
              have q8 : X1.cell? ⟨g, 8, none⟩ = some (.slice A k c) := HN.out.cell 8
              refine wpAnyH_ready (rs := [4]) (by kernel_rfl) (by simp) (AllReadyH.cons rfl (fun K hK => ?_) AllReadyH.nil)
              go_simp
              refine hK.out _ _ hS (fun hS => ?_)
              clear hK K q8
              have hbz1 : w.heap.size ≤ X1.heap.size := HB.out.size
              refine wpAnyH_ready (rs := [10]) (by kernel_rfl) (by simp) (AllReadyH.cons rfl (fun K hK => ?_) AllReadyH.nil)
              refine step_append_lies _ (by rfl) (.tmp 47) (.tmp 52) 85 (by rfl) w.heap.size 89 i0 _ 11 128 Tryz.underlying85 hi Hz0.out hz1 hz2 rfl (by omega) (.slice A k c) k _ (by rfl) HO.out ⟨Y.heap.size, 0, none⟩ 1 1 (En.mk x.tx x.out oo).cl (by rfl) (by rfl) HNW.out (encl_one _) (by omega) (by simp only [maxLen]; omega) (by omega) hbz1 _ rfl ?_
              intro gr cap W4 hown4 hgrow hat hlt4
              replace HX := Lib.hid (Blk.grown HX.out hgrow (blk_not_row HX.out (by decide) HO.out))
              replace HN := Lib.hid (Blk.grown HN.out hgrow (blk_not_row HN.out (by decide) HO.out))
              have hS4 : Hid (Blk W4 a5 59 x.cs ∧ Blk W4 gg 81 oo.cs) := Lib.hid ⟨Blk.grown hS.out.1 hgrow (blk_not_row hS.out.1 (by decide) HO.out), Blk.grown hS.out.2 hgrow (blk_not_row hS.out.2 (by decide) HO.out)⟩
              replace HB := Lib.hid (HB.out.grown hgrow hbz1 (own_base HO.out))
              replace HO := Lib.hid hown4
              have hgr : some g ≠ (Value.slice (some ⟨gr, 0, none⟩) (k + 1) cap).ownBlock := blk_not_row HN.out (by decide) HO.out
              have HGR : Hid (gr ≠ g) := Lib.hid (by intro e; subst e; exact hgr rfl)
              clear hown4 hgrow hat hlt4 HNW hgr hS hbz1
              refine hK.out _ _ hS4 (fun hS => ?_)
              clear hK K hS4
              refine wpAnyH_take (i := 11) (v := ?_) rfl (by kernel_rfl) (by kernel_rfl) (by kernel_rfl) (fun _ _ _ h => h) (Or.inl ⟨by rfl, ?_⟩) hS ?_
              rotate_left
              · (intro w _; go_simp; try with_reducible rfl)
              refine wpAnyH_take (i := 12) (v := ?_) rfl (by kernel_rfl) (by kernel_rfl) (by kernel_rfl) (fun _ _ _ h => h) (Or.inl ⟨by rfl, ?_⟩) hS ?_
              rotate_left
              · (intro w _; go_simp; try with_reducible rfl)
              have q8 : W4.cell? ⟨g, 8, none⟩ = some (.slice A k c) := HN.out.cell 8
              have z8 : W4.frozen? ⟨g, 8, none⟩ = false := HN.out.frozen 8
              refine wpAnyH_ready (rs := [13]) (by kernel_rfl) (by simp) (AllReadyH.cons rfl (fun K hK => ?_) AllReadyH.nil)
              go_simp
              have h5g : Hid (a5 ≠ g ∧ gg ≠ g) := Lib.hid ⟨hS.out.1.ne_ HN.out (by decide), hS.out.2.ne_ HN.out (by decide)⟩
              refine hK.out _ _ (Lib.hid ⟨hS.out.1.far (by simpa using h5g.out.1) _, hS.out.2.far (by simpa using h5g.out.2) _⟩) (fun _ => ?_)
              clear hK K q8 z8 hS
              refine wpAnyH_genT fun W5 hW5 => ?_
              have hwg : Hid (w.heap.size ≠ g) := Lib.hid (HX.out.ne_ HN.out (by decide))
              replace HX : Hid (Blk W5 w.heap.size 53 t.cs) := Lib.hid (by rw [hW5]; exact HX.out.far (by simpa using hwg.out) _)
              replace HN : Hid (Blk W5 g 265 (spX t core h (some ⟨gr, 0, none⟩) (k + 1) cap 0)) := Lib.hid (by rw [hW5]; exact HN.out.set_ 8 _)
              replace HO : Hid (W5.ownsRow w.heap.size 89 11 (.slice (some ⟨gr, 0, none⟩) (k + 1) cap) (k + 1) (((t.ins.take k).map (entD T)).flatMap En.cl ++ (En.mk x.tx x.out oo).cl)) := Lib.hid (by rw [hW5]; exact Ch.owns (Ch.set_ (S := [g]) (by simp) _ 8 _) HO.out (fun b hb => by have : gr = b := Option.some.inj hb; have := HGR.out; simp; omega))
              replace HB : Hid (Below w.heap.size w W5) := Lib.hid (by rw [hW5]; exact HB.out.setCell (by simp; omega) _)
              clear hW5
              refine wpAnyH_done (by kernel_rfl) ?_ _
              go_wp2_with fail
              go_roundw
              case rel => exact ⟨k + 1, some ⟨gr, 0, none⟩, cap, by omega, by go_num, HA1, HN, Lib.hid (by rw [HSN.out, HED.out]; exact HO.out), HX, HB⟩
              case measure => simp [intOf]; omega
        · go_simp
          have HBX : Hid (Below X.heap.size X (X.alloc (.cells zOu.cs 81))) := Lib.hid ((Below.refl _ _).alloc (Nat.le_refl _) _)
          have HNB : Hid (Blk (X.alloc (.cells zOu.cs 81)) X.heap.size 81 zOu.cs) := Blk.new _ _ _
          refine hK.out _ _ (Lib.hid (hS.out.trans (HBX.out.mono hS.out.size))) (fun hS1 => ?_)
          clear hK K
          refine wpAnyH_genT fun X1 hX1 => ?_
          replace hX1 : X1 = X.alloc (.cells zOu.cs 81) := hX1
          rw [← hX1] at HBX HNB
          have hS2 : Hid (Below W1.heap.size W1 X1) := Lib.hid (hS.out.trans (HBX.out.mono hS.out.size))
          have hgX : W1.heap.size ≤ X.heap.size := hS.out.size
          clear hX1 hS1 HBX hS
          generalize X.heap.size = gg at HNB hgX ⊢
          refine wpAnyH_ready (rs := [9, 11]) (by kernel_rfl) (by simp) (AllReadyH.cons rfl (fun K hK => ?_) (AllReadyH.cons rfl (fun K hK => ?_) AllReadyH.nil))
          · go_simp
            refine hK.out _ _ hS2 (fun hS => ?_)
            clear hK K hS
            refine wpAnyH_ready (rs := [11]) (by kernel_rfl) (by simp) (AllReadyH.cons rfl (fun K hK => ?_) AllReadyH.nil)
            refine step_store_part (by rfl) 81 (.tmp 11) (.tmp 39) (by rfl) gg 0 HNB.out oo.cs oo.cs (by rfl) (by rfl) (Nat.le_refl 9) infoOu9 (oucs_one oo) (ouv_over oo rfl) ?_
            intro Wq hb1 hc1
            have HT := Lib.hid hb1
            have hS3 : Hid (Below W1.heap.size W1 Wq) := Lib.hid (hS2.out.trans (hc1.below hS2.out.size (by simp; omega)))
            clear hb1 hc1 HNB
            refine hK.out _ _ hS3 (fun hS => ?_)
            clear hK K hS2
            refine wpAnyH_take (i := 12) (v := ?_) rfl (by kernel_rfl) (by kernel_rfl) (by kernel_rfl) (fun _ _ _ h => h) (Or.inl ⟨by rfl, ?_⟩) hS ?_
            rotate_left
            · (intro w _; go_simp; try with_reducible rfl)
            clear hS
            refine wpAnyH_done (by kernel_rfl) ?_ _
            have hx5 : a5 < gg := by have := (show Blk _ _ _ _ from H5.out).lt; omega
            replace H5 := Lib.hid (H5.out.bel hS3.out)
            replace HX := Lib.hid (HX.out.bel hS3.out)
            replace HN := Lib.hid (HN.out.bel hS3.out)
            replace HO := Lib.hid (Ch.owns (Ch.of_below hS3.out []) HO.out (by simp))
            replace HB := Lib.hid (HB.out.trans (hS3.out.mono HB.out.size))
            clear hS3 HSW
            cases bo with
            | false =>
              obtain rfl : fe = 6 := by rw [HFE.out, if_pos (HBAD.out HHI.out)]
              go_wp2_with fail
              go_ret2
              exact ⟨HB.out, .inl ⟨by decide, rfl⟩⟩
            | true =>
              have HA1 : Hid ((t.ins.take (k + 1)).all (hasI T) = true) := Lib.hid (by rw [HAS.out, HA.out, HHI.out]; rfl)
              clear HBAD HAS HHI HLK
              go_upto_region 10 with fail
              refine wp_region_held_drew (S := fun W => Hid (Blk W a5 59 x.cs ∧ Blk W gg 81 oo.cs)) (by kernel_rfl) (Lib.hid ⟨H5.out.drewN 1, HT.out.drewN 1⟩) (fun hS => ?_)
              replace HX : Hid (Blk (World.drew _) w.heap.size 53 t.cs) := Lib.hid (HX.out.drewN 1)
              replace HN : Hid (Blk (World.drew _) g 265 (spX t core h A k c 0)) := Lib.hid (HN.out.drewN 1)
              replace HO := Lib.hid HO.out.drew
              replace HB : Hid (Below w.heap.size w (World.drew _)) := HB.out.drew
              refine wpAnyH_genT fun Y hY => ?_
              rw [← hY] at HX HN HO HB hS
              clear hY H5 HT
              refine wpAnyH_take (i := 0) (v := ?_) rfl (by kernel_rfl) (by kernel_rfl) (by kernel_rfl) (fun _ _ _ h => h) (Or.inl ⟨by rfl, ?_⟩) hS ?_
              rotate_left
              · (intro w _; go_simp; try with_reducible rfl)
              refine wpAnyH_take (i := 1) (v := ?_) rfl (by kernel_rfl) (by kernel_rfl) (by kernel_rfl) (fun _ _ _ h => h) (Or.inl ⟨by rfl, ?_⟩) hS ?_
              rotate_left
              · (intro w _; go_simp; try with_reducible rfl)
              refine wpAnyH_take (i := 2) (v := ?_) rfl (by kernel_rfl) (by kernel_rfl) (by kernel_rfl) (fun _ _ _ h => h) (Or.inl ⟨by rfl, ?_⟩) hS ?_
              rotate_left
              · (intro w _; go_simp; try with_reducible rfl)
              refine wpAnyH_take (i := 3) (v := ?_) rfl (by kernel_rfl) (by kernel_rfl) (by kernel_rfl) (fun _ _ _ h => h) (Or.inl ⟨by rfl, ?_⟩) hS ?_
              rotate_left
              · (intro w _; go_simp; try with_reducible rfl)
              refine wpAnyH_take (i := 5) (v := ?_) rfl (by kernel_rfl) (by kernel_rfl) (by kernel_rfl) (fun _ _ _ h => h) (Or.inl ⟨by rfl, ?_⟩) hS ?_
              rotate_left
              · (intro w _; go_simp; try with_reducible rfl)
              refine wpAnyH_take (i := 6) (v := .agg #[.string x.tx, .int .i64 x.out]) rfl (by kernel_rfl) (by kernel_rfl) (by kernel_rfl) (fun _ _ _ h => h) (yields_blk (by rfl) 57 (.tmp 48) (by rfl) a5 0 2 (t := 59) (cs := x.cs) (fun W h => h.out.1) #[.string x.tx, .int .i64 x.out] (by rfl) (by rfl) Tryz.underlying57 (by kernel_rfl) (by show 2 ≤ 4; omega)) hS ?_
              refine wpAnyH_take (i := 7) (v := .agg #[.int .i64 oo.kind, .int .u64 (oo.am : Nat), .string oo.key, .string oo.gate, .int .i64 oo.ex, .string oo.anchor, .int .u64 (oo.unit : Nat), .int .i64 oo.tok, .string oo.of_]) rfl (by kernel_rfl) (by kernel_rfl) (by kernel_rfl) (fun _ _ _ h => h) (yields_blk (by rfl) 81 (.tmp 11) (by rfl) gg 0 9 (t := 81) (cs := oo.cs) (fun W h => h.out.2) #[.int .i64 oo.kind, .int .u64 (oo.am : Nat), .string oo.key, .string oo.gate, .int .i64 oo.ex, .string oo.anchor, .int .u64 (oo.unit : Nat), .int .i64 oo.tok, .string oo.of_] (by rfl) (by rfl) Tryz.underlying81 infoOu9 (Nat.le_refl 9)) hS ?_
              refine wpAnyH_take (i := 8) (v := ?_) rfl (by kernel_rfl) (by kernel_rfl) (by kernel_rfl) (fun _ _ _ h => h) (Or.inl ⟨by rfl, ?_⟩) hS ?_
              rotate_left
              · (intro w _; go_simp; try with_reducible rfl)
              refine wpAnyH_ready (rs := [4, 9]) (by kernel_rfl) (by simp) (AllReadyH.cons rfl (fun K hK => ?_) (AllReadyH.cons rfl (fun K hK => ?_) AllReadyH.nil))
              · have q8 : Y.cell? ⟨g, 8, none⟩ = some (.slice A k c) := HN.out.cell 8
                go_simp
                refine hK.out _ _ hS (fun hS => ?_)
                clear hK K q8
                refine wpAnyH_ready (rs := [9]) (by kernel_rfl) (by simp) (AllReadyH.cons rfl (fun K hK => ?_) AllReadyH.nil)
                go_simp
                have HBX : Hid (Below Y.heap.size Y (Y.alloc (.cells (En.mk x.tx x.out oo).cs 89))) := Lib.hid ((Below.refl _ _).alloc (Nat.le_refl _) _)
                have HNB : Hid (Blk (Y.alloc (.cells (En.mk x.tx x.out oo).cs 89)) Y.heap.size 89 (En.mk x.tx x.out oo).cs) := Blk.new _ _ _
                refine hK.out _ _ (Lib.hid ⟨hS.out.1.bel HBX.out, hS.out.2.bel HBX.out⟩) (fun _ => ?_)
                clear hK K
                refine wpAnyH_genT fun X1 hX1 => ?_
                replace hX1 : X1 = Y.alloc (.cells (En.mk x.tx x.out oo).cs 89) := hX1
                rw [← hX1] at HBX HNB
                clear hX1
                replace HX := Lib.hid (HX.out.bel HBX.out)
                replace HN := Lib.hid (HN.out.bel HBX.out)
                replace HO := Lib.hid (Ch.owns (Ch.of_below HBX.out []) HO.out (by simp))
                replace HB := Lib.hid (HB.out.trans (HBX.out.mono HB.out.size))
                replace hS : Hid (Blk X1 a5 59 x.cs ∧ Blk X1 gg 81 oo.cs) := Lib.hid ⟨hS.out.1.bel HBX.out, hS.out.2.bel HBX.out⟩
                have HNW := Lib.hid (World.news_of_block HNB.out)
                clear HBX HNB
                have hbz1 : w.heap.size ≤ X1.heap.size := HB.out.size
                refine wpAnyH_ready (rs := [10]) (by kernel_rfl) (by simp) (AllReadyH.cons rfl (fun K hK => ?_) AllReadyH.nil)
                refine step_append_lies _ (by rfl) (.tmp 47) (.tmp 52) 85 (by rfl) w.heap.size 89 i0 _ 11 128 Tryz.underlying85 hi Hz0.out hz1 hz2 rfl (by omega) (.slice A k c) k _ (by rfl) HO.out ⟨Y.heap.size, 0, none⟩ 1 1 (En.mk x.tx x.out oo).cl (by rfl) (by rfl) HNW.out (encl_one _) (by omega) (by simp only [maxLen]; omega) (by omega) hbz1 _ rfl ?_
                intro gr cap W4 hown4 hgrow hat hlt4
                replace HX := Lib.hid (Blk.grown HX.out hgrow (blk_not_row HX.out (by decide) HO.out))
                replace HN := Lib.hid (Blk.grown HN.out hgrow (blk_not_row HN.out (by decide) HO.out))
                have hS4 : Hid (Blk W4 a5 59 x.cs ∧ Blk W4 gg 81 oo.cs) := Lib.hid ⟨Blk.grown hS.out.1 hgrow (blk_not_row hS.out.1 (by decide) HO.out), Blk.grown hS.out.2 hgrow (blk_not_row hS.out.2 (by decide) HO.out)⟩
                replace HB := Lib.hid (HB.out.grown hgrow hbz1 (own_base HO.out))
                replace HO := Lib.hid hown4
                have hgr : some g ≠ (Value.slice (some ⟨gr, 0, none⟩) (k + 1) cap).ownBlock := blk_not_row HN.out (by decide) HO.out
                have HGR : Hid (gr ≠ g) := Lib.hid (by intro e; subst e; exact hgr rfl)
                clear hown4 hgrow hat hlt4 HNW hgr hS hbz1
                refine hK.out _ _ hS4 (fun hS => ?_)
                clear hK K hS4
                refine wpAnyH_take (i := 11) (v := ?_) rfl (by kernel_rfl) (by kernel_rfl) (by kernel_rfl) (fun _ _ _ h => h) (Or.inl ⟨by rfl, ?_⟩) hS ?_
                rotate_left
                · (intro w _; go_simp; try with_reducible rfl)
                refine wpAnyH_take (i := 12) (v := ?_) rfl (by kernel_rfl) (by kernel_rfl) (by kernel_rfl) (fun _ _ _ h => h) (Or.inl ⟨by rfl, ?_⟩) hS ?_
                rotate_left
                · (intro w _; go_simp; try with_reducible rfl)
                have q8 : W4.cell? ⟨g, 8, none⟩ = some (.slice A k c) := HN.out.cell 8
                have z8 : W4.frozen? ⟨g, 8, none⟩ = false := HN.out.frozen 8
                refine wpAnyH_ready (rs := [13]) (by kernel_rfl) (by simp) (AllReadyH.cons rfl (fun K hK => ?_) AllReadyH.nil)
                go_simp
                have h5g : Hid (a5 ≠ g ∧ gg ≠ g) := Lib.hid ⟨hS.out.1.ne_ HN.out (by decide), hS.out.2.ne_ HN.out (by decide)⟩
                refine hK.out _ _ (Lib.hid ⟨hS.out.1.far (by simpa using h5g.out.1) _, hS.out.2.far (by simpa using h5g.out.2) _⟩) (fun _ => ?_)
                clear hK K q8 z8 hS
                refine wpAnyH_genT fun W5 hW5 => ?_
                have hwg : Hid (w.heap.size ≠ g) := Lib.hid (HX.out.ne_ HN.out (by decide))
                replace HX : Hid (Blk W5 w.heap.size 53 t.cs) := Lib.hid (by rw [hW5]; exact HX.out.far (by simpa using hwg.out) _)
                replace HN : Hid (Blk W5 g 265 (spX t core h (some ⟨gr, 0, none⟩) (k + 1) cap 0)) := Lib.hid (by rw [hW5]; exact HN.out.set_ 8 _)
                replace HO : Hid (W5.ownsRow w.heap.size 89 11 (.slice (some ⟨gr, 0, none⟩) (k + 1) cap) (k + 1) (((t.ins.take k).map (entD T)).flatMap En.cl ++ (En.mk x.tx x.out oo).cl)) := Lib.hid (by rw [hW5]; exact Ch.owns (Ch.set_ (S := [g]) (by simp) _ 8 _) HO.out (fun b hb => by have : gr = b := Option.some.inj hb; have := HGR.out; simp; omega))
                replace HB : Hid (Below w.heap.size w W5) := Lib.hid (by rw [hW5]; exact HB.out.setCell (by simp; omega) _)
                clear hW5
                refine wpAnyH_done (by kernel_rfl) ?_ _
                go_wp2_with fail
                go_roundw
                case rel => exact ⟨k + 1, some ⟨gr, 0, none⟩, cap, by omega, by go_num, HA1, HN, Lib.hid (by rw [HSN.out, HED.out]; exact HO.out), HX, HB⟩
                case measure => simp [intOf]; omega
              · go_simp
                have HBX : Hid (Below Y.heap.size Y (Y.alloc (.cells (En.mk x.tx x.out oo).cs 89))) := Lib.hid ((Below.refl _ _).alloc (Nat.le_refl _) _)
                have HNB : Hid (Blk (Y.alloc (.cells (En.mk x.tx x.out oo).cs 89)) Y.heap.size 89 (En.mk x.tx x.out oo).cs) := Blk.new _ _ _
                refine hK.out _ _ (Lib.hid ⟨hS.out.1.bel HBX.out, hS.out.2.bel HBX.out⟩) (fun _ => ?_)
                clear hK K
                refine wpAnyH_genT fun X1 hX1 => ?_
                replace hX1 : X1 = Y.alloc (.cells (En.mk x.tx x.out oo).cs 89) := hX1
                rw [← hX1] at HBX HNB
                clear hX1
                replace HX := Lib.hid (HX.out.bel HBX.out)
                replace HN := Lib.hid (HN.out.bel HBX.out)
                replace HO := Lib.hid (Ch.owns (Ch.of_below HBX.out []) HO.out (by simp))
                replace HB := Lib.hid (HB.out.trans (HBX.out.mono HB.out.size))
                replace hS : Hid (Blk X1 a5 59 x.cs ∧ Blk X1 gg 81 oo.cs) := Lib.hid ⟨hS.out.1.bel HBX.out, hS.out.2.bel HBX.out⟩
                have HNW := Lib.hid (World.news_of_block HNB.out)
                clear HBX HNB
                have q8 : X1.cell? ⟨g, 8, none⟩ = some (.slice A k c) := HN.out.cell 8
                refine wpAnyH_ready (rs := [4]) (by kernel_rfl) (by simp) (AllReadyH.cons rfl (fun K hK => ?_) AllReadyH.nil)
                go_simp
                refine hK.out _ _ hS (fun hS => ?_)
                clear hK K q8
                have hbz1 : w.heap.size ≤ X1.heap.size := HB.out.size
                refine wpAnyH_ready (rs := [10]) (by kernel_rfl) (by simp) (AllReadyH.cons rfl (fun K hK => ?_) AllReadyH.nil)
                refine step_append_lies _ (by rfl) (.tmp 47) (.tmp 52) 85 (by rfl) w.heap.size 89 i0 _ 11 128 Tryz.underlying85 hi Hz0.out hz1 hz2 rfl (by omega) (.slice A k c) k _ (by rfl) HO.out ⟨Y.heap.size, 0, none⟩ 1 1 (En.mk x.tx x.out oo).cl (by rfl) (by rfl) HNW.out (encl_one _) (by omega) (by simp only [maxLen]; omega) (by omega) hbz1 _ rfl ?_
                intro gr cap W4 hown4 hgrow hat hlt4
                replace HX := Lib.hid (Blk.grown HX.out hgrow (blk_not_row HX.out (by decide) HO.out))
                replace HN := Lib.hid (Blk.grown HN.out hgrow (blk_not_row HN.out (by decide) HO.out))
                have hS4 : Hid (Blk W4 a5 59 x.cs ∧ Blk W4 gg 81 oo.cs) := Lib.hid ⟨Blk.grown hS.out.1 hgrow (blk_not_row hS.out.1 (by decide) HO.out), Blk.grown hS.out.2 hgrow (blk_not_row hS.out.2 (by decide) HO.out)⟩
                replace HB := Lib.hid (HB.out.grown hgrow hbz1 (own_base HO.out))
                replace HO := Lib.hid hown4
                have hgr : some g ≠ (Value.slice (some ⟨gr, 0, none⟩) (k + 1) cap).ownBlock := blk_not_row HN.out (by decide) HO.out
                have HGR : Hid (gr ≠ g) := Lib.hid (by intro e; subst e; exact hgr rfl)
                clear hown4 hgrow hat hlt4 HNW hgr hS hbz1
                refine hK.out _ _ hS4 (fun hS => ?_)
                clear hK K hS4
                refine wpAnyH_take (i := 11) (v := ?_) rfl (by kernel_rfl) (by kernel_rfl) (by kernel_rfl) (fun _ _ _ h => h) (Or.inl ⟨by rfl, ?_⟩) hS ?_
                rotate_left
                · (intro w _; go_simp; try with_reducible rfl)
                refine wpAnyH_take (i := 12) (v := ?_) rfl (by kernel_rfl) (by kernel_rfl) (by kernel_rfl) (fun _ _ _ h => h) (Or.inl ⟨by rfl, ?_⟩) hS ?_
                rotate_left
                · (intro w _; go_simp; try with_reducible rfl)
                have q8 : W4.cell? ⟨g, 8, none⟩ = some (.slice A k c) := HN.out.cell 8
                have z8 : W4.frozen? ⟨g, 8, none⟩ = false := HN.out.frozen 8
                refine wpAnyH_ready (rs := [13]) (by kernel_rfl) (by simp) (AllReadyH.cons rfl (fun K hK => ?_) AllReadyH.nil)
                go_simp
                have h5g : Hid (a5 ≠ g ∧ gg ≠ g) := Lib.hid ⟨hS.out.1.ne_ HN.out (by decide), hS.out.2.ne_ HN.out (by decide)⟩
                refine hK.out _ _ (Lib.hid ⟨hS.out.1.far (by simpa using h5g.out.1) _, hS.out.2.far (by simpa using h5g.out.2) _⟩) (fun _ => ?_)
                clear hK K q8 z8 hS
                refine wpAnyH_genT fun W5 hW5 => ?_
                have hwg : Hid (w.heap.size ≠ g) := Lib.hid (HX.out.ne_ HN.out (by decide))
                replace HX : Hid (Blk W5 w.heap.size 53 t.cs) := Lib.hid (by rw [hW5]; exact HX.out.far (by simpa using hwg.out) _)
                replace HN : Hid (Blk W5 g 265 (spX t core h (some ⟨gr, 0, none⟩) (k + 1) cap 0)) := Lib.hid (by rw [hW5]; exact HN.out.set_ 8 _)
                replace HO : Hid (W5.ownsRow w.heap.size 89 11 (.slice (some ⟨gr, 0, none⟩) (k + 1) cap) (k + 1) (((t.ins.take k).map (entD T)).flatMap En.cl ++ (En.mk x.tx x.out oo).cl)) := Lib.hid (by rw [hW5]; exact Ch.owns (Ch.set_ (S := [g]) (by simp) _ 8 _) HO.out (fun b hb => by have : gr = b := Option.some.inj hb; have := HGR.out; simp; omega))
                replace HB : Hid (Below w.heap.size w W5) := Lib.hid (by rw [hW5]; exact HB.out.setCell (by simp; omega) _)
                clear hW5
                refine wpAnyH_done (by kernel_rfl) ?_ _
                go_wp2_with fail
                go_roundw
                case rel => exact ⟨k + 1, some ⟨gr, 0, none⟩, cap, by omega, by go_num, HA1, HN, Lib.hid (by rw [HSN.out, HED.out]; exact HO.out), HX, HB⟩
                case measure => simp [intOf]; omega
          · refine step_store_part (by rfl) 81 (.tmp 11) (.tmp 39) (by rfl) gg 0 HNB.out oo.cs oo.cs (by rfl) (by rfl) (Nat.le_refl 9) infoOu9 (oucs_one oo) (ouv_over oo rfl) ?_
            intro Wq hb1 hc1
            have HT := Lib.hid hb1
            have hS3 : Hid (Below W1.heap.size W1 Wq) := Lib.hid (hS2.out.trans (hc1.below hS2.out.size (by simp; omega)))
            clear hb1 hc1 HNB
            refine hK.out _ _ hS3 (fun hS => ?_)
            clear hK K hS2
            refine wpAnyH_take (i := 9) (v := ?_) rfl (by kernel_rfl) (by kernel_rfl) (by kernel_rfl) (fun _ _ _ h => h) (Or.inl ⟨by rfl, ?_⟩) hS ?_
            rotate_left
            · (intro w _; go_simp; try with_reducible rfl)
            refine wpAnyH_take (i := 12) (v := ?_) rfl (by kernel_rfl) (by kernel_rfl) (by kernel_rfl) (fun _ _ _ h => h) (Or.inl ⟨by rfl, ?_⟩) hS ?_
            rotate_left
            · (intro w _; go_simp; try with_reducible rfl)
            clear hS
            refine wpAnyH_done (by kernel_rfl) ?_ _
            have hx5 : a5 < gg := by have := (show Blk _ _ _ _ from H5.out).lt; omega
            replace H5 := Lib.hid (H5.out.bel hS3.out)
            replace HX := Lib.hid (HX.out.bel hS3.out)
            replace HN := Lib.hid (HN.out.bel hS3.out)
            replace HO := Lib.hid (Ch.owns (Ch.of_below hS3.out []) HO.out (by simp))
            replace HB := Lib.hid (HB.out.trans (hS3.out.mono HB.out.size))
            clear hS3 HSW
            cases bo with
            | false =>
              obtain rfl : fe = 6 := by rw [HFE.out, if_pos (HBAD.out HHI.out)]
              go_wp2_with fail
              go_ret2
              exact ⟨HB.out, .inl ⟨by decide, rfl⟩⟩
            | true =>
              have HA1 : Hid ((t.ins.take (k + 1)).all (hasI T) = true) := Lib.hid (by rw [HAS.out, HA.out, HHI.out]; rfl)
              clear HBAD HAS HHI HLK
              go_upto_region 10 with fail
              refine wp_region_held_drew (S := fun W => Hid (Blk W a5 59 x.cs ∧ Blk W gg 81 oo.cs)) (by kernel_rfl) (Lib.hid ⟨H5.out.drewN 1, HT.out.drewN 1⟩) (fun hS => ?_)
              replace HX : Hid (Blk (World.drew _) w.heap.size 53 t.cs) := Lib.hid (HX.out.drewN 1)
              replace HN : Hid (Blk (World.drew _) g 265 (spX t core h A k c 0)) := Lib.hid (HN.out.drewN 1)
              replace HO := Lib.hid HO.out.drew
              replace HB : Hid (Below w.heap.size w (World.drew _)) := HB.out.drew
              refine wpAnyH_genT fun Y hY => ?_
              rw [← hY] at HX HN HO HB hS
              clear hY H5 HT
              refine wpAnyH_take (i := 0) (v := ?_) rfl (by kernel_rfl) (by kernel_rfl) (by kernel_rfl) (fun _ _ _ h => h) (Or.inl ⟨by rfl, ?_⟩) hS ?_
              rotate_left
              · (intro w _; go_simp; try with_reducible rfl)
              refine wpAnyH_take (i := 1) (v := ?_) rfl (by kernel_rfl) (by kernel_rfl) (by kernel_rfl) (fun _ _ _ h => h) (Or.inl ⟨by rfl, ?_⟩) hS ?_
              rotate_left
              · (intro w _; go_simp; try with_reducible rfl)
              refine wpAnyH_take (i := 2) (v := ?_) rfl (by kernel_rfl) (by kernel_rfl) (by kernel_rfl) (fun _ _ _ h => h) (Or.inl ⟨by rfl, ?_⟩) hS ?_
              rotate_left
              · (intro w _; go_simp; try with_reducible rfl)
              refine wpAnyH_take (i := 3) (v := ?_) rfl (by kernel_rfl) (by kernel_rfl) (by kernel_rfl) (fun _ _ _ h => h) (Or.inl ⟨by rfl, ?_⟩) hS ?_
              rotate_left
              · (intro w _; go_simp; try with_reducible rfl)
              refine wpAnyH_take (i := 5) (v := ?_) rfl (by kernel_rfl) (by kernel_rfl) (by kernel_rfl) (fun _ _ _ h => h) (Or.inl ⟨by rfl, ?_⟩) hS ?_
              rotate_left
              · (intro w _; go_simp; try with_reducible rfl)
              refine wpAnyH_take (i := 6) (v := .agg #[.string x.tx, .int .i64 x.out]) rfl (by kernel_rfl) (by kernel_rfl) (by kernel_rfl) (fun _ _ _ h => h) (yields_blk (by rfl) 57 (.tmp 48) (by rfl) a5 0 2 (t := 59) (cs := x.cs) (fun W h => h.out.1) #[.string x.tx, .int .i64 x.out] (by rfl) (by rfl) Tryz.underlying57 (by kernel_rfl) (by show 2 ≤ 4; omega)) hS ?_
              refine wpAnyH_take (i := 7) (v := .agg #[.int .i64 oo.kind, .int .u64 (oo.am : Nat), .string oo.key, .string oo.gate, .int .i64 oo.ex, .string oo.anchor, .int .u64 (oo.unit : Nat), .int .i64 oo.tok, .string oo.of_]) rfl (by kernel_rfl) (by kernel_rfl) (by kernel_rfl) (fun _ _ _ h => h) (yields_blk (by rfl) 81 (.tmp 11) (by rfl) gg 0 9 (t := 81) (cs := oo.cs) (fun W h => h.out.2) #[.int .i64 oo.kind, .int .u64 (oo.am : Nat), .string oo.key, .string oo.gate, .int .i64 oo.ex, .string oo.anchor, .int .u64 (oo.unit : Nat), .int .i64 oo.tok, .string oo.of_] (by rfl) (by rfl) Tryz.underlying81 infoOu9 (Nat.le_refl 9)) hS ?_
              refine wpAnyH_take (i := 8) (v := ?_) rfl (by kernel_rfl) (by kernel_rfl) (by kernel_rfl) (fun _ _ _ h => h) (Or.inl ⟨by rfl, ?_⟩) hS ?_
              rotate_left
              · (intro w _; go_simp; try with_reducible rfl)
              refine wpAnyH_ready (rs := [4, 9]) (by kernel_rfl) (by simp) (AllReadyH.cons rfl (fun K hK => ?_) (AllReadyH.cons rfl (fun K hK => ?_) AllReadyH.nil))
              · have q8 : Y.cell? ⟨g, 8, none⟩ = some (.slice A k c) := HN.out.cell 8
                go_simp
                refine hK.out _ _ hS (fun hS => ?_)
                clear hK K q8
                refine wpAnyH_ready (rs := [9]) (by kernel_rfl) (by simp) (AllReadyH.cons rfl (fun K hK => ?_) AllReadyH.nil)
                go_simp
                have HBX : Hid (Below Y.heap.size Y (Y.alloc (.cells (En.mk x.tx x.out oo).cs 89))) := Lib.hid ((Below.refl _ _).alloc (Nat.le_refl _) _)
                have HNB : Hid (Blk (Y.alloc (.cells (En.mk x.tx x.out oo).cs 89)) Y.heap.size 89 (En.mk x.tx x.out oo).cs) := Blk.new _ _ _
                refine hK.out _ _ (Lib.hid ⟨hS.out.1.bel HBX.out, hS.out.2.bel HBX.out⟩) (fun _ => ?_)
                clear hK K
                refine wpAnyH_genT fun X1 hX1 => ?_
                replace hX1 : X1 = Y.alloc (.cells (En.mk x.tx x.out oo).cs 89) := hX1
                rw [← hX1] at HBX HNB
                clear hX1
                replace HX := Lib.hid (HX.out.bel HBX.out)
                replace HN := Lib.hid (HN.out.bel HBX.out)
                replace HO := Lib.hid (Ch.owns (Ch.of_below HBX.out []) HO.out (by simp))
                replace HB := Lib.hid (HB.out.trans (HBX.out.mono HB.out.size))
                replace hS : Hid (Blk X1 a5 59 x.cs ∧ Blk X1 gg 81 oo.cs) := Lib.hid ⟨hS.out.1.bel HBX.out, hS.out.2.bel HBX.out⟩
                have HNW := Lib.hid (World.news_of_block HNB.out)
                clear HBX HNB
                have hbz1 : w.heap.size ≤ X1.heap.size := HB.out.size
                refine wpAnyH_ready (rs := [10]) (by kernel_rfl) (by simp) (AllReadyH.cons rfl (fun K hK => ?_) AllReadyH.nil)
                refine step_append_lies _ (by rfl) (.tmp 47) (.tmp 52) 85 (by rfl) w.heap.size 89 i0 _ 11 128 Tryz.underlying85 hi Hz0.out hz1 hz2 rfl (by omega) (.slice A k c) k _ (by rfl) HO.out ⟨Y.heap.size, 0, none⟩ 1 1 (En.mk x.tx x.out oo).cl (by rfl) (by rfl) HNW.out (encl_one _) (by omega) (by simp only [maxLen]; omega) (by omega) hbz1 _ rfl ?_
                intro gr cap W4 hown4 hgrow hat hlt4
                replace HX := Lib.hid (Blk.grown HX.out hgrow (blk_not_row HX.out (by decide) HO.out))
                replace HN := Lib.hid (Blk.grown HN.out hgrow (blk_not_row HN.out (by decide) HO.out))
                have hS4 : Hid (Blk W4 a5 59 x.cs ∧ Blk W4 gg 81 oo.cs) := Lib.hid ⟨Blk.grown hS.out.1 hgrow (blk_not_row hS.out.1 (by decide) HO.out), Blk.grown hS.out.2 hgrow (blk_not_row hS.out.2 (by decide) HO.out)⟩
                replace HB := Lib.hid (HB.out.grown hgrow hbz1 (own_base HO.out))
                replace HO := Lib.hid hown4
                have hgr : some g ≠ (Value.slice (some ⟨gr, 0, none⟩) (k + 1) cap).ownBlock := blk_not_row HN.out (by decide) HO.out
                have HGR : Hid (gr ≠ g) := Lib.hid (by intro e; subst e; exact hgr rfl)
                clear hown4 hgrow hat hlt4 HNW hgr hS hbz1
                refine hK.out _ _ hS4 (fun hS => ?_)
                clear hK K hS4
                refine wpAnyH_take (i := 11) (v := ?_) rfl (by kernel_rfl) (by kernel_rfl) (by kernel_rfl) (fun _ _ _ h => h) (Or.inl ⟨by rfl, ?_⟩) hS ?_
                rotate_left
                · (intro w _; go_simp; try with_reducible rfl)
                refine wpAnyH_take (i := 12) (v := ?_) rfl (by kernel_rfl) (by kernel_rfl) (by kernel_rfl) (fun _ _ _ h => h) (Or.inl ⟨by rfl, ?_⟩) hS ?_
                rotate_left
                · (intro w _; go_simp; try with_reducible rfl)
                have q8 : W4.cell? ⟨g, 8, none⟩ = some (.slice A k c) := HN.out.cell 8
                have z8 : W4.frozen? ⟨g, 8, none⟩ = false := HN.out.frozen 8
                refine wpAnyH_ready (rs := [13]) (by kernel_rfl) (by simp) (AllReadyH.cons rfl (fun K hK => ?_) AllReadyH.nil)
                go_simp
                have h5g : Hid (a5 ≠ g ∧ gg ≠ g) := Lib.hid ⟨hS.out.1.ne_ HN.out (by decide), hS.out.2.ne_ HN.out (by decide)⟩
                refine hK.out _ _ (Lib.hid ⟨hS.out.1.far (by simpa using h5g.out.1) _, hS.out.2.far (by simpa using h5g.out.2) _⟩) (fun _ => ?_)
                clear hK K q8 z8 hS
                refine wpAnyH_genT fun W5 hW5 => ?_
                have hwg : Hid (w.heap.size ≠ g) := Lib.hid (HX.out.ne_ HN.out (by decide))
                replace HX : Hid (Blk W5 w.heap.size 53 t.cs) := Lib.hid (by rw [hW5]; exact HX.out.far (by simpa using hwg.out) _)
                replace HN : Hid (Blk W5 g 265 (spX t core h (some ⟨gr, 0, none⟩) (k + 1) cap 0)) := Lib.hid (by rw [hW5]; exact HN.out.set_ 8 _)
                replace HO : Hid (W5.ownsRow w.heap.size 89 11 (.slice (some ⟨gr, 0, none⟩) (k + 1) cap) (k + 1) (((t.ins.take k).map (entD T)).flatMap En.cl ++ (En.mk x.tx x.out oo).cl)) := Lib.hid (by rw [hW5]; exact Ch.owns (Ch.set_ (S := [g]) (by simp) _ 8 _) HO.out (fun b hb => by have : gr = b := Option.some.inj hb; have := HGR.out; simp; omega))
                replace HB : Hid (Below w.heap.size w W5) := Lib.hid (by rw [hW5]; exact HB.out.setCell (by simp; omega) _)
                clear hW5
                refine wpAnyH_done (by kernel_rfl) ?_ _
                go_wp2_with fail
                go_roundw
                case rel => exact ⟨k + 1, some ⟨gr, 0, none⟩, cap, by omega, by go_num, HA1, HN, Lib.hid (by rw [HSN.out, HED.out]; exact HO.out), HX, HB⟩
                case measure => simp [intOf]; omega
              · go_simp
                have HBX : Hid (Below Y.heap.size Y (Y.alloc (.cells (En.mk x.tx x.out oo).cs 89))) := Lib.hid ((Below.refl _ _).alloc (Nat.le_refl _) _)
                have HNB : Hid (Blk (Y.alloc (.cells (En.mk x.tx x.out oo).cs 89)) Y.heap.size 89 (En.mk x.tx x.out oo).cs) := Blk.new _ _ _
                refine hK.out _ _ (Lib.hid ⟨hS.out.1.bel HBX.out, hS.out.2.bel HBX.out⟩) (fun _ => ?_)
                clear hK K
                refine wpAnyH_genT fun X1 hX1 => ?_
                replace hX1 : X1 = Y.alloc (.cells (En.mk x.tx x.out oo).cs 89) := hX1
                rw [← hX1] at HBX HNB
                clear hX1
                replace HX := Lib.hid (HX.out.bel HBX.out)
                replace HN := Lib.hid (HN.out.bel HBX.out)
                replace HO := Lib.hid (Ch.owns (Ch.of_below HBX.out []) HO.out (by simp))
                replace HB := Lib.hid (HB.out.trans (HBX.out.mono HB.out.size))
                replace hS : Hid (Blk X1 a5 59 x.cs ∧ Blk X1 gg 81 oo.cs) := Lib.hid ⟨hS.out.1.bel HBX.out, hS.out.2.bel HBX.out⟩
                have HNW := Lib.hid (World.news_of_block HNB.out)
                clear HBX HNB
                have q8 : X1.cell? ⟨g, 8, none⟩ = some (.slice A k c) := HN.out.cell 8
                refine wpAnyH_ready (rs := [4]) (by kernel_rfl) (by simp) (AllReadyH.cons rfl (fun K hK => ?_) AllReadyH.nil)
                go_simp
                refine hK.out _ _ hS (fun hS => ?_)
                clear hK K q8
                have hbz1 : w.heap.size ≤ X1.heap.size := HB.out.size
                refine wpAnyH_ready (rs := [10]) (by kernel_rfl) (by simp) (AllReadyH.cons rfl (fun K hK => ?_) AllReadyH.nil)
                refine step_append_lies _ (by rfl) (.tmp 47) (.tmp 52) 85 (by rfl) w.heap.size 89 i0 _ 11 128 Tryz.underlying85 hi Hz0.out hz1 hz2 rfl (by omega) (.slice A k c) k _ (by rfl) HO.out ⟨Y.heap.size, 0, none⟩ 1 1 (En.mk x.tx x.out oo).cl (by rfl) (by rfl) HNW.out (encl_one _) (by omega) (by simp only [maxLen]; omega) (by omega) hbz1 _ rfl ?_
                intro gr cap W4 hown4 hgrow hat hlt4
                replace HX := Lib.hid (Blk.grown HX.out hgrow (blk_not_row HX.out (by decide) HO.out))
                replace HN := Lib.hid (Blk.grown HN.out hgrow (blk_not_row HN.out (by decide) HO.out))
                have hS4 : Hid (Blk W4 a5 59 x.cs ∧ Blk W4 gg 81 oo.cs) := Lib.hid ⟨Blk.grown hS.out.1 hgrow (blk_not_row hS.out.1 (by decide) HO.out), Blk.grown hS.out.2 hgrow (blk_not_row hS.out.2 (by decide) HO.out)⟩
                replace HB := Lib.hid (HB.out.grown hgrow hbz1 (own_base HO.out))
                replace HO := Lib.hid hown4
                have hgr : some g ≠ (Value.slice (some ⟨gr, 0, none⟩) (k + 1) cap).ownBlock := blk_not_row HN.out (by decide) HO.out
                have HGR : Hid (gr ≠ g) := Lib.hid (by intro e; subst e; exact hgr rfl)
                clear hown4 hgrow hat hlt4 HNW hgr hS hbz1
                refine hK.out _ _ hS4 (fun hS => ?_)
                clear hK K hS4
                refine wpAnyH_take (i := 11) (v := ?_) rfl (by kernel_rfl) (by kernel_rfl) (by kernel_rfl) (fun _ _ _ h => h) (Or.inl ⟨by rfl, ?_⟩) hS ?_
                rotate_left
                · (intro w _; go_simp; try with_reducible rfl)
                refine wpAnyH_take (i := 12) (v := ?_) rfl (by kernel_rfl) (by kernel_rfl) (by kernel_rfl) (fun _ _ _ h => h) (Or.inl ⟨by rfl, ?_⟩) hS ?_
                rotate_left
                · (intro w _; go_simp; try with_reducible rfl)
                have q8 : W4.cell? ⟨g, 8, none⟩ = some (.slice A k c) := HN.out.cell 8
                have z8 : W4.frozen? ⟨g, 8, none⟩ = false := HN.out.frozen 8
                refine wpAnyH_ready (rs := [13]) (by kernel_rfl) (by simp) (AllReadyH.cons rfl (fun K hK => ?_) AllReadyH.nil)
                go_simp
                have h5g : Hid (a5 ≠ g ∧ gg ≠ g) := Lib.hid ⟨hS.out.1.ne_ HN.out (by decide), hS.out.2.ne_ HN.out (by decide)⟩
                refine hK.out _ _ (Lib.hid ⟨hS.out.1.far (by simpa using h5g.out.1) _, hS.out.2.far (by simpa using h5g.out.2) _⟩) (fun _ => ?_)
                clear hK K q8 z8 hS
                refine wpAnyH_genT fun W5 hW5 => ?_
                have hwg : Hid (w.heap.size ≠ g) := Lib.hid (HX.out.ne_ HN.out (by decide))
                replace HX : Hid (Blk W5 w.heap.size 53 t.cs) := Lib.hid (by rw [hW5]; exact HX.out.far (by simpa using hwg.out) _)
                replace HN : Hid (Blk W5 g 265 (spX t core h (some ⟨gr, 0, none⟩) (k + 1) cap 0)) := Lib.hid (by rw [hW5]; exact HN.out.set_ 8 _)
                replace HO : Hid (W5.ownsRow w.heap.size 89 11 (.slice (some ⟨gr, 0, none⟩) (k + 1) cap) (k + 1) (((t.ins.take k).map (entD T)).flatMap En.cl ++ (En.mk x.tx x.out oo).cl)) := Lib.hid (by rw [hW5]; exact Ch.owns (Ch.set_ (S := [g]) (by simp) _ 8 _) HO.out (fun b hb => by have : gr = b := Option.some.inj hb; have := HGR.out; simp; omega))
                replace HB : Hid (Below w.heap.size w W5) := Lib.hid (by rw [hW5]; exact HB.out.setCell (by simp; omega) _)
                clear hW5
                refine wpAnyH_done (by kernel_rfl) ?_ _
                go_wp2_with fail
                go_roundw
                case rel => exact ⟨k + 1, some ⟨gr, 0, none⟩, cap, by omega, by go_num, HA1, HN, Lib.hid (by rw [HSN.out, HED.out]; exact HO.out), HX, HB⟩
                case measure => simp [intOf]; omega
      · have d0 : decide (k < t.ins.length) = false := decide_eq_false hlt
        obtain rfl : k = t.ins.length := by omega
        rw [List.take_length] at HA HO
        have h0 : 0 < t.ins.length := by omega
        obtain ⟨ab, off, hAe, hbB, hc⟩ := (HSI.out.below HB.out).at_ h0
        subst hAe
        have q2 : wr.cell? ⟨ab, off + 2, none⟩ = some (.int .i64 (path0 t)) := by
          have := hc 2 (.int .i64 t.ins[0].path) rfl
          rw [show path0 t = t.ins[0].path from by unfold path0; rw [List.headD_eq_head?_getD, List.head?_eq_getElem?, List.getElem?_eq_getElem h0]; rfl]
          simpa using this
        have c0 : wr.cell? ⟨w.heap.size, 0, none⟩ = some (.slice (some ⟨ab, off, none⟩) t.ins.length t.c) := by rw [← HTA.out]; exact HX.out.cell 0
        have HFF : Hid (fe = if oneP t && (decide (path0 t = 2) || noneP t.p) then 0 else 13) := Lib.hid (by rw [HFE.out, HA.out, if_neg (by decide)])
        have HSP : Hid (SpAt wr g t core h L 0) := Lib.hid ⟨A, c, by have := HN.out; rwa [show t.ins.length = L.length by rw [HLE.out]; simp [spentT]] at this, Sl.of_own (base := w.heap.size) (n := t.ins.length) (c := c) (e := 89) (fun _ => rfl) (by have := HO.out; rw [HLE.out]; rwa [show (spentT T t).length = t.ins.length by simp [spentT]]), row_ne HN.out (by decide) HO.out⟩
        generalize path0 t = pa at q2 HCP HFF HOP
        generalize oneP t = op at HFF HOP
        generalize (t.ins.any fun i => decide (i.path ≠ pa)) = ao at HCP HOP
        clear hc HA HO HN HFE
        go_upto_region 14 with fail
        refine wp_gen fun X0 hX => ?_
        have HPB : Hid (Blk X0 wr.heap.size 3 #[.int .i64 pa]) := Lib.hid (by rw [hX]; exact Blk.new _ _ _)
        have hb : Below wr.heap.size wr X0 := by rw [hX]; exact (Below.refl _ _).alloc (Nat.le_refl _) _
        replace HX := Lib.hid (HX.out.bel hb)
        replace HSP := Lib.hid (HSP.out.bel hb)
        replace HB := Lib.hid (HB.out.trans (hb.mono HB.out.size))
        clear hX hb c0 q2 d0
        generalize wr.heap.size = px at HPB ⊢
        have c0 : X0.cell? ⟨w.heap.size, 0, none⟩ = some (.slice (some ⟨ab, off, none⟩) t.ins.length t.c) := by rw [← HTA.out]; exact HX.out.cell 0
        go_wp2_with fail
        refine ((HCP X0 HB.out px).out (fun W' hW i _ => found1_any px pa i W' (HPB.out.bel hW))).mono ?_
        rintro e V ⟨rfl, hb⟩
        replace HX := Lib.hid (HX.out.bel hb)
        replace HSP := Lib.hid (HSP.out.bel hb)
        replace HPB := Lib.hid (HPB.out.bel hb)
        replace HB := Lib.hid (HB.out.trans (hb.mono HB.out.size))
        clear hb c0 HCP HTA
        cases ao with
        | true =>
          obtain rfl : op = false := HOP.out
          obtain rfl : fe = 13 := by rw [HFF.out]; rfl
          go_wp2_with fail
          go_ret2
          exact ⟨HB.out, .inl ⟨by decide, rfl⟩⟩
        | false =>
          obtain rfl : op = true := HOP.out
          have p0 : V.cell? ⟨px, 0, none⟩ = some (.int .i64 pa) := HPB.out.cell 0
          by_cases hp2 : pa = 2
          · have d2 : (pa != 2) = false := by rw [hp2]; rfl
            obtain rfl : fe = 0 := by rw [HFF.out, decide_eq_true hp2]; rfl
            clear hp2 HFF HOP
            go_wp2_with fail
            go_ret2
            exact ⟨HB.out, .inr ⟨rfl, g, hgl, HSP.out, rfl⟩⟩
          · have d2 : (pa != 2) = true := by simp [bne, beq_eq_false_iff_ne.2 hp2]
            have HF2 : Hid (fe = if noneP t.p then 0 else 13) := Lib.hid (by rw [HFF.out, decide_eq_false hp2]; rfl)
            have HSZ := fun W => Lib.hid (same_zero t.p W)
            generalize noneP t.p = np at HF2 HSZ
            clear hp2 HFF HOP
            go_wp2_with (refine wpList_load_blkG (by rfl) 51 (.tmp 71) rfl w.heap.size 2 4 HX.out t.p.cs (by rfl) (txn_pf t) Tryz.underlying51 infoPf (by show 6 ≤ 6; omega) ?_)
            refine (HSZ _).out.mono ?_
            rintro e V2 ⟨rfl, hb⟩
            replace HSP := Lib.hid (HSP.out.bel hb)
            replace HB := Lib.hid (HB.out.trans (hb.mono HB.out.size))
            clear hb HSZ
            cases np with
            | true =>
              obtain rfl : fe = 0 := HF2.out
              go_wp2_with fail
              go_ret2
              exact ⟨HB.out, .inr ⟨rfl, g, hgl, HSP.out, rfl⟩⟩
            | false =>
              obtain rfl : fe = 13 := HF2.out
              go_wp2_with fail
              go_ret2
              exact ⟨HB.out, .inl ⟨by decide, rfl⟩⟩
end Go.Proofs.YtjcinncphffgaaaGreat
namespace Go.Proofs.YtjcinncphffgaaaGreat
open Go.RowKit Go.Maps
/-- a part of a list's element is read, in a region that draws its order -/
theorem yields_row {ops : Array Oper} {S : World → Prop} {op : Oper} {a : Act} (hw : Region.wanted op (yielded ops a.tmps) = true) (ty : TypeId) (x : Operand) (ho : op.op = .load ty x)
    (b o : Nat) {fs : Array Field} (cl : List Value) (hS : ∀ w, S w → ∀ j v, cl[j]? = some v → w.cell? ⟨b, o + j, none⟩ = some v) (part : Array Value) (hx : a.eval x = .pointer (some ⟨b, o, none⟩)) (hp : cl.toArray = part)
    (hu : Tryz.prog.underlying ty = some (.struct fs)) (hi : (Tryz.prog.info? ty).map (·.size) = some cl.length) : YieldsIf Tryz.prog ops S op (.agg part) a := by
  subst hp
  exact yieldsIf_load_mid (P := Tryz.prog) hw ty x ho b o hx cl _ (fun w h => hS w h) hu rfl hi
def vkE (key core sig : ByteArray) : Int := if verB key core sig = true then 0 else 10
/-- what is wrong with spending an output -/
def mayE (x0 : En) (i : Nat) (x : En) (y : Inp) (core : ByteArray) (h : Int) : Int :=
  if y.path = 1 then (if x.o.kind = 1 then vkE x.o.key core y.sig else 13)
  else if y.path = 3 then (if x.o.kind = 1 then 13 else if h < x.o.ex then 12 else vkE x.o.key core y.sig)
  else if i = 0 then (if x.o.kind = 2 then vkE x.o.gate core y.sig else 13)
  else if x.o.kind = 3 then (if x.o.of_ = nameO x0.tx x0.out then vkE x.o.gate core y.sig else 13) else 13
theorem rows_bel {w W : World} {b o : Nat} {cl : List Value} (h : ∀ j v, cl[j]? = some v → w.cell? ⟨b, o + j, none⟩ = some v) (hb : b < w.heap.size) (hW : Below w.heap.size w W) : ∀ j v, cl[j]? = some v → W.cell? ⟨b, o + j, none⟩ = some v :=
  fun j v hv => (hW.cell (p := ⟨b, o + j, none⟩) hb).trans (h j v hv)
theorem ou_in (x : En) : ∀ j v, x.o.cl[j]? = some v → x.cl[2 + j]? = some v := by
  intro j v hv
  have : x.cl = [.string x.tx, .int .i64 x.out] ++ x.o.cl := rfl
  rw [this, List.getElem?_append_right (by simp)]
  simpa using hv
set_option maxRecDepth 100000 in
set_option maxHeartbeats 4000000 in
theorem may_any (g i : Nat) (t : Txn) (core : ByteArray) (h : Int) (L : List En) (wh : Nat) (w : World) (hk : SpAt w g t core h L wh) (hm : t.mem w) (hi : i < L.length) (hi2 : i < t.ins.length) (hl : L.length ≤ 1000) (hl2 : t.ins.length ≤ 1000)
    (hx0 : L[0].tx.size ≤ 1000000) (hcz : core.size ≤ 900000) (hsz : t.ins[i].sig.size ≤ 1000000) :
    Calls Tryz.prog 106 #[.pointer (some ⟨g, 0, none⟩), .int .i64 (i : Int)] w fun e w' => e = .returned (.int .i64 (mayE L[0] i L[i] t.ins[i] core h)) ∧ Below w.heap.size w w' := by
  obtain ⟨A, c, hB, hL, _⟩ := hk.ex
  obtain ⟨ab, off, hA, hab, hc⟩ := hL.at_ hi
  obtain ⟨ab', off', hA', _, hc0⟩ := hL.at_ (show 0 < L.length by omega)
  subst hA
  obtain ⟨rfl, rfl⟩ : ab = ab' ∧ off = off' := by injection hA' with hA'; injection hA' with h1 h2; exact ⟨h1, h2⟩
  obtain ⟨tb, tf, hT, htb, hd⟩ := hm.ins.at_ hi2
  have HG := Lib.hid hB
  have HTA := Lib.hid hT
  have HY := fun W root => Lib.hid (verify_any root core t.ins[i].sig W hsz hcz)
  have HNM := fun W => Lib.hid (cname_gen L[0].tx L[0].out W hx0)
  generalize L[i] = x at hc ⊢
  generalize L[0] = x0 at hc0 HNM ⊢
  generalize t.ins[i] = y at hd HY ⊢
  have HME : Hid (mayE x0 i x y core h = if y.path = 1 then (if x.o.kind = 1 then vkE x.o.key core y.sig else 13) else if y.path = 3 then (if x.o.kind = 1 then 13 else if h < x.o.ex then 12 else vkE x.o.key core y.sig) else if i = 0 then (if x.o.kind = 2 then vkE x.o.gate core y.sig else 13) else if x.o.kind = 3 then (if x.o.of_ = nameO x0.tx x0.out then vkE x.o.gate core y.sig else 13) else 13) := rfl
  generalize mayE x0 i x y core h = me at HME ⊢
  have HC := Lib.hid hc
  have HC0 := Lib.hid hc0
  have HD := Lib.hid hd
  have HAB := Lib.hid hab
  have HTB := Lib.hid htb
  have k1 : (0 : Int) ≤ (i : Int) := by omega
  have k2 : (i : Int) < (L.length : Int) := by omega
  have k3 : (i : Int) < (t.ins.length : Int) := by omega
  have k4 : (0 : Int) < (L.length : Int) := by omega
  generalize L.length = n at HG k2 k4
  clear hB hL hc hc0 hd hA' hT hk hm hi hi2 hl hl2 hsz hx0 hcz hab htb
  go_enter Tryz.func106, Tryz.ntmps106
  go_upto_region 1 with fail
  refine wp_region_held_drew (S := fun W => Hid (Below w.heap.size w W)) (by kernel_rfl) (Lib.hid (Below.refl _ _).drew) (fun hS => ?_)
  refine wpAnyH_genT fun X hX => ?_
  rw [← hX] at hS
  clear hX
  refine wpAnyH_take (i := 0) (v := ?_) rfl (by kernel_rfl) (by kernel_rfl) (by kernel_rfl) (fun _ _ _ h => h) (Or.inl ⟨by rfl, ?_⟩) hS ?_
  rotate_left
  · (intro w _; go_simp; try with_reducible rfl)
  refine wpAnyH_take (i := 1) (v := ?_) rfl (by kernel_rfl) (by kernel_rfl) (by kernel_rfl) (fun _ _ _ h => h) (Or.inl ⟨by rfl, ?_⟩) hS ?_
  rotate_left
  · (intro w _; go_simp; try with_reducible rfl)
  refine wpAnyH_take (i := 2) (v := ?_) rfl (by kernel_rfl) (by kernel_rfl) (by kernel_rfl) (fun _ _ _ h => h) (Or.inl ⟨by rfl, ?_⟩) hS ?_
  rotate_left
  · (intro w _; go_simp; try with_reducible rfl)
  refine wpAnyH_take (i := 3) (v := ?_) rfl (by kernel_rfl) (by kernel_rfl) (by kernel_rfl) (fun _ _ _ h => h) (Or.inl ⟨by rfl, ?_⟩) hS ?_
  rotate_left
  · (intro w hS'; have hcell := (show World.cell? _ ⟨g, 8, none⟩ = some (.slice (some ⟨ab, off, none⟩) n c) from Blk.cell (HG.out.bel hS'.out) 8); go_simp; try with_reducible rfl)
  refine wpAnyH_take (i := 4) (v := ?_) rfl (by kernel_rfl) (by kernel_rfl) (by kernel_rfl) (fun _ _ _ h => h) (Or.inl ⟨by rfl, ?_⟩) hS ?_
  rotate_left
  · (intro w _; go_simp; try with_reducible rfl)
  refine wpAnyH_take (i := 5) (v := ?_) rfl (by kernel_rfl) (by kernel_rfl) (by kernel_rfl) (fun _ _ _ h => h) (Or.inl ⟨by rfl, ?_⟩) hS ?_
  rotate_left
  · (intro w _; go_simp; try with_reducible rfl)
  refine wpAnyH_take (i := 6) (v := ?_) rfl (by kernel_rfl) (by kernel_rfl) (by kernel_rfl) (fun _ _ _ h => h) (Or.inl ⟨by rfl, ?_⟩) hS ?_
  rotate_left
  · (intro w _; go_simp; try with_reducible rfl)
  refine wpAnyH_take (i := 7) (v := .agg x.o.cs) rfl (by kernel_rfl) (by kernel_rfl) (by kernel_rfl) (fun _ _ _ h => h) (yields_row (by rfl) 81 (.tmp 13) (by rfl) ab (off + i * 11 + 2) x.o.cl (fun W hW j v hv => by have := rows_bel HC.out HAB.out hW.out (2 + j) v (ou_in x j v hv); rwa [← Nat.add_assoc] at this) x.o.cs (by rfl) (Array.toArray_toList ..) Tryz.underlying81 infoOu9) hS ?_
  refine wpAnyH_take (i := 8) (v := ?_) rfl (by kernel_rfl) (by kernel_rfl) (by kernel_rfl) (fun _ _ _ h => h) (Or.inl ⟨by rfl, ?_⟩) hS ?_
  rotate_left
  · (intro w _; go_simp; try with_reducible rfl)
  refine wpAnyH_take (i := 9) (v := ?_) rfl (by kernel_rfl) (by kernel_rfl) (by kernel_rfl) (fun _ _ _ h => h) (Or.inl ⟨by rfl, ?_⟩) hS ?_
  rotate_left
  · (intro w _; go_simp; try with_reducible rfl)
  refine wpAnyH_take (i := 10) (v := ?_) rfl (by kernel_rfl) (by kernel_rfl) (by kernel_rfl) (fun _ _ _ h => h) (Or.inl ⟨by rfl, ?_⟩) hS ?_
  rotate_left
  · (intro w _; go_simp; try with_reducible rfl)
  refine wpAnyH_take (i := 11) (v := ?_) rfl (by kernel_rfl) (by kernel_rfl) (by kernel_rfl) (fun _ _ _ h => h) (Or.inl ⟨by rfl, ?_⟩) hS ?_
  rotate_left
  · (intro w hS'; have hcell := (show World.cell? _ ⟨g, 8, none⟩ = some (.slice (some ⟨ab, off, none⟩) n c) from Blk.cell (HG.out.bel hS'.out) 8); go_simp; try with_reducible rfl)
  refine wpAnyH_take (i := 12) (v := ?_) rfl (by kernel_rfl) (by kernel_rfl) (by kernel_rfl) (fun _ _ _ h => h) (Or.inl ⟨by rfl, ?_⟩) hS ?_
  rotate_left
  · (intro w _; go_simp; try with_reducible rfl)
  refine wpAnyH_take (i := 13) (v := ?_) rfl (by kernel_rfl) (by kernel_rfl) (by kernel_rfl) (fun _ _ _ h => h) (Or.inl ⟨by rfl, ?_⟩) hS ?_
  rotate_left
  · (intro w _; go_simp; try with_reducible rfl)
  refine wpAnyH_take (i := 14) (v := ?_) rfl (by kernel_rfl) (by kernel_rfl) (by kernel_rfl) (fun _ _ _ h => h) (Or.inl ⟨by rfl, ?_⟩) hS ?_
  rotate_left
  · (intro w _; go_simp; try with_reducible rfl)
  refine wpAnyH_take (i := 15) (v := ?_) rfl (by kernel_rfl) (by kernel_rfl) (by kernel_rfl) (fun _ _ _ h => h) (Or.inl ⟨by rfl, ?_⟩) hS ?_
  rotate_left
  · (intro w _; go_simp; try with_reducible rfl)
  refine wpAnyH_take (i := 16) (v := ?_) rfl (by kernel_rfl) (by kernel_rfl) (by kernel_rfl) (fun _ _ _ h => h) (Or.inl ⟨by rfl, ?_⟩) hS ?_
  rotate_left
  · (intro w hS'; have hcell := (show World.cell? _ ⟨ab, off + i * 11 + 4, none⟩ = some (.string x.o.key) from rows_bel HC.out HAB.out hS'.out 4 _ rfl); go_simp; try with_reducible rfl)
  refine wpAnyH_ready (rs := [17]) (by kernel_rfl) (by simp) (AllReadyH.cons rfl (fun K hK => ?_) AllReadyH.nil)
  go_simp
  have HBX : Hid (Below X.heap.size X (X.alloc (.cells zOu.cs 81))) := Lib.hid ((Below.refl _ _).alloc (Nat.le_refl _) _)
  have HNB : Hid (Blk (X.alloc (.cells zOu.cs 81)) X.heap.size 81 zOu.cs) := Blk.new _ _ _
  refine hK.out _ _ (Lib.hid (hS.out.trans (HBX.out.mono hS.out.size))) (fun hS1 => ?_)
  clear hK K
  refine wpAnyH_genT fun X1 hX1 => ?_
  replace hX1 : X1 = X.alloc (.cells zOu.cs 81) := hX1
  rw [← hX1] at HBX HNB
  have hS2 : Hid (Below w.heap.size w X1) := Lib.hid (hS.out.trans (HBX.out.mono hS.out.size))
  have hgX : w.heap.size ≤ X.heap.size := hS.out.size
  clear hX1 hS1 HBX hS
  generalize X.heap.size = gg at HNB hgX ⊢
  refine wpAnyH_ready (rs := [18]) (by kernel_rfl) (by simp) (AllReadyH.cons rfl (fun K hK => ?_) AllReadyH.nil)
  refine step_store_part (by rfl) 81 (.tmp 5) (.tmp 14) (by rfl) gg 0 HNB.out x.o.cs x.o.cs (by rfl) (by rfl) (Nat.le_refl 9) infoOu9 (oucs_one x.o) (ouv_over x.o rfl) ?_
  intro Wq hb1 hc1
  have HT := Lib.hid hb1
  have hS3 : Hid (Below w.heap.size w Wq) := Lib.hid (hS2.out.trans (hc1.below hS2.out.size (by simp; omega)))
  clear hb1 hc1 HNB
  refine hK.out _ _ hS3 (fun hS => ?_)
  clear hK K hS2
  refine wpAnyH_take (i := 19) (v := ?_) rfl (by kernel_rfl) (by kernel_rfl) (by kernel_rfl) (fun _ _ _ h => h) (Or.inl ⟨by rfl, ?_⟩) hS ?_
  rotate_left
  · (intro w _; go_simp; try with_reducible rfl)
  clear hS
  refine wpAnyH_done (by kernel_rfl) ?_ _
  have HB : Hid (Below w.heap.size w Wq) := hS3
  clear hS3
  have g0 : Wq.cell? ⟨g, 0, none⟩ = some (.slice (some ⟨tb, tf, none⟩) t.ins.length t.c) := ((HG.out.bel HB.out).cell 0).trans (by show some (Value.slice t.A _ _) = _; rw [HTA.out])
  have y2 : Wq.cell? ⟨tb, tf + i * 4 + 2, none⟩ = some (.int .i64 y.path) := rows_bel HD.out HTB.out HB.out 2 _ rfl
  have o0 : Wq.cell? ⟨gg, 0, none⟩ = some (.int .i64 x.o.kind) := HT.out.cell 0
  have o3 : Wq.cell? ⟨gg, 3, none⟩ = some (.string x.o.gate) := HT.out.cell 3
  have o4 : Wq.cell? ⟨gg, 4, none⟩ = some (.int .i64 x.o.ex) := HT.out.cell 4
  have o8 : Wq.cell? ⟨gg, 8, none⟩ = some (.string x.o.of_) := HT.out.cell 8
  by_cases hp1 : y.path = 1
  · have d1 : (y.path == 1) = true := beq_iff_eq.2 hp1
    by_cases hk1 : x.o.kind = 1
    · have e1 : (x.o.kind != 1) = false := by simp [bne, beq_iff_eq.2 hk1]
      have HK : Hid (me = vkE x.o.key core y.sig) := Lib.hid (by rw [HME.out, if_pos hp1, if_pos hk1])
      clear hp1 hk1 HME
      go_upto_region 14 with fail
      have q6 := cell_rg (show Wq.cell? ⟨g, 6, none⟩ = some (.string core) from (HG.out.bel HB.out).cell 6)
      have q0 := cell_rg g0
      have q3 := cell_rg (show Wq.cell? ⟨tb, tf + i * 4 + 3, none⟩ = some (.string y.sig) from rows_bel HD.out HTB.out HB.out 3 _ rfl)
      refine wp_region_quiet_below (by kernel_rfl) (by kernel_rfl) ?_
      repeat (first | go_big_quiet_skip | (go_big_quiet_want; first | (fail; go_big_quiet_on) | (go_big_quiet_op; first | go_big_quiet_on | go_big_quiet_call ((go_at_call 26; exact Calls.rg fun W _ => (HY W x.o.key).out)))))
      refine wpQuiet_nil ?_
      intro U hp
      have hb := bel_regrown hp
      clear hp
      replace HB := Lib.hid (HB.out.trans (hb.mono HB.out.size))
      clear hb q0 q3 q6 g0 y2 o0 o3 o4 o8
      have HVK : Hid (vkE x.o.key core y.sig = if verB x.o.key core y.sig = true then 0 else 10) := rfl
      generalize verB x.o.key core y.sig = vb at HVK ⊢
      cases vb with
      | true =>
        obtain rfl : me = 0 := by rw [HK.out, HVK.out]; rfl
        go_wp2_with fail
        go_ret
        exact ⟨rfl, HB.out⟩
      | false =>
        obtain rfl : me = 10 := by rw [HK.out, HVK.out]; rfl
        go_wp2_with fail
        go_ret
        exact ⟨rfl, HB.out⟩
    · have e1 : (x.o.kind != 1) = true := by simp [bne, beq_eq_false_iff_ne.2 hk1]
      obtain rfl : me = 13 := by rw [HME.out, if_pos hp1, if_neg hk1]
      clear hp1 hk1 HME
      go_wp2_with fail
      go_ret
      exact ⟨rfl, HB.out⟩
  have d1 : (y.path == 1) = false := beq_eq_false_iff_ne.2 hp1
  by_cases hp3 : y.path = 3
  · have d3 : (y.path == 3) = true := beq_iff_eq.2 hp3
    by_cases hk1 : x.o.kind = 1
    · have e1 : (x.o.kind == 1) = true := beq_iff_eq.2 hk1
      obtain rfl : me = 13 := by rw [HME.out, if_neg hp1, if_pos hp3, if_pos hk1]
      clear hp1 hp3 hk1 HME
      go_wp2_with fail
      go_ret
      exact ⟨rfl, HB.out⟩
    have e1 : (x.o.kind == 1) = false := beq_eq_false_iff_ne.2 hk1
    by_cases hx : h < x.o.ex
    · have e2 : decide (h < x.o.ex) = true := decide_eq_true hx
      obtain rfl : me = 12 := by rw [HME.out, if_neg hp1, if_pos hp3, if_neg hk1, if_pos hx]
      clear hp1 hp3 hk1 HME hx
      go_upto_region 12 with fail
      have q7 := cell_rg (show Wq.cell? ⟨g, 7, none⟩ = some (.int .i64 h) from (HG.out.bel HB.out).cell 7)
      have r4 := cell_rg o4
      refine wp_region_quiet_below (by kernel_rfl) (by kernel_rfl) ?_
      repeat (first | go_big_quiet_skip | (go_big_quiet_want; first | (fail; go_big_quiet_on) | (go_big_quiet_op; first | go_big_quiet_on | go_big_quiet_call (fail))))
      refine wpQuiet_nil ?_
      intro U0 hp
      have hb := bel_regrown hp
      clear hp
      clear q7 r4 g0 y2 o0 o3 o4 o8
      replace HT := Lib.hid (HT.out.bel hb)
      replace HB := Lib.hid (HB.out.trans (hb.mono HB.out.size))
      clear hb
      have g0 : U0.cell? ⟨g, 0, none⟩ = some (.slice (some ⟨tb, tf, none⟩) t.ins.length t.c) := ((HG.out.bel HB.out).cell 0).trans (by show some (Value.slice t.A _ _) = _; rw [HTA.out])
      have y2 : True := trivial
      have o0 : True := trivial
      have o3 : True := trivial
      have o4 : True := trivial
      have o8 : True := trivial
      rename World => Wq
      go_wp2_with fail
      go_ret
      exact ⟨rfl, HB.out⟩
    · have e2 : decide (h < x.o.ex) = false := decide_eq_false hx
      have HK : Hid (me = vkE x.o.key core y.sig) := Lib.hid (by rw [HME.out, if_neg hp1, if_pos hp3, if_neg hk1, if_neg hx])
      clear hp1 hp3 hk1 HME hx
      go_upto_region 12 with fail
      have q7 := cell_rg (show Wq.cell? ⟨g, 7, none⟩ = some (.int .i64 h) from (HG.out.bel HB.out).cell 7)
      have r4 := cell_rg o4
      refine wp_region_quiet_below (by kernel_rfl) (by kernel_rfl) ?_
      repeat (first | go_big_quiet_skip | (go_big_quiet_want; first | (fail; go_big_quiet_on) | (go_big_quiet_op; first | go_big_quiet_on | go_big_quiet_call (fail))))
      refine wpQuiet_nil ?_
      intro U0 hp
      have hb := bel_regrown hp
      clear hp
      clear q7 r4 g0 y2 o0 o3 o4 o8
      replace HT := Lib.hid (HT.out.bel hb)
      replace HB := Lib.hid (HB.out.trans (hb.mono HB.out.size))
      clear hb
      have g0 : U0.cell? ⟨g, 0, none⟩ = some (.slice (some ⟨tb, tf, none⟩) t.ins.length t.c) := ((HG.out.bel HB.out).cell 0).trans (by show some (Value.slice t.A _ _) = _; rw [HTA.out])
      have y2 : True := trivial
      have o0 : True := trivial
      have o3 : True := trivial
      have o4 : True := trivial
      have o8 : True := trivial
      rename World => Wq
      go_upto_region 14 with fail
      have q6 := cell_rg (show Wq.cell? ⟨g, 6, none⟩ = some (.string core) from (HG.out.bel HB.out).cell 6)
      have q0 := cell_rg g0
      have q3 := cell_rg (show Wq.cell? ⟨tb, tf + i * 4 + 3, none⟩ = some (.string y.sig) from rows_bel HD.out HTB.out HB.out 3 _ rfl)
      refine wp_region_quiet_below (by kernel_rfl) (by kernel_rfl) ?_
      repeat (first | go_big_quiet_skip | (go_big_quiet_want; first | (fail; go_big_quiet_on) | (go_big_quiet_op; first | go_big_quiet_on | go_big_quiet_call ((go_at_call 26; exact Calls.rg fun W _ => (HY W x.o.key).out)))))
      refine wpQuiet_nil ?_
      intro U hp
      have hb := bel_regrown hp
      clear hp
      replace HB := Lib.hid (HB.out.trans (hb.mono HB.out.size))
      clear hb q0 q3 q6 g0 y2 o0 o3 o4 o8
      have HVK : Hid (vkE x.o.key core y.sig = if verB x.o.key core y.sig = true then 0 else 10) := rfl
      generalize verB x.o.key core y.sig = vb at HVK ⊢
      cases vb with
      | true =>
        obtain rfl : me = 0 := by rw [HK.out, HVK.out]; rfl
        go_wp2_with fail
        go_ret
        exact ⟨rfl, HB.out⟩
      | false =>
        obtain rfl : me = 10 := by rw [HK.out, HVK.out]; rfl
        go_wp2_with fail
        go_ret
        exact ⟨rfl, HB.out⟩
  have d3 : (y.path == 3) = false := beq_eq_false_iff_ne.2 hp3
  by_cases hi0 : i = 0
  · have e0 : ((i : Int) == 0) = true := by rw [hi0]; rfl
    by_cases hk2 : x.o.kind = 2
    · have e1 : (x.o.kind != 2) = false := by simp [bne, beq_iff_eq.2 hk2]
      have e5 : decide ((0 : Int) < (i : Int)) = false := decide_eq_false (by omega)
      have e5' : decide (0 < i) = false := decide_eq_false (by omega)
      have HK : Hid (me = vkE x.o.gate core y.sig) := Lib.hid (by rw [HME.out, if_neg hp1, if_neg hp3, if_pos hi0, if_pos hk2])
      clear hp1 hp3 hk2 HME hi0
      go_upto_region 4 with fail
      have r0 := cell_rg o0
      have r8 := cell_rg o8
      refine wp_region_quiet_below (by kernel_rfl) (by kernel_rfl) ?_
      repeat (first | go_big_quiet_skip | (go_big_quiet_want; first | ((refine quiet_load_row 57 (.tmp 57) rfl ab off [Value.string x0.tx, .int .i64 x0.out] HR0.out #[.string x0.tx, .int .i64 x0.out] (by rfl) (by rfl) Tryz.underlying57 infoPnt ?_; go_simp); go_big_quiet_on) | (go_big_quiet_op; first | go_big_quiet_on | go_big_quiet_call (fail))))
      refine wpQuiet_nil ?_
      intro U0 hp
      have hb := bel_regrown hp
      clear hp
      clear r0 r8 g0 y2 o0 o3 o4 o8
      replace HT := Lib.hid (HT.out.bel hb)
      replace HB := Lib.hid (HB.out.trans (hb.mono HB.out.size))
      clear hb
      have g0 : U0.cell? ⟨g, 0, none⟩ = some (.slice (some ⟨tb, tf, none⟩) t.ins.length t.c) := ((HG.out.bel HB.out).cell 0).trans (by show some (Value.slice t.A _ _) = _; rw [HTA.out])
      have y2 : True := trivial
      have o0 : True := trivial
      have o3 : True := trivial
      have o4 : True := trivial
      have o8 : True := trivial
      rename World => Wq
      go_upto_region 14 with fail
      have q6 := cell_rg (show Wq.cell? ⟨g, 6, none⟩ = some (.string core) from (HG.out.bel HB.out).cell 6)
      have q0 := cell_rg g0
      have q3 := cell_rg (show Wq.cell? ⟨tb, tf + i * 4 + 3, none⟩ = some (.string y.sig) from rows_bel HD.out HTB.out HB.out 3 _ rfl)
      refine wp_region_quiet_below (by kernel_rfl) (by kernel_rfl) ?_
      repeat (first | go_big_quiet_skip | (go_big_quiet_want; first | (fail; go_big_quiet_on) | (go_big_quiet_op; first | go_big_quiet_on | go_big_quiet_call ((go_at_call 26; exact Calls.rg fun W _ => (HY W x.o.gate).out)))))
      refine wpQuiet_nil ?_
      intro U hp
      have hb := bel_regrown hp
      clear hp
      replace HB := Lib.hid (HB.out.trans (hb.mono HB.out.size))
      clear hb q0 q3 q6 g0 y2 o0 o3 o4 o8
      have HVK : Hid (vkE x.o.gate core y.sig = if verB x.o.gate core y.sig = true then 0 else 10) := rfl
      generalize verB x.o.gate core y.sig = vb at HVK ⊢
      cases vb with
      | true =>
        obtain rfl : me = 0 := by rw [HK.out, HVK.out]; rfl
        go_wp2_with fail
        go_ret
        exact ⟨rfl, HB.out⟩
      | false =>
        obtain rfl : me = 10 := by rw [HK.out, HVK.out]; rfl
        go_wp2_with fail
        go_ret
        exact ⟨rfl, HB.out⟩
    · have e1 : (x.o.kind != 2) = true := by simp [bne, beq_eq_false_iff_ne.2 hk2]
      obtain rfl : me = 13 := by rw [HME.out, if_neg hp1, if_neg hp3, if_pos hi0, if_neg hk2]
      clear hp1 hp3 hk2 HME hi0
      go_upto_region 4 with fail
      have r0 := cell_rg o0
      have r8 := cell_rg o8
      refine wp_region_quiet_below (by kernel_rfl) (by kernel_rfl) ?_
      repeat (first | go_big_quiet_skip | (go_big_quiet_want; first | ((refine quiet_load_row 57 (.tmp 57) rfl ab off [Value.string x0.tx, .int .i64 x0.out] HR0.out #[.string x0.tx, .int .i64 x0.out] (by rfl) (by rfl) Tryz.underlying57 infoPnt ?_; go_simp); go_big_quiet_on) | (go_big_quiet_op; first | go_big_quiet_on | go_big_quiet_call (fail))))
      refine wpQuiet_nil ?_
      intro U0 hp
      have hb := bel_regrown hp
      clear hp
      clear r0 r8 g0 y2 o0 o3 o4 o8
      replace HT := Lib.hid (HT.out.bel hb)
      replace HB := Lib.hid (HB.out.trans (hb.mono HB.out.size))
      clear hb
      have g0 : U0.cell? ⟨g, 0, none⟩ = some (.slice (some ⟨tb, tf, none⟩) t.ins.length t.c) := ((HG.out.bel HB.out).cell 0).trans (by show some (Value.slice t.A _ _) = _; rw [HTA.out])
      have y2 : True := trivial
      have o0 : True := trivial
      have o3 : True := trivial
      have o4 : True := trivial
      have o8 : True := trivial
      rename World => Wq
      go_wp2_with fail
      go_ret
      exact ⟨rfl, HB.out⟩
  have e0 : ((i : Int) == 0) = false := beq_eq_false_iff_ne.2 (by omega)
  have e5 : decide ((0 : Int) < (i : Int)) = true := decide_eq_true (by omega)
  have e5' : decide (0 < i) = true := decide_eq_true (by omega)
  by_cases hk3 : x.o.kind = 3
  · have e1 : (x.o.kind != 3) = false := by simp [bne, beq_iff_eq.2 hk3]
    have ge := toList_beq x.o.of_ (nameO x0.tx x0.out)
    have q8 := cell_rg (show Wq.cell? ⟨g, 8, none⟩ = some (.slice (some ⟨ab, off, none⟩) n c) from Blk.cell (HG.out.bel HB.out) 8)
    have HR0 : Hid (∀ j v, [Value.string x0.tx, .int .i64 x0.out][j]? = some v → Wq.cell? ⟨ab, off + j, none⟩ = some v) := Lib.hid (fun j v hv => by
      have := rows_bel HC0.out HAB.out HB.out j v (by have e : x0.cl = [Value.string x0.tx, .int .i64 x0.out] ++ x0.o.cl := rfl; rw [e, List.getElem?_append_left (by exact (List.getElem?_eq_some_iff.1 hv).1)]; exact hv)
      simpa using this)
    by_cases hof : x.o.of_ = nameO x0.tx x0.out
    · rw [decide_eq_true hof] at ge
      have HK : Hid (me = vkE x.o.gate core y.sig) := Lib.hid (by rw [HME.out, if_neg hp1, if_neg hp3, if_neg hi0, if_pos hk3, if_pos hof])
      clear hp1 hp3 hk3 HME hi0 hof
      go_upto_region 4 with fail
      have r0 := cell_rg o0
      have r8 := cell_rg o8
      refine wp_region_quiet_below (by kernel_rfl) (by kernel_rfl) ?_
      repeat (first | go_big_quiet_skip | (go_big_quiet_want; first | ((refine quiet_load_row 57 (.tmp 57) rfl ab off [Value.string x0.tx, .int .i64 x0.out] HR0.out #[.string x0.tx, .int .i64 x0.out] (by rfl) (by rfl) Tryz.underlying57 infoPnt ?_; go_simp); go_big_quiet_on) | (go_big_quiet_op; first | go_big_quiet_on | go_big_quiet_call ((go_at_call 34; exact Calls.rg fun W _ => (HNM W).out)))))
      refine wpQuiet_nil ?_
      intro U0 hp
      have hb := bel_regrown hp
      clear hp
      clear r0 r8 g0 y2 o0 o3 o4 o8
      replace HT := Lib.hid (HT.out.bel hb)
      replace HB := Lib.hid (HB.out.trans (hb.mono HB.out.size))
      clear hb
      have g0 : U0.cell? ⟨g, 0, none⟩ = some (.slice (some ⟨tb, tf, none⟩) t.ins.length t.c) := ((HG.out.bel HB.out).cell 0).trans (by show some (Value.slice t.A _ _) = _; rw [HTA.out])
      have y2 : True := trivial
      have o0 : True := trivial
      have o3 : True := trivial
      have o4 : True := trivial
      have o8 : True := trivial
      rename World => Wq
      go_upto_region 14 with fail
      have q6 := cell_rg (show Wq.cell? ⟨g, 6, none⟩ = some (.string core) from (HG.out.bel HB.out).cell 6)
      have q0 := cell_rg g0
      have q3 := cell_rg (show Wq.cell? ⟨tb, tf + i * 4 + 3, none⟩ = some (.string y.sig) from rows_bel HD.out HTB.out HB.out 3 _ rfl)
      refine wp_region_quiet_below (by kernel_rfl) (by kernel_rfl) ?_
      repeat (first | go_big_quiet_skip | (go_big_quiet_want; first | (fail; go_big_quiet_on) | (go_big_quiet_op; first | go_big_quiet_on | go_big_quiet_call ((go_at_call 26; exact Calls.rg fun W _ => (HY W x.o.gate).out)))))
      refine wpQuiet_nil ?_
      intro U hp
      have hb := bel_regrown hp
      clear hp
      replace HB := Lib.hid (HB.out.trans (hb.mono HB.out.size))
      clear hb q0 q3 q6 g0 y2 o0 o3 o4 o8
      have HVK : Hid (vkE x.o.gate core y.sig = if verB x.o.gate core y.sig = true then 0 else 10) := rfl
      generalize verB x.o.gate core y.sig = vb at HVK ⊢
      cases vb with
      | true =>
        obtain rfl : me = 0 := by rw [HK.out, HVK.out]; rfl
        go_wp2_with fail
        go_ret
        exact ⟨rfl, HB.out⟩
      | false =>
        obtain rfl : me = 10 := by rw [HK.out, HVK.out]; rfl
        go_wp2_with fail
        go_ret
        exact ⟨rfl, HB.out⟩
    · rw [decide_eq_false hof] at ge
      obtain rfl : me = 13 := by rw [HME.out, if_neg hp1, if_neg hp3, if_neg hi0, if_pos hk3, if_neg hof]
      clear hp1 hp3 hk3 HME hi0 hof
      go_upto_region 4 with fail
      have r0 := cell_rg o0
      have r8 := cell_rg o8
      refine wp_region_quiet_below (by kernel_rfl) (by kernel_rfl) ?_
      repeat (first | go_big_quiet_skip | (go_big_quiet_want; first | ((refine quiet_load_row 57 (.tmp 57) rfl ab off [Value.string x0.tx, .int .i64 x0.out] HR0.out #[.string x0.tx, .int .i64 x0.out] (by rfl) (by rfl) Tryz.underlying57 infoPnt ?_; go_simp); go_big_quiet_on) | (go_big_quiet_op; first | go_big_quiet_on | go_big_quiet_call ((go_at_call 34; exact Calls.rg fun W _ => (HNM W).out)))))
      refine wpQuiet_nil ?_
      intro U0 hp
      have hb := bel_regrown hp
      clear hp
      clear r0 r8 g0 y2 o0 o3 o4 o8
      replace HT := Lib.hid (HT.out.bel hb)
      replace HB := Lib.hid (HB.out.trans (hb.mono HB.out.size))
      clear hb
      have g0 : U0.cell? ⟨g, 0, none⟩ = some (.slice (some ⟨tb, tf, none⟩) t.ins.length t.c) := ((HG.out.bel HB.out).cell 0).trans (by show some (Value.slice t.A _ _) = _; rw [HTA.out])
      have y2 : True := trivial
      have o0 : True := trivial
      have o3 : True := trivial
      have o4 : True := trivial
      have o8 : True := trivial
      rename World => Wq
      go_wp2_with fail
      go_ret
      exact ⟨rfl, HB.out⟩
  · have e1 : (x.o.kind != 3) = true := by simp [bne, beq_eq_false_iff_ne.2 hk3]
    obtain rfl : me = 13 := by rw [HME.out, if_neg hp1, if_neg hp3, if_neg hi0, if_neg hk3]
    clear hp1 hp3 hk3 HME hi0
    go_upto_region 4 with fail
    have r0 := cell_rg o0
    have r8 := cell_rg o8
    refine wp_region_quiet_below (by kernel_rfl) (by kernel_rfl) ?_
    repeat (first | go_big_quiet_skip | (go_big_quiet_want; first | ((refine quiet_load_row 57 (.tmp 57) rfl ab off [Value.string x0.tx, .int .i64 x0.out] HR0.out #[.string x0.tx, .int .i64 x0.out] (by rfl) (by rfl) Tryz.underlying57 infoPnt ?_; go_simp); go_big_quiet_on) | (go_big_quiet_op; first | go_big_quiet_on | go_big_quiet_call (fail))))
    refine wpQuiet_nil ?_
    intro U0 hp
    have hb := bel_regrown hp
    clear hp
    clear r0 r8 g0 y2 o0 o3 o4 o8
    replace HT := Lib.hid (HT.out.bel hb)
    replace HB := Lib.hid (HB.out.trans (hb.mono HB.out.size))
    clear hb
    have g0 : U0.cell? ⟨g, 0, none⟩ = some (.slice (some ⟨tb, tf, none⟩) t.ins.length t.c) := ((HG.out.bel HB.out).cell 0).trans (by show some (Value.slice t.A _ _) = _; rw [HTA.out])
    have y2 : True := trivial
    have o0 : True := trivial
    have o3 : True := trivial
    have o4 : True := trivial
    have o8 : True := trivial
    rename World => Wq
    go_wp2_with fail
    go_ret
    exact ⟨rfl, HB.out⟩
end Go.Proofs.YtjcinncphffgaaaGreat
namespace Go.Proofs.YtjcinncphffgaaaGreat
open Go.RowKit Go.Maps
def ousI (l : List Ou) : List Int := l.map fun o => (o.am : Int)
theorem ousI_snoc (l : List Ou) (k : Nat) (hk : k < l.length) : ousI (l.take (k + 1)) = ousI (l.take k) ++ [(l[k].am : Int)] := by
  unfold ousI
  rw [List.take_succ_eq_append_getElem hk, List.map_append]; rfl
theorem encA_snoc' (l : List Int) (b : Int) : encA (l ++ [b]) = encA l ++ [.int .u64 b] := by simp [encA]
set_option maxRecDepth 100000 in
set_option maxHeartbeats 2000000 in
theorem coinwhole_any (A : Option Addr) (l : List Ou) (c : Nat) (w : World) (hS : Sl w w.heap.size 9 Ou.cl A l) (hl : l.length ≤ 1000) (ha : ∀ o ∈ l, o.am < 18446744073709551616) :
    Calls Tryz.prog 52 #[.slice A l.length c] w fun e w' => e = .returned (.tuple #[.int .u64 (totV (ousI l)), .int .i64 (totE (ousI l))]) ∧ Below w.heap.size w w' := by
  obtain ⟨i0, hi, hz0, hz1, hz2⟩ := info_parts Tryz.infoU64
  have Hhz := Lib.hid hz0
  have HS := Lib.hid hS
  have HSUM := fun A c W h => Lib.hid (sum64_any A (ousI l) c W (by simp [ousI]; omega) (by
    intro x hx
    obtain ⟨e, he, rfl⟩ := List.mem_map.1 hx
    have := ha e he
    omega) h)
  have HSN := fun k h => Lib.hid (ousI_snoc l k h)
  have HTZ : Hid ((ousI l).length = l.length) := Lib.hid (by simp [ousI])
  have HTK : Hid (ousI (l.take l.length) = ousI l) := Lib.hid (by rw [List.take_length])
  clear hz0 hS ha
  go_enter Tryz.func52, Tryz.ntmps52
  go_wp2_with fail
  go_loopw [4, 9] (fun v i wr => ∃ (k : Nat) (B : Option Addr) (c : Nat), k ≤ l.length ∧ i = .int .i64 k ∧ v = .slice B k c ∧ Hid (wr.ownsRow w.heap.size 48 1 (.slice B k c) k (encA (ousI (l.take k)))) ∧ Hid (Below w.heap.size w wr)) (fun _ i _ => l.length - (intOf i).toNat)
  case atStart => exact ⟨0, none, 0, Nat.zero_le _, rfl, rfl, Lib.hid (own_nil _ _ _ _), Lib.hid (Below.refl _ _)⟩
  case round =>
    obtain ⟨k, B, cc, hk, rfl, rfl, HO, HB⟩ := hrel
    have hz := HB.out.size
    by_cases hlt : k < l.length
    · obtain ⟨ab, off, rfl, hbB, hc⟩ := (HS.out.below HB.out).at_ hlt
      have HSN1 := HSN k hlt
      generalize l[k] = x at hc HSN1
      generalize ousI (l.take k) = ff at HO HSN1
      have HCC := Lib.hid hc
      clear hc HSN
      go_wp2_with (first
        | (refine wpList_load_ou rfl (.tmp 11) rfl ab (off + k * 9) (by rfl) x HCC.out ?_)
        | (refine wpList_store_part rfl 81 (.tmp 6) (.tmp 12) rfl wr.heap.size 0 (cs := zOu.cs) (Blk.new _ _ _) x.cs x.cs (by rfl) (by rfl) (Nat.le_refl 9) infoOu9 (oucs_one x) (ouv_over x rfl) ?_; intro W1 hb1 hc1; have hb := bel_st' hc1; have HOW := Lib.hid (Ch.owns (Ch.of_below hb []) HO.out (by simp)); have g1 : W1.cell? ⟨wr.heap.size, 1, none⟩ = some (.int .u64 x.am) := hb1.cell 1; have HBW := Lib.hid (HB.out.trans (hb.mono hz)); have hzw1 : w.heap.size ≤ W1.heap.size := Nat.le_trans hz hb.size; clear hb1 hc1 hb)
        | (at_builtin; go_must (refine wpList_append_own _ rfl (.tmp 13) (.tmp 16) _ rfl w.heap.size 48 i0 _ 1 8 Tryz.underlying199 hi Hhz.out hz1 hz2 rfl (by decide) _ k _ rfl (HOW.out.alloc _) ⟨W1.heap.size, 0, none⟩ 1 1 [.int .u64 (x.am : Nat)] rfl rfl (news_alloc _ _ _ _ _ rfl rfl) (one_int _) (by simp only [maxLen]; omega) (by omega) (by simp; omega) ?_); intro v' W2 hown1 hg1 hnil1; have HO1 := Lib.hid hown1; have HB2 := Lib.hid ((HBW.out.alloc HBW.out.size _).grown hg1 (HBW.out.alloc HBW.out.size _).size (own_base HOW.out)); clear hown1 hg1 hnil1))
      obtain ⟨B3, c3, rfl⟩ := own_form HO1.out
      go_roundw
      case rel => exact ⟨k + 1, B3, c3, by omega, by go_num, rfl, Lib.hid (by rw [HSN1.out, encA_snoc']; exact HO1.out), HB2⟩
      case measure => simp [intOf]; omega
    · have hkl : k = l.length := by omega
      subst hkl
      rw [HTK.out] at HO
      have hsl := HSUM B cc wr (Sl.of_own (base := w.heap.size) (n := l.length) (c := cc) (e := 48) (fun _ => rfl) (by rw [u64_flat, HTZ.out]; exact HO.out))
      rw [HTZ.out] at hsl
      go_wp2_with fail
      refine hsl.out.mono ?_
      rintro e w6 ⟨rfl, rfl⟩
      go_wp2_with fail
      go_ret2
      exact ⟨rfl, HB.out⟩
end Go.Proofs.YtjcinncphffgaaaGreat
namespace Go.Proofs.YtjcinncphffgaaaGreat
open Go.RowKit Go.Maps
end Go.Proofs.YtjcinncphffgaaaGreat
