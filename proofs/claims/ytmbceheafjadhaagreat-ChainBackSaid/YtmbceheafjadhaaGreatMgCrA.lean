/- ChainRefuses: the walk. -/
import Derived.Outline
import Derived.Deep.RegionHeld3
import Derived.Test.YtmbceheafjadhaaGreatMgK11
import Derived.Test.YtmbceheafjadhaaGreatMgK3
set_option linter.unusedVariables false
set_option linter.unusedSimpArgs false
namespace Go.Proofs.YtmbceheafjadhaaGreat
open Go.RowKit Go.Maps
theorem good_ts {l : List Ou} (hn : newU l = true) (h8 : l.length ≤ 8) (ha : ∀ o ∈ l, o.am < 18446744073709551616 ∧ o.unit < 18446744073709551616) : TS (utN (firstB l) l) ∧ (utN (firstB l) l).length ≤ 8 := ⟨⟨tok_new hn h8 ha, utN_srtK _ _⟩, by rw [utN_len]; exact h8⟩
/-- the chain of a law, and the block that came in -/
structure CrS (w0 : World) (b : Bm) (T0 : List En) (cb : Nat) (m : CnM) (s : Cn) (w : World) : Prop where
  cn : CnAt w cb m s
  good : Good T0 s
  blk : Blk w w0.heap.size 36 b.cs
  bel : Below w0.heap.size w0 w
section
variable {w0 w w' : World} {b : Bm} {T0 : List En} {cb : Nat} {m m' : CnM} {s s' : Cn}
theorem CrS.go (h : CrS w0 b T0 cb m s w) (hb : Below w.heap.size w w') : CrS w0 b T0 cb m s w' := ⟨h.cn.bel hb, h.good, h.blk.bel hb, h.bel.trans (hb.mono h.bel.size)⟩
theorem CrS.to (h : CrS w0 b T0 cb m s w) (hc : Ch [cb] w w') (hw : w0.heap.size < cb) (hg : Good T0 s') (hk : CnAt w' cb m' s') : CrS w0 b T0 cb m' s' w' := ⟨hk, hg, h.blk.ch hc (by simp; omega), h.bel.trans (hc.below h.bel.size (by simp; omega))⟩
end
/-- a block made of no transactions can be laid behind -/
theorem good_push {T0 : List En} {s : Cn} (hs : Good T0 s) {b : Bm} {k : Bk} (hp : pushC s b.bk = 0) (ha : b.bk.al k) (hx : ∀ t ∈ b.txs, TxOk t) : Good T0 (pushS s k) := .push s k hs ((push_al (Cn.al.refl s) ha.symm).1.trans hp) (fun t ht => by
  have h := ha.txs
  obtain ⟨i, hi⟩ := List.getElem?_of_mem ht
  have hlen := h.len
  have hi' : i < k.txs.length := (List.getElem?_eq_some_iff.1 hi).1
  have h2 : b.bk.txs[i]? = some (b.bk.txs[i]'(by omega)) := List.getElem?_eq_getElem _
  exact al_ok (h.get i _ _ h2 hi) (hx _ (List.mem_of_getElem? h2)))
set_option maxRecDepth 100000 in
set_option maxHeartbeats 8000000 in
theorem crefuses_any (A0 : Option Addr) (l : List Ou) (c0 : Nat) (b : Bm) (n : Nat) (w0 : World) (hsl : Sl w0 w0.heap.size 9 Ou.cl A0 l) (hl : l.length ≤ maxLen) (ham : ∀ o ∈ l, o.am < 18446744073709551616 ∧ o.unit < 18446744073709551616) (hb : BkCame w0 b) (hn : n < 256) :
    Calls Tryz.prog 6 #[.slice A0 l.length c0, .agg b.cs, .int .u8 (n : Int)] w0 fun e w' => e = .returned (.bool true) ∧ Below w0.heap.size w0 w' := by
  have HOU := fun W (hW : Below w0.heap.size w0 W) => Lib.hid (outs11_any A0 l c0 W ((hsl.below hW).more hW.size) hl)
  have hA8 := cut_am ham 8
  have hL8 := cut_len l 8
  have HBC := Lib.hid hb
  clear hsl hl ham hb
  go_enter Tryz.func6, Tryz.ntmps6
  go_upto_region 1 with fail
  refine wp_gen fun V0 hV0 => ?_
  have HX : Hid (Blk V0 w0.heap.size 36 b.cs) := Lib.hid (by rw [hV0]; exact Blk.new _ _ _)
  have HB : Hid (Below w0.heap.size w0 V0) := Lib.hid (by rw [hV0]; exact (Below.refl _ _).alloc (Nat.le_refl _) _)
  clear hV0
  go_wp2_with fail
  refine (HOU V0 HB.out).out.mono ?_
  rintro e V1 ⟨A, c, B, d, mm, rfl, hm, hO, _, hb⟩
  generalize (l.take 8).map cutO = L at hm hO hA8 hL8
  have HSO : Hid (Sl V1 V1.heap.size 9 Ou.cl A L) := Lib.hid (Sl.of_own ouLen9 (by rw [← hm]; exact hO))
  have HL8 := Lib.hid hL8
  replace HX := Lib.hid (HX.out.bel hb)
  replace HB := Lib.hid (HB.out.trans (hb.mono HB.out.size))
  obtain rfl : mm = L.length := hm
  clear hO hL8 HOU hb
  cases hnw : newU L with
  | false =>
    go_wp2_with fail
    refine (cnew_no A L c V1 HSO.out (by have := HL8.out; omega) hnw).mono ?_
    rintro e W4 ⟨rfl, hb⟩
    replace HB := Lib.hid (HB.out.trans (hb.mono HB.out.size))
    clear hb
    go_wp2_with fail
    refine (fixed12_any _).mono ?_
    rintro e W5 ⟨rfl, hb⟩
    go_wp2_with fail
    go_ret
    exact ⟨rfl, HB.out.trans (hb.mono HB.out.size)⟩
  | true =>
    obtain ⟨hts, hT8⟩ := good_ts hnw HL8.out hA8
    have HTS := Lib.hid hts
    have HG0 := Lib.hid (Good.new (T0 := utN (firstB L) L) (firstB L) (firstB_size L))
    go_wp2_with fail
    refine (cnew_ok A L c V1 HSO.out hnw (fun o ho => (hA8 o ho).1)).mono ?_
    rintro e V2 ⟨cb, m0, rfl, hcb, hat, hb⟩
    have HCW : Hid (w0.heap.size < cb) := Lib.hid (Nat.lt_of_lt_of_le HX.out.lt hcb)
    have HF : Hid (CrS w0 b (utN (firstB L) L) cb m0 ⟨firstB L, [], utN (firstB L) L⟩ V2) := Lib.hid ⟨hat, HG0.out, HX.out.bel hb, HB.out.trans (hb.mono HB.out.size)⟩
    generalize utN (firstB L) L = T0 at HTS HF hT8
    generalize firstB L = f0 at HF
    have HT8 := Lib.hid hT8
    clear hat hb hcb hts HX HB HG0 hnw hA8 HSO HL8 hT8
    obtain ⟨r, hr⟩ : ∃ r, r = n % 4 := ⟨_, rfl⟩
    have hr4 : r < 4 := by omega
    have r1 : Int.tmod (n : Int) 4 = (r : Int) := by rw [Int.tmod_eq_emod_of_nonneg (by omega)]; omega
    have r2 : (n : Int) % 4 = (r : Int) := by omega
    have r3 : IntKind.i64.wrap (n : Int) = (n : Int) := IntWalk.i64_in _ (by omega)
    have r4 : wrap64 (n : Int) = (n : Int) := IntWalk.wrap64_in _ ⟨by omega, by omega⟩
    have r5 : IntKind.i64.wrap (r : Int) = (r : Int) := IntWalk.i64_in _ (by omega)
    have r6 : wrap64 (r : Int) = (r : Int) := IntWalk.wrap64_in _ ⟨by omega, by omega⟩
    clear hr hn
    go_wp2_with fail
    go_loopw [11] (fun i wr => ∃ (k : Nat) (s : Cn) (m : CnM), k ≤ r ∧ i = .int .i64 k ∧ s.ls.length = k ∧ Hid (CrS w0 b T0 cb m s wr)) (fun i _ => r - (intOf i).toNat)
    case atStart => exact ⟨0, _, _, Nat.zero_le _, rfl, rfl, HF⟩
    case round =>
      clear HF
      obtain ⟨k, s, m, hk, rfl, hsl, HF⟩ := hrel
      obtain ⟨hsts, hsT⟩ := HF.out.good.ts HTS.out HT8.out (by omega)
      have HST := Lib.hid hsts
      clear hsts
      by_cases hlt : k < r
      · have d0 : decide ((k : Int) < (r : Int)) = true := decide_eq_true (by omega)
        have d0' : decide (k < r) = true := decide_eq_true hlt
        go_wp2_with fail
        clear r1 r2 r3 r4 r5 r6 d0 d0'
        refine (cmake_any none [] 0 HF.out.cn HF.out.good.okk HST.out (by omega) (by omega) (Sl.nil _ _ _ _ _) (by decide) (fun t ht => by cases ht) (fun t ht => by cases ht)).mono ?_
        rintro e W1 ⟨bb, rfl, hbh, hbp, hbt, hbm, hbx, hb⟩
        replace HF := Lib.hid (HF.out.go hb)
        have HP0 : Hid (pushC s bb.bk = 0) := Lib.hid (make_push HF.out.good (by omega) [] bb.bk hbh hbp (by rw [show bb.bk.h = _ from hbh]; exact hbt))
        have HBX := Lib.hid hbx
        have HBM := Lib.hid hbm
        have hb8 : bb.txs.length ≤ 8 := (right_k (push_zero HP0.out).1).len
        clear hbh hbp hbt hbm hbx hb
        go_wp2_with fail
        refine (cpush_any bb HF.out.cn HF.out.good.okk HST.out (by omega) (by omega) HBM.out (by omega) HBX.out).mono ?_
        rintro e W2 ⟨rfl, hpr⟩
        obtain ⟨m2, kb, hal, hcn, hch⟩ := hpr.ok HP0.out
        have HF2 := Lib.hid (HF.out.to hch HCW.out (good_push HF.out.good HP0.out hal HBX.out) hcn)
        have hl2 : (pushS s kb).ls.length = k + 1 := by rw [push_len, hsl]
        clear hpr hal hcn hch HF HST HP0 HBX HBM hb8
        go_wp2_with fail
        go_roundw
        case rel => exact ⟨k + 1, _, _, by omega, by go_num, hl2, HF2⟩
        case measure => simp [intOf]; omega
      · have d0 : decide ((k : Int) < (r : Int)) = false := decide_eq_false (by omega)
        have d0' : decide (k < r) = false := decide_eq_false hlt
        have hk3 : k ≤ 3 := by omega
        clear hlt hk
        go_upto_region 9 with fail
        clear r1 r2 r3 r4 r5 r6 d0 d0'
        go_wp2_with (refine wpList_load_blk rfl 36 (.tmp 4) rfl w0.heap.size 0 3 HF.out.blk b.cs (by rfl) (bm_ext _) Tryz.underlying36 infoBk (Nat.le_refl 3) ?_)
        have hbc := HBC.out.bel HF.out.bel
        refine (bcut_any b wr hbc.sl hbc.txs hbc.len).mono ?_
        rintro e W1 ⟨x, rfl, hxm, hx9, hxx, hb⟩
        have HXM := Lib.hid hxm
        have HXX := Lib.hid hxx
        replace HF := Lib.hid (HF.out.go hb)
        clear hbc hxm hxx hb
        go_wp2_with (refine wpList_store_part rfl 36 (.tmp 12) (.tmp 53) rfl W1.heap.size 0 (cs := zBm.cs) (Blk.new _ _ _) x.cs x.cs (by rfl) (by rfl) (Nat.le_refl 3) infoBk (bmcs_one _) (bm_over _ rfl) ?_; intro W2 hb1 hc1; have hb := bel_st' hc1; have H12 := Lib.hid hb1; replace HF := Lib.hid (HF.out.go hb); replace HXM := Lib.hid (HXM.out.bel hb); clear hb1 hc1 hb)
        generalize W1.heap.size = g12 at H12 ⊢
        refine (ctip_any HF.out.cn HF.out.good.okk (by omega)).mono ?_
        rintro e W3 ⟨rfl, hb⟩
        replace HF := Lib.hid (HF.out.go hb)
        replace HXM := Lib.hid (HXM.out.bel hb)
        replace H12 := Lib.hid (H12.out.bel hb)
        clear hb
        go_wp2_with fail
        refine (cheight_any HF.out.cn).mono ?_
        rintro e W4 ⟨rfl, hq⟩
        rw [hq]; clear hq W4
        go_wp2_with (refine wpList_load_blk rfl 36 (.tmp 12) rfl g12 0 3 H12.out x.cs (by rfl) (bm_ext _) Tryz.underlying36 infoBk (Nat.le_refl 3) ?_)
        refine (cpush_any x HF.out.cn HF.out.good.okk HST.out (by omega) (by omega) HXM.out (by omega) HXX.out).mono ?_
        rintro e W5 ⟨rfl, hpr⟩
        have hlw : wrap64 ((s.ls.length : Int) + 1) = (s.ls.length : Int) + 1 := IntWalk.wrap64_in _ ⟨by omega, by omega⟩
        have hg12 : g12 ≠ cb := H12.out.ne_ HF.out.cn.hd (by decide)
        have htq : ((tipC s).toList == (tipC s).toList) = true := by simp
        by_cases hp0 : pushC s x.bk = 0
        · obtain ⟨m2, kb, hal, hcn, hch⟩ := hpr.ok hp0
          have hright := (push_zero hp0).1
          have hh1 : x.h = (s.ls.length : Int) + 1 := (push_zero hp0).2.1
          have hpv : x.prev = tipC s := (push_zero hp0).2.2.1
          have HH1 := Lib.hid hh1
          have HPV := Lib.hid hpv
          rw [hp0]
          replace H12 := Lib.hid (H12.out.ch hch (by simpa using hg12))
          replace HXM := Lib.hid (HXM.out.cn HF.out.cn.hd hch)
          have HF2 := Lib.hid (HF.out.to hch HCW.out (good_push HF.out.good hp0 hal HXX.out) hcn)
          have HRI := Lib.hid (bright_gen x W5 HXM.out (by omega) (fun t ht => (HXX.out t ht).sm))
          rw [hright] at HRI
          have hl2 : ((pushS s kb).ls.length : Int) = (s.ls.length : Int) + 1 := by rw [push_len]; simp
          have HL2 := Lib.hid hl2
          clear hal hcn hch hright hh1 hpv hp0 hpr HF hl2
          go_wp2_with (refine wpList_load_blk rfl 36 (.tmp 12) rfl g12 0 3 H12.out x.cs (by rfl) (bm_ext _) Tryz.underlying36 infoBk (Nat.le_refl 3) ?_)
          refine HRI.out.mono ?_
          rintro e W6 ⟨rfl, hb⟩
          replace HF2 := Lib.hid (HF2.out.go hb)
          replace H12 := Lib.hid (H12.out.bel hb)
          have x0 : W6.cell? ⟨g12, 0, none⟩ = some (.int .i64 ((s.ls.length : Int) + 1)) := (H12.out.cell 0).trans (by rw [← HH1.out]; rfl)
          have x1 : W6.cell? ⟨g12, 1, none⟩ = some (.string (tipC s)) := (H12.out.cell 1).trans (by rw [← HPV.out]; rfl)
          clear hb HRI
          go_wp2_with fail
          refine (cheight_any HF2.out.cn).mono ?_
          rintro e W7 ⟨rfl, hq⟩
          rw [hq, HL2.out]; clear hq W7
          go_wp2_with fail
          refine (fixed12_any _).mono ?_
          rintro e W8 ⟨rfl, hb⟩
          go_wp2_with fail
          go_ret
          exact ⟨rfl, HF2.out.bel.trans (hb.mono HF2.out.bel.size)⟩
        · have hb := hpr.no hp0
          replace HF := Lib.hid (HF.out.go hb)
          replace HXM := Lib.hid (HXM.out.bel hb)
          replace H12 := Lib.hid (H12.out.bel hb)
          have HRI := Lib.hid (bright_gen x W5 HXM.out (by omega) (fun t ht => (HXX.out t ht).sm))
          clear hb hpr
          cases hri : rightK x.bk with
          | false =>
            rw [hri] at HRI
            rw [push_left hri]
            clear hp0
            go_wp2_with (refine wpList_load_blk rfl 36 (.tmp 12) rfl g12 0 3 H12.out x.cs (by rfl) (bm_ext _) Tryz.underlying36 infoBk (Nat.le_refl 3) ?_)
            refine HRI.out.mono ?_
            rintro e W6 ⟨rfl, hb⟩
            replace HF := Lib.hid (HF.out.go hb)
            clear hb HRI
            go_wp2_with fail
            refine (ctip_any HF.out.cn HF.out.good.okk (by omega)).mono ?_
            rintro e W7 ⟨rfl, hb⟩
            replace HF := Lib.hid (HF.out.go hb)
            clear hb
            go_wp2_with fail
            refine (cheight_any HF.out.cn).mono ?_
            rintro e W8 ⟨rfl, hq⟩
            rw [hq]; clear hq W8
            go_wp2_with fail
            refine (fixed12_any _).mono ?_
            rintro e W9 ⟨rfl, hb⟩
            go_wp2_with fail
            go_ret
            exact ⟨rfl, HF.out.bel.trans (hb.mono HF.out.bel.size)⟩
          | true =>
            rw [hri] at HRI
            by_cases hh1 : x.h = (s.ls.length : Int) + 1
            rotate_left
            · rw [push_rule hri (.inl hh1)]
              have e0 : (x.h != (s.ls.length : Int) + 1) = true := by simpa [bne_iff_ne] using hh1
              clear hp0
              go_wp2_with (refine wpList_load_blk rfl 36 (.tmp 12) rfl g12 0 3 H12.out x.cs (by rfl) (bm_ext _) Tryz.underlying36 infoBk (Nat.le_refl 3) ?_)
              refine HRI.out.mono ?_
              rintro e W6 ⟨rfl, hb⟩
              replace HF := Lib.hid (HF.out.go hb)
              replace H12 := Lib.hid (H12.out.bel hb)
              have x0 : W6.cell? ⟨g12, 0, none⟩ = some (.int .i64 x.h) := H12.out.cell 0
              have x1 : W6.cell? ⟨g12, 1, none⟩ = some (.string x.prev) := H12.out.cell 1
              clear hb HRI
              go_wp2_with fail
              go_wp2_with fail
              refine (ctip_any HF.out.cn HF.out.good.okk (by omega)).mono ?_
              rintro e W7 ⟨rfl, hb⟩
              replace HF := Lib.hid (HF.out.go hb)
              clear hb
              go_wp2_with fail
              refine (cheight_any HF.out.cn).mono ?_
              rintro e W8 ⟨rfl, hq⟩
              rw [hq]; clear hq W8
              go_wp2_with fail
              refine (fixed12_any _).mono ?_
              rintro e W9 ⟨rfl, hb⟩
              go_wp2_with fail
              go_ret
              exact ⟨rfl, HF.out.bel.trans (hb.mono HF.out.bel.size)⟩
            have e0 : (x.h != (s.ls.length : Int) + 1) = false := by simpa using hh1
            by_cases hpv : x.prev = tipC s
            rotate_left
            · rw [push_rule hri (.inr hpv)]
              have e1 : (x.prev.toList == (tipC s).toList) = false := by rw [toList_beq, decide_eq_false hpv]
              clear hp0
              go_wp2_with (refine wpList_load_blk rfl 36 (.tmp 12) rfl g12 0 3 H12.out x.cs (by rfl) (bm_ext _) Tryz.underlying36 infoBk (Nat.le_refl 3) ?_)
              refine HRI.out.mono ?_
              rintro e W6 ⟨rfl, hb⟩
              replace HF := Lib.hid (HF.out.go hb)
              replace H12 := Lib.hid (H12.out.bel hb)
              have x0 : W6.cell? ⟨g12, 0, none⟩ = some (.int .i64 x.h) := H12.out.cell 0
              have x1 : W6.cell? ⟨g12, 1, none⟩ = some (.string x.prev) := H12.out.cell 1
              clear hb HRI
              go_wp2_with fail
              go_wp2_with fail
              refine (ctip_any HF.out.cn HF.out.good.okk (by omega)).mono ?_
              rintro e W7 ⟨rfl, hb⟩
              replace HF := Lib.hid (HF.out.go hb)
              clear hb
              go_wp2_with fail
              refine (cheight_any HF.out.cn).mono ?_
              rintro e W8 ⟨rfl, hq⟩
              rw [hq]; clear hq W8
              go_wp2_with fail
              refine (fixed12_any _).mono ?_
              rintro e W9 ⟨rfl, hb⟩
              go_wp2_with fail
              go_ret
              exact ⟨rfl, HF.out.bel.trans (hb.mono HF.out.bel.size)⟩
            have e1 : (x.prev.toList == (tipC s).toList) = true := by rw [toList_beq, decide_eq_true hpv]
            have e2 : (pushC s x.bk == 0) = false := beq_eq_false_iff_ne.2 hp0
            have e3 : ((k : Int) == (k : Int) + 1) = false := beq_eq_false_iff_ne.2 (by omega)
            generalize pushC s x.bk = pc at e2 ⊢
            clear hp0
            go_wp2_with (refine wpList_load_blk rfl 36 (.tmp 12) rfl g12 0 3 H12.out x.cs (by rfl) (bm_ext _) Tryz.underlying36 infoBk (Nat.le_refl 3) ?_)
            refine HRI.out.mono ?_
            rintro e W6 ⟨rfl, hb⟩
            replace HF := Lib.hid (HF.out.go hb)
            replace H12 := Lib.hid (H12.out.bel hb)
            have x0 : W6.cell? ⟨g12, 0, none⟩ = some (.int .i64 x.h) := H12.out.cell 0
            have x1 : W6.cell? ⟨g12, 1, none⟩ = some (.string x.prev) := H12.out.cell 1
            clear hb HRI
            go_wp2_with fail
            refine (cheight_any HF.out.cn).mono ?_
            rintro e W7 ⟨rfl, hq⟩
            rw [hq]; clear hq W7
            go_wp2_with fail
            refine (fixed12_any _).mono ?_
            rintro e W8 ⟨rfl, hb⟩
            go_wp2_with fail
            go_ret
            exact ⟨rfl, HF.out.bel.trans (hb.mono HF.out.bel.size)⟩
end Go.Proofs.YtmbceheafjadhaaGreat
