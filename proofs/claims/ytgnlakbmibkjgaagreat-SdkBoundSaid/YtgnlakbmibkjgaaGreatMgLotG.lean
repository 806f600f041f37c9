/- lottery.Book.Make, made. -/
import Derived.Outline
import Derived.Deep.RegionHeld3
import Derived.Deep.AppendLies
import Derived.Deep.Onto
import Derived.Test.YtgnlakbmibkjgaaGreatMgClmB
import Derived.Test.YtgnlakbmibkjgaaGreatMgLotF
set_option linter.unusedVariables false
set_option linter.unusedSimpArgs false
namespace Go.Proofs.YtgnlakbmibkjgaaGreat
open Go.RowKit Go.Maps
theorem addr_lt {w : World} {b o : Nat} {v : Value} (h : w.cell? ⟨b, o, none⟩ = some v) : b < w.heap.size := by
  unfold World.cell? at h
  cases hb : w.heap[b]? with
  | none => rw [hb] at h; cases h
  | some ob => exact (Array.getElem?_eq_some_iff.1 hb).1
theorem bookC_set2 (ch client : ByteArray) (next next' : Nat) (A : Option Addr) (n c : Nat) : (bookC ch client next A n c).setIfInBounds 2 (.int .u64 (next' : Int)) = bookC ch client next' A n c := by simp [bookC]
theorem bookC_set3 (ch client : ByteArray) (next : Nat) (A A' : Option Addr) (n c n' c' : Nat) : (bookC ch client next A n c).setIfInBounds 3 (.slice A' n' c') = bookC ch client next A' n' c' := by simp [bookC]
theorem Sl.chB {w w' : World} {B b next n c : Nat} {ch client : ByteArray} {A : Option Addr} {A' : Option Addr} {l : List Of} (hS : Sl w B 9 Of.cl A l) (hb : Blk w b 202 (bookC ch client next A' n c)) (hc : Ch [b] w w') : Sl w' B 9 Of.cl A l := fun hn => by
  obtain ⟨ab, off, e, hB, hcell⟩ := hS hn
  refine ⟨ab, off, e, hB, fun i x hx j u hu => ?_⟩
  have h8 := hcell i x hx 8 (.bool x.taken) rfl
  have hne : ab ≠ b := by
    rintro rfl
    rw [hb.cell, Array.getElem?_eq_none (by show 4 ≤ _; omega)] at h8
    cases h8
  have hj := hcell i x hx j u hu
  have hlt : ab < w.heap.size := (addr_lt hj)
  have hblk := hc.block ab hlt (by simpa using hne)
  have e2 : w'.cell? ⟨ab, off + i * 9 + j, none⟩ = w.cell? ⟨ab, off + i * 9 + j, none⟩ := by unfold World.cell?; rw [hblk]
  rw [e2]; exact hj
/-- a book whose offers lie in a row of its own -/
def BookOwn (w : World) (base b : Nat) (ch client : ByteArray) (next : Nat) (l : List Of) : Prop :=
  ∃ A c, Blk w b 202 (bookC ch client next A l.length c) ∧ w.ownsRow base 51 9 (.slice A l.length c) l.length (l.flatMap Of.cl)
theorem BookOwn.at_ {w : World} {base b next : Nat} {ch client : ByteArray} {l : List Of} (h : BookOwn w base b ch client next l) : BookAt w b ch client next l := by
  obtain ⟨A, c, h1, h2⟩ := h
  exact ⟨A, c, h1, Sl.of_own (base := base) (n := l.length) (c := c) (e := 51) ofcl_len h2, fun hA => by subst hA; exact own_noneC h2⟩
theorem mk_book {w : World} {b next cap gg base base' : Nat} {ch client : ByteArray} {l : List Of} {om : Of} (hb : Blk w b 202 (bookC ch client next (some ⟨gg, 0, none⟩) (l.length + 1) cap)) (hbs : base ≤ base') (ho : w.ownsRow base' 51 9 (.slice (some ⟨gg, 0, none⟩) (l.length + 1) cap) (l.length + 1) (l.flatMap Of.cl ++ om.cl)) : BookOwn w base b ch client next (l ++ [om]) := by
  have hl : (l ++ [om]).length = l.length + 1 := by simp
  have hf : (l ++ [om]).flatMap Of.cl = l.flatMap Of.cl ++ om.cl := by simp
  exact ⟨some ⟨gg, 0, none⟩, cap, by rw [hl]; exact hb, by rw [hl, hf]; exact ho.mono hbs⟩
set_option maxRecDepth 100000 in
set_option maxHeartbeats 2000000 in
theorem make_ok (b next : Nat) (ch client salt : ByteArray) (l : List Of) (face wins many raw : Nat) (v : World) (h : BookAt v b ch client next l) (hl : l.length ≤ 1000) (hf : ∀ o ∈ l, o.face < 18446744073709551616)
    (h0 : 0 < face) (hface : face < 18446744073709551616) (hm1 : 1 ≤ many) (hm2 : many ≤ 4294967296) (hw : wins ≤ many) (hz : face * wins % many = 0) (hs : salt.size ≤ 32) (hr : raw ≤ topV many) (hfull : roomN l face = 0) (hnx : next < 9223372036854775807) :
    Calls Tryz.prog 32 #[.pointer (some ⟨b, 0, none⟩), .int .u64 face, .int .u64 wins, .int .u64 many, .string salt, .int .u64 raw] v fun e w' => e = .returned (.tuple #[.agg (mkO ch salt next face wins many raw).cs, .int .i64 0]) ∧ BookOwn w' v.heap.size b ch client (next + 1) (l ++ [mkO ch salt next face wins many raw]) ∧ Ch [b] v w' := by
  have HN := fun W => Lib.hid (nominal_any face wins many W hface hm1 hm2 hw hz)
  have HFA := fun W => Lib.hid (fair_ok raw many W hm1 hm2 hr)
  have HRM := fun W hW => Lib.hid (lroom_any b next ch client l face W hW hl hf hface)
  have hdm : raw % many < many := Nat.mod_lt _ (by omega)
  have HCM := fun W => Lib.hid (commit_any salt (raw % many) W (by omega) (by omega))
  have HK := Lib.hid h
  have d32 : decide ((32 : Int) < (salt.size : Int)) = false := decide_eq_false (by omega)
  have d0 : ((face : Int) == 0) = false := beq_eq_false_iff_ne.2 (by omega)
  rw [hfull] at HRM
  obtain ⟨A, c, hb, hS, hA⟩ := h
  have hbl : b < v.heap.size := hb.lt
  have HO : Hid (mkO ch salt next face wins many raw = ⟨ch, next, face, wins, many, comB salt (raw % many), salt, raw % many, false⟩) := rfl
  generalize mkO ch salt next face wins many raw = om at HO ⊢
  generalize comB salt (raw % many) = com at HCM HO
  generalize raw % many = dr at HFA HCM HO hdm
  have HBK := Lib.hid hb
  have HBV := Lib.hid hb
  have HSL := Lib.hid hS
  have HAN := Lib.hid hA
  clear hf h0 hm1 hw hz hs hr hfull hface hb hS hA
  go_enter Tryz.func32, Tryz.ntmps32
  go_wp2_with fail
  refine (HN _).out.mono ?_
  rintro e w1 ⟨rfl, rfl⟩
  go_wp2_with fail
  refine (HFA _).out.mono ?_
  rintro e w2 ⟨rfl, rfl⟩
  have hR : Hid (Blk (v.alloc (.cells zOf 51)) v.heap.size 51 zOf) := Blk.new _ _ _
  have HB : Hid (Below v.heap.size v (v.alloc (.cells zOf 51))) := (Below.refl _ _).alloc (Nat.le_refl _) _
  go_wp2_with fail
  refine (HRM _ (HK.out.bel HB.out)).out.mono ?_
  rintro e V ⟨rfl, hb⟩
  replace hR := Lib.hid (hR.out.bel hb)
  replace HB := Lib.hid (HB.out.trans (hb.mono HB.out.size))
  replace HBK := Lib.hid (HBK.out.bel HB.out)
  clear hb HK HRM HFA HN
  go_wp2_with fail
  refine wp_region_held_drew (S := fun W => Hid (W.cell? ⟨b, 0, none⟩ = some (.string ch) ∧ W.cell? ⟨b, 2, none⟩ = some (.int .u64 next))) (by kernel_rfl) (Lib.hid ⟨Blk.cell (HBK.out.drewN 1) 0, Blk.cell (HBK.out.drewN 1) 2⟩) (fun hS => ?_)
  refine wpAnyH_take (i := 0) (v := ?_) rfl (by kernel_rfl) (by kernel_rfl) (by kernel_rfl) (fun _ _ _ h => h) (Or.inl ⟨by rfl, ?_⟩) hS ?_
  rotate_left
  · (intro w _; go_simp; try with_reducible rfl)
  refine wpAnyH_take (i := 1) (v := ?_) rfl (by kernel_rfl) (by kernel_rfl) (by kernel_rfl) (fun _ _ _ h => h) (Or.inl ⟨by rfl, ?_⟩) hS ?_
  rotate_left
  · (intro w _; go_simp; try with_reducible rfl)
  refine wpAnyH_take (i := 2) (v := ?_) rfl (by kernel_rfl) (by kernel_rfl) (by kernel_rfl) (fun _ _ _ h => h) (Or.inl ⟨by rfl, ?_⟩) hS ?_
  rotate_left
  · (intro w _; go_simp; try with_reducible rfl)
  refine wpAnyH_take (i := 3) (v := ?_) rfl (by kernel_rfl) (by kernel_rfl) (by kernel_rfl) (fun _ _ _ h => h) (Or.inl ⟨by rfl, ?_⟩) hS ?_
  rotate_left
  · (intro w hS'; have hcell := hS'.out.1; go_simp; try with_reducible rfl)
  refine wpAnyH_take (i := 4) (v := ?_) rfl (by kernel_rfl) (by kernel_rfl) (by kernel_rfl) (fun _ _ _ h => h) (Or.inl ⟨by rfl, ?_⟩) hS ?_
  rotate_left
  · (intro w _; go_simp; try with_reducible rfl)
  refine wpAnyH_take (i := 5) (v := ?_) rfl (by kernel_rfl) (by kernel_rfl) (by kernel_rfl) (fun _ _ _ h => h) (Or.inl ⟨by rfl, ?_⟩) hS ?_
  rotate_left
  · (intro w _; go_simp; try with_reducible rfl)
  refine wpAnyH_take (i := 6) (v := ?_) rfl (by kernel_rfl) (by kernel_rfl) (by kernel_rfl) (fun _ _ _ h => h) (Or.inl ⟨by rfl, ?_⟩) hS ?_
  rotate_left
  · (intro w _; go_simp; try with_reducible rfl)
  refine wpAnyH_take (i := 7) (v := ?_) rfl (by kernel_rfl) (by kernel_rfl) (by kernel_rfl) (fun _ _ _ h => h) (Or.inl ⟨by rfl, ?_⟩) hS ?_
  rotate_left
  · (intro w hS'; have hcell := hS'.out.2; go_simp; try with_reducible rfl)
  refine wpAnyH_take (i := 8) (v := ?_) rfl (by kernel_rfl) (by kernel_rfl) (by kernel_rfl) (fun _ _ _ h => h) (Or.inl ⟨by rfl, ?_⟩) hS ?_
  rotate_left
  · (intro w _; go_simp; try with_reducible rfl)
  refine wpAnyH_take (i := 9) (v := ?_) rfl (by kernel_rfl) (by kernel_rfl) (by kernel_rfl) (fun _ _ _ h => h) (Or.inl ⟨by rfl, ?_⟩) hS ?_
  rotate_left
  · (intro w _; go_simp; try with_reducible rfl)
  refine wpAnyH_take (i := 10) (v := ?_) rfl (by kernel_rfl) (by kernel_rfl) (by kernel_rfl) (fun _ _ _ h => h) (Or.inl ⟨by rfl, ?_⟩) hS ?_
  rotate_left
  · (intro w _; go_simp; try with_reducible rfl)
  refine wpAnyH_take (i := 11) (v := ?_) rfl (by kernel_rfl) (by kernel_rfl) (by kernel_rfl) (fun _ _ _ h => h) (Or.inl ⟨by rfl, ?_⟩) hS ?_
  rotate_left
  · (intro w _; go_simp; try with_reducible rfl)
  refine wpAnyH_take (i := 12) (v := ?_) rfl (by kernel_rfl) (by kernel_rfl) (by kernel_rfl) (fun _ _ _ h => h) (Or.inl ⟨by rfl, ?_⟩) hS ?_
  rotate_left
  · (intro w _; go_simp; try with_reducible rfl)
  refine wpAnyH_take (i := 14) (v := ?_) rfl (by kernel_rfl) (by kernel_rfl) (by kernel_rfl) (fun _ _ _ h => h) (Or.inl ⟨by rfl, ?_⟩) hS ?_
  rotate_left
  · (intro w _; go_simp; try with_reducible rfl)
  refine wpAnyH_take (i := 15) (v := ?_) rfl (by kernel_rfl) (by kernel_rfl) (by kernel_rfl) (fun _ _ _ h => h) (Or.inl ⟨by rfl, ?_⟩) hS ?_
  rotate_left
  · (intro w _; go_simp; try with_reducible rfl)
  refine wpAnyH_ready (rs := [13, 17]) (by kernel_rfl) (by simp) (AllReadyH.cons rfl (fun K hK => ?_) (AllReadyH.cons rfl (fun K hK => ?_) AllReadyH.nil))
  · go_simp
    refine (HCM _).out.mono ?_
    rintro e W ⟨rfl, hb⟩
    replace hR := Lib.hid (Blk.bel (hR.out.drewN 1) hb)
    replace HBK := Lib.hid (Blk.bel (HBK.out.drewN 1) hb)
    replace HB := Lib.hid (HB.out.drew.trans (hb.mono HB.out.drew.size))
    clear hb
    go_simp
    refine hK.out _ _ (Lib.hid ⟨Blk.cell HBK.out 0, Blk.cell HBK.out 2⟩) (fun hS2 => ?_)
    clear hK K
    refine wpAnyH_take (i := 16) (v := ?_) rfl (by kernel_rfl) (by kernel_rfl) (by kernel_rfl) (fun _ _ _ h => h) (Or.inl ⟨by rfl, ?_⟩) hS2 ?_
    rotate_left
    · (intro w _; go_simp; try with_reducible rfl)
    refine wpAnyH_ready (rs := [17]) (by kernel_rfl) (by simp) (AllReadyH.cons rfl (fun K hK => ?_) AllReadyH.nil)
    go_simp
    have hVW : v.heap.size < W.heap.size := hR.out.lt
    have HG0 : Hid (Blk (W.alloc (.cells zOf 51)) W.heap.size 51 zOf) := Blk.new _ _ _
    have HG := HG0
    replace HB := Lib.hid (HB.out.alloc HB.out.size (.cells zOf 51))
    replace hR := Lib.hid (hR.out.alloc (.cells zOf 51))
    replace HBK := Lib.hid (HBK.out.alloc (.cells zOf 51))
    refine hK.out _ _ (Lib.hid ⟨Blk.cell HBK.out 0, Blk.cell HBK.out 2⟩) (fun hS3 => ?_)
    clear hK K hS2
    refine wpAnyH_ready (rs := [18]) (by kernel_rfl) (by simp) (AllReadyH.cons rfl (fun K hK => ?_) AllReadyH.nil)
    refine step_store_part (by rfl) 51 (.tmp 19) (.tmp 77) (by rfl) (W.heap.size) 0 HG.out om.cs om.cs (by rfl) (by rw [HO.out]; rfl) (Nat.le_refl 9) infoOffer (ofcs_one om) (ofcs_over zOf om rfl) ?_
    intro W2 hb2 hc2
    replace HG := Lib.hid hb2
    have hgb : b ≠ W.heap.size := HBK.out.ne_ HG0.out (by decide)
    replace HBK := Lib.hid (Blk.ch HBK.out hc2 (by simpa using hgb))
    replace hR := Lib.hid (Blk.ch hR.out hc2 (by simp <;> omega))
    replace HB := Lib.hid (HB.out.trans (hc2.below HB.out.size (by simp <;> omega)))
    clear hb2 hc2 HG0
    refine hK.out _ _ (Lib.hid ⟨Blk.cell HBK.out 0, Blk.cell HBK.out 2⟩) (fun _ => ?_)
    clear hK K
    refine wpAnyH_done (by kernel_rfl) ?_ _
    have u2 : W2.cell? ⟨b, 2, none⟩ = some (.int .u64 next) := HBK.out.cell 2
    have z2 : W2.frozen? ⟨b, 2, none⟩ = false := HBK.out.frozen 2
    go_wp2_with fail
    clear u2 z2
    refine wp_gen fun W3 hW3 => ?_
    have HC3 : Hid (Ch [b] v W3) := Lib.hid (by rw [hW3]; exact (Ch.of_below HB.out [b]).trans (Ch.set_ (by simp) _ _ _))
    have HSL3 : Hid (Sl W3 W3.heap.size 9 Of.cl A l) := Lib.hid ((Sl.chB HSL.out HBV.out HC3.out).more HC3.out.size)
    have HBK3 : Hid (Blk W3 b 202 (bookC ch client (next + 1) A l.length c)) := Lib.hid (by rw [hW3]; have q := HBK.out.set_ 2 (.int .u64 ((next + 1 : Nat) : Int)); rw [bookC_set2] at q; exact q)
    replace HG : Hid (Blk W3 (W.heap.size) 51 om.cs) := Lib.hid (by rw [hW3]; exact HG.out.far (Ne.symm hgb) _)
    replace hR : Hid (Blk W3 v.heap.size 51 zOf) := Lib.hid (by rw [hW3]; exact hR.out.far (by simp <;> omega) _)
    have hz3 := HC3.out.size
    clear hW3 HBK HB HSL HCM
    generalize (W.heap.size) = g at HG hgb ⊢
    replace HBK3 : Hid (Blk W3.drew b 202 (bookC ch client (next + 1) A l.length c)) := Lib.hid (HBK3.out.drewN 1)
    replace hR : Hid (Blk W3.drew v.heap.size 51 zOf) := Lib.hid (hR.out.drewN 1)
    replace HC3 : Hid (Ch [b] v W3.drew) := Lib.hid (HC3.out.trans (Ch.drewN _ _ 1))
    replace HSL3 : Hid (Sl W3.drew W3.heap.size 9 Of.cl A l) := Lib.hid (HSL3.out.drewN 1)
    refine wp_region_held_drew (S := fun W => Hid (Blk W g 51 om.cs)) (by kernel_rfl) (Lib.hid (HG.out.drewN 1)) (fun hS => ?_)
    replace HG : Hid (Blk W3.drew g 51 om.cs) := Lib.hid (HG.out.drewN 1)
    refine wpAnyH_take (i := 0) (v := ?_) rfl (by kernel_rfl) (by kernel_rfl) (by kernel_rfl) (fun _ _ _ h => h) (Or.inl ⟨by rfl, ?_⟩) hS ?_
    rotate_left
    · (intro w _; go_simp; try with_reducible rfl)
    refine wpAnyH_take (i := 1) (v := ?_) rfl (by kernel_rfl) (by kernel_rfl) (by kernel_rfl) (fun _ _ _ h => h) (Or.inl ⟨by rfl, ?_⟩) hS ?_
    rotate_left
    · (intro w _; go_simp; try with_reducible rfl)
    refine wpAnyH_take (i := 2) (v := ?_) rfl (by kernel_rfl) (by kernel_rfl) (by kernel_rfl) (fun _ _ _ h => h) (Or.inl ⟨by rfl, ?_⟩) hS ?_
    rotate_left
    · (intro w _; go_simp; try with_reducible rfl)
    refine wpAnyH_take (i := 3) (v := ?_) rfl (by kernel_rfl) (by kernel_rfl) (by kernel_rfl) (fun _ _ _ h => h) (Or.inl ⟨by rfl, ?_⟩) hS ?_
    rotate_left
    · (intro w _; go_simp; try with_reducible rfl)
    refine wpAnyH_take (i := 6) (v := .agg #[.string om.ch, .int .u64 (om.ser : Nat), .int .u64 (om.face : Nat), .int .u64 (om.wins : Nat), .int .u64 (om.many : Nat), .string om.com, .string om.salt, .int .u64 (om.drawn : Nat), .bool om.taken]) rfl (by kernel_rfl) (by kernel_rfl) (by kernel_rfl) (fun _ _ _ h => h) (yields_blk (by rfl) 51 (.tmp 19) (by rfl) g 0 9 (t := 51) (cs := om.cs) (fun W h => h.out) om.cs (by rfl) (by rfl) Tryz.underlying51 infoOffer (Nat.le_refl 9)) hS ?_
    refine wpAnyH_gen fun X hX => ?_
    rw [← hX] at HBK3 hR HC3 HSL3 HG
    have HZ3 : Hid (W3.heap.size ≤ X.heap.size) := Lib.hid (by rw [hX]; exact Nat.le_refl _)
    have hRl : v.heap.size < X.heap.size := hR.out.lt
    have hBl : b < v.heap.size := HBV.out.lt
    have HBX : Hid (Below X.heap.size X X) := Below.refl _ _
    obtain ⟨i0, hi, hz0, hz1, hz2⟩ := info_parts Tryz.infoOf9'
    have Hhz := Lib.hid hz0
    clear hX hz0 hS
    refine wpAnyH_ready (rs := [4, 7]) (by kernel_rfl) (by simp) (AllReadyH.cons rfl (fun K hK => ?_) (AllReadyH.cons rfl (fun K hK => ?_) AllReadyH.nil))
    · have u3 : X.cell? ⟨b, 3, none⟩ = some (.slice A l.length c) := HBK3.out.cell 3
      go_simp
      refine hK.out _ _ HG (fun _ => ?_)
      clear hK K u3
      refine wpAnyH_ready (rs := [5, 7]) (by kernel_rfl) (by simp) (AllReadyH.cons rfl (fun K hK => ?_) (AllReadyH.cons rfl (fun K hK => ?_) AllReadyH.nil))
      · go_simp
        refine (clone_of A l c _ (((HSL3.out.more HZ3.out).below HBX.out).more HBX.out.size) hl HAN.out).mono ?_
        rintro e X2 ⟨A2, c2, rfl, hO, hA2, hbl⟩
        replace HBX := Lib.hid (HBX.out.trans (hbl.mono HBX.out.size))
        have HBC := Lib.hid hbl
        have HCS := Lib.hid hbl.size
        have HO2 := Lib.hid hO
        clear hO hA2 hbl
        go_simp
        refine hK.out _ _ (Lib.hid (HG.out.bel HBX.out)) (fun _ => ?_)
        clear hK K
        refine wpAnyH_ready (rs := [7]) (by kernel_rfl) (by simp) (AllReadyH.cons rfl (fun K hK => ?_) AllReadyH.nil)
        have HO3 := Lib.hid (HO2.out.alloc (.cells om.cs 51))
        go_simp
        replace HBX := Lib.hid (HBX.out.alloc HBX.out.size (.cells om.cs 51))
        have HNB : Hid (Blk (X2.alloc (.cells om.cs 51)) X2.heap.size 51 om.cs) := Blk.new _ _ _
        refine hK.out _ _ (Lib.hid (HG.out.bel HBX.out)) (fun _ => ?_)
        clear hK K
        refine wpAnyH_gen fun X1 hX1 => ?_
        replace hX1 : X1 = X2.alloc (.cells om.cs 51) := hX1
        rw [← hX1] at HBX HNB
        try rw [← hX1] at HO3
        have hz1' : X1.heap.size = X2.heap.size + 1 := by rw [hX1]; simp
        clear hX1
        have hzz : X.heap.size ≤ X1.heap.size := HBX.out.size
        first | (replace HNB := Lib.hid (HNB.out.bel HBC.out)) | skip
        have HNW := Lib.hid (World.news_of_block HNB.out)
        refine wpAnyH_ready (rs := [8]) (by kernel_rfl) (by simp) (AllReadyH.cons rfl (fun K hK => ?_) AllReadyH.nil)
        refine step_append_lies _ (by rfl) (.tmp 90) (.tmp 92) 122 (by rfl) (X.heap.size) 51 i0 _ 9 96 Tryz.underlying122 hi Hhz.out hz1 hz2 rfl (by omega) (.slice A2 l.length c2) l.length _ (by rfl) HO3.out ⟨X2.heap.size, 0, none⟩ 1 1 om.cl (by rfl) (by rfl) HNW.out (ofcl_one om) (by omega) (by simp only [maxLen]; omega) (by omega) hzz _ rfl ?_
        intro gg cap W4 hown4 hgrow hat hlt4
        have hbase := own_base HO3.out
        have HO4 := Lib.hid hown4
        have hgg : X.heap.size ≤ gg := Nat.le_trans (by omega) (own_base hown4 gg rfl)
        replace HBX := Lib.hid (HBX.out.grown hgrow HBX.out.size (fun j hj => Nat.le_trans (by omega) (hbase j hj)))
        have HBK4 := Lib.hid (HBK3.out.bel HBX.out)
        clear hown4 hgrow hat hlt4 hbase HO3 HO2 HNB HNW
        have HG4 := Lib.hid (HG.out.bel HBX.out)
        refine hK.out _ _ HG4 (fun hS => ?_)
        clear hK K
        refine wpAnyH_take (i := 9) (v := ?_) rfl (by kernel_rfl) (by kernel_rfl) (by kernel_rfl) (fun _ _ _ h => h) (Or.inl ⟨by rfl, ?_⟩) hS ?_
        rotate_left
        · (intro w _; go_simp; try with_reducible rfl)
        refine wpAnyH_take (i := 10) (v := ?_) rfl (by kernel_rfl) (by kernel_rfl) (by kernel_rfl) (fun _ _ _ h => h) (Or.inl ⟨by rfl, ?_⟩) hS ?_
        rotate_left
        · (intro w _; go_simp; try with_reducible rfl)
        refine wpAnyH_ready (rs := [11]) (by kernel_rfl) (by simp) (AllReadyH.cons rfl (fun K hK => ?_) AllReadyH.nil)
        have u3 : W4.cell? ⟨b, 3, none⟩ = some (.slice A l.length c) := HBK4.out.cell 3
        have z3 : W4.frozen? ⟨b, 3, none⟩ = false := HBK4.out.frozen 3
        go_simp
        refine hK.out _ _ (Lib.hid (HG4.out.far (p := ⟨b, 3, none⟩) (Ne.symm hgb) _)) (fun _ => ?_)
        clear hK K u3 z3 hS
        have hR5 : Hid (Blk (W4.setCell ⟨b, 3, none⟩ (.slice (some ⟨gg, 0, none⟩) (l.length + 1) cap)) v.heap.size 51 zOf) := Lib.hid ((hR.out.bel HBX.out).far (by simp <;> omega) _)
        have HG5 : Hid (Blk (W4.setCell ⟨b, 3, none⟩ (.slice (some ⟨gg, 0, none⟩) (l.length + 1) cap)) g 51 om.cs) := Lib.hid (HG4.out.far (p := ⟨b, 3, none⟩) (Ne.symm hgb) _)
        have HBK5 : Hid (Blk (W4.setCell ⟨b, 3, none⟩ (.slice (some ⟨gg, 0, none⟩) (l.length + 1) cap)) b 202 (bookC ch client (next + 1) (some ⟨gg, 0, none⟩) (l.length + 1) cap)) := Lib.hid (by have q := HBK4.out.set_ 3 (.slice (some ⟨gg, 0, none⟩) (l.length + 1) cap); rw [bookC_set3] at q; exact q)
        have HC5 : Hid (Ch [b] v (W4.setCell ⟨b, 3, none⟩ (.slice (some ⟨gg, 0, none⟩) (l.length + 1) cap))) := Lib.hid ((HC3.out.trans (Ch.of_below HBX.out [b])).trans (Ch.set_ (b := b) (by simp) _ _ _))
        have HO5 := Lib.hid (Ch.owns (Ch.set_ (S := [b]) (b := b) (by simp) W4 3 (.slice (some ⟨gg, 0, none⟩) (l.length + 1) cap)) HO4.out (by intro q hq; simp [Value.ownBlock] at hq; subst hq; simp; omega))
        generalize W4.setCell ⟨b, 3, none⟩ (.slice (some ⟨gg, 0, none⟩) (l.length + 1) cap) = W5 at hR5 HG5 HBK5 HC5 HO5 ⊢
        refine wpAnyH_done (by kernel_rfl) ?_ _
        clear HBK4 HG4 HO4
        go_wp2_with (first
          | (refine wpList_load_blk rfl 51 (.tmp 19) rfl g 0 9 HG5.out om.cs (by rfl) (by rfl) Tryz.underlying51 infoOffer (Nat.le_refl 9) ?_)
          | (refine wpList_store_part rfl 51 (.tmp 12) (.tmp 96) rfl v.heap.size 0 hR5.out om.cs om.cs (by rfl) (by rfl) (Nat.le_refl 9) infoOffer (ofcs_one om) (ofcs_over zOf om rfl) ?_; intro W6 hb6 hc6; have HB6 := Lib.hid hb6; have HC6 := Lib.hid hc6; clear hb6 hc6))
        exact bodyPost_ret (results_cell_row2 rfl _ HB6.out rfl Tryz.underlying51 infoOffer) rfl ⟨rfl, mk_book (HBK5.out.ch HC6.out (by simp; omega)) (by omega) (Ch.owns HC6.out HO5.out (by intro q hq; simp [Value.ownBlock] at hq; subst hq; simp; omega)), ((HC5.out.mono (S' := [b, v.heap.size]) (by simp)).trans (HC6.out.mono (S' := [b, v.heap.size]) (by simp))).mono (by simp <;> omega)⟩
      · go_simp
        replace HBX := Lib.hid (HBX.out.alloc HBX.out.size (.cells om.cs 51))
        have HNB : Hid (Blk (X.alloc (.cells om.cs 51)) X.heap.size 51 om.cs) := Blk.new _ _ _
        refine hK.out _ _ (Lib.hid (HG.out.bel HBX.out)) (fun _ => ?_)
        clear hK K
        refine wpAnyH_gen fun X1 hX1 => ?_
        replace hX1 : X1 = X.alloc (.cells om.cs 51) := hX1
        rw [← hX1] at HBX HNB
        try rw [← hX1] at HO3
        have hz1' : X1.heap.size = X.heap.size + 1 := by rw [hX1]; simp
        clear hX1
        refine wpAnyH_ready (rs := [5]) (by kernel_rfl) (by simp) (AllReadyH.cons rfl (fun K hK => ?_) AllReadyH.nil)
        go_simp
        refine (clone_of A l c _ (((HSL3.out.more HZ3.out).below HBX.out).more HBX.out.size) hl HAN.out).mono ?_
        rintro e X2 ⟨A2, c2, rfl, hO, hA2, hbl⟩
        replace HBX := Lib.hid (HBX.out.trans (hbl.mono HBX.out.size))
        have HBC := Lib.hid hbl
        have HCS := Lib.hid hbl.size
        have HO2 := Lib.hid hO
        clear hO hA2 hbl
        go_simp
        refine hK.out _ _ (Lib.hid (HG.out.bel HBX.out)) (fun _ => ?_)
        clear hK K
        have HO3 := HO2
        have hzz : X1.heap.size ≤ X2.heap.size := HCS.out
        first | (replace HNB := Lib.hid (HNB.out.bel HBC.out)) | skip
        have HNW := Lib.hid (World.news_of_block HNB.out)
        refine wpAnyH_ready (rs := [8]) (by kernel_rfl) (by simp) (AllReadyH.cons rfl (fun K hK => ?_) AllReadyH.nil)
        refine step_append_lies _ (by rfl) (.tmp 90) (.tmp 92) 122 (by rfl) (X1.heap.size) 51 i0 _ 9 96 Tryz.underlying122 hi Hhz.out hz1 hz2 rfl (by omega) (.slice A2 l.length c2) l.length _ (by rfl) HO3.out ⟨X.heap.size, 0, none⟩ 1 1 om.cl (by rfl) (by rfl) HNW.out (ofcl_one om) (by omega) (by simp only [maxLen]; omega) (by omega) hzz _ rfl ?_
        intro gg cap W4 hown4 hgrow hat hlt4
        have hbase := own_base HO3.out
        have HO4 := Lib.hid hown4
        have hgg : X.heap.size ≤ gg := Nat.le_trans (by omega) (own_base hown4 gg rfl)
        replace HBX := Lib.hid (HBX.out.grown hgrow HBX.out.size (fun j hj => Nat.le_trans (by omega) (hbase j hj)))
        have HBK4 := Lib.hid (HBK3.out.bel HBX.out)
        clear hown4 hgrow hat hlt4 hbase HO3 HO2 HNB HNW
        have HG4 := Lib.hid (HG.out.bel HBX.out)
        refine hK.out _ _ HG4 (fun hS => ?_)
        clear hK K
        refine wpAnyH_take (i := 9) (v := ?_) rfl (by kernel_rfl) (by kernel_rfl) (by kernel_rfl) (fun _ _ _ h => h) (Or.inl ⟨by rfl, ?_⟩) hS ?_
        rotate_left
        · (intro w _; go_simp; try with_reducible rfl)
        refine wpAnyH_take (i := 10) (v := ?_) rfl (by kernel_rfl) (by kernel_rfl) (by kernel_rfl) (fun _ _ _ h => h) (Or.inl ⟨by rfl, ?_⟩) hS ?_
        rotate_left
        · (intro w _; go_simp; try with_reducible rfl)
        refine wpAnyH_ready (rs := [11]) (by kernel_rfl) (by simp) (AllReadyH.cons rfl (fun K hK => ?_) AllReadyH.nil)
        have u3 : W4.cell? ⟨b, 3, none⟩ = some (.slice A l.length c) := HBK4.out.cell 3
        have z3 : W4.frozen? ⟨b, 3, none⟩ = false := HBK4.out.frozen 3
        go_simp
        refine hK.out _ _ (Lib.hid (HG4.out.far (p := ⟨b, 3, none⟩) (Ne.symm hgb) _)) (fun _ => ?_)
        clear hK K u3 z3 hS
        have hR5 : Hid (Blk (W4.setCell ⟨b, 3, none⟩ (.slice (some ⟨gg, 0, none⟩) (l.length + 1) cap)) v.heap.size 51 zOf) := Lib.hid ((hR.out.bel HBX.out).far (by simp <;> omega) _)
        have HG5 : Hid (Blk (W4.setCell ⟨b, 3, none⟩ (.slice (some ⟨gg, 0, none⟩) (l.length + 1) cap)) g 51 om.cs) := Lib.hid (HG4.out.far (p := ⟨b, 3, none⟩) (Ne.symm hgb) _)
        have HBK5 : Hid (Blk (W4.setCell ⟨b, 3, none⟩ (.slice (some ⟨gg, 0, none⟩) (l.length + 1) cap)) b 202 (bookC ch client (next + 1) (some ⟨gg, 0, none⟩) (l.length + 1) cap)) := Lib.hid (by have q := HBK4.out.set_ 3 (.slice (some ⟨gg, 0, none⟩) (l.length + 1) cap); rw [bookC_set3] at q; exact q)
        have HC5 : Hid (Ch [b] v (W4.setCell ⟨b, 3, none⟩ (.slice (some ⟨gg, 0, none⟩) (l.length + 1) cap))) := Lib.hid ((HC3.out.trans (Ch.of_below HBX.out [b])).trans (Ch.set_ (b := b) (by simp) _ _ _))
        have HO5 := Lib.hid (Ch.owns (Ch.set_ (S := [b]) (b := b) (by simp) W4 3 (.slice (some ⟨gg, 0, none⟩) (l.length + 1) cap)) HO4.out (by intro q hq; simp [Value.ownBlock] at hq; subst hq; simp; omega))
        generalize W4.setCell ⟨b, 3, none⟩ (.slice (some ⟨gg, 0, none⟩) (l.length + 1) cap) = W5 at hR5 HG5 HBK5 HC5 HO5 ⊢
        refine wpAnyH_done (by kernel_rfl) ?_ _
        clear HBK4 HG4 HO4
        go_wp2_with (first
          | (refine wpList_load_blk rfl 51 (.tmp 19) rfl g 0 9 HG5.out om.cs (by rfl) (by rfl) Tryz.underlying51 infoOffer (Nat.le_refl 9) ?_)
          | (refine wpList_store_part rfl 51 (.tmp 12) (.tmp 96) rfl v.heap.size 0 hR5.out om.cs om.cs (by rfl) (by rfl) (Nat.le_refl 9) infoOffer (ofcs_one om) (ofcs_over zOf om rfl) ?_; intro W6 hb6 hc6; have HB6 := Lib.hid hb6; have HC6 := Lib.hid hc6; clear hb6 hc6))
        exact bodyPost_ret (results_cell_row2 rfl _ HB6.out rfl Tryz.underlying51 infoOffer) rfl ⟨rfl, mk_book (HBK5.out.ch HC6.out (by simp; omega)) (by omega) (Ch.owns HC6.out HO5.out (by intro q hq; simp [Value.ownBlock] at hq; subst hq; simp; omega)), ((HC5.out.mono (S' := [b, v.heap.size]) (by simp)).trans (HC6.out.mono (S' := [b, v.heap.size]) (by simp))).mono (by simp <;> omega)⟩
    · go_simp
      replace HBX := Lib.hid (HBX.out.alloc HBX.out.size (.cells om.cs 51))
      have HNB : Hid (Blk (X.alloc (.cells om.cs 51)) X.heap.size 51 om.cs) := Blk.new _ _ _
      refine hK.out _ _ (Lib.hid (HG.out.bel HBX.out)) (fun _ => ?_)
      clear hK K
      refine wpAnyH_gen fun X1 hX1 => ?_
      replace hX1 : X1 = X.alloc (.cells om.cs 51) := hX1
      rw [← hX1] at HBX HNB
      try rw [← hX1] at HO3
      have hz1' : X1.heap.size = X.heap.size + 1 := by rw [hX1]; simp
      clear hX1
      have u3 : X1.cell? ⟨b, 3, none⟩ = some (.slice A l.length c) := (HBK3.out.bel HBX.out).cell 3
      refine wpAnyH_ready (rs := [4]) (by kernel_rfl) (by simp) (AllReadyH.cons rfl (fun K hK => ?_) AllReadyH.nil)
      go_simp
      refine hK.out _ _ (Lib.hid (HG.out.bel HBX.out)) (fun _ => ?_)
      clear hK K u3
      refine wpAnyH_ready (rs := [5]) (by kernel_rfl) (by simp) (AllReadyH.cons rfl (fun K hK => ?_) AllReadyH.nil)
      go_simp
      refine (clone_of A l c _ (((HSL3.out.more HZ3.out).below HBX.out).more HBX.out.size) hl HAN.out).mono ?_
      rintro e X2 ⟨A2, c2, rfl, hO, hA2, hbl⟩
      replace HBX := Lib.hid (HBX.out.trans (hbl.mono HBX.out.size))
      have HBC := Lib.hid hbl
      have HCS := Lib.hid hbl.size
      have HO2 := Lib.hid hO
      clear hO hA2 hbl
      go_simp
      refine hK.out _ _ (Lib.hid (HG.out.bel HBX.out)) (fun _ => ?_)
      clear hK K
      have HO3 := HO2
      have hzz : X1.heap.size ≤ X2.heap.size := HCS.out
      first | (replace HNB := Lib.hid (HNB.out.bel HBC.out)) | skip
      have HNW := Lib.hid (World.news_of_block HNB.out)
      refine wpAnyH_ready (rs := [8]) (by kernel_rfl) (by simp) (AllReadyH.cons rfl (fun K hK => ?_) AllReadyH.nil)
      refine step_append_lies _ (by rfl) (.tmp 90) (.tmp 92) 122 (by rfl) (X1.heap.size) 51 i0 _ 9 96 Tryz.underlying122 hi Hhz.out hz1 hz2 rfl (by omega) (.slice A2 l.length c2) l.length _ (by rfl) HO3.out ⟨X.heap.size, 0, none⟩ 1 1 om.cl (by rfl) (by rfl) HNW.out (ofcl_one om) (by omega) (by simp only [maxLen]; omega) (by omega) hzz _ rfl ?_
      intro gg cap W4 hown4 hgrow hat hlt4
      have hbase := own_base HO3.out
      have HO4 := Lib.hid hown4
      have hgg : X.heap.size ≤ gg := Nat.le_trans (by omega) (own_base hown4 gg rfl)
      replace HBX := Lib.hid (HBX.out.grown hgrow HBX.out.size (fun j hj => Nat.le_trans (by omega) (hbase j hj)))
      have HBK4 := Lib.hid (HBK3.out.bel HBX.out)
      clear hown4 hgrow hat hlt4 hbase HO3 HO2 HNB HNW
      have HG4 := Lib.hid (HG.out.bel HBX.out)
      refine hK.out _ _ HG4 (fun hS => ?_)
      clear hK K
      refine wpAnyH_take (i := 9) (v := ?_) rfl (by kernel_rfl) (by kernel_rfl) (by kernel_rfl) (fun _ _ _ h => h) (Or.inl ⟨by rfl, ?_⟩) hS ?_
      rotate_left
      · (intro w _; go_simp; try with_reducible rfl)
      refine wpAnyH_take (i := 10) (v := ?_) rfl (by kernel_rfl) (by kernel_rfl) (by kernel_rfl) (fun _ _ _ h => h) (Or.inl ⟨by rfl, ?_⟩) hS ?_
      rotate_left
      · (intro w _; go_simp; try with_reducible rfl)
      refine wpAnyH_ready (rs := [11]) (by kernel_rfl) (by simp) (AllReadyH.cons rfl (fun K hK => ?_) AllReadyH.nil)
      have u3 : W4.cell? ⟨b, 3, none⟩ = some (.slice A l.length c) := HBK4.out.cell 3
      have z3 : W4.frozen? ⟨b, 3, none⟩ = false := HBK4.out.frozen 3
      go_simp
      refine hK.out _ _ (Lib.hid (HG4.out.far (p := ⟨b, 3, none⟩) (Ne.symm hgb) _)) (fun _ => ?_)
      clear hK K u3 z3 hS
      have hR5 : Hid (Blk (W4.setCell ⟨b, 3, none⟩ (.slice (some ⟨gg, 0, none⟩) (l.length + 1) cap)) v.heap.size 51 zOf) := Lib.hid ((hR.out.bel HBX.out).far (by simp <;> omega) _)
      have HG5 : Hid (Blk (W4.setCell ⟨b, 3, none⟩ (.slice (some ⟨gg, 0, none⟩) (l.length + 1) cap)) g 51 om.cs) := Lib.hid (HG4.out.far (p := ⟨b, 3, none⟩) (Ne.symm hgb) _)
      have HBK5 : Hid (Blk (W4.setCell ⟨b, 3, none⟩ (.slice (some ⟨gg, 0, none⟩) (l.length + 1) cap)) b 202 (bookC ch client (next + 1) (some ⟨gg, 0, none⟩) (l.length + 1) cap)) := Lib.hid (by have q := HBK4.out.set_ 3 (.slice (some ⟨gg, 0, none⟩) (l.length + 1) cap); rw [bookC_set3] at q; exact q)
      have HC5 : Hid (Ch [b] v (W4.setCell ⟨b, 3, none⟩ (.slice (some ⟨gg, 0, none⟩) (l.length + 1) cap))) := Lib.hid ((HC3.out.trans (Ch.of_below HBX.out [b])).trans (Ch.set_ (b := b) (by simp) _ _ _))
      have HO5 := Lib.hid (Ch.owns (Ch.set_ (S := [b]) (b := b) (by simp) W4 3 (.slice (some ⟨gg, 0, none⟩) (l.length + 1) cap)) HO4.out (by intro q hq; simp [Value.ownBlock] at hq; subst hq; simp; omega))
      generalize W4.setCell ⟨b, 3, none⟩ (.slice (some ⟨gg, 0, none⟩) (l.length + 1) cap) = W5 at hR5 HG5 HBK5 HC5 HO5 ⊢
      refine wpAnyH_done (by kernel_rfl) ?_ _
      clear HBK4 HG4 HO4
      go_wp2_with (first
        | (refine wpList_load_blk rfl 51 (.tmp 19) rfl g 0 9 HG5.out om.cs (by rfl) (by rfl) Tryz.underlying51 infoOffer (Nat.le_refl 9) ?_)
        | (refine wpList_store_part rfl 51 (.tmp 12) (.tmp 96) rfl v.heap.size 0 hR5.out om.cs om.cs (by rfl) (by rfl) (Nat.le_refl 9) infoOffer (ofcs_one om) (ofcs_over zOf om rfl) ?_; intro W6 hb6 hc6; have HB6 := Lib.hid hb6; have HC6 := Lib.hid hc6; clear hb6 hc6))
      exact bodyPost_ret (results_cell_row2 rfl _ HB6.out rfl Tryz.underlying51 infoOffer) rfl ⟨rfl, mk_book (HBK5.out.ch HC6.out (by simp; omega)) (by omega) (Ch.owns HC6.out HO5.out (by intro q hq; simp [Value.ownBlock] at hq; subst hq; simp; omega)), ((HC5.out.mono (S' := [b, v.heap.size]) (by simp)).trans (HC6.out.mono (S' := [b, v.heap.size]) (by simp))).mono (by simp <;> omega)⟩
  · go_simp
    have hVV : v.heap.size < V.heap.size := hR.out.lt
    have HG0' : Hid (Blk ((V.alloc (.cells zOf 51)).drew) V.heap.size 51 zOf) := Blk.new V _ _
    replace HB : Hid (Below v.heap.size v ((V.alloc (.cells zOf 51)).drew)) := (HB.out.alloc HB.out.size (.cells zOf 51)).drew
    replace hR : Hid (Blk ((V.alloc (.cells zOf 51)).drew) v.heap.size 51 zOf) := hR.out.alloc (.cells zOf 51)
    replace HBK : Hid (Blk ((V.alloc (.cells zOf 51)).drew) b 202 (bookC ch client next A l.length c)) := HBK.out.alloc (.cells zOf 51)
    refine hK.out _ _ (Lib.hid ⟨Blk.cell HBK.out 0, Blk.cell HBK.out 2⟩) (fun hS3 => ?_)
    clear hK K
    refine wpAnyH_ready (rs := [13]) (by kernel_rfl) (by simp) (AllReadyH.cons rfl (fun K hK => ?_) AllReadyH.nil)
    go_simp
    refine (HCM _).out.mono ?_
    rintro e W ⟨rfl, hb⟩
    replace hR := Lib.hid (Blk.bel hR.out hb)
    replace HBK := Lib.hid (Blk.bel HBK.out hb)
    have HG0 := Lib.hid (Blk.bel HG0'.out hb)
    replace HB := Lib.hid (HB.out.trans (hb.mono HB.out.size))
    clear hb HG0'
    have HG := HG0
    go_simp
    refine hK.out _ _ (Lib.hid ⟨Blk.cell HBK.out 0, Blk.cell HBK.out 2⟩) (fun hS4 => ?_)
    clear hK K hS3
    refine wpAnyH_take (i := 16) (v := ?_) rfl (by kernel_rfl) (by kernel_rfl) (by kernel_rfl) (fun _ _ _ h => h) (Or.inl ⟨by rfl, ?_⟩) hS4 ?_
    rotate_left
    · (intro w _; go_simp; try with_reducible rfl)
    refine wpAnyH_ready (rs := [18]) (by kernel_rfl) (by simp) (AllReadyH.cons rfl (fun K hK => ?_) AllReadyH.nil)
    refine step_store_part (by rfl) 51 (.tmp 19) (.tmp 77) (by rfl) (V.heap.size) 0 HG.out om.cs om.cs (by rfl) (by rw [HO.out]; rfl) (Nat.le_refl 9) infoOffer (ofcs_one om) (ofcs_over zOf om rfl) ?_
    intro W2 hb2 hc2
    replace HG := Lib.hid hb2
    have hgb : b ≠ V.heap.size := HBK.out.ne_ HG0.out (by decide)
    replace HBK := Lib.hid (Blk.ch HBK.out hc2 (by simpa using hgb))
    replace hR := Lib.hid (Blk.ch hR.out hc2 (by simp <;> omega))
    replace HB := Lib.hid (HB.out.trans (hc2.below HB.out.size (by simp <;> omega)))
    clear hb2 hc2 HG0
    refine hK.out _ _ (Lib.hid ⟨Blk.cell HBK.out 0, Blk.cell HBK.out 2⟩) (fun _ => ?_)
    clear hK K
    refine wpAnyH_done (by kernel_rfl) ?_ _
    have u2 : W2.cell? ⟨b, 2, none⟩ = some (.int .u64 next) := HBK.out.cell 2
    have z2 : W2.frozen? ⟨b, 2, none⟩ = false := HBK.out.frozen 2
    go_wp2_with fail
    clear u2 z2
    refine wp_gen fun W3 hW3 => ?_
    have HC3 : Hid (Ch [b] v W3) := Lib.hid (by rw [hW3]; exact (Ch.of_below HB.out [b]).trans (Ch.set_ (by simp) _ _ _))
    have HSL3 : Hid (Sl W3 W3.heap.size 9 Of.cl A l) := Lib.hid ((Sl.chB HSL.out HBV.out HC3.out).more HC3.out.size)
    have HBK3 : Hid (Blk W3 b 202 (bookC ch client (next + 1) A l.length c)) := Lib.hid (by rw [hW3]; have q := HBK.out.set_ 2 (.int .u64 ((next + 1 : Nat) : Int)); rw [bookC_set2] at q; exact q)
    replace HG : Hid (Blk W3 (V.heap.size) 51 om.cs) := Lib.hid (by rw [hW3]; exact HG.out.far (Ne.symm hgb) _)
    replace hR : Hid (Blk W3 v.heap.size 51 zOf) := Lib.hid (by rw [hW3]; exact hR.out.far (by simp <;> omega) _)
    have hz3 := HC3.out.size
    clear hW3 HBK HB HSL HCM
    generalize (V.heap.size) = g at HG hgb ⊢
    replace HBK3 : Hid (Blk W3.drew b 202 (bookC ch client (next + 1) A l.length c)) := Lib.hid (HBK3.out.drewN 1)
    replace hR : Hid (Blk W3.drew v.heap.size 51 zOf) := Lib.hid (hR.out.drewN 1)
    replace HC3 : Hid (Ch [b] v W3.drew) := Lib.hid (HC3.out.trans (Ch.drewN _ _ 1))
    replace HSL3 : Hid (Sl W3.drew W3.heap.size 9 Of.cl A l) := Lib.hid (HSL3.out.drewN 1)
    refine wp_region_held_drew (S := fun W => Hid (Blk W g 51 om.cs)) (by kernel_rfl) (Lib.hid (HG.out.drewN 1)) (fun hS => ?_)
    replace HG : Hid (Blk W3.drew g 51 om.cs) := Lib.hid (HG.out.drewN 1)
    refine wpAnyH_take (i := 0) (v := ?_) rfl (by kernel_rfl) (by kernel_rfl) (by kernel_rfl) (fun _ _ _ h => h) (Or.inl ⟨by rfl, ?_⟩) hS ?_
    rotate_left
    · (intro w _; go_simp; try with_reducible rfl)
    refine wpAnyH_take (i := 1) (v := ?_) rfl (by kernel_rfl) (by kernel_rfl) (by kernel_rfl) (fun _ _ _ h => h) (Or.inl ⟨by rfl, ?_⟩) hS ?_
    rotate_left
    · (intro w _; go_simp; try with_reducible rfl)
    refine wpAnyH_take (i := 2) (v := ?_) rfl (by kernel_rfl) (by kernel_rfl) (by kernel_rfl) (fun _ _ _ h => h) (Or.inl ⟨by rfl, ?_⟩) hS ?_
    rotate_left
    · (intro w _; go_simp; try with_reducible rfl)
    refine wpAnyH_take (i := 3) (v := ?_) rfl (by kernel_rfl) (by kernel_rfl) (by kernel_rfl) (fun _ _ _ h => h) (Or.inl ⟨by rfl, ?_⟩) hS ?_
    rotate_left
    · (intro w _; go_simp; try with_reducible rfl)
    refine wpAnyH_take (i := 6) (v := .agg #[.string om.ch, .int .u64 (om.ser : Nat), .int .u64 (om.face : Nat), .int .u64 (om.wins : Nat), .int .u64 (om.many : Nat), .string om.com, .string om.salt, .int .u64 (om.drawn : Nat), .bool om.taken]) rfl (by kernel_rfl) (by kernel_rfl) (by kernel_rfl) (fun _ _ _ h => h) (yields_blk (by rfl) 51 (.tmp 19) (by rfl) g 0 9 (t := 51) (cs := om.cs) (fun W h => h.out) om.cs (by rfl) (by rfl) Tryz.underlying51 infoOffer (Nat.le_refl 9)) hS ?_
    refine wpAnyH_gen fun X hX => ?_
    rw [← hX] at HBK3 hR HC3 HSL3 HG
    have HZ3 : Hid (W3.heap.size ≤ X.heap.size) := Lib.hid (by rw [hX]; exact Nat.le_refl _)
    have hRl : v.heap.size < X.heap.size := hR.out.lt
    have hBl : b < v.heap.size := HBV.out.lt
    have HBX : Hid (Below X.heap.size X X) := Below.refl _ _
    obtain ⟨i0, hi, hz0, hz1, hz2⟩ := info_parts Tryz.infoOf9'
    have Hhz := Lib.hid hz0
    clear hX hz0 hS
    refine wpAnyH_ready (rs := [4, 7]) (by kernel_rfl) (by simp) (AllReadyH.cons rfl (fun K hK => ?_) (AllReadyH.cons rfl (fun K hK => ?_) AllReadyH.nil))
    · have u3 : X.cell? ⟨b, 3, none⟩ = some (.slice A l.length c) := HBK3.out.cell 3
      go_simp
      refine hK.out _ _ HG (fun _ => ?_)
      clear hK K u3
      refine wpAnyH_ready (rs := [5, 7]) (by kernel_rfl) (by simp) (AllReadyH.cons rfl (fun K hK => ?_) (AllReadyH.cons rfl (fun K hK => ?_) AllReadyH.nil))
      · go_simp
        refine (clone_of A l c _ (((HSL3.out.more HZ3.out).below HBX.out).more HBX.out.size) hl HAN.out).mono ?_
        rintro e X2 ⟨A2, c2, rfl, hO, hA2, hbl⟩
        replace HBX := Lib.hid (HBX.out.trans (hbl.mono HBX.out.size))
        have HBC := Lib.hid hbl
        have HCS := Lib.hid hbl.size
        have HO2 := Lib.hid hO
        clear hO hA2 hbl
        go_simp
        refine hK.out _ _ (Lib.hid (HG.out.bel HBX.out)) (fun _ => ?_)
        clear hK K
        refine wpAnyH_ready (rs := [7]) (by kernel_rfl) (by simp) (AllReadyH.cons rfl (fun K hK => ?_) AllReadyH.nil)
        have HO3 := Lib.hid (HO2.out.alloc (.cells om.cs 51))
        go_simp
        replace HBX := Lib.hid (HBX.out.alloc HBX.out.size (.cells om.cs 51))
        have HNB : Hid (Blk (X2.alloc (.cells om.cs 51)) X2.heap.size 51 om.cs) := Blk.new _ _ _
        refine hK.out _ _ (Lib.hid (HG.out.bel HBX.out)) (fun _ => ?_)
        clear hK K
        refine wpAnyH_gen fun X1 hX1 => ?_
        replace hX1 : X1 = X2.alloc (.cells om.cs 51) := hX1
        rw [← hX1] at HBX HNB
        try rw [← hX1] at HO3
        have hz1' : X1.heap.size = X2.heap.size + 1 := by rw [hX1]; simp
        clear hX1
        have hzz : X.heap.size ≤ X1.heap.size := HBX.out.size
        first | (replace HNB := Lib.hid (HNB.out.bel HBC.out)) | skip
        have HNW := Lib.hid (World.news_of_block HNB.out)
        refine wpAnyH_ready (rs := [8]) (by kernel_rfl) (by simp) (AllReadyH.cons rfl (fun K hK => ?_) AllReadyH.nil)
        refine step_append_lies _ (by rfl) (.tmp 90) (.tmp 92) 122 (by rfl) (X.heap.size) 51 i0 _ 9 96 Tryz.underlying122 hi Hhz.out hz1 hz2 rfl (by omega) (.slice A2 l.length c2) l.length _ (by rfl) HO3.out ⟨X2.heap.size, 0, none⟩ 1 1 om.cl (by rfl) (by rfl) HNW.out (ofcl_one om) (by omega) (by simp only [maxLen]; omega) (by omega) hzz _ rfl ?_
        intro gg cap W4 hown4 hgrow hat hlt4
        have hbase := own_base HO3.out
        have HO4 := Lib.hid hown4
        have hgg : X.heap.size ≤ gg := Nat.le_trans (by omega) (own_base hown4 gg rfl)
        replace HBX := Lib.hid (HBX.out.grown hgrow HBX.out.size (fun j hj => Nat.le_trans (by omega) (hbase j hj)))
        have HBK4 := Lib.hid (HBK3.out.bel HBX.out)
        clear hown4 hgrow hat hlt4 hbase HO3 HO2 HNB HNW
        have HG4 := Lib.hid (HG.out.bel HBX.out)
        refine hK.out _ _ HG4 (fun hS => ?_)
        clear hK K
        refine wpAnyH_take (i := 9) (v := ?_) rfl (by kernel_rfl) (by kernel_rfl) (by kernel_rfl) (fun _ _ _ h => h) (Or.inl ⟨by rfl, ?_⟩) hS ?_
        rotate_left
        · (intro w _; go_simp; try with_reducible rfl)
        refine wpAnyH_take (i := 10) (v := ?_) rfl (by kernel_rfl) (by kernel_rfl) (by kernel_rfl) (fun _ _ _ h => h) (Or.inl ⟨by rfl, ?_⟩) hS ?_
        rotate_left
        · (intro w _; go_simp; try with_reducible rfl)
        refine wpAnyH_ready (rs := [11]) (by kernel_rfl) (by simp) (AllReadyH.cons rfl (fun K hK => ?_) AllReadyH.nil)
        have u3 : W4.cell? ⟨b, 3, none⟩ = some (.slice A l.length c) := HBK4.out.cell 3
        have z3 : W4.frozen? ⟨b, 3, none⟩ = false := HBK4.out.frozen 3
        go_simp
        refine hK.out _ _ (Lib.hid (HG4.out.far (p := ⟨b, 3, none⟩) (Ne.symm hgb) _)) (fun _ => ?_)
        clear hK K u3 z3 hS
        have hR5 : Hid (Blk (W4.setCell ⟨b, 3, none⟩ (.slice (some ⟨gg, 0, none⟩) (l.length + 1) cap)) v.heap.size 51 zOf) := Lib.hid ((hR.out.bel HBX.out).far (by simp <;> omega) _)
        have HG5 : Hid (Blk (W4.setCell ⟨b, 3, none⟩ (.slice (some ⟨gg, 0, none⟩) (l.length + 1) cap)) g 51 om.cs) := Lib.hid (HG4.out.far (p := ⟨b, 3, none⟩) (Ne.symm hgb) _)
        have HBK5 : Hid (Blk (W4.setCell ⟨b, 3, none⟩ (.slice (some ⟨gg, 0, none⟩) (l.length + 1) cap)) b 202 (bookC ch client (next + 1) (some ⟨gg, 0, none⟩) (l.length + 1) cap)) := Lib.hid (by have q := HBK4.out.set_ 3 (.slice (some ⟨gg, 0, none⟩) (l.length + 1) cap); rw [bookC_set3] at q; exact q)
        have HC5 : Hid (Ch [b] v (W4.setCell ⟨b, 3, none⟩ (.slice (some ⟨gg, 0, none⟩) (l.length + 1) cap))) := Lib.hid ((HC3.out.trans (Ch.of_below HBX.out [b])).trans (Ch.set_ (b := b) (by simp) _ _ _))
        have HO5 := Lib.hid (Ch.owns (Ch.set_ (S := [b]) (b := b) (by simp) W4 3 (.slice (some ⟨gg, 0, none⟩) (l.length + 1) cap)) HO4.out (by intro q hq; simp [Value.ownBlock] at hq; subst hq; simp; omega))
        generalize W4.setCell ⟨b, 3, none⟩ (.slice (some ⟨gg, 0, none⟩) (l.length + 1) cap) = W5 at hR5 HG5 HBK5 HC5 HO5 ⊢
        refine wpAnyH_done (by kernel_rfl) ?_ _
        clear HBK4 HG4 HO4
        go_wp2_with (first
          | (refine wpList_load_blk rfl 51 (.tmp 19) rfl g 0 9 HG5.out om.cs (by rfl) (by rfl) Tryz.underlying51 infoOffer (Nat.le_refl 9) ?_)
          | (refine wpList_store_part rfl 51 (.tmp 12) (.tmp 96) rfl v.heap.size 0 hR5.out om.cs om.cs (by rfl) (by rfl) (Nat.le_refl 9) infoOffer (ofcs_one om) (ofcs_over zOf om rfl) ?_; intro W6 hb6 hc6; have HB6 := Lib.hid hb6; have HC6 := Lib.hid hc6; clear hb6 hc6))
        exact bodyPost_ret (results_cell_row2 rfl _ HB6.out rfl Tryz.underlying51 infoOffer) rfl ⟨rfl, mk_book (HBK5.out.ch HC6.out (by simp; omega)) (by omega) (Ch.owns HC6.out HO5.out (by intro q hq; simp [Value.ownBlock] at hq; subst hq; simp; omega)), ((HC5.out.mono (S' := [b, v.heap.size]) (by simp)).trans (HC6.out.mono (S' := [b, v.heap.size]) (by simp))).mono (by simp <;> omega)⟩
      · go_simp
        replace HBX := Lib.hid (HBX.out.alloc HBX.out.size (.cells om.cs 51))
        have HNB : Hid (Blk (X.alloc (.cells om.cs 51)) X.heap.size 51 om.cs) := Blk.new _ _ _
        refine hK.out _ _ (Lib.hid (HG.out.bel HBX.out)) (fun _ => ?_)
        clear hK K
        refine wpAnyH_gen fun X1 hX1 => ?_
        replace hX1 : X1 = X.alloc (.cells om.cs 51) := hX1
        rw [← hX1] at HBX HNB
        try rw [← hX1] at HO3
        have hz1' : X1.heap.size = X.heap.size + 1 := by rw [hX1]; simp
        clear hX1
        refine wpAnyH_ready (rs := [5]) (by kernel_rfl) (by simp) (AllReadyH.cons rfl (fun K hK => ?_) AllReadyH.nil)
        go_simp
        refine (clone_of A l c _ (((HSL3.out.more HZ3.out).below HBX.out).more HBX.out.size) hl HAN.out).mono ?_
        rintro e X2 ⟨A2, c2, rfl, hO, hA2, hbl⟩
        replace HBX := Lib.hid (HBX.out.trans (hbl.mono HBX.out.size))
        have HBC := Lib.hid hbl
        have HCS := Lib.hid hbl.size
        have HO2 := Lib.hid hO
        clear hO hA2 hbl
        go_simp
        refine hK.out _ _ (Lib.hid (HG.out.bel HBX.out)) (fun _ => ?_)
        clear hK K
        have HO3 := HO2
        have hzz : X1.heap.size ≤ X2.heap.size := HCS.out
        first | (replace HNB := Lib.hid (HNB.out.bel HBC.out)) | skip
        have HNW := Lib.hid (World.news_of_block HNB.out)
        refine wpAnyH_ready (rs := [8]) (by kernel_rfl) (by simp) (AllReadyH.cons rfl (fun K hK => ?_) AllReadyH.nil)
        refine step_append_lies _ (by rfl) (.tmp 90) (.tmp 92) 122 (by rfl) (X1.heap.size) 51 i0 _ 9 96 Tryz.underlying122 hi Hhz.out hz1 hz2 rfl (by omega) (.slice A2 l.length c2) l.length _ (by rfl) HO3.out ⟨X.heap.size, 0, none⟩ 1 1 om.cl (by rfl) (by rfl) HNW.out (ofcl_one om) (by omega) (by simp only [maxLen]; omega) (by omega) hzz _ rfl ?_
        intro gg cap W4 hown4 hgrow hat hlt4
        have hbase := own_base HO3.out
        have HO4 := Lib.hid hown4
        have hgg : X.heap.size ≤ gg := Nat.le_trans (by omega) (own_base hown4 gg rfl)
        replace HBX := Lib.hid (HBX.out.grown hgrow HBX.out.size (fun j hj => Nat.le_trans (by omega) (hbase j hj)))
        have HBK4 := Lib.hid (HBK3.out.bel HBX.out)
        clear hown4 hgrow hat hlt4 hbase HO3 HO2 HNB HNW
        have HG4 := Lib.hid (HG.out.bel HBX.out)
        refine hK.out _ _ HG4 (fun hS => ?_)
        clear hK K
        refine wpAnyH_take (i := 9) (v := ?_) rfl (by kernel_rfl) (by kernel_rfl) (by kernel_rfl) (fun _ _ _ h => h) (Or.inl ⟨by rfl, ?_⟩) hS ?_
        rotate_left
        · (intro w _; go_simp; try with_reducible rfl)
        refine wpAnyH_take (i := 10) (v := ?_) rfl (by kernel_rfl) (by kernel_rfl) (by kernel_rfl) (fun _ _ _ h => h) (Or.inl ⟨by rfl, ?_⟩) hS ?_
        rotate_left
        · (intro w _; go_simp; try with_reducible rfl)
        refine wpAnyH_ready (rs := [11]) (by kernel_rfl) (by simp) (AllReadyH.cons rfl (fun K hK => ?_) AllReadyH.nil)
        have u3 : W4.cell? ⟨b, 3, none⟩ = some (.slice A l.length c) := HBK4.out.cell 3
        have z3 : W4.frozen? ⟨b, 3, none⟩ = false := HBK4.out.frozen 3
        go_simp
        refine hK.out _ _ (Lib.hid (HG4.out.far (p := ⟨b, 3, none⟩) (Ne.symm hgb) _)) (fun _ => ?_)
        clear hK K u3 z3 hS
        have hR5 : Hid (Blk (W4.setCell ⟨b, 3, none⟩ (.slice (some ⟨gg, 0, none⟩) (l.length + 1) cap)) v.heap.size 51 zOf) := Lib.hid ((hR.out.bel HBX.out).far (by simp <;> omega) _)
        have HG5 : Hid (Blk (W4.setCell ⟨b, 3, none⟩ (.slice (some ⟨gg, 0, none⟩) (l.length + 1) cap)) g 51 om.cs) := Lib.hid (HG4.out.far (p := ⟨b, 3, none⟩) (Ne.symm hgb) _)
        have HBK5 : Hid (Blk (W4.setCell ⟨b, 3, none⟩ (.slice (some ⟨gg, 0, none⟩) (l.length + 1) cap)) b 202 (bookC ch client (next + 1) (some ⟨gg, 0, none⟩) (l.length + 1) cap)) := Lib.hid (by have q := HBK4.out.set_ 3 (.slice (some ⟨gg, 0, none⟩) (l.length + 1) cap); rw [bookC_set3] at q; exact q)
        have HC5 : Hid (Ch [b] v (W4.setCell ⟨b, 3, none⟩ (.slice (some ⟨gg, 0, none⟩) (l.length + 1) cap))) := Lib.hid ((HC3.out.trans (Ch.of_below HBX.out [b])).trans (Ch.set_ (b := b) (by simp) _ _ _))
        have HO5 := Lib.hid (Ch.owns (Ch.set_ (S := [b]) (b := b) (by simp) W4 3 (.slice (some ⟨gg, 0, none⟩) (l.length + 1) cap)) HO4.out (by intro q hq; simp [Value.ownBlock] at hq; subst hq; simp; omega))
        generalize W4.setCell ⟨b, 3, none⟩ (.slice (some ⟨gg, 0, none⟩) (l.length + 1) cap) = W5 at hR5 HG5 HBK5 HC5 HO5 ⊢
        refine wpAnyH_done (by kernel_rfl) ?_ _
        clear HBK4 HG4 HO4
        go_wp2_with (first
          | (refine wpList_load_blk rfl 51 (.tmp 19) rfl g 0 9 HG5.out om.cs (by rfl) (by rfl) Tryz.underlying51 infoOffer (Nat.le_refl 9) ?_)
          | (refine wpList_store_part rfl 51 (.tmp 12) (.tmp 96) rfl v.heap.size 0 hR5.out om.cs om.cs (by rfl) (by rfl) (Nat.le_refl 9) infoOffer (ofcs_one om) (ofcs_over zOf om rfl) ?_; intro W6 hb6 hc6; have HB6 := Lib.hid hb6; have HC6 := Lib.hid hc6; clear hb6 hc6))
        exact bodyPost_ret (results_cell_row2 rfl _ HB6.out rfl Tryz.underlying51 infoOffer) rfl ⟨rfl, mk_book (HBK5.out.ch HC6.out (by simp; omega)) (by omega) (Ch.owns HC6.out HO5.out (by intro q hq; simp [Value.ownBlock] at hq; subst hq; simp; omega)), ((HC5.out.mono (S' := [b, v.heap.size]) (by simp)).trans (HC6.out.mono (S' := [b, v.heap.size]) (by simp))).mono (by simp <;> omega)⟩
    · go_simp
      replace HBX := Lib.hid (HBX.out.alloc HBX.out.size (.cells om.cs 51))
      have HNB : Hid (Blk (X.alloc (.cells om.cs 51)) X.heap.size 51 om.cs) := Blk.new _ _ _
      refine hK.out _ _ (Lib.hid (HG.out.bel HBX.out)) (fun _ => ?_)
      clear hK K
      refine wpAnyH_gen fun X1 hX1 => ?_
      replace hX1 : X1 = X.alloc (.cells om.cs 51) := hX1
      rw [← hX1] at HBX HNB
      try rw [← hX1] at HO3
      have hz1' : X1.heap.size = X.heap.size + 1 := by rw [hX1]; simp
      clear hX1
      have u3 : X1.cell? ⟨b, 3, none⟩ = some (.slice A l.length c) := (HBK3.out.bel HBX.out).cell 3
      refine wpAnyH_ready (rs := [4]) (by kernel_rfl) (by simp) (AllReadyH.cons rfl (fun K hK => ?_) AllReadyH.nil)
      go_simp
      refine hK.out _ _ (Lib.hid (HG.out.bel HBX.out)) (fun _ => ?_)
      clear hK K u3
      refine wpAnyH_ready (rs := [5]) (by kernel_rfl) (by simp) (AllReadyH.cons rfl (fun K hK => ?_) AllReadyH.nil)
      go_simp
      refine (clone_of A l c _ (((HSL3.out.more HZ3.out).below HBX.out).more HBX.out.size) hl HAN.out).mono ?_
      rintro e X2 ⟨A2, c2, rfl, hO, hA2, hbl⟩
      replace HBX := Lib.hid (HBX.out.trans (hbl.mono HBX.out.size))
      have HBC := Lib.hid hbl
      have HCS := Lib.hid hbl.size
      have HO2 := Lib.hid hO
      clear hO hA2 hbl
      go_simp
      refine hK.out _ _ (Lib.hid (HG.out.bel HBX.out)) (fun _ => ?_)
      clear hK K
      have HO3 := HO2
      have hzz : X1.heap.size ≤ X2.heap.size := HCS.out
      first | (replace HNB := Lib.hid (HNB.out.bel HBC.out)) | skip
      have HNW := Lib.hid (World.news_of_block HNB.out)
      refine wpAnyH_ready (rs := [8]) (by kernel_rfl) (by simp) (AllReadyH.cons rfl (fun K hK => ?_) AllReadyH.nil)
      refine step_append_lies _ (by rfl) (.tmp 90) (.tmp 92) 122 (by rfl) (X1.heap.size) 51 i0 _ 9 96 Tryz.underlying122 hi Hhz.out hz1 hz2 rfl (by omega) (.slice A2 l.length c2) l.length _ (by rfl) HO3.out ⟨X.heap.size, 0, none⟩ 1 1 om.cl (by rfl) (by rfl) HNW.out (ofcl_one om) (by omega) (by simp only [maxLen]; omega) (by omega) hzz _ rfl ?_
      intro gg cap W4 hown4 hgrow hat hlt4
      have hbase := own_base HO3.out
      have HO4 := Lib.hid hown4
      have hgg : X.heap.size ≤ gg := Nat.le_trans (by omega) (own_base hown4 gg rfl)
      replace HBX := Lib.hid (HBX.out.grown hgrow HBX.out.size (fun j hj => Nat.le_trans (by omega) (hbase j hj)))
      have HBK4 := Lib.hid (HBK3.out.bel HBX.out)
      clear hown4 hgrow hat hlt4 hbase HO3 HO2 HNB HNW
      have HG4 := Lib.hid (HG.out.bel HBX.out)
      refine hK.out _ _ HG4 (fun hS => ?_)
      clear hK K
      refine wpAnyH_take (i := 9) (v := ?_) rfl (by kernel_rfl) (by kernel_rfl) (by kernel_rfl) (fun _ _ _ h => h) (Or.inl ⟨by rfl, ?_⟩) hS ?_
      rotate_left
      · (intro w _; go_simp; try with_reducible rfl)
      refine wpAnyH_take (i := 10) (v := ?_) rfl (by kernel_rfl) (by kernel_rfl) (by kernel_rfl) (fun _ _ _ h => h) (Or.inl ⟨by rfl, ?_⟩) hS ?_
      rotate_left
      · (intro w _; go_simp; try with_reducible rfl)
      refine wpAnyH_ready (rs := [11]) (by kernel_rfl) (by simp) (AllReadyH.cons rfl (fun K hK => ?_) AllReadyH.nil)
      have u3 : W4.cell? ⟨b, 3, none⟩ = some (.slice A l.length c) := HBK4.out.cell 3
      have z3 : W4.frozen? ⟨b, 3, none⟩ = false := HBK4.out.frozen 3
      go_simp
      refine hK.out _ _ (Lib.hid (HG4.out.far (p := ⟨b, 3, none⟩) (Ne.symm hgb) _)) (fun _ => ?_)
      clear hK K u3 z3 hS
      have hR5 : Hid (Blk (W4.setCell ⟨b, 3, none⟩ (.slice (some ⟨gg, 0, none⟩) (l.length + 1) cap)) v.heap.size 51 zOf) := Lib.hid ((hR.out.bel HBX.out).far (by simp <;> omega) _)
      have HG5 : Hid (Blk (W4.setCell ⟨b, 3, none⟩ (.slice (some ⟨gg, 0, none⟩) (l.length + 1) cap)) g 51 om.cs) := Lib.hid (HG4.out.far (p := ⟨b, 3, none⟩) (Ne.symm hgb) _)
      have HBK5 : Hid (Blk (W4.setCell ⟨b, 3, none⟩ (.slice (some ⟨gg, 0, none⟩) (l.length + 1) cap)) b 202 (bookC ch client (next + 1) (some ⟨gg, 0, none⟩) (l.length + 1) cap)) := Lib.hid (by have q := HBK4.out.set_ 3 (.slice (some ⟨gg, 0, none⟩) (l.length + 1) cap); rw [bookC_set3] at q; exact q)
      have HC5 : Hid (Ch [b] v (W4.setCell ⟨b, 3, none⟩ (.slice (some ⟨gg, 0, none⟩) (l.length + 1) cap))) := Lib.hid ((HC3.out.trans (Ch.of_below HBX.out [b])).trans (Ch.set_ (b := b) (by simp) _ _ _))
      have HO5 := Lib.hid (Ch.owns (Ch.set_ (S := [b]) (b := b) (by simp) W4 3 (.slice (some ⟨gg, 0, none⟩) (l.length + 1) cap)) HO4.out (by intro q hq; simp [Value.ownBlock] at hq; subst hq; simp; omega))
      generalize W4.setCell ⟨b, 3, none⟩ (.slice (some ⟨gg, 0, none⟩) (l.length + 1) cap) = W5 at hR5 HG5 HBK5 HC5 HO5 ⊢
      refine wpAnyH_done (by kernel_rfl) ?_ _
      clear HBK4 HG4 HO4
      go_wp2_with (first
        | (refine wpList_load_blk rfl 51 (.tmp 19) rfl g 0 9 HG5.out om.cs (by rfl) (by rfl) Tryz.underlying51 infoOffer (Nat.le_refl 9) ?_)
        | (refine wpList_store_part rfl 51 (.tmp 12) (.tmp 96) rfl v.heap.size 0 hR5.out om.cs om.cs (by rfl) (by rfl) (Nat.le_refl 9) infoOffer (ofcs_one om) (ofcs_over zOf om rfl) ?_; intro W6 hb6 hc6; have HB6 := Lib.hid hb6; have HC6 := Lib.hid hc6; clear hb6 hc6))
      exact bodyPost_ret (results_cell_row2 rfl _ HB6.out rfl Tryz.underlying51 infoOffer) rfl ⟨rfl, mk_book (HBK5.out.ch HC6.out (by simp; omega)) (by omega) (Ch.owns HC6.out HO5.out (by intro q hq; simp [Value.ownBlock] at hq; subst hq; simp; omega)), ((HC5.out.mono (S' := [b, v.heap.size]) (by simp)).trans (HC6.out.mono (S' := [b, v.heap.size]) (by simp))).mono (by simp <;> omega)⟩
end Go.Proofs.YtgnlakbmibkjgaaGreat
