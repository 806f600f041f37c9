/- UtxoWorth: the walk. -/
import Derived.Outline
import Derived.Test.YtdoebmikjgmnaaaGreatMgG44
import Derived.Test.YtdoebmikjgmnaaaGreatMgN5
set_option linter.unusedVariables false
set_option linter.unusedSimpArgs false
namespace Go.Proofs.YtdoebmikjgmnaaaGreat
open Go.RowKit Go.Maps
/-- what a claim that is accepted has -/
structure WorthR (T : List En) (t : Txn) (i0 : Inp) (x : En) (n wh : Nat) : Prop where
  ins : t.ins.head? = some i0
  pt : x.tx = i0.tx ∧ x.out = i0.out
  get : getU T i0.pt = some x.o
  wor : (worF (enT x x.o.tok.toNat) t.p).1 = n
  err : (worF (enT x x.o.tok.toNat) t.p).2 = 0
  low : 10 < n
  le : n ≤ wh
  big : wh < 18446744073709551616
  outs : t.outs = paysO x n wh
  kind : x.o.kind = 2
  lock : LockE x
  tx : x.tx.size = 16
  ok : Pt.ok (i0.tx, i0.out)
theorem claims_zero {x : En} {t : Txn} {wh : Nat} (h : claimsE x t wh = 0) (hp : path0 t = 2) : (worF (enT x x.o.tok.toNat) t.p).2 = 0 ∧ 10 < (worF (enT x x.o.tok.toNat) t.p).1 ∧ (worF (enT x x.o.tok.toNat) t.p).1 ≤ (wh : Int) ∧ t.outs = paysO x (worF (enT x x.o.tok.toNat) t.p).1.toNat wh := by
  unfold claimsE at h
  rw [if_neg (by simpa using hp)] at h
  by_cases g1 : (worF (enT x x.o.tok.toNat) t.p).2 ≠ 0
  · rw [if_pos g1] at h; exact absurd h g1
  rw [if_neg g1] at h
  by_cases g2 : (worF (enT x x.o.tok.toNat) t.p).1 ≤ 10 ∨ (wh : Int) < (worF (enT x x.o.tok.toNat) t.p).1
  · rw [if_pos g2] at h; exact absurd h (by decide)
  rw [if_neg g2] at h
  by_cases g3 : eqLo (paysO x (worF (enT x x.o.tok.toNat) t.p).1.toNat wh) t.outs = true
  · exact ⟨Decidable.not_not.1 g1, by omega, by omega, ((eqLo_iff _ _).1 g3).symm⟩
  · rw [if_neg g3] at h; exact absurd h (by decide)
theorem worth_ok {T : List En} {t : Txn} {h : Int} (hT : TOk T) (hc : checkE T t h = 0) (hp : path0 t = 2) : ∃ i0 x n wh, WorthR T t i0 x n wh := by
  obtain ⟨h1, h2, h3, h4, _⟩ := check_parts hc
  have hf := found_t h1
  have hn := hf.right.n1
  obtain ⟨i0, r, hi⟩ : ∃ i r, t.ins = i :: r := by
    cases he : t.ins with
    | nil => rw [he] at hn; simp at hn
    | cons i r => exact ⟨i, r, rfl⟩
  have hsp : spentT T t = entD T i0 :: r.map (entD T) := by unfold spentT; rw [hi]; rfl
  have hm := entD_mem (hf.has i0 (by rw [hi]; simp))
  have hpi : i0.path = 2 := by unfold path0 at hp; rw [hi] at hp; exact hp
  have hk : (entD T i0).o.kind = 2 := by
    have h5 := firstE_all h2 _ (List.getElem_mem (l := mayL (spentT T t) t (coreX t) h) (n := 0) (by rw [mayL_len]; omega))
    rw [mayL_at _ _ _ _ 0 (by omega) (spent_len T t)] at h5
    have e1 : (spentT T t)[0]'(by rw [spent_len]; omega) = entD T i0 := by simp only [hsp]; rfl
    have e2 : t.ins[0]'(by omega) = i0 := by simp only [hi]; rfl
    rw [e1, e2] at h5
    exact may_lock hpi h5
  have hlk := lock_e (hT.fits _ hm.1) (hT.unit _ hm.1) hk
  have h4' : claimsE (entD T i0) t (totV (topsI (spentT T t))).toNat = 0 := by
    have e : (spentT T t).headD zEn = entD T i0 := by rw [hsp]; rfl
    rw [← e]; exact h4
  have hbd := worF_bd (enT (entD T i0) (entD T i0).o.tok.toNat) t.p
  have htv := totV_nn (topsI_nn (spentT T t))
  obtain ⟨g1, g2, g3, g4⟩ := claims_zero h4' hp
  exact ⟨i0, entD T i0, (worF (enT (entD T i0) (entD T i0).o.tok.toNat) t.p).1.toNat, (totV (topsI (spentT T t))).toNat, by rw [hi]; rfl, ⟨rfl, rfl⟩, hm.2, by omega, g1, by omega, by omega, by omega, g4, hk, hlk, (hT.tx _ hm.1).1, inB_ok (hf.right.ins i0 (by rw [hi]; simp))⟩
set_option maxRecDepth 100000 in
set_option maxHeartbeats 4000000 in
theorem uworth_any (A0 : Option Addr) (l : List Ou) (c0 : Nat) (t0 : Txn) (h : Int) (w0 : World) (hsl : Sl w0 w0.heap.size 9 Ou.cl A0 l) (hl : l.length ≤ maxLen) (ham : ∀ o ∈ l, o.am < 18446744073709551616 ∧ o.unit < 18446744073709551616) (hcm : TxCame w0 t0) :
    Calls Tryz.prog 6 #[.slice A0 l.length c0, .agg t0.cs, .int .i64 h] w0 fun e w' => e = .returned (.bool true) ∧ Below w0.heap.size w0 w' := by
  have HOU := fun W (hW : Below w0.heap.size w0 W) => Lib.hid (outs11_any A0 l c0 W ((hsl.below hW).more hW.size) hl)
  have HCT := fun W (hW : Below w0.heap.size w0 W) => Lib.hid (tcut_any t0 W ⟨(hcm.mem.ins.below hW).more hW.size, (hcm.mem.outs.below hW).more hW.size, (hcm.mem.wins.below hW).more hW.size⟩ hcm.n1 hcm.n2 hcm.pf.len)
  have HOK := fun A c B d PA pc => Lib.hid (cutx_ok hcm A c B d PA pc)
  have hA8 := cut_am ham 8
  have hL8 := cut_len l 8
  clear hsl hl ham hcm
  have HX : Hid (Blk (w0.alloc (.cells t0.cs 53)) w0.heap.size 53 t0.cs) := Blk.new _ _ _
  have HB : Hid (Below w0.heap.size w0 (w0.alloc (.cells t0.cs 53))) := (Below.refl _ _).alloc (Nat.le_refl _) _
  go_enter Tryz.func6, Tryz.ntmps6
  go_upto_region 1 with fail
  generalize w0.alloc (.cells t0.cs 53) = W0 at HX HB ⊢
  go_wp2_with fail
  refine (HOU _ HB.out).out.mono ?_
  rintro e W1 ⟨A, c, B, d, m, rfl, hm, hO, _, hb⟩
  generalize (l.take 8).map cutO = L at hm hO hA8 hL8
  have HO := Lib.hid hO
  have HMM := Lib.hid hm
  replace HX := Lib.hid (HX.out.bel hb)
  replace HB := Lib.hid (HB.out.trans (hb.mono HB.out.size))
  clear hb hO hm HOU
  go_wp2_with (refine wpList_load_blk rfl 53 (.tmp 4) rfl w0.heap.size 0 6 HX.out t0.cs (by rfl) (txn_ext t0) Tryz.underlying53 infoTx (Nat.le_refl 6) ?_)
  refine (HCT _ HB.out).out.mono ?_
  have hwz1 := HX.out.lt
  rintro e W2 ⟨TA, TB, TP, k1, c1, k2, d1, k3, p1, rfl, hk1, hk2, hk3, r1, r2, r3, hb⟩
  rw [cutx_cs t0 TA k1 c1 TB k2 d1 TP k3 p1 hk1 hk2 hk3]
  have HTM := Lib.hid (cutx_mem t0 hk1 hk2 hk3 r1 r2 r3)
  have HTO := HOK TA c1 TB d1 TP p1
  have HNE := Lib.hid (mem_ne t0 c1 d1 p1 hwz1 r1 r2 r3)
  replace HX := Lib.hid (HX.out.bel hb)
  replace HO := Lib.hid (own_belT HO.out hb)
  replace HB := Lib.hid (HB.out.trans (hb.mono HB.out.size))
  clear hb r1 r2 r3 hk1 hk2 hk3 HCT HOK hwz1
  generalize cutX t0 TA c1 TB d1 TP p1 = t at HTM HTO HNE ⊢
  go_upto_region 3 with (refine wpList_store_part rfl 53 (.tmp 4) (.tmp 22) rfl w0.heap.size 0 HX.out t.cs t.cs (by rfl) (by rfl) (Nat.le_refl 6) infoTx (txncs_one t) (txn_over t rfl) ?_; intro W3 hb1 hc1; replace HTM := Lib.hid (mem_chT HTM.out hc1 HNE.out); replace HO := Lib.hid (own_chT HO.out hc1 HX.out.kdT (by decide)); replace HB : Hid (Below w0.heap.size w0 W3) := Lib.hid (HB.out.trans (hc1.below HB.out.size (by simp))); replace HX := Lib.hid hb1; clear hb1 hc1)
  have HSO : Hid (Sl W3 W3.heap.size 9 Ou.cl A L) := Lib.hid (Sl.of_own ouLen9 (by rw [← HMM.out]; exact HO.out))
  have HL8 := Lib.hid hL8
  obtain rfl : m = L.length := HMM.out
  clear HO HMM hL8
  cases hn : newU L with
  | false =>
    go_wp2_with fail
    refine (unew_no A L c W3 HSO.out (by have := HL8.out; omega) hn).mono ?_
    rintro e W4 ⟨rfl, hb⟩
    replace HB := Lib.hid (HB.out.trans (hb.mono HB.out.size))
    clear hb
    go_wp2_with fail
    refine (fixed11_any _).mono ?_
    rintro e W5 ⟨rfl, hb⟩
    go_wp2_with fail
    go_ret
    exact ⟨rfl, HB.out.trans (hb.mono HB.out.size)⟩
  | true =>
    have HTK := Lib.hid (tok_new hn HL8.out hA8)
    go_wp2_with fail
    refine (unew_ok A L c W3 HSO.out hn (fun o ho => (hA8 o ho).1)).mono ?_
    rintro e W4 ⟨sb, b, rfl, hsb, hbb, hset, hb⟩
    have HS := Lib.hid hset
    have HSB := Lib.hid (Nat.le_trans HB.out.size hsb)
    have HBB := Lib.hid (Nat.le_trans HB.out.size hbb)
    replace HX := Lib.hid (HX.out.bel hb)
    replace HTM := Lib.hid (HTM.out.bel hb)
    replace HB := Lib.hid (HB.out.trans (hb.mono HB.out.size))
    have hTl : (utN (firstB L) L).length = L.length := utN_len _ _
    have hTs := utN_srtK (firstB L) L
    generalize utN (firstB L) L = T at HTK HS hTl hTs
    clear hb hset hsb hbb HSO hA8
    have hT0 : 0 < T.length := HTK.out.pos
    have hT8 : T.length ≤ 8 := by have := HL8.out; omega
    have HTL := Lib.hid hTl
    have HTS := Lib.hid hTs
    clear hTl hTs
    go_upto_region 6 with fail
    have KA := ucopy_any sb b T W4 HS.out
    go_wp2_with fail
    refine KA.mono ?_
    rintro e W6 ⟨sb2, b2, rfl, hsb2, hbb2, hset2, hb⟩
    have HS2 := Lib.hid hset2
    have hbl := HS.out.ut.lt
    have hb12 : b2 ≠ b := by omega
    have hs12 : sb2 ≠ b := by omega
    replace HX := Lib.hid (HX.out.bel hb)
    replace HTM := Lib.hid (HTM.out.bel hb)
    replace HS := Lib.hid (HS.out.bel hb)
    replace HB := Lib.hid (HB.out.trans (hb.mono HB.out.size))
    clear hb KA hset2 hsb2 hbb2 hbl
    obtain ⟨ck, hck⟩ : ∃ c, c = checkE T t h := ⟨_, rfl⟩
    have KP := apply_any sb b T t h W6 HS.out HTM.out HTK.out HTO.out
    rw [← hck] at KP
    have HCK := Lib.hid hck
    clear hck
    go_wp2_with (refine wpList_load_blkG (by kernel_rfl) 53 (.tmp 4) rfl w0.heap.size 0 6 HX.out t.cs (by rfl) (txn_ext t) Tryz.underlying53 infoTx (Nat.le_refl 6) ?_)
    refine KP.mono ?_
    rintro e W7 ⟨rfl, hc, _⟩
    replace HX := Lib.hid (HX.out.ch hc (by have := HS.out.ut.ne_blk HX.out; simpa using Ne.symm this))
    replace HTM := Lib.hid (HTM.out.map HS.out.ut hc)
    replace HS2 : Hid (SetAt W7 sb2 b2 T) := Lib.hid ⟨HS2.out.hd.ch hc (by simpa using hs12), HS2.out.ut.ch hc (by simpa using hb12)⟩
    replace HB := Lib.hid (HB.out.trans (hc.below HB.out.size (by simpa using HBB.out)))
    clear hc HS KP hb12 hs12
    by_cases hck0 : ck = 0
    rotate_left
    · have d1 : (ck != 0) = true := by simpa [bne_iff_ne] using hck0
      clear HX HTM HS2 HCK
      go_wp2_with fail
      refine (fixed11_any _).mono ?_
      rintro e V ⟨rfl, hb⟩
      go_wp2_with fail
      go_ret
      exact ⟨rfl, HB.out.trans (hb.mono HB.out.size)⟩
    subst hck0
    have hn1 := (found_t (check_parts HCK.out.symm).1).right.n1
    obtain ⟨tb, tf, hTA, htb, hd⟩ := HTM.out.ins.at_ (show 0 < t.ins.length by omega)
    have HD := Lib.hid hd
    have HPX : Hid (∃ i0, t.ins.head? = some i0 ∧ t.ins[0]'(by omega) = i0) := Lib.hid ⟨t.ins[0]'(by omega), by rw [List.head?_eq_getElem?, List.getElem?_eq_getElem (by omega)], rfl⟩
    obtain ⟨i0, hi0, hi1⟩ := HPX.out
    rw [hi1] at HD
    have HI0 := Lib.hid hi0
    have hpt : path0 t = i0.path := by unfold path0; rw [List.headD_eq_head?_getD, hi0]; rfl
    have c0 : W7.cell? ⟨w0.heap.size, 0, none⟩ = some (.slice (some ⟨tb, tf, none⟩) t.ins.length t.c) := (HX.out.cell 0).trans (by show some (Value.slice t.A _ _) = _; rw [hTA])
    have y2 : W7.cell? ⟨tb, tf + 2, none⟩ = some (.int .i64 i0.path) := by have := HD.out 2 _ rfl; simpa using this
    have HTA := Lib.hid hTA
    have HPT := Lib.hid hpt
    clear hd hi0 hi1 HPX hTA hpt
    have l1 : ((t.ins.length : Int) == 0) = false := by rw [beq_eq_false_iff_ne]; omega
    have l2 : (t.ins.length == 0) = false := by rw [beq_eq_false_iff_ne]; omega
    have l3 : (0 : Int) < (t.ins.length : Int) := by omega
    have l4 : 0 < t.ins.length := by omega
    by_cases hp2 : i0.path = 2
    rotate_left
    · have d1 : (i0.path != 2) = true := by simpa [bne_iff_ne] using hp2
      clear HX HTM HS2 HCK
      go_wp2_with fail
      refine (fixed11_any _).mono ?_
      rintro e V ⟨rfl, hb⟩
      go_wp2_with fail
      go_ret
      exact ⟨rfl, HB.out.trans (hb.mono HB.out.size)⟩
    have d1 : (i0.path != 2) = false := by simp [bne, beq_iff_eq.2 hp2]
    obtain ⟨i1, x, n, wh, HW⟩ := worth_ok HTK.out HCK.out.symm (HPT.out.trans hp2)
    obtain rfl : i0 = i1 := Option.some.inj (HI0.out.symm.trans HW.ins)
    obtain ⟨xt, xo, o⟩ := x
    have hpt := HW.pt
    simp only at hpt
    obtain ⟨rfl, rfl⟩ := hpt
    have HWR := Lib.hid HW
    clear HW hp2
    have HG := Lib.hid (get_any sb2 b2 T i0.tx i0.out W7 HS2.out HWR.out.ok)
    rw [show getA T (i0.tx, i0.out) = .tuple #[.agg o.cs, .bool true] from by unfold getA; rw [show getU T (i0.tx, i0.out) = some o from HWR.out.get]; rfl] at HG
    go_wp2_with (refine wpList_load_pt rfl (.tmp 78) rfl tb tf (by rfl) i0.tx i0.out (fun j u hu => by have := HD.out j u (by match j, hu with | 0, hu => exact hu | 1, hu => exact hu | j + 2, hu => simp [ptCl] at hu); simpa using this) ?_)
    refine HG.out.mono ?_
    rintro e W8 ⟨rfl, hb⟩
    have HDW := Lib.hid (fun j u (hu : i0.cl[j]? = some u) => rows_bel (fun j u hu => by have := HD.out j u hu; simpa using this) htb hb j u hu)
    have htbW : tb < W8.heap.size := Nat.lt_of_lt_of_le htb hb.size
    replace HX := Lib.hid (HX.out.bel hb)
    replace HTM := Lib.hid (HTM.out.bel hb)
    replace HB := Lib.hid (HB.out.trans (hb.mono HB.out.size))
    clear hb HG HD y2 c0 HS2 HCK HTS
    go_upto_region 10 with (refine wpList_store_part rfl 41 (.tmp 12) (.tmp 81) rfl W8.heap.size 0 (cs := zOu.cs) (Blk.new _ _ _) o.cs o.cs (by rfl) (by rfl) (Nat.le_refl 9) infoOuC (oucs_one _) (ou_over _ rfl) ?_; intro W9 hb1 hc1; have H12 := Lib.hid hb1; have HBA : Hid (Below W8.heap.size W8 W9) := Lib.hid (bel_st' hc1); clear hb1 hc1)
    have HDX := Lib.hid (rows_bel HDW.out htbW HBA.out)
    replace HX := Lib.hid (HX.out.bel HBA.out)
    replace HTM := Lib.hid (HTM.out.bel HBA.out)
    replace HB := Lib.hid (HB.out.trans (HBA.out.mono HB.out.size))
    clear HBA HDW htb htbW
    generalize W8.heap.size = g12 at H12 ⊢
    have HMT : Hid (o.tok = (o.tok.toNat : Int)) := Lib.hid (by have := HWR.out.lock.tok0; exact (Int.toNat_of_nonneg this).symm)
    have HTR := fun W => Lib.hid (show Calls Tryz.prog 28 #[.agg #[.string ((⟨i0.tx, i0.out, o⟩ : En)).tx, .int .i64 ((⟨i0.tx, i0.out, o⟩ : En)).out, .int .i64 ((⟨i0.tx, i0.out, o⟩ : En)).o.kind, .int .u64 (((⟨i0.tx, i0.out, o⟩ : En)).o.am : Nat), .string ((⟨i0.tx, i0.out, o⟩ : En)).o.key, .string ((⟨i0.tx, i0.out, o⟩ : En)).o.gate, .int .i64 ((⟨i0.tx, i0.out, o⟩ : En)).o.ex, .string ((⟨i0.tx, i0.out, o⟩ : En)).o.anchor, .int .u64 (((⟨i0.tx, i0.out, o⟩ : En)).o.unit : Nat), .int .i64 ((⟨i0.tx, i0.out, o⟩ : En)).o.tok, .string ((⟨i0.tx, i0.out, o⟩ : En)).o.of_]] W fun e' w' => e' = .returned (.agg (enT ⟨i0.tx, i0.out, o⟩ o.tok.toNat).cs) ∧ Below W.heap.size W w' from terms_gen ⟨i0.tx, i0.out, o⟩ o.tok.toNat W (by have := HWR.out.tx; show i0.tx.size ≤ 1000000; have h' : i0.tx.size = 16 := this; omega) HMT.out)
    have hlk := HWR.out.lock
    have htk : (enT ⟨i0.tx, i0.out, o⟩ o.tok.toNat).ok := ⟨by show (nameO i0.tx i0.out).size ≤ 4096; rw [nameO_size]; omega, hlk.anchor, hlk.unit, by show o.tok.toNat ≤ 4096; have := hlk.tok; simp only at this; omega⟩
    have HWO := fun W (hW : Below W9.heap.size W9 W) => Lib.hid (show Calls Tryz.prog 27 #[.agg (enT ⟨i0.tx, i0.out, o⟩ o.tok.toNat).cs, .agg t.p.cs] W fun e w' => e = .returned (.tuple #[.int .u64 (n : Int), .int .i64 0]) ∧ Below W.heap.size W w' from by
      have h0 := worth_fun (enT ⟨i0.tx, i0.out, o⟩ o.tok.toNat) t.p W htk HTO.out.pf.len HTO.out.pf.fit (HTM.out.bel hW).wins HTO.out.pf.sig HTO.out.pf.am
      have e1 : (worF (enT ⟨i0.tx, i0.out, o⟩ o.tok.toNat) t.p).1 = n := HWR.out.wor
      have e2 : (worF (enT ⟨i0.tx, i0.out, o⟩ o.tok.toNat) t.p).2 = 0 := HWR.out.err
      rw [e1, e2] at h0
      exact h0)
    clear hlk htk
    generalize (enT ⟨i0.tx, i0.out, o⟩ o.tok.toNat).cs = tmc at HTR HWO
    have q0 := cell_rg (show W9.cell? ⟨w0.heap.size, 0, none⟩ = some (.slice (some ⟨tb, tf, none⟩) t.ins.length t.c) from (HX.out.cell 0).trans (by show some (Value.slice t.A _ _) = _; rw [HTA.out]))
    refine wp_region_quiet_below (by kernel_rfl) (by kernel_rfl) ?_
    repeat (first | go_big_quiet_skip | (go_big_quiet_want; first | ((first
          | (refine quiet_load_row 39 (.tmp 87) rfl tb tf [.string i0.tx, .int .i64 i0.out] (fun j u hu => HDX.out j u (by match j, hu with | 0, hu => exact hu | 1, hu => exact hu | j + 2, hu => simp at hu)) #[.string i0.tx, .int .i64 i0.out] (by rfl) (by rfl) Tryz.underlying39 (by kernel_rfl) ?_; go_simp)
          | (refine quiet_load_blk 41 (.tmp 12) rfl g12 0 9 H12.out #[.int .i64 o.kind, .int .u64 (o.am : Nat), .string o.key, .string o.gate, .int .i64 o.ex, .string o.anchor, .int .u64 (o.unit : Nat), .int .i64 o.tok, .string o.of_] (by rfl) (by rfl) Tryz.underlying41 infoOuC (Nat.le_refl 9) ?_; go_simp)
          | (refine quiet_load_blk 51 (.tmp 92) rfl w0.heap.size 2 4 HX.out t.p.cs (by rfl) (txn_pf t) Tryz.underlying51 infoPf (by show 6 ≤ 6; omega) ?_; go_simp)); go_big_quiet_on) | (go_big_quiet_op; first | go_big_quiet_on | go_big_quiet_call ((first
          | (go_at_call 28; with_reducible exact Calls.rg fun W _ => (HTR W).out)
          | (go_at_call 27; with_reducible exact Calls.rg fun W hW => (HWO W hW).out))))))
    refine wpQuiet_nil ?_
    intro U hp
    have hb := bel_regrown hp
    clear hp
    replace H12 := Lib.hid (H12.out.bel hb)
    replace HX := Lib.hid (HX.out.bel hb)
    replace HTM := Lib.hid (HTM.out.bel hb)
    replace HB := Lib.hid (HB.out.trans (hb.mono HB.out.size))
    clear hb q0 HTR HWO HDX HMT
    have ho : t.outs = payO (n - 10) o.gate :: (if n < wh then [payO (wh - n) o.key] else []) := HWR.out.outs
    have hlo := HWR.out.low
    have hle := HWR.out.le
    have hbg := HWR.out.big
    have hkd : o.kind = 2 := HWR.out.kind
    have hpos : 0 < t.outs.length := by rw [ho]; simp
    obtain ⟨ob, oo, hB, hob, hoc⟩ := HTM.out.outs.at_ hpos
    have hEq : (#[.int .i64 1, .int .u64 ((n : Int) - 10), .string o.gate, .string ByteArray.empty, .int .i64 0, .string ByteArray.empty, .int .u64 0, .int .i64 0, .string ByteArray.empty] : Array Value) = (payO (n - 10) o.gate).cs := by
      show _ = (#[Value.int .i64 1, .int .u64 ((n - 10 : Nat) : Int), .string o.gate, .string ByteArray.empty, .int .i64 0, .string ByteArray.empty, .int .u64 0, .int .i64 0, .string ByteArray.empty] : Array Value)
      rw [show ((n - 10 : Nat) : Int) = (n : Int) - 10 from by omega]
    have HC0 : Hid (∀ j u, ([.int .i64 1, .int .u64 ((n : Int) - 10), .string o.gate, .string ByteArray.empty, .int .i64 0, .string ByteArray.empty, .int .u64 0, .int .i64 0, .string ByteArray.empty] : List Value)[j]? = some u → U.cell? ⟨ob, oo + j, none⟩ = some u) := Lib.hid (fun j u hu => by
      have e0 : t.outs[0] = payO (n - 10) o.gate := by simp only [ho]; rfl
      have h1 := hoc j u (by rw [e0]; show (payO (n - 10) o.gate).cs.toList[j]? = some u; rw [← hEq]; exact hu)
      simpa using h1)
    have HEQ := fun W => Lib.hid (show (binOp .eql 41 (.agg #[.int .i64 1, .int .u64 ((n : Int) - 10), .string o.gate, .string ByteArray.empty, .int .i64 0, .string ByteArray.empty, .int .u64 0, .int .i64 0, .string ByteArray.empty]) (.agg #[.int .i64 1, .int .u64 ((n : Int) - 10), .string o.gate, .string ByteArray.empty, .int .i64 0, .string ByteArray.empty, .int .u64 0, .int .i64 0, .string ByteArray.empty])).run Tryz.prog W = .ok (.bool true) W from by rw [hEq]; exact ouEql_self W _)
    have k0 : U.cell? ⟨g12, 0, none⟩ = some (.int .i64 2) := (H12.out.cell 0).trans (by show some (Value.int .i64 o.kind) = _; rw [hkd])
    have d3 : decide ((n : Int) ≤ 10) = false := decide_eq_false (by omega)
    have HN := Lib.hid (And.intro hlo (And.intro hle hbg))
    have hz0 : (0 : Int) ≤ (n : Int) - 10 := by omega
    have hz1 : (n : Int) - 10 < 18446744073709551616 := by omega
    clear hEq hoc hlo hkd
    by_cases q : n < wh
    · have hl2 : t.outs.length = 2 := by rw [ho, if_pos q]; rfl
      have HC1 : Hid (∀ j u, (payO (wh - n) o.key).cl[j]? = some u → U.cell? ⟨ob, oo + 9 + j, none⟩ = some u) := Lib.hid (fun j u hu => by
        obtain ⟨b1, o1, h1, _, h2⟩ := HTM.out.outs.at_ (show 1 < t.outs.length by omega)
        rw [hB] at h1
        injection h1 with h1
        injection h1 with e1 e2
        subst e1 e2
        have e0 : t.outs[1]'(by omega) = payO (wh - n) o.key := by simp only [ho, if_pos q]; rfl
        have := h2 j u (by rw [e0]; exact hu)
        simpa using this)
      have c1 : U.cell? ⟨w0.heap.size, 1, none⟩ = some (.slice (some ⟨ob, oo, none⟩) 2 t.d) := (HX.out.cell 1).trans (by show some (Value.slice t.B t.outs.length t.d) = _; rw [hB, hl2])
      clear hl2 ho hB hpos q hle hbg
      go_upto_region 13 with fail
      clear k0 d3
      have p1 := cell_rg c1
      have p2 := cell_rg (show U.cell? ⟨g12, 3, none⟩ = some (.string o.gate) from H12.out.cell 3)
      have p3 := cell_rg (show U.cell? ⟨g12, 2, none⟩ = some (.string o.key) from H12.out.cell 2)
      have p4 := cell_rg (show U.cell? ⟨ob, oo + 9, none⟩ = some (.int .i64 1) from HC1.out 0 _ rfl)
      have p5 := cell_rg (show U.cell? ⟨ob, oo + 9 + 2, none⟩ = some (.string o.key) from HC1.out 2 _ rfl)
      have p6 : (o.key.toList == o.key.toList) = true := by simp
      clear c1
      have hwr : IntKind.u64.wrap ((n : Int) - 10) = (n : Int) - 10 := by rw [IntKind.wrap_u64]; omega
      refine wp_region_quiet_below (by kernel_rfl) (by kernel_rfl) ?_
      repeat (first | go_big_quiet_skip | (go_big_quiet_want; first | ((first
              | (refine quiet_load_row 41 (.tmp 126) rfl ob oo [.int .i64 1, .int .u64 ((n : Int) - 10), .string o.gate, .string ByteArray.empty, .int .i64 0, .string ByteArray.empty, .int .u64 0, .int .i64 0, .string ByteArray.empty] HC0.out #[.int .i64 1, .int .u64 ((n : Int) - 10), .string o.gate, .string ByteArray.empty, .int .i64 0, .string ByteArray.empty, .int .u64 0, .int .i64 0, .string ByteArray.empty] (by rfl) (by rfl) Tryz.underlying41 infoOuC ?_; go_simp)
              | (refine quiet_eqop .eql 41 (.tmp 127) (.tmp 132) rfl #[.int .i64 1, .int .u64 ((n : Int) - 10), .string o.gate, .string ByteArray.empty, .int .i64 0, .string ByteArray.empty, .int .u64 0, .int .i64 0, .string ByteArray.empty] #[.int .i64 1, .int .u64 ((n : Int) - 10), .string o.gate, .string ByteArray.empty, .int .i64 0, .string ByteArray.empty, .int .u64 0, .int .i64 0, .string ByteArray.empty] (by rfl) (by rfl) true (fun W => ouGuardE W _ _ _ _) (fun W => (HEQ W).out) ?_; go_simp)); go_big_quiet_on) | (go_big_quiet_op; first | go_big_quiet_on | go_big_quiet_call ((with_reducible exact Calls.rg fun W hW => fixed11_any W)))))
      refine wpQuiet_nil ?_
      intro Z hp
      have hb := bel_regrown hp
      clear hp
      go_wp2_with fail
      go_ret
      exact ⟨rfl, HB.out.trans (hb.mono HB.out.size)⟩
    · have hl2 : t.outs.length = 1 := by rw [ho, if_neg q]; rfl
      have c1 : U.cell? ⟨w0.heap.size, 1, none⟩ = some (.slice (some ⟨ob, oo, none⟩) 1 t.d) := (HX.out.cell 1).trans (by show some (Value.slice t.B t.outs.length t.d) = _; rw [hB, hl2])
      clear hl2 ho hB hpos q hle hbg
      go_upto_region 13 with fail
      clear k0 d3
      have p1 := cell_rg c1
      have p2 := cell_rg (show U.cell? ⟨g12, 3, none⟩ = some (.string o.gate) from H12.out.cell 3)
      clear c1
      have hwr : IntKind.u64.wrap ((n : Int) - 10) = (n : Int) - 10 := by rw [IntKind.wrap_u64]; omega
      refine wp_region_quiet_below (by kernel_rfl) (by kernel_rfl) ?_
      repeat (first | go_big_quiet_skip | (go_big_quiet_want; first | ((first
              | (refine quiet_load_row 41 (.tmp 126) rfl ob oo [.int .i64 1, .int .u64 ((n : Int) - 10), .string o.gate, .string ByteArray.empty, .int .i64 0, .string ByteArray.empty, .int .u64 0, .int .i64 0, .string ByteArray.empty] HC0.out #[.int .i64 1, .int .u64 ((n : Int) - 10), .string o.gate, .string ByteArray.empty, .int .i64 0, .string ByteArray.empty, .int .u64 0, .int .i64 0, .string ByteArray.empty] (by rfl) (by rfl) Tryz.underlying41 infoOuC ?_; go_simp)
              | (refine quiet_eqop .eql 41 (.tmp 127) (.tmp 132) rfl #[.int .i64 1, .int .u64 ((n : Int) - 10), .string o.gate, .string ByteArray.empty, .int .i64 0, .string ByteArray.empty, .int .u64 0, .int .i64 0, .string ByteArray.empty] #[.int .i64 1, .int .u64 ((n : Int) - 10), .string o.gate, .string ByteArray.empty, .int .i64 0, .string ByteArray.empty, .int .u64 0, .int .i64 0, .string ByteArray.empty] (by rfl) (by rfl) true (fun W => ouGuardE W _ _ _ _) (fun W => (HEQ W).out) ?_; go_simp)); go_big_quiet_on) | (go_big_quiet_op; first | go_big_quiet_on | go_big_quiet_call ((with_reducible exact Calls.rg fun W hW => fixed11_any W)))))
      refine wpQuiet_nil ?_
      intro Z hp
      have hb := bel_regrown hp
      clear hp
      go_wp2_with fail
      go_ret
      exact ⟨rfl, HB.out.trans (hb.mono HB.out.size)⟩
end Go.Proofs.YtdoebmikjgmnaaaGreat
