/- UtxoClaims: the walk's small parts. UtxoClaims: the walk. -/
import Derived.Outline
import Derived.Test.YtdoebmikjgmnaaaGreatMgUcJ
set_option linter.unusedVariables false
set_option linter.unusedSimpArgs false
namespace Go.Proofs.YtdoebmikjgmnaaaGreat
open Go.RowKit Go.Maps
theorem and16_le (ht : Int) : (BitVec.ofInt 64 ht &&& BitVec.ofInt 64 65535).toNat ≤ 65535 := by
  rw [BitVec.toNat_and]
  exact Nat.le_trans Nat.and_le_right (by decide)
theorem and16_bits (ht : Int) : bits BinOp.and IntKind.i64 ht 65535 = (((BitVec.ofInt 64 ht &&& BitVec.ofInt 64 65535).toNat : Nat) : Int) := by
  have h := and16_le ht
  have hw : IntKind.i64.wrap (((BitVec.ofInt 64 ht &&& BitVec.ofInt 64 65535).toNat : Nat) : Int) = (((BitVec.ofInt 64 ht &&& BitVec.ofInt 64 65535).toNat : Nat) : Int) := by
    generalize (BitVec.ofInt 64 ht &&& BitVec.ofInt 64 65535).toNat = n at h ⊢
    simp [IntKind.wrap, IntKind.bits, IntKind.signed]; omega
  exact hw
theorem wrap1 {m : Nat} (h : m ≤ 65535) : wrap64 (1 + (m : Int)) = 1 + (m : Int) := by unfold wrap64; omega
section
variable {cl gt : ByteArray} {am mo ex : Nat}
theorem claim1_right (h : LkOk1 cl gt am mo ex) (hs : SrtE (lkT1 cl gt am mo ex)) (hok : ∀ e ∈ lkT1 cl gt am mo ex, e.okp) {t : Txn} {v : Nat} {sgv : ByteArray} (hi : InsOn t (lkT1 cl gt am mo ex) 2) (hp : t.p = vouP v sgv) (ho : t.outs = paysO ⟨lkX1 cl gt am mo ex, 0, lkoL cl gt am ex⟩ v (am + mo))
    (hv0 : 10 < v) (hz : sgv.size ≤ 400) : rightT t = true := by
  have hl := lk1_len cl gt am mo ex
  have hf : ∀ o ∈ t.outs, fitsB o = true ∧ o.kind = 1 := by rw [ho]; exact pays_fit hv0 h.gt h.cl
  exact hi.right hs hok ⟨hl.1, by omega⟩ (by decide) (by have := pays_len ⟨lkX1 cl gt am mo ex, 0, lkoL cl gt am ex⟩ v (am + mo); rw [ho]; omega) (fun o k => (hf o k).1) (by rw [hp]; exact right_vou v sgv hz)
end
theorem pays_z (x : En) {v n : Nat} (h : n < 18446744073709551616) (hv : v ≤ n) : ∀ o ∈ paysO x v n, o.am < 18446744073709551616 ∧ o.unit < 18446744073709551616 := by
  intro o ho
  unfold paysO at ho
  rcases List.mem_cons.1 ho with rfl | ho
  · exact ⟨by show v - 10 < _; omega, by show (0 : Nat) < _; decide⟩
  · by_cases q : v < n
    · rw [if_pos q, List.mem_singleton] at ho
      rw [ho]
      exact ⟨by show n - v < _; omega, by show (0 : Nat) < _; decide⟩
    · rw [if_neg q] at ho; cases ho
theorem topsI_utN (id : ByteArray) (l : List Ou) : topsI (utN id l) = ousI l := by
  apply List.ext_getElem?
  intro i
  unfold topsI utN ousI
  simp [List.getElem?_mapIdx]; rfl
theorem utN_ams {id : ByteArray} {l : List Ou} (h : ∀ o ∈ l, o.am < 18446744073709551616 ∧ o.unit < 18446744073709551616) : ∀ e ∈ utN id l, e.o.am < 18446744073709551616 := by
  intro e he
  obtain ⟨i, hi, rfl⟩ := List.mem_mapIdx.1 he
  exact (h _ (List.getElem_mem hi)).1
theorem pays_head (x : En) (v n : Nat) : (paysO x v n)[0]? = some (payO (v - 10) x.o.gate) := rfl
theorem Ut.obj {w : World} {b : Nat} {T : List En} (h : Ut w b T) : (∀ cs t fr, w.heap[b]? ≠ some (Obj.cells cs t fr)) := by
  obtain ⟨D, ⟨es, clock, hb, _⟩, _⟩ := h.own
  intro cs t fr e
  rw [hb] at e; cases e
theorem KeyAt.set {w w' : World} {kb cb h i sb b : Nat} {seed : ByteArray} {T : List En} (k : KeyAt w kb cb seed h i) (s : SetAt w sb b T) (hc : Ch [b] w w') : KeyAt w' kb cb seed h i := by
  obtain ⟨cs, hk⟩ := k.hd
  refine k.ch hc (by have := s.ut.ne_blk hk; simpa using Ne.symm this) (by have := s.ut.ne_blk k.cnt; simpa using Ne.symm this) (fun g hg cs fr => ?_)
  simp at hg; subst hg
  exact s.ut.obj cs _ fr
theorem cell_obj {w : World} {b off : Nat} {v : Value} (h : w.cell? ⟨b, off, none⟩ = some v) : ∃ cs t fr, w.heap[b]? = some (Obj.cells cs t fr) := by
  unfold World.cell? at h
  cases hb : w.heap[b]? with
  | none => rw [hb] at h; simp at h
  | some o => cases o with
    | cells cs t fr => exact ⟨cs, t, fr, rfl⟩
    | _ => rw [hb] at h; simp at h
theorem rows_set {w w' : World} {ab off sb b : Nat} {T : List En} {cl : List Value} (h0 : cl ≠ []) (hr : ∀ j v, cl[j]? = some v → w.cell? ⟨ab, off + j, none⟩ = some v) (hlt : ab < w.heap.size) (s : SetAt w sb b T) (hc : Ch [b] w w') : ∀ j v, cl[j]? = some v → w'.cell? ⟨ab, off + j, none⟩ = some v := by
  intro j v hv
  have hne : ab ≠ b := by
    rintro rfl
    obtain ⟨cs, t, fr, e⟩ := cell_obj (hr j v hv)
    exact s.ut.obj cs t fr e
  have e := hc.block ab hlt (by simpa using hne)
  rw [← hr j v hv]
  unfold World.cell?
  rw [e]
end Go.Proofs.YtdoebmikjgmnaaaGreat
namespace Go.Proofs.YtdoebmikjgmnaaaGreat
open Go.RowKit Go.Maps
def bxU3 (a b v : Nat) : Array Value := #[.int .u32 (a : Int), .int .u32 (b : Int), .int .u32 (v : Int)]
theorem lkX1_size (cl gt : ByteArray) (am mo ex : Nat) : (lkX1 cl gt am mo ex).size = 16 := by
  unfold lkX1; split
  · exact tagB_size _ _
  · exact lkx_size _ _ _ _ _
set_option maxRecDepth 100000 in
set_option maxHeartbeats 1000000 in
theorem uclaims_any (s : ByteArray) (a b v : Nat) (ht : Int) (w0 : World) (hs : s.size ≤ maxLen) (ha : a < 4294967296) (hb : b < 4294967296) (hv : v < 4294967296) :
    Calls Tryz.prog 3 #[.string s, .agg #[.int .u32 (a : Int), .int .u32 (b : Int), .int .u32 (v : Int)], .int .i64 ht] w0 fun e w' => e = .returned (.bool true) ∧ Below w0.heap.size w0 w' := by
  unfold maxLen at hs
  obtain ⟨xh, hxh, kand⟩ : ∃ m : Nat, m ≤ 65535 ∧ bits BinOp.and IntKind.i64 ht 65535 = (m : Int) := ⟨_, and16_le ht, and16_bits ht⟩
  have KAND := Lib.hid kand
  clear kand
  go_enter Tryz.func3, Tryz.ntmps3
  go_upto_region 2 with fail
  have hsz : (s.extract 0 (min (s.size : Int) 50).toNat).size ≤ 50 := by rw [ByteArray.size_extract]; omega
  generalize s.extract 0 (min (s.size : Int) 50).toNat = sd at hsz ⊢
  have HX3 : Hid (Blk (w0.alloc (.cells (bxU3 a b v) 23)) w0.heap.size 23 (bxU3 a b v)) := Blk.new _ _ _
  have HB : Hid (Below w0.heap.size w0 (w0.alloc (.cells (bxU3 a b v) 23))) := Lib.hid ((Below.refl _ _).alloc (Nat.le_refl _) _)
  unfold bxU3 at HX3 HB
  have hzc : (sd ++ (⟨#[99]⟩ : ByteArray)).size ≤ 1000000 := by rw [ByteArray.size_append]; show sd.size + 1 ≤ _; omega
  have hzg : (sd ++ (⟨#[103]⟩ : ByteArray)).size ≤ 1000000 := by rw [ByteArray.size_append]; show sd.size + 1 ≤ _; omega
  have HZC := Lib.hid hzc
  have HZG := Lib.hid hzg
  have HNC := fun W => Lib.hid (mnew_any (sd ++ (⟨#[99]⟩ : ByteArray)) 0 W (by decide) hzc)
  have HNG := fun W => Lib.hid (mnew_any (sd ++ (⟨#[103]⟩ : ByteArray)) 0 W (by decide) hzg)
  clear hzc hzg
  generalize w0.alloc _ = W0 at HX3 HB ⊢
  go_wp2_with fail
  refine (HNC _).out.mono ?_
  rintro e W1 ⟨kb, cb, rfl, hkb, hcb, hk, hb1⟩
  have HK := Lib.hid hk
  replace HX3 := Lib.hid (HX3.out.bel hb1)
  have HQ1 := Lib.hid (show w0.heap.size ≤ cb from Nat.le_trans HB.out.size hcb)
  replace HB := Lib.hid (HB.out.trans (hb1.mono HB.out.size))
  clear hk hb1 hkb hcb HNC
  go_wp2_with fail
  generalize sd ++ (⟨#[99]⟩ : ByteArray) = sc at HK HZC ⊢
  refine (HNG _).out.mono ?_
  rintro e W2 ⟨kg, cg, rfl, hkg, hcg, hk, hb1⟩
  generalize sd ++ (⟨#[103]⟩ : ByteArray) = sg at hk HZG ⊢
  have HT : Hid (TwoK W2 kb cb sc 0 0 kg cg sg 0 0) := Lib.hid ⟨HK.out.bel hb1, hk, by have := HK.out.cnt.lt; omega⟩
  replace HX3 := Lib.hid (HX3.out.bel hb1)
  have HQ2 := Lib.hid (show w0.heap.size ≤ cg from Nat.le_trans HB.out.size hcg)
  replace HB := Lib.hid (HB.out.trans (hb1.mono HB.out.size))
  clear hk hb1 hkg hcg HNG HK
  go_upto_region 6 with fail
  try go_frame
  have q0 := cell_rg (show W2.cell? ⟨w0.heap.size, 0, none⟩ = some (.int .u32 (a : Int)) from HX3.out.cell 0)
  have q1 := cell_rg (show W2.cell? ⟨w0.heap.size, 1, none⟩ = some (.int .u32 (b : Int)) from HX3.out.cell 1)
  refine wp_region_quiet_below (by kernel_rfl) (by kernel_rfl) ?_
  repeat (first | go_big_quiet_skip | (go_big_quiet_want; first | (fail; go_big_quiet_on) | (go_big_quiet_op; first | go_big_quiet_on | go_big_quiet_call (fail))))
  refine wpQuiet_nil ?_
  intro W3 hp
  have hb := bel_regrown hp
  clear hp
  clear q0 q1
  replace HT := Lib.hid (HT.out.bel hb)
  replace HX3 := Lib.hid (HX3.out.bel hb)
  replace HB := Lib.hid (HB.out.trans (hb.mono HB.out.size))
  clear hb
  go_wp2_with fail
  refine (kroot_any kb cb sc 0 0 _ HT.out.kc).mono ?_
  rintro e V ⟨rfl, rfl⟩
  go_wp2_with fail
  refine (kroot_any kg cg sg 0 0 _ HT.out.kg).mono ?_
  rintro e V ⟨rfl, rfl⟩
  have hcl := rootB_size sc 0
  have hgt := rootB_size sg 0
  generalize hcd : rootB sc 0 = cl at hcl ⊢
  generalize hgd : rootB sg 0 = gt at hgt ⊢
  have HCD := Lib.hid hcd
  have HGD := Lib.hid hgd
  clear hcd hgd
  have HLK : Hid (LkOk1 cl gt (1 + a) b (1 + xh)) := Lib.hid ⟨hcl, hgt, by omega, by omega, by omega, by omega, by omega⟩
  have K1 := fun W => Lib.hid (locked1_any cl gt (1 + a) b (1 + xh) W HLK.out)
  rw [show ((1 + a : Nat) : Int) = 1 + (a : Int) from by omega, show ((1 + xh : Nat) : Int) = 1 + (xh : Int) from by omega] at K1
  go_wp2_with fail
  rw [KAND.out, wrap1 hxh]
  refine (K1 _).out.mono ?_
  rintro e W4 ⟨sb, b4, A, c4, rfl, hsb, hbb, hset, hsl, hb⟩
  have HS := Lib.hid hset
  have HL := Lib.hid hsl
  replace HT := Lib.hid (HT.out.bel hb)
  replace HX3 := Lib.hid (HX3.out.bel hb)
  have HSB := Lib.hid (show w0.heap.size ≤ sb from Nat.le_trans HB.out.size hsb)
  have HBB := Lib.hid (show w0.heap.size ≤ b4 from Nat.le_trans HB.out.size hbb)
  replace HB := Lib.hid (HB.out.trans (hb.mono HB.out.size))
  clear hset hsl hb hsb hbb K1
  have hTl := lk1_len cl gt (1 + a) b (1 + xh)
  have he0 : (lkT1 cl gt (1 + a) b (1 + xh))[0]? = some ⟨lkX1 cl gt (1 + a) b (1 + xh), 0, lkoL cl gt (1 + a) (1 + xh)⟩ := by rw [lk1_list]; rfl
  obtain ⟨T, hTT⟩ : ∃ T, T = lkT1 cl gt (1 + a) b (1 + xh) := ⟨_, rfl⟩
  rw [← hTT] at HS HL hTl he0 ⊢
  obtain ⟨x, hxx⟩ : ∃ x : En, x = ⟨lkX1 cl gt (1 + a) b (1 + xh), 0, lkoL cl gt (1 + a) (1 + xh)⟩ := ⟨_, rfl⟩
  rw [← hxx] at he0
  obtain ⟨ab, off, hA, hab, hc⟩ := en_at HL.out x he0
  subst hA
  have HC := Lib.hid hc
  have HX := Lib.hid hab
  clear hc hab
  have hT0 : 0 < T.length := hTl.1
  have hT2 := hTl.2
  have HTT := Lib.hid hTT
  have HXX := Lib.hid hxx
  have HE0 := Lib.hid he0
  clear hTT hxx he0 hTl
  have q2 := (show W4.cell? ⟨w0.heap.size, 2, none⟩ = some (.int .u32 (v : Int)) from HX3.out.cell 2)
  go_wp2_with (refine wpList_load_pt rfl (.tmp 85) rfl ab off (by rfl) x.tx 0 (fun j u hu => HC.out j u (by rw [HXX.out]; match j, hu with | 0, hu => rw [HXX.out] at hu; exact hu | 1, hu => exact hu | j + 2, hu => simp [ptCl] at hu)) ?_)
  have htx : x.tx.size = 16 := by rw [HXX.out]; exact lkX1_size _ _ _ _ _
  have hnm : (nameO x.tx 0).size = 16 := nameO_size _ _
  have KNM := cname_gen x.tx 0 W4 (by rw [htx]; decide)
  refine KNM.mono ?_
  rintro e V ⟨rfl, hb⟩
  replace HX3 := Lib.hid (HX3.out.bel hb)
  replace HS := Lib.hid (HS.out.bel hb)
  replace HL := Lib.hid (sl_bel HL.out hb)
  replace HT := Lib.hid (HT.out.bel hb)
  replace HC := Lib.hid (rows_bel HC.out HX.out hb)
  replace HX := Lib.hid (Nat.lt_of_lt_of_le HX.out (Below.size hb))
  replace HB := Lib.hid (HB.out.trans (Below.mono hb HB.out.size))
  clear hb KNM q2
  generalize hnd : nameO x.tx 0 = nm at hnm ⊢
  have HND := Lib.hid hnd
  clear hnd
  have KV := fun W => Lib.hid (voucher_any nm (1 + v) W (by omega) (by omega))
  rw [show ((1 + v : Nat) : Int) = 1 + (v : Int) from by omega] at KV
  go_wp2_with fail
  refine (KV _).out.mono ?_
  rintro e V ⟨rfl, hb⟩
  replace HX3 := Lib.hid (HX3.out.bel hb)
  replace HS := Lib.hid (HS.out.bel hb)
  replace HL := Lib.hid (sl_bel HL.out hb)
  replace HT := Lib.hid (HT.out.bel hb)
  replace HC := Lib.hid (rows_bel HC.out HX.out hb)
  replace HX := Lib.hid (Nat.lt_of_lt_of_le HX.out (Below.size hb))
  replace HB := Lib.hid (HB.out.trans (Below.mono hb HB.out.size))
  clear hb KV
  go_wp2_with fail
  have hvz : (vouchB nm (1 + v)).size ≤ 900000 := by rw [vouchB_size]; omega
  generalize hvd : vouchB nm (1 + v) = vb at hvz ⊢
  have HVD := Lib.hid hvd
  clear hvd
  refine (ksign_ok kb cb sc vb 0 0 _ (by decide) (by decide) HZC.out hvz HT.out.kc).mono ?_
  rintro e V ⟨rfl, hk, hc⟩
  have hs1 : (signB sc 0 0 vb).size ≤ 400 := by rw [signB_size sc (by decide)]; decide
  have hv1 : verB cl vb (signB sc 0 0 vb) = true := by rw [← HCD.out]; exact ver_sign sc (by decide) (by decide) _
  generalize signB sc 0 0 vb = sv at hs1 hv1 ⊢
  have HS1 := Lib.hid hs1
  have HV1 := Lib.hid hv1
  replace HS := Lib.hid (HS.out.key HT.out.kc hc)
  replace HL := Lib.hid (sl_keyT (j0 := 0) HL.out HT.out.kc hc (fun x => ⟨x.tx, rfl⟩))
  replace HC := Lib.hid (rows_key HC.out HX.out HT.out.kc hc)
  replace HX := Lib.hid (Nat.lt_of_lt_of_le HX.out (Ch.size hc))
  replace HB := Lib.hid (HB.out.trans (Ch.below hc HB.out.size (by have := HQ1.out; simp; omega)))
  replace HT := Lib.hid (HT.out.signC hc hk)
  clear hk hc hs1 hv1 HX3
  by_cases hlow : 1 + v ≤ 10 ∨ 1 + a + b < 1 + v
  · have KP := fun W => Lib.hid (pays_low x (1 + v) (1 + a + b) W hlow)
    rw [show ((1 + v : Nat) : Int) = 1 + (v : Int) from by omega, show ((1 + a + b : Nat) : Int) = 1 + (a : Int) + (b : Int) from by omega] at KP
    go_wp2_with (refine wpList_load_en rfl (.tmp 95) rfl ab off (by rfl) x HC.out ?_)
    refine (KP _).out.mono ?_
    rintro e V ⟨rfl, hb⟩
    replace HB := Lib.hid (HB.out.trans (hb.mono HB.out.size))
    clear hb KP HC HX HL HS HT
    by_cases h10 : 1 + v ≤ 10
    · have d1 : decide ((1 : Int) + (v : Int) ≤ 10) = true := by rw [decide_eq_true_eq]; omega
      go_wp2_with fail
      refine (fixed11_any _).mono ?_
      rintro e V' ⟨rfl, hb⟩
      go_wp2_with fail
      go_ret
      exact ⟨rfl, HB.out.trans (hb.mono HB.out.size)⟩
    · have d1 : decide ((1 : Int) + (v : Int) ≤ 10) = false := by rw [decide_eq_false_iff_not]; omega
      go_wp2_with fail
      refine (fixed11_any _).mono ?_
      rintro e V' ⟨rfl, hb⟩
      go_wp2_with fail
      go_ret
      exact ⟨rfl, HB.out.trans (hb.mono HB.out.size)⟩
  · have hv10 : 10 < 1 + v := by omega
    have hvn : 1 + v ≤ 1 + a + b := by omega
    have hxeq := HXX.out
    have KP := fun W => Lib.hid (pays_ok x (1 + v) (1 + a + b) W hv10 hvn (by omega))
    have hpl := pays_len x (1 + v) (1 + a + b)
    have hpz := pays_z x (show 1 + a + b < 18446744073709551616 by omega) hvn
    have hp0 := pays_head x (1 + v) (1 + a + b)
    have hpt := pays_tot x hv10 hvn
    generalize hpo : paysO x (1 + v) (1 + a + b) = PO at KP hpl hpz hp0 hpt
    have HPO := Lib.hid hpo
    have HPZ := Lib.hid hpz
    have HP0 := Lib.hid hp0
    have HPT := Lib.hid hpt
    clear hpz hp0 hpt hpo hxeq
    rw [show ((1 + v : Nat) : Int) = 1 + (v : Int) from by omega, show ((1 + a + b : Nat) : Int) = 1 + (a : Int) + (b : Int) from by omega] at KP
    go_wp2_with (refine wpList_load_en rfl (.tmp 95) rfl ab off (by rfl) x HC.out ?_)
    refine (KP _).out.mono ?_
    rintro e V ⟨AO, cO, rfl, hso, hb⟩
    have HO := Lib.hid hso
    replace HS := Lib.hid (HS.out.bel hb)
    replace HL := Lib.hid (sl_bel HL.out hb)
    replace HT := Lib.hid (HT.out.bel hb)
    replace HC := Lib.hid (rows_bel HC.out HX.out hb)
    replace HX := Lib.hid (Nat.lt_of_lt_of_le HX.out (Below.size hb))
    replace HB := Lib.hid (HB.out.trans (Below.mono hb HB.out.size))
    clear hb hso KP
    have hsp := spend_any (some ⟨ab, off, none⟩) T c4 2 AO PO cO (vouP (1 + v) sv) kg cg sg 0 0 V HL.out HO.out (sl_wn0 _ _) (by omega) (by omega) (by show (0 : Nat) ≤ 1000; omega) HPZ.out HT.out.kg (by decide) (by decide) HZG.out
    have hco : coreX (spendT none 0 T 2 AO PO cO (vouP (1 + v) sv) ByteArray.empty) = coreOn T 2 PO := by
      have hi := insOn_spend none 0 T 2 AO PO cO (vouP (1 + v) sv) ByteArray.empty (by decide)
      refine hi.core ?_
      have h1 := HTT.out
      have h2 := HPO.out
      have h3 := HS.out.ut.srt
      have h4 := HS.out.ut.ok
      rw [h1] at hi h3 h4 ⊢
      exact claim1_right HLK.out h3 h4 hi rfl (by rw [← HXX.out]; exact h2.symm) hv10 HS1.out
    rw [hco] at hsp
    have hs2 : (signB sg 0 0 (coreOn T 2 PO)).size ≤ 400 := by rw [signB_size sg (by decide)]; decide
    have hv2 : verB gt (coreOn T 2 PO) (signB sg 0 0 (coreOn T 2 PO)) = true := by rw [← HGD.out]; exact ver_sign sg (by decide) (by decide) _
    generalize signB sg 0 0 (coreOn T 2 PO) = sg2 at hsp hs2 hv2
    have hcs : (vouP (1 + v) sv).cs = #[.int .u64 (1 + (v : Int)), .string sv, .string ByteArray.empty, .slice none 0 0] := by
      show #[Value.int .u64 ((1 + v : Nat) : Int), .string sv, .string ByteArray.empty, .slice none 0 0] = _
      rw [show ((1 + v : Nat) : Int) = 1 + (v : Int) from by omega]
    rw [hcs] at hsp
    clear hcs
    have HSP := Lib.hid hsp
    clear hsp
    have d1 : decide ((1 : Int) + (v : Int) ≤ 10) = false := by rw [decide_eq_false_iff_not]; omega
    have d2 : decide ((1 : Int) + (a : Int) + (b : Int) < 1 + (v : Int)) = false := by rw [decide_eq_false_iff_not]; omega
    go_wp2_with fail
    refine HSP.out.mono ?_
    rintro e V6 ⟨A1, c1, rfl, hm1, hk, hc⟩
    clear HSP
    obtain ⟨t1, ht1⟩ : ∃ t1, t1 = spendT A1 c1 T 2 AO PO cO (vouP (1 + v) sv) sg2 := ⟨_, rfl⟩
    have hin := insOn_spend A1 c1 T 2 AO PO cO (vouP (1 + v) sv) sg2 hs2
    rw [← ht1] at hin hm1 ⊢
    have HE1 : Hid (checkE T t1 ht = 0) := Lib.hid (by
      have h1 := HTT.out
      have h2 := HPO.out
      have h3 := HS.out.ut.srt
      have h4 := HS.out.ut.ok
      have h5 : t1.outs = PO := by rw [ht1]; rfl
      have h6 : t1.p = vouP (1 + v) sv := by rw [ht1]; rfl
      have h7 : ∀ i ∈ t1.ins, verB gt (coreOn T 2 t1.outs) i.sig = true := by
        intro i hi
        rw [h5]
        rw [ht1] at hi
        obtain ⟨e, _, rfl⟩ := List.mem_map.1 hi
        exact hv2
      clear ht1
      rw [h1] at hin h3 h4 h7 ⊢
      exact (claim_ok HLK.out h3 h4 hin h6 (by rw [h5, ← HXX.out]; exact h2.symm) hv10 hvn (by omega) HS1.out (by have := HV1.out; rw [← HVD.out, ← HND.out, HXX.out] at this; exact this) h7 ht).2)
    have HE2 : Hid (applyT T t1 = utN (idT t1) PO) := Lib.hid (by rw [hin.apply, ht1]; rfl)
    have HX1 : Hid (TxOk t1) := Lib.hid (by rw [ht1]; exact txok_spend (by omega) (by omega) (pfok_vou (1 + v) sv HS1.out (by omega)) HPZ.out)
    have HM1 := Lib.hid hm1
    replace HO := Lib.hid (sl_keyT (j0 := 2) HO.out HT.out.kg hc (fun x => ⟨x.key, rfl⟩))
    replace HS := Lib.hid (HS.out.key HT.out.kg hc)
    replace HL := Lib.hid (sl_keyT (j0 := 0) HL.out HT.out.kg hc (fun x => ⟨x.tx, rfl⟩))
    replace HC := Lib.hid (rows_key HC.out HX.out HT.out.kg hc)
    replace HX := Lib.hid (Nat.lt_of_lt_of_le HX.out (Ch.size hc))
    replace HB := Lib.hid (HB.out.trans (Ch.below hc HB.out.size (by have := HQ2.out; simp; omega)))
    replace HT := Lib.hid (HT.out.signG hc hk)
    clear hk hc hco hs2 hv2 hm1 ht1 hin
    go_wp2_with (first
      | (refine wpList_store_part rfl 53 (.tmp 20) (.tmp 129) rfl V6.heap.size 0 (cs := zTx0) (Blk.new _ _ _) t1.cs t1.cs (by rfl) (by rfl) (Nat.le_refl 6) infoTx (txncs_one t1) (txn_over t1 rfl) ?_; intro V7 hb1 hc1; have hb := bel_st' hc1; have H20 := Lib.hid hb1; replace HO := Lib.hid (sl_bel HO.out hb); replace HM1 := Lib.hid (HM1.out.bel hb); replace HS := Lib.hid (HS.out.bel hb); replace HL := Lib.hid (sl_bel HL.out hb); replace HT := Lib.hid (HT.out.bel hb); replace HC := Lib.hid (rows_bel HC.out HX.out hb); replace HX := Lib.hid (Nat.lt_of_lt_of_le HX.out (Below.size hb)); replace HB := Lib.hid (HB.out.trans (Below.mono hb HB.out.size)); clear hb1 hc1 hb)
      | (refine wpList_load_blk rfl 53 (.tmp 20) rfl V6.heap.size 0 6 H20.out t1.cs (by rfl) (txn_ext t1) Tryz.underlying53 infoTx (Nat.le_refl 6) ?_))
    have hxg : x.o.gate = gt := by rw [HXX.out]; rfl
    have hp0 := HP0.out
    rw [hxg] at hp0
    obtain ⟨ob, oo, hAO, hob, hOc⟩ := HO.out (by intro e; rw [e] at hp0; cases hp0)
    subst hAO
    have hO0 : ∀ j u, (payO (1 + v - 10) gt).cl[j]? = some u → V7.cell? ⟨ob, oo + j, none⟩ = some u := fun j u hu => by have := hOc 0 _ hp0 j u hu; simpa using this
    have HTK : Hid (TOk T) := Lib.hid (by
      have h1 := HTT.out
      have h4 := HS.out.ut.ok
      rw [h1] at h4 ⊢
      exact lk1_tok HLK.out h4)
    have K := apply_any sb b4 T t1 ht V7 HS.out HM1.out HTK.out HX1.out
    rw [HE1.out, HE2.out] at K
    refine K.mono ?_
    rintro e X2 ⟨rfl, hc, hset⟩
    rw [if_pos rfl] at hset
    have HO0 := Lib.hid (rows_set (by intro e; cases e) hO0 hob HS.out hc)
    have HKG := Lib.hid (HT.out.kg.set HS.out hc)
    have HOB : Hid (ob < X2.heap.size) := Lib.hid (Nat.lt_of_lt_of_le hob hc.size)
    replace HB := Lib.hid (HB.out.trans (hc.below HB.out.size (by have := HBB.out; simp; omega)))
    have hln : (utN (idT t1) PO).length = PO.length := utN_len _ _
    have htp : topsI (utN (idT t1) PO) = ousI PO := topsI_utN _ _
    have ham := utN_ams (id := idT t1) HPZ.out
    have hpt := HPT.out
    generalize utN (idT t1) PO = T2 at hset hln htp ham
    have HA2 := fun W (h : SetAt W sb b4 T2) => Lib.hid (all_n PO.length sb b4 T2 W h hln (by omega) (by omega))
    have HTO := fun W (h : SetAt W sb b4 T2) => Lib.hid (total_any sb b4 T2 W h (by omega) (by omega) ham)
    rw [htp, show totV (ousI PO) = 1 + (a : Int) + (b : Int) - 10 from by unfold totV; rw [if_pos (by omega)]; omega, show totE (ousI PO) = 0 from by unfold totE; rw [if_pos (by omega)]] at HTO
    have HS2 := Lib.hid hset
    clear hset hc hO0 hOc hob hp0 K HM1 HX1 HE1 HE2 H20 HO HS HL HC HX HT htp ham hpt
    go_wp2_with fail
    refine (HA2 _ HS2.out).out.mono ?_
    rintro e X3 ⟨AV, cV, rfl, _, hb⟩
    replace HS2 := Lib.hid (HS2.out.bel hb)
    replace HKG := Lib.hid (HKG.out.bel hb)
    replace HO0 := Lib.hid (fun j u hu => (hb.cell (p := ⟨ob, oo + j, none⟩) (Nat.lt_of_lt_of_le HOB.out (Nat.le_refl _))).trans (HO0.out j u hu))
    replace HOB := Lib.hid (Nat.lt_of_lt_of_le HOB.out hb.size)
    replace HB := Lib.hid (HB.out.trans (hb.mono HB.out.size))
    clear hb HA2
    have hPl : ¬ ((PO.length : Int) < 1) := by omega
    go_wp2_with fail
    refine (HTO _ HS2.out).out.mono ?_
    rintro e X4 ⟨rfl, hb⟩
    replace HKG := Lib.hid (HKG.out.bel hb)
    replace HO0 := Lib.hid (fun j u hu => (hb.cell (p := ⟨ob, oo + j, none⟩) (Nat.lt_of_lt_of_le HOB.out (Nat.le_refl _))).trans (HO0.out j u hu))
    replace HOB := Lib.hid (Nat.lt_of_lt_of_le HOB.out hb.size)
    replace HB := Lib.hid (HB.out.trans (hb.mono HB.out.size))
    clear hb HTO HS2
    go_upto_region 20 with fail
    try go_frame
    have q2 := cell_rg (show X4.cell? ⟨ob, oo + 2, none⟩ = some (.string gt) from HO0.out 2 _ rfl)
    have q1 := cell_rg (show X4.cell? ⟨ob, oo + 1, none⟩ = some (.int .u64 (1 + (v : Int) - 10)) from (HO0.out 1 _ rfl).trans (by show some (Value.int .u64 ((1 + v - 10 : Nat) : Int)) = _; rw [show ((1 + v - 10 : Nat) : Int) = 1 + (v : Int) - 10 from by omega]))
    have HRG : Hid (∀ W, Below X4.heap.size X4 W → Calls Tryz.prog 10 #[.pointer (some ⟨kg, 0, none⟩)] W fun e w' => e = .returned (.string gt) ∧ W = w') := Lib.hid (fun W hW => by have := kroot_any kg cg sg 0 1 W (HKG.out.bel hW); rwa [HGD.out] at this)
    have hT0' : 0 < PO.length := by omega
    refine wp_region_quiet_below (by kernel_rfl) (by kernel_rfl) ?_
    repeat (first | go_big_quiet_skip | (go_big_quiet_want; first | (fail; go_big_quiet_on) | (go_big_quiet_op; first | go_big_quiet_on | go_big_quiet_call ((first
        | (go_at_call 10; with_reducible exact Calls.rg_same' fun W hW => HRG.out W hW)
        | (with_reducible exact Calls.rg fun W hW => fixed11_any W))))))
    refine wpQuiet_nil ?_
    intro Z hp
    have hb := bel_regrown hp
    clear hp
    go_wp2_with fail
    go_ret
    exact ⟨rfl, HB.out.trans (hb.mono HB.out.size)⟩
end Go.Proofs.YtdoebmikjgmnaaaGreat
