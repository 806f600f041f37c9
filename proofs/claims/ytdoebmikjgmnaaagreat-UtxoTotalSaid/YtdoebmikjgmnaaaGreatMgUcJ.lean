/- law11's fixed: the walk. -/
import Derived.Outline
import Derived.Deep.RegionHeld3
import Derived.Test.YtdoebmikjgmnaaaGreatMgEqE
import Derived.Test.YtdoebmikjgmnaaaGreatMgG12
import Derived.Test.YtdoebmikjgmnaaaGreatMgG44
set_option linter.unusedVariables false
set_option linter.unusedSimpArgs false
namespace Go.Proofs.YtdoebmikjgmnaaaGreat
open Go.RowKit Go.Maps
theorem en_at {W : World} {g : Nat} {A : Option Addr} {T : List En} (h : Sl W g 11 En.cl A T) (x : En) (hx : T[0]? = some x) : ∃ ab off, A = some ⟨ab, off, none⟩ ∧ ab < g ∧ ∀ j u, x.cl[j]? = some u → W.cell? ⟨ab, off + j, none⟩ = some u := by
  obtain ⟨ab, off, hA, hlt, hc⟩ := h (by intro e; rw [e] at hx; cases hx)
  exact ⟨ab, off, hA, hlt, fun j u hu => by have := hc 0 x hx j u hu; simpa using this⟩
theorem sl_out1 {W : World} {g : Nat} {o : Ou} (h : Blk W g 41 o.cs) : Sl W W.heap.size 9 Ou.cl (some ⟨g, 0, none⟩) [o] := Sl.of_own (base := g) (n := 1) (c := 1) (e := 41) (fun _ => rfl) (by rw [List.flatMap_singleton]; exact own_lit (base := g) (n := 1) (k := 9) (cs := o.cs) h (Nat.le_refl _) rfl (by decide))
theorem txok_spend {A : Option Addr} {c : Nat} {L : List En} {path : Int} {B : Option Addr} {outs : List Ou} {d : Nat} {p : Pf} {sig : ByteArray} (hl : L.length ≤ 1000) (ho : outs.length ≤ 1000) (hp : PfOk p) (hz : ∀ o ∈ outs, o.am < 18446744073709551616 ∧ o.unit < 18446744073709551616) : TxOk (spendT A c L path B outs d p sig) :=
  ⟨by show (insOf L path sig).length ≤ 1000; rw [insOf_len]; exact hl, ho, hp, hz⟩
theorem pfok_vou (v : Nat) (sg : ByteArray) (h : sg.size ≤ 400) (hv : v < 18446744073709551616) : PfOk (vouP v sg) := ⟨by show (0 : Nat) ≤ 1000; omega, (fun x hx => by cases hx), by show sg.size ≤ 1000000; omega, hv⟩
theorem pfok_no : PfOk noPf := ⟨by decide, (fun x hx => by cases hx), by decide, by decide⟩
theorem o11_z : ∀ o ∈ O11, o.am < 18446744073709551616 ∧ o.unit < 18446744073709551616 := by
  intro o ho
  rcases List.mem_cons.1 ho with rfl | ho
  · exact ⟨by show (50 : Nat) < _; decide, by show (0 : Nat) < _; decide⟩
  · rw [List.mem_singleton.1 ho]; exact ⟨by show (60 : Nat) < _; decide, by show (0 : Nat) < _; decide⟩
theorem p110_z : ∀ o ∈ [payO 110 rC], o.am < 18446744073709551616 ∧ o.unit < 18446744073709551616 := by
  intro o ho
  rw [List.mem_singleton.1 ho]; exact ⟨by show (110 : Nat) < _; decide, by show (0 : Nat) < _; decide⟩
theorem rows_key {w w' : World} {ab off kb cb h i : Nat} {seed : ByteArray} {x : En} (hr : ∀ j v, x.cl[j]? = some v → w.cell? ⟨ab, off + j, none⟩ = some v) (hlt : ab < w.heap.size) (k : KeyAt w kb cb seed h i) (hc : Ch [cb] w w') : ∀ j v, x.cl[j]? = some v → w'.cell? ⟨ab, off + j, none⟩ = some v := by
  intro j v hv
  have hne : ab ≠ cb := by
    rintro rfl
    have h0 := hr 0 (.string x.tx) rfl
    rw [k.cnt.cell] at h0
    match off + 0, h0 with
    | 0, h0 => simp at h0
    | 1, h0 => simp at h0
    | n + 2, h0 => simp at h0
  have e := hc.block ab hlt (by simpa using hne)
  rw [← hr j v hv]
  unfold World.cell?
  rw [e]
theorem wpList_load_rowG {ops : Array Oper} {rest : List Oper} {o : Oper} {a : Act} {w : World} {Q : Exit → Act → World → Prop} (hw : Region.wanted o (yielded ops a.tmps) = true) (ty : TypeId) (x : Operand) (ho : o.op = .load ty x)
    (b off : Nat) (cl : List Value) {fs : Array Field} (hc : ∀ j v, cl[j]? = some v → w.cell? ⟨b, off + j, none⟩ = some v) (part : Array Value) (hx : a.eval x = .pointer (some ⟨b, off, none⟩)) (hp : cl.toArray = part)
    (hu : Tryz.prog.underlying ty = some (.struct fs)) (hi : (Tryz.prog.info? ty).map (·.size) = some cl.length)
    (h : wpList Tryz.prog ops Q rest (a.put o.dst (.agg part)) w) : wpList Tryz.prog ops Q (o :: rest) a w := by
  subst hp
  refine wpList_step fun K hK => ?_
  rw [if_pos hw]
  exact wp_load_mid ty x ho b off hx cl _ hc hu rfl hi (hK _ _ h)
theorem pfv_one (p : Pf) : p.cs.all (·.oneCell') = true := by
  rw [Array.all_eq_true']
  intro x hx
  simp only [Pf.cs, List.mem_toArray, List.mem_cons, List.not_mem_nil, or_false] at hx
  rcases hx with rfl | rfl | rfl | rfl <;> rfl
theorem sl_wn0 (W : World) (g : Nat) : Sl W g 10 Wn.cl none [] := Sl.nil _ _ _ _ _
set_option maxRecDepth 100000 in
set_option maxHeartbeats 3000000 in
theorem fixed11_any (w0 : World) : Calls Tryz.prog 15 #[] w0 fun e w' => e = .returned (.bool true) ∧ Below w0.heap.size w0 w' := by
  have HNC := fun W => Lib.hid (mnew_any sdC 1 W (by decide) (by decide))
  have HNG := fun W => Lib.hid (mnew_any sdG 0 W (by decide) (by decide))
  go_enter Tryz.func15, Tryz.ntmps15
  go_wp2_with fail
  refine (HNC _).out.mono ?_
  rintro e W1 ⟨kb, cb, rfl, hkb, hcb, hk, hb⟩
  have HK := Lib.hid hk
  have HB := Lib.hid hb
  have HZ : Hid (w0.heap.size ≤ cb) := Lib.hid hcb
  clear hk hb HNC hkb hcb
  go_wp2_with fail
  refine (HNG _).out.mono ?_
  rintro e W2 ⟨kg, cg, rfl, hkg, hcg, hg, hb⟩
  have HT : Hid (TwoK W2 kb cb sdC 1 0 kg cg sdG 0 0) := Lib.hid ⟨HK.out.bel hb, hg, by have := HK.out.cnt.lt; omega⟩
  replace HB := Lib.hid (HB.out.trans (hb.mono HB.out.size))
  have HZG : Hid (w0.heap.size ≤ cg) := Lib.hid (by have := HK.out.cnt.lt; have := HZ.out; omega)
  clear hg hb HNG hkg hcg HK
  go_wp2_with fail
  refine (kroot_any kb cb sdC 1 0 _ HT.out.kc).mono ?_
  rintro e V ⟨rfl, rfl⟩
  go_wp2_with fail
  refine (kroot_any kg cg sdG 0 0 _ HT.out.kg).mono ?_
  rintro e V ⟨rfl, rfl⟩
  rw [show rootB sdC 1 = rC from rfl, show rootB sdG 0 = rG from rfl]
  go_wp2_with fail
  refine (locked11 _).mono ?_
  rintro e W3 ⟨sb, b, A, c, rfl, hsb, hbb, hset, hsl, hb⟩
  have HS := Lib.hid hset
  have HL := Lib.hid hsl
  replace HT := Lib.hid (HT.out.bel hb)
  replace HB := Lib.hid (HB.out.trans (hb.mono HB.out.size))
  clear hset hsl hb hsb hbb
  obtain ⟨ab, off, hA, hab, hc⟩ := en_at HL.out l0C rfl
  subst hA
  have HC := Lib.hid hc
  have HX := Lib.hid hab
  clear hc hab
  go_wp2_with (refine wpList_load_pt rfl (.tmp 72) rfl ab off (by rfl) tx11 0 (fun j u hu => HC.out j u (by match j, hu with | 0, hu => exact hu | 1, hu => exact hu | j + 2, hu => simp [ptCl] at hu)) ?_)
  refine (cname_gen tx11 0 _ (by rw [tx11_size]; decide)).mono ?_
  rintro e V ⟨rfl, hb⟩
  rw [show nameO tx11 0 = ch11 from rfl]
  replace HS := Lib.hid (HS.out.bel hb)
  replace HL := Lib.hid (sl_bel HL.out hb)
  replace HT := Lib.hid (HT.out.bel hb)
  replace HC := Lib.hid (rows_bel HC.out HX.out hb)
  replace HX := Lib.hid (Nat.lt_of_lt_of_le HX.out (Below.size hb))
  replace HB := Lib.hid (HB.out.trans (Below.mono hb HB.out.size))
  clear hb
  go_wp2_with fail
  refine (voucher_any ch11 60 _ (by rw [show ch11.size = 16 from nameO_size _ _]; decide) (by decide)).mono ?_
  rintro e V2 ⟨rfl, hb⟩
  replace HS := Lib.hid (HS.out.bel hb)
  replace HL := Lib.hid (sl_bel HL.out hb)
  replace HT := Lib.hid (HT.out.bel hb)
  replace HC := Lib.hid (rows_bel HC.out HX.out hb)
  replace HX := Lib.hid (Nat.lt_of_lt_of_le HX.out (Below.size hb))
  replace HB := Lib.hid (HB.out.trans (Below.mono hb HB.out.size))
  clear hb
  go_wp2_with fail
  refine (ksign_ok kb cb sdC (vouchB ch11 60) 1 0 _ (by decide) (by decide) (by decide) (by rw [vouchB_size, show ch11.size = 16 from nameO_size _ _]; decide) HT.out.kc).mono ?_
  rintro e V3 ⟨rfl, hk, hc⟩
  rw [show signB sdC 1 0 (vouchB ch11 60) = sv60 from rfl]
  replace HS := Lib.hid (HS.out.key HT.out.kc hc)
  replace HL := Lib.hid (sl_keyT (j0 := 0) HL.out HT.out.kc hc (fun x => ⟨x.tx, rfl⟩))
  replace HC := Lib.hid (rows_key HC.out HX.out HT.out.kc hc)
  replace HX := Lib.hid (Nat.lt_of_lt_of_le HX.out (Ch.size hc))
  replace HB := Lib.hid (HB.out.trans (Ch.below hc HB.out.size (by have := HZ.out; simp; omega)))
  replace HT := Lib.hid (HT.out.signC hc hk)
  clear hk hc
  go_wp2_with (refine wpList_load_en rfl (.tmp 81) rfl ab off (by rfl) l0C HC.out ?_)
  refine (pays11 _).mono ?_
  rintro e V4 ⟨AO, cO, rfl, hso, hb⟩
  have HO := Lib.hid hso
  replace HS := Lib.hid (HS.out.bel hb)
  replace HL := Lib.hid (sl_bel HL.out hb)
  replace HT := Lib.hid (HT.out.bel hb)
  replace HC := Lib.hid (rows_bel HC.out HX.out hb)
  replace HX := Lib.hid (Nat.lt_of_lt_of_le HX.out (Below.size hb))
  replace HB := Lib.hid (HB.out.trans (Below.mono hb HB.out.size))
  clear hb hso
  go_wp2_with (refine wpList_load_en rfl (.tmp 88) rfl ab off (by rfl) l0C HC.out ?_)
  refine (pays11_low _).mono ?_
  rintro e V5 ⟨rfl, hb⟩
  replace HO := Lib.hid (sl_bel HO.out hb)
  replace HS := Lib.hid (HS.out.bel hb)
  replace HL := Lib.hid (sl_bel HL.out hb)
  replace HT := Lib.hid (HT.out.bel hb)
  replace HC := Lib.hid (rows_bel HC.out HX.out hb)
  replace HX := Lib.hid (Nat.lt_of_lt_of_le HX.out (Below.size hb))
  replace HB := Lib.hid (HB.out.trans (Below.mono hb HB.out.size))
  clear hb
  go_wp2_with fail
  have hsp := spend_any (some ⟨ab, off, none⟩) L11 c 2 AO O11 cO (vouP 60 sv60) kg cg sdG 0 0 V5 HL.out HO.out (sl_wn0 _ _) (by decide) (by decide) (by show (0 : Nat) ≤ 1000; omega) o11_z HT.out.kg (by decide) (by decide) (by decide)
  have hco := claim11_core (A := none) (c := 0) (B := AO) (d := cO) (sig := ByteArray.empty) HS.out.ut.srt HS.out.ut.ok 60 (by decide)
  rw [show coreX (spendT none 0 L11 2 AO O11 cO (vouP 60 sv60) ByteArray.empty) = coreOn L11 2 O11 from hco] at hsp
  have hs1 : (signB sdG 0 0 (coreOn L11 2 O11)).size ≤ 400 := by rw [signB_size sdG (by decide)]; decide
  have hv1 : verB rG (coreOn L11 2 O11) (signB sdG 0 0 (coreOn L11 2 O11)) = true := ver_sign sdG (by decide) (by decide) _
  generalize signB sdG 0 0 (coreOn L11 2 O11) = sg1 at hsp hs1 hv1
  refine hsp.mono ?_
  rintro e V6 ⟨A1, c1, rfl, hm1, hk, hc⟩
  obtain ⟨t1, ht1⟩ : ∃ t1, t1 = claim11 A1 c1 AO cO (vouP 60 sv60) sg1 := ⟨_, rfl⟩
  obtain ⟨t4, ht4⟩ : ∃ t4, t4 = claim11 A1 c1 AO cO (vouP 61 sv60) sg1 := ⟨_, rfl⟩
  have HE1 : Hid (checkE L11 t1 3 = 0) := Lib.hid (by rw [ht1]; exact claim11_ok HS.out.ut.srt HS.out.ut.ok hs1 hv1 3)
  have HE2 : Hid (applyT L11 t1 = T11) := Lib.hid (by rw [ht1]; exact claim11_apply HS.out.ut.srt HS.out.ut.ok hs1)
  have HE3 : Hid (checkE T11 t1 3 = 6) := Lib.hid (by rw [ht1]; exact claim11_none HS.out.ut.srt HS.out.ut.ok hs1 3)
  have HE4 : Hid (checkE L11 t4 3 = 10) := Lib.hid (by rw [ht4]; exact claim11_bad HS.out.ut.srt HS.out.ut.ok hs1 hv1 3)
  have HX1 : Hid (TxOk t1) := Lib.hid (by rw [ht1]; exact txok_spend (by decide) (by decide) (pfok_vou 60 sv60 sv60_size (by decide)) o11_z)
  have HX4 : Hid (TxOk t4) := Lib.hid (by rw [ht4]; exact txok_spend (by decide) (by decide) (pfok_vou 61 sv60 sv60_size (by decide)) o11_z)
  have HM1 : Hid (t1.mem V6) := Lib.hid (by rw [ht1]; exact hm1)
  have HM4 : Hid (∀ W, t1.mem W → t4.mem W) := Lib.hid (fun W h => by rw [ht1] at h; rw [ht4]; exact ⟨h.ins, h.outs, h.wins⟩)
  have HOV : Hid (over t1.cs 2 (vouP 61 sv60).cs.toList = t4.cs) := Lib.hid (by rw [ht1, ht4]; rfl)
  have hcs : (spendT A1 c1 L11 2 AO O11 cO (vouP 60 sv60) sg1).cs = t1.cs := by rw [ht1]; rfl
  rw [hcs]
  replace HO := Lib.hid (sl_keyT (j0 := 2) HO.out HT.out.kg hc (fun x => ⟨x.key, rfl⟩))
  replace HS := Lib.hid (HS.out.key HT.out.kg hc)
  replace HL := Lib.hid (sl_keyT (j0 := 0) HL.out HT.out.kg hc (fun x => ⟨x.tx, rfl⟩))
  replace HC := Lib.hid (rows_key HC.out HX.out HT.out.kg hc)
  replace HX := Lib.hid (Nat.lt_of_lt_of_le HX.out (Ch.size hc))
  replace HB := Lib.hid (HB.out.trans (Ch.below hc HB.out.size (by have := HZG.out; simp; omega)))
  replace HT := Lib.hid (HT.out.signG hc hk)
  clear hk hc hsp hco hs1 hv1 hm1 hcs ht1 ht4
  go_wp2_with (refine wpList_store_part rfl 53 (.tmp 13) (.tmp 98) rfl V6.heap.size 0 (cs := zTx0) (Blk.new _ _ _) t1.cs t1.cs (by rfl) (by rfl) (Nat.le_refl 6) infoTx (txncs_one t1) (txn_over t1 rfl) ?_; intro V7 hb1 hc1; have hb := bel_st' hc1; have H13 := Lib.hid hb1; replace HO := Lib.hid (sl_bel HO.out hb); replace HM1 := Lib.hid (HM1.out.bel hb); replace HS := Lib.hid (HS.out.bel hb); replace HL := Lib.hid (sl_bel HL.out hb); replace HT := Lib.hid (HT.out.bel hb); replace HC := Lib.hid (rows_bel HC.out HX.out hb); replace HX := Lib.hid (Nat.lt_of_lt_of_le HX.out (Below.size hb)); replace HB := Lib.hid (HB.out.trans (Below.mono hb HB.out.size)); clear hb1 hc1 hb)
  refine (kroot_any kb cb sdC 1 1 _ HT.out.kc).mono ?_
  rintro e V ⟨rfl, rfl⟩
  rw [show rootB sdC 1 = rC from rfl]
  go_wp2_with fail
  have hb8 : Below V7.heap.size V7 (V7.alloc (.cells (payO 110 rC).cs 41)) := (Below.refl _ _).alloc (Nat.le_refl _) _
  have hsp := spend_any (some ⟨ab, off, none⟩) L11 c 3 (some ⟨V7.heap.size, 0, none⟩) [payO 110 rC] 1 noPf kb cb sdC 1 1 _ (sl_bel HL.out hb8) (sl_out1 (Blk.new V7 41 (payO 110 rC).cs)) (sl_wn0 _ _) (by decide) (by decide) (by decide) p110_z (HT.out.kc.bel hb8) (by decide) (by decide) (by decide)
  have hbr : rightT (back11 none 0 (some ⟨V7.heap.size, 0, none⟩) 1 ByteArray.empty) = true := by
    have hk := lk11'
    exact back_right lkok11 (by rw [hk]; exact HS.out.ut.srt) (by rw [hk]; exact HS.out.ut.ok) (by rw [hk]; exact insOn_spend none 0 L11 3 _ [payO 110 rC] 1 noPf ByteArray.empty (by decide)) rfl rfl (by decide)
  have hco : coreX (spendT none 0 L11 3 (some ⟨V7.heap.size, 0, none⟩) [payO 110 rC] 1 noPf ByteArray.empty) = coreOn L11 3 [payO 110 rC] := (insOn_spend none 0 L11 3 (some ⟨V7.heap.size, 0, none⟩) [payO 110 rC] 1 noPf ByteArray.empty (by decide)).core hbr
  rw [hco] at hsp
  have hs2 : (signB sdC 1 1 (coreOn L11 3 [payO 110 rC])).size ≤ 400 := by rw [signB_size sdC (by decide)]; decide
  have hv2 : verB rC (coreOn L11 3 [payO 110 rC]) (signB sdC 1 1 (coreOn L11 3 [payO 110 rC])) = true := ver_sign sdC (by decide) (by decide) _
  generalize signB sdC 1 1 (coreOn L11 3 [payO 110 rC]) = sg2 at hsp hs2 hv2
  refine hsp.mono ?_
  rintro e V8 ⟨A2, c2, rfl, hm2, hk, hc⟩
  obtain ⟨t2, ht2⟩ : ∃ t2, t2 = back11 A2 c2 (some ⟨V7.heap.size, 0, none⟩) 1 sg2 := ⟨_, rfl⟩
  have HE5 : Hid (checkE L11 t2 8 = 12) := Lib.hid (by rw [ht2]; exact back11_late HS.out.ut.srt HS.out.ut.ok hs2)
  have HE6 : Hid (checkE L11 t2 9 = 0) := Lib.hid (by rw [ht2]; exact back11_ok HS.out.ut.srt HS.out.ut.ok hs2 hv2)
  have HX2 : Hid (TxOk t2) := Lib.hid (by rw [ht2]; exact txok_spend (by decide) (by decide) pfok_no p110_z)
  have HM2 : Hid (t2.mem V8) := Lib.hid (by rw [ht2]; exact hm2)
  have hcs : (spendT A2 c2 L11 3 (some ⟨V7.heap.size, 0, none⟩) [payO 110 rC] 1 noPf sg2).cs = t2.cs := by rw [ht2]; rfl
  rw [hcs]
  have h13n : V6.heap.size ≠ cb := (show Blk V7 _ _ _ from H13.out).ne_ HT.out.kc.cnt (by decide)
  replace H13 := Lib.hid ((Blk.bel H13.out hb8).ch hc (by simpa using h13n))
  replace HO := Lib.hid (sl_keyT (j0 := 2) (sl_bel HO.out hb8) (HT.out.kc.bel hb8) hc (fun x => ⟨x.key, rfl⟩))
  replace HM1 := Lib.hid ((HM1.out.bel hb8).key (HT.out.kc.bel hb8) hc)
  replace HS := Lib.hid (HS.out.bel hb8)
  replace HL := Lib.hid (sl_bel HL.out hb8)
  replace HT := Lib.hid (HT.out.bel hb8)
  replace HC := Lib.hid (rows_bel HC.out HX.out hb8)
  replace HX := Lib.hid (Nat.lt_of_lt_of_le HX.out (Below.size hb8))
  replace HB := Lib.hid (HB.out.trans (Below.mono hb8 HB.out.size))
  replace HS := Lib.hid (HS.out.key HT.out.kc hc)
  replace HL := Lib.hid (sl_keyT (j0 := 0) HL.out HT.out.kc hc (fun x => ⟨x.tx, rfl⟩))
  replace HC := Lib.hid (rows_key HC.out HX.out HT.out.kc hc)
  replace HX := Lib.hid (Nat.lt_of_lt_of_le HX.out (Ch.size hc))
  replace HB := Lib.hid (HB.out.trans (Ch.below hc HB.out.size (by have := HZ.out; simp; omega)))
  replace HT := Lib.hid (HT.out.signC hc hk)
  clear hk hc hsp hco hs2 hv2 hm2 hcs ht2 hbr hb8 h13n
  generalize V6.heap.size = a13 at H13 ⊢
  have HTK : Hid (TOk L11) := Lib.hid (by have := lk1_tok lkok11 (by rw [lk11']; exact HS.out.ut.ok); rwa [lk11'] at this)
  go_upto_region 13 with (refine wpList_store_part rfl 53 (.tmp 14) (.tmp 106) rfl V8.heap.size 0 (cs := zTx0) (Blk.new _ _ _) t2.cs t2.cs (by rfl) (by rfl) (Nat.le_refl 6) infoTx (txncs_one t2) (txn_over t2 rfl) ?_; intro V9 hb1 hc1; have hb := bel_st' hc1; have H14 := Lib.hid hb1; replace H13 := Lib.hid (H13.out.bel hb); replace HO := Lib.hid (sl_bel HO.out hb); replace HM1 := Lib.hid (HM1.out.bel hb); replace HM2 := Lib.hid (HM2.out.bel hb); replace HS := Lib.hid (HS.out.bel hb); replace HL := Lib.hid (sl_bel HL.out hb); replace HT := Lib.hid (HT.out.bel hb); replace HC := Lib.hid (rows_bel HC.out HX.out hb); replace HX := Lib.hid (Nat.lt_of_lt_of_le HX.out (Below.size hb)); replace HB := Lib.hid (HB.out.trans (Below.mono hb HB.out.size)); clear hb1 hc1 hb)
  go_frame
  have K8 := fun W (hb : Below V9.heap.size V9 W) => Lib.hid (check_any sb b L11 t2 8 W (HS.out.bel hb) (HM2.out.bel hb) HTK.out HX2.out)
  have K9 := fun W (hb : Below V9.heap.size V9 W) => Lib.hid (check_any sb b L11 t2 9 W (HS.out.bel hb) (HM2.out.bel hb) HTK.out HX2.out)
  rw [HE5.out] at K8
  rw [HE6.out] at K9
  refine wp_region_quiet_below (by kernel_rfl) (by kernel_rfl) ?_
  repeat (first | go_big_quiet_skip | (go_big_quiet_want; first | ((refine quiet_load_blk 53 (.tmp 14) rfl V8.heap.size 0 6 H14.out t2.cs (by rfl) (txn_ext t2) Tryz.underlying53 infoTx (Nat.le_refl 6) ?_; go_simp); go_big_quiet_on) | (go_big_quiet_op; first | go_big_quiet_on | go_big_quiet_call ((go_at_call 20; first | (with_reducible exact Calls.rg fun W hb => (K8 W hb).out) | (with_reducible exact Calls.rg fun W hb => (K9 W hb).out))))))
  refine wpQuiet_nil ?_
  intro V10 hp
  have hb := bel_regrown hp
  clear hp
  replace H13 := Lib.hid (H13.out.bel hb)
  replace HO := Lib.hid (sl_bel HO.out hb)
  replace HM1 := Lib.hid (HM1.out.bel hb)
  replace HS := Lib.hid (HS.out.bel hb)
  replace HL := Lib.hid (sl_bel HL.out hb)
  replace HT := Lib.hid (HT.out.bel hb)
  replace HC := Lib.hid (rows_bel HC.out HX.out hb)
  replace HX := Lib.hid (Nat.lt_of_lt_of_le HX.out (Below.size hb))
  replace HB := Lib.hid (HB.out.trans (Below.mono hb HB.out.size))
  clear hb K8 K9 H14 HM2 HE5 HE6 HX2
  go_wp2_with (refine wpList_load_blk rfl 53 (.tmp 13) rfl a13 0 6 H13.out t1.cs (by rfl) (txn_ext t1) Tryz.underlying53 infoTx (Nat.le_refl 6) ?_)
  have K3 := check_any sb b L11 t1 3 V10 HS.out HM1.out HTK.out HX1.out
  rw [HE1.out] at K3
  refine K3.mono ?_
  rintro e V11 ⟨rfl, hb⟩
  replace H13 := Lib.hid (H13.out.bel hb)
  replace HO := Lib.hid (sl_bel HO.out hb)
  replace HM1 := Lib.hid (HM1.out.bel hb)
  replace HS := Lib.hid (HS.out.bel hb)
  replace HL := Lib.hid (sl_bel HL.out hb)
  replace HT := Lib.hid (HT.out.bel hb)
  replace HC := Lib.hid (rows_bel HC.out HX.out hb)
  replace HX := Lib.hid (Nat.lt_of_lt_of_le HX.out (Below.size hb))
  replace HB := Lib.hid (HB.out.trans (Below.mono hb HB.out.size))
  clear hb K3
  go_wp2_with (first
    | (refine wpList_load_blk rfl 53 (.tmp 13) rfl a13 0 6 H13.out t1.cs (by rfl) (txn_ext t1) Tryz.underlying53 infoTx (Nat.le_refl 6) ?_)
    | (refine wpList_store_part rfl 53 (.tmp 18) (.tmp 116) rfl V11.heap.size 0 (cs := zTx0) (Blk.new _ _ _) t1.cs t1.cs (by rfl) (by rfl) (Nat.le_refl 6) infoTx (txncs_one t1) (txn_over t1 rfl) ?_; intro V12 hb1 hc1; have hb := bel_st' hc1; have H18 := Lib.hid hb1; have HB12 := Lib.hid hb; clear hb1 hc1 hb)
    | (refine wpList_store_part rfl 51 (.tmp 119) (.tmp 118) rfl V11.heap.size 2 H18.out (vouP 61 sv60).cs t4.cs (by rfl) (by rfl) (by show 6 ≤ 6; omega) infoPf (pfv_one _) HOV.out ?_; intro V13 hb1 hc1; have H19 := Lib.hid hb1; have HB13 := Lib.hid (HB12.out.trans (hc1.below HB12.out.size (by simp))); clear hb1 hc1)
    | (refine wpList_load_blk rfl 53 (.tmp 18) rfl V11.heap.size 0 6 H19.out t4.cs (by rfl) (txn_ext t4) Tryz.underlying53 infoTx (Nat.le_refl 6) ?_))
  have hb13 := HB13.out
  replace H13 := Lib.hid (H13.out.bel hb13)
  replace HO := Lib.hid (sl_bel HO.out hb13)
  replace HM1 := Lib.hid (HM1.out.bel hb13)
  replace HS := Lib.hid (HS.out.bel hb13)
  replace HL := Lib.hid (sl_bel HL.out hb13)
  replace HT := Lib.hid (HT.out.bel hb13)
  replace HC := Lib.hid (rows_bel HC.out HX.out hb13)
  replace HX := Lib.hid (Nat.lt_of_lt_of_le HX.out (Below.size hb13))
  replace HB := Lib.hid (HB.out.trans (Below.mono hb13 HB.out.size))
  clear hb13 HB13 HB12 H18
  have K3 := check_any sb b L11 t4 3 V13 HS.out (HM4.out _ HM1.out) HTK.out HX4.out
  rw [HE4.out] at K3
  refine K3.mono ?_
  rintro e V14 ⟨rfl, hb⟩
  replace H13 := Lib.hid (H13.out.bel hb)
  replace HO := Lib.hid (sl_bel HO.out hb)
  replace HM1 := Lib.hid (HM1.out.bel hb)
  replace HS := Lib.hid (HS.out.bel hb)
  replace HL := Lib.hid (sl_bel HL.out hb)
  replace HT := Lib.hid (HT.out.bel hb)
  replace HC := Lib.hid (rows_bel HC.out HX.out hb)
  replace HX := Lib.hid (Nat.lt_of_lt_of_le HX.out (Below.size hb))
  replace HB := Lib.hid (HB.out.trans (Below.mono hb HB.out.size))
  clear hb K3 H19 HE4 HX4 HM4 HOV
  generalize V11.heap.size = a18
  go_wp2_with fail
  refine (ucopy_any sb b L11 V14 HS.out).mono ?_
  rintro e V15 ⟨sm, bm, rfl, hsm, hbm, hset, hb⟩
  have HSM := Lib.hid hset
  have HB15 : Hid (Below V14.heap.size V14 V15) := Lib.hid hb
  have HZM : Hid (V14.heap.size ≤ sm ∧ V14.heap.size ≤ bm) := Lib.hid ⟨hsm, hbm⟩
  clear hset hb hsm hbm
  go_upto_region 21 with fail
  have HAP := fun W (hs : SetAt W sm bm L11) (hm : t1.mem W) => Lib.hid (apply_any sm bm L11 t1 3 W hs hm HTK.out HX1.out)
  refine wp_region_held_drew (S := fun W => Hid (Below V14.heap.size V14 W)) (by kernel_rfl) (Lib.hid HB15.out.drew) (fun hS => ?_)
  replace HSM : Hid (SetAt V15.drew sm bm L11) := Lib.hid (HSM.out.bel (Below.refl _ _).drew)
  refine wpAnyH_genT fun X hX => ?_
  rw [← hX] at hS HSM
  clear hX HB15
  refine wpAnyH_take (i := 0) (v := ?_) rfl (by kernel_rfl) (by kernel_rfl) (by kernel_rfl) (fun _ _ _ h => h) (Or.inl ⟨by rfl, ?_⟩) hS ?_
  rotate_left
  · (intro w _; go_simp; try with_reducible rfl)
  refine wpAnyH_take (i := 1) (v := .agg t1.cs) rfl (by kernel_rfl) (by kernel_rfl) (by kernel_rfl) (fun _ _ _ h => h) (yields_blk (by rfl) 53 (.tmp 13) (by rfl) a13 0 6 (t := 53) (cs := t1.cs) (fun W h => H13.out.bel h.out) t1.cs (by go_simp) (txn_ext t1) Tryz.underlying53 infoTx (Nat.le_refl 6)) hS ?_
  refine wpAnyH_take (i := 3) (v := ?_) rfl (by kernel_rfl) (by kernel_rfl) (by kernel_rfl) (fun _ _ _ h => h) (Or.inl ⟨by rfl, ?_⟩) hS ?_
  rotate_left
  · (intro w _; go_simp; try with_reducible rfl)
  refine wpAnyH_take (i := 4) (v := .agg t1.cs) rfl (by kernel_rfl) (by kernel_rfl) (by kernel_rfl) (fun _ _ _ h => h) (yields_blk (by rfl) 53 (.tmp 13) (by rfl) a13 0 6 (t := 53) (cs := t1.cs) (fun W h => H13.out.bel h.out) t1.cs (by go_simp) (txn_ext t1) Tryz.underlying53 infoTx (Nat.le_refl 6)) hS ?_
  refine wpAnyH_ready (rs := [2]) (by kernel_rfl) (by simp) (AllReadyH.cons rfl (fun K hK => ?_) AllReadyH.nil)
  go_simp
  have K1 := (HAP X HSM.out (HM1.out.bel hS.out)).out
  rw [HE1.out, HE2.out] at K1
  refine K1.mono ?_
  rintro e X2 ⟨rfl, hc, hset⟩
  rw [if_pos rfl] at hset
  have HSN := Lib.hid hset
  have hS2 : Hid (Below V14.heap.size V14 X2) := Lib.hid (hS.out.trans (hc.below hS.out.size (by have := HZM.out; simp; omega)))
  clear K1 hset hc hS HAP HSM
  go_simp
  refine hK.out _ _ hS2 (fun hS => ?_)
  clear hK K hS2
  refine wpAnyH_ready (rs := [5]) (by kernel_rfl) (by simp) (AllReadyH.cons rfl (fun K hK => ?_) AllReadyH.nil)
  go_simp
  have K1 := apply_any sm bm T11 t1 3 X2 HSN.out (HM1.out.bel hS.out) (t11_tok HSN.out.ut.ok) HX1.out
  rw [HE3.out] at K1
  refine K1.mono ?_
  rintro e X3 ⟨rfl, hc, hset⟩
  rw [if_neg (by decide)] at hset
  replace HSN := Lib.hid hset
  have hS2 : Hid (Below V14.heap.size V14 X3) := Lib.hid (hS.out.trans (hc.below hS.out.size (by have := HZM.out; simp; omega)))
  clear K1 hset hc hS
  go_simp
  refine hK.out _ _ hS2 (fun hS => ?_)
  clear hK K
  refine wpAnyH_take (i := 6) (v := ?_) rfl (by kernel_rfl) (by kernel_rfl) (by kernel_rfl) (fun _ _ _ h => h) (Or.inl ⟨by rfl, ?_⟩) hS ?_
  rotate_left
  · (intro w _; go_simp; try with_reducible rfl)
  refine wpAnyH_take (i := 7) (v := ?_) rfl (by kernel_rfl) (by kernel_rfl) (by kernel_rfl) (fun _ _ _ h => h) (Or.inl ⟨by rfl, ?_⟩) hS ?_
  rotate_left
  · (intro w _; go_simp; try with_reducible rfl)
  clear hS
  refine wpAnyH_done (by kernel_rfl) ?_ _
  have hb16 := hS2.out
  replace HO := Lib.hid (sl_bel HO.out hb16)
  replace HS := Lib.hid (HS.out.bel hb16)
  replace HL := Lib.hid (sl_bel HL.out hb16)
  replace HT := Lib.hid (HT.out.bel hb16)
  replace HC := Lib.hid (rows_bel HC.out HX.out hb16)
  replace HX := Lib.hid (Nat.lt_of_lt_of_le HX.out (Below.size hb16))
  replace HB := Lib.hid (HB.out.trans (Below.mono hb16 HB.out.size))
  clear hb16 hS2 H13 HM1 HE1 HE2 HE3 HX1 HZM HTK
  generalize V14.heap.size = v14
  have HTO := fun W (h : SetAt W sm bm T11) => Lib.hid (show Calls _ _ _ W fun e w' => e = .returned (.tuple #[.int .u64 110, .int .i64 0]) ∧ Below W.heap.size W w' from by
    have := total_any sm bm T11 W h (by rw [t11_len]; decide) (by rw [t11_len]; decide) t11_ams
    rwa [show totV (topsI T11) = 110 from by unfold totV; rw [t11_tot]; rfl, show totE (topsI T11) = 0 from by unfold totE; rw [t11_tot]; rfl] at this)
  go_wp2_with fail
  refine (HTO _ HSN.out).out.mono ?_
  rintro e V ⟨rfl, hb⟩
  replace HO := Lib.hid (sl_bel HO.out hb)
  replace HSN := Lib.hid (HSN.out.bel hb)
  replace HS := Lib.hid (HS.out.bel hb)
  replace HL := Lib.hid (sl_bel HL.out hb)
  replace HT := Lib.hid (HT.out.bel hb)
  replace HC := Lib.hid (rows_bel HC.out HX.out hb)
  replace HX := Lib.hid (Nat.lt_of_lt_of_le HX.out (Below.size hb))
  replace HB := Lib.hid (HB.out.trans (Below.mono hb HB.out.size))
  clear hb HTO
  go_wp2_with fail
  refine (unew_no none [] 0 _ (Sl.nil _ _ _ _ _) (by decide) rfl).mono ?_
  rintro e Va ⟨rfl, hb⟩
  replace HO := Lib.hid (sl_bel HO.out hb)
  replace HSN := Lib.hid (HSN.out.bel hb)
  replace HS := Lib.hid (HS.out.bel hb)
  replace HL := Lib.hid (sl_bel HL.out hb)
  replace HT := Lib.hid (HT.out.bel hb)
  replace HC := Lib.hid (rows_bel HC.out HX.out hb)
  replace HX := Lib.hid (Nat.lt_of_lt_of_le HX.out (Below.size hb))
  replace HB := Lib.hid (HB.out.trans (Below.mono hb HB.out.size))
  clear hb
  go_wp2_with (refine wpList_load_pt rfl (.tmp 151) rfl ab off (by rfl) tx11 0 (fun j u hu => HC.out j u (by match j, hu with | 0, hu => exact hu | 1, hu => exact hu | j + 2, hu => simp [ptCl] at hu)) ?_)
  refine (cname_gen tx11 0 _ (by rw [tx11_size]; decide)).mono ?_
  rintro e Vb ⟨rfl, hb⟩
  rw [show nameO tx11 0 = ch11 from rfl]
  replace HO := Lib.hid (sl_bel HO.out hb)
  replace HSN := Lib.hid (HSN.out.bel hb)
  replace HS := Lib.hid (HS.out.bel hb)
  replace HL := Lib.hid (sl_bel HL.out hb)
  replace HT := Lib.hid (HT.out.bel hb)
  replace HC := Lib.hid (rows_bel HC.out HX.out hb)
  replace HX := Lib.hid (Nat.lt_of_lt_of_le HX.out (Below.size hb))
  replace HB := Lib.hid (HB.out.trans (Below.mono hb HB.out.size))
  clear hb
  have hlk := lock_any sb b L11 ch11 Vb HS.out (by decide) (by decide)
  unfold lockA at hlk
  rw [l11_lock] at hlk
  go_wp2_with fail
  refine (show Calls _ _ _ _ fun e w' => e = .returned (.tuple #[.agg l0C.cs, .bool true]) ∧ Below Vb.heap.size Vb w' from hlk).mono ?_
  rintro e Vc ⟨rfl, hb⟩
  replace HO := Lib.hid (sl_bel HO.out hb)
  replace HSN := Lib.hid (HSN.out.bel hb)
  replace HS := Lib.hid (HS.out.bel hb)
  replace HL := Lib.hid (sl_bel HL.out hb)
  replace HT := Lib.hid (HT.out.bel hb)
  replace HC := Lib.hid (rows_bel HC.out HX.out hb)
  replace HX := Lib.hid (Nat.lt_of_lt_of_le HX.out (Below.size hb))
  replace HB := Lib.hid (HB.out.trans (Below.mono hb HB.out.size))
  clear hb hlk
  go_wp2_with (first
    | (refine wpList_store_part rfl 43 (.tmp 27) (.tmp 155) rfl Vc.heap.size 0 (cs := zEn.cs) (Blk.new _ _ _) l0C.cs l0C.cs (by rfl) (by rfl) (Nat.le_refl 11) infoEnt (encs_one l0C) (en_over l0C rfl) ?_; intro Vd hb1 hc1; have hb := bel_st' hc1; have H27 := Lib.hid hb1; replace HO := Lib.hid (sl_bel HO.out hb); replace HSN := Lib.hid (HSN.out.bel hb); replace HS := Lib.hid (HS.out.bel hb); replace HL := Lib.hid (sl_bel HL.out hb); replace HT := Lib.hid (HT.out.bel hb); replace HC := Lib.hid (rows_bel HC.out HX.out hb); replace HX := Lib.hid (Nat.lt_of_lt_of_le HX.out (Below.size hb)); replace HB := Lib.hid (HB.out.trans (Below.mono hb HB.out.size)); clear hb1 hc1 hb)
    | (refine wpList_load_pt rfl (.tmp 161) rfl ab off (by rfl) tx11 0 (fun j u hu => HC.out j u (by match j, hu with | 0, hu => exact hu | 1, hu => exact hu | j + 2, hu => simp [ptCl] at hu)) ?_))
  refine (cname_gen tx11 0 _ (by rw [tx11_size]; decide)).mono ?_
  rintro e Ve ⟨rfl, hb⟩
  rw [show nameO tx11 0 = ch11 from rfl]
  replace H27 := Lib.hid (H27.out.bel hb)
  replace HO := Lib.hid (sl_bel HO.out hb)
  replace HSN := Lib.hid (HSN.out.bel hb)
  replace HS := Lib.hid (HS.out.bel hb)
  replace HL := Lib.hid (sl_bel HL.out hb)
  replace HT := Lib.hid (HT.out.bel hb)
  replace HC := Lib.hid (rows_bel HC.out HX.out hb)
  replace HX := Lib.hid (Nat.lt_of_lt_of_le HX.out (Below.size hb))
  replace HB := Lib.hid (HB.out.trans (Below.mono hb HB.out.size))
  clear hb
  generalize Vc.heap.size = a27 at H27 ⊢
  have hlk := lock_any sm bm T11 ch11 Ve HSN.out (by rw [t11_len]; decide) (by rw [t11_len]; decide)
  unfold lockA at hlk
  rw [t11_lock] at hlk
  go_wp2_with fail
  refine (show Calls _ _ _ _ fun e w' => e = .returned (.tuple #[.agg zEn.cs, .bool false]) ∧ Below Ve.heap.size Ve w' from hlk).mono ?_
  rintro e Vf ⟨rfl, hb⟩
  replace H27 := Lib.hid (H27.out.bel hb)
  replace HO := Lib.hid (sl_bel HO.out hb)
  replace HSN := Lib.hid (HSN.out.bel hb)
  replace HS := Lib.hid (HS.out.bel hb)
  replace HL := Lib.hid (sl_bel HL.out hb)
  replace HT := Lib.hid (HT.out.bel hb)
  replace HC := Lib.hid (rows_bel HC.out HX.out hb)
  replace HX := Lib.hid (Nat.lt_of_lt_of_le HX.out (Below.size hb))
  replace HB := Lib.hid (HB.out.trans (Below.mono hb HB.out.size))
  clear hb hlk
  obtain ⟨ob, oo, hAO, hob, hOc⟩ := HO.out (by intro e; cases e)
  subst hAO
  have HO0 : Hid (∀ j v, (payO 50 rG).cl[j]? = some v → Vf.cell? ⟨ob, oo + j, none⟩ = some v) := Lib.hid (fun j v hv => by have := hOc 0 _ rfl j v hv; simpa using this)
  have HO1 : Hid (∀ j v, (payO 60 rC).cl[j]? = some v → Vf.cell? ⟨ob, oo + 9 + j, none⟩ = some v) := Lib.hid (fun j v hv => by have := hOc 1 _ rfl j v hv; simpa using this)
  have HOB := Lib.hid hob
  clear hOc hob
  go_upto_region 26 with (first
    | (refine wpList_store_part rfl 43 (.tmp 29) (.tmp 165) rfl Vf.heap.size 0 (cs := zEn.cs) (Blk.new _ _ _) zEn.cs zEn.cs (by rfl) (by rfl) (Nat.le_refl 11) infoEnt (encs_one zEn) (en_over zEn rfl) ?_; intro Vg hb1 hc1; have hb := bel_st' hc1; replace H27 := Lib.hid (H27.out.bel hb); replace HO0 := Lib.hid (fun j v hv => (hb.cell (p := ⟨ob, oo + j, none⟩) HOB.out).trans (HO0.out j v hv)); replace HO1 := Lib.hid (fun j v hv => (hb.cell (p := ⟨ob, oo + 9 + j, none⟩) HOB.out).trans (HO1.out j v hv)); replace HOB := Lib.hid (Nat.lt_of_lt_of_le HOB.out hb.size); replace HSN := Lib.hid (HSN.out.bel hb); clear HO; replace HS := Lib.hid (HS.out.bel hb); replace HL := Lib.hid (sl_bel HL.out hb); replace HT := Lib.hid (HT.out.bel hb); replace HC := Lib.hid (rows_bel HC.out HX.out hb); replace HX := Lib.hid (Nat.lt_of_lt_of_le HX.out (Below.size hb)); replace HB := Lib.hid (HB.out.trans (Below.mono hb HB.out.size)); clear hb1 hc1 hb))
  try go_frame
  have HRG := Lib.hid HT.out.kg
  have HRC := Lib.hid HT.out.kc
  have HBG := Lib.hid HB.out
  have RG : ∀ W, Below Vg.heap.size Vg W → Calls Tryz.prog 10 #[.pointer (some ⟨kg, 0, none⟩)] W fun e w' => e = .returned (.string rG) ∧ W = w' := fun W hW => kroot_any kg cg sdG 0 1 W (HT.out.kg.bel hW)
  have RC : ∀ W, Below Vg.heap.size Vg W → Calls Tryz.prog 10 #[.pointer (some ⟨kb, 0, none⟩)] W fun e w' => e = .returned (.string rC) ∧ W = w' := fun W hW => kroot_any kb cb sdC 1 2 W (HT.out.kc.bel hW)
  have HRG := Lib.hid RG
  have HRC := Lib.hid RC
  have HAL := fun W (hW : Below Vg.heap.size Vg W) => Lib.hid (all_n 2 sm bm T11 W (HSN.out.bel hW) rfl (by decide) (by decide))
  have HTM := fun W => Lib.hid (show Calls Tryz.prog 28 #[.agg #[.string (l0C).tx, .int .i64 (l0C).out, .int .i64 (l0C).o.kind, .int .u64 ((l0C).o.am : Nat), .string (l0C).o.key, .string (l0C).o.gate, .int .i64 (l0C).o.ex, .string (l0C).o.anchor, .int .u64 ((l0C).o.unit : Nat), .int .i64 (l0C).o.tok, .string (l0C).o.of_]] W fun e w' => e = .returned (.agg #[.string (nameO tx11 0), .string rC, .string (tokB wTok 5 0), .int .u64 3, .int .i64 5]) ∧ Below W.heap.size W w' from terms_gen l0C 5 W (by rw [show l0C.tx.size = 16 from tx11_size]; decide) rfl)
  have HHB := Lib.hid HB.out
  clear RG RC HT HS HL HB HSN HZ HZG
  generalize l0C = x0 at HC H27 HTM ⊢
  generalize rG = zg at HRG HO0 ⊢
  generalize rC = zc at HRC HO1 HTM ⊢
  generalize sv60 = z6
  generalize tokB wTok 5 0 = zk at HTM
  generalize nameO tx11 0 = zn at HTM
  generalize ch11 = zh
  generalize tx11 = zt
  simp only [List.cons_append, List.nil_append, List.append]
  refine wp_region_head 54 (l1 := ?hL) ?hE (by kernel_rfl) ?hB ?hT (of_decide_eq_true (by kernel_rfl)) ?hH ?_
  case hE => simp only [List.take_succ_cons, List.take_zero]; rfl
  case hB => as_aux_lemma => kernel_rfl
  case hT => as_aux_lemma => kernel_rfl
  case hH => as_aux_lemma => kernel_rfl
  have kq1 : ∀ W, (binOp .eql 41 (.agg #[.int .i64 1, .int .u64 50, .string zg, .string ByteArray.empty, .int .i64 0, .string ByteArray.empty, .int .u64 0, .int .i64 0, .string ByteArray.empty]) (.agg #[.int .i64 1, .int .u64 50, .string zg, .string ByteArray.empty, .int .i64 0, .string ByteArray.empty, .int .u64 0, .int .i64 0, .string ByteArray.empty])).run Tryz.prog W = .ok (.bool true) W := fun W => ouEql_self W (payO 50 zg)
  have kq2 : ∀ W, (binOp .eql 41 (.agg #[.int .i64 1, .int .u64 60, .string zc, .string ByteArray.empty, .int .i64 0, .string ByteArray.empty, .int .u64 0, .int .i64 0, .string ByteArray.empty]) (.agg #[.int .i64 1, .int .u64 60, .string zc, .string ByteArray.empty, .int .i64 0, .string ByteArray.empty, .int .u64 0, .int .i64 0, .string ByteArray.empty])).run Tryz.prog W = .ok (.bool true) W := fun W => ouEql_self W (payO 60 zc)
  repeat (first | go_big_quiet_skip | (go_big_quiet_want; first | ((first
      | (refine quiet_eql 41 (.tmp 172) (.tmp 175) rfl #[.int .i64 1, .int .u64 50, .string zg, .string ByteArray.empty, .int .i64 0, .string ByteArray.empty, .int .u64 0, .int .i64 0, .string ByteArray.empty] #[.int .i64 1, .int .u64 50, .string zg, .string ByteArray.empty, .int .i64 0, .string ByteArray.empty, .int .u64 0, .int .i64 0, .string ByteArray.empty] (by rfl) (by rfl) true (fun W => ouGuardE W _ _ _ _) kq1 ?_; go_simp)
      | (refine quiet_eql 41 (.tmp 181) (.tmp 184) rfl #[.int .i64 1, .int .u64 60, .string zc, .string ByteArray.empty, .int .i64 0, .string ByteArray.empty, .int .u64 0, .int .i64 0, .string ByteArray.empty] #[.int .i64 1, .int .u64 60, .string zc, .string ByteArray.empty, .int .i64 0, .string ByteArray.empty, .int .u64 0, .int .i64 0, .string ByteArray.empty] (by rfl) (by rfl) true (fun W => ouGuardE W _ _ _ _) kq2 ?_; go_simp)
      | (refine quiet_load_row 41 (.tmp 171) rfl ob oo (payO 50 zg).cl HO0.out #[.int .i64 1, .int .u64 50, .string zg, .string ByteArray.empty, .int .i64 0, .string ByteArray.empty, .int .u64 0, .int .i64 0, .string ByteArray.empty] (by rfl) (by rfl) Tryz.underlying41 infoOu9 ?_; go_simp)
      | (refine quiet_load_row 41 (.tmp 180) rfl ob (oo + 9) (payO 60 zc).cl HO1.out #[.int .i64 1, .int .u64 60, .string zc, .string ByteArray.empty, .int .i64 0, .string ByteArray.empty, .int .u64 0, .int .i64 0, .string ByteArray.empty] (by rfl) (by rfl) Tryz.underlying41 infoOu9 ?_; go_simp)); go_big_quiet_on) | (go_big_quiet_op; first | go_big_quiet_on | go_big_quiet_call ((go_at_call 10; first | (with_reducible exact Calls.rg_same' fun W hW => HRG.out W hW) | (with_reducible exact Calls.rg_same' fun W hW => HRC.out W hW))))))
  refine wpQuiet_nil ?_
  intro U hp
  have hbU := bel_regrown hp
  clear hp
  change wpAny Tryz.prog .any _ _ (32 + 1) (firstN 87 54) _ _
  rw [show firstN 87 54 = #[true, true, true, true, true, true, true, true, true, true, true, true, true, true, true, true, true, true, true, true, true, true, true, true, true, true, true, true, true, true, true, true, true, true, true, true, true, true, true, true, true, true, true, true, true, true, true, true, true, true, true, true, true, true, false, false, false, false, false, false, false, false, false, false, false, false, false, false, false, false, false, false, false, false, false, false, false, false, false, false, false, false, false, false, false, false, false] from by as_aux_lemma => kernel_rfl]
  refine wpAny_ready (rs := [54]) (by kernel_rfl) (by simp) (AllReady.cons rfl (fun K hK => ?_) AllReady.nil)
  go_simp
  refine (HAL U hbU).out.mono ?_
  rintro e V1 ⟨AV, cV, rfl, _, hb2⟩
  have hV := hbU.trans (hb2.mono hbU.size)
  have HV := Lib.hid hV
  clear hb2 hbU hV
  go_simp
  refine hK _ _ ?_
  clear hK K
  rw [show (#[true, true, true, true, true, true, true, true, true, true, true, true, true, true, true, true, true, true, true, true, true, true, true, true, true, true, true, true, true, true, true, true, true, true, true, true, true, true, true, true, true, true, true, true, true, true, true, true, true, true, true, true, true, true, false, false, false, false, false, false, false, false, false, false, false, false, false, false, false, false, false, false, false, false, false, false, false, false, false, false, false, false, false, false, false, false, false] : Array Bool).setIfInBounds 54 true = #[true, true, true, true, true, true, true, true, true, true, true, true, true, true, true, true, true, true, true, true, true, true, true, true, true, true, true, true, true, true, true, true, true, true, true, true, true, true, true, true, true, true, true, true, true, true, true, true, true, true, true, true, true, true, true, false, false, false, false, false, false, false, false, false, false, false, false, false, false, false, false, false, false, false, false, false, false, false, false, false, false, false, false, false, false, false, false] from rfl]
  refine wpAny_lexrest 55 (l2 := ?rL) ?rE (by kernel_rfl) (by kernel_rfl) ?rB ?_
  case rE => simp only [List.drop_succ_cons, List.drop_zero]; rfl
  case rB => as_aux_lemma => kernel_rfl
  have hfd : ∀ (x y z : ByteArray) (W : World), (Instr.field 81 (.agg #[.string x, .string y, .string z, .int .u64 3, .int .i64 5]) 1).run Tryz.prog W = .ok (.string y) W := fun _ _ _ _ => by kernel_rfl
  clear kq1 kq2
  have kq3 : ∀ W, (binOp .eql 43 (.agg #[.string (x0).tx, .int .i64 (x0).out, .int .i64 (x0).o.kind, .int .u64 ((x0).o.am : Nat), .string (x0).o.key, .string (x0).o.gate, .int .i64 (x0).o.ex, .string (x0).o.anchor, .int .u64 ((x0).o.unit : Nat), .int .i64 (x0).o.tok, .string (x0).o.of_]) (.agg #[.string (x0).tx, .int .i64 (x0).out, .int .i64 (x0).o.kind, .int .u64 ((x0).o.am : Nat), .string (x0).o.key, .string (x0).o.gate, .int .i64 (x0).o.ex, .string (x0).o.anchor, .int .u64 ((x0).o.unit : Nat), .int .i64 (x0).o.tok, .string (x0).o.of_])).run Tryz.prog W = .ok (.bool true) W := fun W => enEql_self W x0
  have HC1 := rows_bel HC.out HX.out HV.out
  have HCV := Lib.hid HC1
  have H2V := Lib.hid (Blk.bel H27.out HV.out)
  clear HC1
  repeat (first | go_big_quiet_skip | (go_big_quiet_want; first | ((first
      | (refine quiet_eql 43 (.tmp 230) (.tmp 233) rfl #[.string (x0).tx, .int .i64 (x0).out, .int .i64 (x0).o.kind, .int .u64 ((x0).o.am : Nat), .string (x0).o.key, .string (x0).o.gate, .int .i64 (x0).o.ex, .string (x0).o.anchor, .int .u64 ((x0).o.unit : Nat), .int .i64 (x0).o.tok, .string (x0).o.of_] #[.string (x0).tx, .int .i64 (x0).out, .int .i64 (x0).o.kind, .int .u64 ((x0).o.am : Nat), .string (x0).o.key, .string (x0).o.gate, .int .i64 (x0).o.ex, .string (x0).o.anchor, .int .u64 ((x0).o.unit : Nat), .int .i64 (x0).o.tok, .string (x0).o.of_] (by rfl) (by rfl) true (fun W => enGuardE W _ _ _ _) kq3 ?_; go_simp)
      | (refine quiet_load_blk 43 (.tmp 27) rfl a27 0 11 H2V.out #[.string (x0).tx, .int .i64 (x0).out, .int .i64 (x0).o.kind, .int .u64 ((x0).o.am : Nat), .string (x0).o.key, .string (x0).o.gate, .int .i64 (x0).o.ex, .string (x0).o.anchor, .int .u64 ((x0).o.unit : Nat), .int .i64 (x0).o.tok, .string (x0).o.of_] (by rfl) (by rfl) Tryz.underlying43 infoEnt (Nat.le_refl 11) ?_; go_simp)
      | (refine quiet_load_row 43 (.tmp 232) rfl ab off x0.cl HCV.out #[.string (x0).tx, .int .i64 (x0).out, .int .i64 (x0).o.kind, .int .u64 ((x0).o.am : Nat), .string (x0).o.key, .string (x0).o.gate, .int .i64 (x0).o.ex, .string (x0).o.anchor, .int .u64 ((x0).o.unit : Nat), .int .i64 (x0).o.tok, .string (x0).o.of_] (by rfl) (by rfl) Tryz.underlying43 infoEnt ?_; go_simp)
      | (refine quiet_load_row 43 (.tmp 245) rfl ab off x0.cl HCV.out #[.string (x0).tx, .int .i64 (x0).out, .int .i64 (x0).o.kind, .int .u64 ((x0).o.am : Nat), .string (x0).o.key, .string (x0).o.gate, .int .i64 (x0).o.ex, .string (x0).o.anchor, .int .u64 ((x0).o.unit : Nat), .int .i64 (x0).o.tok, .string (x0).o.of_] (by rfl) (by rfl) Tryz.underlying43 infoEnt ?_; go_simp)); go_big_quiet_on) | (go_big_quiet_op; first | go_big_quiet_on | go_big_quiet_call ((first
      | (go_at_call 28; with_reducible exact Calls.rg fun W _ => (HTM W).out)
      | (go_at_call 10; with_reducible exact Calls.rg_same' fun W hW => HRC.out W (HV.out.trans (hW.mono HV.out.size))))))))
  refine wpQuiet_nil ?_
  intro Z hp
  have hbZ := bel_regrown hp
  clear hp
  go_wp2_with fail
  go_ret
  exact ⟨rfl, HHB.out.trans ((HV.out.trans (hbZ.mono HV.out.size)).mono HHB.out.size)⟩
end Go.Proofs.YtdoebmikjgmnaaaGreat
