/- utxo: Apply: does a transaction. -/
import Derived.Outline
import Derived.Deep.RegionHeld3
import Derived.Test.YtmbceheafjadhaaGreatMgG30
import Derived.Test.YtmbceheafjadhaaGreatMgG33
import Derived.Test.YtmbceheafjadhaaGreatMgUtW
set_option linter.unusedVariables false
set_option linter.unusedSimpArgs false
namespace Go.Proofs.YtmbceheafjadhaaGreat
open Go.RowKit Go.Maps
def delAll (l : List Inp) (T : List En) : List En := l.foldl (fun T i => delU i.pt T) T
def putAll (id : ByteArray) (l : List Ou) (T : List En) : List En := (utN id l).foldl (fun T e => putU e T) T
/-- the outputs behind a transaction -/
def applyT (T : List En) (t : Txn) : List En := putAll (idT t) t.outs (delAll t.ins T)
theorem delAll_snoc (l : List Inp) (k : Nat) (h : k < l.length) (T : List En) : delAll (l.take (k + 1)) T = delU l[k].pt (delAll (l.take k) T) := by
  unfold delAll
  rw [List.take_succ_eq_append_getElem h, List.foldl_append]; rfl
theorem utN_snoc (id : ByteArray) (l : List Ou) (k : Nat) (h : k < l.length) : utN id (l.take (k + 1)) = utN id (l.take k) ++ [⟨id, (k : Int), l[k]⟩] := by
  unfold utN
  rw [List.take_succ_eq_append_getElem h, List.mapIdx_concat, List.length_take, Nat.min_eq_left (by omega)]
theorem putAll_snoc (id : ByteArray) (l : List Ou) (k : Nat) (h : k < l.length) (T : List En) : putAll id (l.take (k + 1)) T = putU ⟨id, (k : Int), l[k]⟩ (putAll id (l.take k) T) := by
  unfold putAll
  rw [utN_snoc id l k h, List.foldl_append]; rfl
theorem delAll_len : ∀ (l : List Inp) (T : List En), (delAll l T).length ≤ T.length
  | [], T => Nat.le_refl _
  | i :: r, T => Nat.le_trans (delAll_len r (delU i.pt T)) (delU_len _ _)
theorem foldPut_len : ∀ (l : List En) (T : List En), (l.foldl (fun T e => putU e T) T).length ≤ T.length + l.length
  | [], T => Nat.le_refl _
  | e :: r, T => by
    have h1 := foldPut_len r (putU e T)
    have h2 := putU_len e T
    show (r.foldl _ (putU e T)).length ≤ _
    simp only [List.length_cons]; omega
theorem putAll_len (id : ByteArray) (l : List Ou) (T : List En) : (putAll id l T).length ≤ T.length + l.length := by
  have := foldPut_len (utN id l) T
  rwa [utN_len] at this
theorem outT_ge (o : Ou) (s : ByteArray) : s.size + 1 ≤ (outT o s).size := by
  unfold outT
  split
  · simp only [ByteArray.size_append, num1_size]; omega
  · split <;> (simp only [ByteArray.size_append, num1_size]; omega)
theorem outsT_ge : ∀ (l : List Ou) (s : ByteArray), s.size ≤ (outsT l s).size
  | [], s => Nat.le_refl _
  | o :: r, s => by
    have h1 := outsT_ge r (outT o s)
    have h2 := outT_ge o s
    show s.size ≤ (outsT r (outT o s)).size
    omega
theorem id_size {t : Txn} (h : rightT t = true) : (idT t).size = 16 ∧ idT t = tagB wTx [coreT t] := by
  have h1 : coreX t = coreT t := by unfold coreX; rw [h]; rfl
  have h2 : 1 ≤ (coreT t).size := by
    have := outsT_ge t.outs (insT t.ins (headT t) ++ strOfNums [(t.outs.length : Int)])
    unfold coreT
    simp only [ByteArray.size_append, num1_size] at this
    omega
  have h3 : idT t = tagB wTx [coreT t] := by
    unfold idT
    rw [h1, if_neg (fun e => by rw [e, emp_sz] at h2; omega)]
  exact ⟨by rw [h3]; exact tagB_size _ _, h3⟩
theorem sl_map {α : Type} {w w' : World} {k b : Nat} {enc : α → List Value} {A : Option Addr} {l : List α} {T : List En} (h : Sl w w.heap.size k enc A l) (hU : Ut w b T) (hc : Ch [b] w w') : Sl w' w'.heap.size k enc A l := fun hn => by
  obtain ⟨bk, off, hA, hlt, hcells⟩ := h hn
  refine ⟨bk, off, hA, Nat.lt_of_lt_of_le hlt hc.size, fun i x hx j u hu => ?_⟩
  have hc0 := hcells i x hx j u hu
  have hbk : bk ≠ b := by
    rintro rfl
    obtain ⟨D, ⟨es, clock, hb, _⟩, _⟩ := hU.own
    simp [World.cell?, hb] at hc0
  have e := hc.block bk hlt (by simpa using hbk)
  rw [← hc0]
  unfold World.cell?
  rw [e]
theorem Txn.mem.map {t : Txn} {w w' : World} {b : Nat} {T : List En} (h : t.mem w) (hU : Ut w b T) (hc : Ch [b] w w') : t.mem w' := ⟨sl_map h.ins hU hc, sl_map h.outs hU hc, sl_map h.wins hU hc⟩
theorem check_found {T : List En} {t : Txn} {h : Int} (hc : checkE T t h = 0) : foundE T t = 0 := by
  unfold checkE at hc
  by_cases h1 : foundE T t ≠ 0
  · rw [if_pos h1] at hc; exact hc
  · simpa using h1
def ApplyR (ck : Int) (T T' : List En) (sb b : Nat) (w : World) (e : Ending) (w' : World) : Prop := e = .returned (.int .i64 ck) ∧ Ch [b] w w' ∧ SetAt w' sb b (if ck = 0 then T' else T)
set_option maxRecDepth 100000 in
set_option maxHeartbeats 4000000 in
theorem apply_any (sb b : Nat) (T : List En) (t : Txn) (h : Int) (w : World) (hS : SetAt w sb b T) (hm : t.mem w) (hT : TOk T) (ht : TxOk t) :
    Calls Tryz.prog 44 #[.pointer (some ⟨sb, 0, none⟩), .agg t.cs, .int .i64 h] w (ApplyR (checkE T t h) T (applyT T t) sb b w) := by
  have HX : Hid (Blk (w.alloc (.cells t.cs 70)) w.heap.size 70 t.cs) := Lib.hid (Blk.new _ _ _)
  have HB : Hid (Below w.heap.size w (w.alloc (.cells t.cs 70))) := Lib.hid ((Below.refl _ _).alloc (Nat.le_refl _) _)
  have HCK := fun W (hb : Below w.heap.size w W) => Lib.hid (check_any sb b T t h W (hS.bel hb) (hm.bel hb) hT ht)
  have HCF := Lib.hid (fun (q : checkE T t h = 0) => check_found q)
  have HS := Lib.hid hS
  have HMM := Lib.hid hm
  have HTX := Lib.hid ht
  have hTl := hT.len
  have HID := fun W (hmW : t.mem W) => Lib.hid (id_gen t W hmW ht.ins ht.outs ht.pf.len ht.out (by have := corex_size t; omega))
  have HAP : Hid (applyT T t = putAll (idT t) t.outs (delAll t.ins T)) := rfl
  generalize applyT T t = T2 at HAP ⊢
  have HIS := Lib.hid (fun (q : rightT t = true) => (id_size q).1)
  generalize idT t = id at HID HAP HIS
  generalize checkE T t h = ck at HCK HCF ⊢
  have hblt := hS.ut.lt
  have hslt := hS.hd.lt
  have hsb := hS.ut.ne_blk hS.hd
  clear hS hm ht hT
  go_enter Tryz.func44, Tryz.ntmps44
  go_wp2_with (refine wpList_load_blk rfl 70 (.tmp 4) rfl w.heap.size 0 6 HX.out t.cs (by rfl) (txn_ext t) Tryz.underlying70 infoTx (Nat.le_refl 6) ?_)
  refine (HCK _ HB.out).out.mono ?_
  rintro e w1 ⟨rfl, hb⟩
  replace HX := Lib.hid (HX.out.bel hb)
  replace HB := Lib.hid (HB.out.trans (Below.mono hb HB.out.size))
  clear hb HCK
  by_cases hck : ck = 0
  rotate_left
  · have d1 : (ck != 0) = true := by simp [bne, beq_eq_false_iff_ne.2 hck]
    have HN := Lib.hid hck
    clear hck
    go_wp2_with fail
    go_ret
    exact ⟨rfl, Ch.of_below HB.out _, by rw [if_neg HN.out]; exact HS.out.bel HB.out⟩
  have HF := Lib.hid (found_t (HCF.out hck))
  subst hck
  have HS1 := Lib.hid (HS.out.bel HB.out)
  have HM1 := Lib.hid (HMM.out.bel HB.out)
  have HC1 : Hid (Ch [b] w w1) := Lib.hid (Ch.of_below HB.out _)
  have hn1 := HF.out.right.n1
  have hn2 := HF.out.right.n2
  obtain ⟨TA, hTA⟩ : ∃ TA, t.A = TA := ⟨_, rfl⟩
  have HTA := Lib.hid hTA
  have c0 : w1.cell? ⟨w.heap.size, 0, none⟩ = some (.slice TA t.ins.length t.c) := by rw [← hTA]; exact HX.out.cell 0
  clear hTA HCF HB HS HMM
  go_wp2_with fail
  go_loopw [23] (fun i wr => ∃ k : Nat, k ≤ t.ins.length ∧ i = .int .i64 k ∧ Hid (SetAt wr sb b (delAll (t.ins.take k) T)) ∧ Hid (Blk wr w.heap.size 70 t.cs) ∧ Hid (t.mem wr) ∧ Hid (Ch [b] w wr)) (fun i _ => t.ins.length - (intOf i).toNat)
  case atStart => exact ⟨0, Nat.zero_le _, rfl, HS1, HX, HM1, HC1⟩
  case round =>
    clear HX HS1 HM1 HC1 c0
    obtain ⟨k, hk, rfl, HS, HX, HM, HC⟩ := hrel
    have hz := HC.out.size
    by_cases hlt : k < t.ins.length
    · have d0 : decide (k < t.ins.length) = true := decide_eq_true hlt
      have hok := inB_ok (HF.out.right.ins _ (List.getElem_mem hlt))
      have hmi := HM.out.ins
      rw [HTA.out] at hmi
      obtain ⟨ab, off, hAe, hbB, hc⟩ := hmi.at_ hlt
      subst hAe
      have HSN := Lib.hid (delAll_snoc t.ins k hlt T)
      generalize t.ins[k] = x at hc hok HSN
      generalize delAll (t.ins.take k) T = Tk at HS HSN
      have HCC := Lib.hid hc
      clear hc hmi
      go_upto_region 7 with (first
        | (refine wpList_load_in rfl (.tmp 25) rfl ab (off + k * 4) (by rfl) x HCC.out ?_)
        | (refine wpList_store_part rfl 74 (.tmp 9) (.tmp 26) rfl wr.heap.size 0 (cs := zInp.cs) (Blk.new _ _ _) x.cs x.cs (by rfl) (by rfl) (Nat.le_refl 4) infoIn (incs_one x) (inv_over x rfl) ?_; intro X0 hb1 hc1; have hb := bel_st' hc1; have H9 := Lib.hid hb1; replace HX := Lib.hid (HX.out.bel hb); replace HM := Lib.hid (HM.out.bel hb); replace HS := Lib.hid (HS.out.bel hb); replace HC := Lib.hid (HC.out.trans (Ch.of_below hb _)); clear hb1 hc1 hb))
      have hlr : b < wr.heap.size ∧ sb < wr.heap.size := ⟨by omega, by omega⟩
      refine wp_region_held_drew (S := fun W => Hid (Blk W wr.heap.size 74 x.cs ∧ Blk W sb 181 #[.map (some b)])) (by kernel_rfl) (Lib.hid ⟨H9.out.drewN 1, HS.out.hd.drewN 1⟩) (fun hS => ?_)
      replace HX : Hid (Blk X0.drew w.heap.size 70 t.cs) := Lib.hid (HX.out.drewN 1)
      replace HM : Hid (t.mem X0.drew) := Lib.hid (HM.out.bel (Below.refl _ _).drew)
      replace HS : Hid (SetAt X0.drew sb b Tk) := Lib.hid (HS.out.bel (Below.refl _ _).drew)
      replace HC : Hid (Ch [b] w X0.drew) := Lib.hid (HC.out.trans (Ch.drewN _ _ 1))
      refine wpAnyH_genT fun X hX => ?_
      rw [← hX] at HX HM HS HC hS
      clear hX H9
      refine wpAnyH_take (i := 0) (v := ?_) rfl (by kernel_rfl) (by kernel_rfl) (by kernel_rfl) (fun _ _ _ h => h) (Or.inl ⟨by rfl, ?_⟩) hS ?_
      rotate_left
      · (intro w _; go_simp; try with_reducible rfl)
      refine wpAnyH_take (i := 1) (v := ?_) rfl (by kernel_rfl) (by kernel_rfl) (by kernel_rfl) (fun _ _ _ h => h) (Or.inl ⟨by rfl, ?_⟩) hS ?_
      rotate_left
      · (intro w _; go_simp; try with_reducible rfl)
      refine wpAnyH_take (i := 2) (v := ?_) rfl (by kernel_rfl) (by kernel_rfl) (by kernel_rfl) (fun _ _ _ h => h) (Or.inl ⟨by rfl, ?_⟩) hS ?_
      rotate_left
      · (intro w _; go_simp; try with_reducible rfl)
      refine wpAnyH_take (i := 3) (v := ?_) rfl (by kernel_rfl) (by kernel_rfl) (by kernel_rfl) (fun _ _ _ h => h) (Or.inl ⟨by rfl, ?_⟩) hS ?_
      rotate_left
      · (intro w hS'; have hcell := (show World.cell? _ ⟨sb, 0, none⟩ = some (.map (some b)) from Blk.cell hS'.out.2 0); go_simp; try with_reducible rfl)
      refine wpAnyH_take (i := 4) (v := ?_) rfl (by kernel_rfl) (by kernel_rfl) (by kernel_rfl) (fun _ _ _ h => h) (Or.inl ⟨by rfl, ?_⟩) hS ?_
      rotate_left
      · (intro w _; go_simp; try with_reducible rfl)
      refine wpAnyH_take (i := 5) (v := .agg #[.string x.tx, .int .i64 x.out]) rfl (by kernel_rfl) (by kernel_rfl) (by kernel_rfl) (fun _ _ _ h => h) (yields_blk (by rfl) 54 (.tmp 31) (by rfl) wr.heap.size 0 2 (t := 74) (cs := x.cs) (fun W h => h.out.1) #[.string x.tx, .int .i64 x.out] (by rfl) (by rfl) Tryz.underlying54 (by kernel_rfl) (by show 2 ≤ 4; omega)) hS ?_
      obtain ⟨W4, hrun, hu4, hc4⟩ := HS.out.ut.drop x.pt hok 0
      have hrun' : ∀ ty, (Builtin.delete_ #[179, 54] ty #[.map (some b), .agg #[.string x.tx, .int .i64 x.out]]).run Tryz.prog X = .ok (.tuple #[]) W4 := fun ty => hrun
      have HS4 : Hid (SetAt W4 sb b (delAll (t.ins.take (k + 1)) T)) := Lib.hid ⟨HS.out.hd.ch hc4 (by simp; omega), by rw [HSN.out]; exact hu4⟩
      have HX4 := Lib.hid (HX.out.ch hc4 (by simp; omega))
      have HM4 := Lib.hid (HM.out.map HS.out.ut hc4)
      have HC4 := Lib.hid (HC.out.trans hc4)
      have H94 := Lib.hid (hS.out.1.ch hc4 (by simp; omega))
      clear hrun hu4 hc4 HX HM HC HS
      refine wpAnyH_ready (rs := [6]) (by kernel_rfl) (by simp) (AllReadyH.cons rfl (fun K hK => ?_) AllReadyH.nil)
      go_simp
      refine hK.out _ _ (Lib.hid ⟨H94.out, HS4.out.hd⟩) (fun _ => ?_)
      clear hK K hS hrun' H94
      refine wpAnyH_done (by kernel_rfl) ?_ _
      go_wp2_with fail
      go_roundw
      case rel => exact ⟨k + 1, by omega, by go_num, HS4, HX4, HM4, HC4⟩
      case measure => simp [intOf]; omega
    · have d0 : decide (k < t.ins.length) = false := decide_eq_false hlt
      obtain rfl : k = t.ins.length := by omega
      rw [List.take_length] at HS
      have hids := HIS.out HF.out.rt
      have hDl := delAll_len t.ins T
      obtain ⟨T1, hT1⟩ : ∃ T1, T1 = delAll t.ins T := ⟨_, rfl⟩
      rw [← hT1] at HS HAP hDl
      clear hT1 HIS
      go_wp2_with (refine wpList_load_blk rfl 70 (.tmp 4) rfl w.heap.size 0 6 HX.out t.cs (by rfl) (txn_ext t) Tryz.underlying70 infoTx (Nat.le_refl 6) ?_)
      refine (HID _ HM.out).out.mono ?_
      rintro e w5 ⟨rfl, hb⟩
      replace HX := Lib.hid (HX.out.bel hb)
      replace HM := Lib.hid (HM.out.bel hb)
      replace HS : Hid (SetAt w5 sb b (putAll id (t.outs.take 0) T1)) := Lib.hid (HS.out.bel hb)
      replace HC := Lib.hid (HC.out.trans (Ch.of_below hb _))
      clear hb HID
      obtain ⟨TB, hTB⟩ : ∃ TB, t.B = TB := ⟨_, rfl⟩
      have HTB := Lib.hid hTB
      have c1 : w5.cell? ⟨w.heap.size, 1, none⟩ = some (.slice TB t.outs.length t.d) := by rw [← hTB]; exact HX.out.cell 1
      have HIZ := Lib.hid hids
      clear hTB hids
      go_wp2_with fail
      go_loopw [39] (fun i wr => ∃ k : Nat, k ≤ t.outs.length ∧ i = .int .i64 k ∧ Hid (SetAt wr sb b (putAll id (t.outs.take k) T1)) ∧ Hid (t.mem wr) ∧ Hid (Ch [b] w wr)) (fun i _ => t.outs.length - (intOf i).toNat)
      case atStart => exact ⟨0, Nat.zero_le _, rfl, HS, HM, HC⟩
      case round =>
        clear HX HS HM HC c1
        obtain ⟨k, hk, rfl, HS, HM, HC⟩ := hrel
        have hz := HC.out.size
        by_cases hlt : k < t.outs.length
        · have d0 : decide (k < t.outs.length) = true := decide_eq_true hlt
          have hmi := HM.out.outs
          rw [HTB.out] at hmi
          obtain ⟨ab, off, hAe, hbB, hc⟩ := hmi.at_ hlt
          subst hAe
          have HSN := Lib.hid (putAll_snoc id t.outs k hlt T1)
          have hpl := putAll_len id (t.outs.take k) T1
          have htk : (t.outs.take k).length ≤ k := List.length_take_le _ _
          generalize t.outs[k] = x at hc HSN
          generalize putAll id (t.outs.take k) T1 = Tk at HS HSN hpl
          have HCC := Lib.hid hc
          clear hc hmi
          go_upto_region 13 with (first
            | (refine wpList_load_ou rfl (.tmp 42) rfl ab (off + k * 9) (by rfl) x HCC.out ?_)
            | (refine wpList_store_part rfl 57 (.tmp 12) (.tmp 43) rfl wr.heap.size 0 (cs := zOu.cs) (Blk.new _ _ _) x.cs x.cs (by rfl) (by rfl) (Nat.le_refl 9) infoOu9 (oucs_one x) (ouv_over x rfl) ?_; intro X0 hb1 hc1; have hb := bel_st' hc1; have H9 := Lib.hid hb1; replace HM := Lib.hid (HM.out.bel hb); replace HS := Lib.hid (HS.out.bel hb); replace HC := Lib.hid (HC.out.trans (Ch.of_below hb _)); clear hb1 hc1 hb))
          go_frame
          have hlr : b < wr.heap.size ∧ sb < wr.heap.size := ⟨by omega, by omega⟩
          refine wp_region_held_drew (S := fun W => Hid (Blk W wr.heap.size 57 x.cs ∧ Blk W sb 181 #[.map (some b)])) (by kernel_rfl) (Lib.hid ⟨H9.out.drewN 1, HS.out.hd.drewN 1⟩) (fun hS => ?_)
          replace HM : Hid (t.mem X0.drew) := Lib.hid (HM.out.bel (Below.refl _ _).drew)
          replace HS : Hid (SetAt X0.drew sb b Tk) := Lib.hid (HS.out.bel (Below.refl _ _).drew)
          replace HC : Hid (Ch [b] w X0.drew) := Lib.hid (HC.out.trans (Ch.drewN _ _ 1))
          refine wpAnyH_genT fun X hX => ?_
          rw [← hX] at HM HS HC hS
          clear hX H9
          refine wpAnyH_take (i := 0) (v := ?_) rfl (by kernel_rfl) (by kernel_rfl) (by kernel_rfl) (fun _ _ _ h => h) (Or.inl ⟨by rfl, ?_⟩) hS ?_
          rotate_left
          · (intro w _; go_simp; try with_reducible rfl)
          refine wpAnyH_take (i := 1) (v := ?_) rfl (by kernel_rfl) (by kernel_rfl) (by kernel_rfl) (fun _ _ _ h => h) (Or.inl ⟨by rfl, ?_⟩) hS ?_
          rotate_left
          · (intro w _; go_simp; try with_reducible rfl)
          refine wpAnyH_take (i := 2) (v := ?_) rfl (by kernel_rfl) (by kernel_rfl) (by kernel_rfl) (fun _ _ _ h => h) (Or.inl ⟨by rfl, ?_⟩) hS ?_
          rotate_left
          · (intro w _; go_simp; try with_reducible rfl)
          refine wpAnyH_take (i := 3) (v := ?_) rfl (by kernel_rfl) (by kernel_rfl) (by kernel_rfl) (fun _ _ _ h => h) (Or.inl ⟨by rfl, ?_⟩) hS ?_
          rotate_left
          · (intro w hS'; have hcell := (show World.cell? _ ⟨sb, 0, none⟩ = some (.map (some b)) from Blk.cell hS'.out.2 0); go_simp; try with_reducible rfl)
          refine wpAnyH_take (i := 4) (v := ?_) rfl (by kernel_rfl) (by kernel_rfl) (by kernel_rfl) (fun _ _ _ h => h) (Or.inl ⟨by rfl, ?_⟩) hS ?_
          rotate_left
          · (intro w _; go_simp; try with_reducible rfl)
          refine wpAnyH_take (i := 5) (v := ?_) rfl (by kernel_rfl) (by kernel_rfl) (by kernel_rfl) (fun _ _ _ h => h) (Or.inl ⟨by rfl, ?_⟩) hS ?_
          rotate_left
          · (intro w _; go_simp; try with_reducible rfl)
          refine wpAnyH_take (i := 6) (v := ?_) rfl (by kernel_rfl) (by kernel_rfl) (by kernel_rfl) (fun _ _ _ h => h) (Or.inl ⟨by rfl, ?_⟩) hS ?_
          rotate_left
          · (intro w _; go_simp; try with_reducible rfl)
          refine wpAnyH_take (i := 7) (v := .agg x.cs) rfl (by kernel_rfl) (by kernel_rfl) (by kernel_rfl) (fun _ _ _ h => h) (yields_blk (by rfl) 57 (.tmp 12) (by rfl) wr.heap.size 0 9 (t := 57) (cs := x.cs) (fun W h => h.out.1) x.cs (by go_simp) (ouv_ext x) Tryz.underlying57 infoOu9 (Nat.le_refl 9)) hS ?_
          obtain ⟨W4, hrun, hu4, hc4⟩ := HS.out.ut.store ⟨id, (k : Int), x⟩ ⟨HIZ.out, by show (0 : Int) ≤ (k : Int); omega, by show (k : Int) < 256; omega⟩ (by simp only [maxLen]; omega)
          have hrun' : (Instr.mapUpdate 179 (.map (some b)) (.agg #[.string id, .int .i64 (k : Int)]) (.agg x.cs)).run Tryz.prog X = .ok () W4 := hrun
          have HS4 : Hid (SetAt W4 sb b (putAll id (t.outs.take (k + 1)) T1)) := Lib.hid ⟨HS.out.hd.ch hc4 (by simp; omega), by rw [HSN.out]; exact hu4⟩
          have HM4 := Lib.hid (HM.out.map HS.out.ut hc4)
          have HC4 := Lib.hid (HC.out.trans hc4)
          have H94 := Lib.hid (hS.out.1.ch hc4 (by simp; omega))
          clear hrun hu4 hc4 HM HC HS
          refine wpAnyH_ready (rs := [8]) (by kernel_rfl) (by simp) (AllReadyH.cons rfl (fun K hK => ?_) AllReadyH.nil)
          go_simp
          refine hK.out _ _ (Lib.hid ⟨H94.out, HS4.out.hd⟩) (fun _ => ?_)
          clear hK K hS hrun' H94
          refine wpAnyH_done (by kernel_rfl) ?_ _
          go_wp2_with fail
          go_roundw
          case rel => exact ⟨k + 1, by omega, by go_num, HS4, HM4, HC4⟩
          case measure => simp [intOf]; omega
        · have d0 : decide (k < t.outs.length) = false := decide_eq_false hlt
          obtain rfl : k = t.outs.length := by omega
          rw [List.take_length] at HS
          go_wp2_with fail
          go_ret
          exact ⟨rfl, HC.out, by rw [if_pos rfl, HAP.out]; exact HS.out⟩
end Go.Proofs.YtmbceheafjadhaaGreat
