/- UtxoTotal: the walk. -/
import Derived.Outline
import Derived.Deep.DeepCutAuto
import Derived.Deep.CutBlock
import Derived.Test.YtdoebmikjgmnaaaGreatMgG44
import Derived.Test.YtdoebmikjgmnaaaGreatMgN5
set_option linter.unusedVariables false
set_option linter.unusedSimpArgs false
namespace Go.Proofs.YtdoebmikjgmnaaaGreat
open Go.RowKit Go.Maps
def intL (x : Int) : List Value := [.int .i64 x]
/-- the outputs and the transaction at hand -/
structure StT (w0 : World) (sb b g12 : Nat) (t : Txn) (T : List En) (w : World) : Prop where
  set : SetAt w sb b T
  blk : Blk w g12 53 t.cs
  mem : t.mem w
  bel : Below w0.heap.size w0 w
theorem StT.go {w0 w w' : World} {sb b g12 : Nat} {t : Txn} {T : List En} (h : StT w0 sb b g12 t T w) (hb : Below w.heap.size w w') : StT w0 sb b g12 t T w' := ⟨h.set.bel hb, h.blk.bel hb, h.mem.bel hb, h.bel.trans (hb.mono h.bel.size)⟩
def clashB (T : List En) (id : ByteArray) (m : Nat) : Bool := (List.range m).any fun j => (getU T (id, (j : Int))).isSome
theorem clash_succ (T : List En) (id : ByteArray) (m : Nat) : clashB T id (m + 1) = (clashB T id m || (getU T (id, (m : Int))).isSome) := by
  unfold clashB
  rw [List.range_succ, List.any_append]; simp
theorem clash_no {T : List En} {id : ByteArray} {n : Nat} (h : clashB T id n = false) : ∀ m : Nat, m < n → getU T (id, (m : Int)) = none := by
  intro m hm
  unfold clashB at h
  have := List.any_eq_false.1 h m (List.mem_range.2 hm)
  simpa using this
theorem id_len (t : Txn) : (idT t).size ≤ 16 := by
  unfold idT
  split
  · exact Nat.zero_le _
  · rw [tagB_size]; exact Nat.le_refl _
theorem id_pt (t : Txn) {m : Int} (h0 : 0 ≤ m) (h1 : m < 256) : Pt.ok (idT t, m) := ⟨by have := id_len t; show (idT t).size ≤ maxLen; simp [maxLen]; omega, by
  show (Lit.int .i64 m).wf = true
  simp [Lit.wf, IntKind.min, IntKind.max, IntKind.signed, IntKind.bits]; omega⟩
set_option maxRecDepth 100000 in
set_option maxHeartbeats 8000000 in
theorem utotal_any (A0 : Option Addr) (l : List Ou) (c0 : Nat) (X0 : Option Addr) (txs : List Txn) (x0 : Nat) (H0 : Option Addr) (hs : List Int) (y0 : Nat) (w0 : World) (hsl : Sl w0 w0.heap.size 9 Ou.cl A0 l) (hl : l.length ≤ maxLen) (ham : ∀ o ∈ l, o.am < 18446744073709551616 ∧ o.unit < 18446744073709551616)
    (hxs : Sl w0 w0.heap.size 6 Txn.cl X0 txs) (hxl : txs.length ≤ maxLen) (hcm : ∀ t ∈ txs, TxCame w0 t) (hhs : Sl w0 w0.heap.size 1 intL H0 hs) (hhl : hs.length ≤ maxLen) :
    Calls Tryz.prog 5 #[.slice A0 l.length c0, .slice X0 txs.length x0, .slice H0 hs.length y0] w0 fun e w' => e = .returned (.bool true) ∧ Below w0.heap.size w0 w' := by
  unfold maxLen at hxl hhl
  have HOU := Lib.hid (outs11_any A0 l c0 w0 hsl hl)
  have hA8 := cut_am ham 8
  have hL8 := cut_len l 8
  have HXS := Lib.hid hxs
  have HHS := Lib.hid hhs
  have HCM := Lib.hid hcm
  clear hsl hl ham hxs hhs hcm
  go_enter Tryz.func5, Tryz.ntmps5
  go_wp2_with fail
  refine HOU.out.mono ?_
  rintro e W3 ⟨A, c, B, d, m, rfl, hm, hO, _, HB⟩
  generalize (l.take 8).map cutO = L at hm hO hA8 hL8
  have HSO : Hid (Sl W3 W3.heap.size 9 Ou.cl A L) := Lib.hid (Sl.of_own ouLen9 (by rw [← hm]; exact hO))
  have HL8 := Lib.hid hL8
  replace HB := Lib.hid HB
  obtain rfl : m = L.length := hm
  clear hO hL8 HOU
  cases hn : newU L with
  | false =>
    go_wp2_with fail
    refine (unew_no A L c W3 HSO.out (by have := HL8.out; omega) hn).mono ?_
    rintro e W4 ⟨rfl, hb⟩
    replace HB := Lib.hid (HB.out.trans (hb.mono HB.out.size))
    clear hb
    go_wp2_with fail
    refine (fixed11_any _).mono ?_
    rintro e W5 ⟨rfl, hb⟩
    go_wp2_with fail
    go_ret
    exact ⟨rfl, HB.out.trans (hb.mono HB.out.size)⟩
  | true =>
    have HTK := Lib.hid (tok_new hn HL8.out hA8)
    go_wp2_with fail
    refine (unew_ok A L c W3 HSO.out hn (fun o ho => (hA8 o ho).1)).mono ?_
    rintro e W4 ⟨sb, b, rfl, hsb, hbb, hset, hb⟩
    have HS := Lib.hid hset
    have HBB := Lib.hid (Nat.le_trans HB.out.size hbb)
    replace HB := Lib.hid (HB.out.trans (hb.mono HB.out.size))
    have hTl : (utN (firstB L) L).length = L.length := utN_len _ _
    generalize utN (firstB L) L = T0 at HTK HS hTl
    clear hb hset hsb hbb HSO hA8
    have hT8 : T0.length ≤ 8 := by have := HL8.out; omega
    clear hTl HL8
    go_wp2_with fail
    go_loopw [11] (fun i wr => ∃ (k : Nat) (T : List En), k ≤ txs.length ∧ k ≤ 6 ∧ i = .int .i64 k ∧ T.length ≤ 8 + 4 * k ∧ Hid (TOk T) ∧ Hid (SetAt wr sb b T) ∧ Hid (Below w0.heap.size w0 wr)) (fun i _ => 6 - (intOf i).toNat)
    case atStart => exact ⟨0, T0, Nat.zero_le _, Nat.zero_le _, rfl, by omega, HTK, HS, HB⟩
    case round =>
      clear HTK HS HB hT8
      obtain ⟨k, T, hk, hk6, rfl, hTl, HTK, HS, HB⟩ := hrel
      by_cases hlt : k < txs.length ∧ k < 6
      rotate_left
      · have e1 : k < txs.length → decide ((k : Int) < 6) = false := fun h => decide_eq_false (by omega)
        by_cases hkl : k < txs.length
        · have e2 := e1 hkl
          have e3 : decide (k < txs.length) = true := decide_eq_true hkl
          clear e1 hlt
          go_wp2_with fail
          refine (fixed11_any _).mono ?_
          rintro e V ⟨rfl, hb⟩
          go_wp2_with fail
          go_ret
          exact ⟨rfl, HB.out.trans (hb.mono HB.out.size)⟩
        · have e3 : decide (k < txs.length) = false := decide_eq_false hkl
          clear e1 hlt
          go_wp2_with fail
          refine (fixed11_any _).mono ?_
          rintro e V ⟨rfl, hb⟩
          go_wp2_with fail
          go_ret
          exact ⟨rfl, HB.out.trans (hb.mono HB.out.size)⟩
      obtain ⟨hlt, h6⟩ := hlt
      have hcx := HCM.out _ (List.getElem_mem hlt)
      obtain ⟨ab, off, hA, hab, hc⟩ := HXS.out.at_ hlt
      generalize txs[k] = x at hc hcx
      subst hA
      have HC := Lib.hid (fun j u (hu : x.cl[j]? = some u) => (HB.out.cell (p := ⟨ab, off + k * 6 + j, none⟩) hab).trans (hc j u hu))
      have HCT := Lib.hid (tcut_any x wr ⟨(hcx.mem.ins.below HB.out).more HB.out.size, (hcx.mem.outs.below HB.out).more HB.out.size, (hcx.mem.wins.below HB.out).more HB.out.size⟩ hcx.n1 hcx.n2 hcx.pf.len)
      have HOK := fun A c B d PA pc => Lib.hid (cutx_ok hcx A c B d PA pc)
      have d1 : decide (k < txs.length) = true := decide_eq_true hlt
      have d2 : decide ((k : Int) < 6) = true := decide_eq_true (by omega)
      have d3 : (0 : Int) ≤ (k : Int) := by omega
      have d4 : (k : Int) < (txs.length : Int) := by omega
      clear hc hcx
      go_wp2_with (refine wpList_load_rowGz (by rfl) 53 (.tmp 68) rfl ab (off + k * 6) x.cl HC.out x.cs (by rfl) (Array.toArray_toList ..) Tryz.underlying53 infoTx ?_)
      refine HCT.out.mono ?_
      rintro e W2 ⟨TA, TB, TP, k1, c1, k2, e1, k3, p1, rfl, hk1, hk2, hk3, r1, r2, r3, hb⟩
      rw [cutx_cs x TA k1 c1 TB k2 e1 TP k3 p1 hk1 hk2 hk3]
      have HTM := Lib.hid (cutx_mem x hk1 hk2 hk3 r1 r2 r3)
      have HTO := HOK TA c1 TB e1 TP p1
      replace HS := Lib.hid (HS.out.bel hb)
      replace HB := Lib.hid (HB.out.trans (hb.mono HB.out.size))
      clear hb r1 r2 r3 hk1 hk2 hk3 HCT HOK HC d1
      generalize cutX x TA c1 TB e1 TP p1 = t at HTM HTO ⊢
      go_upto_if 74 with (refine wpList_store_part rfl 53 (.tmp 12) (.tmp 70) rfl W2.heap.size 0 (cs := zTxK) (Blk.new _ _ _) t.cs t.cs (by rfl) (by rfl) (Nat.le_refl 6) infoTx (txncs_one t) (txn_over t rfl) ?_; intro W5 hb1 hc1; have H12 := Lib.hid hb1; have HBA : Hid (Below W2.heap.size W2 W5) := Lib.hid (bel_st' hc1); clear hb1 hc1)
      have HST : Hid (StT w0 sb b W2.heap.size t T W5) := Lib.hid ⟨HS.out.bel HBA.out, H12.out, HTM.out.bel HBA.out, HB.out.trans (HBA.out.mono HB.out.size)⟩
      clear HS HB HTM H12 HBA
      generalize W2.heap.size = g12 at HST ⊢
      go_cut [13] from 71 to 78 (fun v13 wx => ∃ h : Int, v13 = .int .i64 h ∧ Hid (StT w0 sb b g12 t T wx))
      case first =>
        by_cases hh : k < hs.length
        · obtain ⟨hb', ho', hA, hhb, hhc⟩ := HHS.out.at_ hh
          have q1 : W5.cell? ⟨hb', ho' + k, none⟩ = some (.int .i64 hs[k]) := (HST.out.bel.cell (p := ⟨hb', ho' + k, none⟩) hhb).trans (by have := hhc 0 _ rfl; simpa using this)
          have e1 : decide (k < hs.length) = true := decide_eq_true hh
          have e2 : (k : Int) < (hs.length : Int) := by omega
          subst hA
          go_wp2_with fail
          go_meet
          exact ⟨_, rfl, HST⟩
        · have e1 : decide (k < hs.length) = false := decide_eq_false hh
          go_wp2_with fail
          go_meet
          exact ⟨_, rfl, HST⟩
      case rest =>
        clear HST
        obtain ⟨h, rfl, HST⟩ := hcut
        have hT1 : T.length ≤ 32 := by omega
        have hT0 : 0 < T.length := HTK.out.pos
        have KT := total_any sb b T wc HST.out.set (by omega) hT0 HTK.out.am
        go_wp2_with fail
        refine KT.mono ?_
        rintro e W6 ⟨rfl, hb⟩
        replace HST := Lib.hid (HST.out.go hb)
        clear hb KT
        go_upto_region 12 with fail
        obtain ⟨ck, hck⟩ : ∃ c, c = checkE T t h := ⟨_, rfl⟩
        have KC := fun W (h1 : StT w0 sb b g12 t T W) => Lib.hid (check_any sb b T t h W h1.set h1.mem HTK.out HTO.out)
        have KA := fun W (h1 : StT w0 sb b g12 t T W) => Lib.hid (all_n T.length sb b T W h1.set rfl (by omega) hT0)
        rw [← hck] at KC
        have HCK := Lib.hid hck
        clear hck
        go_cut [16, 17] from 84 to 89 (fun v16 v17 wx => (∃ (A1 : Option Addr) (c1 : Nat), v16 = .slice A1 T.length c1) ∧ v17 = .int .i64 ck ∧ Hid (StT w0 sb b g12 t T wx))
        case first =>
          refine wp_region_held_drew (S := fun W => Hid (Blk W g12 53 t.cs)) (by kernel_rfl) (Lib.hid (HST.out.blk.drewN 1)) (fun hS => ?_)
          replace HST := Lib.hid (HST.out.go (Below.refl _ _).drew)
          refine wpAnyH_genT fun X hX2 => ?_
          rw [← hX2] at HST hS
          clear hX2
          refine wpAnyH_take (i := 0) (v := ?_) rfl (by kernel_rfl) (by kernel_rfl) (by kernel_rfl) (fun _ _ _ h => h) (Or.inl ⟨by rfl, ?_⟩) hS ?_
          rotate_left
          · (intro w _; go_simp; try with_reducible rfl)
          refine wpAnyH_take (i := 2) (v := ?_) rfl (by kernel_rfl) (by kernel_rfl) (by kernel_rfl) (fun _ _ _ h => h) (Or.inl ⟨by rfl, ?_⟩) hS ?_
          rotate_left
          · (intro w _; go_simp; try with_reducible rfl)
          refine wpAnyH_take (i := 3) (v := .agg t.cs) rfl (by kernel_rfl) (by kernel_rfl) (by kernel_rfl) (fun _ _ _ h => h) (yields_blk (by rfl) 53 (.tmp 12) (by rfl) g12 0 6 (t := 53) (cs := t.cs) (fun W h => h.out) t.cs (by rfl) (txn_ext t) Tryz.underlying53 infoTx (Nat.le_refl 6)) hS ?_
          refine wpAnyH_take (i := 4) (v := ?_) rfl (by kernel_rfl) (by kernel_rfl) (by kernel_rfl) (fun _ _ _ h => h) (Or.inl ⟨by rfl, ?_⟩) hS ?_
          rotate_left
          · (intro w _; go_simp; try with_reducible rfl)
          refine wpAnyH_ready (rs := [1]) (by kernel_rfl) (by simp) (AllReadyH.cons rfl (fun K hK => ?_) AllReadyH.nil)
          go_simp
          refine (KA _ HST.out).out.mono ?_
          rintro e Y ⟨A1, c1, rfl, _, hb⟩
          replace HST := Lib.hid (HST.out.go hb)
          clear hb
          go_simp
          refine hK.out _ _ (Lib.hid HST.out.blk) (fun _ => ?_)
          clear hK K hS
          refine wpAnyH_ready (rs := [5]) (by kernel_rfl) (by simp) (AllReadyH.cons rfl (fun K hK => ?_) AllReadyH.nil)
          go_simp
          refine (KC _ HST.out).out.mono ?_
          rintro e Z ⟨rfl, hb⟩
          replace HST := Lib.hid (HST.out.go hb)
          clear hb
          go_simp
          have hS := Lib.hid HST.out.blk
          refine hK.out _ _ hS (fun _ => ?_)
          clear hK K
          refine wpAnyH_take (i := 6) (v := ?_) rfl (by kernel_rfl) (by kernel_rfl) (by kernel_rfl) (fun _ _ _ h => h) (Or.inl ⟨by rfl, ?_⟩) hS ?_
          rotate_left
          · (intro w _; go_simp; try with_reducible rfl)
          refine wpAnyH_take (i := 7) (v := ?_) rfl (by kernel_rfl) (by kernel_rfl) (by kernel_rfl) (fun _ _ _ h => h) (Or.inl ⟨by rfl, ?_⟩) hS ?_
          rotate_left
          · (intro w _; go_simp; try with_reducible rfl)
          refine wpAnyH_done (by kernel_rfl) ?_ _
          go_simp
          go_wp2_with fail
          go_meet
          exact ⟨⟨A1, c1, rfl⟩, rfl, HST⟩
        case rest =>
          clear HST KC KA
          obtain ⟨⟨A1, c1, rfl⟩, rfl, HST⟩ := hcut
          have HID := fun W (h1 : StT w0 sb b g12 t T W) => Lib.hid (id_gen t W h1.mem HTO.out.ins HTO.out.outs HTO.out.pf.len HTO.out.out (by have := corex_size t; omega))
          have HGE := fun W (h1 : StT w0 sb b g12 t T W) (m : Nat) (hm : m < 256) => Lib.hid (get_any sb b T (idT t) (m : Int) W h1.set (id_pt t (by omega) (by omega)))
          have HIP := Lib.hid (id_pt t (m := 0) (by omega) (by omega))
          go_wp2_with fail
          go_loopw [18, 19] (fun v i wr => ∃ m : Nat, m ≤ 4 ∧ i = .int .i64 m ∧ v = .bool (clashB T (idT t) m) ∧ Hid (StT w0 sb b g12 t T wr)) (fun _ i _ => 4 - (intOf i).toNat)
          case atStart => exact ⟨0, by omega, rfl, rfl, HST⟩
          case round =>
            clear HST
            obtain ⟨m, hm, rfl, rfl, HST⟩ := hrel
            by_cases hm4 : m < 4
            · have hcs := Lib.hid (clash_succ T (idT t) m)
              have e1 : decide ((m : Int) < 4) = true := decide_eq_true (by omega)
              go_wp2_with (refine wpList_load_blk rfl 53 (.tmp 12) rfl g12 0 6 HST.out.blk t.cs (by rfl) (txn_ext t) Tryz.underlying53 infoTx (Nat.le_refl 6) ?_)
              refine (HID _ HST.out).out.mono ?_
              rintro e V1 ⟨rfl, hb⟩
              replace HST := Lib.hid (HST.out.go hb)
              clear hb
              go_wp2_with fail
              refine (HGE _ HST.out m (by omega)).out.mono ?_
              unfold getA
              rintro e V2 ⟨rfl, hb⟩
              replace HST := Lib.hid (HST.out.go hb)
              clear hb
              generalize ((getU T (idT t, (m : Int))).getD zOu) = oo
              generalize (getU T (idT t, (m : Int))).isSome = bo at hcs ⊢
              generalize clashB T (idT t) m = bc at hcs ⊢
              cases bc <;> cases bo
              all_goals
                go_wp2_with (refine wpList_store_part rfl 41 (.tmp 20) (.tmp 101) rfl V2.heap.size 0 (cs := zOu.cs) (Blk.new _ _ _) oo.cs oo.cs (by rfl) (by rfl) (Nat.le_refl 9) infoOuC (oucs_one _) (ou_over _ rfl) ?_; intro V3 hb1 hc1; replace HST := Lib.hid (HST.out.go (bel_st' hc1)); clear hb1 hc1)
                go_roundw
                case rel => exact ⟨m + 1, by omega, by go_num, by rw [hcs.out]; rfl, HST⟩
                case measure => simp [intOf]; omega
            · have e1 : decide ((m : Int) < 4) = false := decide_eq_false (by omega)
              have hm5 : m = 4 := by omega
              have HCL := Lib.hid (fun (hq : clashB T (idT t) m = false) => clash_no (by rw [← hm5]; exact hq : clashB T (idT t) 4 = false))
              clear HGE hm4 hm hm5
              generalize clashB T (idT t) m = cl at HCL ⊢
              go_wp2_with (refine wpList_load_blk rfl 53 (.tmp 12) rfl g12 0 6 HST.out.blk t.cs (by rfl) (txn_ext t) Tryz.underlying53 infoTx (Nat.le_refl 6) ?_)
              have KP := apply_any sb b T t h wr HST.out.set HST.out.mem HTK.out HTO.out
              rw [← HCK.out] at KP
              refine KP.mono ?_
              rintro e V4 ⟨rfl, hc, hset⟩
              have hblk := HST.out.blk.ch hc (by have := HST.out.set.ut.ne_blk HST.out.blk; simpa using Ne.symm this)
              have hmem := HST.out.mem.map HST.out.set.ut hc
              have hbel := HST.out.bel.trans (hc.below HST.out.bel.size (by simpa using HBB.out))
              have hsrt := HST.out.set.ut.srt
              clear KP hc e1
              by_cases hck0 : ck = 0
              rotate_left
              · rw [if_neg hck0] at hset
                replace HST : Hid (StT w0 sb b g12 t T V4) := Lib.hid ⟨hset, hblk, hmem, hbel⟩
                have f1 : (ck != 0) = true := by simpa [bne_iff_ne] using hck0
                have f2 : (ck != ck) = false := by simp
                have KT := total_any sb b T V4 hset (by omega) hT0 HTK.out.am
                clear hset hblk hmem hbel hsrt hck0 HCL HCK HIP HID
                go_wp2_with fail
                refine KT.mono ?_
                rintro e V5 ⟨rfl, hb⟩
                replace HST := Lib.hid (HST.out.go hb)
                have KA := all_n T.length sb b T V5 HST.out.set rfl (by omega) hT0
                clear hb KT
                generalize totV (topsI T) = v1
                generalize totE (topsI T) = v2
                have f3 : ((T.length : Int) != (T.length : Int)) = false := by simp
                have f4 : (T.length != T.length) = false := by simp
                have f5 : (v1 != v1) = false := by simp
                have f6 : (v2 != v2) = false := by simp
                go_wp2_with fail
                refine KA.mono ?_
                rintro e V6 ⟨A2, c2, rfl, _, hb⟩
                replace HST := Lib.hid (HST.out.go hb)
                clear hb KA
                go_wp2_with fail
                go_roundw
                case rel => exact ⟨k + 1, T, by omega, by omega, by go_num, by omega, HTK, Lib.hid HST.out.set, Lib.hid HST.out.bel⟩
                case measure => simp [intOf]; omega
              subst hck0
              rw [if_pos rfl] at hset
              have hcE := HCK.out.symm
              have HFT := Lib.hid (found_t (check_parts hcE).1)
              have HTK2 := Lib.hid (tok_apply HTK.out hsrt HTO.out hcE (by omega))
              have hT2 := apply_len T t HFT.out.rt
              have HIN := Lib.hid (fun (i : Inp) (hi : i ∈ t.ins) (hne : i.tx ≠ idT t) => apply_in (T := T) hsrt hi hne)
              have HOT := Lib.hid (fun (m : Nat) (hm : m < t.outs.length) => apply_out (T := T) (t := t) hsrt m hm)
              have HTOT := Lib.hid (fun (hq : cl = false) => apply_tot hsrt hcE (HCL.out hq))
              generalize applyT T t = T2 at hset HTK2 hT2 HIN HOT HTOT
              replace HST : Hid (StT w0 sb b g12 t T2 V4) := Lib.hid ⟨hset, hblk, hmem, hbel⟩
              have hT20 : 0 < T2.length := HTK2.out.pos
              have KT := total_any sb b T2 V4 hset (by omega) hT20 HTK2.out.am
              have HSUM : Hid ((cl = true ∨ (totE (topsI T) == 0) = false) ∨ (cl = false ∧ totE (topsI T) = 0 ∧ totE (topsI T2) = 0 ∧ totV (topsI T) = totV (topsI T2) + 10 ∧ 0 ≤ totV (topsI T2) ∧ totV (topsI T2) + 10 < 18446744073709551616)) := Lib.hid (by
                cases hq : cl with
                | true => exact .inl (.inl rfl)
                | false =>
                  have h1 := HTOT.out hq
                  have h2 := totI_nonneg _ (topsI_nn T2)
                  unfold totE totV
                  by_cases h3 : totI (topsI T) < 18446744073709551616
                  · rw [if_pos h3, if_pos (show totI (topsI T2) < 18446744073709551616 by omega), if_pos h3, if_pos (show totI (topsI T2) < 18446744073709551616 by omega)]
                    exact .inr ⟨rfl, rfl, rfl, by omega, h2, by omega⟩
                  · rw [if_neg h3]; exact .inl (.inr (by decide)))
              generalize totV (topsI T) = v1 at HSUM ⊢
              generalize totE (topsI T) = u1 at HSUM ⊢
              generalize totV (topsI T2) = v2 at HSUM KT
              generalize totE (topsI T2) = u2 at HSUM KT
              clear hset hblk hmem hbel hsrt hcE HCL HCK HTOT HIP
              go_wp2_with fail
              refine KT.mono ?_
              rintro e V5 ⟨rfl, hb⟩
              replace HST := Lib.hid (HST.out.go hb)
              clear hb KT
              go_upto_region 24 with fail
              go_cut [158] from 141 to 158 (fun v wx => v = .bool false ∧ Hid (StT w0 sb b g12 t T2 wx))
              case first =>
                rcases HSUM.out with (hq | hq) | ⟨hq, rfl, rfl, rfl, z1, z2⟩
                · subst hq
                  go_wp2_with fail
                  go_meet
                  exact ⟨rfl, HST⟩
                · cases cl
                  · go_wp2_with fail
                    go_meet
                    exact ⟨rfl, HST⟩
                  · go_wp2_with fail
                    go_meet
                    exact ⟨rfl, HST⟩
                · subst hq
                  have z3 : (v2 + 10 != v2 + 10) = false := by simp
                  go_wp2_with fail
                  go_meet
                  exact ⟨rfl, HST⟩
              case rest =>
                clear HST HSUM
                obtain ⟨rfl, HST⟩ := hcut
                have a0 : wc.cell? ⟨g12, 0, none⟩ = some (.slice t.A t.ins.length t.c) := HST.out.blk.cell 0
                have HRT := Lib.hid (fun (i : Inp) (hi : i ∈ t.ins) => inB_ok (HFT.out.right.ins i hi))
                have hn1 := HFT.out.right.n1
                have hn2 := HFT.out.right.n2
                have HID2 := fun W (h1 : StT w0 sb b g12 t T2 W) => Lib.hid (id_gen t W h1.mem HTO.out.ins HTO.out.outs HTO.out.pf.len HTO.out.out (by have := corex_size t; omega))
                clear HID HFT
                go_wp2_with fail
                clear a0
                go_loopw [25] (fun i wr => ∃ m : Nat, m ≤ t.ins.length ∧ i = .int .i64 m ∧ Hid (StT w0 sb b g12 t T2 wr)) (fun i _ => t.ins.length - (intOf i).toNat)
                case atStart => exact ⟨0, by omega, rfl, HST⟩
                case round =>
                  clear HST
                  obtain ⟨m, hm, rfl, HST⟩ := hrel
                  have a0 : World.cell? _ ⟨g12, 0, none⟩ = some (.slice t.A t.ins.length t.c) := HST.out.blk.cell 0
                  by_cases hml : m < t.ins.length
                  · obtain ⟨tb, tf, hTA, htb, hd⟩ := HST.out.mem.ins.at_ hml
                    have hym : t.ins[m] ∈ t.ins := List.getElem_mem hml
                    generalize t.ins[m] = y at hd hym
                    have HY := Lib.hid hym
                    rw [hTA] at a0
                    have HTA := Lib.hid hTA
                    have HD := Lib.hid hd
                    have e2 : decide (m < t.ins.length) = true := decide_eq_true hml
                    have e3 : (0 : Int) ≤ (m : Int) := by omega
                    have e4 : (m : Int) < (t.ins.length : Int) := by omega
                    have KG := Lib.hid (get_any sb b T2 y.tx y.out wr HST.out.set (HRT.out y hym))
                    clear hd hTA hym
                    go_wp2_with (refine wpList_load_pt rfl (.tmp 172) rfl tb (tf + m * 4) (by rfl) y.tx y.out (fun j u hu => by have := HD.out j u (by match j, hu with | 0, hu => exact hu | 1, hu => exact hu | j + 2, hu => simp [ptCl] at hu); simpa using this) ?_)
                    refine KG.out.mono ?_
                    unfold getA
                    rintro e V6 ⟨rfl, hb⟩
                    have HDV := Lib.hid (rows_bel HD.out htb hb)
                    have htbV : tb < V6.heap.size := Nat.lt_of_lt_of_le htb hb.size
                    replace HST := Lib.hid (HST.out.go hb)
                    have HBO : Hid ((getU T2 (y.tx, y.out)).isSome = true → y.tx = idT t) := Lib.hid (fun hq => by
                      by_cases e : y.tx = idT t
                      · exact e
                      · have := HIN.out y HY.out e
                        rw [show getU T2 (y.tx, y.out) = none from this] at hq; cases hq)
                    generalize ((getU T2 (y.tx, y.out)).getD zOu) = oo
                    generalize (getU T2 (y.tx, y.out)).isSome = bo at HBO ⊢
                    clear hb KG HD a0 htb
                    go_upto_region 30 with (refine wpList_store_part rfl 41 (.tmp 26) (.tmp 175) rfl V6.heap.size 0 (cs := zOu.cs) (Blk.new _ _ _) oo.cs oo.cs (by rfl) (by rfl) (Nat.le_refl 9) infoOuC (oucs_one _) (ou_over _ rfl) ?_; intro V7 hb1 hc1; have HBA : Hid (Below V6.heap.size V6 V7) := Lib.hid (bel_st' hc1); clear hb1 hc1)
                    replace HST := Lib.hid (HST.out.go HBA.out)
                    have HDX := Lib.hid (rows_bel HDV.out htbV HBA.out)
                    clear HDV htbV HBA
                    cases bo with
                    | false =>
                      refine wp_region_quiet_below (by kernel_rfl) (by kernel_rfl) ?_
                      repeat (first | go_big_quiet_skip | (go_big_quiet_want; first | (fail; go_big_quiet_on) | (go_big_quiet_op; first | go_big_quiet_on | go_big_quiet_call (fail))))
                      refine wpQuiet_nil ?_
                      intro U hp
                      have hb := bel_regrown hp
                      clear hp
                      replace HST := Lib.hid (HST.out.go hb)
                      clear hb HDX HBO
                      go_wp2_with fail
                      go_roundw
                      case rel => exact ⟨m + 1, by omega, by go_num, HST⟩
                      case measure => simp [intOf]; omega
                    | true =>
                      have hyt := HBO.out rfl
                      have q0 := cell_rg (show V7.cell? ⟨g12, 0, none⟩ = some (.slice (some ⟨tb, tf, none⟩) t.ins.length t.c) from (HST.out.blk.cell 0).trans (by show some (Value.slice t.A _ _) = _; rw [HTA.out]))
                      have q1 := cell_rg (show V7.cell? ⟨tb, tf + m * 4, none⟩ = some (.string (idT t)) from by have := HDX.out 0 _ rfl; rw [← hyt]; simpa using this)
                      have q2 : ((idT t).toList == (idT t).toList) = true := by simp
                      have KI := fun W (hW : Below V7.heap.size V7 W) => HID2 W (HST.out.go hW)
                      clear hyt HDX HBO
                      generalize idT t = idd at q1 q2 KI
                      refine wp_region_quiet_below (by kernel_rfl) (by kernel_rfl) ?_
                      repeat (first | go_big_quiet_skip | (go_big_quiet_want; first | ((refine quiet_load_blk 53 (.tmp 12) rfl g12 0 6 HST.out.blk t.cs (by rfl) (txn_ext t) Tryz.underlying53 infoTx (Nat.le_refl 6) ?_; go_simp); go_big_quiet_on) | (go_big_quiet_op; first | go_big_quiet_on | go_big_quiet_call ((go_at_call 25; with_reducible exact Calls.rg fun W hW => (KI W hW).out)))))
                      refine wpQuiet_nil ?_
                      intro U hp
                      have hb := bel_regrown hp
                      clear hp
                      replace HST := Lib.hid (HST.out.go hb)
                      clear hb q0 q1 q2 KI
                      go_wp2_with fail
                      go_roundw
                      case rel => exact ⟨m + 1, by omega, by go_num, HST⟩
                      case measure => simp [intOf]; omega
                  · have e2 : decide (m < t.ins.length) = false := decide_eq_false hml
                    have a1 : World.cell? _ ⟨g12, 1, none⟩ = some (.slice t.B t.outs.length t.d) := HST.out.blk.cell 1
                    have HGO := fun W (h1 : StT w0 sb b g12 t T2 W) (j : Nat) (hj : j < t.outs.length) => Lib.hid (show Calls Tryz.prog 24 #[.pointer (some ⟨sb, 0, none⟩), .agg #[.string (idT t), .int .i64 (j : Int)]] W fun e w' => e = .returned (.tuple #[.agg (t.outs[j]).cs, .bool true]) ∧ Below W.heap.size W w' from by
                      have h0 := get_any sb b T2 (idT t) (j : Int) W h1.set (id_pt t (by omega) (by omega))
                      rw [show getA T2 (idT t, (j : Int)) = .tuple #[.agg (t.outs[j]).cs, .bool true] from by unfold getA; rw [HOT.out j hj]; rfl] at h0
                      exact h0)
                    clear HIN HOT HRT hm
                    go_wp2_with fail
                    clear a0 a1 e2
                    obtain ⟨wo, rfl⟩ : ∃ wo : World, wo = wr := ⟨_, rfl⟩
                    go_loopw [28] (fun i wr => ∃ j : Nat, j ≤ t.outs.length ∧ i = .int .i64 j ∧ Hid (StT w0 sb b g12 t T2 wr)) (fun i _ => t.outs.length - (intOf i).toNat)
                    case atStart => exact ⟨0, by omega, rfl, HST⟩
                    case round =>
                      clear HST
                      obtain ⟨j, hj, rfl, HST⟩ := hrel
                      have a1 : World.cell? _ ⟨g12, 1, none⟩ = some (.slice t.B t.outs.length t.d) := HST.out.blk.cell 1
                      by_cases hjl : j < t.outs.length
                      · have e3 : decide (j < t.outs.length) = true := decide_eq_true hjl
                        have e4 : (0 : Int) ≤ (j : Int) := by omega
                        have e5 : (j : Int) < (t.outs.length : Int) := by omega
                        have KG := fun W (h1 : StT w0 sb b g12 t T2 W) => HGO W h1 j hjl
                        have HOA := fun W (h1 : StT w0 sb b g12 t T2 W) => Lib.hid (h1.mem.outs.at_ hjl)
                        generalize t.outs[j] = oo at KG HOA
                        go_wp2_with (refine wpList_load_blk rfl 53 (.tmp 12) rfl g12 0 6 HST.out.blk t.cs (by rfl) (txn_ext t) Tryz.underlying53 infoTx (Nat.le_refl 6) ?_)
                        refine (HID2 _ HST.out).out.mono ?_
                        rintro e V6 ⟨rfl, hb⟩
                        replace HST := Lib.hid (HST.out.go hb)
                        clear hb a1
                        go_wp2_with fail
                        refine (KG _ HST.out).out.mono ?_
                        rintro e V7 ⟨rfl, hb⟩
                        replace HST := Lib.hid (HST.out.go hb)
                        clear hb KG
                        go_upto_region 36 with (refine wpList_store_part rfl 41 (.tmp 29) (.tmp 204) rfl V7.heap.size 0 (cs := zOu.cs) (Blk.new _ _ _) oo.cs oo.cs (by rfl) (by rfl) (Nat.le_refl 9) infoOuC (oucs_one _) (ou_over _ rfl) ?_; intro V8 hb1 hc1; have H29 := Lib.hid hb1; replace HST := Lib.hid (HST.out.go (bel_st' hc1)); clear hb1 hc1)
                        generalize V7.heap.size = g29 at H29 ⊢
                        obtain ⟨tb, tf, hTB, htb, hd⟩ := (HOA _ HST.out).out
                        have HD := Lib.hid hd
                        have q0 := cell_rg (show V8.cell? ⟨g12, 1, none⟩ = some (.slice (some ⟨tb, tf, none⟩) t.outs.length t.d) from (HST.out.blk.cell 1).trans (by show some (Value.slice t.B _ _) = _; rw [hTB]))
                        clear hd hTB HOA
                        refine wp_region_quiet_below (by kernel_rfl) (by kernel_rfl) ?_
                        repeat (first | go_big_quiet_skip | (go_big_quiet_want; first | ((first
                                                  | (refine quiet_load_blk 41 (.tmp 29) rfl g29 0 9 H29.out oo.cs (by rfl) (ouv_ext oo) Tryz.underlying41 infoOuC (Nat.le_refl 9) ?_; go_simp)
                                                  | (refine quiet_load_row 41 (.tmp 213) rfl tb (tf + j * 9) oo.cl HD.out oo.cs (by rfl) (Array.toArray_toList ..) Tryz.underlying41 infoOuC ?_; go_simp)
                                                  | (refine quiet_eqop .neq 41 (.tmp 209) (.tmp 214) rfl oo.cs oo.cs (by rfl) (by rfl) false (fun W => eqGuardN W .neq _ _ _ _ _ (by kernel_rfl)) (fun W => ouNeq_self W oo) ?_; go_simp)); go_big_quiet_on) | (go_big_quiet_op; first | go_big_quiet_on | go_big_quiet_call (fail))))
                        refine wpQuiet_nil ?_
                        intro U hp
                        have hb := bel_regrown hp
                        clear hp
                        replace HST := Lib.hid (HST.out.go hb)
                        clear hb q0 HD H29
                        go_wp2_with fail
                        go_roundw
                        case rel => exact ⟨j + 1, by omega, by go_num, HST⟩
                        case measure => simp [intOf]; omega
                      · have e3 : decide (j < t.outs.length) = false := decide_eq_false hjl
                        go_wp2_with fail
                        go_roundw
                        case rel => exact ⟨k + 1, T2, by omega, by omega, by go_num, by omega, HTK2, Lib.hid HST.out.set, Lib.hid HST.out.bel⟩
                        case measure => simp [intOf]; omega
end Go.Proofs.YtdoebmikjgmnaaaGreat
