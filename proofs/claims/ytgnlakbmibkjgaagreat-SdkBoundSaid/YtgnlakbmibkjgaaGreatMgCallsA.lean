/- SdkCalls: the walk. -/
import Derived.Outline
import Derived.Laws.StructEq
import Derived.Test.YtgnlakbmibkjgaaGreatMgGate
import Derived.Test.YtgnlakbmibkjgaaGreatMgRiseA
set_option linter.unusedVariables false
set_option linter.unusedSimpArgs false
namespace Go.Proofs.YtgnlakbmibkjgaaGreat
open Go.RowKit Go.Maps
theorem Cst.lt {w : World} {cb kb ctr pb mb h n i out b z : Nat} {seed tx : ByteArray} {l : Lk} (k : Cst w cb kb ctr pb mb seed h n tx out l i b z) : cb < w.heap.size ∧ ctr < w.heap.size ∧ mb < w.heap.size := by
  obtain ⟨⟨am, tk, A, D, k1, _⟩, _, _⟩ := k
  obtain ⟨_, _, q2, _⟩ := id k1.2.1
  exact ⟨k1.1.lt, q2.lt, k1.2.2.2.lt⟩
theorem Cst.chO {w w' : World} {cb kb ctr pb mb h n i out b z g : Nat} {seed tx : ByteArray} {l : Lk} {cs : Array Value} (k : Cst w cb kb ctr pb mb seed h n tx out l i b z) (hc : Ch [g] w w') (hg : Blk w g 45 cs) : Cst w' cb kb ctr pb mb seed h n tx out l i b z := by
  obtain ⟨⟨am, tk, A, D, k1, k2⟩, k3, k4⟩ := k
  exact ⟨⟨am, tk, A, D, k1.chO hc rfl hg (by decide) (by decide) (by decide) (by decide) (by decide), k2⟩, k3, k4⟩
theorem opNeqP (W : World) (kd am : Nat) (nm s : ByteArray) : (binOp .neq 45 (.agg (opP kd nm am s)) (.agg (opP kd nm am s))).run Tryz.prog W = .ok (.bool false) W := by
  unfold opP
  simp [go_sem]
theorem opNeqT (W : World) (t : Tk) (nm : ByteArray) : (binOp .neq 45 (.agg (opT nm t)) (.agg (opT nm t))).run Tryz.prog W = .ok (.bool false) W := by
  unfold opT
  simp [go_sem]
theorem opNeq {seed nm : ByteArray} {h n : Nat} {f : Int} (W : World) (op : Array Value) (k : OpG seed h n nm f op) : (binOp .neq 45 (.agg op) (.agg op)).run Tryz.prog W = .ok (.bool false) W := by
  rcases k with ⟨_, rfl⟩ | ⟨_, ⟨_, _, _, _, rfl⟩ | ⟨_, _, rfl⟩ | ⟨_, _, _, _, _, _, _, rfl⟩⟩
  · exact opNeqP _ _ _ _ _
  · exact opNeqP _ _ _ _ _
  · exact opNeqP _ _ _ _ _
  · exact opNeqT _ _ _
theorem opNGuard (W : World) (x y : Operand) (xs ys : Array Value) : (eqGuard .neq 45 x y (.agg xs) (.agg ys)).run Tryz.prog W = .ok () W :=
  run_eqGuard_agg W .neq 45 x y xs ys (by kernel_rfl)
theorem opNz (W : World) : (binOp .neq 45 (.agg (opP 0 ByteArray.empty 0 ByteArray.empty)) (.agg #[.int .i64 0, .string ⟨#[]⟩, .string ⟨#[]⟩, .int .i64 0, .int .i64 0, .int .u64 0, .string ⟨#[]⟩, .string ⟨#[]⟩, .int .i64 0, .string ⟨#[]⟩, .int .u64 0, .int .i64 0, .string ⟨#[]⟩, .int .u64 0, .int .u64 0, .int .u64 0, .int .u64 0, .string ⟨#[]⟩, .string ⟨#[]⟩, .int .u64 0, .int .u64 0, .int .u64 0, .int .u64 0, .string ⟨#[]⟩, .int .u64 0, .string ⟨#[]⟩, .int .i64 0])).run Tryz.prog W = .ok (.bool false) W :=
  opNeqP W 0 0 ByteArray.empty ByteArray.empty
/-- a payment that was made may be, and is read as it was written -/
theorem opg_ok {seed nm : ByteArray} {n : Nat} {op : Array Value} (hn : nm.size = 16)
    (k : (∃ am i, i < 2 ^ 4 ∧ am < 18446744073709551616 ∧ op = opP 2 nm am (signB seed 4 i (vouchB nm am))) ∨ (∃ j, j ≤ n ∧ op = opP 3 nm 0 (tokB seed n j)) ∨
      (∃ (t : Tk) (i : Nat), i < 2 ^ 4 ∧ t.ok ∧ t.ch = nm ∧ t.com.size = 16 ∧ t.sig = ByteArray.empty ∧ op = opT nm (t.signed (signB seed 4 i (textB t))))) :
    ∃ es, (∀ W, Calls Tryz.prog 38 #[.agg op] W fun e w' => e = .returned (.bool true) ∧ Below W.heap.size W w') ∧ (∀ W, Calls Tryz.prog 37 #[.agg op] W fun e w' => e = .returned (.string es) ∧ Below W.heap.size W w') ∧
      (∀ W, Calls Tryz.prog 36 #[.string es] W fun e w' => e = .returned (.tuple #[.agg op, .int .i64 0]) ∧ Below W.heap.size W w') ∧ op[1]? = some (.string nm) := by
  rcases k with ⟨am, i, hi, ha, rfl⟩ | ⟨j, hj, rfl⟩ | ⟨t, i, hi, ht, h0, h5, h7, rfl⟩
  · have hs : (signB seed 4 i (vouchB nm am)).size ≤ 400 := by rw [signB_size seed hi]; omega
    exact ⟨encV nm am _, fun W => right_v _ _ _ W hn hs, fun W => enc_v _ _ _ W hn hs ha, fun W => dec_v _ _ _ W hn hs ha, rfl⟩
  · have hs : (tokB seed n j).size ≤ 16 := by rw [tokB_size]; omega
    exact ⟨encT nm _, fun W => right_t _ _ W hn hs, fun W => enc_t _ _ W hn hs, fun W => dec_t _ _ W hn hs, rfl⟩
  · have hs : (t.signed (signB seed 4 i (textB t))).sig.size ≤ 400 := by show (signB seed 4 i (textB t)).size ≤ 400; rw [signB_size seed hi]; omega
    have hk : (t.signed (signB seed 4 i (textB t))).ok := ⟨ht.ch, ht.ser, ht.face, ht.wins, ht.many, ht.com, ht.cl⟩
    exact ⟨encK nm _, fun W => right_k nm _ W hn h0 h5 hs, fun W => enc_k nm _ W hn h0 h5 hs hk, fun W => dec_k nm _ W hn h0 h5 hs hk, rfl⟩
set_option maxRecDepth 100000 in
set_option maxHeartbeats 4000000 in
theorem calls_any (s : ByteArray) (A : Option Addr) (l : List Nat) (c : Nat) (w : World) (hs : s.size ≤ maxLen) (hl : l.length ≤ maxLen) (hch : ∀ x ∈ l, x < 4294967296) (hS : Sl w w.heap.size 1 encU A l)
    (HFIX : ∀ W, Calls Tryz.prog 22 #[] W fun e w' => e = .returned (.bool true) ∧ Below W.heap.size W w') :
    Calls Tryz.prog 6 #[.string s, .slice A l.length c] w fun e w' => e = .returned (.bool true) ∧ Below w.heap.size w w' := by
  unfold maxLen at hs hl
  have HCH := Lib.hid hch
  have HS := Lib.hid hS
  obtain ⟨tx, htx⟩ : ∃ tx : ByteArray, tx = ⟨#[116, 116, 116, 116, 116, 116, 116, 116, 116, 116, 116, 116, 116, 116, 116, 116]⟩ := ⟨_, rfl⟩
  have htz : tx.size = 16 := by rw [htx]; rfl
  have HPL := fun W => Lib.hid (place_any W)
  rw [← htx] at HPL
  clear hch hS htx
  by_cases h50 : s.size ≤ 50
  · have hsz : s.size ≤ 50 := by first | exact h50 | (rw [ByteArray.size_extract]; omega)
    have HNEW := fun W => Lib.hid (snew_any s 4 20 W (by omega) (by omega) (by omega) (by omega))
    have HSZ := Lib.hid hsz
    clear hsz
    go_enter Tryz.func6, Tryz.ntmps6
    go_wp2_with fail
    refine (HNEW _).out.mono ?_
    generalize s = sd at HSZ ⊢
    rintro e V ⟨cb, kb, ctr, pb, mb, rfl, ⟨hcb, hct, hmb⟩, hz, hb0⟩
    have hsz := HSZ.out
    clear HSZ
    have HC := Lib.hid hz
    have HB := Lib.hid hb0
    have hSW : ∀ x ∈ [cb, ctr, mb], w.heap.size ≤ x := by intro x hx; simp at hx; rcases hx with rfl | rfl | rfl <;> assumption
    have HSW := Lib.hid hSW
    clear hSW HNEW hz hb0
    go_wp2_with fail
    refine (HPL _).out.mono ?_
    rintro e V ⟨rfl, hb⟩
    replace HC := Lib.hid (HC.out.bel hb)
    replace HB := Lib.hid (HB.out.trans (hb.mono HB.out.size))
    clear hb
    go_wp2_with fail
    refine (zroot_any HC.out.at_).mono ?_
    rintro e V' ⟨rfl, hq⟩
    rw [hq]
    clear hq V'
    go_wp2_with fail
    refine (zoutput_any HC.out.at_ (by omega) 700 50 3 (rootB sd 4)).mono ?_
    rintro e V ⟨rfl, hb⟩
    replace HC := Lib.hid (HC.out.bel hb)
    replace HB := Lib.hid (HB.out.trans (hb.mono HB.out.size))
    clear hb
    go_wp2_with fail
    refine (zattach_ok HC.out (by omega) tx 1 ((lkR sd 3)) ((lkR_ok sd 3 (by omega))) rfl rfl rfl).mono ?_
    rintro e V ⟨rfl, hk, hc⟩
    have hc := hc.mono (S' := [cb, ctr, mb]) (by simp <;> omega)
    have HB := Lib.hid (HB.out.trans (hc.below HB.out.size HSW.out))
    have HC : Hid (Cst V cb kb ctr pb mb sd 4 20 tx 1 ((lkR sd 3)) 0 0 0) := ⟨⟨0, 0, 0, _, hk, by simp [allD, sD, totI], by simp, by omega, Nat.le_of_eq rfl⟩, by simp, by omega⟩
    have hlk := Lib.hid ((lkR_ok sd 3 (by omega)))
    have hla : Hid (((lkR sd 3)).am = 700) := rfl
    have hun : Hid (((lkR sd 3)).unit = 3) := rfl
    generalize (lkR sd 3) = lk at HC hlk hla hun
    clear hk hc
    have HFX := fun W => Lib.hid (HFIX W)
    have hnz := opNz
    have hng := opNGuard
    go_wp2_with fail
    go_loopw [7] (fun i wr => ∃ k ii b : Nat, k ≤ l.length ∧ k ≤ 12 ∧ i = .int .i64 k ∧ Hid (Cst wr cb kb ctr pb mb sd 4 20 tx 1 lk ii b k) ∧ Hid (Below w.heap.size w wr)) (fun i _ => l.length - (intOf i).toNat)
    case atStart => exact ⟨0, 0, 0, Nat.zero_le _, Nat.zero_le _, rfl, HC, HB⟩
    case round =>
      clear HC HB
      obtain ⟨k, ii, b, hk, hk12, rfl, HC, HB⟩ := hrel
      by_cases hlt : k < l.length ∧ k < 12
      · obtain ⟨hlt, hlt2⟩ := hlt
        obtain ⟨ab, off, rfl, hbB, hc⟩ := (HS.out.below HB.out).at_ hlt
        have hx := HCH.out _ (List.getElem_mem hlt)
        generalize l[k] = x at hc hx
        have hc0 : wr.cell? ⟨ab, off + k, none⟩ = some (.int .u32 x) := by have := hc 0 _ rfl; simpa using this
        have hz := HB.out.size
        obtain ⟨hl1, hl2, hl3⟩ := HC.out.lt
        clear hc
        obtain ⟨q, hq⟩ : ∃ q : Nat, (x : Int) / 4 = q := ⟨x / 4, by omega⟩
        obtain ⟨m0, hm0⟩ : ∃ m : Nat, (q : Int) % 200 = m := ⟨q % 200, by omega⟩
        obtain ⟨m1, hm1⟩ : ∃ m : Nat, (q : Int) % 6 = m := ⟨q % 6, by omega⟩
        obtain ⟨m2, hm2⟩ : ∃ m : Nat, (2 : Int) * ((q : Int) % 100) = m := ⟨2 * (q % 100), by omega⟩
        have g0 : m0 < 200 := by omega
        have g1 : m1 < 6 := by omega
        have g2 : m2 < 200 := by omega
        have g2e : Hid (m2 % 2 = 0) := by show m2 % 2 = 0; omega
        have hqq : q < 18446744073709551616 := by omega
        go_wp2_with (first
          | (refine wpList_store_part rfl 45 (.tmp 9) (.tmp 59) rfl wr.heap.size 0 (cs := opP 0 ByteArray.empty 0 ByteArray.empty) (Blk.new _ _ _) (opP 0 ByteArray.empty 0 ByteArray.empty) (opP 0 ByteArray.empty 0 ByteArray.empty) (by rfl) (by rfl) (Nat.le_refl 27) infoOp (opP_one _ _ _ _) (opP_over _ _ _ _ _ _ _ _) ?_; intro W1 hb2 hc2; have HG9 := Lib.hid hb2; have hb := Lib.hid (bel_st hc2); have hcx : W1.cell? ⟨ab, off + k, none⟩ = some (.int .u32 x) := (hb.out.cell (p := ⟨ab, off + k, none⟩) (by show ab < _; omega)).trans hc0; clear hb2 hc2))
        all_goals
          have hb := hb.out
          replace HC := Lib.hid (HC.out.bel hb)
          replace HB := Lib.hid (HB.out.trans (hb.mono HB.out.size))
          clear hb
          clear hcx hc0
        · refine (pay_st m0 HC.out (by omega) hlk.out (by have := hla.out; omega) (by omega) (by omega) (by omega) (by omega) (by omega) (by omega)).mono ?_
          rintro e V ⟨op, f, i2, b2, rfl, hop, hk, hc, hr⟩
          have hcc := Lib.hid hc
          have hV1 : wr.heap.size < V.heap.size := Nat.lt_of_lt_of_le HG9.out.lt hc.size
          replace HG9 := Lib.hid (Blk.ch HG9.out hc (by simp <;> omega))
          replace HB := Lib.hid (HB.out.trans (hc.below HB.out.size HSW.out))
          replace HC := Lib.hid (hk.more (z' := k + 1) (by omega))
          have HO := Lib.hid hop
          clear hk hr hop hc
          rcases HO.out with ⟨hf, hz⟩ | ⟨rfl, hok⟩
          · subst hz
            have f1 : (f != 0) = true := by simp [bne, beq_eq_false_iff_ne.2 hf]
            clear HO hf
            go_wp2_with (first
              | (refine wpList_store_part rfl 45 (.tmp 11) (.tmp 87) rfl V.heap.size 0 (cs := opP 0 ByteArray.empty 0 ByteArray.empty) (Blk.new _ _ _) (opP 0 ByteArray.empty 0 ByteArray.empty) (opP 0 ByteArray.empty 0 ByteArray.empty) (by rfl) (by rfl) (Nat.le_refl 27) infoOp (opP_one _ _ _ _) (opP_over _ _ _ _ _ _ _ _) ?_; intro V2 hb2 hc2; have HA := Lib.hid hb2; have hbA := Lib.hid (bel_st hc2); have HG2 := Lib.hid (HG9.out.bel hbA.out); clear hb2 hc2)
              | (refine wpList_load_blk rfl 45 (.tmp 11) rfl _ 0 27 HA.out (opP 0 ByteArray.empty 0 ByteArray.empty) (by rfl) (ext_full _ 27 rfl) Tryz.underlying45 infoOp (Nat.le_refl 27) ?_)
              | (refine wpList_store_part rfl 45 (.tmp 9) (.tmp 89) rfl wr.heap.size 0 HG2.out (opP 0 ByteArray.empty 0 ByteArray.empty) (opP 0 ByteArray.empty 0 ByteArray.empty) (by rfl) (by rfl) (Nat.le_refl 27) infoOp (opP_one _ _ _ _) (opP_over _ _ _ _ _ _ _ _) ?_; intro V3 hb3 hc3; have HO9 := Lib.hid hb3; have HC3 := Lib.hid hc3; clear hb3 hc3)
              | (refine wpList_load_blk rfl 45 (.tmp 9) rfl _ 0 27 HO9.out (opP 0 ByteArray.empty 0 ByteArray.empty) (by rfl) (ext_full _ 27 rfl) Tryz.underlying45 infoOp (Nat.le_refl 27) ?_))
            replace HC := Lib.hid ((HC.out.bel hbA.out).chO HC3.out HG2.out)
            replace HB := Lib.hid ((HB.out.trans (hbA.out.mono HB.out.size)).trans (HC3.out.below (by have := HB.out.size; have := hbA.out.size; omega) (by simp <;> omega)))
            go_roundw
            case rel => exact ⟨k + 1, _, _, by omega, by omega, by go_num, HC, HB⟩
            case measure => simp [intOf]; omega
          · obtain ⟨es, hri, hen, hde, hnm⟩ := opg_ok (by rw [nameB_size]) hok
            have HRI := fun W => Lib.hid (hri W)
            have HEN := fun W => Lib.hid (hen W)
            have HDE := fun W => Lib.hid (hde W)
            have HNM := Lib.hid hnm
            have HO1 := Lib.hid (And.intro HO.out.size HO.out.one)
            have hov := Lib.hid ((over_full op.toList (opP 0 ByteArray.empty 0 ByteArray.empty) (by rw [Array.length_toList, HO1.out.1]; rfl)).trans (Array.toArray_toList ..))
            have hnq := fun W => opNeq W op HO.out
            clear HO hok hri hen hde hnm
            go_wp2_with (first
              | (refine wpList_store_part rfl 45 (.tmp 11) (.tmp 87) rfl V.heap.size 0 (cs := opP 0 ByteArray.empty 0 ByteArray.empty) (Blk.new _ _ _) op op (by rfl) (by rfl) (by rw [HO1.out.1]; exact Nat.le_refl 27) (by rw [HO1.out.1]; exact infoOp) HO1.out.2 hov.out ?_; intro V2 hb2 hc2; have HA := Lib.hid hb2; have hbA := Lib.hid (bel_st hc2); have HG2 := Lib.hid (HG9.out.bel hbA.out); clear hb2 hc2)
              | (refine wpList_load_blk rfl 45 (.tmp 11) rfl _ 0 27 HA.out op (by rfl) (ext_full _ 27 HO1.out.1) Tryz.underlying45 infoOp (by rw [HO1.out.1]; exact Nat.le_refl 27) ?_)
              | (refine wpList_store_part rfl 45 (.tmp 9) (.tmp 89) rfl wr.heap.size 0 HG2.out op op (by rfl) (by rfl) (by rw [HO1.out.1]; exact Nat.le_refl 27) (by rw [HO1.out.1]; exact infoOp) HO1.out.2 hov.out ?_; intro V3 hb3 hc3; have HO9 := Lib.hid hb3; have HC3 := Lib.hid hc3; clear hb3 hc3)
              | (refine wpList_load_blk rfl 45 (.tmp 9) rfl _ 0 27 HO9.out op (by rfl) (ext_full _ 27 HO1.out.1) Tryz.underlying45 infoOp (by rw [HO1.out.1]; exact Nat.le_refl 27) ?_))
            replace HC := Lib.hid ((HC.out.bel hbA.out).chO HC3.out HG2.out)
            replace HB := Lib.hid ((HB.out.trans (hbA.out.mono HB.out.size)).trans (HC3.out.below (by have := HB.out.size; have := hbA.out.size; omega) (by simp <;> omega)))
            clear HC3 HG2 HA hbA HG9
            refine (HEN _).out.mono ?_
            rintro e V ⟨rfl, hb⟩
            replace HO9 := Lib.hid (HO9.out.bel hb)
            replace HC := Lib.hid (HC.out.bel hb)
            replace HB := Lib.hid (HB.out.trans (hb.mono HB.out.size))
            clear hb
            go_wp2_with fail
            refine (HDE _).out.mono ?_
            rintro e V ⟨rfl, hb⟩
            replace HO9 := Lib.hid (HO9.out.bel hb)
            replace HC := Lib.hid (HC.out.bel hb)
            replace HB := Lib.hid (HB.out.trans (hb.mono HB.out.size))
            clear hb
            go_wp2_with (first
              | (refine wpList_store_part rfl 45 (.tmp 17) (.tmp 112) rfl V.heap.size 0 (cs := opP 0 ByteArray.empty 0 ByteArray.empty) (Blk.new _ _ _) op op (by rfl) (by rfl) (by rw [HO1.out.1]; exact Nat.le_refl 27) (by rw [HO1.out.1]; exact infoOp) HO1.out.2 hov.out ?_; intro V2 hb2 hc2; have HP := Lib.hid hb2; have hb := Lib.hid (bel_st hc2); clear hb2 hc2))
            have hb := hb.out
            replace HO9 := Lib.hid (HO9.out.bel hb)
            replace HC := Lib.hid (HC.out.bel hb)
            replace HB := Lib.hid (HB.out.trans (hb.mono HB.out.size))
            clear hb
            have q1 := cell_rg (show V2.cell? ⟨wr.heap.size, 1, none⟩ = some (.string (nameB tx 1)) from (HO9.out.cell 1).trans HNM.out)
            refine wp_region_quiet_below (by kernel_rfl) (by kernel_rfl) ?_
            repeat (first | go_big_quiet_skip | (go_big_quiet_want; first | ((first
                            | (refine quiet_load_blk 45 (.tmp 9) rfl _ 0 27 HO9.out op (by rfl) (ext_full _ 27 HO1.out.1) Tryz.underlying45 infoOp (by rw [HO1.out.1]; exact Nat.le_refl 27) ?_; go_simp)
                            | (refine quiet_load_blk 45 (.tmp 17) rfl _ 0 27 HP.out op (by rfl) (ext_full _ 27 HO1.out.1) Tryz.underlying45 infoOp (by rw [HO1.out.1]; exact Nat.le_refl 27) ?_; go_simp)); go_big_quiet_on) | (go_big_quiet_op; first | go_big_quiet_on | go_big_quiet_call ((first
                          | (go_at_call 38; exact Calls.rg fun W _ => (HRI W).out)
                          | (go_at_call 20; exact Calls.rg fun W hW => st_name (HC.out.bel hW) (by omega) (by omega)))))))
            refine wpQuiet_nil ?_
            intro U hp
            have hb := bel_regrown hp
            clear hp
            replace HC := Lib.hid (HC.out.bel hb)
            replace HB := Lib.hid (HB.out.trans (hb.mono HB.out.size))
            clear hb
            clear HP HO9 q1
            go_wp2_with fail
            go_roundw
            case rel => exact ⟨k + 1, _, _, by omega, by omega, by go_num, HC, HB⟩
            case measure => simp [intOf]; omega
        · refine (give_st m1 HC.out (by omega) hlk.out (by have := hla.out; omega) (by omega) (by omega) (by omega) (by omega)).mono ?_
          rintro e V ⟨op, f, i2, b2, rfl, hop, hk, hc, hr⟩
          have hcc := Lib.hid hc
          have hV1 : wr.heap.size < V.heap.size := Nat.lt_of_lt_of_le HG9.out.lt hc.size
          replace HG9 := Lib.hid (Blk.ch HG9.out hc (by simp <;> omega))
          replace HB := Lib.hid (HB.out.trans (hc.below HB.out.size HSW.out))
          replace HC := Lib.hid (hk.more (z' := k + 1) (by omega))
          have HO := Lib.hid hop
          clear hk hr hop hc
          rcases HO.out with ⟨hf, hz⟩ | ⟨rfl, hok⟩
          · subst hz
            have f1 : (f != 0) = true := by simp [bne, beq_eq_false_iff_ne.2 hf]
            clear HO hf
            go_wp2_with (first
              | (refine wpList_store_part rfl 45 (.tmp 13) (.tmp 99) rfl V.heap.size 0 (cs := opP 0 ByteArray.empty 0 ByteArray.empty) (Blk.new _ _ _) (opP 0 ByteArray.empty 0 ByteArray.empty) (opP 0 ByteArray.empty 0 ByteArray.empty) (by rfl) (by rfl) (Nat.le_refl 27) infoOp (opP_one _ _ _ _) (opP_over _ _ _ _ _ _ _ _) ?_; intro V2 hb2 hc2; have HA := Lib.hid hb2; have hbA := Lib.hid (bel_st hc2); have HG2 := Lib.hid (HG9.out.bel hbA.out); clear hb2 hc2)
              | (refine wpList_load_blk rfl 45 (.tmp 13) rfl _ 0 27 HA.out (opP 0 ByteArray.empty 0 ByteArray.empty) (by rfl) (ext_full _ 27 rfl) Tryz.underlying45 infoOp (Nat.le_refl 27) ?_)
              | (refine wpList_store_part rfl 45 (.tmp 9) (.tmp 101) rfl wr.heap.size 0 HG2.out (opP 0 ByteArray.empty 0 ByteArray.empty) (opP 0 ByteArray.empty 0 ByteArray.empty) (by rfl) (by rfl) (Nat.le_refl 27) infoOp (opP_one _ _ _ _) (opP_over _ _ _ _ _ _ _ _) ?_; intro V3 hb3 hc3; have HO9 := Lib.hid hb3; have HC3 := Lib.hid hc3; clear hb3 hc3)
              | (refine wpList_load_blk rfl 45 (.tmp 9) rfl _ 0 27 HO9.out (opP 0 ByteArray.empty 0 ByteArray.empty) (by rfl) (ext_full _ 27 rfl) Tryz.underlying45 infoOp (Nat.le_refl 27) ?_))
            replace HC := Lib.hid ((HC.out.bel hbA.out).chO HC3.out HG2.out)
            replace HB := Lib.hid ((HB.out.trans (hbA.out.mono HB.out.size)).trans (HC3.out.below (by have := HB.out.size; have := hbA.out.size; omega) (by simp <;> omega)))
            go_roundw
            case rel => exact ⟨k + 1, _, _, by omega, by omega, by go_num, HC, HB⟩
            case measure => simp [intOf]; omega
          · obtain ⟨es, hri, hen, hde, hnm⟩ := opg_ok (by rw [nameB_size]) hok
            have HRI := fun W => Lib.hid (hri W)
            have HEN := fun W => Lib.hid (hen W)
            have HDE := fun W => Lib.hid (hde W)
            have HNM := Lib.hid hnm
            have HO1 := Lib.hid (And.intro HO.out.size HO.out.one)
            have hov := Lib.hid ((over_full op.toList (opP 0 ByteArray.empty 0 ByteArray.empty) (by rw [Array.length_toList, HO1.out.1]; rfl)).trans (Array.toArray_toList ..))
            have hnq := fun W => opNeq W op HO.out
            clear HO hok hri hen hde hnm
            go_wp2_with (first
              | (refine wpList_store_part rfl 45 (.tmp 13) (.tmp 99) rfl V.heap.size 0 (cs := opP 0 ByteArray.empty 0 ByteArray.empty) (Blk.new _ _ _) op op (by rfl) (by rfl) (by rw [HO1.out.1]; exact Nat.le_refl 27) (by rw [HO1.out.1]; exact infoOp) HO1.out.2 hov.out ?_; intro V2 hb2 hc2; have HA := Lib.hid hb2; have hbA := Lib.hid (bel_st hc2); have HG2 := Lib.hid (HG9.out.bel hbA.out); clear hb2 hc2)
              | (refine wpList_load_blk rfl 45 (.tmp 13) rfl _ 0 27 HA.out op (by rfl) (ext_full _ 27 HO1.out.1) Tryz.underlying45 infoOp (by rw [HO1.out.1]; exact Nat.le_refl 27) ?_)
              | (refine wpList_store_part rfl 45 (.tmp 9) (.tmp 101) rfl wr.heap.size 0 HG2.out op op (by rfl) (by rfl) (by rw [HO1.out.1]; exact Nat.le_refl 27) (by rw [HO1.out.1]; exact infoOp) HO1.out.2 hov.out ?_; intro V3 hb3 hc3; have HO9 := Lib.hid hb3; have HC3 := Lib.hid hc3; clear hb3 hc3)
              | (refine wpList_load_blk rfl 45 (.tmp 9) rfl _ 0 27 HO9.out op (by rfl) (ext_full _ 27 HO1.out.1) Tryz.underlying45 infoOp (by rw [HO1.out.1]; exact Nat.le_refl 27) ?_))
            replace HC := Lib.hid ((HC.out.bel hbA.out).chO HC3.out HG2.out)
            replace HB := Lib.hid ((HB.out.trans (hbA.out.mono HB.out.size)).trans (HC3.out.below (by have := HB.out.size; have := hbA.out.size; omega) (by simp <;> omega)))
            clear HC3 HG2 HA hbA HG9
            refine (HEN _).out.mono ?_
            rintro e V ⟨rfl, hb⟩
            replace HO9 := Lib.hid (HO9.out.bel hb)
            replace HC := Lib.hid (HC.out.bel hb)
            replace HB := Lib.hid (HB.out.trans (hb.mono HB.out.size))
            clear hb
            go_wp2_with fail
            refine (HDE _).out.mono ?_
            rintro e V ⟨rfl, hb⟩
            replace HO9 := Lib.hid (HO9.out.bel hb)
            replace HC := Lib.hid (HC.out.bel hb)
            replace HB := Lib.hid (HB.out.trans (hb.mono HB.out.size))
            clear hb
            go_wp2_with (first
              | (refine wpList_store_part rfl 45 (.tmp 17) (.tmp 112) rfl V.heap.size 0 (cs := opP 0 ByteArray.empty 0 ByteArray.empty) (Blk.new _ _ _) op op (by rfl) (by rfl) (by rw [HO1.out.1]; exact Nat.le_refl 27) (by rw [HO1.out.1]; exact infoOp) HO1.out.2 hov.out ?_; intro V2 hb2 hc2; have HP := Lib.hid hb2; have hb := Lib.hid (bel_st hc2); clear hb2 hc2))
            have hb := hb.out
            replace HO9 := Lib.hid (HO9.out.bel hb)
            replace HC := Lib.hid (HC.out.bel hb)
            replace HB := Lib.hid (HB.out.trans (hb.mono HB.out.size))
            clear hb
            have q1 := cell_rg (show V2.cell? ⟨wr.heap.size, 1, none⟩ = some (.string (nameB tx 1)) from (HO9.out.cell 1).trans HNM.out)
            refine wp_region_quiet_below (by kernel_rfl) (by kernel_rfl) ?_
            repeat (first | go_big_quiet_skip | (go_big_quiet_want; first | ((first
                            | (refine quiet_load_blk 45 (.tmp 9) rfl _ 0 27 HO9.out op (by rfl) (ext_full _ 27 HO1.out.1) Tryz.underlying45 infoOp (by rw [HO1.out.1]; exact Nat.le_refl 27) ?_; go_simp)
                            | (refine quiet_load_blk 45 (.tmp 17) rfl _ 0 27 HP.out op (by rfl) (ext_full _ 27 HO1.out.1) Tryz.underlying45 infoOp (by rw [HO1.out.1]; exact Nat.le_refl 27) ?_; go_simp)); go_big_quiet_on) | (go_big_quiet_op; first | go_big_quiet_on | go_big_quiet_call ((first
                          | (go_at_call 38; exact Calls.rg fun W _ => (HRI W).out)
                          | (go_at_call 20; exact Calls.rg fun W hW => st_name (HC.out.bel hW) (by omega) (by omega)))))))
            refine wpQuiet_nil ?_
            intro U hp
            have hb := bel_regrown hp
            clear hp
            replace HC := Lib.hid (HC.out.bel hb)
            replace HB := Lib.hid (HB.out.trans (hb.mono HB.out.size))
            clear hb
            clear HP HO9 q1
            go_wp2_with fail
            go_roundw
            case rel => exact ⟨k + 1, _, _, by omega, by omega, by go_num, HC, HB⟩
            case measure => simp [intOf]; omega
        · refine (st_name HC.out (by omega) (by omega)).mono ?_
          rintro e V ⟨rfl, hb⟩
          replace HG9 := Lib.hid (HG9.out.bel hb)
          replace HC := Lib.hid (HC.out.bel hb)
          replace HB := Lib.hid (HB.out.trans (hb.mono HB.out.size))
          clear hb
          go_wp2_with fail
          refine (offer_any (nameB tx 1) q m2 V).mono ?_
          rintro e V ⟨rfl, hb⟩
          replace HG9 := Lib.hid (HG9.out.bel hb)
          replace HC := Lib.hid (HC.out.bel hb)
          replace HB := Lib.hid (HB.out.trans (hb.mono HB.out.size))
          clear hb
          go_wp2_with fail
          refine (take_st (ofO (nameB tx 1) q m2) q HC.out (ofO_ok _ _ _ hqq (by omega) g2e.out) rfl comC_size (by omega) hlk.out (by have := hla.out; omega) (by omega) (by omega) (by omega) (by omega) (by omega) (by omega)).mono ?_
          rintro e V ⟨op, f, i2, b2, rfl, hop, hk, hc, hr⟩
          have hcc := Lib.hid hc
          have hV1 : wr.heap.size < V.heap.size := Nat.lt_of_lt_of_le HG9.out.lt hc.size
          replace HG9 := Lib.hid (Blk.ch HG9.out hc (by simp <;> omega))
          replace HB := Lib.hid (HB.out.trans (hc.below HB.out.size HSW.out))
          replace HC := Lib.hid (hk.more (z' := k + 1) (by omega))
          have HO := Lib.hid hop
          clear hk hr hop hc
          rcases HO.out with ⟨hf, hz⟩ | ⟨rfl, hok⟩
          · subst hz
            have f1 : (f != 0) = true := by simp [bne, beq_eq_false_iff_ne.2 hf]
            clear HO hf
            go_wp2_with (first
              | (refine wpList_store_part rfl 45 (.tmp 15) (.tmp 76) rfl V.heap.size 0 (cs := opP 0 ByteArray.empty 0 ByteArray.empty) (Blk.new _ _ _) (opP 0 ByteArray.empty 0 ByteArray.empty) (opP 0 ByteArray.empty 0 ByteArray.empty) (by rfl) (by rfl) (Nat.le_refl 27) infoOp (opP_one _ _ _ _) (opP_over _ _ _ _ _ _ _ _) ?_; intro V2 hb2 hc2; have HA := Lib.hid hb2; have hbA := Lib.hid (bel_st hc2); have HG2 := Lib.hid (HG9.out.bel hbA.out); clear hb2 hc2)
              | (refine wpList_load_blk rfl 45 (.tmp 15) rfl _ 0 27 HA.out (opP 0 ByteArray.empty 0 ByteArray.empty) (by rfl) (ext_full _ 27 rfl) Tryz.underlying45 infoOp (Nat.le_refl 27) ?_)
              | (refine wpList_store_part rfl 45 (.tmp 9) (.tmp 78) rfl wr.heap.size 0 HG2.out (opP 0 ByteArray.empty 0 ByteArray.empty) (opP 0 ByteArray.empty 0 ByteArray.empty) (by rfl) (by rfl) (Nat.le_refl 27) infoOp (opP_one _ _ _ _) (opP_over _ _ _ _ _ _ _ _) ?_; intro V3 hb3 hc3; have HO9 := Lib.hid hb3; have HC3 := Lib.hid hc3; clear hb3 hc3)
              | (refine wpList_load_blk rfl 45 (.tmp 9) rfl _ 0 27 HO9.out (opP 0 ByteArray.empty 0 ByteArray.empty) (by rfl) (ext_full _ 27 rfl) Tryz.underlying45 infoOp (Nat.le_refl 27) ?_))
            replace HC := Lib.hid ((HC.out.bel hbA.out).chO HC3.out HG2.out)
            replace HB := Lib.hid ((HB.out.trans (hbA.out.mono HB.out.size)).trans (HC3.out.below (by have := HB.out.size; have := hbA.out.size; omega) (by simp <;> omega)))
            go_roundw
            case rel => exact ⟨k + 1, _, _, by omega, by omega, by go_num, HC, HB⟩
            case measure => simp [intOf]; omega
          · obtain ⟨es, hri, hen, hde, hnm⟩ := opg_ok (by rw [nameB_size]) hok
            have HRI := fun W => Lib.hid (hri W)
            have HEN := fun W => Lib.hid (hen W)
            have HDE := fun W => Lib.hid (hde W)
            have HNM := Lib.hid hnm
            have HO1 := Lib.hid (And.intro HO.out.size HO.out.one)
            have hov := Lib.hid ((over_full op.toList (opP 0 ByteArray.empty 0 ByteArray.empty) (by rw [Array.length_toList, HO1.out.1]; rfl)).trans (Array.toArray_toList ..))
            have hnq := fun W => opNeq W op HO.out
            clear HO hok hri hen hde hnm
            go_wp2_with (first
              | (refine wpList_store_part rfl 45 (.tmp 15) (.tmp 76) rfl V.heap.size 0 (cs := opP 0 ByteArray.empty 0 ByteArray.empty) (Blk.new _ _ _) op op (by rfl) (by rfl) (by rw [HO1.out.1]; exact Nat.le_refl 27) (by rw [HO1.out.1]; exact infoOp) HO1.out.2 hov.out ?_; intro V2 hb2 hc2; have HA := Lib.hid hb2; have hbA := Lib.hid (bel_st hc2); have HG2 := Lib.hid (HG9.out.bel hbA.out); clear hb2 hc2)
              | (refine wpList_load_blk rfl 45 (.tmp 15) rfl _ 0 27 HA.out op (by rfl) (ext_full _ 27 HO1.out.1) Tryz.underlying45 infoOp (by rw [HO1.out.1]; exact Nat.le_refl 27) ?_)
              | (refine wpList_store_part rfl 45 (.tmp 9) (.tmp 78) rfl wr.heap.size 0 HG2.out op op (by rfl) (by rfl) (by rw [HO1.out.1]; exact Nat.le_refl 27) (by rw [HO1.out.1]; exact infoOp) HO1.out.2 hov.out ?_; intro V3 hb3 hc3; have HO9 := Lib.hid hb3; have HC3 := Lib.hid hc3; clear hb3 hc3)
              | (refine wpList_load_blk rfl 45 (.tmp 9) rfl _ 0 27 HO9.out op (by rfl) (ext_full _ 27 HO1.out.1) Tryz.underlying45 infoOp (by rw [HO1.out.1]; exact Nat.le_refl 27) ?_))
            replace HC := Lib.hid ((HC.out.bel hbA.out).chO HC3.out HG2.out)
            replace HB := Lib.hid ((HB.out.trans (hbA.out.mono HB.out.size)).trans (HC3.out.below (by have := HB.out.size; have := hbA.out.size; omega) (by simp <;> omega)))
            clear HC3 HG2 HA hbA HG9
            refine (HEN _).out.mono ?_
            rintro e V ⟨rfl, hb⟩
            replace HO9 := Lib.hid (HO9.out.bel hb)
            replace HC := Lib.hid (HC.out.bel hb)
            replace HB := Lib.hid (HB.out.trans (hb.mono HB.out.size))
            clear hb
            go_wp2_with fail
            refine (HDE _).out.mono ?_
            rintro e V ⟨rfl, hb⟩
            replace HO9 := Lib.hid (HO9.out.bel hb)
            replace HC := Lib.hid (HC.out.bel hb)
            replace HB := Lib.hid (HB.out.trans (hb.mono HB.out.size))
            clear hb
            go_wp2_with (first
              | (refine wpList_store_part rfl 45 (.tmp 17) (.tmp 112) rfl V.heap.size 0 (cs := opP 0 ByteArray.empty 0 ByteArray.empty) (Blk.new _ _ _) op op (by rfl) (by rfl) (by rw [HO1.out.1]; exact Nat.le_refl 27) (by rw [HO1.out.1]; exact infoOp) HO1.out.2 hov.out ?_; intro V2 hb2 hc2; have HP := Lib.hid hb2; have hb := Lib.hid (bel_st hc2); clear hb2 hc2))
            have hb := hb.out
            replace HO9 := Lib.hid (HO9.out.bel hb)
            replace HC := Lib.hid (HC.out.bel hb)
            replace HB := Lib.hid (HB.out.trans (hb.mono HB.out.size))
            clear hb
            have q1 := cell_rg (show V2.cell? ⟨wr.heap.size, 1, none⟩ = some (.string (nameB tx 1)) from (HO9.out.cell 1).trans HNM.out)
            refine wp_region_quiet_below (by kernel_rfl) (by kernel_rfl) ?_
            repeat (first | go_big_quiet_skip | (go_big_quiet_want; first | ((first
                            | (refine quiet_load_blk 45 (.tmp 9) rfl _ 0 27 HO9.out op (by rfl) (ext_full _ 27 HO1.out.1) Tryz.underlying45 infoOp (by rw [HO1.out.1]; exact Nat.le_refl 27) ?_; go_simp)
                            | (refine quiet_load_blk 45 (.tmp 17) rfl _ 0 27 HP.out op (by rfl) (ext_full _ 27 HO1.out.1) Tryz.underlying45 infoOp (by rw [HO1.out.1]; exact Nat.le_refl 27) ?_; go_simp)); go_big_quiet_on) | (go_big_quiet_op; first | go_big_quiet_on | go_big_quiet_call ((first
                          | (go_at_call 38; exact Calls.rg fun W _ => (HRI W).out)
                          | (go_at_call 20; exact Calls.rg fun W hW => st_name (HC.out.bel hW) (by omega) (by omega)))))))
            refine wpQuiet_nil ?_
            intro U hp
            have hb := bel_regrown hp
            clear hp
            replace HC := Lib.hid (HC.out.bel hb)
            replace HB := Lib.hid (HB.out.trans (hb.mono HB.out.size))
            clear hb
            clear HP HO9 q1
            go_wp2_with fail
            go_roundw
            case rel => exact ⟨k + 1, _, _, by omega, by omega, by go_num, HC, HB⟩
            case measure => simp [intOf]; omega
      · go_wp2_with fail
        all_goals
          refine (HFX _).out.mono ?_
          rintro e V ⟨rfl, hb⟩
          go_wp2_with fail
          go_ret
          exact ⟨rfl, HB.out.trans (hb.mono HB.out.size)⟩
  · have hsz : (s.extract 0 50).size ≤ 50 := by first | exact h50 | (rw [ByteArray.size_extract]; omega)
    have HNEW := fun W => Lib.hid (snew_any (s.extract 0 50) 4 20 W (by omega) (by omega) (by omega) (by omega))
    have HSZ := Lib.hid hsz
    clear hsz
    go_enter Tryz.func6, Tryz.ntmps6
    go_wp2_with fail
    refine (HNEW _).out.mono ?_
    generalize (s.extract 0 50) = sd at HSZ ⊢
    rintro e V ⟨cb, kb, ctr, pb, mb, rfl, ⟨hcb, hct, hmb⟩, hz, hb0⟩
    have hsz := HSZ.out
    clear HSZ
    have HC := Lib.hid hz
    have HB := Lib.hid hb0
    have hSW : ∀ x ∈ [cb, ctr, mb], w.heap.size ≤ x := by intro x hx; simp at hx; rcases hx with rfl | rfl | rfl <;> assumption
    have HSW := Lib.hid hSW
    clear hSW HNEW hz hb0
    go_wp2_with fail
    refine (HPL _).out.mono ?_
    rintro e V ⟨rfl, hb⟩
    replace HC := Lib.hid (HC.out.bel hb)
    replace HB := Lib.hid (HB.out.trans (hb.mono HB.out.size))
    clear hb
    go_wp2_with fail
    refine (zroot_any HC.out.at_).mono ?_
    rintro e V' ⟨rfl, hq⟩
    rw [hq]
    clear hq V'
    go_wp2_with fail
    refine (zoutput_any HC.out.at_ (by omega) 700 50 3 (rootB sd 4)).mono ?_
    rintro e V ⟨rfl, hb⟩
    replace HC := Lib.hid (HC.out.bel hb)
    replace HB := Lib.hid (HB.out.trans (hb.mono HB.out.size))
    clear hb
    go_wp2_with fail
    refine (zattach_ok HC.out (by omega) tx 1 ((lkR sd 3)) ((lkR_ok sd 3 (by omega))) rfl rfl rfl).mono ?_
    rintro e V ⟨rfl, hk, hc⟩
    have hc := hc.mono (S' := [cb, ctr, mb]) (by simp <;> omega)
    have HB := Lib.hid (HB.out.trans (hc.below HB.out.size HSW.out))
    have HC : Hid (Cst V cb kb ctr pb mb sd 4 20 tx 1 ((lkR sd 3)) 0 0 0) := ⟨⟨0, 0, 0, _, hk, by simp [allD, sD, totI], by simp, by omega, Nat.le_of_eq rfl⟩, by simp, by omega⟩
    have hlk := Lib.hid ((lkR_ok sd 3 (by omega)))
    have hla : Hid (((lkR sd 3)).am = 700) := rfl
    have hun : Hid (((lkR sd 3)).unit = 3) := rfl
    generalize (lkR sd 3) = lk at HC hlk hla hun
    clear hk hc
    have HFX := fun W => Lib.hid (HFIX W)
    have hnz := opNz
    have hng := opNGuard
    go_wp2_with fail
    go_loopw [7] (fun i wr => ∃ k ii b : Nat, k ≤ l.length ∧ k ≤ 12 ∧ i = .int .i64 k ∧ Hid (Cst wr cb kb ctr pb mb sd 4 20 tx 1 lk ii b k) ∧ Hid (Below w.heap.size w wr)) (fun i _ => l.length - (intOf i).toNat)
    case atStart => exact ⟨0, 0, 0, Nat.zero_le _, Nat.zero_le _, rfl, HC, HB⟩
    case round =>
      clear HC HB
      obtain ⟨k, ii, b, hk, hk12, rfl, HC, HB⟩ := hrel
      by_cases hlt : k < l.length ∧ k < 12
      · obtain ⟨hlt, hlt2⟩ := hlt
        obtain ⟨ab, off, rfl, hbB, hc⟩ := (HS.out.below HB.out).at_ hlt
        have hx := HCH.out _ (List.getElem_mem hlt)
        generalize l[k] = x at hc hx
        have hc0 : wr.cell? ⟨ab, off + k, none⟩ = some (.int .u32 x) := by have := hc 0 _ rfl; simpa using this
        have hz := HB.out.size
        obtain ⟨hl1, hl2, hl3⟩ := HC.out.lt
        clear hc
        obtain ⟨q, hq⟩ : ∃ q : Nat, (x : Int) / 4 = q := ⟨x / 4, by omega⟩
        obtain ⟨m0, hm0⟩ : ∃ m : Nat, (q : Int) % 200 = m := ⟨q % 200, by omega⟩
        obtain ⟨m1, hm1⟩ : ∃ m : Nat, (q : Int) % 6 = m := ⟨q % 6, by omega⟩
        obtain ⟨m2, hm2⟩ : ∃ m : Nat, (2 : Int) * ((q : Int) % 100) = m := ⟨2 * (q % 100), by omega⟩
        have g0 : m0 < 200 := by omega
        have g1 : m1 < 6 := by omega
        have g2 : m2 < 200 := by omega
        have g2e : Hid (m2 % 2 = 0) := by show m2 % 2 = 0; omega
        have hqq : q < 18446744073709551616 := by omega
        go_wp2_with (first
          | (refine wpList_store_part rfl 45 (.tmp 9) (.tmp 59) rfl wr.heap.size 0 (cs := opP 0 ByteArray.empty 0 ByteArray.empty) (Blk.new _ _ _) (opP 0 ByteArray.empty 0 ByteArray.empty) (opP 0 ByteArray.empty 0 ByteArray.empty) (by rfl) (by rfl) (Nat.le_refl 27) infoOp (opP_one _ _ _ _) (opP_over _ _ _ _ _ _ _ _) ?_; intro W1 hb2 hc2; have HG9 := Lib.hid hb2; have hb := Lib.hid (bel_st hc2); have hcx : W1.cell? ⟨ab, off + k, none⟩ = some (.int .u32 x) := (hb.out.cell (p := ⟨ab, off + k, none⟩) (by show ab < _; omega)).trans hc0; clear hb2 hc2))
        all_goals
          have hb := hb.out
          replace HC := Lib.hid (HC.out.bel hb)
          replace HB := Lib.hid (HB.out.trans (hb.mono HB.out.size))
          clear hb
          clear hcx hc0
        · refine (pay_st m0 HC.out (by omega) hlk.out (by have := hla.out; omega) (by omega) (by omega) (by omega) (by omega) (by omega) (by omega)).mono ?_
          rintro e V ⟨op, f, i2, b2, rfl, hop, hk, hc, hr⟩
          have hcc := Lib.hid hc
          have hV1 : wr.heap.size < V.heap.size := Nat.lt_of_lt_of_le HG9.out.lt hc.size
          replace HG9 := Lib.hid (Blk.ch HG9.out hc (by simp <;> omega))
          replace HB := Lib.hid (HB.out.trans (hc.below HB.out.size HSW.out))
          replace HC := Lib.hid (hk.more (z' := k + 1) (by omega))
          have HO := Lib.hid hop
          clear hk hr hop hc
          rcases HO.out with ⟨hf, hz⟩ | ⟨rfl, hok⟩
          · subst hz
            have f1 : (f != 0) = true := by simp [bne, beq_eq_false_iff_ne.2 hf]
            clear HO hf
            go_wp2_with (first
              | (refine wpList_store_part rfl 45 (.tmp 11) (.tmp 87) rfl V.heap.size 0 (cs := opP 0 ByteArray.empty 0 ByteArray.empty) (Blk.new _ _ _) (opP 0 ByteArray.empty 0 ByteArray.empty) (opP 0 ByteArray.empty 0 ByteArray.empty) (by rfl) (by rfl) (Nat.le_refl 27) infoOp (opP_one _ _ _ _) (opP_over _ _ _ _ _ _ _ _) ?_; intro V2 hb2 hc2; have HA := Lib.hid hb2; have hbA := Lib.hid (bel_st hc2); have HG2 := Lib.hid (HG9.out.bel hbA.out); clear hb2 hc2)
              | (refine wpList_load_blk rfl 45 (.tmp 11) rfl _ 0 27 HA.out (opP 0 ByteArray.empty 0 ByteArray.empty) (by rfl) (ext_full _ 27 rfl) Tryz.underlying45 infoOp (Nat.le_refl 27) ?_)
              | (refine wpList_store_part rfl 45 (.tmp 9) (.tmp 89) rfl wr.heap.size 0 HG2.out (opP 0 ByteArray.empty 0 ByteArray.empty) (opP 0 ByteArray.empty 0 ByteArray.empty) (by rfl) (by rfl) (Nat.le_refl 27) infoOp (opP_one _ _ _ _) (opP_over _ _ _ _ _ _ _ _) ?_; intro V3 hb3 hc3; have HO9 := Lib.hid hb3; have HC3 := Lib.hid hc3; clear hb3 hc3)
              | (refine wpList_load_blk rfl 45 (.tmp 9) rfl _ 0 27 HO9.out (opP 0 ByteArray.empty 0 ByteArray.empty) (by rfl) (ext_full _ 27 rfl) Tryz.underlying45 infoOp (Nat.le_refl 27) ?_))
            replace HC := Lib.hid ((HC.out.bel hbA.out).chO HC3.out HG2.out)
            replace HB := Lib.hid ((HB.out.trans (hbA.out.mono HB.out.size)).trans (HC3.out.below (by have := HB.out.size; have := hbA.out.size; omega) (by simp <;> omega)))
            go_roundw
            case rel => exact ⟨k + 1, _, _, by omega, by omega, by go_num, HC, HB⟩
            case measure => simp [intOf]; omega
          · obtain ⟨es, hri, hen, hde, hnm⟩ := opg_ok (by rw [nameB_size]) hok
            have HRI := fun W => Lib.hid (hri W)
            have HEN := fun W => Lib.hid (hen W)
            have HDE := fun W => Lib.hid (hde W)
            have HNM := Lib.hid hnm
            have HO1 := Lib.hid (And.intro HO.out.size HO.out.one)
            have hov := Lib.hid ((over_full op.toList (opP 0 ByteArray.empty 0 ByteArray.empty) (by rw [Array.length_toList, HO1.out.1]; rfl)).trans (Array.toArray_toList ..))
            have hnq := fun W => opNeq W op HO.out
            clear HO hok hri hen hde hnm
            go_wp2_with (first
              | (refine wpList_store_part rfl 45 (.tmp 11) (.tmp 87) rfl V.heap.size 0 (cs := opP 0 ByteArray.empty 0 ByteArray.empty) (Blk.new _ _ _) op op (by rfl) (by rfl) (by rw [HO1.out.1]; exact Nat.le_refl 27) (by rw [HO1.out.1]; exact infoOp) HO1.out.2 hov.out ?_; intro V2 hb2 hc2; have HA := Lib.hid hb2; have hbA := Lib.hid (bel_st hc2); have HG2 := Lib.hid (HG9.out.bel hbA.out); clear hb2 hc2)
              | (refine wpList_load_blk rfl 45 (.tmp 11) rfl _ 0 27 HA.out op (by rfl) (ext_full _ 27 HO1.out.1) Tryz.underlying45 infoOp (by rw [HO1.out.1]; exact Nat.le_refl 27) ?_)
              | (refine wpList_store_part rfl 45 (.tmp 9) (.tmp 89) rfl wr.heap.size 0 HG2.out op op (by rfl) (by rfl) (by rw [HO1.out.1]; exact Nat.le_refl 27) (by rw [HO1.out.1]; exact infoOp) HO1.out.2 hov.out ?_; intro V3 hb3 hc3; have HO9 := Lib.hid hb3; have HC3 := Lib.hid hc3; clear hb3 hc3)
              | (refine wpList_load_blk rfl 45 (.tmp 9) rfl _ 0 27 HO9.out op (by rfl) (ext_full _ 27 HO1.out.1) Tryz.underlying45 infoOp (by rw [HO1.out.1]; exact Nat.le_refl 27) ?_))
            replace HC := Lib.hid ((HC.out.bel hbA.out).chO HC3.out HG2.out)
            replace HB := Lib.hid ((HB.out.trans (hbA.out.mono HB.out.size)).trans (HC3.out.below (by have := HB.out.size; have := hbA.out.size; omega) (by simp <;> omega)))
            clear HC3 HG2 HA hbA HG9
            refine (HEN _).out.mono ?_
            rintro e V ⟨rfl, hb⟩
            replace HO9 := Lib.hid (HO9.out.bel hb)
            replace HC := Lib.hid (HC.out.bel hb)
            replace HB := Lib.hid (HB.out.trans (hb.mono HB.out.size))
            clear hb
            go_wp2_with fail
            refine (HDE _).out.mono ?_
            rintro e V ⟨rfl, hb⟩
            replace HO9 := Lib.hid (HO9.out.bel hb)
            replace HC := Lib.hid (HC.out.bel hb)
            replace HB := Lib.hid (HB.out.trans (hb.mono HB.out.size))
            clear hb
            go_wp2_with (first
              | (refine wpList_store_part rfl 45 (.tmp 17) (.tmp 112) rfl V.heap.size 0 (cs := opP 0 ByteArray.empty 0 ByteArray.empty) (Blk.new _ _ _) op op (by rfl) (by rfl) (by rw [HO1.out.1]; exact Nat.le_refl 27) (by rw [HO1.out.1]; exact infoOp) HO1.out.2 hov.out ?_; intro V2 hb2 hc2; have HP := Lib.hid hb2; have hb := Lib.hid (bel_st hc2); clear hb2 hc2))
            have hb := hb.out
            replace HO9 := Lib.hid (HO9.out.bel hb)
            replace HC := Lib.hid (HC.out.bel hb)
            replace HB := Lib.hid (HB.out.trans (hb.mono HB.out.size))
            clear hb
            have q1 := cell_rg (show V2.cell? ⟨wr.heap.size, 1, none⟩ = some (.string (nameB tx 1)) from (HO9.out.cell 1).trans HNM.out)
            refine wp_region_quiet_below (by kernel_rfl) (by kernel_rfl) ?_
            repeat (first | go_big_quiet_skip | (go_big_quiet_want; first | ((first
                            | (refine quiet_load_blk 45 (.tmp 9) rfl _ 0 27 HO9.out op (by rfl) (ext_full _ 27 HO1.out.1) Tryz.underlying45 infoOp (by rw [HO1.out.1]; exact Nat.le_refl 27) ?_; go_simp)
                            | (refine quiet_load_blk 45 (.tmp 17) rfl _ 0 27 HP.out op (by rfl) (ext_full _ 27 HO1.out.1) Tryz.underlying45 infoOp (by rw [HO1.out.1]; exact Nat.le_refl 27) ?_; go_simp)); go_big_quiet_on) | (go_big_quiet_op; first | go_big_quiet_on | go_big_quiet_call ((first
                          | (go_at_call 38; exact Calls.rg fun W _ => (HRI W).out)
                          | (go_at_call 20; exact Calls.rg fun W hW => st_name (HC.out.bel hW) (by omega) (by omega)))))))
            refine wpQuiet_nil ?_
            intro U hp
            have hb := bel_regrown hp
            clear hp
            replace HC := Lib.hid (HC.out.bel hb)
            replace HB := Lib.hid (HB.out.trans (hb.mono HB.out.size))
            clear hb
            clear HP HO9 q1
            go_wp2_with fail
            go_roundw
            case rel => exact ⟨k + 1, _, _, by omega, by omega, by go_num, HC, HB⟩
            case measure => simp [intOf]; omega
        · refine (give_st m1 HC.out (by omega) hlk.out (by have := hla.out; omega) (by omega) (by omega) (by omega) (by omega)).mono ?_
          rintro e V ⟨op, f, i2, b2, rfl, hop, hk, hc, hr⟩
          have hcc := Lib.hid hc
          have hV1 : wr.heap.size < V.heap.size := Nat.lt_of_lt_of_le HG9.out.lt hc.size
          replace HG9 := Lib.hid (Blk.ch HG9.out hc (by simp <;> omega))
          replace HB := Lib.hid (HB.out.trans (hc.below HB.out.size HSW.out))
          replace HC := Lib.hid (hk.more (z' := k + 1) (by omega))
          have HO := Lib.hid hop
          clear hk hr hop hc
          rcases HO.out with ⟨hf, hz⟩ | ⟨rfl, hok⟩
          · subst hz
            have f1 : (f != 0) = true := by simp [bne, beq_eq_false_iff_ne.2 hf]
            clear HO hf
            go_wp2_with (first
              | (refine wpList_store_part rfl 45 (.tmp 13) (.tmp 99) rfl V.heap.size 0 (cs := opP 0 ByteArray.empty 0 ByteArray.empty) (Blk.new _ _ _) (opP 0 ByteArray.empty 0 ByteArray.empty) (opP 0 ByteArray.empty 0 ByteArray.empty) (by rfl) (by rfl) (Nat.le_refl 27) infoOp (opP_one _ _ _ _) (opP_over _ _ _ _ _ _ _ _) ?_; intro V2 hb2 hc2; have HA := Lib.hid hb2; have hbA := Lib.hid (bel_st hc2); have HG2 := Lib.hid (HG9.out.bel hbA.out); clear hb2 hc2)
              | (refine wpList_load_blk rfl 45 (.tmp 13) rfl _ 0 27 HA.out (opP 0 ByteArray.empty 0 ByteArray.empty) (by rfl) (ext_full _ 27 rfl) Tryz.underlying45 infoOp (Nat.le_refl 27) ?_)
              | (refine wpList_store_part rfl 45 (.tmp 9) (.tmp 101) rfl wr.heap.size 0 HG2.out (opP 0 ByteArray.empty 0 ByteArray.empty) (opP 0 ByteArray.empty 0 ByteArray.empty) (by rfl) (by rfl) (Nat.le_refl 27) infoOp (opP_one _ _ _ _) (opP_over _ _ _ _ _ _ _ _) ?_; intro V3 hb3 hc3; have HO9 := Lib.hid hb3; have HC3 := Lib.hid hc3; clear hb3 hc3)
              | (refine wpList_load_blk rfl 45 (.tmp 9) rfl _ 0 27 HO9.out (opP 0 ByteArray.empty 0 ByteArray.empty) (by rfl) (ext_full _ 27 rfl) Tryz.underlying45 infoOp (Nat.le_refl 27) ?_))
            replace HC := Lib.hid ((HC.out.bel hbA.out).chO HC3.out HG2.out)
            replace HB := Lib.hid ((HB.out.trans (hbA.out.mono HB.out.size)).trans (HC3.out.below (by have := HB.out.size; have := hbA.out.size; omega) (by simp <;> omega)))
            go_roundw
            case rel => exact ⟨k + 1, _, _, by omega, by omega, by go_num, HC, HB⟩
            case measure => simp [intOf]; omega
          · obtain ⟨es, hri, hen, hde, hnm⟩ := opg_ok (by rw [nameB_size]) hok
            have HRI := fun W => Lib.hid (hri W)
            have HEN := fun W => Lib.hid (hen W)
            have HDE := fun W => Lib.hid (hde W)
            have HNM := Lib.hid hnm
            have HO1 := Lib.hid (And.intro HO.out.size HO.out.one)
            have hov := Lib.hid ((over_full op.toList (opP 0 ByteArray.empty 0 ByteArray.empty) (by rw [Array.length_toList, HO1.out.1]; rfl)).trans (Array.toArray_toList ..))
            have hnq := fun W => opNeq W op HO.out
            clear HO hok hri hen hde hnm
            go_wp2_with (first
              | (refine wpList_store_part rfl 45 (.tmp 13) (.tmp 99) rfl V.heap.size 0 (cs := opP 0 ByteArray.empty 0 ByteArray.empty) (Blk.new _ _ _) op op (by rfl) (by rfl) (by rw [HO1.out.1]; exact Nat.le_refl 27) (by rw [HO1.out.1]; exact infoOp) HO1.out.2 hov.out ?_; intro V2 hb2 hc2; have HA := Lib.hid hb2; have hbA := Lib.hid (bel_st hc2); have HG2 := Lib.hid (HG9.out.bel hbA.out); clear hb2 hc2)
              | (refine wpList_load_blk rfl 45 (.tmp 13) rfl _ 0 27 HA.out op (by rfl) (ext_full _ 27 HO1.out.1) Tryz.underlying45 infoOp (by rw [HO1.out.1]; exact Nat.le_refl 27) ?_)
              | (refine wpList_store_part rfl 45 (.tmp 9) (.tmp 101) rfl wr.heap.size 0 HG2.out op op (by rfl) (by rfl) (by rw [HO1.out.1]; exact Nat.le_refl 27) (by rw [HO1.out.1]; exact infoOp) HO1.out.2 hov.out ?_; intro V3 hb3 hc3; have HO9 := Lib.hid hb3; have HC3 := Lib.hid hc3; clear hb3 hc3)
              | (refine wpList_load_blk rfl 45 (.tmp 9) rfl _ 0 27 HO9.out op (by rfl) (ext_full _ 27 HO1.out.1) Tryz.underlying45 infoOp (by rw [HO1.out.1]; exact Nat.le_refl 27) ?_))
            replace HC := Lib.hid ((HC.out.bel hbA.out).chO HC3.out HG2.out)
            replace HB := Lib.hid ((HB.out.trans (hbA.out.mono HB.out.size)).trans (HC3.out.below (by have := HB.out.size; have := hbA.out.size; omega) (by simp <;> omega)))
            clear HC3 HG2 HA hbA HG9
            refine (HEN _).out.mono ?_
            rintro e V ⟨rfl, hb⟩
            replace HO9 := Lib.hid (HO9.out.bel hb)
            replace HC := Lib.hid (HC.out.bel hb)
            replace HB := Lib.hid (HB.out.trans (hb.mono HB.out.size))
            clear hb
            go_wp2_with fail
            refine (HDE _).out.mono ?_
            rintro e V ⟨rfl, hb⟩
            replace HO9 := Lib.hid (HO9.out.bel hb)
            replace HC := Lib.hid (HC.out.bel hb)
            replace HB := Lib.hid (HB.out.trans (hb.mono HB.out.size))
            clear hb
            go_wp2_with (first
              | (refine wpList_store_part rfl 45 (.tmp 17) (.tmp 112) rfl V.heap.size 0 (cs := opP 0 ByteArray.empty 0 ByteArray.empty) (Blk.new _ _ _) op op (by rfl) (by rfl) (by rw [HO1.out.1]; exact Nat.le_refl 27) (by rw [HO1.out.1]; exact infoOp) HO1.out.2 hov.out ?_; intro V2 hb2 hc2; have HP := Lib.hid hb2; have hb := Lib.hid (bel_st hc2); clear hb2 hc2))
            have hb := hb.out
            replace HO9 := Lib.hid (HO9.out.bel hb)
            replace HC := Lib.hid (HC.out.bel hb)
            replace HB := Lib.hid (HB.out.trans (hb.mono HB.out.size))
            clear hb
            have q1 := cell_rg (show V2.cell? ⟨wr.heap.size, 1, none⟩ = some (.string (nameB tx 1)) from (HO9.out.cell 1).trans HNM.out)
            refine wp_region_quiet_below (by kernel_rfl) (by kernel_rfl) ?_
            repeat (first | go_big_quiet_skip | (go_big_quiet_want; first | ((first
                            | (refine quiet_load_blk 45 (.tmp 9) rfl _ 0 27 HO9.out op (by rfl) (ext_full _ 27 HO1.out.1) Tryz.underlying45 infoOp (by rw [HO1.out.1]; exact Nat.le_refl 27) ?_; go_simp)
                            | (refine quiet_load_blk 45 (.tmp 17) rfl _ 0 27 HP.out op (by rfl) (ext_full _ 27 HO1.out.1) Tryz.underlying45 infoOp (by rw [HO1.out.1]; exact Nat.le_refl 27) ?_; go_simp)); go_big_quiet_on) | (go_big_quiet_op; first | go_big_quiet_on | go_big_quiet_call ((first
                          | (go_at_call 38; exact Calls.rg fun W _ => (HRI W).out)
                          | (go_at_call 20; exact Calls.rg fun W hW => st_name (HC.out.bel hW) (by omega) (by omega)))))))
            refine wpQuiet_nil ?_
            intro U hp
            have hb := bel_regrown hp
            clear hp
            replace HC := Lib.hid (HC.out.bel hb)
            replace HB := Lib.hid (HB.out.trans (hb.mono HB.out.size))
            clear hb
            clear HP HO9 q1
            go_wp2_with fail
            go_roundw
            case rel => exact ⟨k + 1, _, _, by omega, by omega, by go_num, HC, HB⟩
            case measure => simp [intOf]; omega
        · refine (st_name HC.out (by omega) (by omega)).mono ?_
          rintro e V ⟨rfl, hb⟩
          replace HG9 := Lib.hid (HG9.out.bel hb)
          replace HC := Lib.hid (HC.out.bel hb)
          replace HB := Lib.hid (HB.out.trans (hb.mono HB.out.size))
          clear hb
          go_wp2_with fail
          refine (offer_any (nameB tx 1) q m2 V).mono ?_
          rintro e V ⟨rfl, hb⟩
          replace HG9 := Lib.hid (HG9.out.bel hb)
          replace HC := Lib.hid (HC.out.bel hb)
          replace HB := Lib.hid (HB.out.trans (hb.mono HB.out.size))
          clear hb
          go_wp2_with fail
          refine (take_st (ofO (nameB tx 1) q m2) q HC.out (ofO_ok _ _ _ hqq (by omega) g2e.out) rfl comC_size (by omega) hlk.out (by have := hla.out; omega) (by omega) (by omega) (by omega) (by omega) (by omega) (by omega)).mono ?_
          rintro e V ⟨op, f, i2, b2, rfl, hop, hk, hc, hr⟩
          have hcc := Lib.hid hc
          have hV1 : wr.heap.size < V.heap.size := Nat.lt_of_lt_of_le HG9.out.lt hc.size
          replace HG9 := Lib.hid (Blk.ch HG9.out hc (by simp <;> omega))
          replace HB := Lib.hid (HB.out.trans (hc.below HB.out.size HSW.out))
          replace HC := Lib.hid (hk.more (z' := k + 1) (by omega))
          have HO := Lib.hid hop
          clear hk hr hop hc
          rcases HO.out with ⟨hf, hz⟩ | ⟨rfl, hok⟩
          · subst hz
            have f1 : (f != 0) = true := by simp [bne, beq_eq_false_iff_ne.2 hf]
            clear HO hf
            go_wp2_with (first
              | (refine wpList_store_part rfl 45 (.tmp 15) (.tmp 76) rfl V.heap.size 0 (cs := opP 0 ByteArray.empty 0 ByteArray.empty) (Blk.new _ _ _) (opP 0 ByteArray.empty 0 ByteArray.empty) (opP 0 ByteArray.empty 0 ByteArray.empty) (by rfl) (by rfl) (Nat.le_refl 27) infoOp (opP_one _ _ _ _) (opP_over _ _ _ _ _ _ _ _) ?_; intro V2 hb2 hc2; have HA := Lib.hid hb2; have hbA := Lib.hid (bel_st hc2); have HG2 := Lib.hid (HG9.out.bel hbA.out); clear hb2 hc2)
              | (refine wpList_load_blk rfl 45 (.tmp 15) rfl _ 0 27 HA.out (opP 0 ByteArray.empty 0 ByteArray.empty) (by rfl) (ext_full _ 27 rfl) Tryz.underlying45 infoOp (Nat.le_refl 27) ?_)
              | (refine wpList_store_part rfl 45 (.tmp 9) (.tmp 78) rfl wr.heap.size 0 HG2.out (opP 0 ByteArray.empty 0 ByteArray.empty) (opP 0 ByteArray.empty 0 ByteArray.empty) (by rfl) (by rfl) (Nat.le_refl 27) infoOp (opP_one _ _ _ _) (opP_over _ _ _ _ _ _ _ _) ?_; intro V3 hb3 hc3; have HO9 := Lib.hid hb3; have HC3 := Lib.hid hc3; clear hb3 hc3)
              | (refine wpList_load_blk rfl 45 (.tmp 9) rfl _ 0 27 HO9.out (opP 0 ByteArray.empty 0 ByteArray.empty) (by rfl) (ext_full _ 27 rfl) Tryz.underlying45 infoOp (Nat.le_refl 27) ?_))
            replace HC := Lib.hid ((HC.out.bel hbA.out).chO HC3.out HG2.out)
            replace HB := Lib.hid ((HB.out.trans (hbA.out.mono HB.out.size)).trans (HC3.out.below (by have := HB.out.size; have := hbA.out.size; omega) (by simp <;> omega)))
            go_roundw
            case rel => exact ⟨k + 1, _, _, by omega, by omega, by go_num, HC, HB⟩
            case measure => simp [intOf]; omega
          · obtain ⟨es, hri, hen, hde, hnm⟩ := opg_ok (by rw [nameB_size]) hok
            have HRI := fun W => Lib.hid (hri W)
            have HEN := fun W => Lib.hid (hen W)
            have HDE := fun W => Lib.hid (hde W)
            have HNM := Lib.hid hnm
            have HO1 := Lib.hid (And.intro HO.out.size HO.out.one)
            have hov := Lib.hid ((over_full op.toList (opP 0 ByteArray.empty 0 ByteArray.empty) (by rw [Array.length_toList, HO1.out.1]; rfl)).trans (Array.toArray_toList ..))
            have hnq := fun W => opNeq W op HO.out
            clear HO hok hri hen hde hnm
            go_wp2_with (first
              | (refine wpList_store_part rfl 45 (.tmp 15) (.tmp 76) rfl V.heap.size 0 (cs := opP 0 ByteArray.empty 0 ByteArray.empty) (Blk.new _ _ _) op op (by rfl) (by rfl) (by rw [HO1.out.1]; exact Nat.le_refl 27) (by rw [HO1.out.1]; exact infoOp) HO1.out.2 hov.out ?_; intro V2 hb2 hc2; have HA := Lib.hid hb2; have hbA := Lib.hid (bel_st hc2); have HG2 := Lib.hid (HG9.out.bel hbA.out); clear hb2 hc2)
              | (refine wpList_load_blk rfl 45 (.tmp 15) rfl _ 0 27 HA.out op (by rfl) (ext_full _ 27 HO1.out.1) Tryz.underlying45 infoOp (by rw [HO1.out.1]; exact Nat.le_refl 27) ?_)
              | (refine wpList_store_part rfl 45 (.tmp 9) (.tmp 78) rfl wr.heap.size 0 HG2.out op op (by rfl) (by rfl) (by rw [HO1.out.1]; exact Nat.le_refl 27) (by rw [HO1.out.1]; exact infoOp) HO1.out.2 hov.out ?_; intro V3 hb3 hc3; have HO9 := Lib.hid hb3; have HC3 := Lib.hid hc3; clear hb3 hc3)
              | (refine wpList_load_blk rfl 45 (.tmp 9) rfl _ 0 27 HO9.out op (by rfl) (ext_full _ 27 HO1.out.1) Tryz.underlying45 infoOp (by rw [HO1.out.1]; exact Nat.le_refl 27) ?_))
            replace HC := Lib.hid ((HC.out.bel hbA.out).chO HC3.out HG2.out)
            replace HB := Lib.hid ((HB.out.trans (hbA.out.mono HB.out.size)).trans (HC3.out.below (by have := HB.out.size; have := hbA.out.size; omega) (by simp <;> omega)))
            clear HC3 HG2 HA hbA HG9
            refine (HEN _).out.mono ?_
            rintro e V ⟨rfl, hb⟩
            replace HO9 := Lib.hid (HO9.out.bel hb)
            replace HC := Lib.hid (HC.out.bel hb)
            replace HB := Lib.hid (HB.out.trans (hb.mono HB.out.size))
            clear hb
            go_wp2_with fail
            refine (HDE _).out.mono ?_
            rintro e V ⟨rfl, hb⟩
            replace HO9 := Lib.hid (HO9.out.bel hb)
            replace HC := Lib.hid (HC.out.bel hb)
            replace HB := Lib.hid (HB.out.trans (hb.mono HB.out.size))
            clear hb
            go_wp2_with (first
              | (refine wpList_store_part rfl 45 (.tmp 17) (.tmp 112) rfl V.heap.size 0 (cs := opP 0 ByteArray.empty 0 ByteArray.empty) (Blk.new _ _ _) op op (by rfl) (by rfl) (by rw [HO1.out.1]; exact Nat.le_refl 27) (by rw [HO1.out.1]; exact infoOp) HO1.out.2 hov.out ?_; intro V2 hb2 hc2; have HP := Lib.hid hb2; have hb := Lib.hid (bel_st hc2); clear hb2 hc2))
            have hb := hb.out
            replace HO9 := Lib.hid (HO9.out.bel hb)
            replace HC := Lib.hid (HC.out.bel hb)
            replace HB := Lib.hid (HB.out.trans (hb.mono HB.out.size))
            clear hb
            have q1 := cell_rg (show V2.cell? ⟨wr.heap.size, 1, none⟩ = some (.string (nameB tx 1)) from (HO9.out.cell 1).trans HNM.out)
            refine wp_region_quiet_below (by kernel_rfl) (by kernel_rfl) ?_
            repeat (first | go_big_quiet_skip | (go_big_quiet_want; first | ((first
                            | (refine quiet_load_blk 45 (.tmp 9) rfl _ 0 27 HO9.out op (by rfl) (ext_full _ 27 HO1.out.1) Tryz.underlying45 infoOp (by rw [HO1.out.1]; exact Nat.le_refl 27) ?_; go_simp)
                            | (refine quiet_load_blk 45 (.tmp 17) rfl _ 0 27 HP.out op (by rfl) (ext_full _ 27 HO1.out.1) Tryz.underlying45 infoOp (by rw [HO1.out.1]; exact Nat.le_refl 27) ?_; go_simp)); go_big_quiet_on) | (go_big_quiet_op; first | go_big_quiet_on | go_big_quiet_call ((first
                          | (go_at_call 38; exact Calls.rg fun W _ => (HRI W).out)
                          | (go_at_call 20; exact Calls.rg fun W hW => st_name (HC.out.bel hW) (by omega) (by omega)))))))
            refine wpQuiet_nil ?_
            intro U hp
            have hb := bel_regrown hp
            clear hp
            replace HC := Lib.hid (HC.out.bel hb)
            replace HB := Lib.hid (HB.out.trans (hb.mono HB.out.size))
            clear hb
            clear HP HO9 q1
            go_wp2_with fail
            go_roundw
            case rel => exact ⟨k + 1, _, _, by omega, by omega, by go_num, HC, HB⟩
            case measure => simp [intOf]; omega
      · go_wp2_with fail
        all_goals
          refine (HFX _).out.mono ?_
          rintro e V ⟨rfl, hb⟩
          go_wp2_with fail
          go_ret
          exact ⟨rfl, HB.out.trans (hb.mono HB.out.size)⟩
end Go.Proofs.YtgnlakbmibkjgaaGreat
