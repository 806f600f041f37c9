/- SdkRises: the walk. -/
import Derived.Outline
import Derived.Test.YtgnlakbmibkjgaaGreatMgNum
import Derived.Test.YtgnlakbmibkjgaaGreatMgSdkC
set_option linter.unusedVariables false
set_option linter.unusedSimpArgs false
namespace Go.Proofs.YtgnlakbmibkjgaaGreat
open Go.RowKit Go.Maps
theorem st_left {w : World} {cb kb ctr pb mb n i out b z : Nat} {seed tx : ByteArray} {l : Lk} (k : Cst w cb kb ctr pb mb seed 4 n tx out l i b z) :
    Calls Tryz.prog 15 #[.pointer (some ⟨cb, 0, none⟩)] w fun e w' => e = .returned (.int .i64 (16 - (i : Int))) ∧ ∃ n, w' = w.drewN n := by
  obtain ⟨⟨am, tk, A, D, k1, _⟩, _, k7⟩ := k
  exact sleft_any k1.at_ (by omega) (by omega)
theorem st_whole {w : World} {cb kb ctr pb mb n i out b z : Nat} {seed tx : ByteArray} {l : Lk} (k : Cst w cb kb ctr pb mb seed 4 n tx out l i b z) (hl : l.ok) (v : Nat) (hv : l.am = v) :
    Calls Tryz.prog 21 #[.pointer (some ⟨cb, 0, none⟩)] w fun e w' => e = .returned (.int .u64 (v : Int)) ∧ Below w.heap.size w w' := by
  obtain ⟨⟨am, tk, A, D, k1, _⟩, _, _⟩ := k
  subst hv
  exact swhole_any k1.at_ hl
theorem st_name {w : World} {cb kb ctr pb mb n i out b z : Nat} {seed tx : ByteArray} {l : Lk} (k : Cst w cb kb ctr pb mb seed 4 n tx out l i b z) (ho : out < 256) (hz : tx.size ≤ 1000000) :
    Calls Tryz.prog 20 #[.pointer (some ⟨cb, 0, none⟩)] w fun e w' => e = .returned (.string (nameB tx out)) ∧ Below w.heap.size w w' := by
  obtain ⟨⟨am, tk, A, D, k1, _⟩, _, _⟩ := k
  exact sname_any k1.at_ ho hz
def lkR (sd : ByteArray) (u : Nat) : Lk := ⟨700, rootB sd 4, rootB sd 4, 50, tokB sd 20 0, u, 20⟩
theorem lkR_ok (sd : ByteArray) (u : Nat) (h : u < 256) : (lkR sd u).ok := ⟨by simp [lkR], rootB_size _ _, rootB_size _ _, by simp [lkR], tokB_size _ _ _, by simp [lkR]; omega, by simp [lkR]⟩
set_option maxRecDepth 100000 in
set_option maxHeartbeats 1000000 in
theorem rises_any (s : ByteArray) (u : Nat) (A : Option Addr) (l : List Nat) (c : Nat) (w : World) (hs : s.size ≤ maxLen) (hu : u < 256) (hl : l.length ≤ maxLen) (hch : ∀ x ∈ l, x < 4294967296) (hS : Sl w w.heap.size 1 encU A l)
    (HFIX : ∀ W, Calls Tryz.prog 22 #[] W fun e w' => e = .returned (.bool true) ∧ Below W.heap.size W w') :
    Calls Tryz.prog 3 #[.string s, .int .u8 u, .slice A l.length c] w fun e w' => e = .returned (.bool true) ∧ Below w.heap.size w w' := by
  unfold maxLen at hs hl
  have HCH := Lib.hid hch
  have HS := Lib.hid hS
  obtain ⟨tx, htx⟩ : ∃ tx : ByteArray, tx = ⟨#[116, 116, 116, 116, 116, 116, 116, 116, 116, 116, 116, 116, 116, 116, 116, 116]⟩ := ⟨_, rfl⟩
  have htz : tx.size = 16 := by rw [htx]; rfl
  have HPL := fun W => Lib.hid (place_any W)
  rw [← htx] at HPL
  clear hch hS htx
  by_cases h50 : s.size ≤ 50
  · have hsz : s.size ≤ 50 := by first | exact h50 | (rw [ByteArray.size_extract]; omega)
    have HNEW := fun W => Lib.hid (snew_any s 4 20 W (by omega) (by omega) (by omega) (by omega))
    have HSZ := Lib.hid hsz
    clear hsz
    go_enter Tryz.func3, Tryz.ntmps3
    go_wp2_with fail
    refine (HNEW _).out.mono ?_
    generalize s = sd at HSZ ⊢
    rintro e V ⟨cb, kb, ctr, pb, mb, rfl, ⟨hcb, hct, hmb⟩, hz, hb0⟩
    have hsz := HSZ.out
    clear HSZ
    have HC := Lib.hid hz
    have HB := Lib.hid hb0
    have hSW : ∀ x ∈ [cb, ctr, mb], w.heap.size ≤ x := by intro x hx; simp at hx; rcases hx with rfl | rfl | rfl <;> assumption
    have HSW := Lib.hid hSW
    clear hSW HNEW hz hb0
    go_wp2_with fail
    refine (HPL _).out.mono ?_
    rintro e V ⟨rfl, hb⟩
    replace HC := Lib.hid (HC.out.bel hb)
    replace HB := Lib.hid (HB.out.trans (hb.mono HB.out.size))
    clear hb
    go_wp2_with fail
    refine (zroot_any HC.out.at_).mono ?_
    rintro e V' ⟨rfl, hq⟩
    rw [hq]
    clear hq V'
    go_wp2_with fail
    refine (zoutput_any HC.out.at_ (by omega) 700 50 u (rootB sd 4)).mono ?_
    rintro e V ⟨rfl, hb⟩
    replace HC := Lib.hid (HC.out.bel hb)
    replace HB := Lib.hid (HB.out.trans (hb.mono HB.out.size))
    clear hb
    go_wp2_with fail
    refine (zattach_ok HC.out (by omega) tx 1 (lkR sd u) (lkR_ok sd u (by omega)) rfl rfl rfl).mono ?_
    rintro e V ⟨rfl, hk, hc⟩
    have hc := hc.mono (S' := [cb, ctr, mb]) (by simp <;> omega)
    have HB := Lib.hid (HB.out.trans (hc.below HB.out.size HSW.out))
    have HC : Hid (Cst V cb kb ctr pb mb sd 4 20 tx 1 (lkR sd u) 0 0 0) := ⟨⟨0, 0, 0, _, hk, by simp [allD, sD, totI], by simp, by omega, Nat.le_of_eq rfl⟩, by simp, by omega⟩
    have hlk := Lib.hid (lkR_ok sd u hu)
    have hla : Hid ((lkR sd u).am = 700) := rfl
    have hun : Hid ((lkR sd u).unit = u) := rfl
    generalize lkR sd u = lk at HC hlk hla hun
    clear hk hc
    go_wp2_with fail
    have HFX := fun W => Lib.hid (HFIX W)
    go_loopw [10] (fun i wr => ∃ k ii b : Nat, k ≤ l.length ∧ k ≤ 12 ∧ i = .int .i64 k ∧ Hid (Cst wr cb kb ctr pb mb sd 4 20 tx 1 lk ii b k) ∧ Hid (Below w.heap.size w wr)) (fun i _ => l.length - (intOf i).toNat)
    case atStart => exact ⟨0, 0, 0, Nat.zero_le _, Nat.zero_le _, rfl, HC, HB⟩
    case round =>
      clear HC HB
      obtain ⟨k, ii, b, hk, hk12, rfl, HC, HB⟩ := hrel
      by_cases hlt : k < l.length ∧ k < 12
      · obtain ⟨hlt, hlt2⟩ := hlt
        obtain ⟨ab, off, rfl, hbB, hc⟩ := (HS.out.below HB.out).at_ hlt
        have hx := HCH.out _ (List.getElem_mem hlt)
        generalize l[k] = x at hc hx
        have hc0 : wr.cell? ⟨ab, off + k, none⟩ = some (.int .u32 x) := by have := hc 0 _ rfl; simpa using this
        have hz := HB.out.size
        have hbb : b ≤ 700 := by have := HC.out.bd; rw [hla.out] at this; exact this
        clear hc
        have q0 := cell_rg hc0
        go_wp2_with fail
        refine wp_region_quiet_below (by kernel_rfl) (by kernel_rfl) ?_
        repeat (first | go_big_quiet_skip | (go_big_quiet_want; first | (fail; go_big_quiet_on) | (go_big_quiet_op; first | go_big_quiet_on | go_big_quiet_call ((first
                  | (go_at_call 14; exact Calls.rg fun W hW => st_bound (HC.out.bel hW) hlk.out (by omega) (by omega))
                  | (go_at_call 15; exact Calls.rg_drew fun W hW => st_left (HC.out.bel hW)))))))
        refine wpQuiet_nil ?_
        intro V hp
        have hb := bel_regrown hp
        clear hp
        have hc1 : V.cell? ⟨ab, off + k, none⟩ = some (.int .u32 x) := (hb.cell (p := ⟨ab, off + k, none⟩) (by show ab < _; omega)).trans hc0
        replace HC := Lib.hid (HC.out.bel hb)
        replace HB := Lib.hid (HB.out.trans (hb.mono HB.out.size))
        clear hb
        clear q0 hc0
        obtain ⟨q, hq⟩ : ∃ q : Nat, (x : Int) / 4 = q := ⟨x / 4, by omega⟩
        obtain ⟨m0, hm0⟩ : ∃ m : Nat, (q : Int) % 200 = m := ⟨q % 200, by omega⟩
        obtain ⟨m1, hm1⟩ : ∃ m : Nat, (q : Int) % 6 = m := ⟨q % 6, by omega⟩
        obtain ⟨m2, hm2⟩ : ∃ m : Nat, (2 : Int) * ((q : Int) % 100) = m := ⟨2 * (q % 100), by omega⟩
        have g0 : m0 < 200 := by omega
        have g1 : m1 < 6 := by omega
        have g2 : m2 < 200 := by omega
        have g2e : Hid (m2 % 2 = 0) := by show m2 % 2 = 0; omega
        have hmu : m1 * u < 2000 := Nat.lt_of_le_of_lt (Nat.mul_le_mul (Nat.le_of_lt_succ g1) (Nat.le_of_lt hu)) (by omega)
        have hw1 : IntKind.u64.wrap ((m1 : Int) * (u : Int)) = ((m1 * u : Nat) : Int) := by rw [← Int.natCast_mul]; exact IntWalk.u64_in _ (by omega)
        have hqq : q < 18446744073709551616 := by omega
        generalize hmm : m1 * u = mu at hmu hw1
        have HMM := Lib.hid hmm
        clear hmm
        go_wp2_with fail
        · refine (pay_st m0 HC.out (by omega) hlk.out (by have := hla.out; omega) (by omega) (by omega) (by omega) (by omega) (by omega) (by omega)).mono ?_
          rintro e V ⟨op, f, i2, b2, rfl, hop, hk, hc, hr⟩
          rw [hla.out] at hr
          have hz2 := HB.out.size
          replace HB := Lib.hid (HB.out.trans (hc.below HB.out.size HSW.out))
          replace HC := Lib.hid (hk.more (z' := k + 1) (by omega))
          have HR := Lib.hid hr
          have HO := Lib.hid hop
          clear hk hr hop hc
          go_wp2_with (first
            | (refine wpList_store_part rfl 45 (.tmp 16) (.tmp 98) rfl V.heap.size 0 (cs := opP 0 ByteArray.empty 0 ByteArray.empty) (Blk.new _ _ _) op op (by rfl) (by rfl) (by rw [HO.out.size]; exact Nat.le_refl 27) (by rw [HO.out.size]; exact infoOp) HO.out.one ((over_full op.toList _ (by rw [Array.length_toList, HO.out.size]; rfl)).trans (Array.toArray_toList ..)) ?_; intro V2 hb2 hc2; have hb := Lib.hid (bel_st hc2); clear hb2 hc2))
          have hb := hb.out
          replace HC := Lib.hid (HC.out.bel hb)
          replace HB := Lib.hid (HB.out.trans (hb.mono HB.out.size))
          clear hb
          refine (st_bound HC.out hlk.out (by omega) (by omega)).mono ?_
          rintro e V ⟨rfl, hb⟩
          replace HC := Lib.hid (HC.out.bel hb)
          replace HB := Lib.hid (HB.out.trans (hb.mono HB.out.size))
          clear hb
          clear HO
          have hbd := HC.out.bd
          rw [hla.out] at hbd
          have hw2 : IntKind.u64.wrap ((b : Int) + (m0 : Int)) = ((b + m0 : Nat) : Int) := by rw [← Int.natCast_add]; exact IntWalk.u64_in _ (by omega)
          have dwh : decide ((700 : Int) < (b2 : Int)) = false := decide_eq_false (by omega)
          rcases HR.out with ⟨rfl, hbe⟩ | ⟨hf, rfl, rfl, hfull⟩
          · subst hbe
            clear HR
            go_wp2_with fail
            refine (st_whole HC.out hlk.out 700 hla.out).mono ?_
            rintro e V ⟨rfl, hb⟩
            replace HC := Lib.hid (HC.out.bel hb)
            replace HB := Lib.hid (HB.out.trans (hb.mono HB.out.size))
            clear hb
            go_wp2_with fail
            go_roundw
            case rel => exact ⟨k + 1, _, _, by omega, by omega, by go_num, HC, HB⟩
            case measure => simp [intOf]; omega
          · have f0 : (f == 0) = false := beq_eq_false_iff_ne.2 hf
            have f1 : (f != 0) = true := by simp [bne, f0]
            clear HR hf
            go_wp2_with fail
            refine (st_left HC.out).mono ?_
            rintro e V' ⟨rfl, nq, hq⟩
            have hb : Below V.heap.size V V' := hq ▸ (Ch.drewN [] V nq).below (Nat.le_refl _) (by simp)
            replace HC := Lib.hid (HC.out.bel hb)
            replace HB := Lib.hid (HB.out.trans (hb.mono HB.out.size))
            clear hb
            clear hq
            go_wp2_with fail
            refine (st_whole HC.out hlk.out 700 hla.out).mono ?_
            rintro e V ⟨rfl, hb⟩
            replace HC := Lib.hid (HC.out.bel hb)
            replace HB := Lib.hid (HB.out.trans (hb.mono HB.out.size))
            clear hb
            by_cases h9 : f = 9
            · have h9t := hfull h9
              subst h9
              have dw9 : decide ((b2 : Int) + (m0 : Int) ≤ 700) = false := decide_eq_false (by omega)
              have dw8 : ((b2 + m0 : Nat) : Int) = (b2 : Int) + (m0 : Int) := by simp
              go_wp2_with fail
              refine (st_whole HC.out hlk.out 700 hla.out).mono ?_
              rintro e V ⟨rfl, hb⟩
              replace HC := Lib.hid (HC.out.bel hb)
              replace HB := Lib.hid (HB.out.trans (hb.mono HB.out.size))
              clear hb
              go_wp2_with fail
              go_roundw
              case rel => exact ⟨k + 1, _, _, by omega, by omega, by go_num, HC, HB⟩
              case measure => simp [intOf]; omega
            · have f9 : (f == 9) = false := beq_eq_false_iff_ne.2 h9
              clear h9 hfull
              go_wp2_with fail
              go_roundw
              case rel => exact ⟨k + 1, _, _, by omega, by omega, by go_num, HC, HB⟩
              case measure => simp [intOf]; omega
        · refine (give_st m1 HC.out (by omega) hlk.out (by have := hla.out; omega) (by omega) (by omega) (by omega) (by omega)).mono ?_
          rintro e V ⟨op, f, i2, b2, rfl, hop, hk, hc, hr⟩
          rw [hun.out, HMM.out, hla.out] at hr
          have hz2 := HB.out.size
          replace HB := Lib.hid (HB.out.trans (hc.below HB.out.size HSW.out))
          replace HC := Lib.hid (hk.more (z' := k + 1) (by omega))
          have HR := Lib.hid hr
          have HO := Lib.hid hop
          clear hk hr hop hc
          go_wp2_with (first
            | (refine wpList_store_part rfl 45 (.tmp 18) (.tmp 113) rfl V.heap.size 0 (cs := opP 0 ByteArray.empty 0 ByteArray.empty) (Blk.new _ _ _) op op (by rfl) (by rfl) (by rw [HO.out.size]; exact Nat.le_refl 27) (by rw [HO.out.size]; exact infoOp) HO.out.one ((over_full op.toList _ (by rw [Array.length_toList, HO.out.size]; rfl)).trans (Array.toArray_toList ..)) ?_; intro V2 hb2 hc2; have hb := Lib.hid (bel_st hc2); clear hb2 hc2))
          have hb := hb.out
          replace HC := Lib.hid (HC.out.bel hb)
          replace HB := Lib.hid (HB.out.trans (hb.mono HB.out.size))
          clear hb
          refine (st_bound HC.out hlk.out (by omega) (by omega)).mono ?_
          rintro e V ⟨rfl, hb⟩
          replace HC := Lib.hid (HC.out.bel hb)
          replace HB := Lib.hid (HB.out.trans (hb.mono HB.out.size))
          clear hb
          clear HO
          have hbd := HC.out.bd
          rw [hla.out] at hbd
          have hw2 : IntKind.u64.wrap ((b : Int) + (mu : Int)) = ((b + mu : Nat) : Int) := by rw [← Int.natCast_add]; exact IntWalk.u64_in _ (by omega)
          have dwh : decide ((700 : Int) < (b2 : Int)) = false := decide_eq_false (by omega)
          rcases HR.out with ⟨rfl, hbe⟩ | ⟨hf, rfl, rfl, hfull⟩
          · subst hbe
            clear HR
            go_wp2_with fail
            refine (st_whole HC.out hlk.out 700 hla.out).mono ?_
            rintro e V ⟨rfl, hb⟩
            replace HC := Lib.hid (HC.out.bel hb)
            replace HB := Lib.hid (HB.out.trans (hb.mono HB.out.size))
            clear hb
            go_wp2_with fail
            go_roundw
            case rel => exact ⟨k + 1, _, _, by omega, by omega, by go_num, HC, HB⟩
            case measure => simp [intOf]; omega
          · have f0 : (f == 0) = false := beq_eq_false_iff_ne.2 hf
            have f1 : (f != 0) = true := by simp [bne, f0]
            clear HR hf
            go_wp2_with fail
            refine (st_left HC.out).mono ?_
            rintro e V' ⟨rfl, nq, hq⟩
            have hb : Below V.heap.size V V' := hq ▸ (Ch.drewN [] V nq).below (Nat.le_refl _) (by simp)
            replace HC := Lib.hid (HC.out.bel hb)
            replace HB := Lib.hid (HB.out.trans (hb.mono HB.out.size))
            clear hb
            clear hq
            go_wp2_with fail
            refine (st_whole HC.out hlk.out 700 hla.out).mono ?_
            rintro e V ⟨rfl, hb⟩
            replace HC := Lib.hid (HC.out.bel hb)
            replace HB := Lib.hid (HB.out.trans (hb.mono HB.out.size))
            clear hb
            by_cases h9 : f = 9
            · have h9t := hfull h9
              subst h9
              have dw9 : decide ((b2 : Int) + (mu : Int) ≤ 700) = false := decide_eq_false (by omega)
              have dw8 : ((b2 + mu : Nat) : Int) = (b2 : Int) + (mu : Int) := by simp
              go_wp2_with fail
              refine (st_whole HC.out hlk.out 700 hla.out).mono ?_
              rintro e V ⟨rfl, hb⟩
              replace HC := Lib.hid (HC.out.bel hb)
              replace HB := Lib.hid (HB.out.trans (hb.mono HB.out.size))
              clear hb
              go_wp2_with fail
              go_roundw
              case rel => exact ⟨k + 1, _, _, by omega, by omega, by go_num, HC, HB⟩
              case measure => simp [intOf]; omega
            · have f9 : (f == 9) = false := beq_eq_false_iff_ne.2 h9
              clear h9 hfull
              go_wp2_with fail
              go_roundw
              case rel => exact ⟨k + 1, _, _, by omega, by omega, by go_num, HC, HB⟩
              case measure => simp [intOf]; omega
        · refine (st_name HC.out (by omega) (by omega)).mono ?_
          rintro e V ⟨rfl, hb⟩
          replace HC := Lib.hid (HC.out.bel hb)
          replace HB := Lib.hid (HB.out.trans (hb.mono HB.out.size))
          clear hb
          go_wp2_with fail
          refine (offer_any (nameB tx 1) q m2 V).mono ?_
          rintro e V ⟨rfl, hb⟩
          replace HC := Lib.hid (HC.out.bel hb)
          replace HB := Lib.hid (HB.out.trans (hb.mono HB.out.size))
          clear hb
          go_wp2_with fail
          refine (take_st (ofO (nameB tx 1) q m2) q HC.out (ofO_ok _ _ _ hqq (by omega) g2e.out) rfl comC_size (by omega) hlk.out (by have := hla.out; omega) (by omega) (by omega) (by omega) (by omega) (by omega) (by omega)).mono ?_
          rintro e V ⟨op, f, i2, b2, rfl, hop, hk, hc, hr⟩
          change Rel f ii b i2 b2 m2 _ at hr
          rw [hla.out] at hr
          have hz2 := HB.out.size
          replace HB := Lib.hid (HB.out.trans (hc.below HB.out.size HSW.out))
          replace HC := Lib.hid (hk.more (z' := k + 1) (by omega))
          have HR := Lib.hid hr
          have HO := Lib.hid hop
          clear hk hr hop hc
          go_wp2_with (first
            | (refine wpList_store_part rfl 45 (.tmp 20) (.tmp 87) rfl V.heap.size 0 (cs := opP 0 ByteArray.empty 0 ByteArray.empty) (Blk.new _ _ _) op op (by rfl) (by rfl) (by rw [HO.out.size]; exact Nat.le_refl 27) (by rw [HO.out.size]; exact infoOp) HO.out.one ((over_full op.toList _ (by rw [Array.length_toList, HO.out.size]; rfl)).trans (Array.toArray_toList ..)) ?_; intro V2 hb2 hc2; have hb := Lib.hid (bel_st hc2); clear hb2 hc2))
          have hb := hb.out
          replace HC := Lib.hid (HC.out.bel hb)
          replace HB := Lib.hid (HB.out.trans (hb.mono HB.out.size))
          clear hb
          refine (st_bound HC.out hlk.out (by omega) (by omega)).mono ?_
          rintro e V ⟨rfl, hb⟩
          replace HC := Lib.hid (HC.out.bel hb)
          replace HB := Lib.hid (HB.out.trans (hb.mono HB.out.size))
          clear hb
          clear HO
          have hbd := HC.out.bd
          rw [hla.out] at hbd
          have hw2 : IntKind.u64.wrap ((b : Int) + (m2 : Int)) = ((b + m2 : Nat) : Int) := by rw [← Int.natCast_add]; exact IntWalk.u64_in _ (by omega)
          have dwh : decide ((700 : Int) < (b2 : Int)) = false := decide_eq_false (by omega)
          rcases HR.out with ⟨rfl, hbe⟩ | ⟨hf, rfl, rfl, hfull⟩
          · subst hbe
            clear HR
            go_wp2_with fail
            refine (st_whole HC.out hlk.out 700 hla.out).mono ?_
            rintro e V ⟨rfl, hb⟩
            replace HC := Lib.hid (HC.out.bel hb)
            replace HB := Lib.hid (HB.out.trans (hb.mono HB.out.size))
            clear hb
            go_wp2_with fail
            go_roundw
            case rel => exact ⟨k + 1, _, _, by omega, by omega, by go_num, HC, HB⟩
            case measure => simp [intOf]; omega
          · have f0 : (f == 0) = false := beq_eq_false_iff_ne.2 hf
            have f1 : (f != 0) = true := by simp [bne, f0]
            clear HR hf
            go_wp2_with fail
            refine (st_left HC.out).mono ?_
            rintro e V' ⟨rfl, nq, hq⟩
            have hb : Below V.heap.size V V' := hq ▸ (Ch.drewN [] V nq).below (Nat.le_refl _) (by simp)
            replace HC := Lib.hid (HC.out.bel hb)
            replace HB := Lib.hid (HB.out.trans (hb.mono HB.out.size))
            clear hb
            clear hq
            go_wp2_with fail
            refine (st_whole HC.out hlk.out 700 hla.out).mono ?_
            rintro e V ⟨rfl, hb⟩
            replace HC := Lib.hid (HC.out.bel hb)
            replace HB := Lib.hid (HB.out.trans (hb.mono HB.out.size))
            clear hb
            by_cases h9 : f = 9
            · have h9t := hfull h9
              subst h9
              have dw9 : decide ((b2 : Int) + (m2 : Int) ≤ 700) = false := decide_eq_false (by omega)
              have dw8 : ((b2 + m2 : Nat) : Int) = (b2 : Int) + (m2 : Int) := by simp
              go_wp2_with fail
              refine (st_whole HC.out hlk.out 700 hla.out).mono ?_
              rintro e V ⟨rfl, hb⟩
              replace HC := Lib.hid (HC.out.bel hb)
              replace HB := Lib.hid (HB.out.trans (hb.mono HB.out.size))
              clear hb
              go_wp2_with fail
              go_roundw
              case rel => exact ⟨k + 1, _, _, by omega, by omega, by go_num, HC, HB⟩
              case measure => simp [intOf]; omega
            · have f9 : (f == 9) = false := beq_eq_false_iff_ne.2 h9
              clear h9 hfull
              go_wp2_with fail
              go_roundw
              case rel => exact ⟨k + 1, _, _, by omega, by omega, by go_num, HC, HB⟩
              case measure => simp [intOf]; omega
      · go_wp2_with fail
        all_goals
          refine (HFX _).out.mono ?_
          rintro e V ⟨rfl, hb⟩
          go_wp2_with fail
          go_ret
          exact ⟨rfl, HB.out.trans (hb.mono HB.out.size)⟩
  · have hsz : (s.extract 0 50).size ≤ 50 := by first | exact h50 | (rw [ByteArray.size_extract]; omega)
    have HNEW := fun W => Lib.hid (snew_any (s.extract 0 50) 4 20 W (by omega) (by omega) (by omega) (by omega))
    have HSZ := Lib.hid hsz
    clear hsz
    go_enter Tryz.func3, Tryz.ntmps3
    go_wp2_with fail
    refine (HNEW _).out.mono ?_
    generalize (s.extract 0 50) = sd at HSZ ⊢
    rintro e V ⟨cb, kb, ctr, pb, mb, rfl, ⟨hcb, hct, hmb⟩, hz, hb0⟩
    have hsz := HSZ.out
    clear HSZ
    have HC := Lib.hid hz
    have HB := Lib.hid hb0
    have hSW : ∀ x ∈ [cb, ctr, mb], w.heap.size ≤ x := by intro x hx; simp at hx; rcases hx with rfl | rfl | rfl <;> assumption
    have HSW := Lib.hid hSW
    clear hSW HNEW hz hb0
    go_wp2_with fail
    refine (HPL _).out.mono ?_
    rintro e V ⟨rfl, hb⟩
    replace HC := Lib.hid (HC.out.bel hb)
    replace HB := Lib.hid (HB.out.trans (hb.mono HB.out.size))
    clear hb
    go_wp2_with fail
    refine (zroot_any HC.out.at_).mono ?_
    rintro e V' ⟨rfl, hq⟩
    rw [hq]
    clear hq V'
    go_wp2_with fail
    refine (zoutput_any HC.out.at_ (by omega) 700 50 u (rootB sd 4)).mono ?_
    rintro e V ⟨rfl, hb⟩
    replace HC := Lib.hid (HC.out.bel hb)
    replace HB := Lib.hid (HB.out.trans (hb.mono HB.out.size))
    clear hb
    go_wp2_with fail
    refine (zattach_ok HC.out (by omega) tx 1 (lkR sd u) (lkR_ok sd u (by omega)) rfl rfl rfl).mono ?_
    rintro e V ⟨rfl, hk, hc⟩
    have hc := hc.mono (S' := [cb, ctr, mb]) (by simp <;> omega)
    have HB := Lib.hid (HB.out.trans (hc.below HB.out.size HSW.out))
    have HC : Hid (Cst V cb kb ctr pb mb sd 4 20 tx 1 (lkR sd u) 0 0 0) := ⟨⟨0, 0, 0, _, hk, by simp [allD, sD, totI], by simp, by omega, Nat.le_of_eq rfl⟩, by simp, by omega⟩
    have hlk := Lib.hid (lkR_ok sd u hu)
    have hla : Hid ((lkR sd u).am = 700) := rfl
    have hun : Hid ((lkR sd u).unit = u) := rfl
    generalize lkR sd u = lk at HC hlk hla hun
    clear hk hc
    go_wp2_with fail
    have HFX := fun W => Lib.hid (HFIX W)
    go_loopw [10] (fun i wr => ∃ k ii b : Nat, k ≤ l.length ∧ k ≤ 12 ∧ i = .int .i64 k ∧ Hid (Cst wr cb kb ctr pb mb sd 4 20 tx 1 lk ii b k) ∧ Hid (Below w.heap.size w wr)) (fun i _ => l.length - (intOf i).toNat)
    case atStart => exact ⟨0, 0, 0, Nat.zero_le _, Nat.zero_le _, rfl, HC, HB⟩
    case round =>
      clear HC HB
      obtain ⟨k, ii, b, hk, hk12, rfl, HC, HB⟩ := hrel
      by_cases hlt : k < l.length ∧ k < 12
      · obtain ⟨hlt, hlt2⟩ := hlt
        obtain ⟨ab, off, rfl, hbB, hc⟩ := (HS.out.below HB.out).at_ hlt
        have hx := HCH.out _ (List.getElem_mem hlt)
        generalize l[k] = x at hc hx
        have hc0 : wr.cell? ⟨ab, off + k, none⟩ = some (.int .u32 x) := by have := hc 0 _ rfl; simpa using this
        have hz := HB.out.size
        have hbb : b ≤ 700 := by have := HC.out.bd; rw [hla.out] at this; exact this
        clear hc
        have q0 := cell_rg hc0
        go_wp2_with fail
        refine wp_region_quiet_below (by kernel_rfl) (by kernel_rfl) ?_
        repeat (first | go_big_quiet_skip | (go_big_quiet_want; first | (fail; go_big_quiet_on) | (go_big_quiet_op; first | go_big_quiet_on | go_big_quiet_call ((first
                  | (go_at_call 14; exact Calls.rg fun W hW => st_bound (HC.out.bel hW) hlk.out (by omega) (by omega))
                  | (go_at_call 15; exact Calls.rg_drew fun W hW => st_left (HC.out.bel hW)))))))
        refine wpQuiet_nil ?_
        intro V hp
        have hb := bel_regrown hp
        clear hp
        have hc1 : V.cell? ⟨ab, off + k, none⟩ = some (.int .u32 x) := (hb.cell (p := ⟨ab, off + k, none⟩) (by show ab < _; omega)).trans hc0
        replace HC := Lib.hid (HC.out.bel hb)
        replace HB := Lib.hid (HB.out.trans (hb.mono HB.out.size))
        clear hb
        clear q0 hc0
        obtain ⟨q, hq⟩ : ∃ q : Nat, (x : Int) / 4 = q := ⟨x / 4, by omega⟩
        obtain ⟨m0, hm0⟩ : ∃ m : Nat, (q : Int) % 200 = m := ⟨q % 200, by omega⟩
        obtain ⟨m1, hm1⟩ : ∃ m : Nat, (q : Int) % 6 = m := ⟨q % 6, by omega⟩
        obtain ⟨m2, hm2⟩ : ∃ m : Nat, (2 : Int) * ((q : Int) % 100) = m := ⟨2 * (q % 100), by omega⟩
        have g0 : m0 < 200 := by omega
        have g1 : m1 < 6 := by omega
        have g2 : m2 < 200 := by omega
        have g2e : Hid (m2 % 2 = 0) := by show m2 % 2 = 0; omega
        have hmu : m1 * u < 2000 := Nat.lt_of_le_of_lt (Nat.mul_le_mul (Nat.le_of_lt_succ g1) (Nat.le_of_lt hu)) (by omega)
        have hw1 : IntKind.u64.wrap ((m1 : Int) * (u : Int)) = ((m1 * u : Nat) : Int) := by rw [← Int.natCast_mul]; exact IntWalk.u64_in _ (by omega)
        have hqq : q < 18446744073709551616 := by omega
        generalize hmm : m1 * u = mu at hmu hw1
        have HMM := Lib.hid hmm
        clear hmm
        go_wp2_with fail
        · refine (pay_st m0 HC.out (by omega) hlk.out (by have := hla.out; omega) (by omega) (by omega) (by omega) (by omega) (by omega) (by omega)).mono ?_
          rintro e V ⟨op, f, i2, b2, rfl, hop, hk, hc, hr⟩
          rw [hla.out] at hr
          have hz2 := HB.out.size
          replace HB := Lib.hid (HB.out.trans (hc.below HB.out.size HSW.out))
          replace HC := Lib.hid (hk.more (z' := k + 1) (by omega))
          have HR := Lib.hid hr
          have HO := Lib.hid hop
          clear hk hr hop hc
          go_wp2_with (first
            | (refine wpList_store_part rfl 45 (.tmp 16) (.tmp 98) rfl V.heap.size 0 (cs := opP 0 ByteArray.empty 0 ByteArray.empty) (Blk.new _ _ _) op op (by rfl) (by rfl) (by rw [HO.out.size]; exact Nat.le_refl 27) (by rw [HO.out.size]; exact infoOp) HO.out.one ((over_full op.toList _ (by rw [Array.length_toList, HO.out.size]; rfl)).trans (Array.toArray_toList ..)) ?_; intro V2 hb2 hc2; have hb := Lib.hid (bel_st hc2); clear hb2 hc2))
          have hb := hb.out
          replace HC := Lib.hid (HC.out.bel hb)
          replace HB := Lib.hid (HB.out.trans (hb.mono HB.out.size))
          clear hb
          refine (st_bound HC.out hlk.out (by omega) (by omega)).mono ?_
          rintro e V ⟨rfl, hb⟩
          replace HC := Lib.hid (HC.out.bel hb)
          replace HB := Lib.hid (HB.out.trans (hb.mono HB.out.size))
          clear hb
          clear HO
          have hbd := HC.out.bd
          rw [hla.out] at hbd
          have hw2 : IntKind.u64.wrap ((b : Int) + (m0 : Int)) = ((b + m0 : Nat) : Int) := by rw [← Int.natCast_add]; exact IntWalk.u64_in _ (by omega)
          have dwh : decide ((700 : Int) < (b2 : Int)) = false := decide_eq_false (by omega)
          rcases HR.out with ⟨rfl, hbe⟩ | ⟨hf, rfl, rfl, hfull⟩
          · subst hbe
            clear HR
            go_wp2_with fail
            refine (st_whole HC.out hlk.out 700 hla.out).mono ?_
            rintro e V ⟨rfl, hb⟩
            replace HC := Lib.hid (HC.out.bel hb)
            replace HB := Lib.hid (HB.out.trans (hb.mono HB.out.size))
            clear hb
            go_wp2_with fail
            go_roundw
            case rel => exact ⟨k + 1, _, _, by omega, by omega, by go_num, HC, HB⟩
            case measure => simp [intOf]; omega
          · have f0 : (f == 0) = false := beq_eq_false_iff_ne.2 hf
            have f1 : (f != 0) = true := by simp [bne, f0]
            clear HR hf
            go_wp2_with fail
            refine (st_left HC.out).mono ?_
            rintro e V' ⟨rfl, nq, hq⟩
            have hb : Below V.heap.size V V' := hq ▸ (Ch.drewN [] V nq).below (Nat.le_refl _) (by simp)
            replace HC := Lib.hid (HC.out.bel hb)
            replace HB := Lib.hid (HB.out.trans (hb.mono HB.out.size))
            clear hb
            clear hq
            go_wp2_with fail
            refine (st_whole HC.out hlk.out 700 hla.out).mono ?_
            rintro e V ⟨rfl, hb⟩
            replace HC := Lib.hid (HC.out.bel hb)
            replace HB := Lib.hid (HB.out.trans (hb.mono HB.out.size))
            clear hb
            by_cases h9 : f = 9
            · have h9t := hfull h9
              subst h9
              have dw9 : decide ((b2 : Int) + (m0 : Int) ≤ 700) = false := decide_eq_false (by omega)
              have dw8 : ((b2 + m0 : Nat) : Int) = (b2 : Int) + (m0 : Int) := by simp
              go_wp2_with fail
              refine (st_whole HC.out hlk.out 700 hla.out).mono ?_
              rintro e V ⟨rfl, hb⟩
              replace HC := Lib.hid (HC.out.bel hb)
              replace HB := Lib.hid (HB.out.trans (hb.mono HB.out.size))
              clear hb
              go_wp2_with fail
              go_roundw
              case rel => exact ⟨k + 1, _, _, by omega, by omega, by go_num, HC, HB⟩
              case measure => simp [intOf]; omega
            · have f9 : (f == 9) = false := beq_eq_false_iff_ne.2 h9
              clear h9 hfull
              go_wp2_with fail
              go_roundw
              case rel => exact ⟨k + 1, _, _, by omega, by omega, by go_num, HC, HB⟩
              case measure => simp [intOf]; omega
        · refine (give_st m1 HC.out (by omega) hlk.out (by have := hla.out; omega) (by omega) (by omega) (by omega) (by omega)).mono ?_
          rintro e V ⟨op, f, i2, b2, rfl, hop, hk, hc, hr⟩
          rw [hun.out, HMM.out, hla.out] at hr
          have hz2 := HB.out.size
          replace HB := Lib.hid (HB.out.trans (hc.below HB.out.size HSW.out))
          replace HC := Lib.hid (hk.more (z' := k + 1) (by omega))
          have HR := Lib.hid hr
          have HO := Lib.hid hop
          clear hk hr hop hc
          go_wp2_with (first
            | (refine wpList_store_part rfl 45 (.tmp 18) (.tmp 113) rfl V.heap.size 0 (cs := opP 0 ByteArray.empty 0 ByteArray.empty) (Blk.new _ _ _) op op (by rfl) (by rfl) (by rw [HO.out.size]; exact Nat.le_refl 27) (by rw [HO.out.size]; exact infoOp) HO.out.one ((over_full op.toList _ (by rw [Array.length_toList, HO.out.size]; rfl)).trans (Array.toArray_toList ..)) ?_; intro V2 hb2 hc2; have hb := Lib.hid (bel_st hc2); clear hb2 hc2))
          have hb := hb.out
          replace HC := Lib.hid (HC.out.bel hb)
          replace HB := Lib.hid (HB.out.trans (hb.mono HB.out.size))
          clear hb
          refine (st_bound HC.out hlk.out (by omega) (by omega)).mono ?_
          rintro e V ⟨rfl, hb⟩
          replace HC := Lib.hid (HC.out.bel hb)
          replace HB := Lib.hid (HB.out.trans (hb.mono HB.out.size))
          clear hb
          clear HO
          have hbd := HC.out.bd
          rw [hla.out] at hbd
          have hw2 : IntKind.u64.wrap ((b : Int) + (mu : Int)) = ((b + mu : Nat) : Int) := by rw [← Int.natCast_add]; exact IntWalk.u64_in _ (by omega)
          have dwh : decide ((700 : Int) < (b2 : Int)) = false := decide_eq_false (by omega)
          rcases HR.out with ⟨rfl, hbe⟩ | ⟨hf, rfl, rfl, hfull⟩
          · subst hbe
            clear HR
            go_wp2_with fail
            refine (st_whole HC.out hlk.out 700 hla.out).mono ?_
            rintro e V ⟨rfl, hb⟩
            replace HC := Lib.hid (HC.out.bel hb)
            replace HB := Lib.hid (HB.out.trans (hb.mono HB.out.size))
            clear hb
            go_wp2_with fail
            go_roundw
            case rel => exact ⟨k + 1, _, _, by omega, by omega, by go_num, HC, HB⟩
            case measure => simp [intOf]; omega
          · have f0 : (f == 0) = false := beq_eq_false_iff_ne.2 hf
            have f1 : (f != 0) = true := by simp [bne, f0]
            clear HR hf
            go_wp2_with fail
            refine (st_left HC.out).mono ?_
            rintro e V' ⟨rfl, nq, hq⟩
            have hb : Below V.heap.size V V' := hq ▸ (Ch.drewN [] V nq).below (Nat.le_refl _) (by simp)
            replace HC := Lib.hid (HC.out.bel hb)
            replace HB := Lib.hid (HB.out.trans (hb.mono HB.out.size))
            clear hb
            clear hq
            go_wp2_with fail
            refine (st_whole HC.out hlk.out 700 hla.out).mono ?_
            rintro e V ⟨rfl, hb⟩
            replace HC := Lib.hid (HC.out.bel hb)
            replace HB := Lib.hid (HB.out.trans (hb.mono HB.out.size))
            clear hb
            by_cases h9 : f = 9
            · have h9t := hfull h9
              subst h9
              have dw9 : decide ((b2 : Int) + (mu : Int) ≤ 700) = false := decide_eq_false (by omega)
              have dw8 : ((b2 + mu : Nat) : Int) = (b2 : Int) + (mu : Int) := by simp
              go_wp2_with fail
              refine (st_whole HC.out hlk.out 700 hla.out).mono ?_
              rintro e V ⟨rfl, hb⟩
              replace HC := Lib.hid (HC.out.bel hb)
              replace HB := Lib.hid (HB.out.trans (hb.mono HB.out.size))
              clear hb
              go_wp2_with fail
              go_roundw
              case rel => exact ⟨k + 1, _, _, by omega, by omega, by go_num, HC, HB⟩
              case measure => simp [intOf]; omega
            · have f9 : (f == 9) = false := beq_eq_false_iff_ne.2 h9
              clear h9 hfull
              go_wp2_with fail
              go_roundw
              case rel => exact ⟨k + 1, _, _, by omega, by omega, by go_num, HC, HB⟩
              case measure => simp [intOf]; omega
        · refine (st_name HC.out (by omega) (by omega)).mono ?_
          rintro e V ⟨rfl, hb⟩
          replace HC := Lib.hid (HC.out.bel hb)
          replace HB := Lib.hid (HB.out.trans (hb.mono HB.out.size))
          clear hb
          go_wp2_with fail
          refine (offer_any (nameB tx 1) q m2 V).mono ?_
          rintro e V ⟨rfl, hb⟩
          replace HC := Lib.hid (HC.out.bel hb)
          replace HB := Lib.hid (HB.out.trans (hb.mono HB.out.size))
          clear hb
          go_wp2_with fail
          refine (take_st (ofO (nameB tx 1) q m2) q HC.out (ofO_ok _ _ _ hqq (by omega) g2e.out) rfl comC_size (by omega) hlk.out (by have := hla.out; omega) (by omega) (by omega) (by omega) (by omega) (by omega) (by omega)).mono ?_
          rintro e V ⟨op, f, i2, b2, rfl, hop, hk, hc, hr⟩
          change Rel f ii b i2 b2 m2 _ at hr
          rw [hla.out] at hr
          have hz2 := HB.out.size
          replace HB := Lib.hid (HB.out.trans (hc.below HB.out.size HSW.out))
          replace HC := Lib.hid (hk.more (z' := k + 1) (by omega))
          have HR := Lib.hid hr
          have HO := Lib.hid hop
          clear hk hr hop hc
          go_wp2_with (first
            | (refine wpList_store_part rfl 45 (.tmp 20) (.tmp 87) rfl V.heap.size 0 (cs := opP 0 ByteArray.empty 0 ByteArray.empty) (Blk.new _ _ _) op op (by rfl) (by rfl) (by rw [HO.out.size]; exact Nat.le_refl 27) (by rw [HO.out.size]; exact infoOp) HO.out.one ((over_full op.toList _ (by rw [Array.length_toList, HO.out.size]; rfl)).trans (Array.toArray_toList ..)) ?_; intro V2 hb2 hc2; have hb := Lib.hid (bel_st hc2); clear hb2 hc2))
          have hb := hb.out
          replace HC := Lib.hid (HC.out.bel hb)
          replace HB := Lib.hid (HB.out.trans (hb.mono HB.out.size))
          clear hb
          refine (st_bound HC.out hlk.out (by omega) (by omega)).mono ?_
          rintro e V ⟨rfl, hb⟩
          replace HC := Lib.hid (HC.out.bel hb)
          replace HB := Lib.hid (HB.out.trans (hb.mono HB.out.size))
          clear hb
          clear HO
          have hbd := HC.out.bd
          rw [hla.out] at hbd
          have hw2 : IntKind.u64.wrap ((b : Int) + (m2 : Int)) = ((b + m2 : Nat) : Int) := by rw [← Int.natCast_add]; exact IntWalk.u64_in _ (by omega)
          have dwh : decide ((700 : Int) < (b2 : Int)) = false := decide_eq_false (by omega)
          rcases HR.out with ⟨rfl, hbe⟩ | ⟨hf, rfl, rfl, hfull⟩
          · subst hbe
            clear HR
            go_wp2_with fail
            refine (st_whole HC.out hlk.out 700 hla.out).mono ?_
            rintro e V ⟨rfl, hb⟩
            replace HC := Lib.hid (HC.out.bel hb)
            replace HB := Lib.hid (HB.out.trans (hb.mono HB.out.size))
            clear hb
            go_wp2_with fail
            go_roundw
            case rel => exact ⟨k + 1, _, _, by omega, by omega, by go_num, HC, HB⟩
            case measure => simp [intOf]; omega
          · have f0 : (f == 0) = false := beq_eq_false_iff_ne.2 hf
            have f1 : (f != 0) = true := by simp [bne, f0]
            clear HR hf
            go_wp2_with fail
            refine (st_left HC.out).mono ?_
            rintro e V' ⟨rfl, nq, hq⟩
            have hb : Below V.heap.size V V' := hq ▸ (Ch.drewN [] V nq).below (Nat.le_refl _) (by simp)
            replace HC := Lib.hid (HC.out.bel hb)
            replace HB := Lib.hid (HB.out.trans (hb.mono HB.out.size))
            clear hb
            clear hq
            go_wp2_with fail
            refine (st_whole HC.out hlk.out 700 hla.out).mono ?_
            rintro e V ⟨rfl, hb⟩
            replace HC := Lib.hid (HC.out.bel hb)
            replace HB := Lib.hid (HB.out.trans (hb.mono HB.out.size))
            clear hb
            by_cases h9 : f = 9
            · have h9t := hfull h9
              subst h9
              have dw9 : decide ((b2 : Int) + (m2 : Int) ≤ 700) = false := decide_eq_false (by omega)
              have dw8 : ((b2 + m2 : Nat) : Int) = (b2 : Int) + (m2 : Int) := by simp
              go_wp2_with fail
              refine (st_whole HC.out hlk.out 700 hla.out).mono ?_
              rintro e V ⟨rfl, hb⟩
              replace HC := Lib.hid (HC.out.bel hb)
              replace HB := Lib.hid (HB.out.trans (hb.mono HB.out.size))
              clear hb
              go_wp2_with fail
              go_roundw
              case rel => exact ⟨k + 1, _, _, by omega, by omega, by go_num, HC, HB⟩
              case measure => simp [intOf]; omega
            · have f9 : (f == 9) = false := beq_eq_false_iff_ne.2 h9
              clear h9 hfull
              go_wp2_with fail
              go_roundw
              case rel => exact ⟨k + 1, _, _, by omega, by omega, by go_num, HC, HB⟩
              case measure => simp [intOf]; omega
      · go_wp2_with fail
        all_goals
          refine (HFX _).out.mono ?_
          rintro e V ⟨rfl, hb⟩
          go_wp2_with fail
          go_ret
          exact ⟨rfl, HB.out.trans (hb.mono HB.out.size)⟩
end Go.Proofs.YtgnlakbmibkjgaaGreat
