/- utxo: Check: what is wrong with a transaction at a height. utxo: Apply: does a transaction. law11's Spend. -/
import Derived.Outline
import Derived.Laws.EntriesVeiled
import Derived.Deep.RegionHeld3
import Derived.Laws.OwnMore
import Derived.Deep.AppendLies
import Derived.Test.YtjcinncphffgaaaGreatMiG30
import Derived.Test.YtjcinncphffgaaaGreatMiG31
import Derived.Test.YtjcinncphffgaaaGreatMiG33
import Derived.Test.YtjcinncphffgaaaGreatMiG34
import Derived.Test.YtjcinncphffgaaaGreatMiLotD
import Derived.Test.YtjcinncphffgaaaGreatMiMerk
import Derived.Test.YtjcinncphffgaaaGreatMiSdkA
set_option linter.unusedVariables false
set_option linter.unusedSimpArgs false
namespace Go.Proofs.YtjcinncphffgaaaGreat
section
open Go.RowKit Go.Maps
def fnsC (g : Nat) : Array Value := #[.func (Fn.func 107) #[.pointer (some ⟨g, 0, none⟩)] #[], .func (Fn.func 108) #[.pointer (some ⟨g, 0, none⟩)] #[]]
set_option maxRecDepth 100000 in
set_option maxHeartbeats 4000000 in
theorem check_any (sb b : Nat) (T : List En) (t : Txn) (h : Int) (w : World) (hS : SetAt w sb b T) (hm : t.mem w) (hT : TOk T) (ht : TxOk t) :
  Calls Tryz.prog 36 #[.pointer (some ⟨sb, 0, none⟩), .agg t.cs, .int .i64 h] w fun e w' => e = .returned (.int .i64 (checkE T t h)) ∧ Below w.heap.size w w' := by
 have HS := Lib.hid hS
 have HMM := Lib.hid hm
 have HTO := Lib.hid hT
 have HTX := Lib.hid ht
 have HFD := fun W (hb : Below w.heap.size w W) => Lib.hid (found_any sb b T t h W (hS.bel hb) (hm.bel hb) ht.ins ht.outs ht.pf.len ht.out)
 have HSO := Lib.hid hm.outs
 have HX : Hid (Blk (w.alloc (.cells t.cs 53)) w.heap.size 53 t.cs) := Lib.hid (Blk.new _ _ _)
 have HB : Hid (Below w.heap.size w (w.alloc (.cells t.cs 53))) := Lib.hid ((Below.refl _ _).alloc (Nat.le_refl _) _)
 obtain ⟨L, hL⟩ : ∃ L, L = spentT T t := ⟨_, rfl⟩
 obtain ⟨core, hcore⟩ : ∃ core, core = coreX t := ⟨_, rfl⟩
 have hcz := corex_size t
 rw [← hcore] at hcz
 have HCK : Hid (checkE T t h = (if foundE T t ≠ 0 then foundE T t else if firstE (mayL L t core h) ≠ 0 then firstE (mayL L t core h) else if sumsE L t.outs ≠ 0 then sumsE L t.outs
  else if claimsE (L.headD zEn) t (totV (topsI L)).toNat ≠ 0 then claimsE (L.headD zEn) t (totV (topsI L)).toNat else firstE (t.outs.map fun o => makesE T o h) : Int)) := Lib.hid (by rw [hL, hcore]; rfl)
 rw [← hL, ← hcore] at HFD
 generalize checkE T t h = ck at HCK ⊢
 have HFT := Lib.hid (fun (q : foundE T t = 0) => found_t q)
 have HLE := Lib.hid hL
 generalize foundE T t = fe at HFD HCK HFT
 clear hS hm hT ht hL hcore
 go_enter Tryz.func36, Tryz.ntmps36
 go_wp2_with (refine wpList_load_blk rfl 53 (.tmp 4) rfl w.heap.size 0 6 HX.out t.cs (by rfl) (txn_ext t) Tryz.underlying53 infoTx (Nat.le_refl 6) ?_)
 refine (HFD _ HB.out).out.mono ?_
 rintro e w1 ⟨hb, hcase⟩
 have hz0 := HB.out.size
 have hz1 := hb.size
 have hxl : w.heap.size < (w.alloc (.cells t.cs 53)).heap.size := HX.out.lt
 replace HX := Lib.hid (HX.out.bel hb)
 replace HB := Lib.hid (HB.out.trans (Below.mono hb HB.out.size))
 clear hb HFD
 rcases hcase with ⟨hne, rfl⟩ | ⟨rfl, g, hgl, hsp, rfl⟩
 ·have d1 : (fe != 0) = true := by simp [bne, beq_eq_false_iff_ne.2 hne]
  obtain rfl : ck = fe := by rw [HCK.out, if_pos hne]
  clear hne
  go_wp2_with fail
  go_ret
  exact ⟨rfl, HB.out⟩
 have HF := Lib.hid (HFT.out rfl)
 have HSP := Lib.hid hsp
 replace HCK : Hid (ck = (if firstE (mayL L t core h) ≠ 0 then firstE (mayL L t core h) else if sumsE L t.outs ≠ 0 then sumsE L t.outs
  else if claimsE (L.headD zEn) t (totV (topsI L)).toNat ≠ 0 then claimsE (L.headD zEn) t (totV (topsI L)).toNat else firstE (t.outs.map fun o => makesE T o h) : Int)) := Lib.hid (by rw [HCK.out, if_neg (by simp)])
 have HLL : Hid (L.length = t.ins.length) := Lib.hid (by rw [HLE.out]; exact spent_len T t)
 have HLM : Hid (∀ x ∈ L, x ∈ T) := Lib.hid (by rw [HLE.out]; exact spent_mem HF.out.has)
 have hn1 := HF.out.right.n1
 have hn2 := HF.out.right.n2
 have hgw : Hid (w.heap.size < g) := Lib.hid (by omega)
 clear hsp HFT hgl hz0 hz1 hxl
 obtain ⟨TA, hTA⟩ : ∃ TA, t.A = TA := ⟨_, rfl⟩
 have HTA := Lib.hid hTA
 have c0 : w1.cell? ⟨w.heap.size, 0, none⟩ = some (.slice TA t.ins.length t.c) := by rw [← hTA]; exact HX.out.cell 0
 clear hTA
 go_wp2_with fail
 go_loopw [30] (fun i wr => ∃ k : Nat, k ≤ t.ins.length ∧ i = .int .i64 k ∧ Hid (∀ j (hj : j < (mayL L t core h).length), j < k → (mayL L t core h)[j] = 0) ∧ Hid (Below w1.heap.size w1 wr)) (fun i _ => t.ins.length - (intOf i).toNat)
 case atStart => exact ⟨0, Nat.zero_le _, rfl, Lib.hid (fun j hj q => absurd q (Nat.not_lt_zero j)), Lib.hid (Below.refl _ _)⟩
 case round =>
  clear c0
  obtain ⟨k, hk, rfl, HA, HB1⟩ := hrel
  by_cases hlt : k < t.ins.length
  ·have d0 : decide (k < t.ins.length) = true := decide_eq_true hlt
   have hlL : k < L.length := by rw [HLL.out]; exact hlt
   have HMY := Lib.hid (may_any g k t core h L 0 wr (HSP.out.bel HB1.out) (HMM.out.bel (HB.out.trans (HB1.out.mono HB.out.size))) hlL hlt (by rw [HLL.out]; omega) (by omega)
    (by have := (HTO.out.tx _ (HLM.out _ (List.getElem_mem (show 0 < L.length by omega)))).1; omega) (by omega) (by have := (inB_parts (HF.out.right.ins _ (List.getElem_mem hlt))).2.2.2.2.2; omega))
   have HAT := Lib.hid (mayL_at L t core h k hlt HLL.out)
   have hml : k < (mayL L t core h).length := by rw [mayL_len]; exact hlt
   have HFA := Lib.hid (firstE_at (mayL L t core h) k hml HA.out)
   rw [HAT.out] at HFA
   generalize mayE (L[0]'(by omega)) k (L[k]'hlL) t.ins[k] core h = me at HMY HAT HFA
   go_wp2_with fail
   refine HMY.out.mono ?_
   rintro e w2 ⟨rfl, hb⟩
   have HB2 := Lib.hid (HB1.out.trans (hb.mono HB1.out.size))
   clear hb HMY
   by_cases hme : me = 0
   ·have HA2 : Hid (∀ j (hj : j < (mayL L t core h).length), j < k + 1 → (mayL L t core h)[j] = 0) := Lib.hid (fun j hj hjk => by
     by_cases q : j < k
     ·exact HA.out j hj q
     ·obtain rfl : j = k := by omega
      rw [HAT.out, hme])
    subst hme
    clear HAT HFA hlL hml
    go_wp2_with fail
    go_roundw
    case rel => exact ⟨k + 1, by omega, by go_num, HA2, HB2⟩
    case measure => simp [intOf]; omega
   ·have d1 : (me != 0) = true := by simp [bne, beq_eq_false_iff_ne.2 hme]
    obtain rfl : ck = me := by rw [HCK.out, HFA.out hme, if_pos hme]
    clear hme HAT HFA hlL hml HA
    go_wp2_with fail
    go_ret
    exact ⟨rfl, HB.out.trans (HB2.out.mono HB.out.size)⟩
  ·have d0 : decide (k < t.ins.length) = false := decide_eq_false hlt
   obtain rfl : k = t.ins.length := by omega
   have HM0 : Hid (firstE (mayL L t core h) = 0) := Lib.hid (firstE_zero _ (fun j hj => HA.out j hj (by rw [mayL_len] at hj; exact hj)))
   have HLK : Hid (path0 t = 2 → LockE (L[0]'(by rw [HLL.out]; omega))) := Lib.hid (fun hp => by
    have h0 : 0 < t.ins.length := by omega
    have hm0 := mayL_at L t core h 0 h0 HLL.out
    rw [HA.out 0 (by rw [mayL_len]; exact h0) h0] at hm0
    have hmem := HLM.out _ (List.getElem_mem (show 0 < L.length by rw [HLL.out]; omega))
    refine lock_e (HTO.out.fits _ hmem) (HTO.out.unit _ hmem) (may_lock (y := t.ins[0]) ?_ hm0.symm)
    rw [← hp]; unfold path0; rw [List.headD_eq_head?_getD, List.head?_eq_getElem?, List.getElem?_eq_getElem h0]; rfl)
   replace HCK : Hid (ck = (if sumsE L t.outs ≠ 0 then sumsE L t.outs
    else if claimsE (L[0]'(by rw [HLL.out]; omega)) t (totV (topsI L)).toNat ≠ 0 then claimsE (L[0]'(by rw [HLL.out]; omega)) t (totV (topsI L)).toNat else firstE (t.outs.map fun o => makesE T o h) : Int)) := Lib.hid (by
     rw [HCK.out, HM0.out, if_neg (by simp), List.headD_eq_head?_getD, List.head?_eq_getElem?, List.getElem?_eq_getElem (show 0 < L.length by rw [HLL.out]; omega)]; rfl)
   have HSQ := Lib.hid (HSP.out.bel HB1.out)
   replace HX := Lib.hid (HX.out.bel HB1.out)
   replace HB := Lib.hid (HB.out.trans (HB1.out.mono HB.out.size))
   have hmf : ∀ (fn : Fn) (first cap : Array Value) (w : World), (Instr.makeFunc fn first cap).run Tryz.prog w = .ok (.func fn first cap) w := fun _ _ _ _ => rfl
   clear HA HM0 HB1 HSP
   go_wp2_with fail
   refine wp_gen fun X hX => ?_
   have hX' : X = wr.alloc (.cells (fnsC g) 205) := hX
   have HN : Hid (Blk X wr.heap.size 205 (fnsC g)) := Lib.hid (by rw [hX']; exact Blk.new _ _ _)
   have hb : Below wr.heap.size wr X := by rw [hX']; exact (Below.refl _ _).alloc (Nat.le_refl _) _
   have HNG : Hid (g < wr.heap.size) := Lib.hid HSQ.out.lt
   replace HSQ := Lib.hid (HSQ.out.bel hb)
   replace HX := Lib.hid (HX.out.bel hb)
   replace HB := Lib.hid (HB.out.trans (hb.mono HB.out.size))
   clear hX hX' hb d0 hk
   generalize wr.heap.size = N at HN HNG ⊢
   obtain ⟨tn, htn⟩ : ∃ tn : Nat, (totV (topsI L)).toNat = tn := ⟨_, rfl⟩
   have hth : tn < 18446744073709551616 := by have := totV_nn (topsI_nn L); omega
   rw [htn] at HCK
   have HTN := Lib.hid htn
   clear htn
   go_loopw [46] (fun i wr => ∃ k : Nat, k ≤ 2 ∧ i = .int .i64 k ∧ Hid (Blk wr N 205 (fnsC g)) ∧ Hid (Blk wr w.heap.size 53 t.cs) ∧ Hid (Below w.heap.size w wr) ∧ Hid (SpAt wr g t core h L (if k = 0 then 0 else tn)) ∧ Hid ((1 ≤ k → sumsE L t.outs = 0) ∧ (2 ≤ k → claimsE (L[0]'(by rw [HLL.out]; omega)) t tn = 0))) (fun i _ => 2 - (intOf i).toNat)
   case atStart => exact ⟨0, by omega, rfl, HN, HX, HB, HSQ, Lib.hid ⟨fun q => absurd q (by omega), fun q => absurd q (by omega)⟩⟩
   case round =>
    clear HN HX HB HSQ
    obtain ⟨k, hk, rfl, HN, HX, HB, HSQ, HQ⟩ := hrel
    have hMM := HMM.out.bel HB.out
    obtain rfl | rfl | rfl : k = 0 ∨ k = 1 ∨ k = 2 := by omega
    ·have HSM := Lib.hid (sums_any g t core h L 0 wr HSQ.out hMM (by rw [HLL.out]; omega) (by omega) (fun e he => HTO.out.am e (HLM.out e he)) (fun o ho => (HTX.out.out o ho).1))
     rw [HTN.out] at HSM
     have f0 : wr.cell? ⟨N, 0, none⟩ = some (.func (Fn.func 107) #[.pointer (some ⟨g, 0, none⟩)] #[]) := HN.out.cell 0
     generalize sumsE L t.outs = se at HSM HCK HQ
     clear hMM HQ
     go_wp2_with fail
     refine HSM.out.mono ?_
     rintro e w3 ⟨rfl, hch, hsp⟩
     clear HSM f0
     have hg0 := hgw.out
     replace HN := Lib.hid (HN.out.ch hch (by have := HNG.out; simp; omega))
     replace HX := Lib.hid (HX.out.ch hch (by simp; omega))
     replace HB := Lib.hid (HB.out.trans (hch.below HB.out.size (by simp; omega)))
     clear hch
     by_cases hse : se = 0
     ·replace HSQ := Lib.hid (hsp hse)
      subst hse
      clear hsp hg0
      go_wp2_with fail
      go_roundw
      case rel => exact ⟨1, by omega, by go_num, HN, HX, HB, HSQ, Lib.hid (by constructor <;> intro q <;> first | trivial | rfl | omega)⟩
      case measure => simp [intOf]
     ·have d1 : (se != 0) = true := by simp [bne, beq_eq_false_iff_ne.2 hse]
      obtain rfl : ck = se := by rw [HCK.out, if_pos hse]
      clear hse hsp hg0
      go_wp2_with fail
      go_ret
      exact ⟨rfl, HB.out⟩
    ·have HS0 := HQ.out.1 (by omega)
     have HCM := Lib.hid (claims_any g t core h L tn wr HSQ.out hMM (by omega) (by rw [HLL.out]; omega) (by rw [HLL.out]; omega) (by omega) (by omega) (by have := (HTO.out.tx _ (HLM.out _ (List.getElem_mem (show 0 < L.length by rw [HLL.out]; omega)))).1; omega) HLK.out HTX.out.pf hth)
     have f1 : wr.cell? ⟨N, 1, none⟩ = some (.func (Fn.func 108) #[.pointer (some ⟨g, 0, none⟩)] #[]) := HN.out.cell 1
     replace HCK : Hid (ck = (if claimsE (L[0]'(by rw [HLL.out]; omega)) t tn ≠ 0 then claimsE (L[0]'(by rw [HLL.out]; omega)) t tn else firstE (t.outs.map fun o => makesE T o h) : Int)) := Lib.hid (by rw [HCK.out, HS0, if_neg (by simp)])
     generalize claimsE (L[0]'(by rw [HLL.out]; omega)) t tn = ce at HCM HCK HQ
     clear hMM HQ
     go_wp2_with fail
     refine HCM.out.mono ?_
     rintro e w3 ⟨rfl, hb⟩
     clear HCM f1
     replace HN := Lib.hid (HN.out.bel hb)
     replace HX := Lib.hid (HX.out.bel hb)
     replace HSQ := Lib.hid (HSQ.out.bel hb)
     replace HB := Lib.hid (HB.out.trans (hb.mono HB.out.size))
     clear hb
     by_cases hse : ce = 0
     ·have HS1 := Lib.hid HS0
      subst hse
      clear HS0
      go_wp2_with fail
      go_roundw
      case rel => exact ⟨2, by omega, by go_num, HN, HX, HB, HSQ, Lib.hid (by constructor <;> intro q <;> first | trivial | exact HS1.out | rfl)⟩
      case measure => simp [intOf]
     ·have d1 : (ce != 0) = true := by simp [bne, beq_eq_false_iff_ne.2 hse]
      obtain rfl : ck = ce := by rw [HCK.out, if_pos hse]
      clear hse HS0
      go_wp2_with fail
      go_ret
      exact ⟨rfl, HB.out⟩
    ·replace HCK : Hid (ck = firstE (t.outs.map fun o => makesE T o h)) := Lib.hid (by rw [HCK.out, HQ.out.1 (by omega), HQ.out.2 (by omega)]; simp)
     obtain ⟨TB, hTB⟩ : ∃ TB, t.B = TB := ⟨_, rfl⟩
     rw [hTB] at HSO
     have c1 : wr.cell? ⟨w.heap.size, 1, none⟩ = some (.slice TB t.outs.length t.d) := by rw [← hTB]; exact HX.out.cell 1
     clear hMM HQ HSQ HN HX hTB HLK HTN hth HLE HLM
     go_wp2_with fail
     simp only [show ((2 : Nat) : Int) = 2 from rfl]
     go_loopw [59] (fun i wr => ∃ k : Nat, k ≤ t.outs.length ∧ i = .int .i64 k ∧ Hid (∀ j (hj : j < (t.outs.map fun o => makesE T o h).length), j < k → (t.outs.map fun o => makesE T o h)[j] = 0) ∧ Hid (Below w.heap.size w wr)) (fun i _ => t.outs.length - (intOf i).toNat)
     case atStart => exact ⟨0, Nat.zero_le _, rfl, Lib.hid (fun j hj q => absurd q (Nat.not_lt_zero j)), HB⟩
     case round =>
      clear HB c1
      obtain ⟨k, hk, rfl, HA, HB⟩ := hrel
      by_cases hlt : k < t.outs.length
      ·have d0 : decide (k < t.outs.length) = true := decide_eq_true hlt
       obtain ⟨ab, off, hAe, hbB, hc⟩ := (HSO.out.below HB.out).at_ hlt
       subst hAe
       have HFA : Hid (makesE T t.outs[k] h ≠ 0 → firstE (t.outs.map fun o => makesE T o h) = makesE T t.outs[k] h) := Lib.hid (fun q => by
        have := firstE_at (t.outs.map fun o => makesE T o h) k (by simpa using hlt) HA.out (by rw [List.getElem_map]; exact q)
        rw [this, List.getElem_map])
       have HA2 : Hid (makesE T t.outs[k] h = 0 → ∀ j (hj : j < (t.outs.map fun o => makesE T o h).length), j < k + 1 → (t.outs.map fun o => makesE T o h)[j] = 0) := Lib.hid (fun q j hj hjk => by
        by_cases r : j < k
        ·exact HA.out j hj r
        ·obtain rfl : j = k := by omega
         rw [List.getElem_map]; exact q)
       have HMK := fun W (hb : Below w.heap.size w W) => Lib.hid (makes_any sb b T t.outs[k] h W (HS.out.bel hb) HTO.out.len HTO.out.pos)
       generalize t.outs[k] = x at hc HFA HA2 HMK
       generalize makesE T x h = me at HFA HA2 HMK
       have HCC := Lib.hid hc
       clear hc HA
       go_wp2_with (first
        | (refine wpList_load_ou rfl (.tmp 61) rfl ab (off + k * 9) (by rfl) x HCC.out ?_)
        | (refine wpList_store_part rfl 81 (.tmp 15) (.tmp 62) rfl wr.heap.size 0 (cs := zOu.cs) (Blk.new _ _ _) x.cs x.cs (by rfl) (by rfl) (Nat.le_refl 9) infoOu9 (oucs_one x) (ouv_over x rfl) ?_; intro W1 hb1 hc1; have hb := bel_st' hc1; have H15 := Lib.hid hb1; replace HB := Lib.hid (HB.out.trans (Below.mono hb HB.out.size)); clear hb1 hc1 hb)
        | (refine wpList_load_blk rfl 81 (.tmp 15) rfl wr.heap.size 0 9 H15.out x.cs (by rfl) (ouv_ext x) Tryz.underlying81 infoOu9 (Nat.le_refl 9) ?_))
       refine (HMK _ HB.out).out.mono ?_
       rintro e w4 ⟨rfl, hb⟩
       replace HB := Lib.hid (HB.out.trans (Below.mono hb HB.out.size))
       clear hb HMK H15
       by_cases hme : me = 0
       ·have HA3 := Lib.hid (HA2.out hme)
        subst hme
        clear HA2 HFA
        go_wp2_with fail
        go_roundw
        case rel => trace_state; exact ⟨k + 1, by omega, by go_num, HA3, HB⟩
        case measure => simp [intOf]; omega
       ·have d1 : (me != 0) = true := by simp [bne, beq_eq_false_iff_ne.2 hme]
        obtain rfl : ck = me := by rw [HCK.out, HFA.out hme]
        clear hme HA2 HFA
        go_wp2_with fail
        go_ret
        exact ⟨rfl, HB.out⟩
      ·have d0 : decide (k < t.outs.length) = false := decide_eq_false hlt
       obtain rfl : k = t.outs.length := by omega
       obtain rfl : ck = 0 := by rw [HCK.out]; exact firstE_zero _ (fun j hj => HA.out j hj (by simpa using hj))
       go_wp2_with fail
       go_ret
       exact ⟨rfl, HB.out⟩
end
section
open Go.RowKit Go.Maps
end
section
open Go.RowKit Go.Maps Go.Sort
/-- inputs that spend all of some outputs -/
def insOf (L : List En) (path : Int) (sig : ByteArray) : List Inp := L.map fun e => ⟨e.tx, e.out, path, sig⟩
def spendT (A : Option Addr) (c : Nat) (L : List En) (path : Int) (B : Option Addr) (outs : List Ou) (d : Nat) (p : Pf) (sig : ByteArray) : Txn := ⟨A, insOf L path sig, c, B, outs, d, p⟩
theorem insOf_len (L : List En) (path : Int) (sig : ByteArray) : (insOf L path sig).length = L.length := by simp [insOf]
theorem insOf_snoc (L : List En) (path : Int) (sig : ByteArray) (k : Nat) (h : k < L.length) : (insOf (L.take (k + 1)) path sig).flatMap Inp.cl = (insOf (L.take k) path sig).flatMap Inp.cl ++ (Inp.mk L[k].tx L[k].out path sig).cl := by
 unfold insOf
 rw [List.take_succ_eq_append_getElem h, List.map_append, List.flatMap_append]; simp
theorem sl_key {α : Type} {w w' : World} {k cb j0 : Nat} {enc : α → List Value} {A : Option Addr} {l : List α} {a b : Int} {Bd : Nat} (hBd : Bd ≤ w.heap.size) (h : Sl w Bd k enc A l) (hcb : Blk w cb 160 #[.int .i64 a, .int .i64 b]) (hc : Ch [cb] w w')
  (hs : ∀ x, ∃ s, (enc x)[j0]? = some (.string s)) : Sl w' Bd k enc A l := fun hn => by
 obtain ⟨bk, off, hA, hlt, hcells⟩ := h hn
 have hbk : bk ≠ cb := by
  rintro rfl
  obtain ⟨x, r, rfl⟩ : ∃ x r, l = x :: r := by
   cases l with
   | nil => exact absurd rfl hn
   | cons x r => exact ⟨x, r, rfl⟩
  obtain ⟨s, hj⟩ := hs x
  have h0 := hcells 0 x rfl j0 _ hj
  rw [hcb.cell] at h0
  match off + 0 * k + j0, h0 with
  | 0, h0 => simp at h0
  | 1, h0 => simp at h0
  | n + 2, h0 => simp at h0
 refine ⟨bk, off, hA, hlt, fun i x hx j u hu => ?_⟩
 have e := hc.block bk (Nat.lt_of_lt_of_le hlt hBd) (by simpa using hbk)
 rw [← hcells i x hx j u hu]
 unfold World.cell?
 rw [e]
theorem txn_over (t : Txn) {cs : Array Value} (h : cs.size = 6) : over cs 0 t.cs.toList = t.cs := (over_full t.cs.toList cs (by rw [h]; rfl)).trans (Array.toArray_toList ..)
end
end Go.Proofs.YtjcinncphffgaaaGreat
