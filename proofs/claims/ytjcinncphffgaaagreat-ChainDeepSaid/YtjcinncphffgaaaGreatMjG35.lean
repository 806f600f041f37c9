/- utxo: Check: what is wrong with a transaction at a height. utxo: Apply: does a transaction. law11's Spend. -/
import Derived.Outline
import Derived.Laws.EntriesVeiled
import Derived.Deep.RegionHeld3
import Derived.Laws.OwnMore
import Derived.Deep.AppendLies
import Derived.Test.YtjcinncphffgaaaGreatMjG24
import Derived.Test.YtjcinncphffgaaaGreatMjG30
import Derived.Test.YtjcinncphffgaaaGreatMjG31
import Derived.Test.YtjcinncphffgaaaGreatMjG33
import Derived.Test.YtjcinncphffgaaaGreatMjG34
import Derived.Test.YtjcinncphffgaaaGreatMjMerk
import Derived.Test.YtjcinncphffgaaaGreatMjSdkB
set_option linter.unusedVariables false
set_option linter.unusedSimpArgs false
namespace Go.Proofs.YtjcinncphffgaaaGreat
open Go.RowKit Go.Maps
def fnsC (g : Nat) : Array Value := #[.func (Fn.func 107) #[.pointer (some ⟨g, 0, none⟩)] #[], .func (Fn.func 108) #[.pointer (some ⟨g, 0, none⟩)] #[]]
set_option maxRecDepth 100000 in
set_option maxHeartbeats 4000000 in
theorem check_any (sb b : Nat) (T : List En) (t : Txn) (h : Int) (w : World) (hS : SetAt w sb b T) (hm : t.mem w) (hT : TOk T) (ht : TxOk t) :
    Calls Tryz.prog 36 #[.pointer (some ⟨sb, 0, none⟩), .agg t.cs, .int .i64 h] w fun e w' => e = .returned (.int .i64 (checkE T t h)) ∧ Below w.heap.size w w' := by
  have HS := Lib.hid hS
  have HMM := Lib.hid hm
  have HTO := Lib.hid hT
  have HTX := Lib.hid ht
  have HFD := fun W (hb : Below w.heap.size w W) => Lib.hid (found_any sb b T t h W (hS.bel hb) (hm.bel hb) ht.ins ht.outs ht.pf.len ht.out)
  have HSO := Lib.hid hm.outs
  have HX : Hid (Blk (w.alloc (.cells t.cs 53)) w.heap.size 53 t.cs) := Lib.hid (Blk.new _ _ _)
  have HB : Hid (Below w.heap.size w (w.alloc (.cells t.cs 53))) := Lib.hid ((Below.refl _ _).alloc (Nat.le_refl _) _)
  obtain ⟨L, hL⟩ : ∃ L, L = spentT T t := ⟨_, rfl⟩
  obtain ⟨core, hcore⟩ : ∃ core, core = coreX t := ⟨_, rfl⟩
  have hcz := corex_size t
  rw [← hcore] at hcz
  have HCK : Hid (checkE T t h = (if foundE T t ≠ 0 then foundE T t else if firstE (mayL L t core h) ≠ 0 then firstE (mayL L t core h) else if sumsE L t.outs ≠ 0 then sumsE L t.outs
    else if claimsE (L.headD zEn) t (totV (topsI L)).toNat ≠ 0 then claimsE (L.headD zEn) t (totV (topsI L)).toNat else firstE (t.outs.map fun o => makesE T o h) : Int)) := Lib.hid (by rw [hL, hcore]; rfl)
  rw [← hL, ← hcore] at HFD
  generalize checkE T t h = ck at HCK ⊢
  have HFT := Lib.hid (fun (q : foundE T t = 0) => found_t q)
  have HLE := Lib.hid hL
  generalize foundE T t = fe at HFD HCK HFT
  clear hS hm hT ht hL hcore
  go_enter Tryz.func36, Tryz.ntmps36
  go_wp2_with (refine wpList_load_blk rfl 53 (.tmp 4) rfl w.heap.size 0 6 HX.out t.cs (by rfl) (txn_ext t) Tryz.underlying53 infoTx (Nat.le_refl 6) ?_)
  refine (HFD _ HB.out).out.mono ?_
  rintro e w1 ⟨hb, hcase⟩
  have hz0 := HB.out.size
  have hz1 := hb.size
  have hxl : w.heap.size < (w.alloc (.cells t.cs 53)).heap.size := HX.out.lt
  replace HX := Lib.hid (HX.out.bel hb)
  replace HB := Lib.hid (HB.out.trans (Below.mono hb HB.out.size))
  clear hb HFD
  rcases hcase with ⟨hne, rfl⟩ | ⟨rfl, g, hgl, hsp, rfl⟩
  · have d1 : (fe != 0) = true := by simp [bne, beq_eq_false_iff_ne.2 hne]
    obtain rfl : ck = fe := by rw [HCK.out, if_pos hne]
    clear hne
    go_wp2_with fail
    go_ret
    exact ⟨rfl, HB.out⟩
  have HF := Lib.hid (HFT.out rfl)
  have HSP := Lib.hid hsp
  replace HCK : Hid (ck = (if firstE (mayL L t core h) ≠ 0 then firstE (mayL L t core h) else if sumsE L t.outs ≠ 0 then sumsE L t.outs
    else if claimsE (L.headD zEn) t (totV (topsI L)).toNat ≠ 0 then claimsE (L.headD zEn) t (totV (topsI L)).toNat else firstE (t.outs.map fun o => makesE T o h) : Int)) := Lib.hid (by rw [HCK.out, if_neg (by simp)])
  have HLL : Hid (L.length = t.ins.length) := Lib.hid (by rw [HLE.out]; exact spent_len T t)
  have HLM : Hid (∀ x ∈ L, x ∈ T) := Lib.hid (by rw [HLE.out]; exact spent_mem HF.out.has)
  have hn1 := HF.out.right.n1
  have hn2 := HF.out.right.n2
  have hgw : Hid (w.heap.size < g) := Lib.hid (by omega)
  clear hsp HFT hgl hz0 hz1 hxl
  obtain ⟨TA, hTA⟩ : ∃ TA, t.A = TA := ⟨_, rfl⟩
  have HTA := Lib.hid hTA
  have c0 : w1.cell? ⟨w.heap.size, 0, none⟩ = some (.slice TA t.ins.length t.c) := by rw [← hTA]; exact HX.out.cell 0
  clear hTA
  go_wp2_with fail
  go_loopw [30] (fun i wr => ∃ k : Nat, k ≤ t.ins.length ∧ i = .int .i64 k ∧ Hid (∀ j (hj : j < (mayL L t core h).length), j < k → (mayL L t core h)[j] = 0) ∧ Hid (Below w1.heap.size w1 wr)) (fun i _ => t.ins.length - (intOf i).toNat)
  case atStart => exact ⟨0, Nat.zero_le _, rfl, Lib.hid (fun j hj q => absurd q (Nat.not_lt_zero j)), Lib.hid (Below.refl _ _)⟩
  case round =>
    clear c0
    obtain ⟨k, hk, rfl, HA, HB1⟩ := hrel
    by_cases hlt : k < t.ins.length
    · have d0 : decide (k < t.ins.length) = true := decide_eq_true hlt
      have hlL : k < L.length := by rw [HLL.out]; exact hlt
      have HMY := Lib.hid (may_any g k t core h L 0 wr (HSP.out.bel HB1.out) (HMM.out.bel (HB.out.trans (HB1.out.mono HB.out.size))) hlL hlt (by rw [HLL.out]; omega) (by omega)
        (by have := (HTO.out.tx _ (HLM.out _ (List.getElem_mem (show 0 < L.length by omega)))).1; omega) (by omega) (by have := (inB_parts (HF.out.right.ins _ (List.getElem_mem hlt))).2.2.2.2.2; omega))
      have HAT := Lib.hid (mayL_at L t core h k hlt HLL.out)
      have hml : k < (mayL L t core h).length := by rw [mayL_len]; exact hlt
      have HFA := Lib.hid (firstE_at (mayL L t core h) k hml HA.out)
      rw [HAT.out] at HFA
      generalize mayE (L[0]'(by omega)) k (L[k]'hlL) t.ins[k] core h = me at HMY HAT HFA
      go_wp2_with fail
      refine HMY.out.mono ?_
      rintro e w2 ⟨rfl, hb⟩
      have HB2 := Lib.hid (HB1.out.trans (hb.mono HB1.out.size))
      clear hb HMY
      by_cases hme : me = 0
      · have HA2 : Hid (∀ j (hj : j < (mayL L t core h).length), j < k + 1 → (mayL L t core h)[j] = 0) := Lib.hid (fun j hj hjk => by
          by_cases q : j < k
          · exact HA.out j hj q
          · obtain rfl : j = k := by omega
            rw [HAT.out, hme])
        subst hme
        clear HAT HFA hlL hml
        go_wp2_with fail
        go_roundw
        case rel => exact ⟨k + 1, by omega, by go_num, HA2, HB2⟩
        case measure => simp [intOf]; omega
      · have d1 : (me != 0) = true := by simp [bne, beq_eq_false_iff_ne.2 hme]
        obtain rfl : ck = me := by rw [HCK.out, HFA.out hme, if_pos hme]
        clear hme HAT HFA hlL hml HA
        go_wp2_with fail
        go_ret
        exact ⟨rfl, HB.out.trans (HB2.out.mono HB.out.size)⟩
    · have d0 : decide (k < t.ins.length) = false := decide_eq_false hlt
      obtain rfl : k = t.ins.length := by omega
      have HM0 : Hid (firstE (mayL L t core h) = 0) := Lib.hid (firstE_zero _ (fun j hj => HA.out j hj (by rw [mayL_len] at hj; exact hj)))
      have HLK : Hid (path0 t = 2 → LockE (L[0]'(by rw [HLL.out]; omega))) := Lib.hid (fun hp => by
        have h0 : 0 < t.ins.length := by omega
        have hm0 := mayL_at L t core h 0 h0 HLL.out
        rw [HA.out 0 (by rw [mayL_len]; exact h0) h0] at hm0
        have hmem := HLM.out _ (List.getElem_mem (show 0 < L.length by rw [HLL.out]; omega))
        refine lock_e (HTO.out.fits _ hmem) (HTO.out.unit _ hmem) (may_lock (y := t.ins[0]) ?_ hm0.symm)
        rw [← hp]; unfold path0; rw [List.headD_eq_head?_getD, List.head?_eq_getElem?, List.getElem?_eq_getElem h0]; rfl)
      replace HCK : Hid (ck = (if sumsE L t.outs ≠ 0 then sumsE L t.outs
        else if claimsE (L[0]'(by rw [HLL.out]; omega)) t (totV (topsI L)).toNat ≠ 0 then claimsE (L[0]'(by rw [HLL.out]; omega)) t (totV (topsI L)).toNat else firstE (t.outs.map fun o => makesE T o h) : Int)) := Lib.hid (by
          rw [HCK.out, HM0.out, if_neg (by simp), List.headD_eq_head?_getD, List.head?_eq_getElem?, List.getElem?_eq_getElem (show 0 < L.length by rw [HLL.out]; omega)]; rfl)
      have HSQ := Lib.hid (HSP.out.bel HB1.out)
      replace HX := Lib.hid (HX.out.bel HB1.out)
      replace HB := Lib.hid (HB.out.trans (HB1.out.mono HB.out.size))
      have hmf : ∀ (fn : Fn) (first cap : Array Value) (w : World), (Instr.makeFunc fn first cap).run Tryz.prog w = .ok (.func fn first cap) w := fun _ _ _ _ => rfl
      clear HA HM0 HB1 HSP
      go_wp2_with fail
      refine wp_gen fun X hX => ?_
      have hX' : X = wr.alloc (.cells (fnsC g) 205) := hX
      have HN : Hid (Blk X wr.heap.size 205 (fnsC g)) := Lib.hid (by rw [hX']; exact Blk.new _ _ _)
      have hb : Below wr.heap.size wr X := by rw [hX']; exact (Below.refl _ _).alloc (Nat.le_refl _) _
      have HNG : Hid (g < wr.heap.size) := Lib.hid HSQ.out.lt
      replace HSQ := Lib.hid (HSQ.out.bel hb)
      replace HX := Lib.hid (HX.out.bel hb)
      replace HB := Lib.hid (HB.out.trans (hb.mono HB.out.size))
      clear hX hX' hb d0 hk
      generalize wr.heap.size = N at HN HNG ⊢
      obtain ⟨tn, htn⟩ : ∃ tn : Nat, (totV (topsI L)).toNat = tn := ⟨_, rfl⟩
      have hth : tn < 18446744073709551616 := by have := totV_nn (topsI_nn L); omega
      rw [htn] at HCK
      have HTN := Lib.hid htn
      clear htn
      go_loopw [46] (fun i wr => ∃ k : Nat, k ≤ 2 ∧ i = .int .i64 k ∧ Hid (Blk wr N 205 (fnsC g)) ∧ Hid (Blk wr w.heap.size 53 t.cs) ∧ Hid (Below w.heap.size w wr) ∧ Hid (SpAt wr g t core h L (if k = 0 then 0 else tn)) ∧ Hid ((1 ≤ k → sumsE L t.outs = 0) ∧ (2 ≤ k → claimsE (L[0]'(by rw [HLL.out]; omega)) t tn = 0))) (fun i _ => 2 - (intOf i).toNat)
      case atStart => exact ⟨0, by omega, rfl, HN, HX, HB, HSQ, Lib.hid ⟨fun q => absurd q (by omega), fun q => absurd q (by omega)⟩⟩
      case round =>
        clear HN HX HB HSQ
        obtain ⟨k, hk, rfl, HN, HX, HB, HSQ, HQ⟩ := hrel
        have hMM := HMM.out.bel HB.out
        obtain rfl | rfl | rfl : k = 0 ∨ k = 1 ∨ k = 2 := by omega
        · have HSM := Lib.hid (sums_any g t core h L 0 wr HSQ.out hMM (by rw [HLL.out]; omega) (by omega) (fun e he => HTO.out.am e (HLM.out e he)) (fun o ho => (HTX.out.out o ho).1))
          rw [HTN.out] at HSM
          have f0 : wr.cell? ⟨N, 0, none⟩ = some (.func (Fn.func 107) #[.pointer (some ⟨g, 0, none⟩)] #[]) := HN.out.cell 0
          generalize sumsE L t.outs = se at HSM HCK HQ
          clear hMM HQ
          go_wp2_with fail
          refine HSM.out.mono ?_
          rintro e w3 ⟨rfl, hch, hsp⟩
          clear HSM f0
          have hg0 := hgw.out
          replace HN := Lib.hid (HN.out.ch hch (by have := HNG.out; simp; omega))
          replace HX := Lib.hid (HX.out.ch hch (by simp; omega))
          replace HB := Lib.hid (HB.out.trans (hch.below HB.out.size (by simp; omega)))
          clear hch
          by_cases hse : se = 0
          · replace HSQ := Lib.hid (hsp hse)
            subst hse
            clear hsp hg0
            go_wp2_with fail
            go_roundw
            case rel => exact ⟨1, by omega, by go_num, HN, HX, HB, HSQ, Lib.hid (by constructor <;> intro q <;> first | trivial | rfl | omega)⟩
            case measure => simp [intOf]
          · have d1 : (se != 0) = true := by simp [bne, beq_eq_false_iff_ne.2 hse]
            obtain rfl : ck = se := by rw [HCK.out, if_pos hse]
            clear hse hsp hg0
            go_wp2_with fail
            go_ret
            exact ⟨rfl, HB.out⟩
        · have HS0 := HQ.out.1 (by omega)
          have HCM := Lib.hid (claims_any g t core h L tn wr HSQ.out hMM (by omega) (by rw [HLL.out]; omega) (by rw [HLL.out]; omega) (by omega) (by omega) (by have := (HTO.out.tx _ (HLM.out _ (List.getElem_mem (show 0 < L.length by rw [HLL.out]; omega)))).1; omega) HLK.out HTX.out.pf hth)
          have f1 : wr.cell? ⟨N, 1, none⟩ = some (.func (Fn.func 108) #[.pointer (some ⟨g, 0, none⟩)] #[]) := HN.out.cell 1
          replace HCK : Hid (ck = (if claimsE (L[0]'(by rw [HLL.out]; omega)) t tn ≠ 0 then claimsE (L[0]'(by rw [HLL.out]; omega)) t tn else firstE (t.outs.map fun o => makesE T o h) : Int)) := Lib.hid (by rw [HCK.out, HS0, if_neg (by simp)])
          generalize claimsE (L[0]'(by rw [HLL.out]; omega)) t tn = ce at HCM HCK HQ
          clear hMM HQ
          go_wp2_with fail
          refine HCM.out.mono ?_
          rintro e w3 ⟨rfl, hb⟩
          clear HCM f1
          replace HN := Lib.hid (HN.out.bel hb)
          replace HX := Lib.hid (HX.out.bel hb)
          replace HSQ := Lib.hid (HSQ.out.bel hb)
          replace HB := Lib.hid (HB.out.trans (hb.mono HB.out.size))
          clear hb
          by_cases hse : ce = 0
          · have HS1 := Lib.hid HS0
            subst hse
            clear HS0
            go_wp2_with fail
            go_roundw
            case rel => exact ⟨2, by omega, by go_num, HN, HX, HB, HSQ, Lib.hid (by constructor <;> intro q <;> first | trivial | exact HS1.out | rfl)⟩
            case measure => simp [intOf]
          · have d1 : (ce != 0) = true := by simp [bne, beq_eq_false_iff_ne.2 hse]
            obtain rfl : ck = ce := by rw [HCK.out, if_pos hse]
            clear hse HS0
            go_wp2_with fail
            go_ret
            exact ⟨rfl, HB.out⟩
        · replace HCK : Hid (ck = firstE (t.outs.map fun o => makesE T o h)) := Lib.hid (by rw [HCK.out, HQ.out.1 (by omega), HQ.out.2 (by omega)]; simp)
          obtain ⟨TB, hTB⟩ : ∃ TB, t.B = TB := ⟨_, rfl⟩
          rw [hTB] at HSO
          have c1 : wr.cell? ⟨w.heap.size, 1, none⟩ = some (.slice TB t.outs.length t.d) := by rw [← hTB]; exact HX.out.cell 1
          clear hMM HQ HSQ HN HX hTB HLK HTN hth HLE HLM
          go_wp2_with fail
          simp only [show ((2 : Nat) : Int) = 2 from rfl]
          go_loopw [59] (fun i wr => ∃ k : Nat, k ≤ t.outs.length ∧ i = .int .i64 k ∧ Hid (∀ j (hj : j < (t.outs.map fun o => makesE T o h).length), j < k → (t.outs.map fun o => makesE T o h)[j] = 0) ∧ Hid (Below w.heap.size w wr)) (fun i _ => t.outs.length - (intOf i).toNat)
          case atStart => exact ⟨0, Nat.zero_le _, rfl, Lib.hid (fun j hj q => absurd q (Nat.not_lt_zero j)), HB⟩
          case round =>
            clear HB c1
            obtain ⟨k, hk, rfl, HA, HB⟩ := hrel
            by_cases hlt : k < t.outs.length
            · have d0 : decide (k < t.outs.length) = true := decide_eq_true hlt
              obtain ⟨ab, off, hAe, hbB, hc⟩ := (HSO.out.below HB.out).at_ hlt
              subst hAe
              have HFA : Hid (makesE T t.outs[k] h ≠ 0 → firstE (t.outs.map fun o => makesE T o h) = makesE T t.outs[k] h) := Lib.hid (fun q => by
                have := firstE_at (t.outs.map fun o => makesE T o h) k (by simpa using hlt) HA.out (by rw [List.getElem_map]; exact q)
                rw [this, List.getElem_map])
              have HA2 : Hid (makesE T t.outs[k] h = 0 → ∀ j (hj : j < (t.outs.map fun o => makesE T o h).length), j < k + 1 → (t.outs.map fun o => makesE T o h)[j] = 0) := Lib.hid (fun q j hj hjk => by
                by_cases r : j < k
                · exact HA.out j hj r
                · obtain rfl : j = k := by omega
                  rw [List.getElem_map]; exact q)
              have HMK := fun W (hb : Below w.heap.size w W) => Lib.hid (makes_any sb b T t.outs[k] h W (HS.out.bel hb) HTO.out.len HTO.out.pos)
              generalize t.outs[k] = x at hc HFA HA2 HMK
              generalize makesE T x h = me at HFA HA2 HMK
              have HCC := Lib.hid hc
              clear hc HA
              go_wp2_with (first
                | (refine wpList_load_ou rfl (.tmp 61) rfl ab (off + k * 9) (by rfl) x HCC.out ?_)
                | (refine wpList_store_part rfl 81 (.tmp 15) (.tmp 62) rfl wr.heap.size 0 (cs := zOu.cs) (Blk.new _ _ _) x.cs x.cs (by rfl) (by rfl) (Nat.le_refl 9) infoOu9 (oucs_one x) (ouv_over x rfl) ?_; intro W1 hb1 hc1; have hb := bel_st' hc1; have H15 := Lib.hid hb1; replace HB := Lib.hid (HB.out.trans (Below.mono hb HB.out.size)); clear hb1 hc1 hb)
                | (refine wpList_load_blk rfl 81 (.tmp 15) rfl wr.heap.size 0 9 H15.out x.cs (by rfl) (ouv_ext x) Tryz.underlying81 infoOu9 (Nat.le_refl 9) ?_))
              refine (HMK _ HB.out).out.mono ?_
              rintro e w4 ⟨rfl, hb⟩
              replace HB := Lib.hid (HB.out.trans (Below.mono hb HB.out.size))
              clear hb HMK H15
              by_cases hme : me = 0
              · have HA3 := Lib.hid (HA2.out hme)
                subst hme
                clear HA2 HFA
                go_wp2_with fail
                go_roundw
                case rel => trace_state; exact ⟨k + 1, by omega, by go_num, HA3, HB⟩
                case measure => simp [intOf]; omega
              · have d1 : (me != 0) = true := by simp [bne, beq_eq_false_iff_ne.2 hme]
                obtain rfl : ck = me := by rw [HCK.out, HFA.out hme]
                clear hme HA2 HFA
                go_wp2_with fail
                go_ret
                exact ⟨rfl, HB.out⟩
            · have d0 : decide (k < t.outs.length) = false := decide_eq_false hlt
              obtain rfl : k = t.outs.length := by omega
              obtain rfl : ck = 0 := by rw [HCK.out]; exact firstE_zero _ (fun j hj => HA.out j hj (by simpa using hj))
              go_wp2_with fail
              go_ret
              exact ⟨rfl, HB.out⟩
end Go.Proofs.YtjcinncphffgaaaGreat
namespace Go.Proofs.YtjcinncphffgaaaGreat
open Go.RowKit Go.Maps
def delAll (l : List Inp) (T : List En) : List En := l.foldl (fun T i => delU i.pt T) T
def putAll (id : ByteArray) (l : List Ou) (T : List En) : List En := (utN id l).foldl (fun T e => putU e T) T
/-- the outputs behind a transaction -/
def applyT (T : List En) (t : Txn) : List En := putAll (idT t) t.outs (delAll t.ins T)
theorem delAll_snoc (l : List Inp) (k : Nat) (h : k < l.length) (T : List En) : delAll (l.take (k + 1)) T = delU l[k].pt (delAll (l.take k) T) := by
  unfold delAll
  rw [List.take_succ_eq_append_getElem h, List.foldl_append]; rfl
theorem utN_snoc (id : ByteArray) (l : List Ou) (k : Nat) (h : k < l.length) : utN id (l.take (k + 1)) = utN id (l.take k) ++ [⟨id, (k : Int), l[k]⟩] := by
  unfold utN
  rw [List.take_succ_eq_append_getElem h, List.mapIdx_concat, List.length_take, Nat.min_eq_left (by omega)]
theorem putAll_snoc (id : ByteArray) (l : List Ou) (k : Nat) (h : k < l.length) (T : List En) : putAll id (l.take (k + 1)) T = putU ⟨id, (k : Int), l[k]⟩ (putAll id (l.take k) T) := by
  unfold putAll
  rw [utN_snoc id l k h, List.foldl_append]; rfl
theorem delAll_len : ∀ (l : List Inp) (T : List En), (delAll l T).length ≤ T.length
  | [], T => Nat.le_refl _
  | i :: r, T => Nat.le_trans (delAll_len r (delU i.pt T)) (delU_len _ _)
theorem foldPut_len : ∀ (l : List En) (T : List En), (l.foldl (fun T e => putU e T) T).length ≤ T.length + l.length
  | [], T => Nat.le_refl _
  | e :: r, T => by
    have h1 := foldPut_len r (putU e T)
    have h2 := putU_len e T
    show (r.foldl _ (putU e T)).length ≤ _
    simp only [List.length_cons]; omega
theorem putAll_len (id : ByteArray) (l : List Ou) (T : List En) : (putAll id l T).length ≤ T.length + l.length := by
  have := foldPut_len (utN id l) T
  rwa [utN_len] at this
theorem outT_ge (o : Ou) (s : ByteArray) : s.size + 1 ≤ (outT o s).size := by
  unfold outT
  split
  · simp only [ByteArray.size_append, num1_size]; omega
  · split <;> (simp only [ByteArray.size_append, num1_size]; omega)
theorem outsT_ge : ∀ (l : List Ou) (s : ByteArray), s.size ≤ (outsT l s).size
  | [], s => Nat.le_refl _
  | o :: r, s => by
    have h1 := outsT_ge r (outT o s)
    have h2 := outT_ge o s
    show s.size ≤ (outsT r (outT o s)).size
    omega
theorem id_size {t : Txn} (h : rightT t = true) : (idT t).size = 16 ∧ idT t = tagB wTx [coreT t] := by
  have h1 : coreX t = coreT t := by unfold coreX; rw [h]; rfl
  have h2 : 1 ≤ (coreT t).size := by
    have := outsT_ge t.outs (insT t.ins (headT t) ++ strOfNums [(t.outs.length : Int)])
    unfold coreT
    simp only [ByteArray.size_append, num1_size] at this
    omega
  have h3 : idT t = tagB wTx [coreT t] := by
    unfold idT
    rw [h1, if_neg (fun e => by rw [e, emp_sz] at h2; omega)]
  exact ⟨by rw [h3]; exact tagB_size _ _, h3⟩
theorem sl_map {α : Type} {w w' : World} {k b : Nat} {enc : α → List Value} {A : Option Addr} {l : List α} {T : List En} (h : Sl w w.heap.size k enc A l) (hU : Ut w b T) (hc : Ch [b] w w') : Sl w' w'.heap.size k enc A l := fun hn => by
  obtain ⟨bk, off, hA, hlt, hcells⟩ := h hn
  refine ⟨bk, off, hA, Nat.lt_of_lt_of_le hlt hc.size, fun i x hx j u hu => ?_⟩
  have hc0 := hcells i x hx j u hu
  have hbk : bk ≠ b := by
    rintro rfl
    obtain ⟨D, ⟨es, clock, hb, _⟩, _⟩ := hU.own
    simp [World.cell?, hb] at hc0
  have e := hc.block bk hlt (by simpa using hbk)
  rw [← hc0]
  unfold World.cell?
  rw [e]
theorem Txn.mem.map {t : Txn} {w w' : World} {b : Nat} {T : List En} (h : t.mem w) (hU : Ut w b T) (hc : Ch [b] w w') : t.mem w' := ⟨sl_map h.ins hU hc, sl_map h.outs hU hc, sl_map h.wins hU hc⟩
theorem check_found {T : List En} {t : Txn} {h : Int} (hc : checkE T t h = 0) : foundE T t = 0 := by
  unfold checkE at hc
  by_cases h1 : foundE T t ≠ 0
  · rw [if_pos h1] at hc; exact hc
  · simpa using h1
def ApplyR (ck : Int) (T T' : List En) (sb b : Nat) (w : World) (e : Ending) (w' : World) : Prop := e = .returned (.int .i64 ck) ∧ Ch [b] w w' ∧ SetAt w' sb b (if ck = 0 then T' else T)
set_option maxRecDepth 100000 in
set_option maxHeartbeats 4000000 in
theorem apply_any (sb b : Nat) (T : List En) (t : Txn) (h : Int) (w : World) (hS : SetAt w sb b T) (hm : t.mem w) (hT : TOk T) (ht : TxOk t) :
    Calls Tryz.prog 32 #[.pointer (some ⟨sb, 0, none⟩), .agg t.cs, .int .i64 h] w (ApplyR (checkE T t h) T (applyT T t) sb b w) := by
  have HX : Hid (Blk (w.alloc (.cells t.cs 53)) w.heap.size 53 t.cs) := Lib.hid (Blk.new _ _ _)
  have HB : Hid (Below w.heap.size w (w.alloc (.cells t.cs 53))) := Lib.hid ((Below.refl _ _).alloc (Nat.le_refl _) _)
  have HCK := fun W (hb : Below w.heap.size w W) => Lib.hid (check_any sb b T t h W (hS.bel hb) (hm.bel hb) hT ht)
  have HCF := Lib.hid (fun (q : checkE T t h = 0) => check_found q)
  have HS := Lib.hid hS
  have HMM := Lib.hid hm
  have HTX := Lib.hid ht
  have hTl := hT.len
  have HID := fun W (hmW : t.mem W) => Lib.hid (id_gen t W hmW ht.ins ht.outs ht.pf.len ht.out (by have := corex_size t; omega))
  have HAP : Hid (applyT T t = putAll (idT t) t.outs (delAll t.ins T)) := rfl
  generalize applyT T t = T2 at HAP ⊢
  have HIS := Lib.hid (fun (q : rightT t = true) => (id_size q).1)
  generalize idT t = id at HID HAP HIS
  generalize checkE T t h = ck at HCK HCF ⊢
  have hblt := hS.ut.lt
  have hslt := hS.hd.lt
  have hsb := hS.ut.ne_blk hS.hd
  clear hS hm ht hT
  go_enter Tryz.func32, Tryz.ntmps32
  go_wp2_with (refine wpList_load_blk rfl 53 (.tmp 4) rfl w.heap.size 0 6 HX.out t.cs (by rfl) (txn_ext t) Tryz.underlying53 infoTx (Nat.le_refl 6) ?_)
  refine (HCK _ HB.out).out.mono ?_
  rintro e w1 ⟨rfl, hb⟩
  replace HX := Lib.hid (HX.out.bel hb)
  replace HB := Lib.hid (HB.out.trans (Below.mono hb HB.out.size))
  clear hb HCK
  by_cases hck : ck = 0
  rotate_left
  · have d1 : (ck != 0) = true := by simp [bne, beq_eq_false_iff_ne.2 hck]
    have HN := Lib.hid hck
    clear hck
    go_wp2_with fail
    go_ret
    exact ⟨rfl, Ch.of_below HB.out _, by rw [if_neg HN.out]; exact HS.out.bel HB.out⟩
  have HF := Lib.hid (found_t (HCF.out hck))
  subst hck
  have HS1 := Lib.hid (HS.out.bel HB.out)
  have HM1 := Lib.hid (HMM.out.bel HB.out)
  have HC1 : Hid (Ch [b] w w1) := Lib.hid (Ch.of_below HB.out _)
  have hn1 := HF.out.right.n1
  have hn2 := HF.out.right.n2
  obtain ⟨TA, hTA⟩ : ∃ TA, t.A = TA := ⟨_, rfl⟩
  have HTA := Lib.hid hTA
  have c0 : w1.cell? ⟨w.heap.size, 0, none⟩ = some (.slice TA t.ins.length t.c) := by rw [← hTA]; exact HX.out.cell 0
  clear hTA HCF HB HS HMM
  go_wp2_with fail
  go_loopw [23] (fun i wr => ∃ k : Nat, k ≤ t.ins.length ∧ i = .int .i64 k ∧ Hid (SetAt wr sb b (delAll (t.ins.take k) T)) ∧ Hid (Blk wr w.heap.size 53 t.cs) ∧ Hid (t.mem wr) ∧ Hid (Ch [b] w wr)) (fun i _ => t.ins.length - (intOf i).toNat)
  case atStart => exact ⟨0, Nat.zero_le _, rfl, HS1, HX, HM1, HC1⟩
  case round =>
    clear HX HS1 HM1 HC1 c0
    obtain ⟨k, hk, rfl, HS, HX, HM, HC⟩ := hrel
    have hz := HC.out.size
    by_cases hlt : k < t.ins.length
    · have d0 : decide (k < t.ins.length) = true := decide_eq_true hlt
      have hok := inB_ok (HF.out.right.ins _ (List.getElem_mem hlt))
      have hmi := HM.out.ins
      rw [HTA.out] at hmi
      obtain ⟨ab, off, hAe, hbB, hc⟩ := hmi.at_ hlt
      subst hAe
      have HSN := Lib.hid (delAll_snoc t.ins k hlt T)
      generalize t.ins[k] = x at hc hok HSN
      generalize delAll (t.ins.take k) T = Tk at HS HSN
      have HCC := Lib.hid hc
      clear hc hmi
      go_upto_region 7 with (first
        | (refine wpList_load_in rfl (.tmp 25) rfl ab (off + k * 4) (by rfl) x HCC.out ?_)
        | (refine wpList_store_part rfl 59 (.tmp 9) (.tmp 26) rfl wr.heap.size 0 (cs := zInp.cs) (Blk.new _ _ _) x.cs x.cs (by rfl) (by rfl) (Nat.le_refl 4) infoIn (incs_one x) (inv_over x rfl) ?_; intro X0 hb1 hc1; have hb := bel_st' hc1; have H9 := Lib.hid hb1; replace HX := Lib.hid (HX.out.bel hb); replace HM := Lib.hid (HM.out.bel hb); replace HS := Lib.hid (HS.out.bel hb); replace HC := Lib.hid (HC.out.trans (Ch.of_below hb _)); clear hb1 hc1 hb))
      have hlr : b < wr.heap.size ∧ sb < wr.heap.size := ⟨by omega, by omega⟩
      refine wp_region_held_drew (S := fun W => Hid (Blk W wr.heap.size 59 x.cs ∧ Blk W sb 186 #[.map (some b)])) (by kernel_rfl) (Lib.hid ⟨H9.out.drewN 1, HS.out.hd.drewN 1⟩) (fun hS => ?_)
      replace HX : Hid (Blk X0.drew w.heap.size 53 t.cs) := Lib.hid (HX.out.drewN 1)
      replace HM : Hid (t.mem X0.drew) := Lib.hid (HM.out.bel (Below.refl _ _).drew)
      replace HS : Hid (SetAt X0.drew sb b Tk) := Lib.hid (HS.out.bel (Below.refl _ _).drew)
      replace HC : Hid (Ch [b] w X0.drew) := Lib.hid (HC.out.trans (Ch.drewN _ _ 1))
      refine wpAnyH_genT fun X hX => ?_
      rw [← hX] at HX HM HS HC hS
      clear hX H9
      refine wpAnyH_take (i := 0) (v := ?_) rfl (by kernel_rfl) (by kernel_rfl) (by kernel_rfl) (fun _ _ _ h => h) (Or.inl ⟨by rfl, ?_⟩) hS ?_
      rotate_left
      · (intro w _; go_simp; try with_reducible rfl)
      refine wpAnyH_take (i := 1) (v := ?_) rfl (by kernel_rfl) (by kernel_rfl) (by kernel_rfl) (fun _ _ _ h => h) (Or.inl ⟨by rfl, ?_⟩) hS ?_
      rotate_left
      · (intro w _; go_simp; try with_reducible rfl)
      refine wpAnyH_take (i := 2) (v := ?_) rfl (by kernel_rfl) (by kernel_rfl) (by kernel_rfl) (fun _ _ _ h => h) (Or.inl ⟨by rfl, ?_⟩) hS ?_
      rotate_left
      · (intro w _; go_simp; try with_reducible rfl)
      refine wpAnyH_take (i := 3) (v := ?_) rfl (by kernel_rfl) (by kernel_rfl) (by kernel_rfl) (fun _ _ _ h => h) (Or.inl ⟨by rfl, ?_⟩) hS ?_
      rotate_left
      · (intro w hS'; have hcell := (show World.cell? _ ⟨sb, 0, none⟩ = some (.map (some b)) from Blk.cell hS'.out.2 0); go_simp; try with_reducible rfl)
      refine wpAnyH_take (i := 4) (v := ?_) rfl (by kernel_rfl) (by kernel_rfl) (by kernel_rfl) (fun _ _ _ h => h) (Or.inl ⟨by rfl, ?_⟩) hS ?_
      rotate_left
      · (intro w _; go_simp; try with_reducible rfl)
      refine wpAnyH_take (i := 5) (v := .agg #[.string x.tx, .int .i64 x.out]) rfl (by kernel_rfl) (by kernel_rfl) (by kernel_rfl) (fun _ _ _ h => h) (yields_blk (by rfl) 57 (.tmp 31) (by rfl) wr.heap.size 0 2 (t := 59) (cs := x.cs) (fun W h => h.out.1) #[.string x.tx, .int .i64 x.out] (by rfl) (by rfl) Tryz.underlying57 (by kernel_rfl) (by show 2 ≤ 4; omega)) hS ?_
      obtain ⟨W4, hrun, hu4, hc4⟩ := HS.out.ut.drop x.pt hok 0
      have hrun' : ∀ ty, (Builtin.delete_ #[184, 57] ty #[.map (some b), .agg #[.string x.tx, .int .i64 x.out]]).run Tryz.prog X = .ok (.tuple #[]) W4 := fun ty => hrun
      have HS4 : Hid (SetAt W4 sb b (delAll (t.ins.take (k + 1)) T)) := Lib.hid ⟨HS.out.hd.ch hc4 (by simp; omega), by rw [HSN.out]; exact hu4⟩
      have HX4 := Lib.hid (HX.out.ch hc4 (by simp; omega))
      have HM4 := Lib.hid (HM.out.map HS.out.ut hc4)
      have HC4 := Lib.hid (HC.out.trans hc4)
      have H94 := Lib.hid (hS.out.1.ch hc4 (by simp; omega))
      clear hrun hu4 hc4 HX HM HC HS
      refine wpAnyH_ready (rs := [6]) (by kernel_rfl) (by simp) (AllReadyH.cons rfl (fun K hK => ?_) AllReadyH.nil)
      go_simp
      refine hK.out _ _ (Lib.hid ⟨H94.out, HS4.out.hd⟩) (fun _ => ?_)
      clear hK K hS hrun' H94
      refine wpAnyH_done (by kernel_rfl) ?_ _
      go_wp2_with fail
      go_roundw
      case rel => exact ⟨k + 1, by omega, by go_num, HS4, HX4, HM4, HC4⟩
      case measure => simp [intOf]; omega
    · have d0 : decide (k < t.ins.length) = false := decide_eq_false hlt
      obtain rfl : k = t.ins.length := by omega
      rw [List.take_length] at HS
      have hids := HIS.out HF.out.rt
      have hDl := delAll_len t.ins T
      obtain ⟨T1, hT1⟩ : ∃ T1, T1 = delAll t.ins T := ⟨_, rfl⟩
      rw [← hT1] at HS HAP hDl
      clear hT1 HIS
      go_wp2_with (refine wpList_load_blk rfl 53 (.tmp 4) rfl w.heap.size 0 6 HX.out t.cs (by rfl) (txn_ext t) Tryz.underlying53 infoTx (Nat.le_refl 6) ?_)
      refine (HID _ HM.out).out.mono ?_
      rintro e w5 ⟨rfl, hb⟩
      replace HX := Lib.hid (HX.out.bel hb)
      replace HM := Lib.hid (HM.out.bel hb)
      replace HS : Hid (SetAt w5 sb b (putAll id (t.outs.take 0) T1)) := Lib.hid (HS.out.bel hb)
      replace HC := Lib.hid (HC.out.trans (Ch.of_below hb _))
      clear hb HID
      obtain ⟨TB, hTB⟩ : ∃ TB, t.B = TB := ⟨_, rfl⟩
      have HTB := Lib.hid hTB
      have c1 : w5.cell? ⟨w.heap.size, 1, none⟩ = some (.slice TB t.outs.length t.d) := by rw [← hTB]; exact HX.out.cell 1
      have HIZ := Lib.hid hids
      clear hTB hids
      go_wp2_with fail
      go_loopw [39] (fun i wr => ∃ k : Nat, k ≤ t.outs.length ∧ i = .int .i64 k ∧ Hid (SetAt wr sb b (putAll id (t.outs.take k) T1)) ∧ Hid (t.mem wr) ∧ Hid (Ch [b] w wr)) (fun i _ => t.outs.length - (intOf i).toNat)
      case atStart => exact ⟨0, Nat.zero_le _, rfl, HS, HM, HC⟩
      case round =>
        clear HX HS HM HC c1
        obtain ⟨k, hk, rfl, HS, HM, HC⟩ := hrel
        have hz := HC.out.size
        by_cases hlt : k < t.outs.length
        · have d0 : decide (k < t.outs.length) = true := decide_eq_true hlt
          have hmi := HM.out.outs
          rw [HTB.out] at hmi
          obtain ⟨ab, off, hAe, hbB, hc⟩ := hmi.at_ hlt
          subst hAe
          have HSN := Lib.hid (putAll_snoc id t.outs k hlt T1)
          have hpl := putAll_len id (t.outs.take k) T1
          have htk : (t.outs.take k).length ≤ k := List.length_take_le _ _
          generalize t.outs[k] = x at hc HSN
          generalize putAll id (t.outs.take k) T1 = Tk at HS HSN hpl
          have HCC := Lib.hid hc
          clear hc hmi
          go_upto_region 13 with (first
            | (refine wpList_load_ou rfl (.tmp 42) rfl ab (off + k * 9) (by rfl) x HCC.out ?_)
            | (refine wpList_store_part rfl 81 (.tmp 12) (.tmp 43) rfl wr.heap.size 0 (cs := zOu.cs) (Blk.new _ _ _) x.cs x.cs (by rfl) (by rfl) (Nat.le_refl 9) infoOu9 (oucs_one x) (ouv_over x rfl) ?_; intro X0 hb1 hc1; have hb := bel_st' hc1; have H9 := Lib.hid hb1; replace HM := Lib.hid (HM.out.bel hb); replace HS := Lib.hid (HS.out.bel hb); replace HC := Lib.hid (HC.out.trans (Ch.of_below hb _)); clear hb1 hc1 hb))
          go_frame
          have hlr : b < wr.heap.size ∧ sb < wr.heap.size := ⟨by omega, by omega⟩
          refine wp_region_held_drew (S := fun W => Hid (Blk W wr.heap.size 81 x.cs ∧ Blk W sb 186 #[.map (some b)])) (by kernel_rfl) (Lib.hid ⟨H9.out.drewN 1, HS.out.hd.drewN 1⟩) (fun hS => ?_)
          replace HM : Hid (t.mem X0.drew) := Lib.hid (HM.out.bel (Below.refl _ _).drew)
          replace HS : Hid (SetAt X0.drew sb b Tk) := Lib.hid (HS.out.bel (Below.refl _ _).drew)
          replace HC : Hid (Ch [b] w X0.drew) := Lib.hid (HC.out.trans (Ch.drewN _ _ 1))
          refine wpAnyH_genT fun X hX => ?_
          rw [← hX] at HM HS HC hS
          clear hX H9
          refine wpAnyH_take (i := 0) (v := ?_) rfl (by kernel_rfl) (by kernel_rfl) (by kernel_rfl) (fun _ _ _ h => h) (Or.inl ⟨by rfl, ?_⟩) hS ?_
          rotate_left
          · (intro w _; go_simp; try with_reducible rfl)
          refine wpAnyH_take (i := 1) (v := ?_) rfl (by kernel_rfl) (by kernel_rfl) (by kernel_rfl) (fun _ _ _ h => h) (Or.inl ⟨by rfl, ?_⟩) hS ?_
          rotate_left
          · (intro w _; go_simp; try with_reducible rfl)
          refine wpAnyH_take (i := 2) (v := ?_) rfl (by kernel_rfl) (by kernel_rfl) (by kernel_rfl) (fun _ _ _ h => h) (Or.inl ⟨by rfl, ?_⟩) hS ?_
          rotate_left
          · (intro w _; go_simp; try with_reducible rfl)
          refine wpAnyH_take (i := 3) (v := ?_) rfl (by kernel_rfl) (by kernel_rfl) (by kernel_rfl) (fun _ _ _ h => h) (Or.inl ⟨by rfl, ?_⟩) hS ?_
          rotate_left
          · (intro w hS'; have hcell := (show World.cell? _ ⟨sb, 0, none⟩ = some (.map (some b)) from Blk.cell hS'.out.2 0); go_simp; try with_reducible rfl)
          refine wpAnyH_take (i := 4) (v := ?_) rfl (by kernel_rfl) (by kernel_rfl) (by kernel_rfl) (fun _ _ _ h => h) (Or.inl ⟨by rfl, ?_⟩) hS ?_
          rotate_left
          · (intro w _; go_simp; try with_reducible rfl)
          refine wpAnyH_take (i := 5) (v := ?_) rfl (by kernel_rfl) (by kernel_rfl) (by kernel_rfl) (fun _ _ _ h => h) (Or.inl ⟨by rfl, ?_⟩) hS ?_
          rotate_left
          · (intro w _; go_simp; try with_reducible rfl)
          refine wpAnyH_take (i := 6) (v := ?_) rfl (by kernel_rfl) (by kernel_rfl) (by kernel_rfl) (fun _ _ _ h => h) (Or.inl ⟨by rfl, ?_⟩) hS ?_
          rotate_left
          · (intro w _; go_simp; try with_reducible rfl)
          refine wpAnyH_take (i := 7) (v := .agg x.cs) rfl (by kernel_rfl) (by kernel_rfl) (by kernel_rfl) (fun _ _ _ h => h) (yields_blk (by rfl) 81 (.tmp 12) (by rfl) wr.heap.size 0 9 (t := 81) (cs := x.cs) (fun W h => h.out.1) x.cs (by go_simp) (ouv_ext x) Tryz.underlying81 infoOu9 (Nat.le_refl 9)) hS ?_
          obtain ⟨W4, hrun, hu4, hc4⟩ := HS.out.ut.store ⟨id, (k : Int), x⟩ ⟨HIZ.out, by show (0 : Int) ≤ (k : Int); omega, by show (k : Int) < 256; omega⟩ (by simp only [maxLen]; omega)
          have hrun' : (Instr.mapUpdate 184 (.map (some b)) (.agg #[.string id, .int .i64 (k : Int)]) (.agg x.cs)).run Tryz.prog X = .ok () W4 := hrun
          have HS4 : Hid (SetAt W4 sb b (putAll id (t.outs.take (k + 1)) T1)) := Lib.hid ⟨HS.out.hd.ch hc4 (by simp; omega), by rw [HSN.out]; exact hu4⟩
          have HM4 := Lib.hid (HM.out.map HS.out.ut hc4)
          have HC4 := Lib.hid (HC.out.trans hc4)
          have H94 := Lib.hid (hS.out.1.ch hc4 (by simp; omega))
          clear hrun hu4 hc4 HM HC HS
          refine wpAnyH_ready (rs := [8]) (by kernel_rfl) (by simp) (AllReadyH.cons rfl (fun K hK => ?_) AllReadyH.nil)
          go_simp
          refine hK.out _ _ (Lib.hid ⟨H94.out, HS4.out.hd⟩) (fun _ => ?_)
          clear hK K hS hrun' H94
          refine wpAnyH_done (by kernel_rfl) ?_ _
          go_wp2_with fail
          go_roundw
          case rel => exact ⟨k + 1, by omega, by go_num, HS4, HM4, HC4⟩
          case measure => simp [intOf]; omega
        · have d0 : decide (k < t.outs.length) = false := decide_eq_false hlt
          obtain rfl : k = t.outs.length := by omega
          rw [List.take_length] at HS
          go_wp2_with fail
          go_ret
          exact ⟨rfl, HC.out, by rw [if_pos rfl, HAP.out]; exact HS.out⟩
end Go.Proofs.YtjcinncphffgaaaGreat
namespace Go.Proofs.YtjcinncphffgaaaGreat
open Go.RowKit Go.Maps Go.Sort
theorem txn_over (t : Txn) {cs : Array Value} (h : cs.size = 6) : over cs 0 t.cs.toList = t.cs := (over_full t.cs.toList cs (by rw [h]; rfl)).trans (Array.toArray_toList ..)
end Go.Proofs.YtjcinncphffgaaaGreat
