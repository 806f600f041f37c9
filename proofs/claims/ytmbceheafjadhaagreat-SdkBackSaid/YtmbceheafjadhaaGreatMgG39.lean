/- A channel that is locked: its claim, and what brings it back (no program). -/
import Derived.Test.YtmbceheafjadhaaGreatMgG38
set_option linter.unusedVariables false
set_option linter.unusedSimpArgs false
namespace Go.Proofs.YtmbceheafjadhaaGreat
open Go.RowKit Go.Maps
section
variable {cl gt : ByteArray} {am mo ex : Nat}
theorem lk1_len (cl gt : ByteArray) (am mo ex : Nat) : 1 ≤ (lkT1 cl gt am mo ex).length ∧ (lkT1 cl gt am mo ex).length ≤ 2 := by
  unfold lkT1
  rw [utN_len]
  unfold lkO1
  split <;> simp
theorem lk1_list (cl gt : ByteArray) (am mo ex : Nat) : lkT1 cl gt am mo ex = ⟨lkX1 cl gt am mo ex, 0, lkoL cl gt am ex⟩ :: (if mo = 0 then [] else [⟨lkX1 cl gt am mo ex, 1, lkoM cl gt mo ex (nameO (lkX1 cl gt am mo ex) 0)⟩]) := by
  unfold lkT1 lkO1
  by_cases h : mo = 0
  · rw [if_pos h, if_pos h]; rfl
  · rw [if_neg h, if_neg h]
    have : lkX1 cl gt am mo ex = lkoX cl gt am mo ex := by unfold lkX1; rw [if_neg h]
    rw [this]; rfl
theorem lk1_0 (cl gt : ByteArray) (am mo ex : Nat) (h : 0 < (lkT1 cl gt am mo ex).length) : (lkT1 cl gt am mo ex)[0] = ⟨lkX1 cl gt am mo ex, 0, lkoL cl gt am ex⟩ := by
  have e := lk1_list cl gt am mo ex
  have : (lkT1 cl gt am mo ex)[0]? = some ⟨lkX1 cl gt am mo ex, 0, lkoL cl gt am ex⟩ := by rw [e]; rfl
  rw [List.getElem?_eq_getElem h] at this
  exact Option.some.inj this
theorem lk1_mem {e : En} (h : e ∈ lkT1 cl gt am mo ex) : e = ⟨lkX1 cl gt am mo ex, 0, lkoL cl gt am ex⟩ ∨ (mo ≠ 0 ∧ e = ⟨lkX1 cl gt am mo ex, 1, lkoM cl gt mo ex (nameO (lkX1 cl gt am mo ex) 0)⟩) := by
  rw [lk1_list] at h
  rcases List.mem_cons.1 h with h | h
  · exact .inl h
  · by_cases hm : mo = 0
    · rw [if_pos hm] at h; cases h
    · rw [if_neg hm] at h
      exact .inr ⟨hm, List.mem_singleton.1 h⟩
theorem lk1_chan (cl gt : ByteArray) (am mo ex : Nat) : ChanL (lkT1 cl gt am mo ex) cl gt (ex : Int) := by
  refine ⟨(lk1_len cl gt am mo ex).1, ?_, ?_, ?_, ?_, ?_⟩
  · intro h; rw [lk1_0]; rfl
  · intro j h hj
    have hl := (lk1_len cl gt am mo ex).2
    obtain rfl : j = 1 := by omega
    have e := lk1_list cl gt am mo ex
    by_cases hm : mo = 0
    · exfalso
      rw [if_pos hm] at e
      have := congrArg List.length e
      simp at this; omega
    · rw [if_neg hm] at e
      have h1 : (lkT1 cl gt am mo ex)[1]? = some ⟨lkX1 cl gt am mo ex, 1, lkoM cl gt mo ex (nameO (lkX1 cl gt am mo ex) 0)⟩ := by rw [e]; rfl
      rw [List.getElem?_eq_getElem h] at h1
      rw [Option.some.inj h1, lk1_0]
      exact ⟨rfl, rfl⟩
  · intro e he; rcases lk1_mem he with rfl | ⟨_, rfl⟩ <;> rfl
  · intro e he; rcases lk1_mem he with rfl | ⟨_, rfl⟩ <;> rfl
  · intro e he; rcases lk1_mem he with rfl | ⟨_, rfl⟩ <;> rfl
theorem lk1_tok (h : LkOk1 cl gt am mo ex) (hok : ∀ e ∈ lkT1 cl gt am mo ex, e.okp) : TOk (lkT1 cl gt am mo ex) := by
  have hl := lk1_len cl gt am mo ex
  refine ⟨by omega, by omega, ?_, ?_, ?_, hok⟩
  · intro e he
    rcases lk1_mem he with rfl | ⟨hm, rfl⟩
    · exact lk1_fits h
    · have h2 : LkOk cl gt am mo ex := ⟨h.cl, h.gt, h.am0, h.am, by omega, h.mo, h.ex0, h.ex⟩
      have hn := lk_fits h2 (nameO (lkX1 cl gt am mo ex) 0) (nameO_size _ _)
      unfold newU at hn
      simp only [Bool.and_eq_true, List.all_cons] at hn
      exact hn.2.2.1
  · intro e he
    rcases lk1_mem he with rfl | ⟨_, rfl⟩
    · exact h.am
    · exact h.mo
  · intro e he
    rcases lk1_mem he with rfl | ⟨_, rfl⟩
    · show (3 : Nat) < 18446744073709551616; decide
    · show (0 : Nat) < 18446744073709551616; decide
theorem lk1_tot (cl gt : ByteArray) (am mo ex : Nat) : totI (topsI (lkT1 cl gt am mo ex)) = ((am + mo : Nat) : Int) := by
  rw [lk1_list]
  by_cases hm : mo = 0
  · rw [if_pos hm, hm]
    show (am : Int) + 0 = _
    omega
  · rw [if_neg hm]
    show (am : Int) + ((mo : Int) + 0) = _
    omega
theorem fits_payO {am : Nat} {key : ByteArray} (ha : 0 < am) (hk : key.size = 16) : fitsB (payO am key) = true := by
  simp [fitsB, payO, fits1B, hk, emp_sz]
  exact decide_eq_true ha
/-- the claim of a voucher is accepted -/
theorem claim_ok (h : LkOk1 cl gt am mo ex) (hs : SrtE (lkT1 cl gt am mo ex)) (hok : ∀ e ∈ lkT1 cl gt am mo ex, e.okp) {t : Txn} {v : Nat} {sgv : ByteArray} (hi : InsOn t (lkT1 cl gt am mo ex) 2) (hp : t.p = vouP v sgv) (ho : t.outs = paysO ⟨lkX1 cl gt am mo ex, 0, lkoL cl gt am ex⟩ v (am + mo))
    (hv0 : 10 < v) (hvn : v ≤ am + mo) (h64 : am + mo < 18446744073709551616) (hz : sgv.size ≤ 400) (hv : verB cl (vouchB (nameO (lkX1 cl gt am mo ex) 0) v) sgv = true) (hsg : ∀ i ∈ t.ins, verB gt (coreOn (lkT1 cl gt am mo ex) 2 t.outs) i.sig = true) (hh : Int) :
    rightT t = true ∧ checkE (lkT1 cl gt am mo ex) t hh = 0 := by
  have hl := lk1_len cl gt am mo ex
  have hc := lk1_chan cl gt am mo ex
  have hf : ∀ o ∈ t.outs, fitsB o = true ∧ o.kind = 1 := by rw [ho]; exact pays_fit hv0 h.gt h.cl
  have hr : rightT t = true := hi.right hs hok ⟨hl.1, by omega⟩ (by decide) (by have := pays_len ⟨lkX1 cl gt am mo ex, 0, lkoL cl gt am ex⟩ v (am + mo); rw [ho]; omega) (fun o k => (hf o k).1) (by rw [hp]; exact right_vou v sgv hz)
  have hpt := pays_tot ⟨lkX1 cl gt am mo ex, 0, lkoL cl gt am ex⟩ hv0 hvn
  refine ⟨hr, ?_⟩
  rw [check_claim hi hs (by omega) hc hr hsg (by rw [ho]; exact sums_ok (lk1_tot cl gt am mo ex) h64 hpt.1 hpt.2) (fun o k => (hf o k).2), lk1_0, totV_n (lk1_tot cl gt am mo ex) h64]
  exact claims_vou (hi.path0 hc.pos) hp hz hv0 hvn (by omega) hv ho
/-- .. of one that is not signed: it is told so -/
theorem claim_bad (h : LkOk1 cl gt am mo ex) (hs : SrtE (lkT1 cl gt am mo ex)) (hok : ∀ e ∈ lkT1 cl gt am mo ex, e.okp) {t : Txn} {v u : Nat} {sgv : ByteArray} (hi : InsOn t (lkT1 cl gt am mo ex) 2) (hp : t.p = vouP u sgv) (ho : t.outs = paysO ⟨lkX1 cl gt am mo ex, 0, lkoL cl gt am ex⟩ v (am + mo))
    (hv0 : 10 < v) (hvn : v ≤ am + mo) (h64 : am + mo < 18446744073709551616) (hz : sgv.size ≤ 400) (hu0 : 0 < u) (hu : u < 18446744073709551616) (hv : verB cl (vouchB (nameO (lkX1 cl gt am mo ex) 0) u) sgv = false) (hsg : ∀ i ∈ t.ins, verB gt (coreOn (lkT1 cl gt am mo ex) 2 t.outs) i.sig = true) (hh : Int) :
    checkE (lkT1 cl gt am mo ex) t hh = 10 := by
  have hl := lk1_len cl gt am mo ex
  have hc := lk1_chan cl gt am mo ex
  have hf : ∀ o ∈ t.outs, fitsB o = true ∧ o.kind = 1 := by rw [ho]; exact pays_fit hv0 h.gt h.cl
  have hr : rightT t = true := hi.right hs hok ⟨hl.1, by omega⟩ (by decide) (by have := pays_len ⟨lkX1 cl gt am mo ex, 0, lkoL cl gt am ex⟩ v (am + mo); rw [ho]; omega) (fun o k => (hf o k).1) (by rw [hp]; exact right_vou u sgv hz)
  have hpt := pays_tot ⟨lkX1 cl gt am mo ex, 0, lkoL cl gt am ex⟩ hv0 hvn
  rw [check_claim hi hs (by omega) hc hr hsg (by rw [ho]; exact sums_ok (lk1_tot cl gt am mo ex) h64 hpt.1 hpt.2) (fun o k => (hf o k).2), lk1_0, totV_n (lk1_tot cl gt am mo ex) h64]
  exact claims_bad (hi.path0 hc.pos) hp hz hu0 hu hv
theorem right_none : rightB noPf = true := by decide
theorem none_none : noneP noPf = true := by decide
/-- what brings all back to the client -/
theorem back_right (h : LkOk1 cl gt am mo ex) (hs : SrtE (lkT1 cl gt am mo ex)) (hok : ∀ e ∈ lkT1 cl gt am mo ex, e.okp) {t : Txn} (hi : InsOn t (lkT1 cl gt am mo ex) 3) (hp : t.p = noPf) (ho : t.outs = [payO (am + mo - 10) cl]) (h10 : 10 < am + mo) : rightT t = true := by
  have hl := lk1_len cl gt am mo ex
  exact hi.right hs hok ⟨hl.1, by omega⟩ (by decide) (by rw [ho]; simp) (by rw [ho]; intro o k; rw [List.mem_singleton.1 k]; exact fits_payO (by omega) h.cl) (by rw [hp]; exact right_none)
theorem back_late (h : LkOk1 cl gt am mo ex) (hs : SrtE (lkT1 cl gt am mo ex)) (hok : ∀ e ∈ lkT1 cl gt am mo ex, e.okp) {t : Txn} (hi : InsOn t (lkT1 cl gt am mo ex) 3) (hp : t.p = noPf) (ho : t.outs = [payO (am + mo - 10) cl]) (h10 : 10 < am + mo) {hh : Int} (hx : hh < ex) : checkE (lkT1 cl gt am mo ex) t hh = 12 :=
  check_late hi hs (lk1_chan cl gt am mo ex) (back_right h hs hok hi hp ho h10) (by rw [hp]; exact none_none) hx
theorem back_bare (h : LkOk1 cl gt am mo ex) (hs : SrtE (lkT1 cl gt am mo ex)) (hok : ∀ e ∈ lkT1 cl gt am mo ex, e.okp) {t : Txn} (hi : InsOn t (lkT1 cl gt am mo ex) 3) (hp : t.p = noPf) (ho : t.outs = [payO (am + mo - 10) cl]) (h10 : 10 < am + mo) {hh : Int} (hx : (ex : Int) ≤ hh) (hb : ∀ h0 : 0 < t.ins.length, t.ins[0].sig = ByteArray.empty) : checkE (lkT1 cl gt am mo ex) t hh = 10 :=
  check_bare hi hs (lk1_chan cl gt am mo ex) (back_right h hs hok hi hp ho h10) (by rw [hp]; exact none_none) hx hb
theorem back_ok (h : LkOk1 cl gt am mo ex) (hs : SrtE (lkT1 cl gt am mo ex)) (hok : ∀ e ∈ lkT1 cl gt am mo ex, e.okp) {t : Txn} (hi : InsOn t (lkT1 cl gt am mo ex) 3) (hp : t.p = noPf) (ho : t.outs = [payO (am + mo - 10) cl]) (h10 : 10 < am + mo) (h64 : am + mo < 18446744073709551616) {hh : Int} (hx : (ex : Int) ≤ hh)
    (hsg : ∀ i ∈ t.ins, verB cl (coreOn (lkT1 cl gt am mo ex) 3 t.outs) i.sig = true) : checkE (lkT1 cl gt am mo ex) t hh = 0 := by
  have e : totI (ousI t.outs) = ((am + mo - 10 : Nat) : Int) + 0 := by rw [ho]; rfl
  exact check_refund hi hs (lk1_chan cl gt am mo ex) (back_right h hs hok hi hp ho h10) (by rw [hp]; exact none_none) hx hsg (sums_ok (lk1_tot cl gt am mo ex) h64 (by rw [e]; omega) (by rw [e]; omega)) (by rw [ho]; intro o k; rw [List.mem_singleton.1 k]; rfl)
end
end Go.Proofs.YtmbceheafjadhaaGreat
