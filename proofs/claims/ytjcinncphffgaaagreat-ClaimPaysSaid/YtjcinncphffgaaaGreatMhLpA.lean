/- law18's ClaimPays: its plain part (no program). -/
import Derived.Test.YtjcinncphffgaaaGreatMhClM
import Derived.Test.YtjcinncphffgaaaGreatMhG39
import Derived.Test.YtjcinncphffgaaaGreatMhLaw17b
import Derived.Test.YtjcinncphffgaaaGreatMhLbA
import Derived.Test.YtjcinncphffgaaaGreatMhOpenU
import Derived.Test.YtjcinncphffgaaaGreatMhShP
set_option linter.unusedVariables false
set_option linter.unusedSimpArgs false
namespace Go.Proofs.YtjcinncphffgaaaGreat
open Go.RowKit Go.Maps
theorem cnt_ex (a t : ByteArray) (m : Nat) : ∃ n b, CntP a t m n b := by
  have key : ∀ k, (∃ j, j ≤ k ∧ itB t j = a ∧ ∀ i, i < j → itB t i ≠ a) ∨ (∀ j, j ≤ k → itB t j ≠ a) := by
    intro k
    induction k with
    | zero =>
      by_cases h : itB t 0 = a
      · exact .inl ⟨0, Nat.le_refl _, h, fun i hi => absurd hi (Nat.not_lt_zero i)⟩
      · exact .inr fun j hj => by
          obtain rfl : j = 0 := by omega
          exact h
    | succ k ih =>
      rcases ih with ⟨j, h1, h2, h3⟩ | ih
      · exact .inl ⟨j, by omega, h2, h3⟩
      · by_cases h : itB t (k + 1) = a
        · exact .inl ⟨k + 1, Nat.le_refl _, h, fun i hi => ih i (by omega)⟩
        · exact .inr fun j hj => by
            by_cases q : j = k + 1
            · subst q; exact h
            · exact ih j (by omega)
  rcases key m with ⟨j, h1, h2, h3⟩ | h
  · exact ⟨j, true, h1, h3, (decide_eq_true h2).symm, .inl rfl⟩
  · exact ⟨m, false, Nat.le_refl _, fun j hj => h j (by omega), (decide_eq_false (h m (Nat.le_refl _))).symm, .inr rfl⟩
/-- what the state shows is worth what it says, as a function -/
theorem wor_sh {s : St} {mt : Nat} (h : ShI s mt) (h3 : s.wins.length ≤ 3) (B : Option Addr) (d : Nat) : worF (s.tm mt) (s.pf B d) = (worthV s, 0) := by
  have hs := h.sum
  have hp0 : (0 : Int) ≤ (s.tokens : Int) * s.lock.o.unit := Int.mul_nonneg (by omega) (by omega)
  have hm : (s.tokens : Int) * s.lock.o.unit < 18446744073709551616 := by omega
  have ht : tokF (s.tm mt) (s.pf B d) = ((s.tokens : Int) * s.lock.o.unit, 0) := by
    unfold tokF
    rcases h.tok with ⟨h1, h2⟩ | ⟨h1, h4, h5⟩
    · rw [if_pos (show (s.pf B d).tok = ByteArray.empty from h1), h2]; simp
    · rw [if_neg (fun e => by have e' : s.tok = ByteArray.empty := e; rw [e', emp_sz] at h1; omega), if_neg (by show ¬ s.tok.size ≠ 16; omega)]
      obtain ⟨n, b, hc⟩ := cnt_ex s.lock.o.anchor s.tok mt
      have hq := cntGo_eq hc mt 0 (by omega) (by omega)
      unfold cntE at h4
      unfold cntN at h5
      rw [if_pos h1, hq] at h4 h5
      cases b with
      | false => simp at h4
      | true =>
        have h6 : n = s.tokens := h5
        subst h6
        have e : cntF (s.tm mt).anchor (s.pf B d).tok (s.tm mt).tokens = some s.tokens := (cnt_fun hc).trans (if_pos rfl)
        rw [e]
        show (mulV s.tokens s.lock.o.unit, mulE s.tokens s.lock.o.unit) = _
        unfold mulV mulE
        rw [if_pos hm, if_pos hm]
  have hf : facF (s.tm mt) [] (s.pf B d).l = 0 := fac_fun (p := s.pf B d) h.wins
  have e : totI (fcI (s.pf B d).l ++ [((s.pf B d).am : Int), (s.tokens : Int) * s.lock.o.unit]) = (s.am : Int) + s.tokens * s.lock.o.unit + s.faces := by
    show totI (fcI s.wins ++ [(s.am : Int), (s.tokens : Int) * s.lock.o.unit]) = _
    rw [totI_append, h.faces]
    simp only [totI]
    omega
  unfold worF
  rw [sh_right h h3, sh_paid h, ht, if_neg (by decide), if_neg (by decide), hf]
  simp only [ne_eq, not_true_eq_false, if_false]
  unfold totV totE
  rw [e, if_pos (by omega), if_pos (by omega), sum_worth hs]
theorem room_le {s : St} (h : xroomB s 0 = true) : worthV s ≤ wholeV s := by
  unfold xroomB at h
  simp only [Bool.and_eq_true, decide_eq_true_eq] at h
  have h1 := h.1.1
  have h2 := h.1.2
  have h3 : capA (worthV s) ((0 : Nat) : Int) = worthV s := by
    unfold capA plusV plusE
    rw [if_pos (by omega), if_pos (by omega)]
    unfold capN
    rw [if_pos rfl]; omega
  rwa [h3] at h2
theorem vou_room {s : St} {am r : Nat} {sg : ByteArray} (hE : vouE s am sg r = 0) : xroomB (s.vouch am sg) r = true := by
  unfold vouE at hE
  by_cases hc : s.closed = true
  · rw [if_pos hc] at hE; exact absurd hE (by decide)
  rw [if_neg hc] at hE
  by_cases h1 : am ≤ s.am
  · rw [if_pos h1] at hE; exact absurd hE (by decide)
  rw [if_neg h1] at hE
  by_cases h2 : 400 < sg.size
  · rw [if_pos h2] at hE; exact absurd hE (by decide)
  rw [if_neg h2] at hE
  by_cases h3 : verB s.lock.o.key (vouchB s.name am) sg = true
  · rw [if_pos h3] at hE
    by_cases h4 : xroomB (s.vouch am sg) r = true
    · exact h4
    · rw [if_neg h4] at hE; exact absurd hE (by decide)
  · rw [if_neg h3] at hE; exact absurd hE (by decide)
theorem tok_room {s : St} {mt r : Nat} {t : ByteArray} (hE : tokE s t mt r = 0) : xroomB (s.token t (cntN s.lock.o.anchor t mt)) r = true := by
  unfold tokE at hE
  by_cases hc : s.closed = true
  · rw [if_pos hc] at hE; exact absurd hE (by decide)
  rw [if_neg hc] at hE
  by_cases h1 : cntE s.lock.o.anchor t mt ≠ 0
  · rw [if_pos h1] at hE; exact absurd hE h1
  rw [if_neg h1] at hE
  by_cases h2 : cntN s.lock.o.anchor t mt ≤ s.tokens
  · rw [if_pos h2] at hE; exact absurd hE (by decide)
  rw [if_neg h2] at hE
  by_cases h4 : xroomB (s.token t (cntN s.lock.o.anchor t mt)) r = true
  · exact h4
  · rw [if_neg h4] at hE; exact absurd hE (by decide)
/-- the channel behind any of the calls -/
structure LpS (s : St) (cl gt : ByteArray) (am mo : Nat) : Prop where
  l : s.lock :: s.tops = lkT1 cl gt am mo 5
  sh : ShI s 5
  inv : Inv s 5
  le : worthV s ≤ wholeV s
section
variable {s : St} {cl gt : ByteArray} {am mo : Nat}
theorem LpS.lists (h : LpS s cl gt am mo) (A : Option Addr) (c : Nat) (B : Option Addr) (d : Nat) : LpS (s.lists A c B d) cl gt am mo := ⟨h.l, h.sh.lists A c B d, h.inv.lists A c B d, h.le⟩
theorem LpS.vou (h : LpS s cl gt am mo) {v : Nat} {sg : ByteArray} (hv : v < 18446744073709551616) (hE : vouE s v sg 0 = 0) : LpS (s.vouch v sg) cl gt am mo :=
  ⟨h.l, vou_sh h.sh hE, ⟨⟨h.inv.good.fit.vouch hv _, h.inv.good.an, h.inv.good.tok, h.inv.good.mt, h.inv.good.tops, h.inv.good.wins⟩, h.inv.tops, h.inv.wins⟩, room_le (vou_room hE)⟩
theorem LpS.tok (h : LpS s cl gt am mo) {t : ByteArray} (hE : tokE s t 5 0 = 0) : LpS (s.token t (cntN s.lock.o.anchor t 5)) cl gt am mo :=
  ⟨h.l, tok_sh h.sh hE, ⟨⟨h.inv.good.fit.token t (Nat.le_trans (cntN_le _ _ _ (cnt_ex _ _ _)) (by decide)), h.inv.good.an, h.inv.good.tok, h.inv.good.mt, h.inv.good.tops, h.inv.good.wins⟩, h.inv.tops, h.inv.wins⟩, room_le (tok_room hE)⟩
end
section
variable {cl gt : ByteArray} {am mo : Nat}
/-- the lock's entry -/
def lpX (cl gt : ByteArray) (am mo : Nat) : En := ⟨lkX1 cl gt am mo 5, 0, lkoL cl gt am 5⟩
def lpY (cl gt : ByteArray) (am mo : Nat) : En := ⟨lkX1 cl gt am mo 5, 1, lkoM cl gt mo 5 (nameO (lkX1 cl gt am mo 5) 0)⟩
theorem lkX1_sz (cl gt : ByteArray) (am mo ex : Nat) : (lkX1 cl gt am mo ex).size = 16 := by
  unfold lkX1; split
  · exact tagB_size _ _
  · exact lkx_size _ _ _ _ _
theorem lp_newB (h : LkOk1 cl gt am mo 5) : newB (lpX cl gt am mo) (fitsB (lpX cl gt am mo).o) = true := by
  unfold newB
  have e : fitsB (lpX cl gt am mo).o = true := lk1_fits h
  rw [e]; rfl
theorem lp_inv (h : LkOk1 cl gt am mo 5) : Inv (newS (lpX cl gt am mo)) 5 :=
  ⟨⟨⟨h.am, by show (3 : Nat) < _; decide, by show (0 : Nat) < _; decide, Nat.zero_le _, by show (0 : Nat) < _; decide, by show (0 : Nat) < _; decide, (by intro e he; cases he), Nat.zero_le _, Nat.zero_le _, by show (lkX1 cl gt am mo 5).size ≤ _; rw [lkX1_sz]; decide⟩, tokB_size wTok 5 0, rfl, by decide, Nat.zero_le _, Nat.zero_le _⟩, Nat.zero_le _, Nat.zero_le _⟩
theorem lp_new (h : LkOk1 cl gt am 0 5) : LpS (newS (lpX cl gt am 0)) cl gt am 0 :=
  ⟨(by rw [lk1_list, if_pos rfl]; rfl), new_sh _ _, lp_inv h, by rw [new_worth]; exact (wholeV_bd _).1⟩
theorem lp_fitY (h : LkOk1 cl gt am mo 5) (hm : mo ≠ 0) : fitsB (lpY cl gt am mo).o = true := by
  have h2 : LkOk cl gt am mo 5 := ⟨h.cl, h.gt, h.am0, h.am, by omega, h.mo, h.ex0, h.ex⟩
  have hn := lk_fits h2 (nameO (lkX1 cl gt am mo 5) 0) (nameO_size _ _)
  unfold newU at hn
  simp only [Bool.and_eq_true, List.all_cons] at hn
  exact hn.2.2.1
theorem lp_moreE (h : LkOk1 cl gt am mo 5) (hm : mo ≠ 0) : moreE (newS (lpX cl gt am mo)) (lpY cl gt am mo) (fitsB (lpY cl gt am mo).o) = 0 := by
  rw [lp_fitY h hm]
  have h1 : mustB (newS (lpX cl gt am mo)) (lpY cl gt am mo) true = true := by
    show (decide ((3 : Int) = 3) && true && decide (nameO (lkX1 cl gt am mo 5) 0 = nameO (lkX1 cl gt am mo 5) 0) && decide (cl = cl) && decide (gt = gt) && decide (((5 : Nat) : Int) = ((5 : Nat) : Int))) = true
    simp
  have h2 : sameP (newS (lpX cl gt am mo)).lock (lpY cl gt am mo) = false := by
    unfold sameP
    rw [Bool.and_eq_false_iff]
    exact .inr (decide_eq_false (by show ¬ ((0 : Int) = 1); decide))
  unfold moreE
  rw [h1, h2]
  rfl
theorem lp_top (h : LkOk1 cl gt am mo 5) (hm : mo ≠ 0) : LpS ((newS (lpX cl gt am mo)).addtop (lpY cl gt am mo)) cl gt am mo := by
  have hi := lp_inv h
  have hw : worthV ((newS (lpX cl gt am mo)).addtop (lpY cl gt am mo)) = 0 := new_worth (lpX cl gt am mo)
  refine ⟨(by rw [lk1_list, if_neg hm]; rfl), more_sh _ (new_sh _ _), ⟨⟨⟨hi.good.fit.lam, hi.good.fit.lunit, hi.good.fit.am, hi.good.fit.tokens, hi.good.fit.faces, hi.good.fit.nominal, ?_, ?_, hi.good.fit.wins, hi.good.fit.tx⟩, hi.good.an, hi.good.tok, hi.good.mt, ?_, hi.good.wins⟩, ?_, hi.wins⟩, ?_⟩
  · intro e he
    have he' : e ∈ [lpY cl gt am mo] := he
    rw [List.mem_singleton.1 he']
    exact h.mo
  · show (1 : Nat) ≤ 1000; decide
  · show (1 : Nat) ≤ 900; decide
  · show (1 : Nat) ≤ 3; decide
  · rw [hw]; exact (wholeV_bd _).1
end
section
variable {s : St} {cl gt : ByteArray} {am mo : Nat}
theorem LpS.lock (h : LpS s cl gt am mo) : s.lock = lpX cl gt am mo := by
  have := h.l
  rw [lk1_list] at this
  exact (List.cons.inj this).1
theorem LpS.whole (h : LpS s cl gt am mo) (h64 : am + mo < 18446744073709551616) : wholeV s = ((am + mo : Nat) : Int) := by
  have e : topsI (s.lock :: s.tops) = (s.lock.o.am : Int) :: topsI s.tops := rfl
  have ht := lk1_tot cl gt am mo 5
  rw [← h.l, e] at ht
  have := (whole_tot s (by omega)).1
  rw [← this]
  unfold totV
  rw [ht, if_pos (by omega)]
theorem LpS.on (h : LpS s cl gt am mo) (A : Option Addr) (c : Nat) (B : Option Addr) (d : Nat) (PA : Option Addr) (pc : Nat) : InsOn (buildX s A c B d PA pc) (lkT1 cl gt am mo 5) 2 := by
  refine ⟨?_, ?_⟩
  · show (insOf (s.lock :: s.tops) 2 ByteArray.empty).map noSig = _
    rw [h.l]; unfold insOf; rw [List.map_map]; rfl
  · intro i hi
    obtain ⟨e, _, rfl⟩ := List.mem_map.1 hi
    show (0 : Nat) ≤ 400
    decide
theorem LpS.outs (h : LpS s cl gt am mo) (h10 : 10 < worthV s) : paysL s.lock (worthV s).toNat (wholeV s).toNat = paysO (lpX cl gt am mo) (worthV s).toNat (wholeV s).toNat := by
  have := h.le
  unfold paysL
  rw [if_neg (by omega), h.lock]
theorem LpS.fits (h : LpS s cl gt am mo) (hk : LkOk1 cl gt am mo 5) (h10 : 10 < worthV s) : (∀ o ∈ paysL s.lock (worthV s).toNat (wholeV s).toNat, fitsB o = true ∧ o.kind = 1) ∧ 1 ≤ (paysL s.lock (worthV s).toNat (wholeV s).toNat).length ∧ (paysL s.lock (worthV s).toNat (wholeV s).toNat).length ≤ 4 := by
  rw [h.outs h10]
  have := pays_len (lpX cl gt am mo) (worthV s).toNat (wholeV s).toNat
  exact ⟨pays_fit (by omega) hk.gt hk.cl, this.1, by omega⟩
theorem LpS.right (h : LpS s cl gt am mo) (hk : LkOk1 cl gt am mo 5) (hs : SrtE (lkT1 cl gt am mo 5)) (hok : ∀ e ∈ lkT1 cl gt am mo 5, e.okp) (h10 : 10 < worthV s) (A : Option Addr) (c : Nat) (B : Option Addr) (d : Nat) (PA : Option Addr) (pc : Nat) : rightT (buildX s A c B d PA pc) = true := by
  have hl := lk1_len cl gt am mo 5
  have hf := h.fits hk h10
  refine (h.on A c B d PA pc).right hs hok ⟨hl.1, by omega⟩ (by decide) ?_ ?_ (sh_right h.sh h.inv.wins PA pc)
  · rw [buildX_outs]; exact hf.2
  · rw [buildX_outs]; exact fun o ho => (hf.1 o ho).1
theorem LpS.build (h : LpS s cl gt am mo) (hk : LkOk1 cl gt am mo 5) (hs : SrtE (lkT1 cl gt am mo 5)) (hok : ∀ e ∈ lkT1 cl gt am mo 5, e.okp) : buildE s = if 10 < worthV s then 0 else 11 := by
  have hle := h.le
  unfold buildE
  by_cases h10 : 10 < worthV s
  · rw [if_pos h10]
    have e : paysF (worthV s).toNat (wholeV s).toNat = 0 := by unfold paysF; rw [if_neg (by omega)]
    unfold lookF
    rw [e, if_pos rfl, if_pos (h.right hk hs hok h10 _ _ _ _ _ _)]
  · rw [if_neg h10]
    have e : paysF (worthV s).toNat (wholeV s).toNat = 11 := by unfold paysF; rw [if_pos (by omega)]
    unfold lookF
    rw [e, if_neg (by decide)]
/-- the claim, signed -/
def lpU (s : St) (A : Option Addr) (c : Nat) (B : Option Addr) (d : Nat) (PA : Option Addr) (pc : Nat) (sig : ByteArray) : Txn := sgA (buildX s A c B d PA pc) sig
theorem LpS.onU (h : LpS s cl gt am mo) {sig : ByteArray} (hz : sig.size ≤ 400) (A : Option Addr) (c : Nat) (B : Option Addr) (d : Nat) (PA : Option Addr) (pc : Nat) : InsOn (lpU s A c B d PA pc sig) (lkT1 cl gt am mo 5) 2 := by
  refine ⟨?_, ?_⟩
  · show ((insOf (s.lock :: s.tops) 2 ByteArray.empty).map (sgI sig)).map noSig = _
    rw [h.l]; unfold insOf; rw [List.map_map, List.map_map]; rfl
  · intro i hi
    obtain ⟨e, _, rfl⟩ := List.mem_map.1 hi
    exact hz
theorem LpS.core (h : LpS s cl gt am mo) (hk : LkOk1 cl gt am mo 5) (hs : SrtE (lkT1 cl gt am mo 5)) (hok : ∀ e ∈ lkT1 cl gt am mo 5, e.okp) (h10 : 10 < worthV s) : coreX (buildX s none 0 none 0 none 0) = coreOn (lkT1 cl gt am mo 5) 2 (paysL s.lock (worthV s).toNat (wholeV s).toNat) := by
  rw [(h.on none 0 none 0 none 0).core (h.right hk hs hok h10 _ _ _ _ _ _), buildX_outs]
theorem lpU_outs (A : Option Addr) (c : Nat) (B : Option Addr) (d : Nat) (PA : Option Addr) (pc : Nat) (sig : ByteArray) : (lpU s A c B d PA pc sig).outs = paysL s.lock (worthV s).toNat (wholeV s).toNat := by simp only [lpU, sgA, buildX]
theorem lpU_p (A : Option Addr) (c : Nat) (B : Option Addr) (d : Nat) (PA : Option Addr) (pc : Nat) (sig : ByteArray) : (lpU s A c B d PA pc sig).p = s.pf PA pc := by simp only [lpU, sgA, buildX, St.pf]
theorem LpS.rightU (h : LpS s cl gt am mo) (hk : LkOk1 cl gt am mo 5) (hs : SrtE (lkT1 cl gt am mo 5)) (hok : ∀ e ∈ lkT1 cl gt am mo 5, e.okp) (h10 : 10 < worthV s) {sig : ByteArray} (hz : sig.size ≤ 400) (A : Option Addr) (c : Nat) (B : Option Addr) (d : Nat) (PA : Option Addr) (pc : Nat) : rightT (lpU s A c B d PA pc sig) = true := by
  have hl := lk1_len cl gt am mo 5
  have hf := h.fits hk h10
  refine (h.onU hz A c B d PA pc).right hs hok ⟨hl.1, by omega⟩ (by decide) ?_ ?_ ?_
  · rw [lpU_outs]; exact hf.2
  · rw [lpU_outs]; exact fun o ho => (hf.1 o ho).1
  · rw [lpU_p]; exact sh_right h.sh h.inv.wins PA pc
theorem LpS.check (h : LpS s cl gt am mo) (hk : LkOk1 cl gt am mo 5) (hs : SrtE (lkT1 cl gt am mo 5)) (hok : ∀ e ∈ lkT1 cl gt am mo 5, e.okp) (h10 : 10 < worthV s) (h64 : am + mo < 18446744073709551616) {sig : ByteArray} (hz : sig.size ≤ 400) (A : Option Addr) (c : Nat) (B : Option Addr) (d : Nat) (PA : Option Addr) (pc : Nat)
    (hv : verB gt (coreOn (lkT1 cl gt am mo 5) 2 (paysL s.lock (worthV s).toNat (wholeV s).toNat)) sig = true) (hh : Int) : checkE (lkT1 cl gt am mo 5) (lpU s A c B d PA pc sig) hh = 0 := by
  have hl := lk1_len cl gt am mo 5
  have hf := h.fits hk h10
  have hi := h.onU hz A c B d PA pc
  have hle := h.le
  have hw := h.whole h64
  have hwn : (wholeV s).toNat = am + mo := by omega
  have hpt := pays_tot (lpX cl gt am mo) (v := (worthV s).toNat) (n := am + mo) (by omega) (by omega)
  have hsg : ∀ i ∈ (lpU s A c B d PA pc sig).ins, i.sig = sig := by
    intro i hi
    obtain ⟨e, _, rfl⟩ := List.mem_map.1 hi
    rfl
  rw [check_claim hi hs (by omega) (lk1_chan cl gt am mo 5) (h.rightU hk hs hok h10 hz A c B d PA pc) (fun i q => by rw [hsg i q, lpU_outs]; exact hv) (by rw [lpU_outs, h.outs h10, hwn]; exact sums_ok (lk1_tot cl gt am mo 5) h64 hpt.1 hpt.2) (by rw [lpU_outs]; exact fun o ho => (hf.1 o ho).2), lk1_0, totV_n (lk1_tot cl gt am mo 5) h64]
  have e1 : worF (enT (lpX cl gt am mo) (lpX cl gt am mo).o.tok.toNat) (lpU s A c B d PA pc sig).p = (worthV s, 0) := by
    rw [lpU_p, ← h.lock]
    have := wor_sh h.sh h.inv.wins PA pc
    have e : s.lock.o.tok.toNat = 5 := by rw [h.inv.good.tok]; rfl
    rw [e]
    exact this
  show claimsE (lpX cl gt am mo) (lpU s A c B d PA pc sig) (am + mo) = 0
  unfold claimsE
  rw [hi.path0 (lk1_chan cl gt am mo 5).pos, e1, lpU_outs, h.outs h10, hwn]
  have e2 : eqLo (paysO (lpX cl gt am mo) (worthV s).toNat (am + mo)) (paysO (lpX cl gt am mo) (worthV s).toNat (am + mo)) = true := (eqLo_iff _ _).2 rfl
  simp only [ne_eq, not_true_eq_false, if_false]
  rw [if_neg (by omega), e2, if_pos rfl]
theorem LpS.ok (h : LpS s cl gt am mo) (A : Option Addr) (c : Nat) (B : Option Addr) (d : Nat) (PA : Option Addr) (pc : Nat) (sig : ByteArray) : TxOk (lpU s A c B d PA pc sig) := by
  have hl := lk1_len cl gt am mo 5
  refine ⟨?_, ?_, ?_, ?_⟩
  · show ((insOf (s.lock :: s.tops) 2 ByteArray.empty).map (sgI sig)).length ≤ 1000
    rw [List.length_map, insOf_len, h.l]; omega
  · rw [lpU_outs]; unfold paysL
    split
    · simp
    · have := pays_len s.lock (worthV s).toNat (wholeV s).toNat
      omega
  · rw [lpU_p]
    exact ⟨Nat.le_trans h.inv.wins (by decide), h.sh.fit, Nat.le_trans h.sh.sig (by decide), h.inv.good.fit.am⟩
  · rw [lpU_outs]; exact build_outs s
end
end Go.Proofs.YtjcinncphffgaaaGreat
