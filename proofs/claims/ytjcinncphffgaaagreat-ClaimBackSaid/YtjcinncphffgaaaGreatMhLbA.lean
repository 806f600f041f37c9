/- law18's ClaimBack: its plain part (no program). -/
import Derived.Test.YtjcinncphffgaaaGreatMhClF
import Derived.Test.YtjcinncphffgaaaGreatMhClH
import Derived.Test.YtjcinncphffgaaaGreatMhSgE
import Derived.Test.YtjcinncphffgaaaGreatMhSmC
set_option linter.unusedVariables false
set_option linter.unusedSimpArgs false
namespace Go.Proofs.YtjcinncphffgaaaGreat
open Go.RowKit Go.Maps
section
variable {t : Txn} {L T : List En} {path : Int}
theorem InsOn.spent_in (h : InsOn t L path) (hs : SrtE T) (hin : ∀ e ∈ L, e ∈ T) : spentT T t = L := by
  have h1 : spentT T t = (t.ins.map noSig).map (entD T) := by
    unfold spentT
    rw [List.map_map]; rfl
  rw [h1, h.eq, insOf, List.map_map]
  have h2 : ∀ e ∈ L, (entD T ∘ fun e => (⟨e.tx, e.out, path, ByteArray.empty⟩ : Inp)) e = id e := fun e he => entD_of hs (hin e he) path _
  rw [List.map_congr_left h2, List.map_id]
theorem InsOn.has_in (h : InsOn t L path) (hs : SrtE T) (hin : ∀ e ∈ L, e ∈ T) : t.ins.all (hasI T) = true := by
  rw [List.all_eq_true]
  intro i hi
  obtain ⟨k, hk, rfl⟩ := List.getElem_of_mem hi
  have hl : k < L.length := by rw [← h.len]; exact hk
  have h1 := h.at_ k hk
  have hp : t.ins[k].pt = L[k].pt := Prod.ext (congrArg Inp.tx h1) (congrArg Inp.out h1)
  unfold hasI
  rw [hp, getU_of_mem hs (hin _ (List.getElem_mem hl))]; rfl
/-- what spends some of more outputs, and makes payments alone -/
theorem InsOn.check_in (h : InsOn t L path) (hT : SrtE T) (hL : SrtE L) (hin : ∀ e ∈ L, e ∈ T) (hk : ∀ o ∈ t.outs, o.kind = 1) (hh : Int) : checkE T t hh = checkE L t hh := by
  have e1 : foundE T t = foundE L t := by
    unfold foundE
    rw [h.has_in hT hin, h.has hL]
  have e2 : (t.outs.map fun o => makesE T o hh) = t.outs.map fun o => makesE L o hh := List.map_congr_left fun o ho => by rw [makes_pay (hk o ho), makes_pay (hk o ho)]
  unfold checkE
  rw [h.spent_in hT hin, h.spent hL, e1, e2]
theorem check_plain {cl : ByteArray} (h : InsOn t L 1) (hs : SrtE L) (hn : 0 < L.length) (hk : ∀ e ∈ L, e.o.kind = 1 ∧ e.o.key = cl) (hr : rightT t = true) (hp : noneP t.p = true) (hv : ∀ i ∈ t.ins, verB cl (coreOn L 1 t.outs) i.sig = true) (hsum : sumsE L t.outs = 0) (hh : Int) : checkE L t hh = firstE (t.outs.map fun o => makesE L o hh) := by
  have e1 : foundE L t = 0 := h.found hs hn hr (.inr hp)
  have e2 : firstE (mayL L t (coreX t) hh) = 0 := firstE_zero _ (fun j hj => by
    obtain ⟨_, h1, h2, e, hpp⟩ := h.may (coreX t) hh j hj
    obtain ⟨k1, k2⟩ := hk _ (List.getElem_mem h1)
    rw [e]
    unfold mayE
    rw [if_pos hpp, if_pos k1, k2, h.core hr]
    unfold vkE
    rw [hv _ (List.getElem_mem h2)]; rfl)
  have e4 : claimsE (L.headD zEn) t (totV (topsI L)).toNat = 0 := by
    unfold claimsE
    rw [if_pos (by rw [h.path0 hn]; decide)]
  unfold checkE
  rw [h.spent hs, e1, e2, hsum, e4]
  simp
end
theorem insOn_sg (t : Txn) (L : List En) (path : Int) (sig : ByteArray) (A : Option Addr) (c : Nat) (B : Option Addr) (d : Nat) (PA : Option Addr) (pc : Nat) (h : t.ins = insOf L path ByteArray.empty) (hs : sig.size ≤ 400) : InsOn (sgA (cpT t A c B d PA pc) sig) L path := by
  refine ⟨?_, ?_⟩
  · show (t.ins.map (sgI sig)).map noSig = _
    rw [h]; unfold insOf; rw [List.map_map, List.map_map]; rfl
  · intro i hi
    obtain ⟨e, _, rfl⟩ := List.mem_map.1 hi
    exact hs
theorem sg_sigs {t : Txn} {sig : ByteArray} {A : Option Addr} {c : Nat} {B : Option Addr} {d : Nat} {PA : Option Addr} {pc : Nat} : ∀ i ∈ (sgA (cpT t A c B d PA pc) sig).ins, i.sig = sig := by
  intro i hi
  obtain ⟨e, _, rfl⟩ := List.mem_map.1 hi
  rfl
/-- what is locked -/
def lbO (cl : ByteArray) (lk ex : Nat) : Ou := lockO lk cl cl (ex : Int) cl 1 1
def lbX (cl fx : ByteArray) (W : Nat) : En := ⟨fx, 0, payO W cl⟩
/-- the numbers of a run of ClaimBack -/
structure LbV (cl fx : ByteArray) (W lk ex : Nat) : Prop where
  hcl : cl.size = 16
  hfx : fx.size = 16
  hw : W < 18446744073709551616
  hlk : lk + 10 ≤ W
  h11 : 11 ≤ lk
  hex : 1 ≤ ex ∧ ex ≤ 4294967295
section
variable {cl fx id sig : ByteArray} {W lk ex : Nat} {A B PA : Option Addr} {c d pc : Nat}
theorem lb_fit (h : LbV cl fx W lk ex) : fitsB (lbO cl lk ex) = true := lock_fits (by have := h.h11; omega) h.hcl h.hcl h.hcl (by have := h.hex; omega) (by decide)
theorem lb_outs (h : LbV cl fx W lk ex) : ∀ o ∈ fundO (lbX cl fx W) (lbO cl lk ex), fitsB o = true ∧ o.am < 18446744073709551616 ∧ o.unit < 18446744073709551616 := by
  have hw := h.hw
  have hl := h.hlk
  intro o ho
  unfold fundO at ho
  rcases List.mem_cons.1 ho with rfl | ho
  · exact ⟨lb_fit h, by show lk < _; omega, by show (1 : Nat) < _; decide⟩
  · by_cases q : (lbO cl lk ex).am + 10 < (lbX cl fx W).o.am
    · rw [if_pos q, List.mem_singleton] at ho
      have q' : lk + 10 < W := q
      rw [ho]
      exact ⟨fits_payO (by show 0 < W - (lk + 10); omega) h.hcl, by show W - (lk + 10) < _; omega, by show (0 : Nat) < _; decide⟩
    · rw [if_neg q] at ho; cases ho
theorem lb_len (x : En) (o : Ou) : 1 ≤ (fundO x o).length ∧ (fundO x o).length ≤ 2 := by
  unfold fundO
  split <;> simp
theorem lb_okp (h : LbV cl fx W lk ex) : ∀ e ∈ [lbX cl fx W], e.okp := fun e he => by
  rw [List.mem_singleton.1 he]; exact ⟨h.hfx, by show (0 : Int) ≤ 0; decide, by show (0 : Int) < 256; decide⟩
theorem right_nop (PA : Option Addr) (pc : Nat) : rightB ⟨0, ByteArray.empty, ByteArray.empty, PA, [], pc⟩ = true := right_none
theorem none_nop (PA : Option Addr) (pc : Nat) : noneP ⟨0, ByteArray.empty, ByteArray.empty, PA, [], pc⟩ = true := none_none
theorem pfok_nop (PA : Option Addr) (pc : Nat) : PfOk ⟨0, ByteArray.empty, ByteArray.empty, PA, [], pc⟩ := ⟨by show (0 : Nat) ≤ 1000; decide, (fun x hx => by cases hx), by show (0 : Nat) ≤ 1000000; decide, by show (0 : Nat) < 18446744073709551616; decide⟩
theorem lb_on (x : En) (o : Ou) : InsOn (fundX x o A c B d) [x] 1 := ⟨rfl, fun i hi => by rw [List.mem_singleton.1 hi]; show (0 : Nat) ≤ 400; decide⟩
theorem lb_right (h : LbV cl fx W lk ex) (A : Option Addr) (c : Nat) (B : Option Addr) (d : Nat) : rightT (fundX (lbX cl fx W) (lbO cl lk ex) A c B d) = true :=
  (lb_on _ _).right (one_srt _) (lb_okp h) ⟨by simp, by simp⟩ (by decide) (by have := lb_len (lbX cl fx W) (lbO cl lk ex); exact ⟨this.1, Nat.le_trans this.2 (by decide)⟩) (fun o ho => (lb_outs h o ho).1) right_none
theorem lb_fund (h : LbV cl fx W lk ex) : fundE (lbX cl fx W) (lbO cl lk ex) = 0 := by
  unfold fundE
  rw [if_neg (by show ¬ ((1 : Int) ≠ 1); simp), if_neg (by show ¬ (W < lk + 10); have := h.hlk; omega)]
  unfold lookF
  rw [if_pos rfl, if_pos (lb_right h _ _ _ _)]
/-- what is locked, signed -/
def lbU (cl fx : ByteArray) (W lk ex : Nat) (A0 : Option Addr) (c0 : Nat) (B0 : Option Addr) (d0 : Nat) (A : Option Addr) (c : Nat) (B : Option Addr) (d : Nat) (PA : Option Addr) (pc : Nat) (sig : ByteArray) : Txn := sgA (cpT (fundX (lbX cl fx W) (lbO cl lk ex) A0 c0 B0 d0) A c B d PA pc) sig
variable {A0 B0 : Option Addr} {c0 d0 : Nat}
theorem lbU_on (hs : sig.size ≤ 400) : InsOn (lbU cl fx W lk ex A0 c0 B0 d0 A c B d PA pc sig) [lbX cl fx W] 1 := insOn_sg _ _ _ _ _ _ _ _ _ _ rfl hs
theorem lbU_right (h : LbV cl fx W lk ex) (hs : sig.size ≤ 400) : rightT (lbU cl fx W lk ex A0 c0 B0 d0 A c B d PA pc sig) = true :=
  (lbU_on hs).right (one_srt _) (lb_okp h) ⟨by simp, by simp⟩ (by decide) (by have := lb_len (lbX cl fx W) (lbO cl lk ex); exact ⟨this.1, Nat.le_trans this.2 (by decide)⟩) (fun o ho => (lb_outs h o ho).1) (right_nop _ _)
theorem lb_core (h : LbV cl fx W lk ex) : coreX (fundX (lbX cl fx W) (lbO cl lk ex) A c B d) = coreOn [lbX cl fx W] 1 (fundO (lbX cl fx W) (lbO cl lk ex)) := (lb_on _ _).core (lb_right h _ _ _ _)
theorem lb_tot (h : LbV cl fx W lk ex) : totI (ousI (fundO (lbX cl fx W) (lbO cl lk ex))) + 10 = (W : Nat) ∧ 0 ≤ totI (ousI (fundO (lbX cl fx W) (lbO cl lk ex))) := by
  have hl := h.hlk
  unfold fundO
  by_cases q : (lbO cl lk ex).am + 10 < (lbX cl fx W).o.am
  · rw [if_pos q]
    have q' : lk + 10 < W := q
    show (lk : Int) + (((W - (lk + 10) : Nat) : Int) + 0) + 10 = (W : Nat) ∧ 0 ≤ (lk : Int) + (((W - (lk + 10) : Nat) : Int) + 0)
    omega
  · rw [if_neg q]
    have q' : ¬ lk + 10 < W := q
    show (lk : Int) + 0 + 10 = (W : Nat) ∧ 0 ≤ (lk : Int) + 0
    omega
theorem lbU_check (h : LbV cl fx W lk ex) (hs : sig.size ≤ 400) (hv : verB cl (coreOn [lbX cl fx W] 1 (fundO (lbX cl fx W) (lbO cl lk ex))) sig = true) (hh : Int) :
    checkE [lbX cl fx W] (lbU cl fx W lk ex A0 c0 B0 d0 A c B d PA pc sig) hh = if (ex : Int) ≤ hh then 12 else 0 := by
  obtain ⟨t1, t2⟩ := lb_tot h
  rw [check_plain (lbU_on hs) (one_srt _) (by simp) (cl := cl) (fun e he => by rw [List.mem_singleton.1 he]; exact ⟨rfl, rfl⟩) (lbU_right h hs) (none_nop _ _) (fun i hi => by rw [sg_sigs i hi]; exact hv)
    (sums_ok (n := W) (by show (W : Int) + 0 = _; omega) h.hw t1 t2) hh]
  show firstE ((fundO (lbX cl fx W) (lbO cl lk ex)).map fun o => makesE [lbX cl fx W] o hh) = _
  have e1 : makesE [lbX cl fx W] (lbO cl lk ex) hh = if (ex : Int) ≤ hh then 12 else 0 := by
    unfold makesE
    rw [if_pos (show (lbO cl lk ex).kind = 2 from rfl)]; rfl
  unfold fundO
  by_cases q : (lbO cl lk ex).am + 10 < (lbX cl fx W).o.am
  · rw [if_pos q]
    simp only [List.map_cons, List.map_nil, firstE, e1, makes_pay (show (payO _ _).kind = 1 from rfl)]
    by_cases g : (ex : Int) ≤ hh
    · rw [if_pos g]; rfl
    · rw [if_neg g]; rfl
  · rw [if_neg q]
    simp only [List.map_cons, List.map_nil, firstE, e1]
    by_cases g : (ex : Int) ≤ hh
    · rw [if_pos g]; rfl
    · rw [if_neg g]; rfl
theorem lbU_apply (hs : sig.size ≤ 400) : applyT [lbX cl fx W] (lbU cl fx W lk ex A0 c0 B0 d0 A c B d PA pc sig) = utN (idT (lbU cl fx W lk ex A0 c0 B0 d0 A c B d PA pc sig)) (fundO (lbX cl fx W) (lbO cl lk ex)) := (lbU_on hs).apply
theorem lbU_ok (h : LbV cl fx W lk ex) : TxOk (lbU cl fx W lk ex A0 c0 B0 d0 A c B d PA pc sig) := ⟨by show (1 : Nat) ≤ 1000; decide, Nat.le_trans (lb_len (lbX cl fx W) (lbO cl lk ex)).2 (by decide), pfok_nop _ _, fun o ho => (lb_outs h o ho).2⟩
theorem lb_T0 (h : LbV cl fx W lk ex) (h0 : 0 < W) : TOk [lbX cl fx W] := by
  have hf : fitsB (payO W cl) = true := fits_payO h0 h.hcl
  have hw := h.hw
  refine ⟨by simp, by simp, ?_, ?_, ?_, lb_okp h⟩ <;> intro e he <;> rw [List.mem_singleton.1 he]
  · exact hf
  · exact hw
  · show (0 : Nat) < _; decide
/-- what is there behind -/
theorem lb_T1 (h : LbV cl fx W lk ex) (hid : id.size = 16) : TOk (utN id (fundO (lbX cl fx W) (lbO cl lk ex))) := by
  have hl := lb_len (lbX cl fx W) (lbO cl lk ex)
  have hm : ∀ e ∈ utN id (fundO (lbX cl fx W) (lbO cl lk ex)), ∃ i : Nat, i < 2 ∧ e.tx = id ∧ e.out = (i : Int) ∧ e.o ∈ fundO (lbX cl fx W) (lbO cl lk ex) := by
    intro e he
    obtain ⟨i, hi, rfl⟩ := List.mem_mapIdx.1 he
    exact ⟨i, by omega, rfl, rfl, List.getElem_mem hi⟩
  refine ⟨by rw [utN_len]; omega, by rw [utN_len]; omega, ?_, ?_, ?_, ?_⟩ <;> intro e he <;> obtain ⟨i, hi, h1, h2, h3⟩ := hm e he
  · exact (lb_outs h _ h3).1
  · exact (lb_outs h _ h3).2.1
  · exact (lb_outs h _ h3).2.2
  · exact ⟨by rw [h1, hid], by rw [h2]; omega, by rw [h2]; omega⟩
theorem lb_y (cl fx id : ByteArray) (W lk ex : Nat) : (⟨id, 0, lbO cl lk ex⟩ : En) ∈ utN id (fundO (lbX cl fx W) (lbO cl lk ex)) := by
  have := utN_at id (fundO (lbX cl fx W) (lbO cl lk ex)) 0 (lb_len _ _).1
  exact this
theorem lb_lock (cl fx id : ByteArray) (W lk ex : Nat) : lockF (nameO id 0) (utN id (fundO (lbX cl fx W) (lbO cl lk ex))) = some ⟨id, 0, lbO cl lk ex⟩ := by
  have hp : 0 < (utN id (fundO (lbX cl fx W) (lbO cl lk ex))).length := by rw [utN_len]; exact (lb_len _ _).1
  have e0 : (utN id (fundO (lbX cl fx W) (lbO cl lk ex)))[0] = ⟨id, 0, lbO cl lk ex⟩ := by
    have e1 : (utN id (fundO (lbX cl fx W) (lbO cl lk ex)))[0]? = some ⟨id, 0, lbO cl lk ex⟩ := by
      unfold utN
      rw [List.getElem?_mapIdx]; rfl
    rw [List.getElem?_eq_getElem hp] at e1
    exact Option.some.inj e1
  rw [lockF_at _ _ 0 hp (fun i hi q => absurd q (Nat.not_lt_zero i)) (by
    rw [e0, Bool.and_eq_true, decide_eq_true_eq, decide_eq_true_eq]
    exact ⟨rfl, rfl⟩), e0]
/-! the way back -/
theorem lb_yt (h : LbV cl fx W lk ex) : totE (topsI [(⟨id, 0, lbO cl lk ex⟩ : En)]) = 0 ∧ totV (topsI [(⟨id, 0, lbO cl lk ex⟩ : En)]) = (lk : Nat) := by
  have e : totI (topsI [(⟨id, 0, lbO cl lk ex⟩ : En)]) = (lk : Nat) := by show (lk : Int) + 0 = _; omega
  have hw := h.hw
  have hl := h.hlk
  unfold totE totV
  rw [e, if_pos (by omega), if_pos (by omega)]
  exact ⟨rfl, rfl⟩
theorem lb_bouts (h : LbV cl fx W lk ex) : (backX [(⟨id, 0, lbO cl lk ex⟩ : En)] cl A c B d).outs = [payO (lk - 10) cl] := by
  show [payO ((totV (topsI [(⟨id, 0, lbO cl lk ex⟩ : En)])).toNat - 10) cl] = _
  rw [(lb_yt h).2, Int.toNat_natCast]
theorem lb_yokp (hid : id.size = 16) : ∀ e ∈ [(⟨id, 0, lbO cl lk ex⟩ : En)], e.okp := fun e he => by
  rw [List.mem_singleton.1 he]; exact ⟨hid, by show (0 : Int) ≤ 0; decide, by show (0 : Int) < 256; decide⟩
theorem lb_bon : InsOn (backX [(⟨id, 0, lbO cl lk ex⟩ : En)] cl A c B d) [⟨id, 0, lbO cl lk ex⟩] 3 := ⟨rfl, fun i hi => by rw [List.mem_singleton.1 hi]; show (0 : Nat) ≤ 400; decide⟩
theorem lb_bright (h : LbV cl fx W lk ex) (hid : id.size = 16) (A : Option Addr) (c : Nat) (B : Option Addr) (d : Nat) : rightT (backX [(⟨id, 0, lbO cl lk ex⟩ : En)] cl A c B d) = true :=
  lb_bon.right (one_srt _) (lb_yokp hid) ⟨by simp, by simp⟩ (by decide) (by rw [lb_bouts h]; simp) (fun o ho => by rw [lb_bouts h, List.mem_singleton] at ho; rw [ho]; exact fits_payO (by have := h.h11; omega) h.hcl) right_none
theorem lb_bcore (h : LbV cl fx W lk ex) (hid : id.size = 16) : coreX (backX [(⟨id, 0, lbO cl lk ex⟩ : En)] cl A c B d) = coreOn [⟨id, 0, lbO cl lk ex⟩] 3 [payO (lk - 10) cl] := by
  rw [lb_bon.core (lb_bright h hid _ _ _ _), lb_bouts h]
theorem lb_back (h : LbV cl fx W lk ex) (hid : id.size = 16) : backE [(⟨id, 0, lbO cl lk ex⟩ : En)] cl = 0 := by
  unfold backE
  rw [(lb_yt h).1, (lb_yt h).2, if_neg (by simp), if_neg (by have := h.h11; omega), if_pos (lb_bright h hid _ _ _ _)]
def lbB (cl id : ByteArray) (lk ex : Nat) (A0 : Option Addr) (c0 : Nat) (B0 : Option Addr) (d0 : Nat) (A : Option Addr) (c : Nat) (B : Option Addr) (d : Nat) (PA : Option Addr) (pc : Nat) (sig : ByteArray) : Txn := sgA (cpT (backX [(⟨id, 0, lbO cl lk ex⟩ : En)] cl A0 c0 B0 d0) A c B d PA pc) sig
theorem lbB_outs (h : LbV cl fx W lk ex) : (lbB cl id lk ex A0 c0 B0 d0 A c B d PA pc sig).outs = [payO (lk - 10) cl] := lb_bouts (A := A0) (c := c0) (B := B0) (d := d0) h
theorem lbB_on (hs : sig.size ≤ 400) : InsOn (lbB cl id lk ex A0 c0 B0 d0 A c B d PA pc sig) [⟨id, 0, lbO cl lk ex⟩] 3 := insOn_sg _ _ _ _ _ _ _ _ _ _ rfl hs
theorem lbB_ok (h : LbV cl fx W lk ex) : TxOk (lbB cl id lk ex A0 c0 B0 d0 A c B d PA pc sig) := by
  have hw := h.hw
  have hl := h.hlk
  exact ⟨by show (1 : Nat) ≤ 1000; decide, by rw [lbB_outs h]; simp, pfok_nop _ _, fun o ho => by rw [lbB_outs h, List.mem_singleton] at ho; rw [ho]; exact ⟨by show lk - 10 < _; omega, by show (0 : Nat) < _; decide⟩⟩
theorem lbB_right (h : LbV cl fx W lk ex) (hid : id.size = 16) (hs : sig.size ≤ 400) : rightT (lbB cl id lk ex A0 c0 B0 d0 A c B d PA pc sig) = true :=
  (lbB_on hs).right (one_srt _) (lb_yokp hid) ⟨by simp, by simp⟩ (by decide) (by rw [lbB_outs h]; simp) (fun o ho => by rw [lbB_outs h, List.mem_singleton] at ho; rw [ho]; exact fits_payO (by have := h.h11; omega) h.hcl) (right_nop _ _)
theorem lbB_check (h : LbV cl fx W lk ex) (hid : id.size = 16) (hs : sig.size ≤ 400) (hT : SrtE (utN id (fundO (lbX cl fx W) (lbO cl lk ex)))) (hh : Int) (hx : hh < ex ∨ verB cl (coreOn [⟨id, 0, lbO cl lk ex⟩] 3 [payO (lk - 10) cl]) sig = true) :
    checkE (utN id (fundO (lbX cl fx W) (lbO cl lk ex))) (lbB cl id lk ex A0 c0 B0 d0 A c B d PA pc sig) hh = if hh < ex then 12 else 0 := by
  have hw := h.hw
  have hl := h.hlk
  have hk : ∀ o ∈ (lbB cl id lk ex A0 c0 B0 d0 A c B d PA pc sig).outs, o.kind = 1 := fun o ho => by rw [lbB_outs h, List.mem_singleton] at ho; rw [ho]; rfl
  have hc : ChanL [(⟨id, 0, lbO cl lk ex⟩ : En)] cl cl (ex : Int) := one_chan id cl cl cl lk 1 ex 1
  rw [(lbB_on hs).check_in hT (one_srt _) (fun e he => by rw [List.mem_singleton.1 he]; exact lb_y cl fx id W lk ex) hk hh]
  by_cases q : hh < ex
  · rw [if_pos q]
    exact check_late (lbB_on hs) (one_srt _) hc (lbB_right h hid hs) (none_nop _ _) q
  · rw [if_neg q]
    have hv := hx.resolve_left q
    have e : totI (ousI [payO (lk - 10) cl]) = ((lk - 10 : Nat) : Int) + 0 := rfl
    have h11 := h.h11
    exact check_refund (lbB_on hs) (one_srt _) hc (lbB_right h hid hs) (none_nop _ _) (by omega) (fun i hi => by rw [sg_sigs i hi, lbB_outs h]; exact hv) (by rw [lbB_outs h]; exact sums_ok (n := lk) (by show (lk : Int) + 0 = _; omega) (by omega) (by rw [e]; omega) (by rw [e]; omega)) hk
end
end Go.Proofs.YtjcinncphffgaaaGreat
