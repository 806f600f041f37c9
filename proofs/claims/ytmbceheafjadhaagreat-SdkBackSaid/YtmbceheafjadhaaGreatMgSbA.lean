/- SdkBack: what brings back one channel's lock: as a transaction of utxo's. -/
import Derived.Test.YtmbceheafjadhaaGreatMgClmA
import Derived.Test.YtmbceheafjadhaaGreatMgG38
import Derived.Test.YtmbceheafjadhaaGreatMgG39
set_option linter.unusedVariables false
set_option linter.unusedSimpArgs false
namespace Go.Proofs.YtmbceheafjadhaaGreat
open Go.RowKit Go.Maps
theorem pfok_noS : PfOk noPf := ⟨by decide, (fun x hx => by cases hx), by decide, by decide⟩
/-- one channel's output -/
def lockO (am : Nat) (key gate : ByteArray) (ex : Int) (an : ByteArray) (unit : Nat) (tok : Int) : Ou := ⟨2, am, key, gate, ex, an, unit, tok, ByteArray.empty⟩
def backT (gi ci go co : Nat) (tx : ByteArray) (am : Nat) (key sig : ByteArray) : Txn := ⟨some ⟨gi, 0, none⟩, [⟨tx, 0, 3, sig⟩], ci, some ⟨go, 0, none⟩, [payO am key], co, noPf⟩
theorem backt_cs (gi ci go co : Nat) (tx : ByteArray) (am : Nat) (key sig : ByteArray) : (backT gi ci go co tx am key sig).cs = txC gi ci go co := rfl
theorem sl_part {α : Type} {W : World} {g : Nat} {t : TypeId} {cur : Array Value} {k : Nat} {en : α → List Value} {x : α} (hb : Blk W g t cur) (he : cur.extract 0 (0 + k) = (en x).toArray) (hl : (en x).length = k) (hk : 0 + k ≤ cur.size) : Sl W W.heap.size k en (some ⟨g, 0, none⟩) [x] := fun _ => by
  refine ⟨g, 0, rfl, hb.lt, fun i y hy j u hu => ?_⟩
  cases i with
  | succ i => simp at hy
  | zero =>
    injection hy with hy
    subst hy
    have hj : j < k := by have := (List.getElem?_eq_some_iff.1 hu).1; rw [hl] at this; exact this
    rw [hb.cell, Nat.zero_add, Nat.zero_mul, Nat.zero_add]
    have h1 : (cur.extract 0 (0 + k))[j]? = cur[j]? := by
      rw [Array.getElem?_extract]
      rw [if_pos (by omega), Nat.zero_add]
    rw [← h1, he]
    simpa using hu
theorem backt_mem {W : World} {gi ci go co : Nat} {tx : ByteArray} {am : Nat} {key sig : ByteArray} (h1 : Ins1 W gi tx 0 3 sig) (h2 : Outs1 W go am key) : (backT gi ci go co tx am key sig).mem W := by
  obtain ⟨c1, a1, a2, a3⟩ := h1
  obtain ⟨c2, b1, b2, b3⟩ := h2
  exact ⟨sl_part (x := (⟨tx, 0, 3, sig⟩ : Inp)) a1 a2 rfl a3, sl_part (x := payO am key) b1 b2 rfl b3, Sl.nil _ _ _ _ _⟩
theorem backt_on (gi ci go co : Nat) (tx : ByteArray) (am : Nat) (key sig : ByteArray) (o : Ou) (hs : sig.size ≤ 400) : InsOn (backT gi ci go co tx am key sig) [⟨tx, 0, o⟩] 3 := ⟨rfl, fun i hi => by rw [List.mem_singleton.1 hi]; exact hs⟩
theorem core_b (tx : ByteArray) (am : Nat) (key : ByteArray) (o : Ou) : coreB tx 0 3 am key = coreOn [⟨tx, 0, o⟩] 3 [payO am key] := rfl
section
variable {tx cl gt an sig : ByteArray} {am unit gi ci go co : Nat} {ex tok : Int}
theorem one_chan (tx cl gt an : ByteArray) (am unit : Nat) (ex tok : Int) : ChanL [⟨tx, 0, lockO am cl gt ex an unit tok⟩] cl gt ex :=
  ⟨by simp, fun _ => rfl, fun j h h0 => by simp at h; omega, fun e he => by rw [List.mem_singleton.1 he]; rfl, fun e he => by rw [List.mem_singleton.1 he]; rfl, fun e he => by rw [List.mem_singleton.1 he]; rfl⟩
theorem one_srt (e : En) : SrtE [e] := List.pairwise_singleton _ _
theorem sb_right (h1 : tx.size = 16) (h2 : 10 < am) (h3 : cl.size = 16) (hs : sig.size ≤ 400) : rightT (backT gi ci go co tx (am - 10) cl sig) = true :=
  (backt_on gi ci go co tx (am - 10) cl sig (lockO am cl ByteArray.empty 0 ByteArray.empty 0 0) hs).right (one_srt _) (fun e he => by rw [List.mem_singleton.1 he]; exact ⟨h1, by show (0 : Int) ≤ 0; decide, by show (0 : Int) < 256; decide⟩) ⟨by simp, by simp⟩ (by decide) ⟨by show 1 ≤ 1; decide, by show 1 ≤ 4; decide⟩ (fun o ho => by rw [List.mem_singleton.1 ho]; exact fits_payO (by omega) h3) right_none
theorem sb_late (h1 : tx.size = 16) (h2 : 10 < am) (h3 : cl.size = 16) (hs : sig.size ≤ 400) {hh : Int} (hx : hh < ex) : checkE [⟨tx, 0, lockO am cl gt ex an unit tok⟩] (backT gi ci go co tx (am - 10) cl sig) hh = 12 :=
  check_late (backt_on gi ci go co tx (am - 10) cl sig _ hs) (one_srt _) (one_chan ..) (sb_right h1 h2 h3 hs) none_none hx
theorem sb_ok (h1 : tx.size = 16) (h2 : 10 < am) (h3 : cl.size = 16) (hs : sig.size ≤ 400) (h64 : am < 18446744073709551616) {hh : Int} (hx : ex ≤ hh) (hv : verB cl (coreB tx 0 3 (am - 10) cl) sig = true) : checkE [⟨tx, 0, lockO am cl gt ex an unit tok⟩] (backT gi ci go co tx (am - 10) cl sig) hh = 0 := by
  have e : totI (ousI [payO (am - 10) cl]) = ((am - 10 : Nat) : Int) + 0 := rfl
  have e2 : totI (topsI [⟨tx, 0, lockO am cl gt ex an unit tok⟩]) = ((am : Nat) : Int) := by show (am : Int) + 0 = _; omega
  exact check_refund (backt_on gi ci go co tx (am - 10) cl sig _ hs) (one_srt _) (one_chan ..) (sb_right h1 h2 h3 hs) none_none hx (fun i hi => by rw [List.mem_singleton.1 hi]; exact hv) (sums_ok e2 h64 (by show totI (ousI [payO (am - 10) cl]) + 10 = _; rw [e]; omega) (by show 0 ≤ totI (ousI [payO (am - 10) cl]); rw [e]; omega)) (fun o ho => by rw [List.mem_singleton.1 ho]; rfl)
theorem sb_apply (hs : sig.size ≤ 400) (o : Ou) : applyT [⟨tx, 0, o⟩] (backT gi ci go co tx am cl sig) = utN (idT (backT gi ci go co tx am cl sig)) [payO am cl] := (backt_on gi ci go co tx am cl sig o hs).apply
theorem sb_txok (hs : sig.size ≤ 400) (ha : am < 18446744073709551616) : TxOk (backT gi ci go co tx am cl sig) := ⟨by show (1 : Nat) ≤ 1000; decide, by show (1 : Nat) ≤ 1000; decide, pfok_noS, fun o ho => by rw [List.mem_singleton.1 ho]; exact ⟨ha, by show (0 : Nat) < _; decide⟩⟩
theorem lock_fits (h1 : 0 < am) (h2 : cl.size = 16) (h3 : gt.size = 16) (h4 : an.size = 16) (h5 : 1 ≤ ex ∧ ex ≤ 4294967295) (h6 : 0 ≤ tok ∧ tok ≤ 4096) : fitsB (lockO am cl gt ex an unit tok) = true := by
  show fits2B am cl gt an ByteArray.empty ex unit tok = true
  unfold fits2B
  have e : ByteArray.empty.size = 0 := rfl
  simp [h1, h2, h3, h4, h5.1, h5.2, h6.1, h6.2, e]
end
end Go.Proofs.YtmbceheafjadhaaGreat
