/- UtxoClaims: the walk's small parts. -/
import Derived.Test.YtdoebmikjgmnaaaGreatMgUcJ
set_option linter.unusedVariables false
set_option linter.unusedSimpArgs false
namespace Go.Proofs.YtdoebmikjgmnaaaGreat
open Go.RowKit Go.Maps
theorem and16_le (ht : Int) : (BitVec.ofInt 64 ht &&& BitVec.ofInt 64 65535).toNat ≤ 65535 := by
  rw [BitVec.toNat_and]
  exact Nat.le_trans Nat.and_le_right (by decide)
theorem and16_bits (ht : Int) : bits BinOp.and IntKind.i64 ht 65535 = (((BitVec.ofInt 64 ht &&& BitVec.ofInt 64 65535).toNat : Nat) : Int) := by
  have h := and16_le ht
  have hw : IntKind.i64.wrap (((BitVec.ofInt 64 ht &&& BitVec.ofInt 64 65535).toNat : Nat) : Int) = (((BitVec.ofInt 64 ht &&& BitVec.ofInt 64 65535).toNat : Nat) : Int) := by
    generalize (BitVec.ofInt 64 ht &&& BitVec.ofInt 64 65535).toNat = n at h ⊢
    simp [IntKind.wrap, IntKind.bits, IntKind.signed]; omega
  exact hw
theorem wrap1 {m : Nat} (h : m ≤ 65535) : wrap64 (1 + (m : Int)) = 1 + (m : Int) := by unfold wrap64; omega
section
variable {cl gt : ByteArray} {am mo ex : Nat}
theorem claim1_right (h : LkOk1 cl gt am mo ex) (hs : SrtE (lkT1 cl gt am mo ex)) (hok : ∀ e ∈ lkT1 cl gt am mo ex, e.okp) {t : Txn} {v : Nat} {sgv : ByteArray} (hi : InsOn t (lkT1 cl gt am mo ex) 2) (hp : t.p = vouP v sgv) (ho : t.outs = paysO ⟨lkX1 cl gt am mo ex, 0, lkoL cl gt am ex⟩ v (am + mo))
    (hv0 : 10 < v) (hz : sgv.size ≤ 400) : rightT t = true := by
  have hl := lk1_len cl gt am mo ex
  have hf : ∀ o ∈ t.outs, fitsB o = true ∧ o.kind = 1 := by rw [ho]; exact pays_fit hv0 h.gt h.cl
  exact hi.right hs hok ⟨hl.1, by omega⟩ (by decide) (by have := pays_len ⟨lkX1 cl gt am mo ex, 0, lkoL cl gt am ex⟩ v (am + mo); rw [ho]; omega) (fun o k => (hf o k).1) (by rw [hp]; exact right_vou v sgv hz)
end
theorem pays_z (x : En) {v n : Nat} (h : n < 18446744073709551616) (hv : v ≤ n) : ∀ o ∈ paysO x v n, o.am < 18446744073709551616 ∧ o.unit < 18446744073709551616 := by
  intro o ho
  unfold paysO at ho
  rcases List.mem_cons.1 ho with rfl | ho
  · exact ⟨by show v - 10 < _; omega, by show (0 : Nat) < _; decide⟩
  · by_cases q : v < n
    · rw [if_pos q, List.mem_singleton] at ho
      rw [ho]
      exact ⟨by show n - v < _; omega, by show (0 : Nat) < _; decide⟩
    · rw [if_neg q] at ho; cases ho
theorem topsI_utN (id : ByteArray) (l : List Ou) : topsI (utN id l) = ousI l := by
  apply List.ext_getElem?
  intro i
  unfold topsI utN ousI
  simp [List.getElem?_mapIdx]; rfl
theorem utN_ams {id : ByteArray} {l : List Ou} (h : ∀ o ∈ l, o.am < 18446744073709551616 ∧ o.unit < 18446744073709551616) : ∀ e ∈ utN id l, e.o.am < 18446744073709551616 := by
  intro e he
  obtain ⟨i, hi, rfl⟩ := List.mem_mapIdx.1 he
  exact (h _ (List.getElem_mem hi)).1
theorem pays_head (x : En) (v n : Nat) : (paysO x v n)[0]? = some (payO (v - 10) x.o.gate) := rfl
theorem Ut.obj {w : World} {b : Nat} {T : List En} (h : Ut w b T) : (∀ cs t fr, w.heap[b]? ≠ some (Obj.cells cs t fr)) := by
  obtain ⟨D, ⟨es, clock, hb, _⟩, _⟩ := h.own
  intro cs t fr e
  rw [hb] at e; cases e
theorem KeyAt.set {w w' : World} {kb cb h i sb b : Nat} {seed : ByteArray} {T : List En} (k : KeyAt w kb cb seed h i) (s : SetAt w sb b T) (hc : Ch [b] w w') : KeyAt w' kb cb seed h i := by
  obtain ⟨cs, hk⟩ := k.hd
  refine k.ch hc (by have := s.ut.ne_blk hk; simpa using Ne.symm this) (by have := s.ut.ne_blk k.cnt; simpa using Ne.symm this) (fun g hg cs fr => ?_)
  simp at hg; subst hg
  exact s.ut.obj cs _ fr
theorem cell_obj {w : World} {b off : Nat} {v : Value} (h : w.cell? ⟨b, off, none⟩ = some v) : ∃ cs t fr, w.heap[b]? = some (Obj.cells cs t fr) := by
  unfold World.cell? at h
  cases hb : w.heap[b]? with
  | none => rw [hb] at h; simp at h
  | some o => cases o with
    | cells cs t fr => exact ⟨cs, t, fr, rfl⟩
    | _ => rw [hb] at h; simp at h
theorem rows_set {w w' : World} {ab off sb b : Nat} {T : List En} {cl : List Value} (h0 : cl ≠ []) (hr : ∀ j v, cl[j]? = some v → w.cell? ⟨ab, off + j, none⟩ = some v) (hlt : ab < w.heap.size) (s : SetAt w sb b T) (hc : Ch [b] w w') : ∀ j v, cl[j]? = some v → w'.cell? ⟨ab, off + j, none⟩ = some v := by
  intro j v hv
  have hne : ab ≠ b := by
    rintro rfl
    obtain ⟨cs, t, fr, e⟩ := cell_obj (hr j v hv)
    exact s.ut.obj cs t fr e
  have e := hc.block ab hlt (by simpa using hne)
  rw [← hr j v hv]
  unfold World.cell?
  rw [e]
end Go.Proofs.YtdoebmikjgmnaaaGreat
