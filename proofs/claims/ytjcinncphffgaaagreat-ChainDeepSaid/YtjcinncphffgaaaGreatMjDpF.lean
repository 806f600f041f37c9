/- ChainDeep: what the walk carries. -/
import Derived.Test.YtjcinncphffgaaaGreatMjCrA
import Derived.Test.YtjcinncphffgaaaGreatMjDpE
set_option linter.unusedVariables false
set_option linter.unusedSimpArgs false
namespace Go.Proofs.YtjcinncphffgaaaGreat
open Go.RowKit Go.Maps
theorem Good.hgt {T0 : List En} {s : Cn} (h : Good T0 s) : ∀ (k : Nat) (y : Bk × List En), s.ls[k]? = some y → y.1.h = (k : Int) + 1 := by
  induction h with
  | new f hf => intro k y hy; cases hy
  | push s b hs hp ht ih =>
    intro k y hy
    have hy' : (s.ls ++ [(b, s.T)])[k]? = some y := hy
    by_cases hk : k < s.ls.length
    · rw [List.getElem?_append_left hk] at hy'
      exact ih k y hy'
    · rw [List.getElem?_append_right (by omega)] at hy'
      have h0 : k - s.ls.length = 0 := by
        have := (List.getElem?_eq_some_iff.1 hy').1
        simp at this; omega
      rw [h0] at hy'
      injection hy' with e
      subst e
      have := (push_zero hp).2.1
      show b.h = _
      omega
theorem al2.at_ {l m : List Txn} (h : al2 l m) : ∀ {j : Nat} {y : Txn}, m[j]? = some y → ∃ x, l[j]? = some x ∧ x.al y := by
  induction h with
  | nil => intro j y hy; cases hy
  | cons h1 _ ih =>
    intro j y hy
    cases j with
    | zero => injection hy with e; subst e; exact ⟨_, rfl, h1⟩
    | succ j => exact ih hy
theorem txok_al {t u : Txn} (h : t.al u) (k : TxOk t) : TxOk u :=
  ⟨by rw [← h.ins]; exact k.ins, by rw [← h.outs]; exact k.outs, ⟨by rw [← h.l]; exact k.pf.len, by rw [← h.l]; exact k.pf.fit, by rw [← h.sig]; exact k.pf.sig, by rw [← h.am]; exact k.pf.am⟩, by rw [← h.outs]; exact k.out⟩
/-- the chain, one of its blocks -/
structure DpS (w0 : World) (T0 : List En) (cb : Nat) (m : CnM) (s : Cn) (b : Bm) (g : Nat) (w : World) : Prop where
  ch : MkC w0 T0 cb m s w
  bm : b.mem w
  h13 : Blk w g 37 b.cs
theorem DpS.go {w0 w w' : World} {T0 : List En} {cb g : Nat} {m : CnM} {s : Cn} {b : Bm} (h : DpS w0 T0 cb m s b g w) (hb : Below w.heap.size w w') : DpS w0 T0 cb m s b g w' := ⟨h.ch.go hb, h.bm.bel hb, h.h13.bel hb⟩
/-- what is asked of a chain whose blocks are few -/
theorem MkC.small {w0 w : World} {T0 : List En} {cb : Nat} {m : CnM} {s : Cn} (h : MkC w0 T0 cb m s w) : (∀ x ∈ m.L, x.b.txs.length ≤ 1000) ∧ (∀ x ∈ m.L, ∀ t ∈ x.b.txs, TxOk t) := by
  have hx : ∀ x ∈ m.L, ∃ y ∈ s.ls, x.b.bk = y.1 := by
    intro x hx
    obtain ⟨i, hi, rfl⟩ := List.getElem_of_mem hx
    obtain ⟨y, hy, hl⟩ := h.cn.last hi
    exact ⟨y, List.mem_of_getElem? hy, hl.bk⟩
  refine ⟨fun x k => ?_, fun x k t ht => ?_⟩
  · obtain ⟨y, hy, e⟩ := hx x k
    have := (right_k (h.good.okk y hy).1).len
    rw [← e] at this
    exact Nat.le_trans this (by decide)
  · obtain ⟨y, hy, e⟩ := hx x k
    exact (h.good.okk y hy).2 t (by rw [← e]; exact ht)
/-- how deep what stands in a block is told to be -/
theorem MkC.deep {w0 w : World} {T0 : List En} {cb : Nat} {m : CnM} {s : Cn} (h : MkC w0 T0 cb m s w) {q : Txn → Bool} {n : Int} (hd : DeepR q m n) {k : Nat} {y : Bk × List En} (hy : s.ls[k]? = some y) {t : Txn} (ht : t ∈ y.1.txs) (hq : q t = true) : 1 ≤ n ∧ n ≤ (s.ls.length : Int) - k := by
  have hk : k < m.L.length := by rw [h.cn.len]; exact (List.getElem?_eq_some_iff.1 hy).1
  obtain ⟨y2, hy2, hl⟩ := h.cn.last hk
  rw [hy] at hy2
  injection hy2 with e
  subst e
  have := hd k m.L[k] (List.getElem?_eq_getElem hk) ⟨t, by have e := hl.bk; rw [← e] at ht; exact ht, hq⟩
  rw [h.cn.len] at this
  exact this
end Go.Proofs.YtjcinncphffgaaaGreat
