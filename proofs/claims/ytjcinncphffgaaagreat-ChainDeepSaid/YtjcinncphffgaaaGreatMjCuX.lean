/- law09's cut of a transaction, in words; the first outputs as a set. -/
import Derived.Test.YtjcinncphffgaaaGreatMjG33
import Derived.Test.YtjcinncphffgaaaGreatMjG34
import Derived.Test.YtjcinncphffgaaaGreatMjG35
import Derived.Test.YtjcinncphffgaaaGreatMjN4
import Derived.Test.YtjcinncphffgaaaGreatMjN7
set_option linter.unusedVariables false
set_option linter.unusedSimpArgs false
namespace Go.Proofs.YtjcinncphffgaaaGreat
open Go.RowKit Go.Maps
theorem cut_am {l : List Ou} (h : ∀ o ∈ l, o.am < 18446744073709551616 ∧ o.unit < 18446744073709551616) (k : Nat) : ∀ o ∈ (l.take k).map cutO, o.am < 18446744073709551616 ∧ o.unit < 18446744073709551616 := by
  intro o ho
  obtain ⟨x, hx, rfl⟩ := List.mem_map.1 ho
  exact h x (List.mem_of_mem_take hx)
theorem cut_len (l : List Ou) (k : Nat) : ((l.take k).map cutO).length ≤ k := by rw [List.length_map, List.length_take]; omega
theorem tok_new {l : List Ou} (hn : newU l = true) (h8 : l.length ≤ 8) (ha : ∀ o ∈ l, o.am < 18446744073709551616 ∧ o.unit < 18446744073709551616) : TOk (utN (firstB l) l) := by
  unfold newU at hn
  simp only [Bool.and_eq_true, decide_eq_true_eq, List.all_eq_true] at hn
  have hm : ∀ e ∈ utN (firstB l) l, e.o ∈ l ∧ e.okp := fun e he => by
    obtain ⟨i, hi, rfl⟩ := List.mem_mapIdx.1 (show e ∈ l.mapIdx _ from he)
    exact ⟨List.getElem_mem hi, tagB_size _ _, by show (0 : Int) ≤ (i : Int); omega, by show (i : Int) < 256; omega⟩
  exact ⟨by rw [utN_len]; omega, by rw [utN_len]; omega, fun e he => hn.2 _ (hm e he).1, fun e he => (ha _ (hm e he).1).1, fun e he => (ha _ (hm e he).1).2, fun e he => (hm e he).2⟩
/-- a transaction, cut -/
def cutX (t : Txn) (A : Option Addr) (c : Nat) (B : Option Addr) (d : Nat) (PA : Option Addr) (pc : Nat) : Txn :=
  ⟨A, (t.ins.take 6).map cutI, c, B, (t.outs.take 6).map cutO, d, ⟨t.p.am, cutT t.p.sig 450, cutT t.p.tok 40, PA, (t.p.l.take 6).map cutW, pc⟩⟩
theorem cutx_cs (t : Txn) (A : Option Addr) (k c : Nat) (B : Option Addr) (m d : Nat) (PA : Option Addr) (n pc : Nat) (hk : k = ((t.ins.take 6).map cutI).length) (hm : m = ((t.outs.take 6).map cutO).length) (hn : n = ((t.p.l.take 6).map cutW).length) :
    txK A k c B m d t.p.am (cutT t.p.sig 450) (cutT t.p.tok 40) PA n pc = (cutX t A c B d PA pc).cs := by subst hk hm hn; rfl
theorem cutx_ok {w : World} {t : Txn} (h : TxCame w t) (A : Option Addr) (c : Nat) (B : Option Addr) (d : Nat) (PA : Option Addr) (pc : Nat) : TxOk (cutX t A c B d PA pc) := by
  refine ⟨?_, ?_, ⟨?_, ?_, ?_, h.pf.am⟩, cut_am h.out 6⟩
  · show ((t.ins.take 6).map cutI).length ≤ 1000; rw [List.length_map, List.length_take]; omega
  · show ((t.outs.take 6).map cutO).length ≤ 1000; rw [List.length_map, List.length_take]; omega
  · show ((t.p.l.take 6).map cutW).length ≤ 1000; rw [List.length_map, List.length_take]; omega
  · intro x hx
    obtain ⟨y, hy, rfl⟩ := List.mem_map.1 (show x ∈ (t.p.l.take 6).map cutW from hx)
    obtain ⟨a, b, c, d, e, f⟩ := h.pf.fz y (List.mem_of_mem_take hy)
    exact ⟨a, b, c, d, e, f, by show (cutT y.salt 40).size ≤ _; rw [cutT_size]; have := (cutN_le y.salt 40).2; omega⟩
  · show (cutT t.p.sig 450).size ≤ 1000000; rw [cutT_size]; have := (cutN_le t.p.sig 450).2; omega
theorem utN_srtK (id : ByteArray) (l : List Ou) : SrtE (utN id l) := by
  show (l.mapIdx fun i o => (⟨id, (i : Int), o⟩ : En)).Pairwise _
  refine List.pairwise_iff_getElem.2 fun i j hi hj hij => ?_
  rw [List.getElem_mapIdx, List.getElem_mapIdx]
  show ltP (id, (i : Int)) (id, (j : Int)) = true
  unfold ltP
  simp; omega
end Go.Proofs.YtjcinncphffgaaaGreat
