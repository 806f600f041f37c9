/- claim.Signed of any transaction that may be. law09's cut of a transaction, in words; the first outputs as a set. law10's Cut of a block. law11's fixed: the walk. -/
import Derived.Outline
import Derived.OwnWalk
import Derived.Deep.RegionHeld3
import Derived.Deep.AppendLies
import Derived.Test.YtjcinncphffgaaaGreatMgG33
import Derived.Test.YtjcinncphffgaaaGreatMgG34
import Derived.Test.YtjcinncphffgaaaGreatMgG35
import Derived.Test.YtjcinncphffgaaaGreatMgG44
import Derived.Test.YtjcinncphffgaaaGreatMgK2
import Derived.Test.YtjcinncphffgaaaGreatMgK4
import Derived.Test.YtjcinncphffgaaaGreatMgN4
import Derived.Test.YtjcinncphffgaaaGreatMgN6
import Derived.Test.YtjcinncphffgaaaGreatMgN7
import Derived.Test.YtjcinncphffgaaaGreatMgNum
import Derived.Test.YtjcinncphffgaaaGreatMgSgA
import Derived.Test.YtjcinncphffgaaaGreatMgSmC
set_option linter.unusedVariables false
set_option linter.unusedSimpArgs false
namespace Go.Proofs.YtjcinncphffgaaaGreat
open Go.RowKit Go.Maps
/-- an input with a signature -/
def sgI (sig : ByteArray) (x : Inp) : Inp := { x with sig := sig }
theorem sgI_cl (sig : ByteArray) (x : Inp) : (sgI sig x).cl = x.cl.set 3 (.string sig) := rfl
/-- the first k inputs are signed -/
def sgK (sig : ByteArray) (l : List Inp) (k : Nat) : List Inp := (l.take k).map (sgI sig) ++ l.drop k
theorem sgK_len (sig : ByteArray) (l : List Inp) (k : Nat) (h : k ≤ l.length) : (sgK sig l k).length = l.length := by unfold sgK; simp; omega
theorem sgK_at (sig : ByteArray) (l : List Inp) (k : Nat) (h : k < l.length) : (sgK sig l k)[k]? = some l[k] := by
  unfold sgK
  rw [List.getElem?_append_right (by simp; omega)]
  simp only [List.length_map, List.length_take, Nat.min_eq_left (Nat.le_of_lt h), Nat.sub_self, List.getElem?_drop, Nat.add_zero]
  exact List.getElem?_eq_getElem h
theorem sgK_set (sig : ByteArray) (l : List Inp) (k : Nat) (h : k < l.length) : (sgK sig l k).set k (sgI sig l[k]) = sgK sig l (k + 1) := by
  unfold sgK
  rw [List.set_append_right _ _ (by simp; omega)]
  simp only [List.length_map, List.length_take, Nat.min_eq_left (Nat.le_of_lt h), Nat.sub_self]
  rw [List.take_succ_eq_append_getElem h, List.map_append, List.append_assoc, ← List.getElem_cons_drop h]
  rfl
theorem sgK_end (sig : ByteArray) (l : List Inp) : sgK sig l l.length = l.map (sgI sig) := by unfold sgK; simp
end Go.Proofs.YtjcinncphffgaaaGreat
namespace Go.Proofs.YtjcinncphffgaaaGreat
open Go.RowKit Go.Maps
theorem cut_am {l : List Ou} (h : ∀ o ∈ l, o.am < 18446744073709551616 ∧ o.unit < 18446744073709551616) (k : Nat) : ∀ o ∈ (l.take k).map cutO, o.am < 18446744073709551616 ∧ o.unit < 18446744073709551616 := by
  intro o ho
  obtain ⟨x, hx, rfl⟩ := List.mem_map.1 ho
  exact h x (List.mem_of_mem_take hx)
/-- a transaction, cut -/
def cutX (t : Txn) (A : Option Addr) (c : Nat) (B : Option Addr) (d : Nat) (PA : Option Addr) (pc : Nat) : Txn :=
  ⟨A, (t.ins.take 6).map cutI, c, B, (t.outs.take 6).map cutO, d, ⟨t.p.am, cutT t.p.sig 450, cutT t.p.tok 40, PA, (t.p.l.take 6).map cutW, pc⟩⟩
theorem cutx_cs (t : Txn) (A : Option Addr) (k c : Nat) (B : Option Addr) (m d : Nat) (PA : Option Addr) (n pc : Nat) (hk : k = ((t.ins.take 6).map cutI).length) (hm : m = ((t.outs.take 6).map cutO).length) (hn : n = ((t.p.l.take 6).map cutW).length) :
    txK A k c B m d t.p.am (cutT t.p.sig 450) (cutT t.p.tok 40) PA n pc = (cutX t A c B d PA pc).cs := by subst hk hm hn; rfl
theorem cutx_ok {w : World} {t : Txn} (h : TxCame w t) (A : Option Addr) (c : Nat) (B : Option Addr) (d : Nat) (PA : Option Addr) (pc : Nat) : TxOk (cutX t A c B d PA pc) := by
  refine ⟨?_, ?_, ⟨?_, ?_, ?_, h.pf.am⟩, cut_am h.out 6⟩
  · show ((t.ins.take 6).map cutI).length ≤ 1000; rw [List.length_map, List.length_take]; omega
  · show ((t.outs.take 6).map cutO).length ≤ 1000; rw [List.length_map, List.length_take]; omega
  · show ((t.p.l.take 6).map cutW).length ≤ 1000; rw [List.length_map, List.length_take]; omega
  · intro x hx
    obtain ⟨y, hy, rfl⟩ := List.mem_map.1 (show x ∈ (t.p.l.take 6).map cutW from hx)
    obtain ⟨a, b, c, d, e, f⟩ := h.pf.fz y (List.mem_of_mem_take hy)
    exact ⟨a, b, c, d, e, f, by show (cutT y.salt 40).size ≤ _; rw [cutT_size]; have := (cutN_le y.salt 40).2; omega⟩
  · show (cutT t.p.sig 450).size ≤ 1000000; rw [cutT_size]; have := (cutN_le t.p.sig 450).2; omega
end Go.Proofs.YtjcinncphffgaaaGreat
namespace Go.Proofs.YtjcinncphffgaaaGreat
open Go.RowKit Go.Maps
/-- law09's Cut, its answer's cells told -/
theorem tcut_x (t : Txn) (w : World) {w0 : World} (h : TxCame w0 t) (hb : Below w0.heap.size w0 w) :
    Calls Tryz.prog 19 #[.agg t.cs] w fun e w' => ∃ u : Txn, e = .returned (.agg #[.slice u.A u.ins.length u.c, .slice u.B u.outs.length u.d, .int .u64 (u.p.am : Nat), .string u.p.sig, .string u.p.tok, .slice u.p.A u.p.l.length u.p.c]) ∧ TxRows w.heap.size w' u ∧ TxOk u ∧ Below w.heap.size w w' :=
  (tcut_any t w (h.mem.bel hb) h.n1 h.n2 h.pf.len).mono fun e w' ⟨TA, TB, TP, k1, c1, k2, e1, k3, p1, he, hk1, hk2, hk3, r1, r2, r3, hb⟩ => by
    refine ⟨cutX t TA c1 TB e1 TP p1, ?_, ⟨by subst hk1; exact r1, by subst hk2; exact r2, by subst hk3; exact r3, ⟨fun q => ?_, fun q => ?_, fun q => ?_⟩⟩, cutx_ok h _ _ _ _ _ _, hb⟩
    · rw [he, cutx_cs t TA k1 c1 TB k2 e1 TP k3 p1 hk1 hk2 hk3]; rfl
    · have q' : TA = none := q
      subst q'; exact own_noneC r1
    · have q' : TB = none := q
      subst q'; exact own_noneC r2
    · have q' : TP = none := q
      subst q'; exact own_noneC r3
section
variable {w0 w w' : World} {g : Nat} {h : Int} {prev : ByteArray} {A : Option Addr} {c : Nat} {D : List Txn}
end
end Go.Proofs.YtjcinncphffgaaaGreat
namespace Go.Proofs.YtjcinncphffgaaaGreat
open Go.RowKit Go.Maps
theorem txok_spend {A : Option Addr} {c : Nat} {L : List En} {path : Int} {B : Option Addr} {outs : List Ou} {d : Nat} {p : Pf} {sig : ByteArray} (hl : L.length ≤ 1000) (ho : outs.length ≤ 1000) (hp : PfOk p) (hz : ∀ o ∈ outs, o.am < 18446744073709551616 ∧ o.unit < 18446744073709551616) : TxOk (spendT A c L path B outs d p sig) :=
  ⟨by show (insOf L path sig).length ≤ 1000; rw [insOf_len]; exact hl, ho, hp, hz⟩
theorem pfok_vou (v : Nat) (sg : ByteArray) (h : sg.size ≤ 400) (hv : v < 18446744073709551616) : PfOk (vouP v sg) := ⟨by show (0 : Nat) ≤ 1000; omega, (fun x hx => by cases hx), by show sg.size ≤ 1000000; omega, hv⟩
theorem pfok_no : PfOk noPf := ⟨by decide, (fun x hx => by cases hx), by decide, by decide⟩
theorem o11_z : ∀ o ∈ O11, o.am < 18446744073709551616 ∧ o.unit < 18446744073709551616 := by
  intro o ho
  rcases List.mem_cons.1 ho with rfl | ho
  · exact ⟨by show (50 : Nat) < _; decide, by show (0 : Nat) < _; decide⟩
  · rw [List.mem_singleton.1 ho]; exact ⟨by show (60 : Nat) < _; decide, by show (0 : Nat) < _; decide⟩
theorem p110_z : ∀ o ∈ [payO 110 rC], o.am < 18446744073709551616 ∧ o.unit < 18446744073709551616 := by
  intro o ho
  rw [List.mem_singleton.1 ho]; exact ⟨by show (110 : Nat) < _; decide, by show (0 : Nat) < _; decide⟩
end Go.Proofs.YtjcinncphffgaaaGreat
