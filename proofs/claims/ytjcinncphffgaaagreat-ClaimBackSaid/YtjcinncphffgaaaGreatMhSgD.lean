/- claim.Signed of any transaction that may be. law09's cut of a transaction, in words; the first outputs as a set. law10's Cut of a block. law11's fixed: the walk. -/
import Derived.Outline
import Derived.OwnWalk
import Derived.Deep.RegionHeld3
import Derived.Deep.AppendLies
import Derived.Test.YtjcinncphffgaaaGreatMhG33
import Derived.Test.YtjcinncphffgaaaGreatMhG34
import Derived.Test.YtjcinncphffgaaaGreatMhG35
import Derived.Test.YtjcinncphffgaaaGreatMhG44
import Derived.Test.YtjcinncphffgaaaGreatMhK2
import Derived.Test.YtjcinncphffgaaaGreatMhK4
import Derived.Test.YtjcinncphffgaaaGreatMhNum
import Derived.Test.YtjcinncphffgaaaGreatMhSgA
import Derived.Test.YtjcinncphffgaaaGreatMhSmC
set_option linter.unusedVariables false
set_option linter.unusedSimpArgs false
namespace Go.Proofs.YtjcinncphffgaaaGreat
open Go.RowKit Go.Maps
/-- an input with a signature -/
def sgI (sig : ByteArray) (x : Inp) : Inp := { x with sig := sig }
theorem sgI_cl (sig : ByteArray) (x : Inp) : (sgI sig x).cl = x.cl.set 3 (.string sig) := rfl
/-- the first k inputs are signed -/
def sgK (sig : ByteArray) (l : List Inp) (k : Nat) : List Inp := (l.take k).map (sgI sig) ++ l.drop k
theorem sgK_len (sig : ByteArray) (l : List Inp) (k : Nat) (h : k ≤ l.length) : (sgK sig l k).length = l.length := by unfold sgK; simp; omega
theorem sgK_at (sig : ByteArray) (l : List Inp) (k : Nat) (h : k < l.length) : (sgK sig l k)[k]? = some l[k] := by
  unfold sgK
  rw [List.getElem?_append_right (by simp; omega)]
  simp only [List.length_map, List.length_take, Nat.min_eq_left (Nat.le_of_lt h), Nat.sub_self, List.getElem?_drop, Nat.add_zero]
  exact List.getElem?_eq_getElem h
theorem sgK_set (sig : ByteArray) (l : List Inp) (k : Nat) (h : k < l.length) : (sgK sig l k).set k (sgI sig l[k]) = sgK sig l (k + 1) := by
  unfold sgK
  rw [List.set_append_right _ _ (by simp; omega)]
  simp only [List.length_map, List.length_take, Nat.min_eq_left (Nat.le_of_lt h), Nat.sub_self]
  rw [List.take_succ_eq_append_getElem h, List.map_append, List.append_assoc, ← List.getElem_cons_drop h]
  rfl
theorem sgK_end (sig : ByteArray) (l : List Inp) : sgK sig l l.length = l.map (sgI sig) := by unfold sgK; simp
end Go.Proofs.YtjcinncphffgaaaGreat
namespace Go.Proofs.YtjcinncphffgaaaGreat
open Go.RowKit Go.Maps
end Go.Proofs.YtjcinncphffgaaaGreat
namespace Go.Proofs.YtjcinncphffgaaaGreat
open Go.RowKit Go.Maps
theorem Ut.objC {w : World} {b : Nat} {T : List En} (h : Ut w b T) : (∀ cs t fr, w.heap[b]? ≠ some (Obj.cells cs t fr)) := by
  obtain ⟨D, ⟨es, clock, hb, _⟩, _⟩ := h.own
  intro cs t fr e
  rw [hb] at e; cases e
/-- a row survives a write into a map -/
theorem own_map {w w' : World} {base size n bn : Nat} {e : TypeId} {v : Value} {xs : List Value} {T : List En} (h : w.ownsRow base e size v n xs) (u : Ut w bn T) (hc : Ch [bn] w w') : w'.ownsRow base e size v n xs := Ch.owns hc h (fun b hb hm => by
  simp at hm
  subst hm
  obtain ⟨_, h2⟩ := h
  rcases h2 with ⟨rfl, _⟩ | ⟨g, cap, cur, rfl, _, hh, _⟩
  · cases hb
  · have e : g = b := by injection hb
    subst e
    exact u.objC _ _ _ hh)
theorem TxRows.map {w w' : World} {base bn : Nat} {u : Txn} {T : List En} (h : TxRows base w u) (k : Ut w bn T) (hc : Ch [bn] w w') : TxRows base w' u := ⟨own_map h.r1 k hc, own_map h.r2 k hc, own_map h.r3 k hc, h.nz⟩
section
variable {w0 w w' : World} {g : Nat} {h : Int} {prev : ByteArray} {A : Option Addr} {c : Nat} {D : List Txn}
end
end Go.Proofs.YtjcinncphffgaaaGreat
namespace Go.Proofs.YtjcinncphffgaaaGreat
open Go.RowKit Go.Maps
theorem en_at {W : World} {g : Nat} {A : Option Addr} {T : List En} (h : Sl W g 11 En.cl A T) (x : En) (hx : T[0]? = some x) : ∃ ab off, A = some ⟨ab, off, none⟩ ∧ ab < g ∧ ∀ j u, x.cl[j]? = some u → W.cell? ⟨ab, off + j, none⟩ = some u := by
  obtain ⟨ab, off, hA, hlt, hc⟩ := h (by intro e; rw [e] at hx; cases hx)
  exact ⟨ab, off, hA, hlt, fun j u hu => by have := hc 0 x hx j u hu; simpa using this⟩
theorem sl_out1 {W : World} {g : Nat} {o : Ou} (h : Blk W g 81 o.cs) : Sl W W.heap.size 9 Ou.cl (some ⟨g, 0, none⟩) [o] := Sl.of_own (base := g) (n := 1) (c := 1) (e := 81) (fun _ => rfl) (by rw [List.flatMap_singleton]; exact own_lit (base := g) (n := 1) (k := 9) (cs := o.cs) h (Nat.le_refl _) rfl (by decide))
theorem txok_spend {A : Option Addr} {c : Nat} {L : List En} {path : Int} {B : Option Addr} {outs : List Ou} {d : Nat} {p : Pf} {sig : ByteArray} (hl : L.length ≤ 1000) (ho : outs.length ≤ 1000) (hp : PfOk p) (hz : ∀ o ∈ outs, o.am < 18446744073709551616 ∧ o.unit < 18446744073709551616) : TxOk (spendT A c L path B outs d p sig) :=
  ⟨by show (insOf L path sig).length ≤ 1000; rw [insOf_len]; exact hl, ho, hp, hz⟩
theorem pfok_vou (v : Nat) (sg : ByteArray) (h : sg.size ≤ 400) (hv : v < 18446744073709551616) : PfOk (vouP v sg) := ⟨by show (0 : Nat) ≤ 1000; omega, (fun x hx => by cases hx), by show sg.size ≤ 1000000; omega, hv⟩
theorem pfok_no : PfOk noPf := ⟨by decide, (fun x hx => by cases hx), by decide, by decide⟩
theorem o11_z : ∀ o ∈ O11, o.am < 18446744073709551616 ∧ o.unit < 18446744073709551616 := by
  intro o ho
  rcases List.mem_cons.1 ho with rfl | ho
  · exact ⟨by show (50 : Nat) < _; decide, by show (0 : Nat) < _; decide⟩
  · rw [List.mem_singleton.1 ho]; exact ⟨by show (60 : Nat) < _; decide, by show (0 : Nat) < _; decide⟩
theorem p110_z : ∀ o ∈ [payO 110 rC], o.am < 18446744073709551616 ∧ o.unit < 18446744073709551616 := by
  intro o ho
  rw [List.mem_singleton.1 ho]; exact ⟨by show (110 : Nat) < _; decide, by show (0 : Nat) < _; decide⟩
end Go.Proofs.YtjcinncphffgaaaGreat
