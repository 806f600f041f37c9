/- claim.Signed of any transaction that may be. law09's cut of a transaction, in words; the first outputs as a set. law10's Cut of a block. law11's fixed: the walk. -/
import Derived.Outline
import Derived.OwnWalk
import Derived.Deep.RegionHeld3
import Derived.Deep.AppendLies
import Derived.Test.YtjcinncphffgaaaGreatMiFixK
import Derived.Test.YtjcinncphffgaaaGreatMiG33
import Derived.Test.YtjcinncphffgaaaGreatMiG34
import Derived.Test.YtjcinncphffgaaaGreatMiG35
import Derived.Test.YtjcinncphffgaaaGreatMiK2
import Derived.Test.YtjcinncphffgaaaGreatMiK4
import Derived.Test.YtjcinncphffgaaaGreatMiN4
import Derived.Test.YtjcinncphffgaaaGreatMiN6
import Derived.Test.YtjcinncphffgaaaGreatMiNum
import Derived.Test.YtjcinncphffgaaaGreatMiSmC
set_option linter.unusedVariables false
set_option linter.unusedSimpArgs false
namespace Go.Proofs.YtjcinncphffgaaaGreat
section
open Go.RowKit Go.Maps
/-- an input with a signature -/
def sgI (sig : ByteArray) (x : Inp) : Inp := { x with sig := sig }
theorem sgI_cl (sig : ByteArray) (x : Inp) : (sgI sig x).cl = x.cl.set 3 (.string sig) := rfl
/-- the first k inputs are signed -/
def sgK (sig : ByteArray) (l : List Inp) (k : Nat) : List Inp := (l.take k).map (sgI sig) ++ l.drop k
theorem sgK_len (sig : ByteArray) (l : List Inp) (k : Nat) (h : k ≤ l.length) : (sgK sig l k).length = l.length := by unfold sgK; simp; omega
theorem sgK_at (sig : ByteArray) (l : List Inp) (k : Nat) (h : k < l.length) : (sgK sig l k)[k]? = some l[k] := by
 unfold sgK
 rw [List.getElem?_append_right (by simp; omega)]
 simp only [List.length_map, List.length_take, Nat.min_eq_left (Nat.le_of_lt h), Nat.sub_self, List.getElem?_drop, Nat.add_zero]
 exact List.getElem?_eq_getElem h
theorem sgK_set (sig : ByteArray) (l : List Inp) (k : Nat) (h : k < l.length) : (sgK sig l k).set k (sgI sig l[k]) = sgK sig l (k + 1) := by
 unfold sgK
 rw [List.set_append_right _ _ (by simp; omega)]
 simp only [List.length_map, List.length_take, Nat.min_eq_left (Nat.le_of_lt h), Nat.sub_self]
 rw [List.take_succ_eq_append_getElem h, List.map_append, List.append_assoc, ← List.getElem_cons_drop h]
 rfl
theorem sgK_end (sig : ByteArray) (l : List Inp) : sgK sig l l.length = l.map (sgI sig) := by unfold sgK; simp
end
section
open Go.RowKit Go.Maps
end
section
open Go.RowKit Go.Maps
section
variable {w0 w w' : World} {g : Nat} {h : Int} {prev : ByteArray} {A : Option Addr} {c : Nat} {D : List Txn}
end
end
section
open Go.RowKit Go.Maps
theorem txok_spend {A : Option Addr} {c : Nat} {L : List En} {path : Int} {B : Option Addr} {outs : List Ou} {d : Nat} {p : Pf} {sig : ByteArray} (hl : L.length ≤ 1000) (ho : outs.length ≤ 1000) (hp : PfOk p) (hz : ∀ o ∈ outs, o.am < 18446744073709551616 ∧ o.unit < 18446744073709551616) : TxOk (spendT A c L path B outs d p sig) :=
 ⟨by show (insOf L path sig).length ≤ 1000; rw [insOf_len]; exact hl, ho, hp, hz⟩
theorem pfok_vou (v : Nat) (sg : ByteArray) (h : sg.size ≤ 400) (hv : v < 18446744073709551616) : PfOk (vouP v sg) := ⟨by show (0 : Nat) ≤ 1000; omega, (fun x hx => by cases hx), by show sg.size ≤ 1000000; omega, hv⟩
theorem pfok_no : PfOk noPf := ⟨by decide, (fun x hx => by cases hx), by decide, by decide⟩
theorem o11_z : ∀ o ∈ O11, o.am < 18446744073709551616 ∧ o.unit < 18446744073709551616 := by
 intro o ho
 rcases List.mem_cons.1 ho with rfl | ho
 ·exact ⟨by show (50 : Nat) < _; decide, by show (0 : Nat) < _; decide⟩
 ·rw [List.mem_singleton.1 ho]; exact ⟨by show (60 : Nat) < _; decide, by show (0 : Nat) < _; decide⟩
theorem p110_z : ∀ o ∈ [payO 110 rC], o.am < 18446744073709551616 ∧ o.unit < 18446744073709551616 := by
 intro o ho
 rw [List.mem_singleton.1 ho]; exact ⟨by show (110 : Nat) < _; decide, by show (0 : Nat) < _; decide⟩
end
end Go.Proofs.YtjcinncphffgaaaGreat
