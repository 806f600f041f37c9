/- channel.Whole of any state. channel: room, of any state. lottery: New, Shown, Open, room, of any book. lottery: Open, room, of any book; draw.Top, Fair. -/
import Derived.Outline
import Derived.Test.YtdoebmikjgmnaaaGreatMgG02
import Derived.Test.YtdoebmikjgmnaaaGreatMgG12
import Derived.Test.YtdoebmikjgmnaaaGreatMgG21
set_option linter.unusedVariables false
set_option linter.unusedSimpArgs false
namespace Go.Proofs.YtdoebmikjgmnaaaGreat
open Go.RowKit Go.Maps
/-- one of a list of entries is read -/
theorem wpList_load_en {ops : Array Oper} {rest : List Oper} {o : Oper} {a : Act} {w : World} {Q : Exit → Act → World → Prop} (hgd : o.guard = none) (x : Operand) (ho : o.op = .load 43 x) (b off : Nat) (hx : a.eval x = .pointer (some ⟨b, off, none⟩)) (y : En)
    (hc : ∀ j u, y.cl[j]? = some u → w.cell? ⟨b, off + j, none⟩ = some u) (h : wpList Tryz.prog ops Q rest (a.put o.dst (.agg y.cs)) w) : wpList Tryz.prog ops Q (o :: rest) a w := by
  refine wpList_load_mid (P := Tryz.prog) hgd 43 x ho b off hx y.cl _ hc Tryz.underlying43 rfl (by rw [infoEnt]; rfl) ?_
  show wpList Tryz.prog ops Q rest (a.put o.dst (.agg y.cs.toList.toArray)) w
  rw [Array.toArray_toList]
  exact h
def zEn0 : Array Value := #[.string ByteArray.empty, .int .i64 0, .int .i64 0, .int .u64 0, .string ByteArray.empty, .string ByteArray.empty, .int .i64 0, .string ByteArray.empty, .int .u64 0, .int .i64 0, .string ByteArray.empty]
def topsI (l : List En) : List Int := l.map fun e => (e.o.am : Int)
def wholeV (s : St) : Int := capL ((s.lock.o.am : Int) :: topsI s.tops)
theorem wholeV_bd (s : St) : 0 ≤ wholeV s ∧ wholeV s < 18446744073709551616 := capL_bd _ (by
  intro x hx
  rcases List.mem_cons.1 hx with rfl | hx
  · omega
  · obtain ⟨e, _, rfl⟩ := List.mem_map.1 hx; omega)
def encA (l : List Int) : List Value := l.map (Value.int .u64)
theorem topsI_snoc (l : List En) (k : Nat) (hk : k < l.length) : topsI (l.take (k + 1)) = topsI (l.take k) ++ [(l[k].o.am : Int)] := by
  unfold topsI
  rw [List.take_succ_eq_append_getElem hk, List.map_append]; rfl
theorem encA_snoc (a : Int) (l : List Int) (b : Int) : encA (a :: (l ++ [b])) = encA (a :: l) ++ [.int .u64 b] := by simp [encA]
end Go.Proofs.YtdoebmikjgmnaaaGreat
namespace Go.Proofs.YtdoebmikjgmnaaaGreat
open Go.RowKit Go.Maps
def capA (a b : Int) : Int := capN (plusV a b) (plusE a b)
def xroomB (s : St) (r : Nat) : Bool := decide (worthV s < 18446744073709551615) && decide (capA (worthV s) r ≤ wholeV s) && decide ((r : Int) ≤ 18446744073709551615 - worthV s)
theorem int_nat {x : Int} (h : 0 ≤ x) : ∃ n : Nat, x = n := ⟨x.toNat, by omega⟩
theorem capA_is (a b : Int) : capN (plusV a b) (plusE a b) = capA a b := rfl
attribute [irreducible] capA
end Go.Proofs.YtdoebmikjgmnaaaGreat
namespace Go.Proofs.YtdoebmikjgmnaaaGreat
open Go.RowKit
def Of.cl (o : Of) : List Value := o.cs.toList
theorem ofcs_one (o : Of) : o.cs.all (·.oneCell') = true := by
  rw [Array.all_eq_true']
  intro x hx
  simp only [Of.cs, List.mem_toArray, List.mem_cons, List.not_mem_nil, or_false] at hx
  rcases hx with rfl | rfl | rfl | rfl | rfl | rfl | rfl | rfl | rfl <;> rfl
theorem ofcs_over (cs : Array Value) (o : Of) (h : cs.size = 9) : over cs 0 o.cs.toList = o.cs := (over_full o.cs.toList cs (by rw [h]; rfl)).trans (Array.toArray_toList ..)
/-- a book in memory -/
def bookC (ch client : ByteArray) (next : Nat) (A : Option Addr) (n c : Nat) : Array Value := #[.string ch, .string client, .int .u64 (next : Nat), .slice A n c]
end Go.Proofs.YtdoebmikjgmnaaaGreat
namespace Go.Proofs.YtdoebmikjgmnaaaGreat
open Go.RowKit
def opn1 (o : Of) : Nat := if o.taken then 0 else o.face
def opnN (l : List Of) : Nat := (l.map opn1).sum
def opnV (l : List Of) : Nat := opnN l % 18446744073709551616
theorem opnV_snoc (l : List Of) (k : Nat) (h : k < l.length) : opnV (l.take (k + 1)) = (opnV (l.take k) + opn1 l[k]) % 18446744073709551616 := by
  unfold opnV opnN
  rw [List.take_succ_eq_append_getElem h, List.map_append, List.sum_append]
  simp
end Go.Proofs.YtdoebmikjgmnaaaGreat
