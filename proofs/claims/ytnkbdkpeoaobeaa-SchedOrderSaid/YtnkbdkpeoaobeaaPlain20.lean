/- Plain words of sched: items, deadlines, what is due. No program. -/
import Derived.Laws.AppendOwn
namespace Go.Proofs.Ytnkbdkpeoaobeaa

/-- An item: the channel's name, its expiry, what it is worth, whether it is closed. -/
structure It where
  ch : ByteArray
  ex : Int
  wo : Int
  cl : Bool
def It.cells (x : It) : List Value := [.string x.ch, .int .i64 x.ex, .int .u64 x.wo, .bool x.cl]
theorem It.cells_len (x : It) : x.cells.length = 4 := rfl
theorem It.cells_one (x : It) : ∀ v ∈ x.cells, v.oneCell' = true := by
  intro v hv; simp [It.cells] at hv; rcases hv with rfl | rfl | rfl | rfl <;> rfl
def It.ok (x : It) : Prop := 0 ≤ x.ex ∧ x.ex < 1099511627776 ∧ 0 ≤ x.wo ∧ x.wo ≤ 18446744073709551615
def worthL (l : List It) : List It := l.filter fun x => decide (10 < x.wo)
theorem worth_snoc (l : List It) (k : Nat) (h : k < l.length) : worthL (l.take (k + 1)) = worthL (l.take k) ++ (if 10 < l[k].wo then [l[k]] else []) := by
  rw [List.take_succ_eq_append_getElem h]
  unfold worthL
  rw [List.filter_append]
  by_cases hc : 10 < l[k].wo <;> simp [List.filter_cons, hc]
theorem worth_len (l : List It) : (worthL l).length ≤ l.length := List.length_filter_le _ _
/-- How long ahead; up to when. -/
def marOk (a b c : Int) : Prop := (1 ≤ a ∧ a ≤ 1048576) ∧ (1 ≤ b ∧ b ≤ 1048576) ∧ 1 ≤ c ∧ c ≤ 1048576
instance (a b c : Int) : Decidable (marOk a b c) := by unfold marOk; infer_instance
def marV (a b c : Int) : Int := if marOk a b c then 2 * a + b + c else 0
def marE (a b c : Int) : Int := if marOk a b c then 0 else 1
def deadl (x m : Int) : Int := if x < m then 0 else x - m
theorem deadl_bd {x m : Int} (hx : 0 ≤ x) (hm : 0 ≤ m) : 0 ≤ deadl x m ∧ deadl x m ≤ x := by unfold deadl; split <;> omega
def oddI (n : Int) : Bool := decide (n < 1) || decide (1048576 < n)
/-- The first height at which one is to be claimed. -/
def headI (m : Int) (x : It) : Int := if x.cl then 0 else deadl x.ex m
/-- as the reference gathers it -/
def nextTo (m : Int) : List It → Int × Bool
  | l => l.foldl (fun a x => if 10 < x.wo then (if !a.2 || decide (headI m x < a.1) then (headI m x, true) else (a.1, true)) else a) (0, false)
theorem nextTo_snoc (m : Int) (l : List It) (k : Nat) (h : k < l.length) : nextTo m (l.take (k + 1)) = (if 10 < l[k].wo then (if !(nextTo m (l.take k)).2 || decide (headI m l[k] < (nextTo m (l.take k)).1) then (headI m l[k], true) else ((nextTo m (l.take k)).1, true)) else nextTo m (l.take k)) := by
  unfold nextTo; rw [List.take_succ_eq_append_getElem h, List.foldl_append]; rfl
end Go.Proofs.Ytnkbdkpeoaobeaa
