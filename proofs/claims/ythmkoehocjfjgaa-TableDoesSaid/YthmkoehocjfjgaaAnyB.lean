/- append as a step of a region that draws: what is appended to, and what is appended, taken out of the frame. -/
import Derived.Test.YthmkoehocjfjgaaAny

namespace Go.Proofs.Ythmkoehocjfjgaa
open Go.RowKit
section
variable {P : Program} (w : World)
/-- as step_append_any; behind it what was owned is at hand too -/
theorem step_append_k {ops : Array Oper} {o : Oper} {a : Act} {K : Act → World → Prop} {Q : Exit → Act → World → Prop} {E : Prop} (hgd : o.guard = none) (s x : Operand) (t : TypeId)
    (ho : o.op = .call { callee := .builtin .append, args := #[s, x], argTypes := #[t, t] })
    (base : Nat) (e : TypeId) (i : TypeInfo) (z : Value) (size bytes : Nat) (ht : P.underlying t = some (.slice e)) (hi : P.info? e = some i) (hz : i.zero = some z)
    (hsize : i.size = size) (hby : i.bytes = bytes) (hzs : z.cells.size = size) (hsz : 0 < size)
    (v : Value) (n : Nat) (xs : List Value) (hs : a.eval s = v) (hown : w.ownsRow base e size v n xs)
    (B : Nat) (A : Option Addr) (m c : Nat) (news : List Value) (hx : a.eval x = .slice A m c) (hr : Reads w B size A m news) (h1 : ∀ u ∈ news, u.oneCell' = true)
    (h63 : n + m ≤ maxLen) (hbytes : (n + m) * bytes ≤ 140737488355328) (hbase : base ≤ w.heap.size)
    (h : ∀ v' w', w.ownsRow base e size v n xs → w'.ownsRow base e size v' (n + m) (xs ++ news) → w.grownBy w' v.ownBlock → K (a.put o.dst v') w') :
    if Region.wanted o (yielded ops a.tmps) = true then Oper.wp P o a w K Q else E :=
  step_append_any w hgd s x t ho base e i z size bytes ht hi hz hsize hby hzs hsz v n xs hs hown B A m c news hx hr h1 h63 hbytes hbase (fun v' w' h2 h3 _ => h v' w' hown h2 h3)
theorem reads_box {w : World} {g : Nat} {cs : Array Value} {e : TypeId} {k n : Nat} (h : w.heap[g]? = some (.cells cs e (0, 0))) (hl : cs.size = n * k) : Reads w (g + 1) k (some ⟨g, 0, none⟩) n cs.toList :=
  ⟨by rw [Array.length_toList]; exact hl, fun _ => ⟨_, rfl, Nat.lt_succ_self _, fun j u hu => by
    rw [addr_add0]
    simp only [World.cell?, h, Option.isSome_none, Bool.false_eq_true, if_false]
    rw [← Array.getElem?_toList]; exact hu⟩⟩
/-- what is appended lies in a block of its own -/
theorem step_append_box {ops : Array Oper} {o : Oper} {a : Act} {K : Act → World → Prop} {Q : Exit → Act → World → Prop} {E : Prop} (hgd : o.guard = none) (s x : Operand) (t : TypeId)
    (ho : o.op = .call { callee := .builtin .append, args := #[s, x], argTypes := #[t, t] })
    (base : Nat) (e : TypeId) (i : TypeInfo) (z : Value) (size bytes : Nat) (ht : P.underlying t = some (.slice e)) (hi : P.info? e = some i) (hz : i.zero = some z)
    (hsize : i.size = size) (hby : i.bytes = bytes) (hzs : z.cells.size = size) (hsz : 0 < size)
    (v : Value) (n : Nat) (xs : List Value) (hs : a.eval s = v) (hown : w.ownsRow base e size v n xs)
    (g m c : Nat) (cs : Array Value) (e2 : TypeId) (hx : a.eval x = .slice (some ⟨g, 0, none⟩) m c) (hr : w.heap[g]? = some (.cells cs e2 (0, 0))) (hl : cs.size = m * size) (h1 : ∀ u ∈ cs.toList, u.oneCell' = true)
    (h63 : n + m ≤ maxLen) (hbytes : (n + m) * bytes ≤ 140737488355328) (hbase : base ≤ w.heap.size)
    (h : ∀ v' w', w.ownsRow base e size v n xs → w'.ownsRow base e size v' (n + m) (xs ++ cs.toList) → w.grownBy w' v.ownBlock → K (a.put o.dst v') w') :
    if Region.wanted o (yielded ops a.tmps) = true then Oper.wp P o a w K Q else E :=
  step_append_any w hgd s x t ho base e i z size bytes ht hi hz hsize hby hzs hsz v n xs hs hown (g + 1) (some ⟨g, 0, none⟩) m c cs.toList hx (reads_box hr hl) h1 h63 hbytes hbase (fun v' w' h2 h3 _ => h v' w' hown h2 h3)
end
end Go.Proofs.Ythmkoehocjfjgaa
