/- lottery: New, Shown, Open, room, of any book. -/
import Derived.Outline
import Derived.Test.YtgnlakbmibkjgaaGreatMgSdkC
import Derived.Test.YtgnlakbmibkjgaaGreatMgWonA
set_option linter.unusedVariables false
set_option linter.unusedSimpArgs false
namespace Go.Proofs.YtgnlakbmibkjgaaGreat
open Go.RowKit
def Of.cl (o : Of) : List Value := o.cs.toList
theorem ofcs_one (o : Of) : o.cs.all (·.oneCell') = true := by
  rw [Array.all_eq_true']
  intro x hx
  simp only [Of.cs, List.mem_toArray, List.mem_cons, List.not_mem_nil, or_false] at hx
  rcases hx with rfl | rfl | rfl | rfl | rfl | rfl | rfl | rfl | rfl <;> rfl
theorem ofcs_over (cs : Array Value) (o : Of) (h : cs.size = 9) : over cs 0 o.cs.toList = o.cs := (over_full o.cs.toList cs (by rw [h]; rfl)).trans (Array.toArray_toList ..)
/-- a book in memory -/
def bookC (ch client : ByteArray) (next : Nat) (A : Option Addr) (n c : Nat) : Array Value := #[.string ch, .string client, .int .u64 (next : Nat), .slice A n c]
structure BookAt (w : World) (b : Nat) (ch client : ByteArray) (next : Nat) (l : List Of) : Prop where
  ex : ∃ A c, Blk w b 202 (bookC ch client next A l.length c) ∧ Sl w w.heap.size 9 Of.cl A l ∧ (A = none → c = 0)
theorem BookAt.bel {w w' : World} {b next : Nat} {ch client : ByteArray} {l : List Of} (h : BookAt w b ch client next l) (hb : Below w.heap.size w w') : BookAt w' b ch client next l := by
  obtain ⟨A, c, h1, h2, h3⟩ := h
  exact ⟨A, c, h1.bel hb, (h2.below hb).more hb.size, h3⟩
set_option maxRecDepth 100000 in
theorem lnew_any (ch client : ByteArray) (w : World) (h1 : ch.size = 16) (h2 : client.size = 16) :
    Calls Tryz.prog 31 #[.string ch, .string client] w fun e w' => ∃ b, e = .returned (.tuple #[.pointer (some ⟨b, 0, none⟩), .int .i64 0]) ∧ b = w.heap.size ∧ BookAt w' b ch client 1 [] ∧ Below w.heap.size w w' := by
  have d1 : ((ch.size : Int) != 16) = false := by rw [h1]; rfl
  have d2 : ((client.size : Int) != 16) = false := by rw [h2]; rfl
  clear h1 h2
  go_enter Tryz.func31, Tryz.ntmps31
  go_wp2_with fail
  go_ret2
  exact ⟨_, rfl, rfl, ⟨none, 0, Blk.new _ _ _, Sl.nil _ _ _ _ _, fun _ => rfl⟩, (Below.refl _ _).alloc (Nat.le_refl _) _⟩
set_option maxRecDepth 100000 in
set_option maxHeartbeats 1000000 in
theorem shown_any (o : Of) (w : World) : Calls Tryz.prog 33 #[.agg o.cs] w fun e w' => e = .returned (.agg (Of.cs { o with salt := ByteArray.empty, drawn := 0, taken := false })) ∧ Below w.heap.size w w' := by
  obtain ⟨ch, ser, face, wins, many, com, salt, drawn, taken⟩ := o
  simp only [Of.cs]
  go_enter Tryz.func33, Tryz.ntmps33
  go_wp2
  exact bodyPost_ret (v := .agg #[.string ch, .int .u64 (ser : Nat), .int .u64 (face : Nat), .int .u64 (wins : Nat), .int .u64 (many : Nat), .string com, .string ByteArray.empty, .int .u64 0, .bool false]) (by simp [results, Tryz.results33, go_sem]; rfl) rfl ⟨rfl, ((Below.refl _ _).alloc (Nat.le_refl _) _).alloc (by simp) _⟩
end Go.Proofs.YtgnlakbmibkjgaaGreat
