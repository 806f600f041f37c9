/- A channel's entry, and calls, that came in, opened. (Printed by open17.py.) Transactions and outputs that came in, opened. (Printed by opentx.py.) -/
import Derived.ChangeMaps5
import Derived.Test.YtjcinncphffgaaaGreatMjEqE
import Derived.Test.YtjcinncphffgaaaGreatMjG29
import Derived.Test.YtjcinncphffgaaaGreatMjN1
import Derived.Test.YtjcinncphffgaaaGreatMjOpen
set_option linter.unusedVariables false
set_option linter.unusedSimpArgs false
namespace Go.Proofs.YtjcinncphffgaaaGreat
open Go.ChangeShapes Go.WideShapes Go.ChangeAt Go.RowKit Go.Deep
section
variable {H : Type} {enc : TypeId × Value → H} {w : World} {base : Nat} {sp : Nat → Bool} {held : Bool}
/-- some cells read as a type's -/
def TR {H : Type} (enc : TypeId × Value → H) (w : World) (base : Nat) (sp : Nat → Bool) (held : Bool) (t : TypeId) (cs : List Value) : Prop := ∃ n x, DataW.trod enc Tryz.prog w base sp held n t cs = some x
theorem tr_field {t : TypeId} {fs : Array Field} {cs : List Value} (h : TR enc w base sp held t cs) (ht : Tryz.prog.underlying t = some (.struct fs)) (j : Nat) (f : Field) (hj : fs[j]? = some f) (o n : Nat) (u : TypeId) (ho : f.offset = o) (hu : f.type = u) (hn : Tryz.prog.cellsOf u = n) : TR enc w base sp held u ((cs.drop o).take n) := by
  obtain ⟨q, x, hx⟩ := h
  obtain ⟨xs, m, _, _, _, hl, hf⟩ := DataW.trod_struct ht hx
  have hjl : j < xs.length := by rw [hl]; exact (Array.getElem?_eq_some_iff.1 hj).1
  have := hf j f hj
  rw [List.getElem?_eq_getElem hjl, ho, hu, hn] at this
  exact ⟨m, _, this⟩
theorem tr_len {t : TypeId} {fs : Array Field} {cs : List Value} (h : TR enc w base sp held t cs) (ht : Tryz.prog.underlying t = some (.struct fs)) (n : Nat) (hn : Tryz.prog.cellsOf t = n) : cs.length = n := by
  obtain ⟨q, x, hx⟩ := h
  obtain ⟨_, _, _, _, hc, _, _⟩ := DataW.trod_struct ht hx
  rw [hc, hn]
theorem tr_int {cs : List Value} (h : TR enc w base sp held 3 cs) : ∃ n : Int, cs = [.int .i64 n] ∧ (Lit.int .i64 n).wf = true := by
  obtain ⟨q, x, hx⟩ := h
  obtain ⟨n, h1, _, h2⟩ := DataW.trod_int Tryz.underlying3 hx
  exact ⟨n, h1, h2⟩
theorem tr_uint64 {cs : List Value} (h : TR enc w base sp held 48 cs) : ∃ n : Nat, cs = [.int .u64 (n : Int)] ∧ n < 18446744073709551616 := by
  obtain ⟨q, x, hx⟩ := h
  obtain ⟨n, h1, _, h2⟩ := DataW.trod_int Tryz.underlying48 hx
  have hb : 0 ≤ n ∧ n < 18446744073709551616 := by simp [Lit.wf, IntKind.min, IntKind.max, IntKind.signed, IntKind.bits] at h2; omega
  exact ⟨n.toNat, by rw [h1, Int.toNat_of_nonneg hb.1], by omega⟩
theorem tr_string {cs : List Value} (h : TR enc w base sp held 9 cs) : ∃ s : ByteArray, cs = [.string s] ∧ s.size ≤ maxLen := by
  obtain ⟨q, x, hx⟩ := h
  obtain ⟨s, h1, _, h2⟩ := DataW.trod_string Tryz.underlying9 hx
  exact ⟨s, h1, h2⟩
theorem dt (cs : List Value) (a n : Nat) : cs.drop a = (cs.drop a).take n ++ cs.drop (a + n) := by
  rw [← List.drop_drop, List.take_append_drop]
theorem dt_end {cs : List Value} {n : Nat} (h : cs.length = n) : cs.drop n = [] := List.drop_of_length_le (by omega)
theorem cel_string : Tryz.prog.cellsOf 9 = 1 := by kernel_rfl
theorem cel_int : Tryz.prog.cellsOf 3 = 1 := by kernel_rfl
theorem cel_uint64 : Tryz.prog.cellsOf 48 = 1 := by kernel_rfl
theorem cel_Point : Tryz.prog.cellsOf 57 = 2 := by kernel_rfl
theorem cel_Out : Tryz.prog.cellsOf 81 = 9 := by kernel_rfl
theorem cel_Ticket : Tryz.prog.cellsOf 120 = 8 := by kernel_rfl
theorem cel_Win : Tryz.prog.cellsOf 122 = 10 := by kernel_rfl
theorem tr_Pt {cs : List Value} (h : TR enc w base sp held 57 cs) : ∃ p : ByteArray × Int, cs = [.string p.1, .int .i64 p.2] ∧ p.1.size ≤ maxLen ∧ (Lit.int .i64 p.2).wf = true := by
  have f0 := tr_field h Tryz.underlying57 0 _ rfl 0 1 9 rfl rfl cel_string
  have f1 := tr_field h Tryz.underlying57 1 _ rfl 1 1 3 rfl rfl cel_int
  have hl := tr_len h Tryz.underlying57 2 cel_Point
  obtain ⟨x0, e0, b0⟩ := tr_string f0
  obtain ⟨x1, e1, b1⟩ := tr_int f1
  have hc : cs = (cs.drop 0).take 1 ++ ((cs.drop 1).take 1) := by
    have e := List.drop_zero (l := cs)
    rw [dt cs 0 1, dt cs 1 1, dt_end hl, List.append_nil] at e
    exact e.symm
  rw [e0, e1] at hc
  exact ⟨(x0, x1), hc, b0, b1⟩
theorem tr_Ou {cs : List Value} (h : TR enc w base sp held 81 cs) : ∃ o : Ou, cs = o.cs.toList ∧ o.am < 18446744073709551616 ∧ o.unit < 18446744073709551616 := by
  have f0 := tr_field h Tryz.underlying81 0 _ rfl 0 1 3 rfl rfl cel_int
  have f1 := tr_field h Tryz.underlying81 1 _ rfl 1 1 48 rfl rfl cel_uint64
  have f2 := tr_field h Tryz.underlying81 2 _ rfl 2 1 9 rfl rfl cel_string
  have f3 := tr_field h Tryz.underlying81 3 _ rfl 3 1 9 rfl rfl cel_string
  have f4 := tr_field h Tryz.underlying81 4 _ rfl 4 1 3 rfl rfl cel_int
  have f5 := tr_field h Tryz.underlying81 5 _ rfl 5 1 9 rfl rfl cel_string
  have f6 := tr_field h Tryz.underlying81 6 _ rfl 6 1 48 rfl rfl cel_uint64
  have f7 := tr_field h Tryz.underlying81 7 _ rfl 7 1 3 rfl rfl cel_int
  have f8 := tr_field h Tryz.underlying81 8 _ rfl 8 1 9 rfl rfl cel_string
  have hl := tr_len h Tryz.underlying81 9 cel_Out
  obtain ⟨x0, e0, b0⟩ := tr_int f0
  obtain ⟨x1, e1, b1⟩ := tr_uint64 f1
  obtain ⟨x2, e2, b2⟩ := tr_string f2
  obtain ⟨x3, e3, b3⟩ := tr_string f3
  obtain ⟨x4, e4, b4⟩ := tr_int f4
  obtain ⟨x5, e5, b5⟩ := tr_string f5
  obtain ⟨x6, e6, b6⟩ := tr_uint64 f6
  obtain ⟨x7, e7, b7⟩ := tr_int f7
  obtain ⟨x8, e8, b8⟩ := tr_string f8
  have hc : cs = (cs.drop 0).take 1 ++ ((cs.drop 1).take 1 ++ ((cs.drop 2).take 1 ++ ((cs.drop 3).take 1 ++ ((cs.drop 4).take 1 ++ ((cs.drop 5).take 1 ++ ((cs.drop 6).take 1 ++ ((cs.drop 7).take 1 ++ ((cs.drop 8).take 1)))))))) := by
    have e := List.drop_zero (l := cs)
    rw [dt cs 0 1, dt cs 1 1, dt cs 2 1, dt cs 3 1, dt cs 4 1, dt cs 5 1, dt cs 6 1, dt cs 7 1, dt cs 8 1, dt_end hl, List.append_nil] at e
    exact e.symm
  rw [e0, e1, e2, e3, e4, e5, e6, e7, e8] at hc
  exact ⟨⟨x0, x1, x2, x3, x4, x5, x6, x7, x8⟩, hc, b1, b6⟩
theorem tr_Tk {cs : List Value} (h : TR enc w base sp held 120 cs) : ∃ t : Tk, cs = [.string t.ch, .int .u64 (t.ser : Nat), .int .u64 (t.face : Nat), .int .u64 (t.wins : Nat), .int .u64 (t.many : Nat), .string t.com, .int .u64 (t.cl : Nat), .string t.sig] ∧ t.ser < 18446744073709551616 ∧ t.face < 18446744073709551616 ∧ t.wins < 18446744073709551616 ∧ t.many < 18446744073709551616 ∧ t.cl < 18446744073709551616 := by
  have f0 := tr_field h Tryz.underlying120 0 _ rfl 0 1 9 rfl rfl cel_string
  have f1 := tr_field h Tryz.underlying120 1 _ rfl 1 1 48 rfl rfl cel_uint64
  have f2 := tr_field h Tryz.underlying120 2 _ rfl 2 1 48 rfl rfl cel_uint64
  have f3 := tr_field h Tryz.underlying120 3 _ rfl 3 1 48 rfl rfl cel_uint64
  have f4 := tr_field h Tryz.underlying120 4 _ rfl 4 1 48 rfl rfl cel_uint64
  have f5 := tr_field h Tryz.underlying120 5 _ rfl 5 1 9 rfl rfl cel_string
  have f6 := tr_field h Tryz.underlying120 6 _ rfl 6 1 48 rfl rfl cel_uint64
  have f7 := tr_field h Tryz.underlying120 7 _ rfl 7 1 9 rfl rfl cel_string
  have hl := tr_len h Tryz.underlying120 8 cel_Ticket
  obtain ⟨x0, e0, b0⟩ := tr_string f0
  obtain ⟨x1, e1, b1⟩ := tr_uint64 f1
  obtain ⟨x2, e2, b2⟩ := tr_uint64 f2
  obtain ⟨x3, e3, b3⟩ := tr_uint64 f3
  obtain ⟨x4, e4, b4⟩ := tr_uint64 f4
  obtain ⟨x5, e5, b5⟩ := tr_string f5
  obtain ⟨x6, e6, b6⟩ := tr_uint64 f6
  obtain ⟨x7, e7, b7⟩ := tr_string f7
  have hc : cs = (cs.drop 0).take 1 ++ ((cs.drop 1).take 1 ++ ((cs.drop 2).take 1 ++ ((cs.drop 3).take 1 ++ ((cs.drop 4).take 1 ++ ((cs.drop 5).take 1 ++ ((cs.drop 6).take 1 ++ ((cs.drop 7).take 1))))))) := by
    have e := List.drop_zero (l := cs)
    rw [dt cs 0 1, dt cs 1 1, dt cs 2 1, dt cs 3 1, dt cs 4 1, dt cs 5 1, dt cs 6 1, dt cs 7 1, dt_end hl, List.append_nil] at e
    exact e.symm
  rw [e0, e1, e2, e3, e4, e5, e6, e7] at hc
  exact ⟨⟨x0, x1, x2, x3, x4, x5, x6, x7⟩, hc, b1, b2, b3, b4, b6⟩
/-- a win's numbers fit -/
def Wn.fz (x : Wn) : Prop := x.t.ser < 18446744073709551616 ∧ x.t.face < 18446744073709551616 ∧ x.t.wins < 18446744073709551616 ∧ x.t.many < 18446744073709551616 ∧ x.t.cl < 18446744073709551616 ∧ x.drawn < 18446744073709551616
theorem tr_Wn {cs : List Value} (h : TR enc w base sp held 122 cs) : ∃ x : Wn, cs = x.cs.toList ∧ x.fz := by
  have f0 := tr_field h Tryz.underlying122 0 _ rfl 0 8 120 rfl rfl cel_Ticket
  have f1 := tr_field h Tryz.underlying122 1 _ rfl 8 1 9 rfl rfl cel_string
  have f2 := tr_field h Tryz.underlying122 2 _ rfl 9 1 48 rfl rfl cel_uint64
  have hl := tr_len h Tryz.underlying122 10 cel_Win
  obtain ⟨x0, e0, b0⟩ := tr_Tk f0
  obtain ⟨x1, e1, b1⟩ := tr_string f1
  obtain ⟨x2, e2, b2⟩ := tr_uint64 f2
  have hc : cs = (cs.drop 0).take 8 ++ ((cs.drop 8).take 1 ++ ((cs.drop 9).take 1)) := by
    have e := List.drop_zero (l := cs)
    rw [dt cs 0 8, dt cs 8 1, dt cs 9 1, dt_end hl, List.append_nil] at e
    exact e.symm
  rw [e0, e1, e2] at hc
  exact ⟨⟨x0, x1, x2⟩, hc, b0.1, b0.2.1, b0.2.2.1, b0.2.2.2.1, b0.2.2.2.2, b2⟩
end
end Go.Proofs.YtjcinncphffgaaaGreat
namespace Go.Proofs.YtjcinncphffgaaaGreat
open Go.ChangeShapes Go.WideShapes Go.ChangeAt Go.RowKit Go.Deep
section
variable {H : Type} {enc : TypeId × Value → H} {w : World} {base : Nat} {sp : Nat → Bool} {held : Bool}
/-- a slice reads as a list of what its elements read as -/
theorem tr_slice {α : Type} {ty ety : TypeId} {k : Nat} {en : α → List Value} {Q : α → Prop} (hty : Tryz.prog.underlying ty = some (.slice ety)) (hk : Tryz.prog.cellsOf ety = k) (hlen : ∀ x, (en x).length = k) (hk0 : 0 < k)
    (hel : ∀ cs, TR enc w base sp held ety cs → ∃ x, cs = en x ∧ Q x) {cs : List Value} (h : TR enc w base sp held ty cs) : ∃ A l c, cs = [.slice A l.length c] ∧ Sl w w.heap.size k en A l ∧ (∀ x ∈ l, Q x) ∧ l.length ≤ maxLen := by
  obtain ⟨fuel, x, hf⟩ := h
  rcases open_slice hty hf with ⟨hcs, _⟩ | ⟨a, len, cap, m, n, D, Pl, hcs, _, hl, hm, hmm, _, hi⟩
  · exact ⟨none, [], 0, hcs, Sl.nil _ _ _ _ _, (fun x hx => by cases hx), by simp⟩
  · have hml : len ≤ m := by rw [hmm]; split <;> omega
    have key : ∀ i, i < len → ∃ x : α, Q x ∧ ∀ j u, (en x)[j]? = some u → w.cell? (a.add (i * k + j)) = some u := by
      intro i hil
      obtain ⟨cs', hc, ht⟩ := hi i (by omega)
      rw [hk] at hc
      obtain ⟨o, rfl, ho⟩ := hel _ ⟨n, _, ht⟩
      obtain ⟨_, hcl, hat⟩ := World.cells?_some hc
      refine ⟨o, ho, fun j u hu => ?_⟩
      have hj : j < k := by have := (List.getElem?_eq_some_iff.1 hu).1; rw [hlen] at this; exact this
      have := hat j hj
      rw [Go.Deep.add_add] at this
      rw [this, hu]
    obtain ⟨l, hll, hlp⟩ := list_of len key
    refine ⟨some a, l, cap, by rw [hll, hcs], fun hn => ?_, fun x hx => ?_, by rw [hll]; omega⟩
    · have hpos : 0 < len := by rw [← hll]; exact List.length_pos_iff.2 hn
      obtain ⟨x0, hx0⟩ : ∃ x, l[0]? = some x := ⟨_, List.getElem?_eq_getElem (by omega)⟩
      have h00 := (hlp 0 x0 hx0).2 0 _ (List.getElem?_eq_getElem (by rw [hlen]; exact hk0))
      rw [show a.add (0 * k + 0) = a by simp [Addr.add]] at h00
      obtain ⟨ea, hlt⟩ := addr_at h00
      refine ⟨a.block, a.off, by rw [← ea], hlt, fun i x hx j u hu => ?_⟩
      have := (hlp i x hx).2 j u hu
      rw [ea, addr_add] at this
      rw [Nat.add_assoc]; exact this
    · obtain ⟨i, hi'⟩ := List.getElem?_of_mem hx
      exact (hlp i x hi').1
theorem cel_In : Tryz.prog.cellsOf 59 = 4 := by kernel_rfl
theorem cel_Proof : Tryz.prog.cellsOf 51 = 4 := by kernel_rfl
theorem cel_Tx : Tryz.prog.cellsOf 53 = 6 := by kernel_rfl
theorem cel_Ins : Tryz.prog.cellsOf 47 = 1 := by kernel_rfl
theorem cel_Outs : Tryz.prog.cellsOf 22 = 1 := by kernel_rfl
theorem cel_Wins : Tryz.prog.cellsOf 49 = 1 := by kernel_rfl
theorem tr_In {cs : List Value} (h : TR enc w base sp held 59 cs) : ∃ i : Inp, cs = i.cl ∧ True := by
  have f0 := tr_field h Tryz.underlying59 0 _ rfl 0 2 57 rfl rfl cel_Point
  have f1 := tr_field h Tryz.underlying59 1 _ rfl 2 1 3 rfl rfl cel_int
  have f2 := tr_field h Tryz.underlying59 2 _ rfl 3 1 9 rfl rfl cel_string
  have hl := tr_len h Tryz.underlying59 4 cel_In
  obtain ⟨x0, e0, b0⟩ := tr_Pt f0
  obtain ⟨x1, e1, b1⟩ := tr_int f1
  obtain ⟨x2, e2, b2⟩ := tr_string f2
  have hc : cs = (cs.drop 0).take 2 ++ ((cs.drop 2).take 1 ++ ((cs.drop 3).take 1)) := by
    have e := List.drop_zero (l := cs)
    rw [dt cs 0 2, dt cs 2 1, dt cs 3 1, dt_end hl, List.append_nil] at e
    exact e.symm
  rw [e0, e1, e2] at hc
  exact ⟨⟨x0.1, x0.2, x1, x2⟩, hc, trivial⟩
/-- a proof that came in -/
structure PfCame (w : World) (p : Pf) : Prop where
  am : p.am < 18446744073709551616
  wins : Sl w w.heap.size 10 Wn.cl p.A p.l
  fz : ∀ x ∈ p.l, x.fz
  len : p.l.length ≤ maxLen
theorem tr_Pf {cs : List Value} (h : TR enc w base sp held 51 cs) : ∃ p : Pf, cs = p.cs.toList ∧ PfCame w p := by
  have f0 := tr_field h Tryz.underlying51 0 _ rfl 0 1 48 rfl rfl cel_uint64
  have f1 := tr_field h Tryz.underlying51 1 _ rfl 1 1 9 rfl rfl cel_string
  have f2 := tr_field h Tryz.underlying51 2 _ rfl 2 1 9 rfl rfl cel_string
  have f3 := tr_field h Tryz.underlying51 3 _ rfl 3 1 49 rfl rfl cel_Wins
  have hl := tr_len h Tryz.underlying51 4 cel_Proof
  obtain ⟨x0, e0, b0⟩ := tr_uint64 f0
  obtain ⟨x1, e1, b1⟩ := tr_string f1
  obtain ⟨x2, e2, b2⟩ := tr_string f2
  obtain ⟨A3, x3, c3, e3, s3, q3, l3⟩ := tr_slice (en := Wn.cl) (Q := Wn.fz) Tryz.underlying49 cel_Win (fun _ => rfl) (by omega) (fun cs h => tr_Wn h) f3
  have hc : cs = (cs.drop 0).take 1 ++ ((cs.drop 1).take 1 ++ ((cs.drop 2).take 1 ++ ((cs.drop 3).take 1))) := by
    have e := List.drop_zero (l := cs)
    rw [dt cs 0 1, dt cs 1 1, dt cs 2 1, dt cs 3 1, dt_end hl, List.append_nil] at e
    exact e.symm
  rw [e0, e1, e2, e3] at hc
  exact ⟨⟨x0, x1, x2, A3, x3, c3⟩, hc, b0, s3, q3, l3⟩
/-- a transaction that came in -/
structure TxCame (w : World) (t : Txn) : Prop where
  mem : t.mem w
  pf : PfCame w t.p
  out : ∀ o ∈ t.outs, o.am < 18446744073709551616 ∧ o.unit < 18446744073709551616
  n1 : t.ins.length ≤ maxLen
  n2 : t.outs.length ≤ maxLen
def Txn.cl (t : Txn) : List Value := t.cs.toList
theorem tr_Tx {cs : List Value} (h : TR enc w base sp held 53 cs) : ∃ t : Txn, cs = t.cl ∧ TxCame w t := by
  have f0 := tr_field h Tryz.underlying53 0 _ rfl 0 1 47 rfl rfl cel_Ins
  have f1 := tr_field h Tryz.underlying53 1 _ rfl 1 1 22 rfl rfl cel_Outs
  have f2 := tr_field h Tryz.underlying53 2 _ rfl 2 4 51 rfl rfl cel_Proof
  have hl := tr_len h Tryz.underlying53 6 cel_Tx
  obtain ⟨A0, x0, c0, e0, s0, q0, l0⟩ := tr_slice (en := Inp.cl) (Q := fun _ => True) Tryz.underlying47 cel_In (fun _ => rfl) (by omega) (fun cs h => tr_In h) f0
  obtain ⟨A1, x1, c1, e1, s1, q1, l1⟩ := tr_slice (en := Ou.cl) (Q := fun o => o.am < 18446744073709551616 ∧ o.unit < 18446744073709551616) Tryz.underlying22 cel_Out (fun _ => rfl) (by omega) (fun cs h => tr_Ou h) f1
  obtain ⟨x2, e2, b2⟩ := tr_Pf f2
  have hc : cs = (cs.drop 0).take 1 ++ ((cs.drop 1).take 1 ++ ((cs.drop 2).take 4)) := by
    have e := List.drop_zero (l := cs)
    rw [dt cs 0 1, dt cs 1 1, dt cs 2 4, dt_end hl, List.append_nil] at e
    exact e.symm
  rw [e0, e1, e2] at hc
  exact ⟨⟨A0, x0, c0, A1, x1, c1, x2⟩, hc, ⟨s0, s1, b2.wins⟩, b2, q1, l0, l1⟩
end
theorem tr_cells {H : Type} {enc : TypeId × Value → H} {W : World} {t : TypeId} {A : Option Addr} {n c : Nat} {d : DataW H} {p : List MemPlace} (h : DataW.Trod enc Tryz.prog W 0 (fun _ => true) true t (.slice A n c) d p) : TR enc W 0 (fun _ => true) true t [.slice A n c] := by
  obtain ⟨fuel, hf⟩ := h
  exact ⟨fuel, _, hf⟩
set_option maxRecDepth 100000 in
theorem open_outs {H : Type} {enc : TypeId × Value → H} {W : World} {r : Reach} {b0 : Nat} {v : Value} {d : DataW H} {p : List MemPlace} (hv : Value.okWide Tryz.prog W r b0 22 v)
    (h : DataW.Trod enc Tryz.prog W 0 (fun _ => true) true 22 v d p) : ∃ A l c, v = .slice A l.length c ∧ Sl W W.heap.size 9 Ou.cl A l ∧ (∀ x ∈ l, (fun o => o.am < 18446744073709551616 ∧ o.unit < 18446744073709551616) x) ∧ l.length ≤ maxLen := by
  obtain ⟨a0, len, cap, rfl⟩ := okWide_slice Tryz.underlying22 hv
  obtain ⟨A, l, c, hc, hs, hq, hl⟩ := tr_slice (en := Ou.cl) (Q := fun o => o.am < 18446744073709551616 ∧ o.unit < 18446744073709551616) Tryz.underlying22 cel_Out (fun _ => rfl) (by omega) (fun cs h => tr_Ou h) (tr_cells h)
  injection hc with hc _
  exact ⟨A, l, c, hc, hs, hq, hl⟩
end Go.Proofs.YtjcinncphffgaaaGreat
