/- A channel's entry, and calls, that came in, opened. (Printed by open17.py.) Transactions and outputs that came in, opened. (Printed by opentx.py.) -/
import Derived.ChangeMaps5
import Derived.Test.YtjcinncphffgaaaGreatMiG29
import Derived.Test.YtjcinncphffgaaaGreatMiN1
import Derived.Test.YtjcinncphffgaaaGreatMiOpen
import Derived.Test.YtjcinncphffgaaaGreatMiSmC
set_option linter.unusedVariables false
set_option linter.unusedSimpArgs false
namespace Go.Proofs.YtjcinncphffgaaaGreat
section
open Go.ChangeShapes Go.WideShapes Go.ChangeAt Go.RowKit Go.Deep
section
variable {H : Type} {enc : TypeId × Value → H} {w : World} {base : Nat} {sp : Nat → Bool} {held : Bool}
/-- some cells read as a type's -/
def TR {H : Type} (enc : TypeId × Value → H) (w : World) (base : Nat) (sp : Nat → Bool) (held : Bool) (t : TypeId) (cs : List Value) : Prop := ∃ n x, DataW.trod enc Tryz.prog w base sp held n t cs = some x
theorem tr_field {t : TypeId} {fs : Array Field} {cs : List Value} (h : TR enc w base sp held t cs) (ht : Tryz.prog.underlying t = some (.struct fs)) (j : Nat) (f : Field) (hj : fs[j]? = some f) (o n : Nat) (u : TypeId) (ho : f.offset = o) (hu : f.type = u) (hn : Tryz.prog.cellsOf u = n) : TR enc w base sp held u ((cs.drop o).take n) := by
 obtain ⟨q, x, hx⟩ := h
 obtain ⟨xs, m, _, _, _, hl, hf⟩ := DataW.trod_struct ht hx
 have hjl : j < xs.length := by rw [hl]; exact (Array.getElem?_eq_some_iff.1 hj).1
 have := hf j f hj
 rw [List.getElem?_eq_getElem hjl, ho, hu, hn] at this
 exact ⟨m, _, this⟩
theorem tr_len {t : TypeId} {fs : Array Field} {cs : List Value} (h : TR enc w base sp held t cs) (ht : Tryz.prog.underlying t = some (.struct fs)) (n : Nat) (hn : Tryz.prog.cellsOf t = n) : cs.length = n := by
 obtain ⟨q, x, hx⟩ := h
 obtain ⟨_, _, _, _, hc, _, _⟩ := DataW.trod_struct ht hx
 rw [hc, hn]
theorem tr_int {cs : List Value} (h : TR enc w base sp held 3 cs) : ∃ n : Int, cs = [.int .i64 n] ∧ (Lit.int .i64 n).wf = true := by
 obtain ⟨q, x, hx⟩ := h
 obtain ⟨n, h1, _, h2⟩ := DataW.trod_int Tryz.underlying3 hx
 exact ⟨n, h1, h2⟩
theorem tr_uint64 {cs : List Value} (h : TR enc w base sp held 48 cs) : ∃ n : Nat, cs = [.int .u64 (n : Int)] ∧ n < 18446744073709551616 := by
 obtain ⟨q, x, hx⟩ := h
 obtain ⟨n, h1, _, h2⟩ := DataW.trod_int Tryz.underlying48 hx
 have hb : 0 ≤ n ∧ n < 18446744073709551616 := by simp [Lit.wf, IntKind.min, IntKind.max, IntKind.signed, IntKind.bits] at h2; omega
 exact ⟨n.toNat, by rw [h1, Int.toNat_of_nonneg hb.1], by omega⟩
theorem tr_string {cs : List Value} (h : TR enc w base sp held 9 cs) : ∃ s : ByteArray, cs = [.string s] ∧ s.size ≤ maxLen := by
 obtain ⟨q, x, hx⟩ := h
 obtain ⟨s, h1, _, h2⟩ := DataW.trod_string Tryz.underlying9 hx
 exact ⟨s, h1, h2⟩
theorem dt (cs : List Value) (a n : Nat) : cs.drop a = (cs.drop a).take n ++ cs.drop (a + n) := by
 rw [← List.drop_drop, List.take_append_drop]
theorem dt_end {cs : List Value} {n : Nat} (h : cs.length = n) : cs.drop n = [] := List.drop_of_length_le (by omega)
theorem cel_string : Tryz.prog.cellsOf 9 = 1 := by kernel_rfl
theorem cel_int : Tryz.prog.cellsOf 3 = 1 := by kernel_rfl
theorem cel_uint64 : Tryz.prog.cellsOf 48 = 1 := by kernel_rfl
theorem cel_Point : Tryz.prog.cellsOf 57 = 2 := by kernel_rfl
theorem cel_Out : Tryz.prog.cellsOf 81 = 9 := by kernel_rfl
theorem cel_Ticket : Tryz.prog.cellsOf 120 = 8 := by kernel_rfl
theorem cel_Win : Tryz.prog.cellsOf 122 = 10 := by kernel_rfl
theorem cel_Entry : Tryz.prog.cellsOf 89 = 11 := by kernel_rfl
theorem cel_Op : Tryz.prog.cellsOf 124 = 25 := by kernel_rfl
theorem tr_Pt {cs : List Value} (h : TR enc w base sp held 57 cs) : ∃ p : ByteArray × Int, cs = [.string p.1, .int .i64 p.2] ∧ p.1.size ≤ maxLen ∧ (Lit.int .i64 p.2).wf = true := by
 have f0 := tr_field h Tryz.underlying57 0 _ rfl 0 1 9 rfl rfl cel_string
 have f1 := tr_field h Tryz.underlying57 1 _ rfl 1 1 3 rfl rfl cel_int
 have hl := tr_len h Tryz.underlying57 2 cel_Point
 obtain ⟨x0, e0, b0⟩ := tr_string f0
 obtain ⟨x1, e1, b1⟩ := tr_int f1
 have hc : cs = (cs.drop 0).take 1 ++ ((cs.drop 1).take 1) := by
  have e := List.drop_zero (l := cs)
  rw [dt cs 0 1, dt cs 1 1, dt_end hl, List.append_nil] at e
  exact e.symm
 rw [e0, e1] at hc
 exact ⟨(x0, x1), hc, b0, b1⟩
theorem tr_Ou {cs : List Value} (h : TR enc w base sp held 81 cs) : ∃ o : Ou, cs = o.cs.toList ∧ o.am < 18446744073709551616 ∧ o.unit < 18446744073709551616 := by
 have f0 := tr_field h Tryz.underlying81 0 _ rfl 0 1 3 rfl rfl cel_int
 have f1 := tr_field h Tryz.underlying81 1 _ rfl 1 1 48 rfl rfl cel_uint64
 have f2 := tr_field h Tryz.underlying81 2 _ rfl 2 1 9 rfl rfl cel_string
 have f3 := tr_field h Tryz.underlying81 3 _ rfl 3 1 9 rfl rfl cel_string
 have f4 := tr_field h Tryz.underlying81 4 _ rfl 4 1 3 rfl rfl cel_int
 have f5 := tr_field h Tryz.underlying81 5 _ rfl 5 1 9 rfl rfl cel_string
 have f6 := tr_field h Tryz.underlying81 6 _ rfl 6 1 48 rfl rfl cel_uint64
 have f7 := tr_field h Tryz.underlying81 7 _ rfl 7 1 3 rfl rfl cel_int
 have f8 := tr_field h Tryz.underlying81 8 _ rfl 8 1 9 rfl rfl cel_string
 have hl := tr_len h Tryz.underlying81 9 cel_Out
 obtain ⟨x0, e0, b0⟩ := tr_int f0
 obtain ⟨x1, e1, b1⟩ := tr_uint64 f1
 obtain ⟨x2, e2, b2⟩ := tr_string f2
 obtain ⟨x3, e3, b3⟩ := tr_string f3
 obtain ⟨x4, e4, b4⟩ := tr_int f4
 obtain ⟨x5, e5, b5⟩ := tr_string f5
 obtain ⟨x6, e6, b6⟩ := tr_uint64 f6
 obtain ⟨x7, e7, b7⟩ := tr_int f7
 obtain ⟨x8, e8, b8⟩ := tr_string f8
 have hc : cs = (cs.drop 0).take 1 ++ ((cs.drop 1).take 1 ++ ((cs.drop 2).take 1 ++ ((cs.drop 3).take 1 ++ ((cs.drop 4).take 1 ++ ((cs.drop 5).take 1 ++ ((cs.drop 6).take 1 ++ ((cs.drop 7).take 1 ++ ((cs.drop 8).take 1)))))))) := by
  have e := List.drop_zero (l := cs)
  rw [dt cs 0 1, dt cs 1 1, dt cs 2 1, dt cs 3 1, dt cs 4 1, dt cs 5 1, dt cs 6 1, dt cs 7 1, dt cs 8 1, dt_end hl, List.append_nil] at e
  exact e.symm
 rw [e0, e1, e2, e3, e4, e5, e6, e7, e8] at hc
 exact ⟨⟨x0, x1, x2, x3, x4, x5, x6, x7, x8⟩, hc, b1, b6⟩
theorem tr_Tk {cs : List Value} (h : TR enc w base sp held 120 cs) : ∃ t : Tk, cs = [.string t.ch, .int .u64 (t.ser : Nat), .int .u64 (t.face : Nat), .int .u64 (t.wins : Nat), .int .u64 (t.many : Nat), .string t.com, .int .u64 (t.cl : Nat), .string t.sig] ∧ t.ser < 18446744073709551616 ∧ t.face < 18446744073709551616 ∧ t.wins < 18446744073709551616 ∧ t.many < 18446744073709551616 ∧ t.cl < 18446744073709551616 := by
 have f0 := tr_field h Tryz.underlying120 0 _ rfl 0 1 9 rfl rfl cel_string
 have f1 := tr_field h Tryz.underlying120 1 _ rfl 1 1 48 rfl rfl cel_uint64
 have f2 := tr_field h Tryz.underlying120 2 _ rfl 2 1 48 rfl rfl cel_uint64
 have f3 := tr_field h Tryz.underlying120 3 _ rfl 3 1 48 rfl rfl cel_uint64
 have f4 := tr_field h Tryz.underlying120 4 _ rfl 4 1 48 rfl rfl cel_uint64
 have f5 := tr_field h Tryz.underlying120 5 _ rfl 5 1 9 rfl rfl cel_string
 have f6 := tr_field h Tryz.underlying120 6 _ rfl 6 1 48 rfl rfl cel_uint64
 have f7 := tr_field h Tryz.underlying120 7 _ rfl 7 1 9 rfl rfl cel_string
 have hl := tr_len h Tryz.underlying120 8 cel_Ticket
 obtain ⟨x0, e0, b0⟩ := tr_string f0
 obtain ⟨x1, e1, b1⟩ := tr_uint64 f1
 obtain ⟨x2, e2, b2⟩ := tr_uint64 f2
 obtain ⟨x3, e3, b3⟩ := tr_uint64 f3
 obtain ⟨x4, e4, b4⟩ := tr_uint64 f4
 obtain ⟨x5, e5, b5⟩ := tr_string f5
 obtain ⟨x6, e6, b6⟩ := tr_uint64 f6
 obtain ⟨x7, e7, b7⟩ := tr_string f7
 have hc : cs = (cs.drop 0).take 1 ++ ((cs.drop 1).take 1 ++ ((cs.drop 2).take 1 ++ ((cs.drop 3).take 1 ++ ((cs.drop 4).take 1 ++ ((cs.drop 5).take 1 ++ ((cs.drop 6).take 1 ++ ((cs.drop 7).take 1))))))) := by
  have e := List.drop_zero (l := cs)
  rw [dt cs 0 1, dt cs 1 1, dt cs 2 1, dt cs 3 1, dt cs 4 1, dt cs 5 1, dt cs 6 1, dt cs 7 1, dt_end hl, List.append_nil] at e
  exact e.symm
 rw [e0, e1, e2, e3, e4, e5, e6, e7] at hc
 exact ⟨⟨x0, x1, x2, x3, x4, x5, x6, x7⟩, hc, b1, b2, b3, b4, b6⟩
/-- a win's numbers fit -/
def Wn.fz (x : Wn) : Prop := x.t.ser < 18446744073709551616 ∧ x.t.face < 18446744073709551616 ∧ x.t.wins < 18446744073709551616 ∧ x.t.many < 18446744073709551616 ∧ x.t.cl < 18446744073709551616 ∧ x.drawn < 18446744073709551616
theorem tr_Wn {cs : List Value} (h : TR enc w base sp held 122 cs) : ∃ x : Wn, cs = x.cs.toList ∧ x.fz := by
 have f0 := tr_field h Tryz.underlying122 0 _ rfl 0 8 120 rfl rfl cel_Ticket
 have f1 := tr_field h Tryz.underlying122 1 _ rfl 8 1 9 rfl rfl cel_string
 have f2 := tr_field h Tryz.underlying122 2 _ rfl 9 1 48 rfl rfl cel_uint64
 have hl := tr_len h Tryz.underlying122 10 cel_Win
 obtain ⟨x0, e0, b0⟩ := tr_Tk f0
 obtain ⟨x1, e1, b1⟩ := tr_string f1
 obtain ⟨x2, e2, b2⟩ := tr_uint64 f2
 have hc : cs = (cs.drop 0).take 8 ++ ((cs.drop 8).take 1 ++ ((cs.drop 9).take 1)) := by
  have e := List.drop_zero (l := cs)
  rw [dt cs 0 8, dt cs 8 1, dt cs 9 1, dt_end hl, List.append_nil] at e
  exact e.symm
 rw [e0, e1, e2] at hc
 exact ⟨⟨x0, x1, x2⟩, hc, b0.1, b0.2.1, b0.2.2.1, b0.2.2.2.1, b0.2.2.2.2, b2⟩
theorem tr_En {cs : List Value} (h : TR enc w base sp held 89 cs) : ∃ e : En, cs = e.cs.toList ∧ e.o.am < 18446744073709551616 ∧ e.o.unit < 18446744073709551616 := by
 have f0 := tr_field h Tryz.underlying89 0 _ rfl 0 2 57 rfl rfl cel_Point
 have f1 := tr_field h Tryz.underlying89 1 _ rfl 2 9 81 rfl rfl cel_Out
 have hl := tr_len h Tryz.underlying89 11 cel_Entry
 obtain ⟨x0, e0, b0⟩ := tr_Pt f0
 obtain ⟨x1, e1, b1⟩ := tr_Ou f1
 have hc : cs = (cs.drop 0).take 2 ++ ((cs.drop 2).take 9) := by
  have e := List.drop_zero (l := cs)
  rw [dt cs 0 2, dt cs 2 9, dt_end hl, List.append_nil] at e
  exact e.symm
 rw [e0, e1] at hc
 exact ⟨⟨x0.1, x0.2, x1⟩, hc, b1.1, b1.2⟩
/-- a call's numbers fit -/
def Op17.fz (o : Op17) : Prop := o.am < 18446744073709551616 ∧ o.x.fz ∧ o.e.o.am < 18446744073709551616 ∧ o.r < 18446744073709551616
def Op17.cl (o : Op17) : List Value := o.cs.toList
theorem tr_Op {cs : List Value} (h : TR enc w base sp held 124 cs) : ∃ o : Op17, cs = o.cl ∧ o.fz := by
 have f0 := tr_field h Tryz.underlying124 0 _ rfl 0 1 3 rfl rfl cel_int
 have f1 := tr_field h Tryz.underlying124 1 _ rfl 1 1 48 rfl rfl cel_uint64
 have f2 := tr_field h Tryz.underlying124 2 _ rfl 2 1 9 rfl rfl cel_string
 have f3 := tr_field h Tryz.underlying124 3 _ rfl 3 10 122 rfl rfl cel_Win
 have f4 := tr_field h Tryz.underlying124 4 _ rfl 13 11 89 rfl rfl cel_Entry
 have f5 := tr_field h Tryz.underlying124 5 _ rfl 24 1 48 rfl rfl cel_uint64
 have hl := tr_len h Tryz.underlying124 25 cel_Op
 obtain ⟨x0, e0, b0⟩ := tr_int f0
 obtain ⟨x1, e1, b1⟩ := tr_uint64 f1
 obtain ⟨x2, e2, b2⟩ := tr_string f2
 obtain ⟨x3, e3, b3⟩ := tr_Wn f3
 obtain ⟨x4, e4, b4⟩ := tr_En f4
 obtain ⟨x5, e5, b5⟩ := tr_uint64 f5
 have hc : cs = (cs.drop 0).take 1 ++ ((cs.drop 1).take 1 ++ ((cs.drop 2).take 1 ++ ((cs.drop 3).take 10 ++ ((cs.drop 13).take 11 ++ ((cs.drop 24).take 1))))) := by
  have e := List.drop_zero (l := cs)
  rw [dt cs 0 1, dt cs 1 1, dt cs 2 1, dt cs 3 10, dt cs 13 11, dt cs 24 1, dt_end hl, List.append_nil] at e
  exact e.symm
 rw [e0, e1, e2, e3, e4, e5] at hc
 exact ⟨⟨x0, x1, x2, x3, x4, x5⟩, hc, b1, b3, b4.1, b5⟩
end
set_option maxRecDepth 100000 in
theorem open_en {H : Type} {enc : TypeId × Value → H} {W : World} {r : Reach} {b0 : Nat} {v : Value} {d : DataW H} {p : List MemPlace} (hv : Value.okWide Tryz.prog W r b0 89 v)
  (h : DataW.Trod enc Tryz.prog W 0 (fun _ => true) true 89 v d p) : ∃ e : En, v = .agg e.cs ∧ e.o.am < 18446744073709551616 ∧ e.o.unit < 18446744073709551616 := by
 obtain ⟨cs, rfl, _⟩ := okWide_struct Tryz.underlying89 hv
 obtain ⟨fuel, hf⟩ := h
 have hf' : TR enc W 0 (fun _ => true) true 89 cs.toList := ⟨fuel, _, hf⟩
 obtain ⟨e, he, h1, h2⟩ := tr_En hf'
 refine ⟨e, ?_, h1, h2⟩
 have : cs.toList = e.cs.toList := he
 rw [Array.toList_inj.1 this]
set_option maxRecDepth 100000 in
theorem open_ops17 {H : Type} {enc : TypeId × Value → H} {W : World} {r : Reach} {b0 : Nat} {v : Value} {d : DataW H} {p : List MemPlace} (hv : Value.okWide Tryz.prog W r b0 116 v)
  (h : DataW.Trod enc Tryz.prog W 0 (fun _ => true) true 116 v d p) : ∃ A l c, v = .slice A l.length c ∧ Sl W W.heap.size 25 Op17.cl A l ∧ (∀ x ∈ l, x.fz) ∧ l.length ≤ maxLen := by
 obtain ⟨a0, len, cap, rfl⟩ := okWide_slice Tryz.underlying116 hv
 obtain ⟨fuel, hf⟩ := h
 rcases open_slice Tryz.underlying116 hf with ⟨hcs, _⟩ | ⟨a, len', cap', m, n, D, Pl, hcs, _, hl, hm, hmm, _, hi⟩
 ·have hcs' : Value.slice a0 len cap = .slice none 0 0 := by simpa [Value.cells] using hcs
  injection hcs' with e1 e2 e3
  subst e1 e2 e3
  exact ⟨none, [], 0, rfl, Sl.nil _ _ _ _ _, (fun x hx => by cases hx), by simp⟩
 ·have hcs' : Value.slice a0 len cap = .slice (some a) len' cap' := by simpa [Value.cells] using hcs
  injection hcs' with e1 e2 e3
  subst e1 e2 e3
  have hml : len ≤ m := by rw [hmm]; simp; exact hl
  have key : ∀ i, i < len → ∃ x : Op17, x.fz ∧ ∀ j u, x.cl[j]? = some u → W.cell? (a.add (i * 25 + j)) = some u := by
   intro i hil
   obtain ⟨cs', hc, ht⟩ := hi i (by omega)
   rw [cel_Op] at hc
   obtain ⟨o, rfl, ho⟩ := tr_Op (enc := enc) ⟨n, _, ht⟩
   obtain ⟨_, hcl, hat⟩ := World.cells?_some hc
   refine ⟨o, ho, fun j u hu => ?_⟩
   have hj : j < 25 := by have := (List.getElem?_eq_some_iff.1 hu).1; exact this
   have := hat j hj
   rw [Go.Deep.add_add] at this
   rw [this, hu]
  obtain ⟨l, hll, hlp⟩ := list_of len key
  refine ⟨some a, l, cap, by rw [hll], fun hn => ?_, fun x hx => ?_, by rw [hll]; omega⟩
  ·have hpos : 0 < len := by rw [← hll]; exact List.length_pos_iff.2 hn
   obtain ⟨x0, hx0⟩ : ∃ x, l[0]? = some x := ⟨_, List.getElem?_eq_getElem (by omega)⟩
   have h00 := (hlp 0 x0 hx0).2 0 _ rfl
   rw [show a.add (0 * 25 + 0) = a by simp [Addr.add]] at h00
   obtain ⟨ea, hlt⟩ := addr_at h00
   refine ⟨a.block, a.off, by rw [← ea], hlt, fun i x hx j u hu => ?_⟩
   have := (hlp i x hx).2 j u hu
   rw [ea, addr_add] at this
   rw [Nat.add_assoc]; exact this
  ·obtain ⟨i, hi'⟩ := List.getElem?_of_mem hx
   exact (hlp i x hi').1
end
section
open Go.ChangeShapes Go.WideShapes Go.ChangeAt Go.RowKit Go.Deep
section
variable {H : Type} {enc : TypeId × Value → H} {w : World} {base : Nat} {sp : Nat → Bool} {held : Bool}
end
end
end Go.Proofs.YtjcinncphffgaaaGreat
