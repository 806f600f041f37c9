/- note.Text, Signed. note.Signed. payword: Next, New$1, walk. payword.walk, as New uses it. payword: New, Anchor, Token, Len, Value. payword.New. Maps of numbers to numbers: what they add up to, ranged over in any order. coin.Name; coin.Fits of a channel; channel.New, Whole without tops. channel.New, Whole without tops. -/
import Derived.Outline
import Derived.Laws.MakeOwn
import Derived.Deep.RegionLaw
import Derived.Maps.RangeWalk
import Derived.Maps.OwnSet
import Derived.Laws.ResultCell
import Derived.Test.YtjcinncphffgaaaGreatMjMerk
import Derived.Test.YtjcinncphffgaaaGreatMjNum
import Derived.Test.YtjcinncphffgaaaGreatMjWots
set_option linter.unusedVariables false
set_option linter.unusedSimpArgs false
namespace Go.Proofs.YtjcinncphffgaaaGreat
open Go.RowKit
structure Tk where
  ch : ByteArray
  ser : Nat
  face : Nat
  wins : Nat
  many : Nat
  com : ByteArray
  cl : Nat
  sig : ByteArray
def Tk.cs (t : Tk) : Array Value := #[.string t.ch, .int .u64 (t.ser : Nat), .int .u64 (t.face : Nat), .int .u64 (t.wins : Nat), .int .u64 (t.many : Nat), .string t.com, .int .u64 (t.cl : Nat), .string t.sig]
structure Tk.ok (t : Tk) : Prop where
  ch : t.ch.size ≤ 4096
  ser : t.ser < 18446744073709551616
  face : t.face < 18446744073709551616
  wins : t.wins < 18446744073709551616
  many : t.many < 18446744073709551616
  com : t.com.size ≤ 4096
  cl : t.cl < 18446744073709551616
def textB (t : Tk) : ByteArray := numsB (ByteArray.empty ++ strOfNums [84] ++ blobB t.ch) [t.ser, t.face, t.wins, t.many] ++ blobB t.com ++ putB t.cl
theorem textB_size (t : Tk) : (textB t).size = 45 + t.ch.size + t.com.size := by
  rw [textB, ByteArray.size_append, ByteArray.size_append, numsB_size, ByteArray.size_append, ByteArray.size_append, putB_size, blobB_size, blobB_size, num1_size]
  simp; omega
set_option maxRecDepth 100000 in
set_option maxHeartbeats 1000000 in
theorem text_any (t : Tk) (w : World) (ht : t.ok) :
    Calls Tryz.prog 232 #[.agg t.cs] w fun e w' => e = .returned (.string (textB t)) ∧ Below w.heap.size w w' := by
  obtain ⟨t1, t2, t3, t4, t5, t6, t7⟩ := ht
  obtain ⟨ch, ser, face, wins, many, com, cl, sig⟩ := t
  simp only [Tk.cs, textB] at *
  go_enter Tryz.func232, Tryz.ntmps232
  go_wp2_with fail
  refine (wbyte_ok (w.heap.size + 1) ByteArray.empty 84 _ (by decide) (by decide) (by simp) (Blk.newAt (by simp))).mono ?_
  rintro e w1 ⟨rfl, h1, k1⟩
  have HT1 := Lib.hid (Blk.ch ((Blk.new w 120 #[.string ch, .int .u64 ser, .int .u64 face, .int .u64 wins, .int .u64 many, .string com, .int .u64 cl, .string sig]).alloc _) k1 (by simp))
  have HB1 : Hid (Below w.heap.size w w1) := (((Below.refl _ _).alloc (Nat.le_refl _) _).alloc (by simp) _).trans (k1.below (by simp; omega) (by simp))
  clear k1
  have H1 := Lib.hid h1
  clear h1
  have c0 := HT1.out.cell 0
  simp at c0
  go_wp2_with fail
  refine (wblob_ok (w.heap.size + 1) _ ch _ t1 (by rw [ByteArray.size_append, num1_size]; simp) H1.out).mono ?_
  rintro e w2 ⟨rfl, h2, k2⟩
  have HT2 := Lib.hid (Blk.ch HT1.out k2 (by simp))
  have HB2 : Hid (Below w.heap.size w w2) := HB1.out.trans (k2.below HB1.out.size (by simp))
  clear k2 c0
  have H2 := Lib.hid h2
  clear h2
  have c1 := HT2.out.cell 1
  have c2 := HT2.out.cell 2
  have c3 := HT2.out.cell 3
  have c4 := HT2.out.cell 4
  simp at c1 c2 c3 c4
  go_wp2_with fail
  refine (nums_any (w.heap.size + 1) w2.heap.size 4 [ser, face, wins, many] _ _ (by simp) (by simp [t2, t3, t4, t5]) ?_ (Blk.alloc H2.out _) (Blk.new _ _ _)).mono ?_
  · rw [ByteArray.size_append, ByteArray.size_append, num1_size, blobB_size]; simp; omega
  rintro e w3 ⟨rfl, h3, k3⟩
  have HT3 := Lib.hid (Blk.ch (HT2.out.alloc _) k3 (by simp))
  have HB3 : Hid (Below w.heap.size w w3) := (HB2.out.alloc HB2.out.size _).trans (k3.below (by have := HB2.out.size; simp; omega) (by simp))
  clear k3 c1 c2 c3 c4
  have H3 := Lib.hid h3
  clear h3
  have c5 := HT3.out.cell 5
  simp at c5
  go_wp2_with fail
  refine (wblob_ok (w.heap.size + 1) _ com _ t6 ?_ H3.out).mono ?_
  · rw [numsB_size, ByteArray.size_append, ByteArray.size_append, num1_size, blobB_size]; simp; omega
  rintro e w4 ⟨rfl, h4, k4⟩
  have HT4 := Lib.hid (Blk.ch HT3.out k4 (by simp))
  have HB4 : Hid (Below w.heap.size w w4) := HB3.out.trans (k4.below HB3.out.size (by simp))
  clear k4 c5
  have H4 := Lib.hid h4
  clear h4
  have c6 := HT4.out.cell 6
  simp at c6
  go_wp2_with fail
  refine (wnum_ok (w.heap.size + 1) _ cl _ t7 ?_ H4.out).mono ?_
  · rw [ByteArray.size_append, numsB_size, ByteArray.size_append, ByteArray.size_append, num1_size, blobB_size, blobB_size]; simp; omega
  rintro e w5 ⟨rfl, h5, k5⟩
  have HB5 : Hid (Below w.heap.size w w5) := HB4.out.trans (k5.below HB4.out.size (by simp))
  clear k5 c6
  have H5 := Lib.hid h5
  clear h5
  go_wp2_with fail
  refine (wtext_ok (w.heap.size + 1) _ _ H5.out).mono ?_
  rintro e w6 ⟨rfl, rfl⟩
  go_wp2
  go_ret
  exact ⟨rfl, HB5.out⟩
end Go.Proofs.YtjcinncphffgaaaGreat
namespace Go.Proofs.YtjcinncphffgaaaGreat
open Go.RowKit
theorem ne_empty_of (s : ByteArray) (h : 0 < s.size) : (s.toList != []) = true := by
  have h1 : ¬ s = ByteArray.empty := by rintro rfl; simp at h
  have h2 : (s.toList == ByteArray.empty.toList) = false := by rw [toList_beq]; exact decide_eq_false h1
  simpa [bne] using h2
set_option maxRecDepth 100000 in
set_option maxHeartbeats 1000000 in
theorem signed_any (client : ByteArray) (t : Tk) (w : World) (ht : t.ok) (hz : t.sig.size ≤ 1000000) :
    Calls Tryz.prog 221 #[.string client, .agg t.cs] w fun e w' => e = .returned (.bool (verB client (textB t) t.sig)) ∧ Below w.heap.size w w' := by
  have hx := textB_size t
  have h4 := ht.ch
  have h5 := ht.com
  have HT := fun W => Lib.hid (text_any t W ht)
  have HV := fun W => Lib.hid (verify_any client (textB t) t.sig W hz (by omega))
  have hne := ne_empty_of (textB t) (by omega)
  generalize textB t = x at *
  generalize verB client x t.sig = v at *
  obtain ⟨ch, ser, face, wins, many, com, cl, sig⟩ := t
  simp only [Tk.cs] at *
  clear ht h4 h5
  go_enter Tryz.func221, Tryz.ntmps221
  go_wp2_with fail
  refine (HT _).out.mono ?_
  rintro e w1 ⟨rfl, h1⟩
  have HB1 : Hid (Below w.heap.size w w1) := ((Below.refl _ _).alloc (Nat.le_refl _) _).trans (h1.mono (by simp))
  have HS := Lib.hid ((Blk.new w 120 #[.string ch, .int .u64 ser, .int .u64 face, .int .u64 wins, .int .u64 many, .string com, .int .u64 cl, .string sig]).bel h1)
  clear h1
  have c7 := HS.out.cell 7
  simp at c7
  go_wp2_with fail
  · exfalso
    simp_all
  refine (HV _).out.mono ?_
  rintro e w2 ⟨rfl, h2⟩
  have HB2 := Lib.hid h2
  clear h2
  go_wp2
  go_ret
  have hie : x.toList.isEmpty = false := by
    cases hx : x.toList with
    | nil => rw [hx] at hne; simp at hne
    | cons a r => rfl
  exact ⟨ret_bool (by rw [hie]; rfl), HB1.out.trans (HB2.out.mono HB1.out.size)⟩
end Go.Proofs.YtjcinncphffgaaaGreat
namespace Go.Proofs.YtjcinncphffgaaaGreat
open Go.RowKit
def wPay : ByteArray := ⟨#[112, 97, 121, 119, 111, 114, 100]⟩
def nxtB (t : ByteArray) : ByteArray := tagB wPay [t]
def itB (s : ByteArray) : Nat → ByteArray
  | 0 => s
  | k + 1 => nxtB (itB s k)
theorem itB_size (s : ByteArray) (h : s.size = 16) : ∀ k, (itB s k).size = 16
  | 0 => h
  | _ + 1 => tagB_size _ _
theorem pnext_any (t : ByteArray) (w : World) (ht : t.size ≤ 1000000) :
    Calls Tryz.prog 167 #[.string t] w fun e w' => e = .returned (.string (nxtB t)) ∧ Below w.heap.size w w' := by
  go_enter Tryz.func167, Tryz.ntmps167
  go_wp2_with fail
  refine (tag1 _ _ w _ rfl (by decide) ht).mono ?_
  rintro e w1 ⟨rfl, hb⟩
  have HB := Lib.hid hb
  clear hb
  go_wp2
  go_ret
  exact ⟨rfl, HB.out⟩
end Go.Proofs.YtjcinncphffgaaaGreat
namespace Go.Proofs.YtjcinncphffgaaaGreat
open Go.RowKit
end Go.Proofs.YtjcinncphffgaaaGreat
namespace Go.Proofs.YtjcinncphffgaaaGreat
open Go.RowKit
theorem pvalue_any (n u : Nat) (w : World) (hn : n ≤ 9223372036854775807) (hu : u < 18446744073709551616) :
    Calls Tryz.prog 170 #[.int .i64 n, .int .u64 u] w fun e w' => e = .returned (.tuple #[.int .u64 (mulV n u), .int .i64 (mulE n u)]) ∧ w' = w := by
  have h1 := mul_any n u w (by omega) (by omega) (by omega) (by omega)
  generalize mulV n u = v at *
  generalize mulE n u = f at *
  have H1 := Lib.hid h1
  clear h1
  go_enter Tryz.func170, Tryz.ntmps170
  go_wp2_with fail
  refine (of_any n w hn).mono ?_
  rintro e w1 ⟨rfl, rfl⟩
  go_wp2_with fail
  refine H1.out.mono ?_
  rintro e w1 ⟨rfl, rfl⟩
  go_wp2
  go_ret2
  exact ⟨rfl, rfl⟩
end Go.Proofs.YtjcinncphffgaaaGreat
namespace Go.Proofs.YtjcinncphffgaaaGreat
open Go.RowKit
end Go.Proofs.YtjcinncphffgaaaGreat
namespace Go.Proofs.YtjcinncphffgaaaGreat
open Go.RowKit Go.Maps
theorem lawU : Keyed Tryz.prog 48 := int_keyed Tryz.underlying48
abbrev DU := DataW Unit
def ku (n : Nat) : Lit := .int .u64 (n : Int)
theorem ku_wf (n : Nat) (h : n < 18446744073709551616) : (Lit.int .u64 (n : Int)).wf = true := by
  simp [Lit.wf, IntKind.min, IntKind.max, IntKind.signed, IntKind.bits]; omega
theorem ku_key (n : Nat) (h : n < 18446744073709551616) : keyOf Tryz.prog 48 (.int .u64 (n : Int)) = some (ku n) := keyOf_int_mk Tryz.underlying48 (ku_wf n h)
theorem ku_is (n : Nat) : WideAt.IsKeyLit (ku n) := trivial
def numD : DU → Int
  | .lit (.int _ c) => c
  | _ => 0
/-- what the entries still to come add up to -/
def sD (left : Lit → Bool) : DU → Int
  | .map es => totI ((es.filter fun p => left p.1).map fun p => numD p.2)
  | _ => 0
/-- what all add up to -/
def allD (D : DU) : Int := sD (Maps.has D) D
section
variable {w w' : World} {b n : Nat} {D : DU}
end
end Go.Proofs.YtjcinncphffgaaaGreat
namespace Go.Proofs.YtjcinncphffgaaaGreat
open Go.RowKit
def wLock : ByteArray := ⟨#[108, 111, 99, 107]⟩
def nameB (tx : ByteArray) (out : Nat) : ByteArray := tagB wLock [tx, strOfNums [(out : Int)]]
theorem nameB_size (tx : ByteArray) (out : Nat) : (nameB tx out).size = 16 := tagB_size _ _
/-- an output that locks a channel -/
structure Lk where
  am : Nat
  key : ByteArray
  gate : ByteArray
  ex : Nat
  anchor : ByteArray
  unit : Nat
  tok : Nat
end Go.Proofs.YtjcinncphffgaaaGreat
namespace Go.Proofs.YtjcinncphffgaaaGreat
open Go.RowKit
/-- results: a struct in a cell, and a number -/
theorem results_cell_row2 {fn : Func} {p u : Tmp} {ty : TypeId} (h : fn.results = #[.cell p ty, .tmp u]) (tmps : Array Value) {w : World} {g : Nat} {t : TypeId} {cs : Array Value} {fs : Array Field} (hb : Blk w g t cs)
    (hp : tmps.getD p undef = .pointer (some ⟨g, 0, none⟩)) (hu : Tryz.prog.underlying ty = some (.struct fs)) (hi : (Tryz.prog.info? ty).map (·.size) = some cs.size) :
    (results fn tmps).run Tryz.prog w = .ok (.tuple #[.agg cs, tmps.getD u undef]) w := by
  rw [results_cell_tmp h, hp]
  simp [asAddr, run_loadVar_row w g t ty cs (0, 0) _ hb hu rfl hi, Result.andThen]
theorem infoEnt : (Tryz.prog.info? 89).map (·.size) = some 11 := by kernel_rfl
end Go.Proofs.YtjcinncphffgaaaGreat
