/- note.Text, Signed. note.Signed. payword: Next, New$1, walk. payword.walk, as New uses it. payword: New, Anchor, Token, Len, Value. payword.New. Maps of numbers to numbers: what they add up to, ranged over in any order. coin.Name; coin.Fits of a channel; channel.New, Whole without tops. channel.New, Whole without tops. -/
import Derived.Outline
import Derived.Laws.MakeOwn
import Derived.Deep.RegionLaw
import Derived.Maps.RangeWalk
import Derived.Maps.OwnSet
import Derived.Laws.ResultCell
import Derived.Test.YtjcinncphffgaaaGreatMiMerk
import Derived.Test.YtjcinncphffgaaaGreatMiNum
import Derived.Test.YtjcinncphffgaaaGreatMiWots
set_option linter.unusedVariables false
set_option linter.unusedSimpArgs false
namespace Go.Proofs.YtjcinncphffgaaaGreat
section
open Go.RowKit
structure Tk where
 ch : ByteArray
 ser : Nat
 face : Nat
 wins : Nat
 many : Nat
 com : ByteArray
 cl : Nat
 sig : ByteArray
def Tk.cs (t : Tk) : Array Value := #[.string t.ch, .int .u64 (t.ser : Nat), .int .u64 (t.face : Nat), .int .u64 (t.wins : Nat), .int .u64 (t.many : Nat), .string t.com, .int .u64 (t.cl : Nat), .string t.sig]
structure Tk.ok (t : Tk) : Prop where
 ch : t.ch.size ≤ 4096
 ser : t.ser < 18446744073709551616
 face : t.face < 18446744073709551616
 wins : t.wins < 18446744073709551616
 many : t.many < 18446744073709551616
 com : t.com.size ≤ 4096
 cl : t.cl < 18446744073709551616
def textB (t : Tk) : ByteArray := numsB (ByteArray.empty ++ strOfNums [84] ++ blobB t.ch) [t.ser, t.face, t.wins, t.many] ++ blobB t.com ++ putB t.cl
theorem textB_size (t : Tk) : (textB t).size = 45 + t.ch.size + t.com.size := by
 rw [textB, ByteArray.size_append, ByteArray.size_append, numsB_size, ByteArray.size_append, ByteArray.size_append, putB_size, blobB_size, blobB_size, num1_size]
 simp; omega
set_option maxRecDepth 100000 in
set_option maxHeartbeats 1000000 in
theorem text_any (t : Tk) (w : World) (ht : t.ok) :
  Calls Tryz.prog 232 #[.agg t.cs] w fun e w' => e = .returned (.string (textB t)) ∧ Below w.heap.size w w' := by
 obtain ⟨t1, t2, t3, t4, t5, t6, t7⟩ := ht
 obtain ⟨ch, ser, face, wins, many, com, cl, sig⟩ := t
 simp only [Tk.cs, textB] at *
 go_enter Tryz.func232, Tryz.ntmps232
 go_wp2_with fail
 refine (wbyte_ok (w.heap.size + 1) ByteArray.empty 84 _ (by decide) (by decide) (by simp) (Blk.newAt (by simp))).mono ?_
 rintro e w1 ⟨rfl, h1, k1⟩
 have HT1 := Lib.hid (Blk.ch ((Blk.new w 120 #[.string ch, .int .u64 ser, .int .u64 face, .int .u64 wins, .int .u64 many, .string com, .int .u64 cl, .string sig]).alloc _) k1 (by simp))
 have HB1 : Hid (Below w.heap.size w w1) := (((Below.refl _ _).alloc (Nat.le_refl _) _).alloc (by simp) _).trans (k1.below (by simp; omega) (by simp))
 clear k1
 have H1 := Lib.hid h1
 clear h1
 have c0 := HT1.out.cell 0
 simp at c0
 go_wp2_with fail
 refine (wblob_ok (w.heap.size + 1) _ ch _ t1 (by rw [ByteArray.size_append, num1_size]; simp) H1.out).mono ?_
 rintro e w2 ⟨rfl, h2, k2⟩
 have HT2 := Lib.hid (Blk.ch HT1.out k2 (by simp))
 have HB2 : Hid (Below w.heap.size w w2) := HB1.out.trans (k2.below HB1.out.size (by simp))
 clear k2 c0
 have H2 := Lib.hid h2
 clear h2
 have c1 := HT2.out.cell 1
 have c2 := HT2.out.cell 2
 have c3 := HT2.out.cell 3
 have c4 := HT2.out.cell 4
 simp at c1 c2 c3 c4
 go_wp2_with fail
 refine (nums_any (w.heap.size + 1) w2.heap.size 4 [ser, face, wins, many] _ _ (by simp) (by simp [t2, t3, t4, t5]) ?_ (Blk.alloc H2.out _) (Blk.new _ _ _)).mono ?_
 ·rw [ByteArray.size_append, ByteArray.size_append, num1_size, blobB_size]; simp; omega
 rintro e w3 ⟨rfl, h3, k3⟩
 have HT3 := Lib.hid (Blk.ch (HT2.out.alloc _) k3 (by simp))
 have HB3 : Hid (Below w.heap.size w w3) := (HB2.out.alloc HB2.out.size _).trans (k3.below (by have := HB2.out.size; simp; omega) (by simp))
 clear k3 c1 c2 c3 c4
 have H3 := Lib.hid h3
 clear h3
 have c5 := HT3.out.cell 5
 simp at c5
 go_wp2_with fail
 refine (wblob_ok (w.heap.size + 1) _ com _ t6 ?_ H3.out).mono ?_
 ·rw [numsB_size, ByteArray.size_append, ByteArray.size_append, num1_size, blobB_size]; simp; omega
 rintro e w4 ⟨rfl, h4, k4⟩
 have HT4 := Lib.hid (Blk.ch HT3.out k4 (by simp))
 have HB4 : Hid (Below w.heap.size w w4) := HB3.out.trans (k4.below HB3.out.size (by simp))
 clear k4 c5
 have H4 := Lib.hid h4
 clear h4
 have c6 := HT4.out.cell 6
 simp at c6
 go_wp2_with fail
 refine (wnum_ok (w.heap.size + 1) _ cl _ t7 ?_ H4.out).mono ?_
 ·rw [ByteArray.size_append, numsB_size, ByteArray.size_append, ByteArray.size_append, num1_size, blobB_size, blobB_size]; simp; omega
 rintro e w5 ⟨rfl, h5, k5⟩
 have HB5 : Hid (Below w.heap.size w w5) := HB4.out.trans (k5.below HB4.out.size (by simp))
 clear k5 c6
 have H5 := Lib.hid h5
 clear h5
 go_wp2_with fail
 refine (wtext_ok (w.heap.size + 1) _ _ H5.out).mono ?_
 rintro e w6 ⟨rfl, rfl⟩
 go_wp2
 go_ret
 exact ⟨rfl, HB5.out⟩
end
section
open Go.RowKit
theorem ne_empty_of (s : ByteArray) (h : 0 < s.size) : (s.toList != []) = true := by
 have h1 : ¬ s = ByteArray.empty := by rintro rfl; simp at h
 have h2 : (s.toList == ByteArray.empty.toList) = false := by rw [toList_beq]; exact decide_eq_false h1
 simpa [bne] using h2
set_option maxRecDepth 100000 in
set_option maxHeartbeats 1000000 in
theorem signed_any (client : ByteArray) (t : Tk) (w : World) (ht : t.ok) (hz : t.sig.size ≤ 1000000) :
  Calls Tryz.prog 221 #[.string client, .agg t.cs] w fun e w' => e = .returned (.bool (verB client (textB t) t.sig)) ∧ Below w.heap.size w w' := by
 have hx := textB_size t
 have h4 := ht.ch
 have h5 := ht.com
 have HT := fun W => Lib.hid (text_any t W ht)
 have HV := fun W => Lib.hid (verify_any client (textB t) t.sig W hz (by omega))
 have hne := ne_empty_of (textB t) (by omega)
 generalize textB t = x at *
 generalize verB client x t.sig = v at *
 obtain ⟨ch, ser, face, wins, many, com, cl, sig⟩ := t
 simp only [Tk.cs] at *
 clear ht h4 h5
 go_enter Tryz.func221, Tryz.ntmps221
 go_wp2_with fail
 refine (HT _).out.mono ?_
 rintro e w1 ⟨rfl, h1⟩
 have HB1 : Hid (Below w.heap.size w w1) := ((Below.refl _ _).alloc (Nat.le_refl _) _).trans (h1.mono (by simp))
 have HS := Lib.hid ((Blk.new w 120 #[.string ch, .int .u64 ser, .int .u64 face, .int .u64 wins, .int .u64 many, .string com, .int .u64 cl, .string sig]).bel h1)
 clear h1
 have c7 := HS.out.cell 7
 simp at c7
 go_wp2_with fail
 ·exfalso
  simp_all
 refine (HV _).out.mono ?_
 rintro e w2 ⟨rfl, h2⟩
 have HB2 := Lib.hid h2
 clear h2
 go_wp2
 go_ret
 have hie : x.toList.isEmpty = false := by
  cases hx : x.toList with
  | nil => rw [hx] at hne; simp at hne
  | cons a r => rfl
 exact ⟨ret_bool (by rw [hie]; rfl), HB1.out.trans (HB2.out.mono HB1.out.size)⟩
end
section
open Go.RowKit
def wPay : ByteArray := ⟨#[112, 97, 121, 119, 111, 114, 100]⟩
def wSeed : ByteArray := ⟨#[115, 101, 101, 100]⟩
def nxtB (t : ByteArray) : ByteArray := tagB wPay [t]
def itB (s : ByteArray) : Nat → ByteArray
 | 0 => s
 | k + 1 => nxtB (itB s k)
theorem itB_size (s : ByteArray) (h : s.size = 16) : ∀ k, (itB s k).size = 16
 | 0 => h
 | _ + 1 => tagB_size _ _
theorem pnext_any (t : ByteArray) (w : World) (ht : t.size ≤ 1000000) :
  Calls Tryz.prog 167 #[.string t] w fun e w' => e = .returned (.string (nxtB t)) ∧ Below w.heap.size w w' := by
 go_enter Tryz.func167, Tryz.ntmps167
 go_wp2_with fail
 refine (tag1 _ _ w _ rfl (by decide) ht).mono ?_
 rintro e w1 ⟨rfl, hb⟩
 have HB := Lib.hid hb
 clear hb
 go_wp2
 go_ret
 exact ⟨rfl, HB.out⟩
def tK (s : ByteArray) (n k : Nat) : Array Value := ((List.range (n + 1)).map fun j => Value.string (if n - j < k then itB s (n - j) else ByteArray.empty)).toArray
theorem tK_size (s : ByteArray) (n k : Nat) : (tK s n k).size = n + 1 := by simp [tK]
theorem tK_get (s : ByteArray) (n k i : Nat) (h : i < n + 1) : (tK s n k)[i]? = some (.string (if n - i < k then itB s (n - i) else ByteArray.empty)) := by
 simp [tK, h]
theorem tK_set (s : ByteArray) (n k : Nat) (h : k ≤ n) : (tK s n k).setIfInBounds (n - k) (.string (itB s k)) = tK s n (k + 1) := by
 apply Array.ext_getElem?
 intro i
 by_cases hi : i < n + 1
 ·rw [tK_get _ _ _ _ hi, Array.getElem?_setIfInBounds, tK_size, tK_get _ _ _ _ hi]
  by_cases e : n - k = i
  ·subst e
   rw [if_pos rfl, if_pos (by omega), if_pos (by omega), show n - (n - k) = k by omega]
  ·rw [if_neg e]
   by_cases hl : n - i < k
   ·rw [if_pos hl, if_pos (by omega)]
   ·rw [if_neg hl, if_neg (by omega)]
 ·rw [Array.getElem?_eq_none (by simp [tK_size]; omega), Array.getElem?_eq_none (by simp [tK_size]; omega)]
theorem tK_made (s : ByteArray) (n : Nat) : madeCells (Value.string ByteArray.empty).cells (n + 1) = tK s n 0 := by
 apply Array.ext_getElem?
 intro i
 by_cases hi : i < n + 1
 ·rw [tK_get _ _ _ _ hi, if_neg (by omega)]
  simp [madeCells, hi, Value.cells, Nat.mod_one]
 ·rw [Array.getElem?_eq_none (by simp [madeCells]; omega), Array.getElem?_eq_none (by simp [tK_size]; omega)]
set_option maxRecDepth 100000 in
set_option maxHeartbeats 1000000 in
theorem plam_any (s : ByteArray) (n k g p q : Nat) (w : World) (hn : n ≤ 4096) (hk : k ≤ n) (h1 : Blk w p 66 #[.slice (some ⟨g, 0, none⟩) (n + 1) (n + 1)]) (h2 : Blk w q 3 #[.int .i64 n]) (h3 : Blk w g 9 (tK s n k)) :
  Calls Tryz.prog 113 #[.int .i64 k, .string (itB s k), .pointer (some ⟨p, 0, none⟩), .pointer (some ⟨q, 0, none⟩)] w fun e w' => e = .returned (.bool true) ∧ Blk w' g 9 (tK s n (k + 1)) ∧ Ch [g] w w' := by
 have c1 := h1.cell 0
 have c2 := h2.cell 0
 have c3 := h3.cell (n - k)
 have f3 := h3.frozen (n - k)
 rw [tK_get _ _ _ _ (by omega), if_neg (by omega)] at c3
 simp at c1 c2
 have H3 := Lib.hid h3
 have HS := Lib.hid (tK_set s n k hk)
 clear h1 h2 h3
 generalize itB s k = t at *
 go_enter Tryz.func113, Tryz.ntmps113
 go_wp2
 go_ret
 exact ⟨rfl, HS.out ▸ Blk.set_ H3.out _ _, Ch.set_ (List.mem_singleton.2 rfl) _ _ _⟩
end
section
open Go.RowKit
set_option maxRecDepth 100000 in
set_option maxHeartbeats 1000000 in
theorem pwalk_new (s : ByteArray) (n g p q : Nat) (w : World) (hn : n ≤ 4096) (hs : s.size = 16) (h1 : Blk w p 66 #[.slice (some ⟨g, 0, none⟩) (n + 1) (n + 1)]) (h2 : Blk w q 3 #[.int .i64 n]) (h3 : Blk w g 9 (tK s n 0)) :
  Calls Tryz.prog 112 #[.string s, .int .i64 n, .func (Fn.func 113) #[] #[.pointer (some ⟨p, 0, none⟩), .pointer (some ⟨q, 0, none⟩)]] w fun e w' => e = .returned (.tuple #[]) ∧ Blk w' g 9 (tK s n (n + 1)) ∧ Ch [g] w w' := by
 have hp : p ≠ g := h1.ne_ h3 (by decide)
 have hq : q ≠ g := h2.ne_ h3 (by decide)
 have H1 := Lib.hid h1
 have H2 := Lib.hid h2
 have H3 := Lib.hid h3
 clear h1 h2 h3
 go_enter Tryz.func112, Tryz.ntmps112
 go_wp2
 go_loopw [0, 6] (fun t i wr => ∃ k : Nat, k ≤ n ∧ i = .int .i64 k ∧ t = .string (itB s k) ∧ Hid (Blk wr g 9 (tK s n k)) ∧ Hid (Ch [g] w wr)) (fun _ i _ => n + 1 - (intOf i).toNat)
 case atStart => exact ⟨0, Nat.zero_le _, rfl, rfl, H3, Ch.refl _ _⟩
 case round =>
  obtain ⟨k, hk, rfl, rfl, HG, HC⟩ := hrel
  have hz : (itB s k).size ≤ 1000000 := by rw [itB_size s hs]; omega
  have HI : Hid (nxtB (itB s k) = itB s (k + 1)) := rfl
  have HL := Lib.hid (plam_any s n k g p q wr hn hk (Blk.ch H1.out HC.out (by simpa using hp)) (Blk.ch H2.out HC.out (by simpa using hq)) HG.out)
  have HX := fun W => Lib.hid (pnext_any (itB s k) W hz)
  generalize itB s k = t at *
  go_wp2_with fail
  refine HL.out.mono ?_
  rintro e w1 ⟨rfl, hg1, hc1⟩
  have HG1 := Lib.hid hg1
  have HC1 : Hid (Ch [g] w w1) := HC.out.trans hc1
  clear hg1 hc1
  by_cases hlt : k < n
  ·have d1 : decide ((k : Int) < n) = true := decide_eq_true (by omega)
   go_wp2_with fail
   refine (HX _).out.mono ?_
   rintro e w2 ⟨rfl, hb2⟩
   have HG2 := Lib.hid (HG1.out.bel hb2)
   have HC2 : Hid (Ch [g] w w2) := HC1.out.trans (Ch.of_below hb2 _)
   clear hb2
   go_wp2_with fail
   go_roundw
   case rel => exact ⟨k + 1, by omega, by go_num, by rw [HI.out], HG2, HC2⟩
   case measure => simp [intOf]; omega
  ·have d1 : decide ((k : Int) < n) = false := decide_eq_false (by omega)
   obtain rfl : k = n := by omega
   go_wp2
   go_end0
   exact ⟨rfl, HG1.out, HC1.out⟩
end
section
open Go.RowKit
def startB (seed : ByteArray) : ByteArray := tagB wSeed [seed]
theorem startB_size (seed : ByteArray) : (startB seed).size = 16 := tagB_size _ _
/-- the token behind so many -/
def tokB (seed : ByteArray) (n j : Nat) : ByteArray := itB (startB seed) (n - j)
theorem tokB_size (seed : ByteArray) (n j : Nat) : (tokB seed n j).size = 16 := itB_size _ (startB_size _) _
def ChainAt (w : World) (cb : Nat) (seed : ByteArray) (n : Nat) : Prop :=
 ∃ g, Blk w cb 211 #[.slice (some ⟨g, 0, none⟩) (n + 1) (n + 1)] ∧ Blk w g 9 (tK (startB seed) n (n + 1))
theorem ptok_get (seed : ByteArray) (n j : Nat) (h : j ≤ n) : (tK (startB seed) n (n + 1))[j]? = some (.string (tokB seed n j)) := by
 rw [tK_get _ _ _ _ (by omega), if_pos (by omega)]; rfl
theorem panchor_any (cb n : Nat) (seed : ByteArray) (w : World) (h : ChainAt w cb seed n) :
  Calls Tryz.prog 110 #[.pointer (some ⟨cb, 0, none⟩)] w fun e w' => e = .returned (.string (tokB seed n 0)) ∧ w = w' := by
 obtain ⟨g, h1, h2⟩ := h
 have c1 := h1.cell 0
 have c2 := h2.cell 0
 rw [ptok_get _ _ _ (Nat.zero_le _)] at c2
 simp at c1
 clear h1 h2
 go_enter Tryz.func110, Tryz.ntmps110
 go_wp2
 go_ret
 exact ⟨rfl, rfl⟩
theorem pvalue_any (n u : Nat) (w : World) (hn : n ≤ 9223372036854775807) (hu : u < 18446744073709551616) :
  Calls Tryz.prog 170 #[.int .i64 n, .int .u64 u] w fun e w' => e = .returned (.tuple #[.int .u64 (mulV n u), .int .i64 (mulE n u)]) ∧ w' = w := by
 have h1 := mul_any n u w (by omega) (by omega) (by omega) (by omega)
 generalize mulV n u = v at *
 generalize mulE n u = f at *
 have H1 := Lib.hid h1
 clear h1
 go_enter Tryz.func170, Tryz.ntmps170
 go_wp2_with fail
 refine (of_any n w hn).mono ?_
 rintro e w1 ⟨rfl, rfl⟩
 go_wp2_with fail
 refine H1.out.mono ?_
 rintro e w1 ⟨rfl, rfl⟩
 go_wp2
 go_ret2
 exact ⟨rfl, rfl⟩
end
section
open Go.RowKit
set_option maxRecDepth 100000 in
set_option maxHeartbeats 2000000 in
theorem pnew_any (seed : ByteArray) (n : Nat) (w : World) (h1 : 1 ≤ n) (hn : n ≤ 4096) (hs : seed.size ≤ 1000000) :
  Calls Tryz.prog 38 #[.string seed, .int .i64 n] w fun e w' => ∃ cb, e = .returned (.tuple #[.pointer (some ⟨cb, 0, none⟩), .int .i64 0]) ∧ w.heap.size ≤ cb ∧ ChainAt w' cb seed n ∧ Below w.heap.size w w' := by
 obtain ⟨i0, hi, hz0, hz1, hz2⟩ := info_parts Tryz.infoStr
 have hmk : (Instr.makeSlice 66 (.int .i64 ((n : Int) + 1)) (.int .i64 ((n : Int) + 1))).run Tryz.prog (w.alloc (.cells #[.int .i64 n] 3)) = .ok (.slice (some ⟨w.heap.size + 1, 0, none⟩) (n + 1) (n + 1)) ((w.alloc (.cells #[.int .i64 n] 3)).alloc (.cells (tK (startB seed) n 0) 9)) := by
  rw [run_make (w.alloc (.cells #[.int .i64 n] 3)) 66 9 i0 _ Tryz.underlying66 hi hz0 .i64 .i64 _ _ (by omega) (Int.le_refl _) (by rw [hz2]; omega) (by omega), hz1, ← tK_made (startB seed) n]
  simp
 have hmf : ∀ (fn : Fn) (first cap : Array Value) (w : World), (Instr.makeFunc fn first cap).run Tryz.prog w = .ok (.func fn first cap) w := fun _ _ _ _ => rfl
 clear hi hz0 hz1 hz2
 have hsz := startB_size seed
 have HT := fun W g hg => Lib.hid (tag1 wSeed seed W g hg (by decide) hs)
 have d1 : decide ((n : Int) < 1) = false := decide_eq_false (by omega)
 have d2 : decide ((4096 : Int) < n) = false := decide_eq_false (by omega)
 have htk := tK_size (startB seed) n 0
 unfold ChainAt
 change ∀ (W : World) (g : Nat), g = W.heap.size → Hid (Calls Tryz.prog 70 #[.string ⟨#[115, 101, 101, 100]⟩, .slice (some ⟨g, 0, none⟩) 1 1] (W.alloc (.cells #[.string seed] 9)) fun e w' => e = .returned (.string (startB seed)) ∧ Below W.heap.size W w') at HT
 generalize startB seed = st at *
 have HW := fun g p q W => Lib.hid (pwalk_new st n g p q W hn hsz)
 generalize tK st n 0 = t0 at *
 generalize tK st n (n + 1) = t1 at *
 go_enter Tryz.func38, Tryz.ntmps38
 go_wp2_with fail
 have HN0 : Hid (Blk (((w.alloc (.cells #[.int .i64 n] 3)).alloc (.cells t0 9)).alloc (.cells #[.slice (some ⟨w.heap.size + 1, 0, none⟩) (n + 1) (n + 1)] 66)) w.heap.size 3 #[.int .i64 n]) := ((Blk.new _ _ _).alloc _).alloc _
 have HG0 : Hid (Blk (((w.alloc (.cells #[.int .i64 n] 3)).alloc (.cells t0 9)).alloc (.cells #[.slice (some ⟨w.heap.size + 1, 0, none⟩) (n + 1) (n + 1)] 66)) (w.heap.size + 1) 9 t0) := (Blk.newAt (by simp)).alloc _
 have HP0 : Hid (Blk (((w.alloc (.cells #[.int .i64 n] 3)).alloc (.cells t0 9)).alloc (.cells #[.slice (some ⟨w.heap.size + 1, 0, none⟩) (n + 1) (n + 1)] 66)) (w.heap.size + 2) 66 #[.slice (some ⟨w.heap.size + 1, 0, none⟩) (n + 1) (n + 1)]) := Blk.newAt (by simp)
 have HB0 : Hid (Below w.heap.size w (((w.alloc (.cells #[.int .i64 n] 3)).alloc (.cells t0 9)).alloc (.cells #[.slice (some ⟨w.heap.size + 1, 0, none⟩) (n + 1) (n + 1)] 66))) := (((Below.refl _ _).alloc (Nat.le_refl _) _).alloc (by simp) _).alloc (by simp; omega) _
 obtain ⟨WX, hWX⟩ : ∃ WX, (((w.alloc (.cells #[.int .i64 n] 3)).alloc (.cells t0 9)).alloc (.cells #[.slice (some ⟨w.heap.size + 1, 0, none⟩) (n + 1) (n + 1)] 66)) = WX := ⟨_, rfl⟩
 rw [hWX] at HN0 HG0 HP0 HB0
 change Code.wp _ _ _ _ (((w.alloc (.cells #[.int .i64 n] 3)).alloc (.cells t0 9)).alloc (.cells #[.slice (some ⟨w.heap.size + 1, 0, none⟩) (n + 1) (n + 1)] 66))
 rw [hWX]
 clear hWX hmk
 have cx : WX.cell? ⟨w.heap.size, 0, none⟩ = some (.int .i64 n) := HN0.out.cell 0
 have hlt := HN0.out.lt
 have cxa : (WX.alloc (.cells #[.string seed] 9)).cell? ⟨w.heap.size, 0, none⟩ = some (.int .i64 n) := (World.cell?_alloc_lt WX _ ⟨w.heap.size, 0, none⟩ hlt).trans cx
 go_region_law (first
  | (go_simp; go_at_call 70; refine (HT (World.drew WX) _ rfl).out.mono ?_; rintro e wa ⟨rfl, hba⟩; have HBA : Hid (Below WX.heap.size WX wa) := ((Below.refl WX.heap.size WX).drew).trans hba; have ca : wa.cell? ⟨w.heap.size, 0, none⟩ = some (.int .i64 n) := (HN0.out.bel HBA.out).cell 0; clear hba)
  | (go_simp; go_at_call 112; refine ((HW (w.heap.size + 1) (w.heap.size + 2) w.heap.size _).out (HP0.out.bel HBA.out) (HN0.out.bel HBA.out) (HG0.out.bel HBA.out)).mono ?_; rintro e wb ⟨rfl, hg1, hc1⟩; have HGB := Lib.hid hg1; have HCB := Lib.hid hc1; have HPB : Hid (Blk wb (w.heap.size + 2) 66 #[.slice (some ⟨w.heap.size + 1, 0, none⟩) (n + 1) (n + 1)]) := Blk.ch (HP0.out.bel HBA.out) hc1 (by simp); clear hg1 hc1))
 all_goals
  have cp := HPB.out.cell 0
  simp at cp
  go_wp2_with fail
  go_ret2
  exact ⟨_, rfl, by have := HCB.out.size; have := HBA.out.size; have := HB0.out.size; simp; omega, ⟨_, Blk.new _ _ _, HGB.out.alloc _⟩, ((HB0.out.trans (HBA.out.mono HB0.out.size)).trans (HCB.out.below (by have := HBA.out.size; have := HB0.out.size; omega) (by simp))).alloc (by have := HCB.out.size; have := HBA.out.size; have := HB0.out.size; omega) _⟩
end
section
open Go.RowKit Go.Maps
theorem lawU : Keyed Tryz.prog 48 := int_keyed Tryz.underlying48
abbrev DU := DataW Unit
def ku (n : Nat) : Lit := .int .u64 (n : Int)
theorem ku_wf (n : Nat) (h : n < 18446744073709551616) : (Lit.int .u64 (n : Int)).wf = true := by
 simp [Lit.wf, IntKind.min, IntKind.max, IntKind.signed, IntKind.bits]; omega
theorem ku_key (n : Nat) (h : n < 18446744073709551616) : keyOf Tryz.prog 48 (.int .u64 (n : Int)) = some (ku n) := keyOf_int_mk Tryz.underlying48 (ku_wf n h)
theorem ku_is (n : Nat) : WideAt.IsKeyLit (ku n) := trivial
def numD : DU → Int
 | .lit (.int _ c) => c
 | _ => 0
/-- what the entries still to come add up to -/
def sD (left : Lit → Bool) : DU → Int
 | .map es => totI ((es.filter fun p => left p.1).map fun p => numD p.2)
 | _ => 0
/-- what all add up to -/
def allD (D : DU) : Int := sD (Maps.has D) D
section
variable {w w' : World} {b n : Nat} {D : DU}
end
end
section
open Go.RowKit
def wLock : ByteArray := ⟨#[108, 111, 99, 107]⟩
def nameB (tx : ByteArray) (out : Nat) : ByteArray := tagB wLock [tx, strOfNums [(out : Int)]]
theorem nameB_size (tx : ByteArray) (out : Nat) : (nameB tx out).size = 16 := tagB_size _ _
/-- an output that locks a channel -/
structure Lk where
 am : Nat
 key : ByteArray
 gate : ByteArray
 ex : Nat
 anchor : ByteArray
 unit : Nat
 tok : Nat
end
section
open Go.RowKit
/-- results: a struct in a cell, and a number -/
theorem results_cell_row2 {fn : Func} {p u : Tmp} {ty : TypeId} (h : fn.results = #[.cell p ty, .tmp u]) (tmps : Array Value) {w : World} {g : Nat} {t : TypeId} {cs : Array Value} {fs : Array Field} (hb : Blk w g t cs)
  (hp : tmps.getD p undef = .pointer (some ⟨g, 0, none⟩)) (hu : Tryz.prog.underlying ty = some (.struct fs)) (hi : (Tryz.prog.info? ty).map (·.size) = some cs.size) :
  (results fn tmps).run Tryz.prog w = .ok (.tuple #[.agg cs, tmps.getD u undef]) w := by
 rw [results_cell_tmp h, hp]
 simp [asAddr, run_loadVar_row w g t ty cs (0, 0) _ hb hu rfl hi, Result.andThen]
theorem infoEnt : (Tryz.prog.info? 89).map (·.size) = some 11 := by kernel_rfl
theorem infoSta : (Tryz.prog.info? 103).map (·.size) = some 20 := by kernel_rfl
def zSt : Array Value := #[.string ByteArray.empty, .int .i64 0, .int .i64 0, .int .u64 0, .string ByteArray.empty, .string ByteArray.empty, .int .i64 0, .string ByteArray.empty, .int .u64 0, .int .i64 0, .string ByteArray.empty, .slice none 0 0, .int .u64 0, .string ByteArray.empty, .string ByteArray.empty, .slice none 0 0, .int .i64 0, .int .u64 0, .int .u64 0, .bool false]
end
end Go.Proofs.YtjcinncphffgaaaGreat
