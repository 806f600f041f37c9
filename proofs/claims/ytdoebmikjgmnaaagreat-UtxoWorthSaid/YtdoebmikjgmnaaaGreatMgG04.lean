/- Rows of the call's own: bytes, words, texts; to and from strings. num.Put. codec.Writer: Byte, Num, Blob, Hash, Text where nothing is wrong. note.Voucher, nums, Text. -/
import Derived.Laws.BytesArg
import Derived.Lib.ConvBytes
import Derived.Outline
import Derived.OwnWalk
import Derived.Laws.MakeOwn
import Derived.Test.YtdoebmikjgmnaaaGreatMgG01
import Derived.Test.YtdoebmikjgmnaaaGreatMgG03
set_option linter.unusedVariables false
set_option linter.unusedSimpArgs false
namespace Go.Proofs.YtdoebmikjgmnaaaGreat
open Go.RowKit
theorem own_form {w : World} {base size n : Nat} {e : TypeId} {v : Value} {xs : List Value} (h : w.ownsRow base e size v n xs) : ∃ A c, v = .slice A n c := by
  obtain ⟨_, h | ⟨g, cap, cur, rfl, _⟩⟩ := h
  · obtain ⟨rfl, rfl⟩ := h
    exact ⟨none, 0, rfl⟩
  · exact ⟨_, _, rfl⟩
theorem own_empty {w : World} {base g k : Nat} {e : TypeId} (hg : w.heap[g]? = some (.cells #[] e (0, 0))) (hb : base ≤ g) : w.ownsRow base e k (.slice (some ⟨g, 0, none⟩) 0 0) 0 [] :=
  ⟨by simp, .inr ⟨g, 0, #[], rfl, hb, hg, Nat.le_refl _, by unfold maxLen; omega, by simp, by simp⟩⟩
theorem own_lit {w : World} {base g k n : Nat} {e : TypeId} {cs : Array Value} (hg : Blk w g e cs) (hb : base ≤ g) (hn : cs.size = n * k) (hm : n ≤ maxLen) : w.ownsRow base e k (.slice (some ⟨g, 0, none⟩) n n) n cs.toList :=
  ⟨by simpa using hn, .inr ⟨g, n, cs, rfl, hb, hg, Nat.le_refl _, hm, hn, by rw [List.take_of_length_le]; simp [hn]⟩⟩
theorem one_int {k : IntKind} (n : Int) : ∀ u ∈ [Value.int k n], u.oneCell' = true := by intro u hu; simp at hu; subst hu; rfl
theorem one_ints {k : IntKind} (l : List Int) : ∀ u ∈ l.map (Value.int k), u.oneCell' = true := by intro u hu; simp at hu; obtain ⟨x, _, rfl⟩ := hu; rfl
theorem one_str (s : ByteArray) : ∀ u ∈ [Value.string s], u.oneCell' = true := by intro u hu; simp at hu; subst hu; rfl
theorem Tryz.infoU8 : (Tryz.prog.info? 5).map (fun i => (i.zero, i.size, i.bytes)) = some (some (.int .u8 0), 1, 1) := by kernel_rfl
theorem Tryz.infoStr : (Tryz.prog.info? 9).map (fun i => (i.zero, i.size, i.bytes)) = some (some (.string ByteArray.empty), 1, 16) := by kernel_rfl
set_option maxRecDepth 100000 in
/-- 'string(b)' of a row of the call's own -/
theorem conv_own {w : World} {base n : Nat} {v : Value} {xs : List Int} (h : w.ownsRow base 5 1 v n (xs.map (Value.int .u8))) :
    (convert 107 9 v).run Tryz.prog w = .ok (.string (strOfNums xs)) w := by
  have hl : xs.length = n := by have := h.1; simpa using this
  obtain ⟨A, c, rfl⟩ := own_form h
  by_cases hn : n = 0
  · subst hn
    have : xs = [] := List.length_eq_zero_iff.1 hl
    subst this
    obtain ⟨_, h | ⟨g, cap, cur, hv, _, hg, _⟩⟩ := h
    · obtain ⟨hv, _⟩ := h
      injection hv with h1 h2 h3
      subst h1 h3
      exact run_convert_bytes_nil _ 107 5 Tryz.underlying107 Tryz.underlying5 0 0 _ Tryz.underlying9
    · injection hv with h1 h2 h3
      subst h1
      exact run_convert_bytes_arg _ 107 5 Tryz.underlying107 Tryz.underlying5 g 0 0 c [] rfl (fun i hi => by omega) _ Tryz.underlying9
  · obtain ⟨g, cap, hv, _, hlt⟩ := h.form (by omega)
    injection hv with h1 h2 h3
    subst h1
    refine run_convert_bytes_arg _ 107 5 Tryz.underlying107 Tryz.underlying5 g 0 n c xs hl (fun i hi => ?_) _ Tryz.underlying9
    have := h.cells (g := g) rfl i (.int .u8 (xs.getD i 0)) (by simp [List.getD_eq_getElem?_getD, hl, hi])
    rw [addr_add0] at this
    simpa using this
theorem ret_str {s t : ByteArray} (h : s = t) : Ending.returned (.string s) = .returned (.string t) := by rw [h]
theorem conv1 (W : World) (n : Int) : (convert 107 9 (.slice (some ⟨W.heap.size, 0, none⟩) 1 1)).run Tryz.prog (W.alloc (.cells #[.int .u8 n] 5)) = .ok (.string (strOfNums [n])) (W.alloc (.cells #[.int .u8 n] 5)) :=
  conv_own (xs := [n]) (own_lit (base := W.heap.size) (k := 1) (Blk.new W _ _) (Nat.le_refl _) (by simp) (by unfold maxLen; omega))
theorem conv2 (W : World) (m n : Int) : (convert 107 9 (.slice (some ⟨W.heap.size, 0, none⟩) 2 2)).run Tryz.prog (W.alloc (.cells #[.int .u8 m, .int .u8 n] 5)) = .ok (.string (strOfNums [m, n])) (W.alloc (.cells #[.int .u8 m, .int .u8 n] 5)) :=
  conv_own (xs := [m, n]) (own_lit (base := W.heap.size) (k := 1) (Blk.new W _ _) (Nat.le_refl _) (by simp) (by unfold maxLen; omega))
theorem num1_size (n : Int) : (strOfNums [n]).size = 1 := strOfNums_size _
theorem num2_size (m n : Int) : (strOfNums [m, n]).size = 2 := strOfNums_size _
end Go.Proofs.YtdoebmikjgmnaaaGreat
namespace Go.Proofs.YtdoebmikjgmnaaaGreat
open Go.RowKit
def n8 (n j : Nat) : Int := ((n / 2 ^ (8 * (7 - j)) % 256 : Nat) : Int)
/-- a number's eight bytes -/
def putB (n : Nat) : ByteArray := strOfNums ((List.range 8).map (n8 n))
theorem putB_size (n : Nat) : (putB n).size = 8 := by rw [putB, strOfNums_size]; simp
def pK (n k : Nat) : Array Value := ((List.range 8).map fun j => Value.int .u8 (if 8 - k ≤ j then n8 n j else 0)).toArray
theorem pK_size (n k : Nat) : (pK n k).size = 8 := by simp [pK]
theorem pK_get (n k i : Nat) (h : i < 8) : (pK n k)[i]? = some (.int .u8 (if 8 - k ≤ i then n8 n i else 0)) := by
  simp [pK, h]
theorem pK_set (n k : Nat) (h : k < 8) : (pK n k).setIfInBounds (7 - k) (.int .u8 ((n / 2 ^ (8 * k) % 256 : Nat) : Int)) = pK n (k + 1) := by
  apply Array.ext_getElem?
  intro i
  by_cases hi : i < 8
  · rw [pK_get _ _ _ hi, Array.getElem?_setIfInBounds, pK_size, pK_get _ _ _ hi]
    by_cases e : 7 - k = i
    · subst e
      rw [if_pos rfl, if_pos (by omega), if_pos (by omega), n8, show 7 - (7 - k) = k by omega]
    · rw [if_neg e]
      by_cases hl : 8 - k ≤ i
      · rw [if_pos hl, if_pos (by omega)]
      · rw [if_neg hl, if_neg (by omega)]
  · rw [Array.getElem?_eq_none (by simp [pK_size]; omega), Array.getElem?_eq_none (by simp [pK_size]; omega)]
theorem pK_full (n : Nat) : (pK n 8).toList = ((List.range 8).map (n8 n)).map (Value.int .u8) := by
  simp [pK]
theorem pK_made (n : Nat) : madeCells (Value.int .u8 0).cells 8 = pK n 0 := by
  apply Array.ext_getElem?
  intro i
  by_cases hi : i < 8
  · rw [pK_get _ _ _ hi, if_neg (by omega)]
    simp [madeCells, hi, Value.cells, Nat.mod_one]
  · rw [Array.getElem?_eq_none (by simp [madeCells]; omega), Array.getElem?_eq_none (by simp [pK_size]; omega)]
set_option maxRecDepth 100000 in
set_option maxHeartbeats 1000000 in
theorem put_any (n : Nat) (w : World) (hn : n < 18446744073709551616) :
    Calls Tryz.prog 75 #[.int .u64 n] w fun e w' => e = .returned (.string (putB n)) ∧ Below w.heap.size w w' := by
  obtain ⟨i0, hi, hz0, hz1, hz2⟩ := info_parts Tryz.infoU8
  have hmk : (Instr.makeSlice 107 (.int .i64 8) (.int .i64 8)).run Tryz.prog w = .ok (.slice (some ⟨w.heap.size, 0, none⟩) 8 8) (w.alloc (.cells (pK n 0) 5)) := by
    rw [run_make w 107 5 i0 _ Tryz.underlying107 hi hz0 .i64 .i64 8 8 (by decide) (by decide) (by rw [hz2]; decide) (by decide), hz1, ← pK_made n]
    rfl
  clear hi hz0 hz1 hz2
  go_enter Tryz.func75, Tryz.ntmps75
  go_wp2
  go_loopw [8] (fun i wr => ∃ k : Nat, k ≤ 8 ∧ i = .int .i64 k ∧ Hid (Blk wr w.heap.size 5 (pK n k)) ∧ Hid (Below w.heap.size w wr)) (fun i _ => 8 - (intOf i).toNat)
  case atStart => exact ⟨0, by omega, rfl, Blk.new _ _ _, (Below.refl _ _).alloc (Nat.le_refl _) _⟩
  case round =>
    obtain ⟨k, hk, rfl, HB, HW⟩ := hrel
    by_cases hk8 : k < 8
    · have hw : IntKind.u8.wrap ((n : Int) / 2 ^ (8 * k)) = ((n / 2 ^ (8 * k) % 256 : Nat) : Int) := by
        rw [IntKind.wrap_u8]; simp
      have hc : wr.cell? ⟨w.heap.size, 7 - k, none⟩ = some (.int .u8 0) := by rw [Blk.cell HB.out, pK_get _ _ _ (by omega), if_neg (by omega)]
      have f0 := Blk.frozen HB.out (7 - k)
      have HS := Lib.hid (pK_set n k hk8)
      go_wp2
      go_roundw
      case rel => exact ⟨k + 1, by omega, by go_num, HS.out ▸ Blk.set_ HB.out _ _, HW.out.trans ((Ch.set_ (List.mem_singleton.2 rfl) wr _ _).below HW.out.size (by simp))⟩
      case measure => simp [intOf]; omega
    · obtain rfl : k = 8 := by omega
      have kc := conv_own (own_lit (k := 1) (n := 8) HB.out (Nat.le_refl _) (by simp [pK_size]) (by unfold maxLen; omega) |> fun h => (pK_full n) ▸ h)
      go_wp2
      go_ret
      exact ⟨rfl, HW.out⟩
end Go.Proofs.YtdoebmikjgmnaaaGreat
namespace Go.Proofs.YtdoebmikjgmnaaaGreat
open Go.RowKit

theorem Blk.newAt {w : World} {t : TypeId} {cs : Array Value} {g : Nat} (hg : g = w.heap.size) : Blk (w.alloc (.cells cs t)) g t cs := hg ▸ Blk.new w t cs
def WrAt (w : World) (b : Nat) (s : ByteArray) : Prop := Blk w b 102 #[.string s, .int .i64 0]
theorem WrAt.ch {w w' : World} {b : Nat} {s : ByteArray} {S : List Nat} (h : WrAt w b s) (hc : Ch S w w') (h1 : b ∉ S) : WrAt w' b s := Blk.ch h hc h1
set_option maxHeartbeats 400000 in
theorem wput_ok (b : Nat) (s t : ByteArray) (e : Int) (w : World) (hsz : s.size + t.size ≤ 1099511627776) (h : WrAt w b s) :
    Calls Tryz.prog 74 #[.pointer (some ⟨b, 0, none⟩), .string t, .bool true, .int .i64 e] w fun e w' => e = .returned (.tuple #[]) ∧ WrAt w' b (s ++ t) ∧ Ch [b] w w' := by
  have c0 : w.cell? ⟨b, 0, none⟩ = some (.string s) := Blk.cell h 0
  have f0 : w.frozen? ⟨b, 0, none⟩ = false := Blk.frozen h 0
  go_enter Tryz.func74, Tryz.ntmps74
  go_wp2
  go_end0
  exact ⟨rfl, Blk.set_ h 0 _, Ch.set_ (by simp) _ _ _⟩
set_option maxRecDepth 100000 in
set_option maxHeartbeats 400000 in
theorem wbyte_ok (b : Nat) (s : ByteArray) (n : Int) (w : World) (h0 : 0 ≤ n) (h1 : n ≤ 255) (hs : s.size ≤ 1000000) (h : WrAt w b s) :
    Calls Tryz.prog 39 #[.pointer (some ⟨b, 0, none⟩), .int .i64 n] w fun e w' => e = .returned (.tuple #[]) ∧ WrAt w' b (s ++ strOfNums [n]) ∧ Ch [b] w w' := by
  have H := Lib.hid h
  have kc := conv1
  clear h
  go_enter Tryz.func39, Tryz.ntmps39
  go_wp2_with fail
  refine (wput_ok b s _ 1 _ (by rw [num1_size]; omega) (Blk.alloc H.out _)).mono ?_
  rintro e w' ⟨rfl, h2, h3⟩
  have h4 := Lib.hid ((Ch.alloc [b] w (.cells #[.int .u8 n] 5)).trans h3)
  go_wp2
  go_end0
  exact ⟨rfl, h2, h4.out⟩
/-- a text behind its length -/
def blobB (t : ByteArray) : ByteArray := strOfNums [(t.size : Int) / 256, (t.size : Int) % 256] ++ t
theorem blobB_size (t : ByteArray) : (blobB t).size = 2 + t.size := by rw [blobB, ByteArray.size_append, num2_size]
set_option maxRecDepth 100000 in
set_option maxHeartbeats 400000 in
theorem wblob_ok (b : Nat) (s t : ByteArray) (w : World) (h1 : t.size ≤ 4096) (hs : s.size ≤ 1000000) (h : WrAt w b s) :
    Calls Tryz.prog 40 #[.pointer (some ⟨b, 0, none⟩), .string t] w fun e w' => e = .returned (.tuple #[]) ∧ WrAt w' b (s ++ blobB t) ∧ Ch [b] w w' := by
  have H := Lib.hid h
  have kc := conv2
  have k2 := num2_size
  have hd : decide ((t.size : Int) ≤ 4096) = true := decide_eq_true (by omega)
  clear h
  go_enter Tryz.func40, Tryz.ntmps40
  go_wp2_with fail
  refine (wput_ok b s (strOfNums [(t.size : Int) / 256, (t.size : Int) % 256] ++ t) 5 _ (by rw [ByteArray.size_append, num2_size]; omega) (Blk.alloc H.out _)).mono ?_
  rintro e w' ⟨rfl, h2, h3⟩
  have h4 := Lib.hid ((Ch.alloc [b] w _).trans h3)
  go_wp2
  go_end0
  exact ⟨rfl, h2, h4.out⟩
set_option maxHeartbeats 400000 in
theorem whash_ok (b : Nat) (s t : ByteArray) (w : World) (h1 : t.size = 16) (hs : s.size ≤ 1000000) (h : WrAt w b s) :
    Calls Tryz.prog 78 #[.pointer (some ⟨b, 0, none⟩), .string t] w fun e w' => e = .returned (.tuple #[]) ∧ WrAt w' b (s ++ t) ∧ Ch [b] w w' := by
  have H := Lib.hid h
  have hd : ((t.size : Int) == 16) = true := by simp; omega
  clear h
  go_enter Tryz.func78, Tryz.ntmps78
  go_wp2_with fail
  refine (wput_ok b s t 1 _ (by omega) H.out).mono ?_
  rintro e w' ⟨rfl, h2, h3⟩
  go_wp2
  go_end0
  exact ⟨rfl, h2, h3⟩
set_option maxHeartbeats 400000 in
theorem wnum_ok (b : Nat) (s : ByteArray) (n : Nat) (w : World) (h1 : n < 18446744073709551616) (hs : s.size ≤ 1000000) (h : WrAt w b s) :
    Calls Tryz.prog 41 #[.pointer (some ⟨b, 0, none⟩), .int .u64 n] w fun e w' => e = .returned (.tuple #[]) ∧ WrAt w' b (s ++ putB n) ∧ Ch [b] w w' := by
  have H := Lib.hid h
  clear h
  go_enter Tryz.func41, Tryz.ntmps41
  go_wp2_with fail
  refine (put_any n _ h1).mono ?_
  rintro e w1 ⟨rfl, hb⟩
  have HB := Lib.hid hb
  go_wp2_with fail
  refine (wput_ok b s _ 0 _ (by rw [putB_size]; omega) (Blk.bel H.out HB.out)).mono ?_
  rintro e w' ⟨rfl, h2, h3⟩
  go_wp2
  go_end0
  exact ⟨rfl, h2, (Ch.of_below HB.out _).trans h3⟩
set_option maxHeartbeats 400000 in
theorem wtext_ok (b : Nat) (s : ByteArray) (w : World) (h : WrAt w b s) :
    Calls Tryz.prog 42 #[.pointer (some ⟨b, 0, none⟩)] w fun e w' => e = .returned (.string s) ∧ w = w' := by
  have c0 : w.cell? ⟨b, 0, none⟩ = some (.string s) := Blk.cell h 0
  have c1 : w.cell? ⟨b, 1, none⟩ = some (.int .i64 0) := Blk.cell h 1
  clear h
  go_enter Tryz.func42, Tryz.ntmps42
  go_wp2
  go_ret
  exact ⟨rfl, rfl⟩
end Go.Proofs.YtdoebmikjgmnaaaGreat
namespace Go.Proofs.YtdoebmikjgmnaaaGreat
open Go.RowKit
def vouchB (ch : ByteArray) (n : Nat) : ByteArray := ByteArray.empty ++ strOfNums [86] ++ blobB ch ++ putB n
theorem vouchB_size (ch : ByteArray) (n : Nat) : (vouchB ch n).size = 11 + ch.size := by
  rw [vouchB, ByteArray.size_append, ByteArray.size_append, ByteArray.size_append, putB_size, blobB_size, num1_size]
  simp; omega
set_option maxRecDepth 100000 in
set_option maxHeartbeats 400000 in
theorem voucher_any (ch : ByteArray) (n : Nat) (w : World) (hc : ch.size ≤ 4096) (hn : n < 18446744073709551616) :
    Calls Tryz.prog 12 #[.string ch, .int .u64 n] w fun e w' => e = .returned (.string (vouchB ch n)) ∧ Below w.heap.size w w' := by
  unfold vouchB
  go_enter Tryz.func12, Tryz.ntmps12
  go_wp2_with fail
  refine (wbyte_ok w.heap.size ByteArray.empty 86 _ (by decide) (by decide) (by simp) (Blk.new _ _ _)).mono ?_
  rintro e w1 ⟨rfl, h1, k1⟩
  have HB1 : Hid (Below w.heap.size w w1) := ((Below.refl _ _).alloc (Nat.le_refl _) _).trans (k1.below (by simp) (by simp))
  clear k1
  have H1 := Lib.hid h1
  clear h1
  go_wp2_with fail
  refine (wblob_ok w.heap.size _ ch _ hc (by rw [ByteArray.size_append, num1_size]; simp) H1.out).mono ?_
  rintro e w2 ⟨rfl, h2, k2⟩
  have HB2 : Hid (Below w.heap.size w w2) := HB1.out.trans (k2.below HB1.out.size (by simp))
  clear k2
  have H2 := Lib.hid h2
  clear h2
  go_wp2_with fail
  refine (wnum_ok w.heap.size _ n _ hn (by rw [ByteArray.size_append, ByteArray.size_append, num1_size, blobB_size]; simp; omega) H2.out).mono ?_
  rintro e w3 ⟨rfl, h3, k3⟩
  have HB3 : Hid (Below w.heap.size w w3) := HB2.out.trans (k3.below HB2.out.size (by simp))
  clear k3
  have H3 := Lib.hid h3
  clear h3
  go_wp2_with fail
  refine (wtext_ok w.heap.size _ _ H3.out).mono ?_
  rintro e w4 ⟨rfl, rfl⟩
  go_wp2
  go_ret
  exact ⟨rfl, HB3.out⟩
def numsB (s : ByteArray) (l : List Nat) : ByteArray := l.foldl (fun a n => a ++ putB n) s
theorem numsB_snoc (s : ByteArray) (l : List Nat) (k : Nat) (h : k < l.length) : numsB s (l.take (k + 1)) = numsB s (l.take k) ++ putB l[k] := by
  unfold numsB
  rw [List.take_succ_eq_append_getElem h, List.foldl_append]; rfl
theorem numsB_size : ∀ (l : List Nat) (s : ByteArray), (numsB s l).size = s.size + 8 * l.length
  | [], s => rfl
  | a :: r, s => by
    show (numsB (s ++ putB a) r).size = _
    rw [numsB_size r, ByteArray.size_append, putB_size, List.length_cons]; omega
def cN (l : List Nat) : Array Value := (l.map fun (n : Nat) => Value.int .u64 (n : Int)).toArray
theorem cN_get (l : List Nat) (i : Nat) (h : i < l.length) : (cN l)[i]? = some (.int .u64 (l[i] : Nat)) := by simp [cN, h]
set_option maxRecDepth 100000 in
set_option maxHeartbeats 400000 in
theorem nums_any (b g c : Nat) (l : List Nat) (s : ByteArray) (w : World) (hl : l.length ≤ 1000) (hn : ∀ x ∈ l, x < 18446744073709551616) (hs : s.size ≤ 900000) (h : WrAt w b s) (hg : Blk w g 28 (cN l)) :
    Calls Tryz.prog 156 #[.pointer (some ⟨b, 0, none⟩), .slice (some ⟨g, 0, none⟩) l.length c] w fun e w' => e = .returned (.tuple #[]) ∧ WrAt w' b (numsB s l) ∧ Ch [b] w w' := by
  have hne : g ≠ b := Blk.ne_ hg h (by decide)
  have H := Lib.hid h
  have HG := Lib.hid hg
  clear h hg
  go_enter Tryz.func156, Tryz.ntmps156
  go_wp2
  go_loopw [8] (fun i wr => ∃ k : Nat, k ≤ l.length ∧ i = .int .i64 k ∧ Hid (WrAt wr b (numsB s (l.take k))) ∧ Hid (Ch [b] w wr)) (fun i _ => l.length - (intOf i).toNat)
  case atStart => exact ⟨0, Nat.zero_le _, rfl, H, Ch.refl _ _⟩
  case round =>
    obtain ⟨k, hk, rfl, HW, HC⟩ := hrel
    by_cases hlt : k < l.length
    · have c0 : wr.cell? ⟨g, k, none⟩ = some (.int .u64 (l[k] : Nat)) := by rw [Blk.cell (Blk.ch HG.out HC.out (by simpa using hne)), cN_get _ _ hlt]
      have hx := hn _ (List.getElem_mem hlt)
      have HS := Lib.hid (numsB_snoc s l k hlt)
      have hz := numsB_size (l.take k) s
      rw [List.length_take] at hz
      generalize l[k] = x at c0 hx HS
      go_wp2_with fail
      refine (wnum_ok b _ x _ hx (by omega) HW.out).mono ?_
      rintro e w1 ⟨rfl, h1, k1⟩
      have H1 := Lib.hid h1
      have K1 := Lib.hid k1
      clear h1 k1
      go_wp2
      go_roundw
      case rel => exact ⟨k + 1, by omega, by go_num, HS.out ▸ H1.out, HC.out.trans K1.out⟩
      case measure => simp [intOf]; omega
    · have hkl : k = l.length := by omega
      subst hkl
      rw [List.take_length] at HW
      go_wp2
      go_end0
      exact ⟨rfl, HW.out, HC.out⟩
end Go.Proofs.YtdoebmikjgmnaaaGreat
