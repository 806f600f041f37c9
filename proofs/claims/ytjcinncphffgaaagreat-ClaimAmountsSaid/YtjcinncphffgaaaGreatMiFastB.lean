/- The hash on naturals, second part: blocks, sums, tags. No program. Steps, secrets, keys on naturals, for the kernel to reckon. No program. -/
import Derived.Test.YtjcinncphffgaaaGreatMiG39
set_option linter.unusedVariables false
set_option linter.unusedSimpArgs false
namespace Go.Proofs.YtjcinncphffgaaaGreat
section
open Go.RowKit
/-- a text's bytes -/
def byL (s : ByteArray) : List Nat := s.data.toList.map UInt8.toNat
theorem byL_length (s : ByteArray) : (byL s).length = s.size := by unfold byL; rw [List.length_map, ba_size]
theorem byL_append (s t : ByteArray) : byL (s ++ t) = byL s ++ byL t := by unfold byL; rw [ba_append_data, List.map_append]
theorem byL_extract (s : ByteArray) (i j : Nat) : byL (s.extract i j) = ((byL s).drop i).take (j - i) := by unfold byL; rw [ba_extract_data, List.map_take, List.map_drop]
theorem byL_rest (s : ByteArray) (i : Nat) : byL (s.extract i s.size) = (byL s).drop i := by
 rw [byL_extract, List.take_of_length_le (by rw [List.length_drop, byL_length]; omega)]
theorem byL_nums (xs : List Int) : byL (strOfNums xs) = xs.map fun x => x.toNat % 256 := by
 unfold byL strOfNums
 show List.map UInt8.toNat (List.map (fun n : Int => UInt8.ofNat n.toNat) xs) = _
 rw [List.map_map]
 refine List.map_congr_left fun x _ => ?_
 show (UInt8.ofNat x.toNat).toNat = _
 rw [UInt8.toNat_ofNat']
/-! four bytes are a word -/
noncomputable def fWd {α : Type} (l : List Nat) (k : Nat → List Nat → α) : α :=
 match l with
 | a :: b :: c :: d :: r => frc (Nat.add (Nat.mul (Nat.add (Nat.mul (Nat.add (Nat.mul a 256) b) 256) c) 256) d) fun w => k w r
 | _ => k 0 []
def val4 (l : List Nat) : Nat := ((l.getD 0 0 * 256 + l.getD 1 0) * 256 + l.getD 2 0) * 256 + l.getD 3 0
theorem fWd_eq {α : Type} (l : List Nat) (k : Nat → List Nat → α) (h : 4 ≤ l.length) : fWd l k = k (val4 l) (l.drop 4) := by
 match l, h with
 | a :: b :: c :: d :: r, _ =>
  unfold fWd
  dsimp only
  rw [frc_eq]
  rfl
 | [], h => simp at h
 | [_], h => simp at h
 | [_, _], h => simp at h
 | [_, _, _], h => simp at h
def byN (s : ByteArray) (i : Nat) : Nat := (s.data.toList.getD i 0).toNat
def pW (s : ByteArray) (t : Nat) : Nat → Nat
 | 0 => 0
 | j + 1 => pW s t j * 256 + byN s (4 * t + j)
theorem part_val (s : ByteArray) (t : Nat) : ∀ j, j ≤ 4 → pW s t j < 256 ^ j ∧ partW s t j = (pW s t j : Int)
 | 0, _ => ⟨by simp [pW], rfl⟩
 | j + 1, hj => by
  obtain ⟨h1, h2⟩ := part_val s t j (by omega)
  have hb : byN s (4 * t + j) < 256 := UInt8.toNat_lt _
  have h3 : 256 ^ j ≤ 16777216 := by
   have : 256 ^ j ≤ 256 ^ 3 := Nat.pow_le_pow_right (by omega) (by omega)
   omega
  refine ⟨by rw [pW, Nat.pow_succ]; omega, ?_⟩
  rw [partW, h2, show u32w ((pW s t j : Int) * 256) = ((pW s t j * 256 : Nat) : Int) by unfold u32w; omega]
  show bits .or .u32 _ ((byN s (4 * t + j) : Nat) : Int) = _
  rw [bits_or _ _ (by omega) (by omega), pW, Nat.mul_comm, ← Nat.two_pow_add_eq_or_of_lt (i := 8) hb]
theorem wN_val (s : ByteArray) (t : Nat) (ht : t < 16) : wN s t = pW s t 4 := by
 have h := sched_last s t
 rw [if_pos ht, wN_eq s t _ (by omega), (part_val s t 4 (by omega)).2] at h
 omega
theorem byL_get (s : ByteArray) (i : Nat) : (byL s).getD i 0 = byN s i := by
 unfold byL byN
 rw [List.getD_eq_getElem?_getD, List.getD_eq_getElem?_getD, List.getElem?_map]
 cases s.data.toList[i]? <;> rfl
theorem word_of (s : ByteArray) (t : Nat) (ht : t < 16) (hs : 64 ≤ s.size) : wN (s.extract 0 64) t = val4 ((byL s).drop (4 * t)) := by
 have hg : ∀ j, j < 4 → byN (s.extract 0 64) (4 * t + j) = ((byL s).drop (4 * t)).getD j 0 := fun j hj => by
  rw [← byL_get, byL_extract, List.drop_zero, List.getD_eq_getElem?_getD, List.getD_eq_getElem?_getD, List.getElem?_take_of_lt (by omega), List.getElem?_drop]
 rw [wN_val _ _ ht]
 show (((0 * 256 + byN (s.extract 0 64) (4 * t + 0)) * 256 + byN (s.extract 0 64) (4 * t + 1)) * 256 + byN (s.extract 0 64) (4 * t + 2)) * 256 + byN (s.extract 0 64) (4 * t + 3) = _
 rw [hg 0 (by omega), hg 1 (by omega), hg 2 (by omega), hg 3 (by omega), Nat.zero_mul, Nat.zero_add]
 rfl
/-! a block -/
noncomputable def fMix {α : Type} (a b c d e f g h : Nat) (l : List Nat) (z : Nat → Nat → Nat → Nat → Nat → Nat → Nat → Nat → List Nat → α) : α :=
 fWd l fun w0 l => fWd l fun w1 l => fWd l fun w2 l => fWd l fun w3 l => fWd l fun w4 l => fWd l fun w5 l => fWd l fun w6 l => fWd l fun w7 l => fWd l fun w8 l => fWd l fun w9 l => fWd l fun w10 l => fWd l fun w11 l => fWd l fun w12 l => fWd l fun w13 l => fWd l fun w14 l => fWd l fun w15 l => fGo fKeys a b c d e f g h w0 w1 w2 w3 w4 w5 w6 w7 w8 w9 w10 w11 w12 w13 w14 w15 fun a' b' c' d' e' f' g' h' => frc (Nat.mod (Nat.add a a') 4294967296) fun a => frc (Nat.mod (Nat.add b b') 4294967296) fun b => frc (Nat.mod (Nat.add c c') 4294967296) fun c => frc (Nat.mod (Nat.add d d') 4294967296) fun d => frc (Nat.mod (Nat.add e e') 4294967296) fun e => frc (Nat.mod (Nat.add f f') 4294967296) fun f => frc (Nat.mod (Nat.add g g') 4294967296) fun g => frc (Nat.mod (Nat.add h h') 4294967296) fun h => z a b c d e f g h l
theorem mix_eq {α : Type} (s : ByteArray) (a b c d e f g h : Nat) (z : Nat → Nat → Nat → Nat → Nat → Nat → Nat → Nat → List Nat → α) (hs : 64 ≤ s.size) (hb : a < 4294967296 ∧ b < 4294967296 ∧ c < 4294967296 ∧ d < 4294967296 ∧ e < 4294967296 ∧ f < 4294967296 ∧ g < 4294967296 ∧ h < 4294967296) :
  ∃ a' b' c' d' e' f' g' h', (a' < 4294967296 ∧ b' < 4294967296 ∧ c' < 4294967296 ∧ d' < 4294967296 ∧ e' < 4294967296 ∧ f' < 4294967296 ∧ g' < 4294967296 ∧ h' < 4294967296) ∧ mixV (v8 a b c d e f g h) (s.extract 0 64) = v8 a' b' c' d' e' f' g' h' ∧ fMix a b c d e f g h (byL s) z = z a' b' c' d' e' f' g' h' (byL (s.extract 64 s.size)) := by
 obtain ⟨ha, hb, hc, hd, he, hf, hg, hh⟩ := hb
 obtain ⟨a', b', c', d', e', f', g', h', q1, q2, q3⟩ := go_rounds (s.extract 0 64) (v8 a b c d e f g h) 64 (fun a' b' c' d' e' f' g' h' => frc (Nat.mod (Nat.add a a') 4294967296) fun a => frc (Nat.mod (Nat.add b b') 4294967296) fun b => frc (Nat.mod (Nat.add c c') 4294967296) fun c => frc (Nat.mod (Nat.add d d') 4294967296) fun d => frc (Nat.mod (Nat.add e e') 4294967296) fun e => frc (Nat.mod (Nat.add f f') 4294967296) fun f => frc (Nat.mod (Nat.add g g') 4294967296) fun g => frc (Nat.mod (Nat.add h h') 4294967296) fun h => z a b c d e f g h ((byL s).drop 64)) fKeys 0 a b c d e f g h (by decide) (fun i hi => by
  rw [fKeys_eq, Nat.zero_add]
  unfold atW
  rw [List.getD_eq_getElem?_getD, List.getD_eq_getElem?_getD, List.getElem?_map]
  cases fKeys[i]? <;> rfl) ha hb hc hd he hf hg hh rfl
 refine ⟨(a + a') % 4294967296, (b + b') % 4294967296, (c + c') % 4294967296, (d + d') % 4294967296, (e + e') % 4294967296, (f + f') % 4294967296, (g + g') % 4294967296, (h + h') % 4294967296, ⟨mlt _, mlt _, mlt _, mlt _, mlt _, mlt _, mlt _, mlt _⟩, ?_, ?_⟩
 ·rw [mixV_eq, show runV (v8 a b c d e f g h) (schedL (s.extract 0 64) 64) 64 = v8 a' b' c' d' e' f' g' h' from q2]
  unfold addV v8 u32w
  simp only
  congr 1 <;> omega
 ·have hl := byL_length s
  unfold fMix
  rw [fWd_eq _ _ (by omega), fWd_eq _ _ (by simp only [List.length_drop]; omega), fWd_eq _ _ (by simp only [List.length_drop]; omega), fWd_eq _ _ (by simp only [List.length_drop]; omega), fWd_eq _ _ (by simp only [List.length_drop]; omega), fWd_eq _ _ (by simp only [List.length_drop]; omega), fWd_eq _ _ (by simp only [List.length_drop]; omega), fWd_eq _ _ (by simp only [List.length_drop]; omega), fWd_eq _ _ (by simp only [List.length_drop]; omega), fWd_eq _ _ (by simp only [List.length_drop]; omega), fWd_eq _ _ (by simp only [List.length_drop]; omega), fWd_eq _ _ (by simp only [List.length_drop]; omega), fWd_eq _ _ (by simp only [List.length_drop]; omega), fWd_eq _ _ (by simp only [List.length_drop]; omega), fWd_eq _ _ (by simp only [List.length_drop]; omega), fWd_eq _ _ (by simp only [List.length_drop]; omega)]
  simp only [List.drop_drop, Nat.reduceAdd]
  have hw : ∀ t, t < 16 → wN (s.extract 0 64) (0 + t) = val4 ((byL s).drop (4 * t)) := fun t ht => by rw [Nat.zero_add]; exact word_of s t ht hs
  rw [show wN (s.extract 0 64) 0 = val4 (byL s) from hw 0 (by omega), hw 1 (by omega), hw 2 (by omega), hw 3 (by omega), hw 4 (by omega), hw 5 (by omega), hw 6 (by omega), hw 7 (by omega), hw 8 (by omega), hw 9 (by omega), hw 10 (by omega), hw 11 (by omega), hw 12 (by omega), hw 13 (by omega), hw 14 (by omega), hw 15 (by omega)] at q3
  simp only [Nat.reduceMul] at q3
  rw [byL_rest]
  refine q3.trans ?_
  rw [frc_eq, frc_eq, frc_eq, frc_eq, frc_eq, frc_eq, frc_eq, frc_eq]
  rfl
noncomputable def fEat {α : Type} (n : Nat) : Nat → Nat → Nat → Nat → Nat → Nat → Nat → Nat → List Nat → (Nat → Nat → Nat → Nat → Nat → Nat → Nat → Nat → List Nat → α) → α :=
 Nat.rec (motive := fun _ => Nat → Nat → Nat → Nat → Nat → Nat → Nat → Nat → List Nat → (Nat → Nat → Nat → Nat → Nat → Nat → Nat → Nat → List Nat → α) → α) (fun a b c d e f g h l z => z a b c d e f g h l) (fun _ ih a b c d e f g h l z => fMix a b c d e f g h l fun a b c d e f g h l => ih a b c d e f g h l z) n
theorem eat_front (v : V8) (s : ByteArray) : ∀ n, eatV (n + 1) v s = eatV n (mixV v (s.extract 0 64)) (s.extract 64 s.size)
 | 0 => rfl
 | n + 1 => by rw [eatV, eat_front v s n]; rfl
theorem eat_eq {α : Type} (z : Nat → Nat → Nat → Nat → Nat → Nat → Nat → Nat → List Nat → α) : ∀ (n : Nat) (s : ByteArray) (a b c d e f g h : Nat), 64 * n ≤ s.size → (a < 4294967296 ∧ b < 4294967296 ∧ c < 4294967296 ∧ d < 4294967296 ∧ e < 4294967296 ∧ f < 4294967296 ∧ g < 4294967296 ∧ h < 4294967296) →
  ∃ a' b' c' d' e' f' g' h', (a' < 4294967296 ∧ b' < 4294967296 ∧ c' < 4294967296 ∧ d' < 4294967296 ∧ e' < 4294967296 ∧ f' < 4294967296 ∧ g' < 4294967296 ∧ h' < 4294967296) ∧ (eatV n (v8 a b c d e f g h) s).1 = v8 a' b' c' d' e' f' g' h' ∧ fEat n a b c d e f g h (byL s) z = z a' b' c' d' e' f' g' h' (byL (eatV n (v8 a b c d e f g h) s).2)
 | 0, s, a, b, c, d, e, f, g, h, _, hb => ⟨a, b, c, d, e, f, g, h, hb, rfl, rfl⟩
 | n + 1, s, a, b, c, d, e, f, g, h, hs, hb => by
  obtain ⟨a1, b1, c1, d1, e1, f1, g1, h1, r1, r2, r3⟩ := mix_eq s a b c d e f g h (fun a b c d e f g h l => fEat n a b c d e f g h l z) (by omega) hb
  obtain ⟨a', b', c', d', e', f', g', h', q1, q2, q3⟩ := eat_eq z n (s.extract 64 s.size) a1 b1 c1 d1 e1 f1 g1 h1 (by rw [ByteArray.size_extract]; omega) r1
  refine ⟨a', b', c', d', e', f', g', h', q1, ?_, ?_⟩
  ·rw [eat_front, r2, q2]
  ·rw [eat_front, r2, ← q3, ← r3]; rfl
def fPad (left n : Nat) : List Nat :=
 128 :: (List.replicate ((119 - left % 64) % 64) 0 ++ [n * 8 / 72057594037927936 % 256, n * 8 / 281474976710656 % 256, n * 8 / 1099511627776 % 256, n * 8 / 4294967296 % 256, n * 8 / 16777216 % 256, n * 8 / 65536 % 256, n * 8 / 256 % 256, n * 8 % 256])
theorem pad_eq (left n : Nat) : byL (strOfNums (padL left n)) = fPad left n := by
 rw [byL_nums]
 unfold padL fPad padN lenB
 simp only [List.map_cons, List.map_append, List.map_replicate, List.map_nil, Nat.reduceMul, Int.reducePow]
 refine congrArg (fun x => 128 :: (List.replicate ((119 - left % 64) % 64) 0 ++ x)) ?_
 simp only [List.cons.injEq, and_true]
 refine ⟨?_, ?_, ?_, ?_, ?_, ?_, ?_, ?_⟩ <;> omega
def fOut4 (x : Nat) : List Nat := [x / 16777216 % 256, x / 65536 % 256, x / 256 % 256, x % 256]
theorem word_out (x : Nat) : (wordL (x : Int)).map (fun x => x.toNat % 256) = fOut4 x := by
 unfold wordL fOut4
 simp only [List.map_cons, List.map_nil, List.cons.injEq, and_true]
 refine ⟨?_, ?_, ?_, ?_⟩ <;> omega
noncomputable def fSum (l : List Nat) : List Nat :=
 frc l.length fun n => fEat (n / 64) 0x6a09e667 0xbb67ae85 0x3c6ef372 0xa54ff53a 0x510e527f 0x9b05688c 0x1f83d9ab 0x5be0cd19 l fun a b c d e f g h r =>
  frc r.length fun m => fEat ((m + (fPad m n).length) / 64) a b c d e f g h (r ++ fPad m n) fun a b c d _ _ _ _ _ => fOut4 a ++ fOut4 b ++ fOut4 c ++ fOut4 d
theorem sum_eq (s : ByteArray) : byL (shortB s) = fSum (byL s) := by
 unfold shortB
 rw [byL_extract, sumB_eq]
 unfold sumV fSum
 rw [frc_eq, byL_length]
 have e0 : writeV beginV ByteArray.empty s = eatV (s.size / 64) (v8 0x6a09e667 0xbb67ae85 0x3c6ef372 0xa54ff53a 0x510e527f 0x9b05688c 0x1f83d9ab 0x5be0cd19) s := by
  unfold writeV
  rw [ba_empty_append, show ByteArray.empty.size + s.size = s.size from Nat.zero_add _]
  rfl
 rw [e0]
 obtain ⟨a', b', c', d', e', f', g', h', q1, q2, q3⟩ := eat_eq (fun a b c d e f g h r => frc r.length fun m => fEat ((m + (fPad m s.size).length) / 64) a b c d e f g h (r ++ fPad m s.size) fun a b c d _ _ _ _ _ => fOut4 a ++ fOut4 b ++ fOut4 c ++ fOut4 d) (s.size / 64) s 0x6a09e667 0xbb67ae85 0x3c6ef372 0xa54ff53a 0x510e527f 0x9b05688c 0x1f83d9ab 0x5be0cd19 (by omega) (by decide)
 rw [q3, q2]
 generalize (eatV (s.size / 64) (v8 0x6a09e667 0xbb67ae85 0x3c6ef372 0xa54ff53a 0x510e527f 0x9b05688c 0x1f83d9ab 0x5be0cd19) s).2 = r
 rw [frc_eq, byL_length]
 unfold writeV
 have hp : (strOfNums (padL r.size s.size)).size = (fPad r.size s.size).length := by rw [← byL_length, pad_eq]
 rw [hp, ← pad_eq, ← byL_append]
 obtain ⟨a2, b2, c2, d2, e2, f2, g2, h2, _, r2, r3⟩ := eat_eq (fun a b c d _ _ _ _ _ => fOut4 a ++ fOut4 b ++ fOut4 c ++ fOut4 d) ((r.size + (byL (strOfNums (padL r.size s.size))).length) / 64) (r ++ strOfNums (padL r.size s.size)) a' b' c' d' e' f' g' h' (by rw [byL_length, ByteArray.size_append]; omega) q1
 rw [r3, byL_nums]
 rw [byL_length] at r2 ⊢
 rw [r2]
 show (List.take 16 (List.drop 0 ((V8.list (v8 a2 b2 c2 d2 e2 f2 g2 h2)).flatMap wordL |>.map fun x => x.toNat % 256))) = _
 unfold V8.list v8
 simp only [List.flatMap_cons, List.flatMap_nil, List.map_append, word_out]
 rfl
def fPre (p : List Nat) : List Nat := p.length / 256 % 256 :: p.length % 256 :: p
def fIn (word : List Nat) (parts : List (List Nat)) : List Nat := (word.length % 256 :: word) ++ parts.flatMap fPre
theorem in_eq (word : ByteArray) : ∀ l : List ByteArray, byL (tagIn word l) = fIn (byL word) (l.reverse.map byL)
 | [] => by
  rw [tagIn, byL_append, byL_nums]
  unfold fIn
  rw [byL_length]
  simp only [List.map_cons, List.map_nil, List.reverse_nil, List.flatMap_nil, List.append_nil, List.singleton_append, List.cons.injEq, and_true]
  omega
 | p :: r => by
  rw [tagIn, byL_append, in_eq word r, byL_append]
  unfold fIn
  rw [List.reverse_cons, List.map_append, List.flatMap_append, List.append_assoc]
  congr 2
  unfold lenPre
  rw [byL_nums]
  simp only [List.map_cons, List.map_nil, List.flatMap_cons, List.flatMap_nil, List.append_nil]
  unfold fPre
  rw [byL_length]
  simp only [List.cons_append, List.nil_append, List.cons.injEq, and_true]
  constructor <;> omega
noncomputable def fTag (word : List Nat) (parts : List (List Nat)) : List Nat := fSum (fIn word parts)
theorem tag_eq (word : ByteArray) (parts : List ByteArray) : byL (tagB word parts) = fTag (byL word) (parts.map byL) := by
 rw [tagB_eq, sum_eq, in_eq, List.reverse_reverse]
 rfl
end
section
open Go.RowKit
end
end Go.Proofs.YtjcinncphffgaaaGreat
