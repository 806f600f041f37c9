/- Plain words: the hash as the program reckons it (words of 32 bits as integers), and the tag of a word and parts: 16 bytes. No program. sha.turn, schedule, keys. sha.schedule, keys. sha.keys, mix. sha.New, Write, Copy. sha: Copy, Sum, Short, Tag. Plain words: steps, signatures, trees, over a hash tagB of a word and parts (16 bytes). No program. -/
import Derived.Laws.BytesArg
import Derived.Lib.Strings
import Derived.WalkKit
import Derived.Outline
import Derived.Lib.ConvBytes
import Derived.Deep.RegionHeld3
import Derived.RegionTactic
import Derived.WalkMore
import Derived.ScopeJumps
import Derived.Test.YtjcinncphffgaaaGreatMjNum
set_option linter.unusedVariables false
set_option linter.unusedSimpArgs false
namespace Go.Proofs.YtjcinncphffgaaaGreat
open Go.RowKit
/-- a word turned to the right -/
def rotI (x : Int) (n : Nat) : Int := bits .or .u32 (x / 2 ^ n) (x * 2 ^ (32 - n) % 4294967296)
/-- eight words -/
structure V8 where
  a : Int
  b : Int
  c : Int
  d : Int
  e : Int
  f : Int
  g : Int
  h : Int
def V8.list (v : V8) : List Int := [v.a, v.b, v.c, v.d, v.e, v.f, v.g, v.h]
abbrev u32w (n : Int) : Int := n % 4294967296
abbrev xorI (a b : Int) : Int := bits .xor .u32 a b
abbrev andI (a b : Int) : Int := bits .and .u32 a b
/-- a byte of a text -/
def byI (s : ByteArray) (i : Nat) : Int := ((s.data.toList.getD i 0).toNat : Int)
theorem byI_bd (s : ByteArray) (i : Nat) : 0 ≤ byI s i ∧ byI s i < 256 := by
  unfold byI
  have := (s.data.toList.getD i 0).toNat_lt
  omega
/-- the word t of the first 16, behind j of its bytes -/
def partW (s : ByteArray) (t : Nat) : Nat → Int
  | 0 => 0
  | j + 1 => bits .or .u32 (u32w (partW s t j * 256)) (byI s (4 * t + j))
def atW (l : List Int) (i : Nat) : Int := l.getD i 0
/-- the next word behind t words -/
def nextW (l : List Int) (t : Nat) : Int :=
  u32w (u32w (u32w (xorI (xorI (rotI (atW l (t - 2)) 17) (rotI (atW l (t - 2)) 19)) (atW l (t - 2) / 1024) + atW l (t - 7)) + xorI (xorI (rotI (atW l (t - 15)) 7) (rotI (atW l (t - 15)) 18)) (atW l (t - 15) / 8)) + atW l (t - 16))
def schedL (s : ByteArray) : Nat → List Int
  | 0 => []
  | t + 1 => schedL s t ++ [if t < 16 then partW s t 4 else nextW (schedL s t) t]
theorem schedL_length (s : ByteArray) : ∀ t, (schedL s t).length = t
  | 0 => rfl
  | t + 1 => by rw [schedL, List.length_append, schedL_length s t]; rfl
abbrev notI (x : Int) : Int := bits .xor .u32 (if IntKind.u32.signed then -1 else IntKind.u32.max) x
/-- one round -/
def pI (v : V8) (k w : Int) : Int :=
  u32w (u32w (u32w (u32w (v.h + xorI (xorI (rotI v.e 6) (rotI v.e 11)) (rotI v.e 25)) + xorI (andI v.e v.f) (andI (notI v.e) v.g)) + k) + w)
def qI (v : V8) : Int :=
  u32w (xorI (xorI (rotI v.a 2) (rotI v.a 13)) (rotI v.a 22) + xorI (xorI (andI v.a v.b) (andI v.a v.c)) (andI v.b v.c))
def stepV (v : V8) (k w : Int) : V8 := ⟨u32w (pI v k w + qI v), v.a, v.b, v.c, u32w (v.d + pI v k w), v.e, v.f, v.g⟩
def keysL : List Int := [0x428a2f98, 0x71374491, 0xb5c0fbcf, 0xe9b5dba5, 0x3956c25b, 0x59f111f1, 0x923f82a4, 0xab1c5ed5,
  0xd807aa98, 0x12835b01, 0x243185be, 0x550c7dc3, 0x72be5d74, 0x80deb1fe, 0x9bdc06a7, 0xc19bf174,
  0xe49b69c1, 0xefbe4786, 0x0fc19dc6, 0x240ca1cc, 0x2de92c6f, 0x4a7484aa, 0x5cb0a9dc, 0x76f988da,
  0x983e5152, 0xa831c66d, 0xb00327c8, 0xbf597fc7, 0xc6e00bf3, 0xd5a79147, 0x06ca6351, 0x14292967,
  0x27b70a85, 0x2e1b2138, 0x4d2c6dfc, 0x53380d13, 0x650a7354, 0x766a0abb, 0x81c2c92e, 0x92722c85,
  0xa2bfe8a1, 0xa81a664b, 0xc24b8b70, 0xc76c51a3, 0xd192e819, 0xd6990624, 0xf40e3585, 0x106aa070,
  0x19a4c116, 0x1e376c08, 0x2748774c, 0x34b0bcb5, 0x391c0cb3, 0x4ed8aa4a, 0x5b9cca4f, 0x682e6ff3,
  0x748f82ee, 0x78a5636f, 0x84c87814, 0x8cc70208, 0x90befffa, 0xa4506ceb, 0xbef9a3f7, 0xc67178f2]
def runV (v : V8) (ws : List Int) : Nat → V8
  | 0 => v
  | t + 1 => stepV (runV v ws t) (atW keysL t) (atW ws t)
def addV (v u : V8) : V8 := ⟨u32w (v.a + u.a), u32w (v.b + u.b), u32w (v.c + u.c), u32w (v.d + u.d), u32w (v.e + u.e), u32w (v.f + u.f), u32w (v.g + u.g), u32w (v.h + u.h)⟩
/-- 64 bytes taken into a state -/
def mixV (v : V8) (s : ByteArray) : V8 := addV v (runV v (schedL s 64) 64)
/-- n blocks taken, and what is left -/
def eatV : Nat → V8 → ByteArray → V8 × ByteArray
  | 0, v, s => (v, s)
  | n + 1, v, s => (mixV (eatV n v s).1 ((eatV n v s).2.extract 0 64), (eatV n v s).2.extract 64 (eatV n v s).2.size)
theorem eatV_size (v : V8) (s : ByteArray) : ∀ n, (eatV n v s).2.size = s.size - 64 * n
  | 0 => by simp [eatV]
  | n + 1 => by
    show ((eatV n v s).2.extract 64 (eatV n v s).2.size).size = _
    rw [ByteArray.size_extract, eatV_size v s n]
    omega
def beginV : V8 := ⟨0x6a09e667, 0xbb67ae85, 0x3c6ef372, 0xa54ff53a, 0x510e527f, 0x9b05688c, 0x1f83d9ab, 0x5be0cd19⟩
/-- how many noughts behind so many bytes -/
def padN (left : Nat) : Nat := (119 - left % 64) % 64
/-- the byte i of the number of bits -/
def lenB (n : Nat) (i : Nat) : Int := (n : Int) * 8 / 2 ^ (8 * i) % 256
def padL (left n : Nat) : List Int := 128 :: (List.replicate (padN left) 0 ++ [lenB n 7, lenB n 6, lenB n 5, lenB n 4, lenB n 3, lenB n 2, lenB n 1, lenB n 0])
def wordL (x : Int) : List Int := [x / 16777216 % 256, x / 65536 % 256, x / 256 % 256, x % 256]
def writeV (v : V8) (l s : ByteArray) : V8 × ByteArray := eatV ((l.size + s.size) / 64) v (l ++ s)
def sumV (v : V8) (l : ByteArray) (n : Nat) : ByteArray := strOfNums ((writeV v l (strOfNums (padL l.size n))).1.list.flatMap wordL)
def sumB (s : ByteArray) : ByteArray := sumV (writeV beginV ByteArray.empty s).1 (writeV beginV ByteArray.empty s).2 s.size
theorem sumB_size (s : ByteArray) : (sumB s).size = 32 := by
  rw [sumB, sumV, strOfNums_size]; rfl
def shortB (s : ByteArray) : ByteArray := (sumB s).extract 0 16
def lenPre (p : ByteArray) : ByteArray := strOfNums [(p.size : Int) / 256 % 256, (p.size : Int) % 256]
def tagIn (word : ByteArray) : List ByteArray → ByteArray
  | [] => strOfNums [(word.size : Int) % 256] ++ word
  | p :: r => tagIn word r ++ (lenPre p ++ p)
theorem tagIn_le (word : ByteArray) (hw : word.size ≤ 1000) : ∀ l : List ByteArray, (∀ p ∈ l, p.size ≤ 1000000) → (tagIn word l).size ≤ 2000 + 2000000 * l.length
  | [], _ => by rw [tagIn, ByteArray.size_append, strOfNums_size]; simp; omega
  | p :: r, h => by
    have h1 := tagIn_le word hw r (fun x hx => h x (by simp [hx]))
    have h2 := h p (by simp)
    rw [tagIn, ByteArray.size_append, ByteArray.size_append, lenPre, strOfNums_size]
    simp only [List.length_cons, List.length_nil]
    omega
theorem tagIn_next (word : ByteArray) (l : List ByteArray) (k : Nat) (h : k < l.length) : tagIn word (l.take (k + 1)).reverse = tagIn word (l.take k).reverse ++ (lenPre l[k] ++ l[k]) := by
  rw [List.take_succ_eq_append_getElem h, List.reverse_append, List.reverse_singleton]; rfl
/-- the parts are taken from the last one: so the tag turns them round -/
def tagB (word : ByteArray) (parts : List ByteArray) : ByteArray := shortB (tagIn word parts.reverse)
theorem tagB_size (w : ByteArray) (l : List ByteArray) : (tagB w l).size = 16 := by
  show (shortB _).size = 16
  rw [shortB, ByteArray.size_extract, sumB_size]; rfl
def wStep : ByteArray := ⟨#[115, 116, 101, 112]⟩
def wMessage : ByteArray := ⟨#[109, 101, 115, 115, 97, 103, 101]⟩
def wSecret : ByteArray := ⟨#[115, 101, 99, 114, 101, 116]⟩
def wPublic : ByteArray := ⟨#[112, 117, 98, 108, 105, 99]⟩
def wNode : ByteArray := ⟨#[110, 111, 100, 101]⟩
def wRoot : ByteArray := ⟨#[114, 111, 111, 116]⟩
theorem mixV_eq (v : V8) (s : ByteArray) : mixV v s = addV v (runV v (schedL s 64) 64) := rfl
theorem tagB_eq (word : ByteArray) (parts : List ByteArray) : tagB word parts = shortB (tagIn word parts.reverse) := rfl
theorem sumB_eq (s : ByteArray) : sumB s = sumV (writeV beginV ByteArray.empty s).1 (writeV beginV ByteArray.empty s).2 s.size := rfl
attribute [irreducible] tagB sumB mixV
end Go.Proofs.YtjcinncphffgaaaGreat
namespace Go.Proofs.YtjcinncphffgaaaGreat
open Go.RowKit
set_option maxHeartbeats 400000 in
theorem turn_any (x : Int) (n : Nat) (w : World) (hn : 1 ≤ n) (hn2 : n ≤ 31) :
    Calls Tryz.prog 236 #[.int .u32 x, .int .i64 n] w fun e w' => e = .returned (.int .u32 (rotI x n)) ∧ ∃ m, w' = w.drewN m := by
  have k1 : ¬ (n : Int) < 0 := by omega
  have k2 : ¬ (32 - (n : Int)) < 0 := by omega
  go_enter Tryz.func236, Tryz.ntmps236
  go_wp2_with fail
  go_quiet (fail)
  go_wp2_with fail
  go_ret
  exact ⟨rfl, _, rfl⟩
/-- at a constant -/
theorem turn_c (x n : Int) (w : World) (hn : 1 ≤ n) (hn2 : n ≤ 31) :
    Calls Tryz.prog 236 #[.int .u32 x, .int .i64 n] w fun e w' => e = .returned (.int .u32 (rotI x n.toNat)) ∧ ∃ m, w' = w.drewN m := by
  obtain ⟨k, rfl⟩ := Int.eq_ofNat_of_zero_le (show 0 ≤ n by omega)
  exact turn_any x k w (by omega) (by omega)
end Go.Proofs.YtjcinncphffgaaaGreat
namespace Go.Proofs.YtjcinncphffgaaaGreat
open Go.RowKit
def cW (l : List Int) : Array Value := (l.map (Value.int .u32)).toArray
def midW (l : List Int) (x : Int) : List Int := l ++ x :: List.replicate (63 - l.length) 0
theorem cW_get (l : List Int) (i : Nat) (h : i < l.length) : (cW l)[i]? = some (.int .u32 (l.getD i 0)) := by
  simp [cW, List.getD_eq_getElem?_getD, h]
theorem midW_set (l : List Int) (x y : Int) : (cW (midW l x)).setIfInBounds l.length (.int .u32 y) = cW (midW l y) := by
  simp [cW, midW, List.setIfInBounds_toArray]
def padW (l : List Int) : List Int := l ++ List.replicate (64 - l.length) 0
theorem padW_eq (l : List Int) (h : l.length < 64) : padW l = midW l 0 := by
  unfold padW midW
  rw [show 64 - l.length = (63 - l.length) + 1 by omega, List.replicate_succ]
theorem padW_snoc (l : List Int) (x : Int) (h : l.length < 64) : padW (l ++ [x]) = midW l x := by
  unfold padW midW
  rw [List.length_append, List.append_assoc]
  simp only [List.length_cons, List.length_nil, List.singleton_append]
  rw [show 64 - (l.length + (0 + 1)) = 63 - l.length by omega]
theorem padW_full (l : List Int) (h : l.length = 64) : padW l = l := by
  unfold padW
  rw [h]; simp
theorem midW_len (l : List Int) (x : Int) (h : l.length < 64) : (midW l x).length = 64 := by
  simp [midW]; omega
theorem midW_at (l : List Int) (x : Int) : (midW l x).getD l.length 0 = x := by simp [midW, List.getD_eq_getElem?_getD]
theorem midW_lt (l : List Int) (x : Int) (i : Nat) (h : i < l.length) : (midW l x).getD i 0 = l.getD i 0 := by
  simp [midW, List.getD_eq_getElem?_getD, List.getElem?_append_left h]
/-- '[]byte(t)' -/
theorem conv_bytes (w : World) (t : ByteArray) (n : Nat) (hn : t.size = n) : ∃ cap W1, (convert 9 198 (.string t)).run Tryz.prog w = .ok (.slice (some ⟨w.heap.size, 0, none⟩) n cap) W1 ∧
    (∀ j, j < n → W1.cell? ⟨w.heap.size, j, none⟩ = some (.int .u8 (byI t j))) ∧ Below w.heap.size w W1 ∧ W1.heap.size = w.heap.size + 1 := by
  subst hn
  refine ⟨_, _, Lib.run_convert_string_bytes (P := Tryz.prog) w 9 198 5 t Tryz.underlying9 Tryz.underlying198 Tryz.underlying5, fun j hj => Lib.bytesWorld_cell w _ t j hj, ?_, Lib.bytesWorld_size _ _ _⟩
  exact ⟨rfl, rfl, rfl, by rw [Lib.bytesWorld_size]; omega, fun i hi => Lib.bytesWorld_at_old w _ t i hi⟩
theorem byI_ext (s : ByteArray) (a b j : Nat) (h : a + j < b) : byI (s.extract a b) j = byI s (a + j) := by
  unfold byI
  rw [Lib.extract_data, List.getD_eq_getElem?_getD, List.getElem?_take_of_lt (by omega), List.getElem?_drop, List.getD_eq_getElem?_getD]
set_option maxRecDepth 100000 in
set_option maxHeartbeats 400000 in
theorem schedule_any (s : ByteArray) (w : World) (hs : s.size = 64) :
    Calls Tryz.prog 234 #[.string s] w fun e w' => ∃ b, e = .returned (.pointer (some ⟨b, 0, none⟩)) ∧ w.heap.size ≤ b ∧ Blk w' b 344 (cW (schedL s 64)) ∧ Below w.heap.size w w' := by
  have HS := Lib.hid hs
  clear hs
  go_enter Tryz.func234, Tryz.ntmps234
  go_wp2_with fail
  go_loopw [10] (fun i wr => ∃ k : Nat, k ≤ 16 ∧ i = .int .i64 k ∧ Blk wr w.heap.size 344 (cW (padW (schedL s k))) ∧ Below w.heap.size w wr) (fun i _ => 16 - (intOf i).toNat)
  case atStart =>
    exact ⟨0, by omega, rfl, Blk.new _ _ _, (Below.refl _ _).alloc (Nat.le_refl _) _⟩
  case round =>
    obtain ⟨k, hk, rfl, hB, hb⟩ := hrel
    have HB := Lib.hid hB
    have hlt := Blk.lt hB
    clear hB
    by_cases hk2 : k < 16
    · have hsz : (4 * (k : Int) + 4) ≤ s.size := by rw [HS.out]; omega
      obtain ⟨cap, W1, kc, hcells, hb1, hsz1⟩ := conv_bytes wr (s.extract (4 * k) (4 * k + 4)) 4 (by rw [ByteArray.size_extract, HS.out]; omega)
      have HZ := Lib.hid hsz1
      have HC := Lib.hid hcells
      clear hsz1 hcells
      go_wp2_with fail
      clear kc
      obtain ⟨wo, rfl⟩ : ∃ wo : World, wo = wr := ⟨_, rfl⟩
      go_loopw [22] (fun i wi => ∃ j : Nat, j ≤ 4 ∧ i = .int .i64 j ∧ Blk wi w.heap.size 344 (cW (midW (schedL s k) (partW s k j))) ∧ (∀ q, q < 4 → wi.cell? ⟨wo.heap.size, q, none⟩ = some (.int .u8 (byI s (4 * k + q)))) ∧ Below w.heap.size w wi) (fun i _ => 4 - (intOf i).toNat)
      case atStart =>
        refine ⟨0, by omega, rfl, ?_, fun q hq => by rw [HC.out q hq, byI_ext _ _ _ _ (by omega)], hb.trans (hb1.mono (by omega))⟩
        have := Blk.below HB.out hb1 hlt
        rwa [padW_eq _ (by rw [schedL_length]; omega)] at this
      case round =>
        obtain ⟨j, hj, rfl, hB, hC, hb2⟩ := hrel
        have HB := Lib.hid hB
        have HCC := Lib.hid hC
        clear hC
        by_cases hj2 : j < 4
        · have hc := HCC.out j hj2
          have c1 : wr.cell? ⟨w.heap.size, k, none⟩ = some (.int .u32 (partW s k j)) := by
            rw [Blk.cell hB k, cW_get _ _ (by rw [midW_len _ _ (by rw [schedL_length]; omega)]; omega)]
            have := midW_at (schedL s k) (partW s k j)
            rw [schedL_length] at this
            rw [this]
          have f1 : wr.frozen? ⟨w.heap.size, k, none⟩ = false := Blk.frozen hB k
          have hlt2 := Blk.lt hB
          obtain ⟨d1, d2⟩ := byI_bd s (4 * k + j)
          clear hB
          go_wp2_with fail
          go_roundw
          case rel =>
            refine ⟨j + 1, by omega, by go_num, ?_, fun q hq => ?_, hb2.setCell (Nat.le_refl _) _⟩
            · have := Blk.set_ HB.out k (.int .u32 (bits .or .u32 (partW s k j * 256 % 4294967296) (byI s (4 * k + j))))
              have e := midW_set (schedL s k) (partW s k j) (bits .or .u32 (partW s k j * 256 % 4294967296) (byI s (4 * k + j)))
              rw [schedL_length] at e
              rw [e] at this
              exact this
            · rw [World.cell?_setCell_other _ _ _ _ (by simp)]
              exact HCC.out q hq
          case measure => simp [intOf]; omega
        · clear hB
          go_wp2_with fail
          go_roundw
          case rel =>
            refine ⟨k + 1, by omega, by go_num, ?_, hb2⟩
            obtain rfl : j = 4 := by omega
            rw [schedL, if_pos hk2, padW_snoc _ _ (by rw [schedL_length]; omega)]
            exact HB.out
          case measure => simp [intOf]; omega
    · go_wp2_with fail
      go_loopw [7] (fun i wr => ∃ k : Nat, 16 ≤ k ∧ k ≤ 64 ∧ i = .int .i64 k ∧ Blk wr w.heap.size 344 (cW (padW (schedL s k))) ∧ Below w.heap.size w wr) (fun i _ => 64 - (intOf i).toNat)
      case atStart => exact ⟨k, by omega, by omega, by rw [show k = 16 by omega]; rfl, HB.out, hb⟩
      case round =>
        obtain ⟨t, ht1, ht2, rfl, hB, hb2⟩ := hrel
        by_cases ht3 : t < 64
        · have hw : padW (schedL s t) = midW (schedL s t) 0 := padW_eq _ (by rw [schedL_length]; omega)
          have hcell : ∀ q, q < t → wr.cell? ⟨w.heap.size, q, none⟩ = some (.int .u32 (atW (schedL s t) q)) := fun q hq => by
            rw [Blk.cell hB q, cW_get _ _ (by rw [hw, midW_len _ _ (by rw [schedL_length]; omega)]; omega), hw, midW_lt _ _ _ (by rw [schedL_length]; omega)]; rfl
          have c15 := hcell (t - 15) (by omega)
          have c2 := hcell (t - 2) (by omega)
          have c7 := hcell (t - 7) (by omega)
          have c16 := hcell (t - 16) (by omega)
          have HB2 := Lib.hid hB
          have ft := Blk.frozen hB t
          have hw0 : wr.cell? ⟨w.heap.size, t, none⟩ = some (.int .u32 0) := by
            rw [Blk.cell hB t, cW_get _ _ (by rw [hw, midW_len _ _ (by rw [schedL_length]; omega)]; omega), hw]
            have := midW_at (schedL s t) 0
            rw [schedL_length] at this
            rw [this]
          have HW := Lib.hid hw
          clear hB hcell hw
          go_wp2_with fail
          go_quiet (fail)
          go_wp2_with fail
          have q7 : IntKind.i64.wrap ((t : Int) - 7) = (t : Int) - 7 := IntWalk.i64_in _ (by omega)
          have q16 : IntKind.i64.wrap ((t : Int) - 16) = (t : Int) - 16 := IntWalk.i64_in _ (by omega)
          have r7 : 0 ≤ (t : Int) - 7 := by omega
          have r16 : 0 ≤ (t : Int) - 16 := by omega
          have s7 : ((t : Int) - 7).toNat = t - 7 := by omega
          have s16 : ((t : Int) - 16).toNat = t - 16 := by omega
          have x7 : (t : Int) - 7 < 64 := by omega
          have x16 : (t : Int) - 16 < 64 := by omega
          have y7 : (7 : Int) ≤ t := by omega
          have y16 : (16 : Int) ≤ t := by omega
          have z7 : 7 ≤ t := by omega
          have v7 : t - 7 < 64 := by omega
          have v16 : t - 16 < 64 := by omega
          have n7 : ¬ t = t - 7 := by omega
          have n16 : ¬ t = t - 16 := by omega
          go_region_held3 (fun w' => w'.cell? ⟨w.heap.size, t - 7, none⟩ = some (.int .u32 (atW (schedL s t) (t - 7))) ∧ w'.cell? ⟨w.heap.size, t - 16, none⟩ = some (.int .u32 (atW (schedL s t) (t - 16))))
            (first | go_keep | (refine And.intro ?_ ?_ <;> (rw [World.cell?_setCell_other _ _ _ _ (by simp <;> omega)]; assumption)))
            ((first | (go_at_call 236; refine (turn_c _ _ _ (by omega) (by omega)).mono ?_; rintro e w' ⟨rfl, m, rfl⟩) ))
          go_wp2_with fail
          go_roundw
          case rel =>
            refine ⟨t + 1, by omega, by omega, by go_num, ?_, (below_drewN hb2 _).setCell (Nat.le_refl _) _⟩
            have e : cW (padW (schedL s (t + 1))) = (cW (padW (schedL s t))).setIfInBounds t (.int .u32 (nextW (schedL s t) t)) := by
              have := midW_set (schedL s t) 0 (nextW (schedL s t) t)
              rw [schedL_length] at this
              rw [HW.out, this, schedL, if_neg (by omega), padW_snoc _ _ (by rw [schedL_length]; omega)]
            rw [e]
            exact Blk.set_ (Blk.drewN HB2.out _) t _
          case measure => simp [intOf]; omega
        · obtain rfl : t = 64 := by omega
          go_wp2_with fail
          go_ret
          rw [padW_full _ (schedL_length s 64)] at hB
          exact ⟨w.heap.size, rfl, Nat.le_refl _, hB, hb2⟩
end Go.Proofs.YtjcinncphffgaaaGreat
namespace Go.Proofs.YtjcinncphffgaaaGreat
open Go.RowKit
set_option maxRecDepth 100000 in
set_option maxHeartbeats 400000 in
theorem keys_any (w : World) :
    Calls Tryz.prog 235 #[] w fun e w' => ∃ b, e = .returned (.pointer (some ⟨b, 0, none⟩)) ∧ w.heap.size ≤ b ∧ Blk w' b 344 (cW keysL) ∧ Below w.heap.size w w' := by
  go_enter Tryz.func235, Tryz.ntmps235
  go_wp2_with fail
  go_ret
  exact ⟨_, rfl, Nat.le_refl _, Blk.new _ _ _, (Below.refl _ _).alloc (Nat.le_refl _) _⟩
def hashC (v : V8) (left : ByteArray) (n : Int) : Array Value := #[.int .u32 v.a, .int .u32 v.b, .int .u32 v.c, .int .u32 v.d, .int .u32 v.e, .int .u32 v.f, .int .u32 v.g, .int .u32 v.h, .string left, .int .i64 n]
def HashAt (w : World) (g : Nat) (v : V8) (left : ByteArray) (n : Int) : Prop := Blk w g 327 (hashC v left n)
/-- the first k words added -/
def addK (v u : V8) (k : Nat) : V8 := ⟨if 0 < k then u32w (v.a + u.a) else v.a, if 1 < k then u32w (v.b + u.b) else v.b, if 2 < k then u32w (v.c + u.c) else v.c, if 3 < k then u32w (v.d + u.d) else v.d, if 4 < k then u32w (v.e + u.e) else v.e, if 5 < k then u32w (v.f + u.f) else v.f, if 6 < k then u32w (v.g + u.g) else v.g, if 7 < k then u32w (v.h + u.h) else v.h⟩
theorem addK_zero (v u : V8) : addK v u 0 = v := by simp [addK]
theorem addK_full (v u : V8) : addK v u 8 = addV v u := by simp [addK, addV]
theorem lt8 {k : Nat} (h : k < 8) : k = 0 ∨ k = 1 ∨ k = 2 ∨ k = 3 ∨ k = 4 ∨ k = 5 ∨ k = 6 ∨ k = 7 := by omega
theorem addK_cell (v u : V8) (left : ByteArray) (n : Int) (k : Nat) (h : k < 8) : (hashC (addK v u k) left n)[k]? = some (.int .u32 (atW v.list k)) := by
  rcases lt8 h with rfl | rfl | rfl | rfl | rfl | rfl | rfl | rfl <;> rfl
theorem addK_set (v u : V8) (left : ByteArray) (n : Int) (k : Nat) (h : k < 8) : (hashC (addK v u k) left n).setIfInBounds k (.int .u32 (u32w (atW v.list k + atW u.list k))) = hashC (addK v u (k + 1)) left n := by
  rcases lt8 h with rfl | rfl | rfl | rfl | rfl | rfl | rfl | rfl <;> rfl
theorem idx8 (u : V8) (k : Nat) (h : k < 8) (w : World) : (Instr.index 323 (.agg #[.int .u32 u.a, .int .u32 u.b, .int .u32 u.c, .int .u32 u.d, .int .u32 u.e, .int .u32 u.f, .int .u32 u.g, .int .u32 u.h]) (.int .i64 k)).run Tryz.prog w = .ok (.int .u32 (atW u.list k)) w := by
  rcases lt8 h with rfl | rfl | rfl | rfl | rfl | rfl | rfl | rfl <;> kernel_rfl
theorem runV_any (v : V8) (ws : List Int) (t : Nat) (u : V8) (h : runV v ws t = u) : runV v ws (t + 1) = stepV u (atW keysL t) (atW ws t) := by rw [runV, h]
set_option maxRecDepth 100000 in
set_option maxHeartbeats 1000000 in
theorem mix_any (g : Nat) (v : V8) (left : ByteArray) (n : Int) (s : ByteArray) (w : World) (hs : s.size = 64) (h : HashAt w g v left n) :
    Calls Tryz.prog 225 #[.pointer (some ⟨g, 0, none⟩), .string s] w fun e w' => e = .returned (.tuple #[]) ∧ HashAt w' g (mixV v s) left n ∧ Ch [g] w w' := by
  have hlt := Blk.lt h
  have H := Lib.hid h
  have HS := Lib.hid hs
  clear h hs
  go_enter Tryz.func225, Tryz.ntmps225
  go_wp2_with fail
  refine (schedule_any s _ HS.out).mono ?_
  rintro e w1 ⟨b1, rfl, hb1, hB1, hc1⟩
  have HB1 := Lib.hid hB1
  clear hB1
  go_wp2_with fail
  refine (keys_any _).mono ?_
  rintro e w2 ⟨b2, rfl, hb2, hB2, hc2⟩
  have hz1 := hc1.size
  have HW2 := Lib.hid (Blk.bel HB1.out hc2)
  have HC2 := Lib.hid ((Ch.of_below hc1 [g]).trans (Ch.of_below hc2 [g]))
  have HB2 := Lib.hid hB2
  have HH2 := Lib.hid (Blk.below (Blk.bel H.out hc1) hc2 (by omega))
  clear hB2 hc1 hc2
  have k0 := Blk.cell HH2.out 0
  have k1 := Blk.cell HH2.out 1
  have k2 := Blk.cell HH2.out 2
  have k3 := Blk.cell HH2.out 3
  have k4 := Blk.cell HH2.out 4
  have k5 := Blk.cell HH2.out 5
  have k6 := Blk.cell HH2.out 6
  have k7 := Blk.cell HH2.out 7
  simp only [hashC, List.getElem?_toArray, List.getElem?_cons_zero, List.getElem?_cons_succ] at k0 k1 k2 k3 k4 k5 k6 k7
  go_wp2_with fail
  go_quiet (fail)
  go_wp2_with fail
  go_quiet (fail)
  go_wp2_with fail
  clear k0 k1 k2 k3 k4 k5 k6 k7
  have hbd1 := Blk.lt HW2.out
  have hbd2 := Blk.lt HB2.out
  go_loopw [6, 7, 8, 9, 10, 11, 12, 13, 54] (fun a b c d e f g' h i wr => ∃ (t q : Nat) (u : V8), t ≤ 64 ∧ i = .int .i64 t ∧ Hid (runV v (schedL s 64) t = u) ∧ a = .int .u32 u.a ∧ b = .int .u32 u.b ∧ c = .int .u32 u.c ∧ d = .int .u32 u.d ∧ e = .int .u32 u.e ∧ f = .int .u32 u.f ∧ g' = .int .u32 u.g ∧ h = .int .u32 u.h ∧ wr = w2.drewN q) (fun _ _ _ _ _ _ _ _ i _ => 64 - (intOf i).toNat)
  case atStart => exact ⟨0, _, v, by omega, rfl, rfl, rfl, rfl, rfl, rfl, rfl, rfl, rfl, rfl, by rw [World.drewN_drewN]⟩
  case round =>
    obtain ⟨t, q, u, ht, rfl, HU, rfl, rfl, rfl, rfl, rfl, rfl, rfl, rfl, rfl⟩ := hrel
    by_cases ht2 : t < 64
    · have hkc : w2.cell? ⟨b2, t, none⟩ = some (.int .u32 (atW keysL t)) := by rw [Blk.cell HB2.out t, cW_get _ _ (by show t < 64; omega)]; rfl
      have hwc : w2.cell? ⟨b1, t, none⟩ = some (.int .u32 (atW (schedL s 64) t)) := by rw [Blk.cell HW2.out t, cW_get _ _ (by rw [schedL_length]; omega)]; rfl
      have HN := Lib.hid (runV_any v (schedL s 64) t u HU.out)
      generalize atW keysL t = kk at hkc HN
      generalize atW (schedL s 64) t = ww at hwc HN
      go_wp2_with fail
      go_quiet ((first | (go_at_call 236; exact quiet_add (turn_c _ _ _ (by omega) (by omega)))))
      go_wp2_with (first | (go_at_call 236; refine (turn_c _ _ _ (by omega) (by omega)).mono ?_; rintro e w' ⟨rfl, m, rfl⟩))
      go_roundw
      case rel =>
        refine ⟨t + 1, _, stepV u kk ww, by omega, by go_num, HN, ?_, rfl, rfl, rfl, ?_, rfl, rfl, rfl, rfl⟩
        · show _ = Value.int .u32 (u32w (pI u kk ww + qI u))
          refine congrArg (Value.int .u32) ?_
          simp only [pI, qI, u32w, xorI, andI, notI]
          omega
        · show _ = Value.int .u32 (u32w (u.d + pI u kk ww))
          refine congrArg (Value.int .u32) ?_
          simp only [pI, u32w, xorI, andI, notI]
          omega
      case measure => simp [intOf]; omega
    · obtain rfl : t = 64 := by omega
      have HF : Hid (addV v u = mixV v s) := by show _ = _; rw [mixV_eq, HU.out]
      have HQ : Hid (HashAt (w2.drewN q) g (addK v u 0) left n) := by show HashAt _ _ _ _ _; rw [addK_zero]; exact Blk.drewN HH2.out q
      have HCh : Hid (Ch [g] w (w2.drewN q)) := HC2.out.trans (Ch.drewN _ _ _)
      have hi8 := idx8 u
      have HI := Lib.hid hi8
      clear hi8 hbd1 hbd2
      go_wp2_with fail
      go_loopw [130] (fun i wr => ∃ k : Nat, k ≤ 8 ∧ i = .int .i64 k ∧ Hid (HashAt wr g (addK v u k) left n) ∧ Hid (Ch [g] w wr)) (fun i _ => 8 - (intOf i).toNat)
      case atStart => exact ⟨0, by omega, rfl, HQ, HCh⟩
      case round =>
        obtain ⟨k, hk, rfl, HK, HCK⟩ := hrel
        by_cases hk2 : k < 8
        · have hix := HI.out k hk2
          have hcell : wr.cell? ⟨g, k, none⟩ = some (.int .u32 (atW v.list k)) := by rw [Blk.cell HK.out k, addK_cell _ _ _ _ _ hk2]
          have hfz : wr.frozen? ⟨g, k, none⟩ = false := Blk.frozen HK.out k
          have HSet := Lib.hid (addK_set v u left n k hk2)
          generalize atW v.list k = vv at hcell HSet
          generalize atW u.list k = uu at hix HSet
          go_wp2_with fail
          go_region
          go_wp2_with fail
          go_roundw
          case rel =>
            have h := Blk.set_ HK.out k (.int .u32 (u32w (vv + uu)))
            rw [HSet.out] at h
            refine ⟨k + 1, by omega, by go_num, h, ?_⟩
            show Ch _ _ _
            first
              | exact HCK.out.trans (Ch.set_ (by simp) _ _ _)
              | exact (HCK.out.trans (Ch.set_ (by simp) _ k (.int .u32 (u32w (vv + uu))))).trans (Ch.drewN _ _ 1)
              | exact (HCK.out.trans (Ch.drewN _ _ 1)).trans (Ch.set_ (by simp) _ k (.int .u32 (u32w (vv + uu))))
          case measure => simp [intOf]; omega
        · obtain rfl : k = 8 := by omega
          go_wp2_with fail
          go_end0
          have h := HK.out
          rw [addK_full, HF.out] at h
          exact ⟨rfl, h, HCK.out⟩
end Go.Proofs.YtjcinncphffgaaaGreat
namespace Go.Proofs.YtjcinncphffgaaaGreat
open Go.RowKit
set_option maxRecDepth 100000 in
set_option maxHeartbeats 400000 in
theorem begin_any (w : World) : Calls Tryz.prog 224 #[] w fun e w' => e = .returned (.agg #[.int .u32 beginV.a, .int .u32 beginV.b, .int .u32 beginV.c, .int .u32 beginV.d, .int .u32 beginV.e, .int .u32 beginV.f, .int .u32 beginV.g, .int .u32 beginV.h]) ∧ Below w.heap.size w w' := by
  go_enter Tryz.func224, Tryz.ntmps224
  go_wp2_with fail
  exact bodyPost_ret (v := .agg #[.int .u32 beginV.a, .int .u32 beginV.b, .int .u32 beginV.c, .int .u32 beginV.d, .int .u32 beginV.e, .int .u32 beginV.f, .int .u32 beginV.g, .int .u32 beginV.h]) (by simp [results, Tryz.results224, go_sem, beginV]) rfl ⟨rfl, (Below.refl _ _).alloc (Nat.le_refl _) _⟩
set_option maxRecDepth 100000 in
set_option maxHeartbeats 400000 in
theorem hnew_any (w : World) : Calls Tryz.prog 205 #[] w fun e w' => ∃ g, e = .returned (.pointer (some ⟨g, 0, none⟩)) ∧ w.heap.size ≤ g ∧ HashAt w' g beginV ByteArray.empty 0 ∧ Below w.heap.size w w' := by
  go_enter Tryz.func205, Tryz.ntmps205
  go_wp2_with fail
  refine (begin_any _).mono ?_
  rintro e w1 ⟨rfl, hb⟩
  go_wp2_with fail
  go_ret
  exact ⟨w1.heap.size, rfl, hb.size, Blk.new _ _ _, hb.alloc hb.size _⟩
def leftOf (g : Nat) (w : World) : Nat := match w.cell? ⟨g, 8, none⟩ with
  | some (.string t) => t.size
  | _ => 0
theorem leftOf_at {w : World} {g : Nat} {v : V8} {left : ByteArray} {n : Int} (h : HashAt w g v left n) : leftOf g w = left.size := by
  unfold leftOf
  rw [Blk.cell h 8]; rfl
set_option maxRecDepth 100000 in
set_option maxHeartbeats 1000000 in
theorem hwrite_any (g : Nat) (v : V8) (left s : ByteArray) (n : Int) (w : World) (h0 : 0 ≤ n) (h1 : n ≤ 1099511627776) (hl : left.size ≤ 1099511627776) (hs : s.size ≤ 1099511627776) (h : HashAt w g v left n) :
    Calls Tryz.prog 206 #[.pointer (some ⟨g, 0, none⟩), .string s] w fun e w' => e = .returned (.tuple #[]) ∧ HashAt w' g (writeV v left s).1 (writeV v left s).2 (n + s.size) ∧ Ch [g] w w' := by
  have H := Lib.hid h
  have c8 : w.cell? ⟨g, 8, none⟩ = some (.string left) := Blk.cell h 8
  have c9 : w.cell? ⟨g, 9, none⟩ = some (.int .i64 n) := Blk.cell h 9
  have f8 : w.frozen? ⟨g, 8, none⟩ = false := Blk.frozen h 8
  have f9 : w.frozen? ⟨g, 9, none⟩ = false := Blk.frozen h 9
  have H2 : Hid (HashAt ((w.setCell ⟨g, 9, none⟩ (.int .i64 (n + s.size))).setCell ⟨g, 8, none⟩ (.string (left ++ s))) g v (left ++ s) (n + s.size)) := Blk.set_ (Blk.set_ h 9 _) 8 _
  have HC : Hid (Ch [g] w ((w.setCell ⟨g, 9, none⟩ (.int .i64 (n + s.size))).setCell ⟨g, 8, none⟩ (.string (left ++ s)))) := (Ch.set_ (by simp) _ _ _).trans (Ch.set_ (by simp) _ _ _)
  have HZ : Hid ((left ++ s).size = left.size + s.size) := ByteArray.size_append
  clear h
  go_enter Tryz.func206, Tryz.ntmps206
  go_wp2_with fail
  refine wp_scope_jumps 0 (fun a' w' => ∃ (k : Nat) (u2 u3 u4 u5 u6 u7 u8 u9 u10 u11 u12 u13 u14 u15 u16 u17 u18 u19 u20 u21 u22 u23 u24 u25 u26 u27 u28 u29 u30 u31 u32 u33 u34 u35 u36 u37 u38 u39 u40 u41 u42 u43 : Value), a' = { tmps := #[.pointer (some ⟨g, 0, none⟩), .string s, u2, u3, u4, u5, u6, u7, u8, u9, u10, u11, u12, u13, u14, u15, u16, u17, u18, u19, u20, u21, u22, u23, u24, u25, u26, u27, u28, u29, u30, u31, u32, u33, u34, u35, u36, u37, u38, u39, u40, u41, u42, u43], defers := [] } ∧ 64 * k ≤ left.size + s.size ∧ Hid (HashAt w' g (eatV k v (left ++ s)).1 (eatV k v (left ++ s)).2 (n + s.size)) ∧ Hid (Ch [g] w w')) (fun _ w' => leftOf g w') rfl ?_ ?_
  · have HG : Hid (left.size + s.size < 64 → HashAt ((w.setCell ⟨g, 9, none⟩ (.int .i64 (n + s.size))).setCell ⟨g, 8, none⟩ (.string (left ++ s))) g (writeV v left s).1 (writeV v left s).2 (n + s.size)) := fun hlt => by
      rw [writeV, show (left.size + s.size) / 64 = 0 by omega]; exact H2.out
    have HH : Hid (HashAt ((w.setCell ⟨g, 9, none⟩ (.int .i64 (n + s.size))).setCell ⟨g, 8, none⟩ (.string (left ++ s))) g (eatV 0 v (left ++ s)).1 (left ++ s) (n + s.size)) := H2.out
    go_wp2_with fail
    go_step3
    go_wp2_with fail
    · have hsz : 64 ≤ (left ++ s).size := by rw [HZ.out]; omega
      have hls : 64 ≤ left.size + s.size := by omega
      have k8 : ((w.setCell ⟨g, 9, none⟩ (.int .i64 (n + s.size))).setCell ⟨g, 8, none⟩ (.string (left ++ s))).cell? ⟨g, 8, none⟩ = some (.string (left ++ s)) := Blk.cell HH.out 8
      have HSZ : Hid ((ByteArray.extract (left ++ s) 0 64).size = 64) := by show _ = _; rw [ByteArray.size_extract]; omega
      go_region_held3 (fun w' => w'.cell? ⟨g, 8, none⟩ = some (.string (left ++ s)))
        (first | go_keep | assumption)
        ((first | (go_at_call 225; refine (mix_any g (eatV 0 v (left ++ s)).1 (left ++ s) (n + s.size) _ _ HSZ.out (by exact HH.out)).mono ?_; rintro e w3 ⟨rfl, hh, hc⟩; have c83 : w3.cell? ⟨g, 8, none⟩ = some (.string (left ++ s)) := Blk.cell hh 8; have f83 : w3.frozen? ⟨g, 8, none⟩ = false := Blk.frozen hh 8; have H3 := Lib.hid hh; have HC3 := Lib.hid (HC.out.trans ((Ch.drewN [g] _ 1).trans hc)); clear hh hc)))
      go_wp2_with fail
      go_step3
      have h4 := Blk.set_ H3.out 8 (.string ((left ++ s).extract 64 (left.size + s.size)))
      have h5 : HashAt (w3.setCell ⟨g, 8, none⟩ (.string ((left ++ s).extract 64 (left.size + s.size)))) g (eatV 1 v (left ++ s)).1 (eatV 1 v (left ++ s)).2 (n + s.size) := by
        show HashAt _ g (mixV (eatV 0 v (left ++ s)).1 ((left ++ s).extract 0 64)) ((left ++ s).extract 64 (left ++ s).size) _
        rw [HZ.out]
        exact h4
      refine ⟨rfl, 1, _, _, _, _, _, _, _, _, _, _, _, _, _, _, _, _, _, _, _, _, _, _, _, _, _, _, _, _, _, _, _, _, _, _, _, _, _, _, _, _, _, _, rfl, by omega, h5, HC3.out.trans (Ch.set_ (by simp) _ _ _)⟩
    · have hlt : left.size + s.size < 64 := by omega
      simp only [Exit.jump]
      go_end0
      exact ⟨rfl, HG.out hlt, HC.out⟩
  · rintro a' w' ⟨k, u2, u3, u4, u5, u6, u7, u8, u9, u10, u11, u12, u13, u14, u15, u16, u17, u18, u19, u20, u21, u22, u23, u24, u25, u26, u27, u28, u29, u30, u31, u32, u33, u34, u35, u36, u37, u38, u39, u40, u41, u42, u43, rfl, hk, HK, HCK⟩
    have k8 : w'.cell? ⟨g, 8, none⟩ = some (.string (eatV k v (left ++ s)).2) := Blk.cell HK.out 8
    have kf8 : w'.frozen? ⟨g, 8, none⟩ = false := Blk.frozen HK.out 8
    have HL := Lib.hid (leftOf_at HK.out)
    have HES := Lib.hid (eatV_size v (left ++ s) k)
    generalize hrest : (eatV k v (left ++ s)).2 = rest at HK HL HES k8
    have Hrest := Lib.hid hrest
    clear hrest
    go_wp2_with fail
    · have hsz : 64 ≤ rest.size := by omega
      have HSZ : Hid ((ByteArray.extract rest 0 64).size = 64) := by show _ = _; rw [ByteArray.size_extract]; omega
      go_region_held3 (fun w' => w'.cell? ⟨g, 8, none⟩ = some (.string (rest)))
        (first | go_keep | assumption)
        ((first | (go_at_call 225; refine (mix_any g (eatV k v (left ++ s)).1 (rest) (n + s.size) _ _ HSZ.out (by exact HK.out)).mono ?_; rintro e w3 ⟨rfl, hh, hc⟩; have c83 : w3.cell? ⟨g, 8, none⟩ = some (.string (rest)) := Blk.cell hh 8; have f83 : w3.frozen? ⟨g, 8, none⟩ = false := Blk.frozen hh 8; have H3 := Lib.hid hh; have HC3 := Lib.hid (HCK.out.trans ((Ch.drewN [g] _ 1).trans hc)); clear hh hc)))
      go_wp2_with fail
      go_step3
      have h4 := Blk.set_ H3.out 8 (.string (rest.extract 64 rest.size))
      refine ⟨rfl, ⟨k + 1, _, _, _, _, _, _, _, _, _, _, _, _, _, _, _, _, _, _, _, _, _, _, _, _, _, _, _, _, _, _, _, _, _, _, _, _, _, _, _, _, _, _, rfl, ?_, ?_, HC3.out.trans (Ch.set_ (by simp) _ _ _)⟩, ?_⟩
      · have := HES.out
        have := HZ.out
        omega
      · show HashAt _ g (mixV (eatV k v (left ++ s)).1 ((eatV k v (left ++ s)).2.extract 0 64)) ((eatV k v (left ++ s)).2.extract 64 (eatV k v (left ++ s)).2.size) _
        rw [Hrest.out]
        exact h4
      · rw [leftOf_at (show HashAt _ g (mixV (eatV k v (left ++ s)).1 (rest.extract 0 64)) (rest.extract 64 rest.size) (n + s.size) from h4), HL.out, ByteArray.size_extract]
        omega
    · simp only [Exit.jump]
      have hlt : rest.size < 64 := by omega
      go_end0
      refine ⟨rfl, ?_, HCK.out⟩
      have e1 := HES.out
      have e2 := HZ.out
      have e3 : (left.size + s.size) / 64 = k := by omega
      rw [writeV, e3, Hrest.out]
      exact HK.out
end Go.Proofs.YtjcinncphffgaaaGreat
namespace Go.Proofs.YtjcinncphffgaaaGreat
open Go.RowKit
set_option maxRecDepth 100000 in
set_option maxHeartbeats 400000 in
theorem hcopy_any (g : Nat) (v : V8) (left : ByteArray) (n : Int) (w : World) (h : HashAt w g v left n) :
    Calls Tryz.prog 226 #[.pointer (some ⟨g, 0, none⟩)] w fun e w' => ∃ g', e = .returned (.pointer (some ⟨g', 0, none⟩)) ∧ w.heap.size ≤ g' ∧ HashAt w' g' v left n ∧ Below w.heap.size w w' := by
  have k0 := Blk.cell h 0
  have k1 := Blk.cell h 1
  have k2 := Blk.cell h 2
  have k3 := Blk.cell h 3
  have k4 := Blk.cell h 4
  have k5 := Blk.cell h 5
  have k6 := Blk.cell h 6
  have k7 := Blk.cell h 7
  have k8 := Blk.cell h 8
  have k9 := Blk.cell h 9
  simp only [hashC, List.getElem?_toArray, List.getElem?_cons_zero, List.getElem?_cons_succ] at k0 k1 k2 k3 k4 k5 k6 k7 k8 k9
  clear h
  go_enter Tryz.func226, Tryz.ntmps226
  go_wp2_with fail
  go_region
  go_wp2_with fail
  go_ret
  exact ⟨_, rfl, Nat.le_refl _, Blk.new _ _ _, ((Below.refl _ _).alloc (Nat.le_refl _) _).drew⟩
def lenOf : Value → Nat
  | .slice _ n _ => n
  | _ => 0
def lensL (n : Nat) (q : Int) : List Int := (List.range (7 - q).toNat).map fun i => lenB n (7 - i)
theorem lensL_next (n q : Nat) (h : q ≤ 7) : lensL n ((q : Int) - 1) = lensL n q ++ [lenB n q] := by
  unfold lensL
  rw [show (7 - ((q : Int) - 1)).toNat = (7 - (q : Int)).toNat + 1 by omega, List.range_succ, List.map_append, List.map_singleton, show 7 - (7 - (q : Int)).toNat = q by omega]
theorem padL_len (left n : Nat) : (padL left n).length = 1 + padN left + 8 := by
  simp [padL]; omega
theorem idxS (u : V8) (k : Nat) (h : k < 8) (w : World) : (Instr.index 324 (.agg #[.int .u32 u.a, .int .u32 u.b, .int .u32 u.c, .int .u32 u.d, .int .u32 u.e, .int .u32 u.f, .int .u32 u.g, .int .u32 u.h]) (.int .i64 k)).run Tryz.prog w = .ok (.int .u32 (atW u.list k)) w := by
  rcases lt8 h with rfl | rfl | rfl | rfl | rfl | rfl | rfl | rfl <;> kernel_rfl
theorem words_next (l : List Int) (k : Nat) (h : k < l.length) : ((l.take (k + 1)).flatMap wordL).map (Value.int .u8) = ((l.take k).flatMap wordL).map (Value.int .u8) ++ (wordL (atW l k)).map (Value.int .u8) := by
  rw [List.take_succ_eq_append_getElem h, List.flatMap_append, List.map_append]
  simp [atW, List.getD_eq_getElem?_getD, h]
set_option maxRecDepth 100000 in
set_option maxHeartbeats 2000000 in
theorem hsum_any (g : Nat) (v : V8) (left : ByteArray) (n : Nat) (w : World) (hl : left.size ≤ 1099511627776) (hn : n ≤ 1099511627776) (h : HashAt w g v left n) :
    Calls Tryz.prog 207 #[.pointer (some ⟨g, 0, none⟩)] w fun e w' => e = .returned (.string (sumV v left n)) ∧ Below w.heap.size w w' := by
  have H := Lib.hid h
  have hg := Blk.lt h
  obtain ⟨i0, hi, hz0, hz1, hz2⟩ := info_parts Tryz.infoU8
  have Hz := Lib.hid hz0
  clear h hz0
  go_enter Tryz.func207, Tryz.ntmps207
  go_wp2_with fail
  refine (hcopy_any g v left n _ H.out).mono ?_
  rintro e w1 ⟨g', rfl, hg', h', hb1⟩
  have H1 := Lib.hid h'
  have hg1 := Blk.lt h'
  have HG1 := Lib.hid (Blk.bel H.out hb1)
  have HB1 := Lib.hid hb1
  have hs1 := hb1.size
  clear h' hb1
  go_wp2_with fail
  go_loopw [4] (fun b wr => ∃ z : Nat, z ≤ padN left.size ∧ Hid (wr.ownsRow w1.heap.size 5 1 b (1 + z) ((128 :: List.replicate z 0).map (Value.int .u8))) ∧ Hid (Below w1.heap.size w1 wr)) (fun b _ => 200 - lenOf b)
  case atStart =>
    exact ⟨0, Nat.zero_le _, own_lit (Blk.new _ _ _) (Nat.le_refl _) (by simp) (by unfold maxLen; omega), (Below.refl _ _).alloc (Nat.le_refl _) _⟩
  case round =>
    obtain ⟨z, hz, HO, HB⟩ := hrel
    obtain ⟨A, c, rfl⟩ := own_form HO.out
    have k8 : wr.cell? ⟨g, 8, none⟩ = some (.string left) := Blk.cell (Blk.below HG1.out HB.out (by omega)) 8
    have hpn : padN left.size < 64 := Nat.mod_lt _ (by omega)
    by_cases hzp : z < padN left.size
    · have hpos : (left.size + (1 + z) + 8) % 64 ≠ 0 := by unfold padN at hzp; omega
      have hzs := HB.out.size
      go_wp2_with (first | (at_builtin; go_must (refine wpList_append_own _ rfl (.tmp 23) (.tmp 24) _ rfl w1.heap.size 5 i0 _ 1 1 Tryz.underlying198 hi Hz.out hz1 hz2 rfl (by decide) _ (1 + z) _ rfl (HO.out.alloc _) ⟨wr.heap.size, 0, none⟩ 1 1 [.int .u8 0] rfl rfl (news_alloc _ _ _ _ _ rfl rfl) (one_int _) (by simp only [maxLen]; omega) (by omega) (by simp; omega) ?_); intro v' w2 hown1 hg1 _))
      · obtain ⟨A', c', rfl⟩ := own_form hown1
        go_roundw
        case rel =>
          refine ⟨z + 1, by omega, ?_, (HB.out.alloc hzs _).grown hg1 (by simp; omega) (fun r hr => (HO.out.lt r hr).1)⟩
          show World.ownsRow _ _ _ _ _ _ _
          have e : (128 :: List.replicate (z + 1) 0).map (Value.int .u8) = (128 :: List.replicate z 0).map (Value.int .u8) ++ [.int .u8 0] := by
            rw [List.replicate_succ', List.map_cons, List.map_append]; rfl
          rw [e]
          exact hown1
        case measure => simp [lenOf]; omega
    · have hpos : (left.size + (1 + z) + 8) % 64 = 0 := by unfold padN at hzp hz; omega
      obtain rfl : z = padN left.size := by omega
      go_wp2_with fail
      go_loopw [4, 5] (fun b i wr => ∃ q : Int, -1 ≤ q ∧ q ≤ 7 ∧ i = .int .i64 q ∧ Hid (wr.ownsRow w1.heap.size 5 1 b (1 + padN left.size + (7 - q).toNat) ((128 :: (List.replicate (padN left.size) 0 ++ lensL n q)).map (Value.int .u8))) ∧ Hid (Below w1.heap.size w1 wr)) (fun _ i _ => (intOf i + 1).toNat)
      case atStart => 
        refine ⟨7, by omega, by omega, rfl, ?_, HB⟩
        show World.ownsRow _ _ _ _ _ _ _
        have := HO.out
        simpa [lensL] using this
      case round =>
        obtain ⟨q, hq1, hq2, rfl, HO2, HB2⟩ := hrel
        have k9 : wr.cell? ⟨g, 9, none⟩ = some (.int .i64 n) := Blk.cell (Blk.below HG1.out HB2.out (by omega)) 9
        have hzs := HB2.out.size
        obtain ⟨A2, c2, rfl⟩ := own_form HO2.out
        by_cases hq3 : 0 ≤ q
        · obtain ⟨q, rfl⟩ := Int.eq_ofNat_of_zero_le hq3
          go_wp2_with (first | (at_builtin; go_must (refine wpList_append_own _ rfl (.tmp 30) (.tmp 41) _ rfl w1.heap.size 5 i0 _ 1 1 Tryz.underlying198 hi Hz.out hz1 hz2 rfl (by decide) _ (1 + padN left.size + (7 - (q : Int)).toNat) _ rfl (HO2.out.alloc _) ⟨wr.heap.size, 0, none⟩ 1 1 _ rfl rfl (news_alloc _ _ _ _ _ rfl rfl) (one_int _) (by simp only [maxLen]; omega) (by omega) (by simp; omega) ?_); intro v' w2 hown1 hg1 _))
          obtain ⟨A', c', rfl⟩ := own_form hown1
          go_roundw
          case rel =>
            refine ⟨(q : Int) - 1, by omega, by omega, rfl, ?_, (HB2.out.alloc hzs _).grown hg1 (by simp; omega) (fun r hr => (HO2.out.lt r hr).1)⟩
            show World.ownsRow _ _ _ _ _ _ _
            rw [lensL_next n q (by omega), show 1 + padN left.size + (7 - ((q : Int) - 1)).toNat = 1 + padN left.size + (7 - (q : Int)).toNat + 1 by omega, ← List.append_assoc, ← List.cons_append, List.map_append]
            exact hown1
          case measure => simp [intOf]
        · obtain rfl : q = -1 := by omega
          have HO3 : Hid (wr.ownsRow w1.heap.size 5 1 (.slice A2 (1 + padN left.size + 8) c2) (1 + padN left.size + 8) ((padL left.size n).map (Value.int .u8))) := HO2.out
          have hcv := conv_own HO3.out
          have hpz : (strOfNums (padL left.size n)).size ≤ 100 := by rw [strOfNums_size, padL_len]; omega
          have HH := Lib.hid (Blk.below H1.out HB2.out hg1)
          have HBW := Lib.hid (HB1.out.trans (HB2.out.mono hs1))
          go_wp2_with fail
          refine (hwrite_any g' v left (strOfNums (padL left.size n)) n _ (by omega) (by omega) hl (by omega) (by exact HH.out)).mono ?_
          rintro e w3 ⟨rfl, h3, hc3⟩
          have HBW3 := Lib.hid (HBW.out.trans (hc3.below (B := w.heap.size) (by omega) (by simp; omega)))
          have hz3 := hc3.size
          clear hc3
          have HF : Hid (sumV v left n = strOfNums ((writeV v left (strOfNums (padL left.size n))).1.list.flatMap wordL)) := rfl
          generalize (writeV v left (strOfNums (padL left.size n))).1 = u at h3 HF
          generalize (writeV v left (strOfNums (padL left.size n))).2 = lf at h3
          have k0 := Blk.cell h3 0
          have k1 := Blk.cell h3 1
          have k2 := Blk.cell h3 2
          have k3 := Blk.cell h3 3
          have k4 := Blk.cell h3 4
          have k5 := Blk.cell h3 5
          have k6 := Blk.cell h3 6
          have k7 := Blk.cell h3 7
          simp only [hashC, List.getElem?_toArray, List.getElem?_cons_zero, List.getElem?_cons_succ] at k0 k1 k2 k3 k4 k5 k6 k7
          clear h3 hcv
          go_wp2_with fail
          clear k0 k1 k2 k3 k4 k5 k6 k7
          have HX := Lib.hid (idxS u)
          go_loopw [6, 51] (fun o i wr => ∃ k : Nat, k ≤ 8 ∧ i = .int .i64 k ∧ Hid (wr.ownsRow w3.heap.size 5 1 o (4 * k) (((u.list.take k).flatMap wordL).map (Value.int .u8))) ∧ Hid (Below w3.heap.size w3 wr)) (fun _ i _ => 8 - (intOf i).toNat)
          case atStart => exact ⟨0, by omega, rfl, World.ownsRow_nil _ _ _ _, Below.refl _ _⟩
          case round =>
            obtain ⟨k, hk, rfl, HO4, HB4⟩ := hrel
            obtain ⟨A4, c4, rfl⟩ := own_form HO4.out
            have hzs4 := HB4.out.size
            by_cases hk8 : k < 8
            · have hix := HX.out k hk8
              have HN := Lib.hid (words_next u.list k hk8)
              generalize atW u.list k = x at hix HN
              go_wp2_with (first | (at_builtin; go_must (refine wpList_append_own _ rfl (.tmp 54) (.tmp 66) _ rfl w3.heap.size 5 i0 _ 1 1 Tryz.underlying198 hi Hz.out hz1 hz2 rfl (by decide) _ (4 * k) _ rfl (HO4.out.alloc _) ⟨wr.heap.size, 0, none⟩ 4 4 _ rfl rfl (news_alloc _ _ _ _ _ rfl rfl) (one_ints (wordL x)) (by simp only [maxLen]; omega) (by omega) (by simp; omega) ?_); intro v' w2 hown1 hg1 _))
              obtain ⟨A', c', rfl⟩ := own_form hown1
              go_roundw
              case rel =>
                refine ⟨k + 1, by omega, by go_num, ?_, (HB4.out.alloc hzs4 _).grown hg1 (by simp; omega) (fun r hr => (HO4.out.lt r hr).1)⟩
                show World.ownsRow _ _ _ _ _ _ _
                rw [HN.out, Nat.mul_succ]
                exact hown1
              case measure => simp [intOf]; omega
            · obtain rfl : k = 8 := by omega
              have hcv := conv_own HO4.out
              have e8 : u.list.take 8 = u.list := rfl
              rw [e8, ← HF.out] at hcv
              go_wp2_with fail
              go_ret
              exact ⟨rfl, HBW3.out.trans (HB4.out.mono (by omega))⟩
set_option maxHeartbeats 400000 in
theorem sum_any (s : ByteArray) (w : World) (hs : s.size ≤ 1099511627776) :
    Calls Tryz.prog 182 #[.string s] w fun e w' => e = .returned (.string (sumB s)) ∧ Below w.heap.size w w' := by
  have HF := Lib.hid (sumB_eq s)
  have HL : Hid ((writeV beginV ByteArray.empty s).2.size ≤ 1099511627776) := by
    show _ ≤ _
    rw [writeV, eatV_size, ByteArray.size_append]
    have : ByteArray.empty.size = 0 := rfl
    omega
  go_enter Tryz.func182, Tryz.ntmps182
  go_wp2_with fail
  refine (hnew_any _).mono ?_
  rintro e w1 ⟨g, rfl, hg, h1, hb1⟩
  have hs1 := hb1.size
  go_wp2_with fail
  refine (hwrite_any g beginV ByteArray.empty s 0 _ (by omega) (by omega) (by decide) hs h1).mono ?_
  rintro e w2 ⟨rfl, h2, hc2⟩
  rw [Int.zero_add] at h2
  have HB2 := Lib.hid (hb1.trans (hc2.below (B := w.heap.size) hs1 (by simp; omega)))
  clear hb1 hc2 h1
  go_wp2_with fail
  refine (hsum_any g _ _ s.size _ HL.out hs h2).mono ?_
  rintro e w3 ⟨rfl, hb3⟩
  go_wp2_with fail
  go_ret
  exact ⟨ret_str HF.out.symm, HB2.out.trans (hb3.mono HB2.out.size)⟩
set_option maxHeartbeats 400000 in
theorem short_any (s : ByteArray) (w : World) (hs : s.size ≤ 1099511627776) :
    Calls Tryz.prog 141 #[.string s] w fun e w' => e = .returned (.string (shortB s)) ∧ Below w.heap.size w w' := by
  have hz : 16 ≤ (sumB s).size := by rw [sumB_size]; omega
  have HF : Hid (shortB s = (sumB s).extract 0 16) := rfl
  go_enter Tryz.func141, Tryz.ntmps141
  go_wp2_with fail
  refine (sum_any s _ hs).mono ?_
  rintro e w1 ⟨rfl, hb⟩
  go_wp2_with fail
  go_ret
  exact ⟨ret_str HF.out.symm, hb⟩
set_option maxRecDepth 100000 in
set_option maxHeartbeats 1000000 in
theorem tag_any (word : ByteArray) (A : Option Addr) (c : Nat) (l : List ByteArray) (w : World) (hw : word.size ≤ 1000) (hl : l.length ≤ 1000) (hp : ∀ p ∈ l, p.size ≤ 1000000) (h : Sl w w.heap.size 1 strC A l) :
    Calls Tryz.prog 70 #[.string word, .slice A l.length c] w fun e w' => e = .returned (.string (tagB word l)) ∧ Below w.heap.size w w' := by
  have H := Lib.hid h
  have HP := Lib.hid hp
  have HT : Hid (∀ k, (tagIn word (l.take k).reverse).size ≤ 1099511627776) := fun k => by
    have := tagIn_le word hw (l.take k).reverse (fun p hp' => HP.out p (List.mem_of_mem_take (by simpa using hp')))
    have h2 : (l.take k).reverse.length ≤ 1000 := by rw [List.length_reverse, List.length_take]; omega
    omega
  have HF := Lib.hid (tagB_eq word l)
  have kc := conv1
  have k1 := num1_size
  clear h hp
  go_enter Tryz.func70, Tryz.ntmps70
  go_wp2_with fail
  clear kc k1
  go_loopw [5, 17] (fun t i wr => ∃ k : Nat, k ≤ l.length ∧ i = .int .i64 k ∧ t = .string (tagIn word (l.take k).reverse) ∧ Hid (Below w.heap.size w wr)) (fun _ i _ => l.length - (intOf i).toNat)
  case atStart => exact ⟨0, by omega, rfl, rfl, (Below.refl _ _).alloc (Nat.le_refl _) _⟩
  case round =>
    obtain ⟨k, hk, rfl, rfl, HB⟩ := hrel
    have hT := HT.out k
    by_cases hkl : k < l.length
    · obtain ⟨b, off, rfl, hbB, hcl⟩ := (Sl.below H.out HB.out).at_ hkl
      have hN := Lib.hid (tagIn_next word l k hkl)
      have hpz := HP.out _ (List.getElem_mem hkl)
      generalize l[k] = p at hcl hN hpz
      have hc0 : wr.cell? ⟨b, off + k, none⟩ = some (.string p) := by have := hcl 0 _ rfl; simpa using this
      clear hcl
      generalize tagIn word (l.take k).reverse = t at hT hN ⊢
      have kc := conv2
      have k2 := num2_size
      go_wp2_with fail
      go_roundw
      case rel => exact ⟨k + 1, by omega, by go_num, by rw [hN.out]; rfl, HB.out.alloc HB.out.size _⟩
      case measure => simp [intOf]; omega
    · obtain rfl : k = l.length := by omega
      rw [List.take_length] at hT
      go_wp2_with fail
      refine (short_any _ _ hT).mono ?_
      rintro e w1 ⟨rfl, hb⟩
      go_wp2_with fail
      go_ret
      exact ⟨ret_str HF.out.symm, HB.out.trans (hb.mono HB.out.size)⟩
end Go.Proofs.YtjcinncphffgaaaGreat
namespace Go.Proofs.YtjcinncphffgaaaGreat
/-- of the words of the hash -/
def oneB (n : Nat) : ByteArray := strOfNums [(n : Int)]
theorem oneB_size (n : Nat) : (oneB n).size = 1 := strOfNums_size _
theorem ba_ext' {s t : ByteArray} (h : s.data.toList = t.data.toList) : s = t := ByteArray.ext (Array.ext' h)
theorem ba_size (s : ByteArray) : s.data.toList.length = s.size := Array.length_toList
/-- one behind the other -/
def catN (f : Nat → ByteArray) : Nat → ByteArray
  | 0 => ByteArray.empty
  | n + 1 => catN f n ++ f n
/-! wots -/
def stp (i : Nat) (x : ByteArray) : ByteArray := tagB wStep [oneB i, x]
def stepN (i : Nat) : Nat → ByteArray → ByteArray
  | 0, x => x
  | n + 1, x => stp i (stepN i n x)
theorem stepN_add (i a : Nat) (x : ByteArray) : ∀ b, stepN i (b + a) x = stepN i b (stepN i a x)
  | 0 => by rw [Nat.zero_add]; rfl
  | b + 1 => by rw [show b + 1 + a = (b + a) + 1 by omega, stepN, stepN_add i a x b]; rfl
theorem stepN_size (i : Nat) {x : ByteArray} (hx : x.size = 16) : ∀ n, (stepN i n x).size = 16
  | 0 => hx
  | _ + 1 => tagB_size _ _
/-- a digit's byte -/
def digC (msg : ByteArray) (j : Nat) : Nat := ((tagB wMessage [msg]).data.toList.getD j 0).toNat
def lackN (msg : ByteArray) : Nat → Nat
  | 0 => 0
  | j + 1 => lackN msg j + (30 - digC msg j / 16 - digC msg j % 16)
def digN (msg : ByteArray) (i : Nat) : Nat :=
  if i < 16 then (if i % 2 = 0 then digC msg (i / 2) / 16 else digC msg (i / 2) % 16) else if i = 16 then lackN msg 8 / 16 else lackN msg 8 % 16
theorem digC_lt (msg : ByteArray) (j : Nat) : digC msg j < 256 := UInt8.toNat_lt _
theorem lackN_le (msg : ByteArray) : ∀ j, lackN msg j ≤ 30 * j
  | 0 => Nat.le_refl _
  | j + 1 => by have := lackN_le msg j; simp only [lackN]; omega
theorem digN_le (msg : ByteArray) (i : Nat) : digN msg i ≤ 15 := by
  unfold digN
  have h1 := digC_lt msg (i / 2)
  have h2 := lackN_le msg 8
  split
  · split <;> omega
  · split <;> omega
def secB (seed : ByteArray) (i : Nat) : ByteArray := tagB wSecret [seed, oneB i]
theorem secB_size (seed : ByteArray) (i : Nat) : (secB seed i).size = 16 := tagB_size _ _
def fromB (msg sig : ByteArray) : ByteArray := tagB wPublic [catN (fun i => stepN i (15 - digN msg i) (sig.extract (16 * i) (16 * (i + 1)))) 18]
/-! merkle -/
def nodeB (a b : ByteArray) : ByteArray := tagB wNode [a, b]
def topB (h : Nat) (x : ByteArray) : ByteArray := tagB wRoot [oneB h, x]
def upR : ByteArray → Nat → List ByteArray → ByteArray
  | x, _, [] => x
  | x, i, y :: r => upR (if i % 2 = 0 then nodeB x y else nodeB y x) (i / 2) r
/-- the pieces of 16 behind a place -/
def pieces (s : ByteArray) (at_ : Nat) : Nat → List ByteArray
  | 0 => []
  | n + 1 => pieces s at_ n ++ [s.extract (at_ + 16 * n) (at_ + 16 * n + 16)]
def aboutB (root : ByteArray) (i : Nat) (msg : ByteArray) : ByteArray := root ++ oneB i ++ msg
/-- a text's byte -/
def atB (s : ByteArray) (i : Nat) : Nat := (s.data.toList.getD i 0).toNat
def leafOk (sig : ByteArray) : Bool := decide (289 ≤ sig.size) && decide ((sig.size - 289) % 16 = 0) && decide (sig.size - 289 ≤ 64) && decide (atB sig 0 < 2 ^ ((sig.size - 289) / 16))
def verB (root msg sig : ByteArray) : Bool :=
  leafOk sig && decide (root.size = 16) && decide (topB ((sig.size - 289) / 16) (upR (fromB (aboutB root (atB sig 0) msg) (sig.extract 1 289)) (atB sig 0) (pieces sig 289 ((sig.size - 289) / 16))) = root)
end Go.Proofs.YtjcinncphffgaaaGreat
