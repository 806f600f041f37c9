/- Plain words: the hash as the program reckons it (words of 32 bits as integers), and the tag of a word and parts: 16 bytes. No program. sha.turn, schedule, keys. sha.schedule, keys. sha.keys, mix. -/
import Derived.Laws.BytesArg
import Derived.Lib.Strings
import Derived.WalkKit
import Derived.Outline
import Derived.Lib.ConvBytes
import Derived.Deep.RegionHeld3
import Derived.RegionTactic
import Derived.Test.YtdoebmikjgmnaaaGreatMgG01
import Derived.Test.YtdoebmikjgmnaaaGreatMgG03
set_option linter.unusedVariables false
set_option linter.unusedSimpArgs false
namespace Go.Proofs.YtdoebmikjgmnaaaGreat
open Go.RowKit
/-- a word turned to the right -/
def rotI (x : Int) (n : Nat) : Int := bits .or .u32 (x / 2 ^ n) (x * 2 ^ (32 - n) % 4294967296)
/-- eight words -/
structure V8 where
  a : Int
  b : Int
  c : Int
  d : Int
  e : Int
  f : Int
  g : Int
  h : Int
def V8.list (v : V8) : List Int := [v.a, v.b, v.c, v.d, v.e, v.f, v.g, v.h]
abbrev u32w (n : Int) : Int := n % 4294967296
abbrev xorI (a b : Int) : Int := bits .xor .u32 a b
abbrev andI (a b : Int) : Int := bits .and .u32 a b
/-- a byte of a text -/
def byI (s : ByteArray) (i : Nat) : Int := ((s.data.toList.getD i 0).toNat : Int)
theorem byI_bd (s : ByteArray) (i : Nat) : 0 ≤ byI s i ∧ byI s i < 256 := by
  unfold byI
  have := (s.data.toList.getD i 0).toNat_lt
  omega
/-- the word t of the first 16, behind j of its bytes -/
def partW (s : ByteArray) (t : Nat) : Nat → Int
  | 0 => 0
  | j + 1 => bits .or .u32 (u32w (partW s t j * 256)) (byI s (4 * t + j))
def atW (l : List Int) (i : Nat) : Int := l.getD i 0
/-- the next word behind t words -/
def nextW (l : List Int) (t : Nat) : Int :=
  u32w (u32w (u32w (xorI (xorI (rotI (atW l (t - 2)) 17) (rotI (atW l (t - 2)) 19)) (atW l (t - 2) / 1024) + atW l (t - 7)) + xorI (xorI (rotI (atW l (t - 15)) 7) (rotI (atW l (t - 15)) 18)) (atW l (t - 15) / 8)) + atW l (t - 16))
def schedL (s : ByteArray) : Nat → List Int
  | 0 => []
  | t + 1 => schedL s t ++ [if t < 16 then partW s t 4 else nextW (schedL s t) t]
theorem schedL_length (s : ByteArray) : ∀ t, (schedL s t).length = t
  | 0 => rfl
  | t + 1 => by rw [schedL, List.length_append, schedL_length s t]; rfl
abbrev notI (x : Int) : Int := bits .xor .u32 (if IntKind.u32.signed then -1 else IntKind.u32.max) x
/-- one round -/
def pI (v : V8) (k w : Int) : Int :=
  u32w (u32w (u32w (u32w (v.h + xorI (xorI (rotI v.e 6) (rotI v.e 11)) (rotI v.e 25)) + xorI (andI v.e v.f) (andI (notI v.e) v.g)) + k) + w)
def qI (v : V8) : Int :=
  u32w (xorI (xorI (rotI v.a 2) (rotI v.a 13)) (rotI v.a 22) + xorI (xorI (andI v.a v.b) (andI v.a v.c)) (andI v.b v.c))
def stepV (v : V8) (k w : Int) : V8 := ⟨u32w (pI v k w + qI v), v.a, v.b, v.c, u32w (v.d + pI v k w), v.e, v.f, v.g⟩
def keysL : List Int := [0x428a2f98, 0x71374491, 0xb5c0fbcf, 0xe9b5dba5, 0x3956c25b, 0x59f111f1, 0x923f82a4, 0xab1c5ed5,
  0xd807aa98, 0x12835b01, 0x243185be, 0x550c7dc3, 0x72be5d74, 0x80deb1fe, 0x9bdc06a7, 0xc19bf174,
  0xe49b69c1, 0xefbe4786, 0x0fc19dc6, 0x240ca1cc, 0x2de92c6f, 0x4a7484aa, 0x5cb0a9dc, 0x76f988da,
  0x983e5152, 0xa831c66d, 0xb00327c8, 0xbf597fc7, 0xc6e00bf3, 0xd5a79147, 0x06ca6351, 0x14292967,
  0x27b70a85, 0x2e1b2138, 0x4d2c6dfc, 0x53380d13, 0x650a7354, 0x766a0abb, 0x81c2c92e, 0x92722c85,
  0xa2bfe8a1, 0xa81a664b, 0xc24b8b70, 0xc76c51a3, 0xd192e819, 0xd6990624, 0xf40e3585, 0x106aa070,
  0x19a4c116, 0x1e376c08, 0x2748774c, 0x34b0bcb5, 0x391c0cb3, 0x4ed8aa4a, 0x5b9cca4f, 0x682e6ff3,
  0x748f82ee, 0x78a5636f, 0x84c87814, 0x8cc70208, 0x90befffa, 0xa4506ceb, 0xbef9a3f7, 0xc67178f2]
def runV (v : V8) (ws : List Int) : Nat → V8
  | 0 => v
  | t + 1 => stepV (runV v ws t) (atW keysL t) (atW ws t)
def addV (v u : V8) : V8 := ⟨u32w (v.a + u.a), u32w (v.b + u.b), u32w (v.c + u.c), u32w (v.d + u.d), u32w (v.e + u.e), u32w (v.f + u.f), u32w (v.g + u.g), u32w (v.h + u.h)⟩
/-- 64 bytes taken into a state -/
def mixV (v : V8) (s : ByteArray) : V8 := addV v (runV v (schedL s 64) 64)
/-- n blocks taken, and what is left -/
def eatV : Nat → V8 → ByteArray → V8 × ByteArray
  | 0, v, s => (v, s)
  | n + 1, v, s => (mixV (eatV n v s).1 ((eatV n v s).2.extract 0 64), (eatV n v s).2.extract 64 (eatV n v s).2.size)
theorem eatV_size (v : V8) (s : ByteArray) : ∀ n, (eatV n v s).2.size = s.size - 64 * n
  | 0 => by simp [eatV]
  | n + 1 => by
    show ((eatV n v s).2.extract 64 (eatV n v s).2.size).size = _
    rw [ByteArray.size_extract, eatV_size v s n]
    omega
def beginV : V8 := ⟨0x6a09e667, 0xbb67ae85, 0x3c6ef372, 0xa54ff53a, 0x510e527f, 0x9b05688c, 0x1f83d9ab, 0x5be0cd19⟩
/-- how many noughts behind so many bytes -/
def padN (left : Nat) : Nat := (119 - left % 64) % 64
/-- the byte i of the number of bits -/
def lenB (n : Nat) (i : Nat) : Int := (n : Int) * 8 / 2 ^ (8 * i) % 256
def padL (left n : Nat) : List Int := 128 :: (List.replicate (padN left) 0 ++ [lenB n 7, lenB n 6, lenB n 5, lenB n 4, lenB n 3, lenB n 2, lenB n 1, lenB n 0])
def wordL (x : Int) : List Int := [x / 16777216 % 256, x / 65536 % 256, x / 256 % 256, x % 256]
def writeV (v : V8) (l s : ByteArray) : V8 × ByteArray := eatV ((l.size + s.size) / 64) v (l ++ s)
def sumV (v : V8) (l : ByteArray) (n : Nat) : ByteArray := strOfNums ((writeV v l (strOfNums (padL l.size n))).1.list.flatMap wordL)
def sumB (s : ByteArray) : ByteArray := sumV (writeV beginV ByteArray.empty s).1 (writeV beginV ByteArray.empty s).2 s.size
theorem sumB_size (s : ByteArray) : (sumB s).size = 32 := by
  rw [sumB, sumV, strOfNums_size]; rfl
def shortB (s : ByteArray) : ByteArray := (sumB s).extract 0 16
def lenPre (p : ByteArray) : ByteArray := strOfNums [(p.size : Int) / 256 % 256, (p.size : Int) % 256]
def tagIn (word : ByteArray) : List ByteArray → ByteArray
  | [] => strOfNums [(word.size : Int) % 256] ++ word
  | p :: r => tagIn word r ++ (lenPre p ++ p)
theorem tagIn_le (word : ByteArray) (hw : word.size ≤ 1000) : ∀ l : List ByteArray, (∀ p ∈ l, p.size ≤ 1000000) → (tagIn word l).size ≤ 2000 + 2000000 * l.length
  | [], _ => by rw [tagIn, ByteArray.size_append, strOfNums_size]; simp; omega
  | p :: r, h => by
    have h1 := tagIn_le word hw r (fun x hx => h x (by simp [hx]))
    have h2 := h p (by simp)
    rw [tagIn, ByteArray.size_append, ByteArray.size_append, lenPre, strOfNums_size]
    simp only [List.length_cons, List.length_nil]
    omega
theorem tagIn_next (word : ByteArray) (l : List ByteArray) (k : Nat) (h : k < l.length) : tagIn word (l.take (k + 1)).reverse = tagIn word (l.take k).reverse ++ (lenPre l[k] ++ l[k]) := by
  rw [List.take_succ_eq_append_getElem h, List.reverse_append, List.reverse_singleton]; rfl
/-- the parts are taken from the last one: so the tag turns them round -/
def tagB (word : ByteArray) (parts : List ByteArray) : ByteArray := shortB (tagIn word parts.reverse)
theorem tagB_size (w : ByteArray) (l : List ByteArray) : (tagB w l).size = 16 := by
  show (shortB _).size = 16
  rw [shortB, ByteArray.size_extract, sumB_size]; rfl
def wStep : ByteArray := ⟨#[115, 116, 101, 112]⟩
def wMessage : ByteArray := ⟨#[109, 101, 115, 115, 97, 103, 101]⟩
def wSecret : ByteArray := ⟨#[115, 101, 99, 114, 101, 116]⟩
def wPublic : ByteArray := ⟨#[112, 117, 98, 108, 105, 99]⟩
def wNode : ByteArray := ⟨#[110, 111, 100, 101]⟩
def wRoot : ByteArray := ⟨#[114, 111, 111, 116]⟩
def wLeaf : ByteArray := ⟨#[108, 101, 97, 102]⟩
theorem mixV_eq (v : V8) (s : ByteArray) : mixV v s = addV v (runV v (schedL s 64) 64) := rfl
theorem tagB_eq (word : ByteArray) (parts : List ByteArray) : tagB word parts = shortB (tagIn word parts.reverse) := rfl
theorem sumB_eq (s : ByteArray) : sumB s = sumV (writeV beginV ByteArray.empty s).1 (writeV beginV ByteArray.empty s).2 s.size := rfl
attribute [irreducible] tagB sumB mixV
end Go.Proofs.YtdoebmikjgmnaaaGreat
namespace Go.Proofs.YtdoebmikjgmnaaaGreat
open Go.RowKit
set_option maxHeartbeats 400000 in
theorem turn_any (x : Int) (n : Nat) (w : World) (hn : 1 ≤ n) (hn2 : n ≤ 31) :
    Calls Tryz.prog 159 #[.int .u32 x, .int .i64 n] w fun e w' => e = .returned (.int .u32 (rotI x n)) ∧ ∃ m, w' = w.drewN m := by
  have k1 : ¬ (n : Int) < 0 := by omega
  have k2 : ¬ (32 - (n : Int)) < 0 := by omega
  go_enter Tryz.func159, Tryz.ntmps159
  go_wp2_with fail
  go_quiet (fail)
  go_wp2_with fail
  go_ret
  exact ⟨rfl, _, rfl⟩
/-- at a constant -/
theorem turn_c (x n : Int) (w : World) (hn : 1 ≤ n) (hn2 : n ≤ 31) :
    Calls Tryz.prog 159 #[.int .u32 x, .int .i64 n] w fun e w' => e = .returned (.int .u32 (rotI x n.toNat)) ∧ ∃ m, w' = w.drewN m := by
  obtain ⟨k, rfl⟩ := Int.eq_ofNat_of_zero_le (show 0 ≤ n by omega)
  exact turn_any x k w (by omega) (by omega)
end Go.Proofs.YtdoebmikjgmnaaaGreat
namespace Go.Proofs.YtdoebmikjgmnaaaGreat
open Go.RowKit
def cW (l : List Int) : Array Value := (l.map (Value.int .u32)).toArray
def midW (l : List Int) (x : Int) : List Int := l ++ x :: List.replicate (63 - l.length) 0
theorem cW_get (l : List Int) (i : Nat) (h : i < l.length) : (cW l)[i]? = some (.int .u32 (l.getD i 0)) := by
  simp [cW, List.getD_eq_getElem?_getD, h]
theorem midW_set (l : List Int) (x y : Int) : (cW (midW l x)).setIfInBounds l.length (.int .u32 y) = cW (midW l y) := by
  simp [cW, midW, List.setIfInBounds_toArray]
def padW (l : List Int) : List Int := l ++ List.replicate (64 - l.length) 0
theorem padW_eq (l : List Int) (h : l.length < 64) : padW l = midW l 0 := by
  unfold padW midW
  rw [show 64 - l.length = (63 - l.length) + 1 by omega, List.replicate_succ]
theorem padW_snoc (l : List Int) (x : Int) (h : l.length < 64) : padW (l ++ [x]) = midW l x := by
  unfold padW midW
  rw [List.length_append, List.append_assoc]
  simp only [List.length_cons, List.length_nil, List.singleton_append]
  rw [show 64 - (l.length + (0 + 1)) = 63 - l.length by omega]
theorem padW_full (l : List Int) (h : l.length = 64) : padW l = l := by
  unfold padW
  rw [h]; simp
theorem midW_len (l : List Int) (x : Int) (h : l.length < 64) : (midW l x).length = 64 := by
  simp [midW]; omega
theorem midW_at (l : List Int) (x : Int) : (midW l x).getD l.length 0 = x := by simp [midW, List.getD_eq_getElem?_getD]
theorem midW_lt (l : List Int) (x : Int) (i : Nat) (h : i < l.length) : (midW l x).getD i 0 = l.getD i 0 := by
  simp [midW, List.getD_eq_getElem?_getD, List.getElem?_append_left h]
/-- '[]byte(t)' -/
theorem conv_bytes (w : World) (t : ByteArray) (n : Nat) (hn : t.size = n) : ∃ cap W1, (convert 9 107 (.string t)).run Tryz.prog w = .ok (.slice (some ⟨w.heap.size, 0, none⟩) n cap) W1 ∧
    (∀ j, j < n → W1.cell? ⟨w.heap.size, j, none⟩ = some (.int .u8 (byI t j))) ∧ Below w.heap.size w W1 ∧ W1.heap.size = w.heap.size + 1 := by
  subst hn
  refine ⟨_, _, Lib.run_convert_string_bytes (P := Tryz.prog) w 9 107 5 t Tryz.underlying9 Tryz.underlying107 Tryz.underlying5, fun j hj => Lib.bytesWorld_cell w _ t j hj, ?_, Lib.bytesWorld_size _ _ _⟩
  exact ⟨rfl, rfl, rfl, by rw [Lib.bytesWorld_size]; omega, fun i hi => Lib.bytesWorld_at_old w _ t i hi⟩
theorem byI_ext (s : ByteArray) (a b j : Nat) (h : a + j < b) : byI (s.extract a b) j = byI s (a + j) := by
  unfold byI
  rw [Lib.extract_data, List.getD_eq_getElem?_getD, List.getElem?_take_of_lt (by omega), List.getElem?_drop, List.getD_eq_getElem?_getD]
set_option maxRecDepth 100000 in
set_option maxHeartbeats 400000 in
theorem schedule_any (s : ByteArray) (w : World) (hs : s.size = 64) :
    Calls Tryz.prog 157 #[.string s] w fun e w' => ∃ b, e = .returned (.pointer (some ⟨b, 0, none⟩)) ∧ w.heap.size ≤ b ∧ Blk w' b 242 (cW (schedL s 64)) ∧ Below w.heap.size w w' := by
  have HS := Lib.hid hs
  clear hs
  go_enter Tryz.func157, Tryz.ntmps157
  go_wp2_with fail
  go_loopw [10] (fun i wr => ∃ k : Nat, k ≤ 16 ∧ i = .int .i64 k ∧ Blk wr w.heap.size 242 (cW (padW (schedL s k))) ∧ Below w.heap.size w wr) (fun i _ => 16 - (intOf i).toNat)
  case atStart =>
    exact ⟨0, by omega, rfl, Blk.new _ _ _, (Below.refl _ _).alloc (Nat.le_refl _) _⟩
  case round =>
    obtain ⟨k, hk, rfl, hB, hb⟩ := hrel
    have HB := Lib.hid hB
    have hlt := Blk.lt hB
    clear hB
    by_cases hk2 : k < 16
    · have hsz : (4 * (k : Int) + 4) ≤ s.size := by rw [HS.out]; omega
      obtain ⟨cap, W1, kc, hcells, hb1, hsz1⟩ := conv_bytes wr (s.extract (4 * k) (4 * k + 4)) 4 (by rw [ByteArray.size_extract, HS.out]; omega)
      have HZ := Lib.hid hsz1
      have HC := Lib.hid hcells
      clear hsz1 hcells
      go_wp2_with fail
      clear kc
      obtain ⟨wo, rfl⟩ : ∃ wo : World, wo = wr := ⟨_, rfl⟩
      go_loopw [22] (fun i wi => ∃ j : Nat, j ≤ 4 ∧ i = .int .i64 j ∧ Blk wi w.heap.size 242 (cW (midW (schedL s k) (partW s k j))) ∧ (∀ q, q < 4 → wi.cell? ⟨wo.heap.size, q, none⟩ = some (.int .u8 (byI s (4 * k + q)))) ∧ Below w.heap.size w wi) (fun i _ => 4 - (intOf i).toNat)
      case atStart =>
        refine ⟨0, by omega, rfl, ?_, fun q hq => by rw [HC.out q hq, byI_ext _ _ _ _ (by omega)], hb.trans (hb1.mono (by omega))⟩
        have := Blk.below HB.out hb1 hlt
        rwa [padW_eq _ (by rw [schedL_length]; omega)] at this
      case round =>
        obtain ⟨j, hj, rfl, hB, hC, hb2⟩ := hrel
        have HB := Lib.hid hB
        have HCC := Lib.hid hC
        clear hC
        by_cases hj2 : j < 4
        · have hc := HCC.out j hj2
          have c1 : wr.cell? ⟨w.heap.size, k, none⟩ = some (.int .u32 (partW s k j)) := by
            rw [Blk.cell hB k, cW_get _ _ (by rw [midW_len _ _ (by rw [schedL_length]; omega)]; omega)]
            have := midW_at (schedL s k) (partW s k j)
            rw [schedL_length] at this
            rw [this]
          have f1 : wr.frozen? ⟨w.heap.size, k, none⟩ = false := Blk.frozen hB k
          have hlt2 := Blk.lt hB
          obtain ⟨d1, d2⟩ := byI_bd s (4 * k + j)
          clear hB
          go_wp2_with fail
          go_roundw
          case rel =>
            refine ⟨j + 1, by omega, by go_num, ?_, fun q hq => ?_, hb2.setCell (Nat.le_refl _) _⟩
            · have := Blk.set_ HB.out k (.int .u32 (bits .or .u32 (partW s k j * 256 % 4294967296) (byI s (4 * k + j))))
              have e := midW_set (schedL s k) (partW s k j) (bits .or .u32 (partW s k j * 256 % 4294967296) (byI s (4 * k + j)))
              rw [schedL_length] at e
              rw [e] at this
              exact this
            · rw [World.cell?_setCell_other _ _ _ _ (by simp)]
              exact HCC.out q hq
          case measure => simp [intOf]; omega
        · clear hB
          go_wp2_with fail
          go_roundw
          case rel =>
            refine ⟨k + 1, by omega, by go_num, ?_, hb2⟩
            obtain rfl : j = 4 := by omega
            rw [schedL, if_pos hk2, padW_snoc _ _ (by rw [schedL_length]; omega)]
            exact HB.out
          case measure => simp [intOf]; omega
    · go_wp2_with fail
      go_loopw [7] (fun i wr => ∃ k : Nat, 16 ≤ k ∧ k ≤ 64 ∧ i = .int .i64 k ∧ Blk wr w.heap.size 242 (cW (padW (schedL s k))) ∧ Below w.heap.size w wr) (fun i _ => 64 - (intOf i).toNat)
      case atStart => exact ⟨k, by omega, by omega, by rw [show k = 16 by omega]; rfl, HB.out, hb⟩
      case round =>
        obtain ⟨t, ht1, ht2, rfl, hB, hb2⟩ := hrel
        by_cases ht3 : t < 64
        · have hw : padW (schedL s t) = midW (schedL s t) 0 := padW_eq _ (by rw [schedL_length]; omega)
          have hcell : ∀ q, q < t → wr.cell? ⟨w.heap.size, q, none⟩ = some (.int .u32 (atW (schedL s t) q)) := fun q hq => by
            rw [Blk.cell hB q, cW_get _ _ (by rw [hw, midW_len _ _ (by rw [schedL_length]; omega)]; omega), hw, midW_lt _ _ _ (by rw [schedL_length]; omega)]; rfl
          have c15 := hcell (t - 15) (by omega)
          have c2 := hcell (t - 2) (by omega)
          have c7 := hcell (t - 7) (by omega)
          have c16 := hcell (t - 16) (by omega)
          have HB2 := Lib.hid hB
          have ft := Blk.frozen hB t
          have hw0 : wr.cell? ⟨w.heap.size, t, none⟩ = some (.int .u32 0) := by
            rw [Blk.cell hB t, cW_get _ _ (by rw [hw, midW_len _ _ (by rw [schedL_length]; omega)]; omega), hw]
            have := midW_at (schedL s t) 0
            rw [schedL_length] at this
            rw [this]
          have HW := Lib.hid hw
          clear hB hcell hw
          go_wp2_with fail
          go_quiet (fail)
          go_wp2_with fail
          have q7 : IntKind.i64.wrap ((t : Int) - 7) = (t : Int) - 7 := IntWalk.i64_in _ (by omega)
          have q16 : IntKind.i64.wrap ((t : Int) - 16) = (t : Int) - 16 := IntWalk.i64_in _ (by omega)
          have r7 : 0 ≤ (t : Int) - 7 := by omega
          have r16 : 0 ≤ (t : Int) - 16 := by omega
          have s7 : ((t : Int) - 7).toNat = t - 7 := by omega
          have s16 : ((t : Int) - 16).toNat = t - 16 := by omega
          have x7 : (t : Int) - 7 < 64 := by omega
          have x16 : (t : Int) - 16 < 64 := by omega
          have y7 : (7 : Int) ≤ t := by omega
          have y16 : (16 : Int) ≤ t := by omega
          have z7 : 7 ≤ t := by omega
          have v7 : t - 7 < 64 := by omega
          have v16 : t - 16 < 64 := by omega
          have n7 : ¬ t = t - 7 := by omega
          have n16 : ¬ t = t - 16 := by omega
          go_region_held3 (fun w' => w'.cell? ⟨w.heap.size, t - 7, none⟩ = some (.int .u32 (atW (schedL s t) (t - 7))) ∧ w'.cell? ⟨w.heap.size, t - 16, none⟩ = some (.int .u32 (atW (schedL s t) (t - 16))))
            (first | go_keep | (refine And.intro ?_ ?_ <;> (rw [World.cell?_setCell_other _ _ _ _ (by simp <;> omega)]; assumption)))
            ((first | (go_at_call 159; refine (turn_c _ _ _ (by omega) (by omega)).mono ?_; rintro e w' ⟨rfl, m, rfl⟩) ))
          go_wp2_with fail
          go_roundw
          case rel =>
            refine ⟨t + 1, by omega, by omega, by go_num, ?_, (below_drewN hb2 _).setCell (Nat.le_refl _) _⟩
            have e : cW (padW (schedL s (t + 1))) = (cW (padW (schedL s t))).setIfInBounds t (.int .u32 (nextW (schedL s t) t)) := by
              have := midW_set (schedL s t) 0 (nextW (schedL s t) t)
              rw [schedL_length] at this
              rw [HW.out, this, schedL, if_neg (by omega), padW_snoc _ _ (by rw [schedL_length]; omega)]
            rw [e]
            exact Blk.set_ (Blk.drewN HB2.out _) t _
          case measure => simp [intOf]; omega
        · obtain rfl : t = 64 := by omega
          go_wp2_with fail
          go_ret
          rw [padW_full _ (schedL_length s 64)] at hB
          exact ⟨w.heap.size, rfl, Nat.le_refl _, hB, hb2⟩
end Go.Proofs.YtdoebmikjgmnaaaGreat
namespace Go.Proofs.YtdoebmikjgmnaaaGreat
open Go.RowKit
set_option maxRecDepth 100000 in
set_option maxHeartbeats 400000 in
theorem keys_any (w : World) :
    Calls Tryz.prog 158 #[] w fun e w' => ∃ b, e = .returned (.pointer (some ⟨b, 0, none⟩)) ∧ w.heap.size ≤ b ∧ Blk w' b 242 (cW keysL) ∧ Below w.heap.size w w' := by
  go_enter Tryz.func158, Tryz.ntmps158
  go_wp2_with fail
  go_ret
  exact ⟨_, rfl, Nat.le_refl _, Blk.new _ _ _, (Below.refl _ _).alloc (Nat.le_refl _) _⟩
def hashC (v : V8) (left : ByteArray) (n : Int) : Array Value := #[.int .u32 v.a, .int .u32 v.b, .int .u32 v.c, .int .u32 v.d, .int .u32 v.e, .int .u32 v.f, .int .u32 v.g, .int .u32 v.h, .string left, .int .i64 n]
def HashAt (w : World) (g : Nat) (v : V8) (left : ByteArray) (n : Int) : Prop := Blk w g 226 (hashC v left n)
/-- the first k words added -/
def addK (v u : V8) (k : Nat) : V8 := ⟨if 0 < k then u32w (v.a + u.a) else v.a, if 1 < k then u32w (v.b + u.b) else v.b, if 2 < k then u32w (v.c + u.c) else v.c, if 3 < k then u32w (v.d + u.d) else v.d, if 4 < k then u32w (v.e + u.e) else v.e, if 5 < k then u32w (v.f + u.f) else v.f, if 6 < k then u32w (v.g + u.g) else v.g, if 7 < k then u32w (v.h + u.h) else v.h⟩
theorem addK_zero (v u : V8) : addK v u 0 = v := by simp [addK]
theorem addK_full (v u : V8) : addK v u 8 = addV v u := by simp [addK, addV]
theorem lt8 {k : Nat} (h : k < 8) : k = 0 ∨ k = 1 ∨ k = 2 ∨ k = 3 ∨ k = 4 ∨ k = 5 ∨ k = 6 ∨ k = 7 := by omega
theorem addK_cell (v u : V8) (left : ByteArray) (n : Int) (k : Nat) (h : k < 8) : (hashC (addK v u k) left n)[k]? = some (.int .u32 (atW v.list k)) := by
  rcases lt8 h with rfl | rfl | rfl | rfl | rfl | rfl | rfl | rfl <;> rfl
theorem addK_set (v u : V8) (left : ByteArray) (n : Int) (k : Nat) (h : k < 8) : (hashC (addK v u k) left n).setIfInBounds k (.int .u32 (u32w (atW v.list k + atW u.list k))) = hashC (addK v u (k + 1)) left n := by
  rcases lt8 h with rfl | rfl | rfl | rfl | rfl | rfl | rfl | rfl <;> rfl
theorem idx8 (u : V8) (k : Nat) (h : k < 8) (w : World) : (Instr.index 222 (.agg #[.int .u32 u.a, .int .u32 u.b, .int .u32 u.c, .int .u32 u.d, .int .u32 u.e, .int .u32 u.f, .int .u32 u.g, .int .u32 u.h]) (.int .i64 k)).run Tryz.prog w = .ok (.int .u32 (atW u.list k)) w := by
  rcases lt8 h with rfl | rfl | rfl | rfl | rfl | rfl | rfl | rfl <;> kernel_rfl
theorem runV_any (v : V8) (ws : List Int) (t : Nat) (u : V8) (h : runV v ws t = u) : runV v ws (t + 1) = stepV u (atW keysL t) (atW ws t) := by rw [runV, h]
set_option maxRecDepth 100000 in
set_option maxHeartbeats 1000000 in
theorem mix_any (g : Nat) (v : V8) (left : ByteArray) (n : Int) (s : ByteArray) (w : World) (hs : s.size = 64) (h : HashAt w g v left n) :
    Calls Tryz.prog 148 #[.pointer (some ⟨g, 0, none⟩), .string s] w fun e w' => e = .returned (.tuple #[]) ∧ HashAt w' g (mixV v s) left n ∧ Ch [g] w w' := by
  have hlt := Blk.lt h
  have H := Lib.hid h
  have HS := Lib.hid hs
  clear h hs
  go_enter Tryz.func148, Tryz.ntmps148
  go_wp2_with fail
  refine (schedule_any s _ HS.out).mono ?_
  rintro e w1 ⟨b1, rfl, hb1, hB1, hc1⟩
  have HB1 := Lib.hid hB1
  clear hB1
  go_wp2_with fail
  refine (keys_any _).mono ?_
  rintro e w2 ⟨b2, rfl, hb2, hB2, hc2⟩
  have hz1 := hc1.size
  have HW2 := Lib.hid (Blk.bel HB1.out hc2)
  have HC2 := Lib.hid ((Ch.of_below hc1 [g]).trans (Ch.of_below hc2 [g]))
  have HB2 := Lib.hid hB2
  have HH2 := Lib.hid (Blk.below (Blk.bel H.out hc1) hc2 (by omega))
  clear hB2 hc1 hc2
  have k0 := Blk.cell HH2.out 0
  have k1 := Blk.cell HH2.out 1
  have k2 := Blk.cell HH2.out 2
  have k3 := Blk.cell HH2.out 3
  have k4 := Blk.cell HH2.out 4
  have k5 := Blk.cell HH2.out 5
  have k6 := Blk.cell HH2.out 6
  have k7 := Blk.cell HH2.out 7
  simp only [hashC, List.getElem?_toArray, List.getElem?_cons_zero, List.getElem?_cons_succ] at k0 k1 k2 k3 k4 k5 k6 k7
  go_wp2_with fail
  go_quiet (fail)
  go_wp2_with fail
  go_quiet (fail)
  go_wp2_with fail
  clear k0 k1 k2 k3 k4 k5 k6 k7
  have hbd1 := Blk.lt HW2.out
  have hbd2 := Blk.lt HB2.out
  go_loopw [6, 7, 8, 9, 10, 11, 12, 13, 54] (fun a b c d e f g' h i wr => ∃ (t q : Nat) (u : V8), t ≤ 64 ∧ i = .int .i64 t ∧ Hid (runV v (schedL s 64) t = u) ∧ a = .int .u32 u.a ∧ b = .int .u32 u.b ∧ c = .int .u32 u.c ∧ d = .int .u32 u.d ∧ e = .int .u32 u.e ∧ f = .int .u32 u.f ∧ g' = .int .u32 u.g ∧ h = .int .u32 u.h ∧ wr = w2.drewN q) (fun _ _ _ _ _ _ _ _ i _ => 64 - (intOf i).toNat)
  case atStart => exact ⟨0, _, v, by omega, rfl, rfl, rfl, rfl, rfl, rfl, rfl, rfl, rfl, rfl, by rw [World.drewN_drewN]⟩
  case round =>
    obtain ⟨t, q, u, ht, rfl, HU, rfl, rfl, rfl, rfl, rfl, rfl, rfl, rfl, rfl⟩ := hrel
    by_cases ht2 : t < 64
    · have hkc : w2.cell? ⟨b2, t, none⟩ = some (.int .u32 (atW keysL t)) := by rw [Blk.cell HB2.out t, cW_get _ _ (by show t < 64; omega)]; rfl
      have hwc : w2.cell? ⟨b1, t, none⟩ = some (.int .u32 (atW (schedL s 64) t)) := by rw [Blk.cell HW2.out t, cW_get _ _ (by rw [schedL_length]; omega)]; rfl
      have HN := Lib.hid (runV_any v (schedL s 64) t u HU.out)
      generalize atW keysL t = kk at hkc HN
      generalize atW (schedL s 64) t = ww at hwc HN
      go_wp2_with fail
      go_quiet ((first | (go_at_call 159; exact quiet_add (turn_c _ _ _ (by omega) (by omega)))))
      go_wp2_with (first | (go_at_call 159; refine (turn_c _ _ _ (by omega) (by omega)).mono ?_; rintro e w' ⟨rfl, m, rfl⟩))
      go_roundw
      case rel =>
        refine ⟨t + 1, _, stepV u kk ww, by omega, by go_num, HN, ?_, rfl, rfl, rfl, ?_, rfl, rfl, rfl, rfl⟩
        · show _ = Value.int .u32 (u32w (pI u kk ww + qI u))
          refine congrArg (Value.int .u32) ?_
          simp only [pI, qI, u32w, xorI, andI, notI]
          omega
        · show _ = Value.int .u32 (u32w (u.d + pI u kk ww))
          refine congrArg (Value.int .u32) ?_
          simp only [pI, u32w, xorI, andI, notI]
          omega
      case measure => simp [intOf]; omega
    · obtain rfl : t = 64 := by omega
      have HF : Hid (addV v u = mixV v s) := by show _ = _; rw [mixV_eq, HU.out]
      have HQ : Hid (HashAt (w2.drewN q) g (addK v u 0) left n) := by show HashAt _ _ _ _ _; rw [addK_zero]; exact Blk.drewN HH2.out q
      have HCh : Hid (Ch [g] w (w2.drewN q)) := HC2.out.trans (Ch.drewN _ _ _)
      have hi8 := idx8 u
      have HI := Lib.hid hi8
      clear hi8 hbd1 hbd2
      go_wp2_with fail
      go_loopw [130] (fun i wr => ∃ k : Nat, k ≤ 8 ∧ i = .int .i64 k ∧ Hid (HashAt wr g (addK v u k) left n) ∧ Hid (Ch [g] w wr)) (fun i _ => 8 - (intOf i).toNat)
      case atStart => exact ⟨0, by omega, rfl, HQ, HCh⟩
      case round =>
        obtain ⟨k, hk, rfl, HK, HCK⟩ := hrel
        by_cases hk2 : k < 8
        · have hix := HI.out k hk2
          have hcell : wr.cell? ⟨g, k, none⟩ = some (.int .u32 (atW v.list k)) := by rw [Blk.cell HK.out k, addK_cell _ _ _ _ _ hk2]
          have hfz : wr.frozen? ⟨g, k, none⟩ = false := Blk.frozen HK.out k
          have HSet := Lib.hid (addK_set v u left n k hk2)
          generalize atW v.list k = vv at hcell HSet
          generalize atW u.list k = uu at hix HSet
          go_wp2_with fail
          go_region
          go_wp2_with fail
          go_roundw
          case rel =>
            have h := Blk.set_ HK.out k (.int .u32 (u32w (vv + uu)))
            rw [HSet.out] at h
            refine ⟨k + 1, by omega, by go_num, h, ?_⟩
            show Ch _ _ _
            first
              | exact HCK.out.trans (Ch.set_ (by simp) _ _ _)
              | exact (HCK.out.trans (Ch.set_ (by simp) _ k (.int .u32 (u32w (vv + uu))))).trans (Ch.drewN _ _ 1)
              | exact (HCK.out.trans (Ch.drewN _ _ 1)).trans (Ch.set_ (by simp) _ k (.int .u32 (u32w (vv + uu))))
          case measure => simp [intOf]; omega
        · obtain rfl : k = 8 := by omega
          go_wp2_with fail
          go_end0
          have h := HK.out
          rw [addK_full, HF.out] at h
          exact ⟨rfl, h, HCK.out⟩
end Go.Proofs.YtdoebmikjgmnaaaGreat
