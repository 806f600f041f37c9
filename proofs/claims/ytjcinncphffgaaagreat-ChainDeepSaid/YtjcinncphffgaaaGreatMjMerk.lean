/- merkle: the small ones. merkle.rows. merkle.rows, Root, Path, Up. merkle.Path, Up. merkle.New. merkle: Key.Sign, Root, Left. merkle.Leaf, Verify. -/
import Derived.Lib.OwnKind
import Derived.Outline
import Derived.Deep.RegionHeld3
import Derived.Deep.AppendLies
import Derived.Deep.Onto
import Derived.Laws.EntriesVeiled
import Derived.Lib.SliceRun
import Derived.Deep.RegionLaw
import Derived.Test.YtjcinncphffgaaaGreatMjWots
set_option linter.unusedVariables false
set_option linter.unusedSimpArgs false
namespace Go.Proofs.YtjcinncphffgaaaGreat
open Go.RowKit
theorem one_any (n : Nat) (w : World) (hn : n < 256) : Calls Tryz.prog 114 #[.int .i64 n] w fun e w' => e = .returned (.string (oneB n)) ∧ Below w.heap.size w w' := by
  have kc := conv1
  have hn2 : (n : Int) < 256 := by omega
  go_enter Tryz.func114, Tryz.ntmps114
  go_wp2_with fail
  go_ret
  exact ⟨rfl, (Below.refl _ _).alloc (Nat.le_refl _) _⟩
theorem odd_no (s : ByteArray) (w : World) (hs : s.size = 16) : Calls Tryz.prog 92 #[.string s] w fun e w' => e = .returned (.bool false) ∧ w = w' := by
  have h1 : ((s.size : Int) != 16) = false := by rw [hs]; rfl
  clear hs
  go_enter Tryz.func92, Tryz.ntmps92
  go_wp2_with fail
  go_ret
  exact ⟨rfl, rfl⟩
theorem node_any (a b : ByteArray) (w : World) (ha : a.size ≤ 1000000) (hb : b.size ≤ 1000000) : Calls Tryz.prog 156 #[.string a, .string b] w fun e w' => e = .returned (.string (nodeB a b)) ∧ Below w.heap.size w w' := by
  go_enter Tryz.func156, Tryz.ntmps156
  go_wp2_with fail
  refine (tag2 _ a b _ _ rfl (by decide) ha hb).mono ?_
  rintro e w' ⟨rfl, hb'⟩
  go_wp2_with fail
  go_ret
  exact ⟨rfl, hb'⟩
theorem topped_any (h : Nat) (x : ByteArray) (w : World) (hh : h < 256) (hx : x.size ≤ 1000000) : Calls Tryz.prog 147 #[.int .i64 h, .string x] w fun e w' => e = .returned (.string (topB h x)) ∧ Below w.heap.size w w' := by
  have z1 : (oneB h).size ≤ 1000000 := by rw [oneB_size]; omega
  go_enter Tryz.func147, Tryz.ntmps147
  go_wp2_with fail
  refine (one_any h _ hh).mono ?_
  rintro e w1 ⟨rfl, hb1⟩
  go_wp2_with fail
  refine (tag2 _ (oneB h) x _ _ rfl (by decide) z1 hx).mono ?_
  rintro e w' ⟨rfl, hb'⟩
  go_wp2_with fail
  go_ret
  exact ⟨rfl, hb1.trans (hb'.mono hb1.size)⟩
theorem about_any (root msg : ByteArray) (i : Nat) (w : World) (hi : i < 256) (hx : root.size ≤ 1000000) (hm : msg.size ≤ 1000000) : Calls Tryz.prog 94 #[.string root, .int .i64 i, .string msg] w fun e w' => e = .returned (.string (aboutB root i msg)) ∧ Below w.heap.size w w' := by
  have z1 : (oneB i).size ≤ 1 := by rw [oneB_size]; omega
  have z2 : (root ++ oneB i).size ≤ 1000001 := by rw [ByteArray.size_append, oneB_size]; omega
  go_enter Tryz.func94, Tryz.ntmps94
  go_wp2_with fail
  refine (one_any i _ hi).mono ?_
  rintro e w1 ⟨rfl, hb1⟩
  go_wp2_with fail
  go_ret
  exact ⟨rfl, hb1⟩
/-- a text's list of 16 bytes each, in a row of strings -/
def SR (w : World) (v : Value) (l : List ByteArray) : Prop := w.ownsRow 0 9 1 v l.length (l.map Value.string)
theorem SR.form {w : World} {v : Value} {l : List ByteArray} (h : SR w v l) : ∃ A c, v = .slice A l.length c := own_form h
theorem SR.cell {w : World} {A : Option Addr} {n c : Nat} {l : List ByteArray} (h : SR w (.slice A n c) l) {i : Nat} (hi : i < l.length) : ∃ g, A = some ⟨g, 0, none⟩ ∧ g < w.heap.size ∧ (∃ cs fr, w.heap[g]? = some (Obj.cells cs 9 fr)) ∧ w.cell? ⟨g, i, none⟩ = some (.string l[i]) := by
  obtain ⟨g, cap, hv, _, hlt⟩ := World.ownsRow.form h (by omega)
  injection hv with h1 h2 h3
  subst h1
  obtain ⟨cs, fr, hk⟩ := Lib.ownsRow_kind h g rfl
  refine ⟨g, rfl, hlt, ⟨cs, fr, hk⟩, ?_⟩
  have := World.ownsRow.cells h (g := g) rfl i (.string l[i]) (by simp [hi])
  rwa [addr_add0] at this
/-- strings stay as they were, and all below B -/
structure KS (B : Nat) (w w' : World) : Prop where
  bel : Below B w w'
  size : w.heap.size ≤ w'.heap.size
  str : ∀ (g : Nat) (cs : Array Value) (fr : Nat × Nat), w.heap[g]? = some (Obj.cells cs 9 fr) → w'.heap[g]? = some (Obj.cells cs 9 fr)
theorem KS.of_below {B : Nat} {w w' : World} (h : Below w.heap.size w w') (hB : B ≤ w.heap.size) : KS B w w' := ⟨h.mono hB, h.size, fun g _ _ hg => (h.block g (Array.getElem?_eq_some_iff.1 hg).1).trans hg⟩
theorem KS.sr {B : Nat} {w w' : World} {v : Value} {l : List ByteArray} (h : KS B w w') (hs : SR w v l) : SR w' v l := by
  obtain ⟨h1, h2⟩ := hs
  refine ⟨h1, ?_⟩
  rcases h2 with h2 | ⟨g, cap, cur, hv, hb, hg, r⟩
  · exact .inl h2
  · exact .inr ⟨g, cap, cur, hv, hb, h.str g _ _ hg, r⟩
set_option maxRecDepth 100000 in
set_option maxHeartbeats 400000 in
theorem indexOdd_any (v : Value) (l : List ByteArray) (w : World) (h : SR w v l) (hl : ∀ x ∈ l, x.size = 16) (hn : l.length ≤ 1000) :
    Calls Tryz.prog 188 #[v, .func (.func 92) #[] #[]] w fun e w' => e = .returned (.int .i64 (-1)) ∧ w = w' := by
  obtain ⟨A, c, rfl⟩ := h.form
  have H := Lib.hid h
  have HL := Lib.hid hl
  clear h hl
  go_enter Tryz.func188, Tryz.ntmps188
  go_wp2_with fail
  go_loop [8] (fun i => ∃ k : Nat, k ≤ l.length ∧ i = .int .i64 k) (fun i => l.length - (intOf i).toNat)
  case atStart => exact ⟨0, by omega, rfl⟩
  case round =>
    obtain ⟨k, hk, rfl⟩ := hrel
    by_cases hkl : k < l.length
    · obtain ⟨g, rfl, _, _, hc⟩ := H.out.cell hkl
      have hx := HL.out _ (List.getElem_mem hkl)
      generalize l[k] = x at hc hx
      have HX := Lib.hid hx
      clear hx
      go_wp2_with fail
      refine (odd_no x _ HX.out).mono ?_
      rintro e w' ⟨rfl, rfl⟩
      go_wp2_with fail
      go_round
      case rel => exact ⟨k + 1, by omega, by go_num⟩
      case measure => simp [intOf]; omega
    · go_wp2_with fail
      go_ret
      exact ⟨rfl, rfl⟩
theorem hasOdd_any (v : Value) (l : List ByteArray) (w : World) (h : SR w v l) (hl : ∀ x ∈ l, x.size = 16) (hn : l.length ≤ 1000) :
    Calls Tryz.prog 155 #[v, .func (.func 92) #[] #[]] w fun e w' => e = .returned (.bool false) ∧ w = w' := by
  go_enter Tryz.func155, Tryz.ntmps155
  go_wp2_with fail
  refine (indexOdd_any v l _ h hl hn).mono ?_
  rintro e w' ⟨rfl, rfl⟩
  go_wp2_with fail
  go_ret
  exact ⟨rfl, rfl⟩
end Go.Proofs.YtjcinncphffgaaaGreat
namespace Go.Proofs.YtjcinncphffgaaaGreat
open Go.RowKit
theorem Blk.ne_own {w : World} {g base size n : Nat} {t e : TypeId} {cs : Array Value} {v : Value} {xs : List Value} (h : Blk w g t cs) (ho : w.ownsRow base e size v n xs) (hne : t ≠ e) : some g ≠ v.ownBlock := fun e' => by
  obtain ⟨c, fz, hk⟩ := Lib.ownsRow_kind ho g e'.symm
  unfold Blk at h
  rw [h] at hk
  injection hk with hk
  injection hk with _ hk
  exact hne hk
end Go.Proofs.YtjcinncphffgaaaGreat
namespace Go.Proofs.YtjcinncphffgaaaGreat
open Go.RowKit
theorem pow_le16 (h : Nat) (hh : h ≤ 4) : 1 ≤ 2 ^ h ∧ 2 ^ h ≤ 16 := ⟨Nat.pow_pos (by omega), Nat.pow_le_pow_right (by omega) hh⟩
end Go.Proofs.YtjcinncphffgaaaGreat
namespace Go.Proofs.YtjcinncphffgaaaGreat
open Go.RowKit
theorem lt16 (n : Nat) (h : n < 16) : n = 0 ∨ n = 1 ∨ n = 2 ∨ n = 3 ∨ n = 4 ∨ n = 5 ∨ n = 6 ∨ n = 7 ∨ n = 8 ∨ n = 9 ∨ n = 10 ∨ n = 11 ∨ n = 12 ∨ n = 13 ∨ n = 14 ∨ n = 15 := by omega
theorem and1 (n : Nat) (h : n < 16) : bits .and .i64 (n : Int) 1 = ((n % 2 : Nat) : Int) := by
  rcases lt16 n h with rfl | rfl | rfl | rfl | rfl | rfl | rfl | rfl | rfl | rfl | rfl | rfl | rfl | rfl | rfl | rfl <;> rfl
theorem upR_snoc : ∀ (p : List ByteArray) (x y : ByteArray) (i : Nat), upR x i (p ++ [y]) = if (i / 2 ^ p.length) % 2 = 0 then nodeB (upR x i p) y else nodeB y (upR x i p)
  | [], x, y, i => by simp [upR]
  | z :: p, x, y, i => by
    rw [List.cons_append, upR, upR_snoc p _ y (i / 2), upR, Nat.div_div_eq_div_mul, ← Nat.pow_succ', List.length_cons]
theorem half_lt {i h k : Nat} (hi : i < 2 ^ h) (hk : k < h) : i / 2 ^ k < 2 ^ (h - k) := by
  rw [Nat.div_lt_iff_lt_mul (Nat.pow_pos (by omega)), ← Nat.pow_add, Nat.sub_add_cancel (by omega)]; exact hi
theorem half_next (i k : Nat) : ((i / 2 ^ k : Nat) : Int) / 2 = ((i / 2 ^ (k + 1) : Nat) : Int) := by
  rw [Nat.pow_succ, ← Nat.div_div_eq_div_mul]; omega
def upPre (leaf : ByteArray) (i : Nat) (p : List ByteArray) (k : Nat) : ByteArray := upR leaf i (p.take k)
theorem upPre_next (leaf : ByteArray) (i : Nat) (p : List ByteArray) (k : Nat) (hk : k < p.length) : upPre leaf i p (k + 1) = if (i / 2 ^ k) % 2 = 0 then nodeB (upPre leaf i p k) p[k] else nodeB p[k] (upPre leaf i p k) := by
  unfold upPre
  rw [List.take_succ_eq_append_getElem hk, upR_snoc, List.length_take, Nat.min_eq_left (by omega)]
theorem upPre_size (leaf : ByteArray) (i : Nat) (p : List ByteArray) (hl : leaf.size = 16) : ∀ k, k ≤ p.length → (upPre leaf i p k).size = 16
  | 0, _ => hl
  | k + 1, hk => by
    rw [upPre_next leaf i p k (by omega)]
    split <;> exact tagB_size _ _
set_option maxRecDepth 100000 in
set_option maxHeartbeats 1000000 in
theorem mup_any (leaf : ByteArray) (i : Nat) (v : Value) (p : List ByteArray) (w : World) (hleaf : leaf.size = 16) (hp : p.length ≤ 4) (hi : i < 2 ^ p.length) (ha : ∀ x ∈ p, x.size = 16) (hs : SR w v p) :
    Calls Tryz.prog 95 #[.string leaf, .int .i64 i, v] w fun e w' => e = .returned (.tuple #[.string (topB p.length (upR leaf i p)), .int .i64 0]) ∧ Below w.heap.size w w' := by
  obtain ⟨Al, cl, rfl⟩ := hs.form
  obtain ⟨p1, p2⟩ := pow_le16 p.length hp
  have g1 : decide ((4 : Int) < p.length) = false := decide_eq_false (by omega)
  have g2 : decide ((i : Int) < 0) = false := decide_eq_false (by omega)
  have gw : wrap64 ((2 : Int) ^ p.length) = ((2 ^ p.length : Nat) : Int) := by
    rw [show ((2 : Int) ^ p.length) = ((2 ^ p.length : Nat) : Int) by simp]
    exact IntWalk.wrap64_in _ ⟨by omega, by omega⟩
  have g3 : decide (wrap64 ((2 : Int) ^ p.length) ≤ (i : Int)) = false := by rw [gw]; exact decide_eq_false (by omega)
  clear gw
  have HI := Lib.hid hi
  have HA := Lib.hid ha
  have HS := Lib.hid hs
  have HLF := Lib.hid hleaf
  have HP2 := Lib.hid p2
  clear hi ha hs p2 p1 hleaf
  go_enter Tryz.func95, Tryz.ntmps95
  go_wp2_with fail
  refine (odd_no leaf _ HLF.out).mono ?_
  rintro e w1 ⟨rfl, rfl⟩
  go_wp2_with fail
  refine (hasOdd_any _ p _ HS.out HA.out (by omega)).mono ?_
  rintro e w1 ⟨rfl, rfl⟩
  go_wp2_with fail
  go_loopw [1, 8, 36] (fun ii x k wr => ∃ m : Nat, m ≤ p.length ∧ k = .int .i64 m ∧ ii = .int .i64 (i / 2 ^ m : Nat) ∧ x = .string (upPre leaf i p m) ∧ Hid (Below w.heap.size w wr)) (fun _ _ k _ => p.length - (intOf k).toNat)
  case atStart => exact ⟨0, by omega, rfl, by rw [Nat.pow_zero, Nat.div_one], rfl, Below.refl _ _⟩
  case round =>
    obtain ⟨m, hm, rfl, rfl, rfl, HB⟩ := hrel
    have hz := upPre_size leaf i p HLF.out m hm
    have hzr := HB.out.size
    by_cases hmp : m < p.length
    · have HSr := Lib.hid ((KS.of_below HB.out (Nat.le_refl _)).sr HS.out)
      obtain ⟨g, rfl, _, _, hc⟩ := HSr.out.cell hmp
      have hy := HA.out _ (List.getElem_mem hmp)
      have HN := Lib.hid (upPre_next leaf i p m hmp)
      have hlt := half_lt HI.out hmp
      have hp16 : 2 ^ (p.length - m) ≤ 16 := (pow_le16 (p.length - m) (by omega)).2
      have ha1 := and1 (i / 2 ^ m) (by omega)
      have hhn := Lib.hid (half_next i m)
      generalize p[m] = y at hc hy HN
      generalize upPre leaf i p m = x at hz HN
      have hxz : x.size ≤ 1000000 := by omega
      have hyz : y.size ≤ 1000000 := by omega
      clear hz hy
      by_cases hev : (i / 2 ^ m) % 2 = 0
      · rw [if_pos hev] at HN
        rw [hev] at ha1
        have ha2 : (bits .and .i64 ((i / 2 ^ m : Nat) : Int) 1 == 0) = true := by rw [ha1]; rfl
        clear ha1 hev hlt hp16
        generalize i / 2 ^ m = ik at ha2 hhn
        go_wp2_with fail
        refine (node_any x y _ hxz hyz).mono ?_
        rintro e w2 ⟨rfl, hb2⟩
        go_wp2_with fail
        go_roundw
        case rel => exact ⟨m + 1, by omega, by go_num, congrArg (Value.int .i64) hhn.out, by rw [HN.out], HB.out.trans (hb2.mono hzr)⟩
        case measure => simp [intOf]; omega
      · rw [if_neg hev] at HN
        have hev1 : (i / 2 ^ m) % 2 = 1 := by omega
        rw [hev1] at ha1
        have ha2 : (bits .and .i64 ((i / 2 ^ m : Nat) : Int) 1 == 0) = false := by rw [ha1]; rfl
        clear ha1 hev hev1 hlt hp16
        generalize i / 2 ^ m = ik at ha2 hhn
        go_wp2_with fail
        refine (node_any y x _ hyz hxz).mono ?_
        rintro e w2 ⟨rfl, hb2⟩
        go_wp2_with fail
        go_roundw
        case rel => exact ⟨m + 1, by omega, by go_num, congrArg (Value.int .i64) hhn.out, by rw [HN.out], HB.out.trans (hb2.mono hzr)⟩
        case measure => simp [intOf]; omega
    · obtain rfl : m = p.length := by omega
      have HF : Hid (upPre leaf i p p.length = upR leaf i p) := by show _ = _; rw [upPre, List.take_length]
      have hxz : (upPre leaf i p p.length).size ≤ 1000000 := by omega
      clear hz
      generalize upPre leaf i p p.length = x at HF hxz
      go_wp2_with fail
      refine (topped_any p.length x _ (by omega) hxz).mono ?_
      rintro e w2 ⟨rfl, hb2⟩
      go_wp2_with fail
      go_ret2
      exact ⟨by rw [← HF.out]; rfl, HB.out.trans (hb2.mono hzr)⟩
end Go.Proofs.YtjcinncphffgaaaGreat
namespace Go.Proofs.YtjcinncphffgaaaGreat
open Go.RowKit
end Go.Proofs.YtjcinncphffgaaaGreat
namespace Go.Proofs.YtjcinncphffgaaaGreat
open Go.RowKit
end Go.Proofs.YtjcinncphffgaaaGreat
namespace Go.Proofs.YtjcinncphffgaaaGreat
open Go.RowKit
theorem toList_beq (s t : ByteArray) : (s.toList == t.toList) = decide (s = t) := by
  rw [Bool.eq_iff_iff, beq_iff_eq, decide_eq_true_eq]
  constructor
  · intro h
    exact ba_ext' (by rw [← Lib.toList_data, ← Lib.toList_data, h])
  · rintro rfl; rfl
theorem atB_at (s : ByteArray) (h : 0 < s.size) : (s[0].toNat : Int) = (atB s 0 : Int) := by
  unfold atB
  rw [List.getD_eq_getElem?_getD, List.getElem?_eq_getElem (by simpa using h)]
  rfl
theorem atB_lt (s : ByteArray) (i : Nat) : atB s i < 256 := UInt8.toNat_lt _
set_option maxRecDepth 100000 in
set_option maxHeartbeats 1000000 in
theorem leaf_a (sig : ByteArray) (w : World) (h : sig.size < 289) :
    Calls Tryz.prog 91 #[.string sig] w fun e w' => e = .returned (.tuple #[.int .i64 0, .int .i64 4]) ∧ ∃ n, w' = w.drewN n := by
  have g1 : decide ((sig.size : Int) - 288 - 1 < 0) = true := decide_eq_true (by omega)
  go_enter Tryz.func91, Tryz.ntmps91
  go_wp2_with fail
  go_quiet (fail)
  go_wp2_with fail
  go_ret2
  exact ⟨rfl, _, rfl⟩
set_option maxRecDepth 100000 in
set_option maxHeartbeats 1000000 in
theorem leaf_e (sig : ByteArray) (w : World) (n : Nat) (h : sig.size = 289 + 16 * n) (hn : n ≤ 4) (hb : atB sig 0 < 2 ^ n) :
    Calls Tryz.prog 91 #[.string sig] w fun e w' => e = .returned (.tuple #[.int .i64 (atB sig 0), .int .i64 0]) ∧ ∃ n, w' = w.drewN n := by
  have hz : sig.size ≤ 1000 := by omega
  have hz0 : 0 < sig.size := by omega
  have g1 : decide ((sig.size : Int) - 288 - 1 < 0) = false := decide_eq_false (by omega)
  have g2 : decide (0 < ((sig.size : Int) - 288 - 1) % 16) = false := decide_eq_false (by omega)
  have g3 : decide (64 < (sig.size : Int) - 288 - 1) = false := decide_eq_false (by omega)
  have h16 : ((sig.size : Int) - 288 - 1) / 16 = n := by omega
  have hge : 0 ≤ (sig.size : Int) - 288 - 1 := by omega
  have e1 : wrap64 ((2 : Int) ^ n) = ((2 ^ n : Nat) : Int) := by
    rw [show ((2 : Int) ^ n) = ((2 ^ n : Nat) : Int) by simp]
    obtain ⟨q1, q2⟩ := pow_le16 n hn
    exact IntWalk.wrap64_in _ ⟨by omega, by omega⟩
  have e2 : wrap64 (sig[0].toNat : Int) = atB sig 0 := by
    rw [atB_at sig hz0]
    have := atB_lt sig 0
    exact IntWalk.wrap64_in _ ⟨by omega, by omega⟩
  have g4 : decide (wrap64 ((2 : Int) ^ n) ≤ wrap64 (sig[0].toNat : Int)) = false := by rw [e1, e2]; exact decide_eq_false (by omega)
  have E2 := Lib.hid e2
  clear h e1 e2 hb
  go_enter Tryz.func91, Tryz.ntmps91
  go_wp2_with fail
  go_quiet (fail)
  go_wp2_with fail
  go_ret2
  exact ⟨ret_ii E2.out rfl, _, rfl⟩
set_option maxRecDepth 100000 in
set_option maxHeartbeats 1000000 in
theorem leaf_b (sig : ByteArray) (w : World) (hz : sig.size ≤ 1000000) (h1 : 289 ≤ sig.size) (h : (sig.size - 289) % 16 ≠ 0) :
    Calls Tryz.prog 91 #[.string sig] w fun e w' => e = .returned (.tuple #[.int .i64 0, .int .i64 4]) ∧ ∃ n, w' = w.drewN n := by
  have g1 : decide ((sig.size : Int) - 288 - 1 < 0) = false := decide_eq_false (by omega)
  have g2 : decide (0 < ((sig.size : Int) - 288 - 1) % 16) = true := decide_eq_true (by omega)
  have hge : 0 ≤ (sig.size : Int) - 288 - 1 := by omega
  clear h
  go_enter Tryz.func91, Tryz.ntmps91
  go_wp2_with fail
  go_quiet (fail)
  go_wp2_with fail
  go_ret2
  exact ⟨rfl, _, rfl⟩
set_option maxRecDepth 100000 in
set_option maxHeartbeats 1000000 in
theorem leaf_c (sig : ByteArray) (w : World) (hz : sig.size ≤ 1000000) (h1 : 289 ≤ sig.size) (h : (sig.size - 289) % 16 = 0) (h2 : 64 < sig.size - 289) :
    Calls Tryz.prog 91 #[.string sig] w fun e w' => e = .returned (.tuple #[.int .i64 0, .int .i64 4]) ∧ ∃ n, w' = w.drewN n := by
  have g1 : decide ((sig.size : Int) - 288 - 1 < 0) = false := decide_eq_false (by omega)
  have g2 : decide (0 < ((sig.size : Int) - 288 - 1) % 16) = false := decide_eq_false (by omega)
  have g3 : decide (64 < (sig.size : Int) - 288 - 1) = true := decide_eq_true (by omega)
  have hge : 0 ≤ (sig.size : Int) - 288 - 1 := by omega
  clear h
  go_enter Tryz.func91, Tryz.ntmps91
  go_wp2_with fail
  go_quiet (fail)
  go_wp2_with fail
  go_ret2
  exact ⟨rfl, _, rfl⟩
set_option maxRecDepth 100000 in
set_option maxHeartbeats 1000000 in
theorem leaf_d (sig : ByteArray) (w : World) (n : Nat) (h : sig.size = 289 + 16 * n) (hn : n ≤ 4) (hb : ¬ atB sig 0 < 2 ^ n) :
    Calls Tryz.prog 91 #[.string sig] w fun e w' => e = .returned (.tuple #[.int .i64 0, .int .i64 4]) ∧ ∃ n, w' = w.drewN n := by
  have hz : sig.size ≤ 1000 := by omega
  have hz0 : 0 < sig.size := by omega
  have g1 : decide ((sig.size : Int) - 288 - 1 < 0) = false := decide_eq_false (by omega)
  have g2 : decide (0 < ((sig.size : Int) - 288 - 1) % 16) = false := decide_eq_false (by omega)
  have g3 : decide (64 < (sig.size : Int) - 288 - 1) = false := decide_eq_false (by omega)
  have h16 : ((sig.size : Int) - 288 - 1) / 16 = n := by omega
  have hge : 0 ≤ (sig.size : Int) - 288 - 1 := by omega
  have e1 : wrap64 ((2 : Int) ^ n) = ((2 ^ n : Nat) : Int) := by
    rw [show ((2 : Int) ^ n) = ((2 ^ n : Nat) : Int) by simp]
    obtain ⟨q1, q2⟩ := pow_le16 n hn
    exact IntWalk.wrap64_in _ ⟨by omega, by omega⟩
  have e2 : wrap64 (sig[0].toNat : Int) = atB sig 0 := by
    rw [atB_at sig hz0]
    have := atB_lt sig 0
    exact IntWalk.wrap64_in _ ⟨by omega, by omega⟩
  have g4 : decide (wrap64 ((2 : Int) ^ n) ≤ wrap64 (sig[0].toNat : Int)) = true := by rw [e1, e2]; exact decide_eq_true (by omega)
  clear h e1 e2 hb
  go_enter Tryz.func91, Tryz.ntmps91
  go_wp2_with fail
  go_quiet (fail)
  go_wp2_with fail
  go_ret2
  exact ⟨rfl, _, rfl⟩
theorem leafOk_form {sig : ByteArray} (h : leafOk sig = true) : ∃ n, n ≤ 4 ∧ sig.size = 289 + 16 * n ∧ atB sig 0 < 2 ^ n := by
  unfold leafOk at h
  simp only [Bool.and_eq_true, decide_eq_true_eq] at h
  obtain ⟨⟨⟨h1, h2⟩, h3⟩, h4⟩ := h
  exact ⟨(sig.size - 289) / 16, by omega, by omega, h4⟩
theorem leaf_no (sig : ByteArray) (w : World) (hz : sig.size ≤ 1000000) (h : leafOk sig = false) :
    Calls Tryz.prog 91 #[.string sig] w fun e w' => e = .returned (.tuple #[.int .i64 0, .int .i64 4]) ∧ ∃ n, w' = w.drewN n := by
  by_cases h1 : 289 ≤ sig.size
  · by_cases h2 : (sig.size - 289) % 16 = 0
    · by_cases h3 : sig.size - 289 ≤ 64
      · refine leaf_d sig w ((sig.size - 289) / 16) (by omega) (by omega) (fun h4 => ?_)
        unfold leafOk at h
        simp [h1, h2, h3, h4] at h
      · exact leaf_c sig w hz h1 h2 (by omega)
    · exact leaf_b sig w hz h1 h2
  · exact leaf_a sig w (by omega)
theorem odd_yes (s : ByteArray) (w : World) (hs : s.size ≠ 16) : Calls Tryz.prog 92 #[.string s] w fun e w' => e = .returned (.bool true) ∧ w = w' := by
  have h1 : ((s.size : Int) != 16) = true := by rw [bne_iff_ne]; omega
  clear hs
  go_enter Tryz.func92, Tryz.ntmps92
  go_wp2_with fail
  go_ret
  exact ⟨rfl, rfl⟩
theorem pieces_next (s : ByteArray) (at_ k : Nat) : (pieces s at_ (k + 1)).map Value.string = (pieces s at_ k).map Value.string ++ [.string (s.extract (at_ + 16 * k) (at_ + 16 * k + 16))] := by
  rw [pieces, List.map_append]; rfl
theorem pieces_length (s : ByteArray) (at_ : Nat) : ∀ n, (pieces s at_ n).length = n
  | 0 => rfl
  | n + 1 => by rw [pieces, List.length_append, pieces_length s at_ n]; rfl
theorem pieces_all (s : ByteArray) (at_ : Nat) : ∀ n, at_ + 16 * n ≤ s.size → ∀ x ∈ pieces s at_ n, x.size = 16
  | 0, _, x, hx => by simp [pieces] at hx
  | n + 1, h, x, hx => by
    rw [pieces, List.mem_append] at hx
    rcases hx with hx | hx
    · exact pieces_all s at_ n (by omega) x hx
    · simp at hx; subst hx
      rw [ByteArray.size_extract]; omega
set_option maxRecDepth 100000 in
set_option maxHeartbeats 1000000 in
theorem verify_a (root msg sig : ByteArray) (w : World) (hz : sig.size ≤ 1000000) (h : leafOk sig = false) :
    Calls Tryz.prog 26 #[.string root, .string msg, .string sig] w fun e w' => e = .returned (.bool false) ∧ Below w.heap.size w w' := by
  go_enter Tryz.func26, Tryz.ntmps26
  go_wp2_with fail
  refine (leaf_no sig _ hz h).mono ?_
  rintro e w1 ⟨rfl, n, rfl⟩
  go_wp2_with fail
  go_ret
  exact ⟨rfl, below_drewN (Below.refl _ _) n⟩
set_option maxRecDepth 100000 in
set_option maxHeartbeats 1000000 in
theorem verify_b (root msg sig : ByteArray) (w : World) (n : Nat) (h : sig.size = 289 + 16 * n) (hn : n ≤ 4) (hb : atB sig 0 < 2 ^ n) (hr : root.size ≠ 16) :
    Calls Tryz.prog 26 #[.string root, .string msg, .string sig] w fun e w' => e = .returned (.bool false) ∧ Below w.heap.size w w' := by
  go_enter Tryz.func26, Tryz.ntmps26
  go_wp2_with fail
  refine (leaf_e sig _ n h hn hb).mono ?_
  rintro e w1 ⟨rfl, q, rfl⟩
  clear h
  go_wp2_with fail
  refine (odd_yes root _ hr).mono ?_
  rintro e w1 ⟨rfl, rfl⟩
  go_wp2_with fail
  go_ret
  exact ⟨rfl, below_drewN (Below.refl _ _) q⟩
set_option maxRecDepth 100000 in
set_option maxHeartbeats 2000000 in
theorem verify_c (root msg sig : ByteArray) (w : World) (n : Nat) (h : sig.size = 289 + 16 * n) (hn : n ≤ 4) (hb : atB sig 0 < 2 ^ n) (hr : root.size = 16) (hm : msg.size ≤ 900000) :
    Calls Tryz.prog 26 #[.string root, .string msg, .string sig] w fun e w' => e = .returned (.bool (decide (topB n (upR (fromB (aboutB root (atB sig 0) msg) (sig.extract 1 289)) (atB sig 0) (pieces sig 289 n)) = root))) ∧ Below w.heap.size w w' := by
  have HH := Lib.hid h
  have HR := Lib.hid hr
  have HB := Lib.hid hb
  have hz : sig.size ≤ 1000 := by omega
  obtain ⟨j0, hj, hy0, hy1, hy2⟩ := info_parts Tryz.infoStr
  have Hy := Lib.hid hy0
  have p16 := (pow_le16 n hn).2
  have hat : atB sig 0 < 16 := by omega
  clear hy0 h hr hb p16
  go_enter Tryz.func26, Tryz.ntmps26
  go_wp2_with fail
  refine (leaf_e sig _ n HH.out hn HB.out).mono ?_
  rintro e w1 ⟨rfl, q, rfl⟩
  go_wp2_with fail
  refine (odd_no root _ HR.out).mono ?_
  rintro e w1 ⟨rfl, rfl⟩
  have HW1 := Lib.hid (below_drewN (Below.refl w.heap.size w) q)
  generalize w.drewN q = w1 at HW1 ⊢
  go_wp2_with fail
  go_loopw [9, 10] (fun p a wr => ∃ k : Nat, k ≤ n ∧ a = .int .i64 (289 + 16 * (k : Int)) ∧ Hid (wr.ownsRow w1.heap.size 9 1 p k ((pieces sig 289 k).map Value.string)) ∧ Hid (Below w1.heap.size w1 wr)) (fun _ a _ => sig.size - (intOf a).toNat)
  case atStart => exact ⟨0, by omega, rfl, World.ownsRow_nil _ _ _ _, Below.refl _ _⟩
  case round =>
    obtain ⟨k, hk, rfl, HO, HBr⟩ := hrel
    obtain ⟨An, cn, rfl⟩ := own_form HO.out
    have hzr := HBr.out.size
    by_cases hkn : k < n
    · have hs1 : 289 + 16 * k + 16 ≤ sig.size := by rw [HH.out]; omega
      have g1 : decide (289 + 16 * (k : Int) < sig.size) = true := decide_eq_true (by omega)
      have HT := Lib.hid (pieces_next sig 289 k)
      have b1 : 289 + 16 * (k : Int) + 16 ≤ sig.size := by omega
      have t1 : (289 + 16 * (k : Int)).toNat = 289 + 16 * k := by omega
      have t2 : (289 + 16 * (k : Int) + 16).toNat = 289 + 16 * k + 16 := by omega
      go_wp2_with (first | (at_builtin; go_must (refine wpList_append_own _ rfl (.tmp 31) (.tmp 37) _ rfl w1.heap.size 9 j0 _ 1 16 Tryz.underlying66 hj Hy.out hy1 hy2 rfl (by decide) _ k _ rfl (HO.out.alloc _) ⟨wr.heap.size, 0, none⟩ 1 1 [.string (sig.extract (289 + 16 * k) (289 + 16 * k + 16))] rfl rfl (news_alloc _ _ _ _ _ rfl rfl) (one_str _) (by simp only [maxLen]; omega) (by omega) (by simp; omega) ?_); intro v' w2 hown1 hg1 _))
      obtain ⟨A3, c3, rfl⟩ := own_form hown1
      go_roundw
      case rel =>
        refine ⟨k + 1, by omega, congrArg (Value.int .i64) (by omega), ?_, (HBr.out.alloc hzr _).grown hg1 (by simp; omega) (fun r hr => (HO.out.lt r hr).1)⟩
        show World.ownsRow _ _ _ _ _ _ _
        rw [HT.out]
        exact hown1
      case measure => simp [intOf]; omega
    · obtain rfl : k = n := by omega
      have hs1 : decide (289 + 16 * (k : Int) < sig.size) = false := by rw [HH.out]; exact decide_eq_false (by omega)
      have HSP : Hid (SR wr (.slice An k cn) (pieces sig 289 k)) := by
        show World.ownsRow _ _ _ _ _ _ _
        rw [pieces_length]
        exact World.ownsRow.mono (base' := 0) (show wr.ownsRow w1.heap.size 9 1 (.slice An k cn) k ((pieces sig 289 k).map Value.string) from HO.out) (by omega)
      have HAZ : Hid ((aboutB root (atB sig 0) msg).size ≤ 1000000) := by show _ ≤ _; rw [aboutB, ByteArray.size_append, ByteArray.size_append, HR.out, oneB_size]; omega
      have HSX : Hid ((sig.extract 1 289).size = 288) := by show _ = _; rw [ByteArray.size_extract, HH.out]; omega
      have hrz : root.size ≤ 1000000 := by rw [HR.out]; omega
      have h289 : (289 : Int) ≤ sig.size := by rw [HH.out]; omega
      go_wp2_with fail
      go_region_held3 (fun _ => True) (trivial)
        ((first
          | (go_at_call 94; refine (about_any root msg (atB sig 0) _ (by omega) hrz (by omega)).mono ?_; rintro e wa ⟨rfl, hb⟩; have HA : Hid (Below wr.heap.size wr wa) := ((Below.refl wr.heap.size wr).drew).trans hb; have hza := HA.out.size; clear hb)
          | (go_at_call 93; refine (wfrom_any (aboutB root (atB sig 0) msg) (sig.extract 1 289) _ HSX.out HAZ.out).mono ?_; rintro e wb ⟨rfl, hb⟩; have HBB : Hid (Below wr.heap.size wr wb) := HA.out.trans (hb.mono hza); have hzb := HBB.out.size; clear hb)))
      have HSPb := Lib.hid ((KS.of_below HBB.out (Nat.le_refl _)).sr HSP.out)
      have HPA := Lib.hid (pieces_all sig 289 k (by rw [HH.out]; exact Nat.le_refl _))
      have HPL := Lib.hid (pieces_length sig 289 k)
      have hfz : (fromB (aboutB root (atB sig 0) msg) (sig.extract 1 289)).size = 16 := tagB_size _ _
      have HFZ := Lib.hid hfz
      have HWB := Lib.hid ((HW1.out.trans (HBr.out.mono HW1.out.size)).trans (HBB.out.mono (by have := HW1.out.size; omega)))
      clear hfz hs1 h289
      generalize hle : fromB (aboutB root (atB sig 0) msg) (sig.extract 1 289) = lf at HFZ ⊢
      have HLE := Lib.hid hle
      clear hle
      generalize hpl : pieces sig 289 k = pl at HSPb HPA HPL
      have HPE := Lib.hid hpl
      clear hpl
      have hup : Hid (∀ w : World, SR w (.slice An k cn) pl → Calls Tryz.prog 95 #[.string lf, .int .i64 (atB sig 0), .slice An k cn] w fun e w' => e = .returned (.tuple #[.string (topB k (upR lf (atB sig 0) pl)), .int .i64 0]) ∧ Below w.heap.size w w') := fun w hs => by
        have := mup_any lf (atB sig 0) (.slice An k cn) pl w HFZ.out (by rw [HPL.out]; exact hn) (by rw [HPL.out]; exact HB.out) HPA.out hs
        rwa [HPL.out] at this
      go_wp2_with fail
      refine (hup.out _ HSPb.out).mono ?_
      rintro e wu ⟨rfl, hbu⟩
      have HWU := Lib.hid (HWB.out.trans (hbu.mono HWB.out.size))
      clear hbu
      generalize htp : topB k (upR lf (atB sig 0) pl) = tp
      have HTP := Lib.hid htp
      clear htp
      go_wp2_with fail
      go_ret
      exact ⟨ret_bool (by rw [HPE.out, HLE.out, HTP.out, toList_beq]), HWU.out⟩
/-- WHAT VERIFY ANSWERS, WHATEVER IT IS GIVEN. -/
theorem verify_any (root msg sig : ByteArray) (w : World) (hz : sig.size ≤ 1000000) (hm : msg.size ≤ 900000) :
    Calls Tryz.prog 26 #[.string root, .string msg, .string sig] w fun e w' => e = .returned (.bool (verB root msg sig)) ∧ Below w.heap.size w w' := by
  cases hl : leafOk sig with
  | false =>
    refine (verify_a root msg sig w hz hl).mono ?_
    rintro e w' ⟨rfl, hb⟩
    exact ⟨ret_bool (by simp [verB, hl]), hb⟩
  | true =>
    obtain ⟨n, hn, hs, hb⟩ := leafOk_form hl
    have hq : (sig.size - 289) / 16 = n := by omega
    by_cases hr : root.size = 16
    · refine (verify_c root msg sig w n hs hn hb hr hm).mono ?_
      rintro e w' ⟨rfl, hb⟩
      exact ⟨ret_bool (by rw [verB, hl, hq, decide_eq_true hr]; simp), hb⟩
    · refine (verify_b root msg sig w n hs hn hb hr).mono ?_
      rintro e w' ⟨rfl, hb⟩
      exact ⟨ret_bool (by rw [verB, decide_eq_false hr]; simp), hb⟩
end Go.Proofs.YtjcinncphffgaaaGreat
