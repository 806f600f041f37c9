/- merkle.Leaf, Verify. note.Text, Signed. note.Signed. payword: Next, New$1, walk. -/
import Derived.Outline
import Derived.Laws.MakeOwn
import Derived.Test.YtdoebmikjgmnaaaGreatMgG04
import Derived.Test.YtdoebmikjgmnaaaGreatMgG06
import Derived.Test.YtdoebmikjgmnaaaGreatMgG09
set_option linter.unusedVariables false
set_option linter.unusedSimpArgs false
namespace Go.Proofs.YtdoebmikjgmnaaaGreat
open Go.RowKit
theorem toList_beq (s t : ByteArray) : (s.toList == t.toList) = decide (s = t) := by
  rw [Bool.eq_iff_iff, beq_iff_eq, decide_eq_true_eq]
  constructor
  · intro h
    exact ba_ext' (by rw [← Lib.toList_data, ← Lib.toList_data, h])
  · rintro rfl; rfl
theorem atB_at (s : ByteArray) (h : 0 < s.size) : (s[0].toNat : Int) = (atB s 0 : Int) := by
  unfold atB
  rw [List.getD_eq_getElem?_getD, List.getElem?_eq_getElem (by simpa using h)]
  rfl
theorem atB_lt (s : ByteArray) (i : Nat) : atB s i < 256 := UInt8.toNat_lt _
set_option maxRecDepth 100000 in
set_option maxHeartbeats 1000000 in
theorem leaf_a (sig : ByteArray) (w : World) (h : sig.size < 289) :
    Calls Tryz.prog 117 #[.string sig] w fun e w' => e = .returned (.tuple #[.int .i64 0, .int .i64 4]) ∧ ∃ n, w' = w.drewN n := by
  have g1 : decide ((sig.size : Int) - 288 - 1 < 0) = true := decide_eq_true (by omega)
  go_enter Tryz.func117, Tryz.ntmps117
  go_wp2_with fail
  go_quiet (fail)
  go_wp2_with fail
  go_ret2
  exact ⟨rfl, _, rfl⟩
set_option maxRecDepth 100000 in
set_option maxHeartbeats 1000000 in
theorem leaf_e (sig : ByteArray) (w : World) (n : Nat) (h : sig.size = 289 + 16 * n) (hn : n ≤ 4) (hb : atB sig 0 < 2 ^ n) :
    Calls Tryz.prog 117 #[.string sig] w fun e w' => e = .returned (.tuple #[.int .i64 (atB sig 0), .int .i64 0]) ∧ ∃ n, w' = w.drewN n := by
  have hz : sig.size ≤ 1000 := by omega
  have hz0 : 0 < sig.size := by omega
  have g1 : decide ((sig.size : Int) - 288 - 1 < 0) = false := decide_eq_false (by omega)
  have g2 : decide (0 < ((sig.size : Int) - 288 - 1) % 16) = false := decide_eq_false (by omega)
  have g3 : decide (64 < (sig.size : Int) - 288 - 1) = false := decide_eq_false (by omega)
  have h16 : ((sig.size : Int) - 288 - 1) / 16 = n := by omega
  have hge : 0 ≤ (sig.size : Int) - 288 - 1 := by omega
  have e1 : wrap64 ((2 : Int) ^ n) = ((2 ^ n : Nat) : Int) := by
    rw [show ((2 : Int) ^ n) = ((2 ^ n : Nat) : Int) by simp]
    obtain ⟨q1, q2⟩ := pow_le16 n hn
    exact IntWalk.wrap64_in _ ⟨by omega, by omega⟩
  have e2 : wrap64 (sig[0].toNat : Int) = atB sig 0 := by
    rw [atB_at sig hz0]
    have := atB_lt sig 0
    exact IntWalk.wrap64_in _ ⟨by omega, by omega⟩
  have g4 : decide (wrap64 ((2 : Int) ^ n) ≤ wrap64 (sig[0].toNat : Int)) = false := by rw [e1, e2]; exact decide_eq_false (by omega)
  have E2 := Lib.hid e2
  clear h e1 e2 hb
  go_enter Tryz.func117, Tryz.ntmps117
  go_wp2_with fail
  go_quiet (fail)
  go_wp2_with fail
  go_ret2
  exact ⟨ret_ii E2.out rfl, _, rfl⟩
set_option maxRecDepth 100000 in
set_option maxHeartbeats 1000000 in
theorem leaf_b (sig : ByteArray) (w : World) (hz : sig.size ≤ 1000000) (h1 : 289 ≤ sig.size) (h : (sig.size - 289) % 16 ≠ 0) :
    Calls Tryz.prog 117 #[.string sig] w fun e w' => e = .returned (.tuple #[.int .i64 0, .int .i64 4]) ∧ ∃ n, w' = w.drewN n := by
  have g1 : decide ((sig.size : Int) - 288 - 1 < 0) = false := decide_eq_false (by omega)
  have g2 : decide (0 < ((sig.size : Int) - 288 - 1) % 16) = true := decide_eq_true (by omega)
  have hge : 0 ≤ (sig.size : Int) - 288 - 1 := by omega
  clear h
  go_enter Tryz.func117, Tryz.ntmps117
  go_wp2_with fail
  go_quiet (fail)
  go_wp2_with fail
  go_ret2
  exact ⟨rfl, _, rfl⟩
set_option maxRecDepth 100000 in
set_option maxHeartbeats 1000000 in
theorem leaf_c (sig : ByteArray) (w : World) (hz : sig.size ≤ 1000000) (h1 : 289 ≤ sig.size) (h : (sig.size - 289) % 16 = 0) (h2 : 64 < sig.size - 289) :
    Calls Tryz.prog 117 #[.string sig] w fun e w' => e = .returned (.tuple #[.int .i64 0, .int .i64 4]) ∧ ∃ n, w' = w.drewN n := by
  have g1 : decide ((sig.size : Int) - 288 - 1 < 0) = false := decide_eq_false (by omega)
  have g2 : decide (0 < ((sig.size : Int) - 288 - 1) % 16) = false := decide_eq_false (by omega)
  have g3 : decide (64 < (sig.size : Int) - 288 - 1) = true := decide_eq_true (by omega)
  have hge : 0 ≤ (sig.size : Int) - 288 - 1 := by omega
  clear h
  go_enter Tryz.func117, Tryz.ntmps117
  go_wp2_with fail
  go_quiet (fail)
  go_wp2_with fail
  go_ret2
  exact ⟨rfl, _, rfl⟩
set_option maxRecDepth 100000 in
set_option maxHeartbeats 1000000 in
theorem leaf_d (sig : ByteArray) (w : World) (n : Nat) (h : sig.size = 289 + 16 * n) (hn : n ≤ 4) (hb : ¬ atB sig 0 < 2 ^ n) :
    Calls Tryz.prog 117 #[.string sig] w fun e w' => e = .returned (.tuple #[.int .i64 0, .int .i64 4]) ∧ ∃ n, w' = w.drewN n := by
  have hz : sig.size ≤ 1000 := by omega
  have hz0 : 0 < sig.size := by omega
  have g1 : decide ((sig.size : Int) - 288 - 1 < 0) = false := decide_eq_false (by omega)
  have g2 : decide (0 < ((sig.size : Int) - 288 - 1) % 16) = false := decide_eq_false (by omega)
  have g3 : decide (64 < (sig.size : Int) - 288 - 1) = false := decide_eq_false (by omega)
  have h16 : ((sig.size : Int) - 288 - 1) / 16 = n := by omega
  have hge : 0 ≤ (sig.size : Int) - 288 - 1 := by omega
  have e1 : wrap64 ((2 : Int) ^ n) = ((2 ^ n : Nat) : Int) := by
    rw [show ((2 : Int) ^ n) = ((2 ^ n : Nat) : Int) by simp]
    obtain ⟨q1, q2⟩ := pow_le16 n hn
    exact IntWalk.wrap64_in _ ⟨by omega, by omega⟩
  have e2 : wrap64 (sig[0].toNat : Int) = atB sig 0 := by
    rw [atB_at sig hz0]
    have := atB_lt sig 0
    exact IntWalk.wrap64_in _ ⟨by omega, by omega⟩
  have g4 : decide (wrap64 ((2 : Int) ^ n) ≤ wrap64 (sig[0].toNat : Int)) = true := by rw [e1, e2]; exact decide_eq_true (by omega)
  clear h e1 e2 hb
  go_enter Tryz.func117, Tryz.ntmps117
  go_wp2_with fail
  go_quiet (fail)
  go_wp2_with fail
  go_ret2
  exact ⟨rfl, _, rfl⟩
theorem leafOk_form {sig : ByteArray} (h : leafOk sig = true) : ∃ n, n ≤ 4 ∧ sig.size = 289 + 16 * n ∧ atB sig 0 < 2 ^ n := by
  unfold leafOk at h
  simp only [Bool.and_eq_true, decide_eq_true_eq] at h
  obtain ⟨⟨⟨h1, h2⟩, h3⟩, h4⟩ := h
  exact ⟨(sig.size - 289) / 16, by omega, by omega, h4⟩
theorem leaf_no (sig : ByteArray) (w : World) (hz : sig.size ≤ 1000000) (h : leafOk sig = false) :
    Calls Tryz.prog 117 #[.string sig] w fun e w' => e = .returned (.tuple #[.int .i64 0, .int .i64 4]) ∧ ∃ n, w' = w.drewN n := by
  by_cases h1 : 289 ≤ sig.size
  · by_cases h2 : (sig.size - 289) % 16 = 0
    · by_cases h3 : sig.size - 289 ≤ 64
      · refine leaf_d sig w ((sig.size - 289) / 16) (by omega) (by omega) (fun h4 => ?_)
        unfold leafOk at h
        simp [h1, h2, h3, h4] at h
      · exact leaf_c sig w hz h1 h2 (by omega)
    · exact leaf_b sig w hz h1 h2
  · exact leaf_a sig w (by omega)
theorem odd_yes (s : ByteArray) (w : World) (hs : s.size ≠ 16) : Calls Tryz.prog 104 #[.string s] w fun e w' => e = .returned (.bool true) ∧ w = w' := by
  have h1 : ((s.size : Int) != 16) = true := by rw [bne_iff_ne]; omega
  clear hs
  go_enter Tryz.func104, Tryz.ntmps104
  go_wp2_with fail
  go_ret
  exact ⟨rfl, rfl⟩
theorem pieces_next (s : ByteArray) (at_ k : Nat) : (pieces s at_ (k + 1)).map Value.string = (pieces s at_ k).map Value.string ++ [.string (s.extract (at_ + 16 * k) (at_ + 16 * k + 16))] := by
  rw [pieces, List.map_append]; rfl
theorem pieces_length (s : ByteArray) (at_ : Nat) : ∀ n, (pieces s at_ n).length = n
  | 0 => rfl
  | n + 1 => by rw [pieces, List.length_append, pieces_length s at_ n]; rfl
theorem pieces_all (s : ByteArray) (at_ : Nat) : ∀ n, at_ + 16 * n ≤ s.size → ∀ x ∈ pieces s at_ n, x.size = 16
  | 0, _, x, hx => by simp [pieces] at hx
  | n + 1, h, x, hx => by
    rw [pieces, List.mem_append] at hx
    rcases hx with hx | hx
    · exact pieces_all s at_ n (by omega) x hx
    · simp at hx; subst hx
      rw [ByteArray.size_extract]; omega
set_option maxRecDepth 100000 in
set_option maxHeartbeats 1000000 in
theorem verify_a (root msg sig : ByteArray) (w : World) (hz : sig.size ≤ 1000000) (h : leafOk sig = false) :
    Calls Tryz.prog 88 #[.string root, .string msg, .string sig] w fun e w' => e = .returned (.bool false) ∧ Below w.heap.size w w' := by
  go_enter Tryz.func88, Tryz.ntmps88
  go_wp2_with fail
  refine (leaf_no sig _ hz h).mono ?_
  rintro e w1 ⟨rfl, n, rfl⟩
  go_wp2_with fail
  go_ret
  exact ⟨rfl, below_drewN (Below.refl _ _) n⟩
set_option maxRecDepth 100000 in
set_option maxHeartbeats 1000000 in
theorem verify_b (root msg sig : ByteArray) (w : World) (n : Nat) (h : sig.size = 289 + 16 * n) (hn : n ≤ 4) (hb : atB sig 0 < 2 ^ n) (hr : root.size ≠ 16) :
    Calls Tryz.prog 88 #[.string root, .string msg, .string sig] w fun e w' => e = .returned (.bool false) ∧ Below w.heap.size w w' := by
  go_enter Tryz.func88, Tryz.ntmps88
  go_wp2_with fail
  refine (leaf_e sig _ n h hn hb).mono ?_
  rintro e w1 ⟨rfl, q, rfl⟩
  clear h
  go_wp2_with fail
  refine (odd_yes root _ hr).mono ?_
  rintro e w1 ⟨rfl, rfl⟩
  go_wp2_with fail
  go_ret
  exact ⟨rfl, below_drewN (Below.refl _ _) q⟩
set_option maxRecDepth 100000 in
set_option maxHeartbeats 2000000 in
theorem verify_c (root msg sig : ByteArray) (w : World) (n : Nat) (h : sig.size = 289 + 16 * n) (hn : n ≤ 4) (hb : atB sig 0 < 2 ^ n) (hr : root.size = 16) (hm : msg.size ≤ 900000) :
    Calls Tryz.prog 88 #[.string root, .string msg, .string sig] w fun e w' => e = .returned (.bool (decide (topB n (upR (fromB (aboutB root (atB sig 0) msg) (sig.extract 1 289)) (atB sig 0) (pieces sig 289 n)) = root))) ∧ Below w.heap.size w w' := by
  have HH := Lib.hid h
  have HR := Lib.hid hr
  have HB := Lib.hid hb
  have hz : sig.size ≤ 1000 := by omega
  obtain ⟨j0, hj, hy0, hy1, hy2⟩ := info_parts Tryz.infoStr
  have Hy := Lib.hid hy0
  have p16 := (pow_le16 n hn).2
  have hat : atB sig 0 < 16 := by omega
  clear hy0 h hr hb p16
  go_enter Tryz.func88, Tryz.ntmps88
  go_wp2_with fail
  refine (leaf_e sig _ n HH.out hn HB.out).mono ?_
  rintro e w1 ⟨rfl, q, rfl⟩
  go_wp2_with fail
  refine (odd_no root _ HR.out).mono ?_
  rintro e w1 ⟨rfl, rfl⟩
  have HW1 := Lib.hid (below_drewN (Below.refl w.heap.size w) q)
  generalize w.drewN q = w1 at HW1 ⊢
  go_wp2_with fail
  go_loopw [9, 10] (fun p a wr => ∃ k : Nat, k ≤ n ∧ a = .int .i64 (289 + 16 * (k : Int)) ∧ Hid (wr.ownsRow w1.heap.size 9 1 p k ((pieces sig 289 k).map Value.string)) ∧ Hid (Below w1.heap.size w1 wr)) (fun _ a _ => sig.size - (intOf a).toNat)
  case atStart => exact ⟨0, by omega, rfl, World.ownsRow_nil _ _ _ _, Below.refl _ _⟩
  case round =>
    obtain ⟨k, hk, rfl, HO, HBr⟩ := hrel
    obtain ⟨An, cn, rfl⟩ := own_form HO.out
    have hzr := HBr.out.size
    by_cases hkn : k < n
    · have hs1 : 289 + 16 * k + 16 ≤ sig.size := by rw [HH.out]; omega
      have g1 : decide (289 + 16 * (k : Int) < sig.size) = true := decide_eq_true (by omega)
      have HT := Lib.hid (pieces_next sig 289 k)
      have b1 : 289 + 16 * (k : Int) + 16 ≤ sig.size := by omega
      have t1 : (289 + 16 * (k : Int)).toNat = 289 + 16 * k := by omega
      have t2 : (289 + 16 * (k : Int) + 16).toNat = 289 + 16 * k + 16 := by omega
      go_wp2_with (first | (at_builtin; go_must (refine wpList_append_own _ rfl (.tmp 31) (.tmp 37) _ rfl w1.heap.size 9 j0 _ 1 16 Tryz.underlying87 hj Hy.out hy1 hy2 rfl (by decide) _ k _ rfl (HO.out.alloc _) ⟨wr.heap.size, 0, none⟩ 1 1 [.string (sig.extract (289 + 16 * k) (289 + 16 * k + 16))] rfl rfl (news_alloc _ _ _ _ _ rfl rfl) (one_str _) (by simp only [maxLen]; omega) (by omega) (by simp; omega) ?_); intro v' w2 hown1 hg1 _))
      obtain ⟨A3, c3, rfl⟩ := own_form hown1
      go_roundw
      case rel =>
        refine ⟨k + 1, by omega, congrArg (Value.int .i64) (by omega), ?_, (HBr.out.alloc hzr _).grown hg1 (by simp; omega) (fun r hr => (HO.out.lt r hr).1)⟩
        show World.ownsRow _ _ _ _ _ _ _
        rw [HT.out]
        exact hown1
      case measure => simp [intOf]; omega
    · obtain rfl : k = n := by omega
      have hs1 : decide (289 + 16 * (k : Int) < sig.size) = false := by rw [HH.out]; exact decide_eq_false (by omega)
      have HSP : Hid (SR wr (.slice An k cn) (pieces sig 289 k)) := by
        show World.ownsRow _ _ _ _ _ _ _
        rw [pieces_length]
        exact World.ownsRow.mono (base' := 0) (show wr.ownsRow w1.heap.size 9 1 (.slice An k cn) k ((pieces sig 289 k).map Value.string) from HO.out) (by omega)
      have HAZ : Hid ((aboutB root (atB sig 0) msg).size ≤ 1000000) := by show _ ≤ _; rw [aboutB, ByteArray.size_append, ByteArray.size_append, HR.out, oneB_size]; omega
      have HSX : Hid ((sig.extract 1 289).size = 288) := by show _ = _; rw [ByteArray.size_extract, HH.out]; omega
      have hrz : root.size ≤ 1000000 := by rw [HR.out]; omega
      have h289 : (289 : Int) ≤ sig.size := by rw [HH.out]; omega
      go_wp2_with fail
      go_region_held3 (fun _ => True) (trivial)
        ((first
          | (go_at_call 37; refine (about_any root msg (atB sig 0) _ (by omega) hrz (by omega)).mono ?_; rintro e wa ⟨rfl, hb⟩; have HA : Hid (Below wr.heap.size wr wa) := ((Below.refl wr.heap.size wr).drew).trans hb; have hza := HA.out.size; clear hb)
          | (go_at_call 118; refine (wfrom_any (aboutB root (atB sig 0) msg) (sig.extract 1 289) _ HSX.out HAZ.out).mono ?_; rintro e wb ⟨rfl, hb⟩; have HBB : Hid (Below wr.heap.size wr wb) := HA.out.trans (hb.mono hza); have hzb := HBB.out.size; clear hb)))
      have HSPb := Lib.hid ((KS.of_below HBB.out (Nat.le_refl _)).sr HSP.out)
      have HPA := Lib.hid (pieces_all sig 289 k (by rw [HH.out]; exact Nat.le_refl _))
      have HPL := Lib.hid (pieces_length sig 289 k)
      have hfz : (fromB (aboutB root (atB sig 0) msg) (sig.extract 1 289)).size = 16 := tagB_size _ _
      have HFZ := Lib.hid hfz
      have HWB := Lib.hid ((HW1.out.trans (HBr.out.mono HW1.out.size)).trans (HBB.out.mono (by have := HW1.out.size; omega)))
      clear hfz hs1 h289
      generalize hle : fromB (aboutB root (atB sig 0) msg) (sig.extract 1 289) = lf at HFZ ⊢
      have HLE := Lib.hid hle
      clear hle
      generalize hpl : pieces sig 289 k = pl at HSPb HPA HPL
      have HPE := Lib.hid hpl
      clear hpl
      have hup : Hid (∀ w : World, SR w (.slice An k cn) pl → Calls Tryz.prog 119 #[.string lf, .int .i64 (atB sig 0), .slice An k cn] w fun e w' => e = .returned (.tuple #[.string (topB k (upR lf (atB sig 0) pl)), .int .i64 0]) ∧ Below w.heap.size w w') := fun w hs => by
        have := mup_any lf (atB sig 0) (.slice An k cn) pl w HFZ.out (by rw [HPL.out]; exact hn) (by rw [HPL.out]; exact HB.out) HPA.out hs
        rwa [HPL.out] at this
      go_wp2_with fail
      refine (hup.out _ HSPb.out).mono ?_
      rintro e wu ⟨rfl, hbu⟩
      have HWU := Lib.hid (HWB.out.trans (hbu.mono HWB.out.size))
      clear hbu
      generalize htp : topB k (upR lf (atB sig 0) pl) = tp
      have HTP := Lib.hid htp
      clear htp
      go_wp2_with fail
      go_ret
      exact ⟨ret_bool (by rw [HPE.out, HLE.out, HTP.out, toList_beq]), HWU.out⟩
/-- WHAT VERIFY ANSWERS, WHATEVER IT IS GIVEN. -/
theorem verify_any (root msg sig : ByteArray) (w : World) (hz : sig.size ≤ 1000000) (hm : msg.size ≤ 900000) :
    Calls Tryz.prog 88 #[.string root, .string msg, .string sig] w fun e w' => e = .returned (.bool (verB root msg sig)) ∧ Below w.heap.size w w' := by
  cases hl : leafOk sig with
  | false =>
    refine (verify_a root msg sig w hz hl).mono ?_
    rintro e w' ⟨rfl, hb⟩
    exact ⟨ret_bool (by simp [verB, hl]), hb⟩
  | true =>
    obtain ⟨n, hn, hs, hb⟩ := leafOk_form hl
    have hq : (sig.size - 289) / 16 = n := by omega
    by_cases hr : root.size = 16
    · refine (verify_c root msg sig w n hs hn hb hr hm).mono ?_
      rintro e w' ⟨rfl, hb⟩
      exact ⟨ret_bool (by rw [verB, hl, hq, decide_eq_true hr]; simp), hb⟩
    · refine (verify_b root msg sig w n hs hn hb hr).mono ?_
      rintro e w' ⟨rfl, hb⟩
      exact ⟨ret_bool (by rw [verB, decide_eq_false hr]; simp), hb⟩
end Go.Proofs.YtdoebmikjgmnaaaGreat
namespace Go.Proofs.YtdoebmikjgmnaaaGreat
open Go.RowKit
structure Tk where
  ch : ByteArray
  ser : Nat
  face : Nat
  wins : Nat
  many : Nat
  com : ByteArray
  cl : Nat
  sig : ByteArray
def Tk.cs (t : Tk) : Array Value := #[.string t.ch, .int .u64 (t.ser : Nat), .int .u64 (t.face : Nat), .int .u64 (t.wins : Nat), .int .u64 (t.many : Nat), .string t.com, .int .u64 (t.cl : Nat), .string t.sig]
structure Tk.ok (t : Tk) : Prop where
  ch : t.ch.size ≤ 4096
  ser : t.ser < 18446744073709551616
  face : t.face < 18446744073709551616
  wins : t.wins < 18446744073709551616
  many : t.many < 18446744073709551616
  com : t.com.size ≤ 4096
  cl : t.cl < 18446744073709551616
def textB (t : Tk) : ByteArray := numsB (ByteArray.empty ++ strOfNums [84] ++ blobB t.ch) [t.ser, t.face, t.wins, t.many] ++ blobB t.com ++ putB t.cl
theorem textB_size (t : Tk) : (textB t).size = 45 + t.ch.size + t.com.size := by
  rw [textB, ByteArray.size_append, ByteArray.size_append, numsB_size, ByteArray.size_append, ByteArray.size_append, putB_size, blobB_size, blobB_size, num1_size]
  simp; omega
set_option maxRecDepth 100000 in
set_option maxHeartbeats 1000000 in
theorem text_any (t : Tk) (w : World) (ht : t.ok) :
    Calls Tryz.prog 145 #[.agg t.cs] w fun e w' => e = .returned (.string (textB t)) ∧ Below w.heap.size w w' := by
  obtain ⟨t1, t2, t3, t4, t5, t6, t7⟩ := ht
  obtain ⟨ch, ser, face, wins, many, com, cl, sig⟩ := t
  simp only [Tk.cs, textB] at *
  go_enter Tryz.func145, Tryz.ntmps145
  go_wp2_with fail
  refine (wbyte_ok (w.heap.size + 1) ByteArray.empty 84 _ (by decide) (by decide) (by simp) (Blk.newAt (by simp))).mono ?_
  rintro e w1 ⟨rfl, h1, k1⟩
  have HT1 := Lib.hid (Blk.ch ((Blk.new w 178 #[.string ch, .int .u64 ser, .int .u64 face, .int .u64 wins, .int .u64 many, .string com, .int .u64 cl, .string sig]).alloc _) k1 (by simp))
  have HB1 : Hid (Below w.heap.size w w1) := (((Below.refl _ _).alloc (Nat.le_refl _) _).alloc (by simp) _).trans (k1.below (by simp; omega) (by simp))
  clear k1
  have H1 := Lib.hid h1
  clear h1
  have c0 := HT1.out.cell 0
  simp at c0
  go_wp2_with fail
  refine (wblob_ok (w.heap.size + 1) _ ch _ t1 (by rw [ByteArray.size_append, num1_size]; simp) H1.out).mono ?_
  rintro e w2 ⟨rfl, h2, k2⟩
  have HT2 := Lib.hid (Blk.ch HT1.out k2 (by simp))
  have HB2 : Hid (Below w.heap.size w w2) := HB1.out.trans (k2.below HB1.out.size (by simp))
  clear k2 c0
  have H2 := Lib.hid h2
  clear h2
  have c1 := HT2.out.cell 1
  have c2 := HT2.out.cell 2
  have c3 := HT2.out.cell 3
  have c4 := HT2.out.cell 4
  simp at c1 c2 c3 c4
  go_wp2_with fail
  refine (nums_any (w.heap.size + 1) w2.heap.size 4 [ser, face, wins, many] _ _ (by simp) (by simp [t2, t3, t4, t5]) ?_ (Blk.alloc H2.out _) (Blk.new _ _ _)).mono ?_
  · rw [ByteArray.size_append, ByteArray.size_append, num1_size, blobB_size]; simp; omega
  rintro e w3 ⟨rfl, h3, k3⟩
  have HT3 := Lib.hid (Blk.ch (HT2.out.alloc _) k3 (by simp))
  have HB3 : Hid (Below w.heap.size w w3) := (HB2.out.alloc HB2.out.size _).trans (k3.below (by have := HB2.out.size; simp; omega) (by simp))
  clear k3 c1 c2 c3 c4
  have H3 := Lib.hid h3
  clear h3
  have c5 := HT3.out.cell 5
  simp at c5
  go_wp2_with fail
  refine (wblob_ok (w.heap.size + 1) _ com _ t6 ?_ H3.out).mono ?_
  · rw [numsB_size, ByteArray.size_append, ByteArray.size_append, num1_size, blobB_size]; simp; omega
  rintro e w4 ⟨rfl, h4, k4⟩
  have HT4 := Lib.hid (Blk.ch HT3.out k4 (by simp))
  have HB4 : Hid (Below w.heap.size w w4) := HB3.out.trans (k4.below HB3.out.size (by simp))
  clear k4 c5
  have H4 := Lib.hid h4
  clear h4
  have c6 := HT4.out.cell 6
  simp at c6
  go_wp2_with fail
  refine (wnum_ok (w.heap.size + 1) _ cl _ t7 ?_ H4.out).mono ?_
  · rw [ByteArray.size_append, numsB_size, ByteArray.size_append, ByteArray.size_append, num1_size, blobB_size, blobB_size]; simp; omega
  rintro e w5 ⟨rfl, h5, k5⟩
  have HB5 : Hid (Below w.heap.size w w5) := HB4.out.trans (k5.below HB4.out.size (by simp))
  clear k5 c6
  have H5 := Lib.hid h5
  clear h5
  go_wp2_with fail
  refine (wtext_ok (w.heap.size + 1) _ _ H5.out).mono ?_
  rintro e w6 ⟨rfl, rfl⟩
  go_wp2
  go_ret
  exact ⟨rfl, HB5.out⟩
end Go.Proofs.YtdoebmikjgmnaaaGreat
namespace Go.Proofs.YtdoebmikjgmnaaaGreat
open Go.RowKit
theorem ne_empty_of (s : ByteArray) (h : 0 < s.size) : (s.toList != []) = true := by
  have h1 : ¬ s = ByteArray.empty := by rintro rfl; simp at h
  have h2 : (s.toList == ByteArray.empty.toList) = false := by rw [toList_beq]; exact decide_eq_false h1
  simpa [bne] using h2
set_option maxRecDepth 100000 in
set_option maxHeartbeats 1000000 in
theorem signed_any (client : ByteArray) (t : Tk) (w : World) (ht : t.ok) (hz : t.sig.size ≤ 1000000) :
    Calls Tryz.prog 125 #[.string client, .agg t.cs] w fun e w' => e = .returned (.bool (verB client (textB t) t.sig)) ∧ Below w.heap.size w w' := by
  have hx := textB_size t
  have h4 := ht.ch
  have h5 := ht.com
  have HT := fun W => Lib.hid (text_any t W ht)
  have HV := fun W => Lib.hid (verify_any client (textB t) t.sig W hz (by omega))
  have hne := ne_empty_of (textB t) (by omega)
  generalize textB t = x at *
  generalize verB client x t.sig = v at *
  obtain ⟨ch, ser, face, wins, many, com, cl, sig⟩ := t
  simp only [Tk.cs] at *
  clear ht h4 h5
  go_enter Tryz.func125, Tryz.ntmps125
  go_wp2_with fail
  refine (HT _).out.mono ?_
  rintro e w1 ⟨rfl, h1⟩
  have HB1 : Hid (Below w.heap.size w w1) := ((Below.refl _ _).alloc (Nat.le_refl _) _).trans (h1.mono (by simp))
  have HS := Lib.hid ((Blk.new w 178 #[.string ch, .int .u64 ser, .int .u64 face, .int .u64 wins, .int .u64 many, .string com, .int .u64 cl, .string sig]).bel h1)
  clear h1
  have c7 := HS.out.cell 7
  simp at c7
  go_wp2_with fail
  · exfalso
    simp_all
  refine (HV _).out.mono ?_
  rintro e w2 ⟨rfl, h2⟩
  have HB2 := Lib.hid h2
  clear h2
  go_wp2
  go_ret
  have hie : x.toList.isEmpty = false := by
    cases hx : x.toList with
    | nil => rw [hx] at hne; simp at hne
    | cons a r => rfl
  exact ⟨ret_bool (by rw [hie]; rfl), HB1.out.trans (HB2.out.mono HB1.out.size)⟩
end Go.Proofs.YtdoebmikjgmnaaaGreat
namespace Go.Proofs.YtdoebmikjgmnaaaGreat
open Go.RowKit
def wPay : ByteArray := ⟨#[112, 97, 121, 119, 111, 114, 100]⟩
def wSeed : ByteArray := ⟨#[115, 101, 101, 100]⟩
def nxtB (t : ByteArray) : ByteArray := tagB wPay [t]
def itB (s : ByteArray) : Nat → ByteArray
  | 0 => s
  | k + 1 => nxtB (itB s k)
theorem itB_size (s : ByteArray) (h : s.size = 16) : ∀ k, (itB s k).size = 16
  | 0 => h
  | _ + 1 => tagB_size _ _
theorem pnext_any (t : ByteArray) (w : World) (ht : t.size ≤ 1000000) :
    Calls Tryz.prog 107 #[.string t] w fun e w' => e = .returned (.string (nxtB t)) ∧ Below w.heap.size w w' := by
  go_enter Tryz.func107, Tryz.ntmps107
  go_wp2_with fail
  refine (tag1 _ _ w _ rfl (by decide) ht).mono ?_
  rintro e w1 ⟨rfl, hb⟩
  have HB := Lib.hid hb
  clear hb
  go_wp2
  go_ret
  exact ⟨rfl, HB.out⟩
def tK (s : ByteArray) (n k : Nat) : Array Value := ((List.range (n + 1)).map fun j => Value.string (if n - j < k then itB s (n - j) else ByteArray.empty)).toArray
theorem tK_size (s : ByteArray) (n k : Nat) : (tK s n k).size = n + 1 := by simp [tK]
theorem tK_get (s : ByteArray) (n k i : Nat) (h : i < n + 1) : (tK s n k)[i]? = some (.string (if n - i < k then itB s (n - i) else ByteArray.empty)) := by
  simp [tK, h]
theorem tK_set (s : ByteArray) (n k : Nat) (h : k ≤ n) : (tK s n k).setIfInBounds (n - k) (.string (itB s k)) = tK s n (k + 1) := by
  apply Array.ext_getElem?
  intro i
  by_cases hi : i < n + 1
  · rw [tK_get _ _ _ _ hi, Array.getElem?_setIfInBounds, tK_size, tK_get _ _ _ _ hi]
    by_cases e : n - k = i
    · subst e
      rw [if_pos rfl, if_pos (by omega), if_pos (by omega), show n - (n - k) = k by omega]
    · rw [if_neg e]
      by_cases hl : n - i < k
      · rw [if_pos hl, if_pos (by omega)]
      · rw [if_neg hl, if_neg (by omega)]
  · rw [Array.getElem?_eq_none (by simp [tK_size]; omega), Array.getElem?_eq_none (by simp [tK_size]; omega)]
theorem tK_made (s : ByteArray) (n : Nat) : madeCells (Value.string ByteArray.empty).cells (n + 1) = tK s n 0 := by
  apply Array.ext_getElem?
  intro i
  by_cases hi : i < n + 1
  · rw [tK_get _ _ _ _ hi, if_neg (by omega)]
    simp [madeCells, hi, Value.cells, Nat.mod_one]
  · rw [Array.getElem?_eq_none (by simp [madeCells]; omega), Array.getElem?_eq_none (by simp [tK_size]; omega)]
set_option maxRecDepth 100000 in
set_option maxHeartbeats 1000000 in
theorem plam_any (s : ByteArray) (n k g p q : Nat) (w : World) (hn : n ≤ 4096) (hk : k ≤ n) (h1 : Blk w p 87 #[.slice (some ⟨g, 0, none⟩) (n + 1) (n + 1)]) (h2 : Blk w q 3 #[.int .i64 n]) (h3 : Blk w g 9 (tK s n k)) :
    Calls Tryz.prog 72 #[.int .i64 k, .string (itB s k), .pointer (some ⟨p, 0, none⟩), .pointer (some ⟨q, 0, none⟩)] w fun e w' => e = .returned (.bool true) ∧ Blk w' g 9 (tK s n (k + 1)) ∧ Ch [g] w w' := by
  have c1 := h1.cell 0
  have c2 := h2.cell 0
  have c3 := h3.cell (n - k)
  have f3 := h3.frozen (n - k)
  rw [tK_get _ _ _ _ (by omega), if_neg (by omega)] at c3
  simp at c1 c2
  have H3 := Lib.hid h3
  have HS := Lib.hid (tK_set s n k hk)
  clear h1 h2 h3
  generalize itB s k = t at *
  go_enter Tryz.func72, Tryz.ntmps72
  go_wp2
  go_ret
  exact ⟨rfl, HS.out ▸ Blk.set_ H3.out _ _, Ch.set_ (List.mem_singleton.2 rfl) _ _ _⟩
end Go.Proofs.YtdoebmikjgmnaaaGreat
