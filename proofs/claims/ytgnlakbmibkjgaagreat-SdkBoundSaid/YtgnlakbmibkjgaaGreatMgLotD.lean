/- draw.Top, Fair; lottery's room. -/
import Derived.Outline
import Derived.Test.YtgnlakbmibkjgaaGreatMgLotC
set_option linter.unusedVariables false
set_option linter.unusedSimpArgs false
namespace Go.Proofs.YtgnlakbmibkjgaaGreat
open Go.RowKit
/-- the greatest word that tells of one of so many numbers -/
def topV (m : Nat) : Nat := 18446744073709551615 - (18446744073709551615 % m + 1) % m
set_option maxRecDepth 100000 in
theorem top_any (m : Nat) (w : World) (h1 : 1 ≤ m) (h2 : m ≤ 4294967296) :
    Calls Tryz.prog 188 #[.int .u64 m] w fun e w' => e = .returned (.tuple #[.int .u64 (topV m : Nat), .int .i64 0]) ∧ w = w' := by
  have HM := Lib.hid (dmayB_any m w (by omega))
  rw [show mayN m = true from decide_eq_true ⟨h1, h2⟩] at HM
  obtain ⟨r, hr⟩ : ∃ r : Nat, 18446744073709551615 % m = r := ⟨_, rfl⟩
  have hrm : r < m := by rw [← hr]; exact Nat.mod_lt _ (by omega)
  obtain ⟨q, hq⟩ : ∃ q : Nat, (r + 1) % m = q := ⟨_, rfl⟩
  have hqm : q < m := by rw [← hq]; exact Nat.mod_lt _ (by omega)
  have e1 : (18446744073709551615 : Int) % (m : Int) = (r : Int) := by rw [← hr]; rfl
  have e2 : ((r : Int) + 1) % (m : Int) = (q : Int) := by rw [← hq]; rfl
  have e3 : (18446744073709551615 : Int) - (q : Int) = ((topV m : Nat) : Int) := by
    unfold topV
    rw [hr, hq]; omega
  have HT := Lib.hid e3
  generalize topV m = tv at HT ⊢
  have hm0 : ((m : Int) == 0) = false := beq_eq_false_iff_ne.2 (by omega)
  clear hr hq e3
  go_enter Tryz.func188, Tryz.ntmps188
  go_wp2_with fail
  refine HM.out.mono ?_
  rintro e w' ⟨rfl, rfl⟩
  go_wp2_with fail
  go_ret2
  exact ⟨ret_ii HT.out rfl, rfl⟩
set_option maxRecDepth 100000 in
theorem fair_ok (raw m : Nat) (w : World) (h1 : 1 ≤ m) (h2 : m ≤ 4294967296) (h3 : raw ≤ topV m) :
    Calls Tryz.prog 96 #[.int .u64 raw, .int .u64 m] w fun e w' => e = .returned (.tuple #[.int .u64 (raw % m : Nat), .int .i64 0]) ∧ w = w' := by
  have HT := Lib.hid (top_any m w h1 h2)
  have ht : topV m ≤ 18446744073709551615 := Nat.sub_le _ _
  generalize topV m = tv at HT h3 ht
  obtain ⟨q, hq⟩ : ∃ q : Nat, raw % m = q := ⟨_, rfl⟩
  have e1 : (raw : Int) % (m : Int) = (q : Int) := by rw [← hq]; rfl
  have d1 : decide ((tv : Int) < (raw : Int)) = false := decide_eq_false (by omega)
  have hm0 : ((m : Int) == 0) = false := beq_eq_false_iff_ne.2 (by omega)
  rw [hq]
  have E1 := Lib.hid e1
  clear hq e1
  go_enter Tryz.func96, Tryz.ntmps96
  go_wp2_with fail
  refine HT.out.mono ?_
  rintro e w' ⟨rfl, rfl⟩
  go_wp2_with fail
  go_ret2
  exact ⟨ret_ii E1.out rfl, rfl⟩
set_option maxRecDepth 100000 in
theorem fair_high (raw m : Nat) (w : World) (h1 : 1 ≤ m) (h2 : m ≤ 4294967296) (h3 : topV m < raw) :
    Calls Tryz.prog 96 #[.int .u64 raw, .int .u64 m] w fun e w' => e = .returned (.tuple #[.int .u64 0, .int .i64 4]) ∧ w = w' := by
  have HT := Lib.hid (top_any m w h1 h2)
  generalize topV m = tv at HT h3
  have d1 : decide ((tv : Int) < (raw : Int)) = true := decide_eq_true (by omega)
  go_enter Tryz.func96, Tryz.ntmps96
  go_wp2_with fail
  refine HT.out.mono ?_
  rintro e w' ⟨rfl, rfl⟩
  go_wp2_with fail
  go_ret2
  exact ⟨rfl, rfl⟩
/-- whether there is room for one more offer -/
def roomN (l : List Of) (face : Nat) : Int := if 8 ≤ l.length then 9 else plusE (opnV l : Nat) (face : Nat)
set_option maxRecDepth 100000 in
set_option maxHeartbeats 1000000 in
theorem lroom_any (b next : Nat) (ch client : ByteArray) (l : List Of) (face : Nat) (w : World) (h : BookAt w b ch client next l) (hl : l.length ≤ 1000) (hf : ∀ o ∈ l, o.face < 18446744073709551616) (hface : face < 18446744073709551616) :
    Calls Tryz.prog 97 #[.pointer (some ⟨b, 0, none⟩), .int .u64 face] w fun e w' => e = .returned (.int .i64 (roomN l face)) ∧ Below w.heap.size w w' := by
  have HO := Lib.hid (open_any b next ch client l w h hl hf)
  obtain ⟨A, c, h1, _⟩ := h
  have c3 : w.cell? ⟨b, 3, none⟩ = some (.slice A l.length c) := h1.cell 3
  clear h1 hf
  by_cases h8 : 8 ≤ l.length
  · rw [show roomN l face = 9 from if_pos h8]
    have d8 : decide ((8 : Int) ≤ (l.length : Int)) = true := decide_eq_true (by omega)
    clear h8
    go_enter Tryz.func97, Tryz.ntmps97
    go_wp2_with fail
    go_ret
    exact ⟨rfl, Below.refl _ _⟩
  · rw [show roomN l face = plusE (opnV l : Nat) (face : Nat) from if_neg h8]
    have d8 : decide ((8 : Int) ≤ (l.length : Int)) = false := decide_eq_false (by omega)
    have hv : opnV l < 18446744073709551616 := Nat.mod_lt _ (by decide)
    have HA := fun W => Lib.hid (add_any (opnV l : Nat) (face : Nat) W (by omega) (by omega) (by omega) (by omega))
    generalize opnV l = v at HO HA ⊢
    generalize plusE (v : Int) (face : Int) = pe at HA ⊢
    generalize plusV (v : Int) (face : Int) = pv at HA
    clear h8
    go_enter Tryz.func97, Tryz.ntmps97
    go_wp2_with fail
    refine HO.out.mono ?_
    rintro e w1 ⟨rfl, hb⟩
    have HB := Lib.hid hb
    clear hb
    go_wp2_with fail
    refine (HA _).out.mono ?_
    rintro e w2 ⟨rfl, rfl⟩
    go_wp2_with fail
    go_ret
    exact ⟨rfl, HB.out⟩
end Go.Proofs.YtgnlakbmibkjgaaGreat
