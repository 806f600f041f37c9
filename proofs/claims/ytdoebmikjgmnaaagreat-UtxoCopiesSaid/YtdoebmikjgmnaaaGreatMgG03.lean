/- num.divide. num.Rem, num.MulDiv, num.Of; draw.Nominal. draw.Nominal. Plain words: two texts, byte by byte, and their order. No program. -/
import Derived.Outline
import Derived.OwnWalk
import Derived.Laws.AppendOwn
import Derived.Maps.OwnSet
import Derived.Maps.Ext
import Derived.Maps.StringElems
import Derived.Sort.KeysCollected
import Derived.Test.YtdoebmikjgmnaaaGreatMgG02
set_option linter.unusedVariables false
set_option linter.unusedSimpArgs false
namespace Go.Proofs.YtdoebmikjgmnaaaGreat
open Go.RowKit
end Go.Proofs.YtdoebmikjgmnaaaGreat
namespace Go.Proofs.YtdoebmikjgmnaaaGreat
open Go.RowKit
theorem product_nat (a b : Nat) (w : World) (ha6 : a < 18446744073709551616) (hb6 : b < 18446744073709551616) :
    Calls Tryz.prog 143 #[.int .u64 a, .int .u64 b] w fun e w' => e = .returned (.tuple #[.int .u64 (a * b / 18446744073709551616 : Nat), .int .u64 (a * b % 18446744073709551616 : Nat)]) ∧ w' = w := by
  refine (product_any a b w (by omega) (by omega) (by omega) (by omega)).mono ?_
  rintro e w' ⟨rfl, rfl⟩
  exact ⟨ret_ii (by simp) (by simp), rfl⟩
theorem rem_whole (p c : Nat) : nK (p / 18446744073709551616 % c) (p % 18446744073709551616) 64 % c = p % c := by
  rw [nK_eq _ _ 64 (by omega) (by omega)]
  simp only [Nat.sub_self, Nat.pow_zero, Nat.div_one]
  rw [Nat.add_mod, Nat.mul_mod, Nat.mod_mod, ← Nat.mul_mod, ← Nat.add_mod]
  congr 1; omega
theorem div_whole (p c : Nat) (h : p / 18446744073709551616 < c) : nK (p / 18446744073709551616 % c) (p % 18446744073709551616) 64 / c = p / c := by
  rw [nK_eq _ _ 64 (by omega) (by omega), Nat.mod_eq_of_lt h]
  simp only [Nat.sub_self, Nat.pow_zero, Nat.div_one]
  congr 1; omega
theorem mul_bd (a b : Nat) (ha6 : a < 18446744073709551616) (hb6 : b < 18446744073709551616) : a * b / 18446744073709551616 < 18446744073709551616 := by
  rw [Nat.div_lt_iff_lt_mul (by decide)]
  exact Nat.mul_lt_mul'' ha6 hb6
theorem of_any (n : Nat) (w : World) (h : n ≤ 9223372036854775807) :
    Calls Tryz.prog 122 #[.int .i64 n] w fun e w' => e = .returned (.tuple #[.int .u64 n, .int .i64 0]) ∧ w' = w := by
  have hd : decide ((n : Int) < 0) = false := decide_eq_false (by omega)
  go_enter Tryz.func122, Tryz.ntmps122
  go_wp2
  go_ret2
  exact ⟨rfl, rfl⟩
end Go.Proofs.YtdoebmikjgmnaaaGreat
namespace Go.Proofs.YtdoebmikjgmnaaaGreat
open Go.RowKit
theorem dmay_any (m : Nat) (w : World) (hm : 1 ≤ m) (hm6 : m ≤ 4294967296) : Calls Tryz.prog 144 #[.int .u64 m] w fun e w' => e = .returned (.bool true) ∧ w' = w := by
  have d1 : decide ((1 : Int) ≤ m) = true := decide_eq_true (by omega)
  have d2 : decide ((m : Int) ≤ 4294967296) = true := decide_eq_true (by omega)
  go_enter Tryz.func144, Tryz.ntmps144
  go_wp2
  go_ret
  exact ⟨by simp [d1, d2], rfl⟩
end Go.Proofs.YtdoebmikjgmnaaaGreat
namespace Go.Proofs.YtdoebmikjgmnaaaGreat
/-- Byte by byte. -/
def ltB : List UInt8 → List UInt8 → Bool
  | _, [] => false
  | [], _ :: _ => true
  | a :: r, b :: s => if a < b then true else if b < a then false else ltB r s
theorem ltB_irrefl : ∀ a, ltB a a = false
  | [] => rfl
  | a :: r => by unfold ltB; rw [if_neg (UInt8.lt_irrefl a), if_neg (UInt8.lt_irrefl a)]; exact ltB_irrefl r
theorem u8_eq {a b : UInt8} (h : ¬ a < b) (h' : ¬ b < a) : a = b := UInt8.le_antisymm (UInt8.not_lt.1 h') (UInt8.not_lt.1 h)
theorem ltB_eq : ∀ a b, ltB a b = false → ltB b a = false → a = b
  | [], [], _, _ => rfl
  | [], _ :: _, h, _ => by simp [ltB] at h
  | _ :: _, [], _, h => by simp [ltB] at h
  | a :: r, b :: s, h, h' => by
    unfold ltB at h h'
    by_cases h1 : a < b
    · rw [if_pos h1] at h; cases h
    · by_cases h2 : b < a
      · rw [if_pos h2] at h'; cases h'
      · rw [if_neg h1, if_neg h2] at h
        rw [if_neg h2, if_neg h1] at h'
        rw [u8_eq h1 h2, ltB_eq r s h h']
theorem ltB_trans : ∀ a b c, ltB a b = true → ltB b c = true → ltB a c = true
  | _, [], _, h, _ => by simp [ltB] at h
  | _, _ :: _, [], _, h => by simp [ltB] at h
  | [], _ :: _, _ :: _, _, _ => rfl
  | a :: r, b :: s, c :: t, h, h' => by
    unfold ltB at h h' ⊢
    by_cases h1 : a < b
    · by_cases h2 : b < c
      · rw [if_pos (UInt8.lt_trans h1 h2)]
      · by_cases h3 : c < b
        · rw [if_neg h2, if_pos h3] at h'; cases h'
        · rw [← u8_eq h2 h3, if_pos h1]
    · by_cases h2 : b < a
      · rw [if_neg h1, if_pos h2] at h; cases h
      · rw [if_neg h1, if_neg h2] at h
        have e := u8_eq h1 h2
        subst e
        by_cases h3 : a < c
        · rw [if_pos h3]
        · by_cases h4 : c < a
          · rw [if_neg h3, if_pos h4] at h'; cases h'
          · rw [if_neg h3, if_neg h4] at h' ⊢
            exact ltB_trans r s t h h'
theorem ltB_app : ∀ p a b, ltB (p ++ a) (p ++ b) = ltB a b
  | [], _, _ => rfl
  | x :: p, a, b => by
    show ltB (x :: (p ++ a)) (x :: (p ++ b)) = _
    rw [ltB, if_neg (UInt8.lt_irrefl x), if_neg (UInt8.lt_irrefl x)]; exact ltB_app p a b
theorem bytes_snoc (s : ByteArray) (k : Nat) (h : k < s.size) : s.data.toList.take (k + 1) = s.data.toList.take k ++ [s[k]] := by
  rw [List.take_succ_eq_append_getElem (by simpa using h)]; rfl
theorem bytes_split (s : ByteArray) (k : Nat) (h : k < s.size) : s.data.toList = s.data.toList.take k ++ s[k] :: s.data.toList.drop (k + 1) := by
  conv => lhs; rw [← List.take_append_drop k s.data.toList]
  rw [List.drop_eq_getElem_cons (by simpa using h)]; rfl
theorem less_at {s t : ByteArray} {k : Nat} (hs : k < s.size) (ht : k < t.size) (he : s.data.toList.take k = t.data.toList.take k) (hne : ((s[k].toNat : Int) != t[k].toNat) = true) :
    ltB s.data.toList t.data.toList = decide (s[k].toNat < t[k].toNat) := by
  rw [bytes_split s k hs, bytes_split t k ht, he, ltB_app, ltB]
  have hne' : s[k].toNat ≠ t[k].toNat := by
    intro e; rw [e] at hne; simp at hne
  by_cases h : s[k] < t[k]
  · rw [if_pos h]; exact (decide_eq_true (UInt8.lt_iff_toNat_lt.1 h)).symm
  · rw [if_neg h]
    have h' : ¬ s[k].toNat < t[k].toNat := fun e => h (UInt8.lt_iff_toNat_lt.2 e)
    rw [if_pos (UInt8.lt_iff_toNat_lt.2 (by omega))]
    exact (decide_eq_false h').symm
theorem less_end {s t : ByteArray} {k : Nat} (he : s.data.toList.take k = t.data.toList.take k) (h : k = s.size ∧ k ≤ t.size ∨ k = t.size ∧ k ≤ s.size) : ltB s.data.toList t.data.toList = decide (s.size < t.size) := by
  have es : s.data.toList.length = s.size := by simp
  have et : t.data.toList.length = t.size := by simp
  rcases h with ⟨rfl, h⟩ | ⟨rfl, h⟩
  · rw [← es, List.take_length] at he
    conv => lhs; rw [← List.take_append_drop s.size t.data.toList]
    rw [← es, ← he]
    conv => lhs; arg 1; rw [← List.append_nil s.data.toList]
    rw [ltB_app]
    cases hd : t.data.toList.drop s.data.toList.length with
    | nil => have := congrArg List.length hd; rw [List.length_drop] at this; simp at this; simp [ltB]; omega
    | cons x r => have := congrArg List.length hd; rw [List.length_drop] at this; simp at this; simp [ltB]; omega
  · rw [← et, List.take_length] at he
    conv => lhs; rw [← List.take_append_drop t.size s.data.toList]
    rw [← et, he]
    conv => lhs; arg 2; rw [← List.append_nil t.data.toList]
    rw [ltB_app]
    simp [ltB]; omega
theorem take_more {s t : ByteArray} {k : Nat} (hs : k < s.size) (ht : k < t.size) (he : s.data.toList.take k = t.data.toList.take k) (hne : ((s[k].toNat : Int) != t[k].toNat) = false) : s.data.toList.take (k + 1) = t.data.toList.take (k + 1) := by
  rw [bytes_snoc s k hs, bytes_snoc t k ht, he]
  have : s[k].toNat = t[k].toNat := by
    have h : (s[k].toNat : Int) = t[k].toNat := by simpa using hne
    omega
  rw [UInt8.toNat_inj.1 this]
def strC (s : ByteArray) : List Value := [.string s]

theorem ltB_list : ∀ a b : List UInt8, ltB a b = decide (a < b)
  | [], [] => by simp [ltB]
  | _ :: _, [] => by simp [ltB]
  | [], _ :: _ => by simp [ltB]
  | a :: r, b :: s => by
    unfold ltB
    by_cases h1 : a < b
    · rw [if_pos h1]; exact (decide_eq_true (List.cons_lt_cons_iff.2 (.inl h1))).symm
    · by_cases h2 : b < a
      · rw [if_neg h1, if_pos h2]
        refine (decide_eq_false (fun h => ?_)).symm
        rcases List.cons_lt_cons_iff.1 h with h | ⟨e, _⟩
        · exact h1 h
        · subst e; exact h1 h2
      · rw [if_neg h1, if_neg h2, ltB_list r s]
        have e := u8_eq h1 h2
        subst e
        by_cases h3 : r < s
        · rw [decide_eq_true h3, decide_eq_true (List.cons_lt_cons_iff.2 (.inr ⟨rfl, h3⟩))]
        · rw [decide_eq_false h3]
          refine (decide_eq_false (fun h => ?_)).symm
          rcases List.cons_lt_cons_iff.1 h with h | ⟨_, h⟩
          · exact h1 h
          · exact h3 h
theorem before_ltB : ∀ a b : List UInt8, bytesBefore a b = ltB a b
  | [], [] => rfl
  | _ :: _, [] => rfl
  | [], _ :: _ => rfl
  | a :: r, b :: s => by
    unfold ltB bytesBefore
    by_cases h1 : a < b
    · simp [h1]
    · by_cases h2 : b < a
      · rw [if_neg h1, if_pos h2]
        have : (a == b) = false := beq_eq_false_iff_ne.2 (fun e => by subst e; exact h1 h2)
        simp [h1, this]
      · rw [if_neg h1, if_neg h2, ← before_ltB r s]
        have e := u8_eq h1 h2
        subst e
        simp [UInt8.lt_irrefl]
theorem ltB_total {a b : List UInt8} (h : ltB a b = false) : a = b ∨ ltB b a = true := by
  cases h' : ltB b a
  · exact .inl (ltB_eq _ _ h h')
  · exact .inr rfl
theorem ltB_asym {a b : List UInt8} (h : ltB a b = true) : ltB b a = false := by
  cases h' : ltB b a
  · rfl
  · have := ltB_trans _ _ _ h h'; rw [ltB_irrefl] at this; cases this
theorem ba_ext {s t : ByteArray} (h : s.data.toList = t.data.toList) : s = t := ByteArray.ext (Array.ext' h)
end Go.Proofs.YtdoebmikjgmnaaaGreat
