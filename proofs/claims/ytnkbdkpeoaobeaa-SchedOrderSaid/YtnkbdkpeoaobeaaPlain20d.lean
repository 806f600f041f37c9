/- Plain words: two texts, byte by byte. No program. -/
import Derived.Test.YtnkbdkpeoaobeaaPlain20c

namespace Go.Proofs.Ytnkbdkpeoaobeaa
theorem bytes_snoc (s : ByteArray) (k : Nat) (h : k < s.size) : s.data.toList.take (k + 1) = s.data.toList.take k ++ [s[k]] := by
  rw [List.take_succ_eq_append_getElem (by simpa using h)]; rfl
theorem bytes_split (s : ByteArray) (k : Nat) (h : k < s.size) : s.data.toList = s.data.toList.take k ++ s[k] :: s.data.toList.drop (k + 1) := by
  conv => lhs; rw [← List.take_append_drop k s.data.toList]
  rw [List.drop_eq_getElem_cons (by simpa using h)]; rfl
theorem less_at {s t : ByteArray} {k : Nat} (hs : k < s.size) (ht : k < t.size) (he : s.data.toList.take k = t.data.toList.take k) (hne : ((s[k].toNat : Int) != t[k].toNat) = true) :
    ltB s.data.toList t.data.toList = decide (s[k].toNat < t[k].toNat) := by
  rw [bytes_split s k hs, bytes_split t k ht, he, ltB_app, ltB]
  have hne' : s[k].toNat ≠ t[k].toNat := by
    intro e; rw [e] at hne; simp at hne
  by_cases h : s[k] < t[k]
  · rw [if_pos h]; exact (decide_eq_true (UInt8.lt_iff_toNat_lt.1 h)).symm
  · rw [if_neg h]
    have h' : ¬ s[k].toNat < t[k].toNat := fun e => h (UInt8.lt_iff_toNat_lt.2 e)
    rw [if_pos (UInt8.lt_iff_toNat_lt.2 (by omega))]
    exact (decide_eq_false h').symm
theorem less_end {s t : ByteArray} {k : Nat} (he : s.data.toList.take k = t.data.toList.take k) (h : k = s.size ∧ k ≤ t.size ∨ k = t.size ∧ k ≤ s.size) : ltB s.data.toList t.data.toList = decide (s.size < t.size) := by
  have es : s.data.toList.length = s.size := by simp
  have et : t.data.toList.length = t.size := by simp
  rcases h with ⟨rfl, h⟩ | ⟨rfl, h⟩
  · rw [← es, List.take_length] at he
    conv => lhs; rw [← List.take_append_drop s.size t.data.toList]
    rw [← es, ← he]
    conv => lhs; arg 1; rw [← List.append_nil s.data.toList]
    rw [ltB_app]
    cases hd : t.data.toList.drop s.data.toList.length with
    | nil => have := congrArg List.length hd; rw [List.length_drop] at this; simp at this; simp [ltB]; omega
    | cons x r => have := congrArg List.length hd; rw [List.length_drop] at this; simp at this; simp [ltB]; omega
  · rw [← et, List.take_length] at he
    conv => lhs; rw [← List.take_append_drop t.size s.data.toList]
    rw [← et, he]
    conv => lhs; arg 2; rw [← List.append_nil t.data.toList]
    rw [ltB_app]
    simp [ltB]; omega
theorem take_more {s t : ByteArray} {k : Nat} (hs : k < s.size) (ht : k < t.size) (he : s.data.toList.take k = t.data.toList.take k) (hne : ((s[k].toNat : Int) != t[k].toNat) = false) : s.data.toList.take (k + 1) = t.data.toList.take (k + 1) := by
  rw [bytes_snoc s k hs, bytes_snoc t k ht, he]
  have : s[k].toNat = t[k].toNat := by
    have h : (s[k].toNat : Int) = t[k].toNat := by simpa using hne
    omega
  rw [UInt8.toNat_inj.1 this]
def strC (s : ByteArray) : List Value := [.string s]
end Go.Proofs.Ytnkbdkpeoaobeaa
