/- Plain words: two texts, byte by byte, and their order. No program. -/
import Derived.Laws.AppendOwn
import Derived.Maps.OwnSet
import Derived.Maps.Ext
import Derived.Maps.StringElems
import Derived.Sort.KeysCollected
namespace Go.Proofs.Ythmkoehocjfjgaa
/-- Byte by byte. -/
def ltB : List UInt8 → List UInt8 → Bool
  | _, [] => false
  | [], _ :: _ => true
  | a :: r, b :: s => if a < b then true else if b < a then false else ltB r s
theorem ltB_irrefl : ∀ a, ltB a a = false
  | [] => rfl
  | a :: r => by unfold ltB; rw [if_neg (UInt8.lt_irrefl a), if_neg (UInt8.lt_irrefl a)]; exact ltB_irrefl r
theorem u8_eq {a b : UInt8} (h : ¬ a < b) (h' : ¬ b < a) : a = b := UInt8.le_antisymm (UInt8.not_lt.1 h') (UInt8.not_lt.1 h)
theorem ltB_eq : ∀ a b, ltB a b = false → ltB b a = false → a = b
  | [], [], _, _ => rfl
  | [], _ :: _, h, _ => by simp [ltB] at h
  | _ :: _, [], _, h => by simp [ltB] at h
  | a :: r, b :: s, h, h' => by
    unfold ltB at h h'
    by_cases h1 : a < b
    · rw [if_pos h1] at h; cases h
    · by_cases h2 : b < a
      · rw [if_pos h2] at h'; cases h'
      · rw [if_neg h1, if_neg h2] at h
        rw [if_neg h2, if_neg h1] at h'
        rw [u8_eq h1 h2, ltB_eq r s h h']
theorem ltB_trans : ∀ a b c, ltB a b = true → ltB b c = true → ltB a c = true
  | _, [], _, h, _ => by simp [ltB] at h
  | _, _ :: _, [], _, h => by simp [ltB] at h
  | [], _ :: _, _ :: _, _, _ => rfl
  | a :: r, b :: s, c :: t, h, h' => by
    unfold ltB at h h' ⊢
    by_cases h1 : a < b
    · by_cases h2 : b < c
      · rw [if_pos (UInt8.lt_trans h1 h2)]
      · by_cases h3 : c < b
        · rw [if_neg h2, if_pos h3] at h'; cases h'
        · rw [← u8_eq h2 h3, if_pos h1]
    · by_cases h2 : b < a
      · rw [if_neg h1, if_pos h2] at h; cases h
      · rw [if_neg h1, if_neg h2] at h
        have e := u8_eq h1 h2
        subst e
        by_cases h3 : a < c
        · rw [if_pos h3]
        · by_cases h4 : c < a
          · rw [if_neg h3, if_pos h4] at h'; cases h'
          · rw [if_neg h3, if_neg h4] at h' ⊢
            exact ltB_trans r s t h h'
theorem ltB_app : ∀ p a b, ltB (p ++ a) (p ++ b) = ltB a b
  | [], _, _ => rfl
  | x :: p, a, b => by
    show ltB (x :: (p ++ a)) (x :: (p ++ b)) = _
    rw [ltB, if_neg (UInt8.lt_irrefl x), if_neg (UInt8.lt_irrefl x)]; exact ltB_app p a b
theorem bytes_snoc (s : ByteArray) (k : Nat) (h : k < s.size) : s.data.toList.take (k + 1) = s.data.toList.take k ++ [s[k]] := by
  rw [List.take_succ_eq_append_getElem (by simpa using h)]; rfl
theorem bytes_split (s : ByteArray) (k : Nat) (h : k < s.size) : s.data.toList = s.data.toList.take k ++ s[k] :: s.data.toList.drop (k + 1) := by
  conv => lhs; rw [← List.take_append_drop k s.data.toList]
  rw [List.drop_eq_getElem_cons (by simpa using h)]; rfl
theorem less_at {s t : ByteArray} {k : Nat} (hs : k < s.size) (ht : k < t.size) (he : s.data.toList.take k = t.data.toList.take k) (hne : ((s[k].toNat : Int) != t[k].toNat) = true) :
    ltB s.data.toList t.data.toList = decide (s[k].toNat < t[k].toNat) := by
  rw [bytes_split s k hs, bytes_split t k ht, he, ltB_app, ltB]
  have hne' : s[k].toNat ≠ t[k].toNat := by
    intro e; rw [e] at hne; simp at hne
  by_cases h : s[k] < t[k]
  · rw [if_pos h]; exact (decide_eq_true (UInt8.lt_iff_toNat_lt.1 h)).symm
  · rw [if_neg h]
    have h' : ¬ s[k].toNat < t[k].toNat := fun e => h (UInt8.lt_iff_toNat_lt.2 e)
    rw [if_pos (UInt8.lt_iff_toNat_lt.2 (by omega))]
    exact (decide_eq_false h').symm
theorem less_end {s t : ByteArray} {k : Nat} (he : s.data.toList.take k = t.data.toList.take k) (h : k = s.size ∧ k ≤ t.size ∨ k = t.size ∧ k ≤ s.size) : ltB s.data.toList t.data.toList = decide (s.size < t.size) := by
  have es : s.data.toList.length = s.size := by simp
  have et : t.data.toList.length = t.size := by simp
  rcases h with ⟨rfl, h⟩ | ⟨rfl, h⟩
  · rw [← es, List.take_length] at he
    conv => lhs; rw [← List.take_append_drop s.size t.data.toList]
    rw [← es, ← he]
    conv => lhs; arg 1; rw [← List.append_nil s.data.toList]
    rw [ltB_app]
    cases hd : t.data.toList.drop s.data.toList.length with
    | nil => have := congrArg List.length hd; rw [List.length_drop] at this; simp at this; simp [ltB]; omega
    | cons x r => have := congrArg List.length hd; rw [List.length_drop] at this; simp at this; simp [ltB]; omega
  · rw [← et, List.take_length] at he
    conv => lhs; rw [← List.take_append_drop t.size s.data.toList]
    rw [← et, he]
    conv => lhs; arg 2; rw [← List.append_nil t.data.toList]
    rw [ltB_app]
    simp [ltB]; omega
theorem take_more {s t : ByteArray} {k : Nat} (hs : k < s.size) (ht : k < t.size) (he : s.data.toList.take k = t.data.toList.take k) (hne : ((s[k].toNat : Int) != t[k].toNat) = false) : s.data.toList.take (k + 1) = t.data.toList.take (k + 1) := by
  rw [bytes_snoc s k hs, bytes_snoc t k ht, he]
  have : s[k].toNat = t[k].toNat := by
    have h : (s[k].toNat : Int) = t[k].toNat := by simpa using hne
    omega
  rw [UInt8.toNat_inj.1 this]
def strC (s : ByteArray) : List Value := [.string s]

theorem ltB_list : ∀ a b : List UInt8, ltB a b = decide (a < b)
  | [], [] => by simp [ltB]
  | _ :: _, [] => by simp [ltB]
  | [], _ :: _ => by simp [ltB]
  | a :: r, b :: s => by
    unfold ltB
    by_cases h1 : a < b
    · rw [if_pos h1]; exact (decide_eq_true (List.cons_lt_cons_iff.2 (.inl h1))).symm
    · by_cases h2 : b < a
      · rw [if_neg h1, if_pos h2]
        refine (decide_eq_false (fun h => ?_)).symm
        rcases List.cons_lt_cons_iff.1 h with h | ⟨e, _⟩
        · exact h1 h
        · subst e; exact h1 h2
      · rw [if_neg h1, if_neg h2, ltB_list r s]
        have e := u8_eq h1 h2
        subst e
        by_cases h3 : r < s
        · rw [decide_eq_true h3, decide_eq_true (List.cons_lt_cons_iff.2 (.inr ⟨rfl, h3⟩))]
        · rw [decide_eq_false h3]
          refine (decide_eq_false (fun h => ?_)).symm
          rcases List.cons_lt_cons_iff.1 h with h | ⟨_, h⟩
          · exact h1 h
          · exact h3 h
theorem before_ltB : ∀ a b : List UInt8, bytesBefore a b = ltB a b
  | [], [] => rfl
  | _ :: _, [] => rfl
  | [], _ :: _ => rfl
  | a :: r, b :: s => by
    unfold ltB bytesBefore
    by_cases h1 : a < b
    · simp [h1]
    · by_cases h2 : b < a
      · rw [if_neg h1, if_pos h2]
        have : (a == b) = false := beq_eq_false_iff_ne.2 (fun e => by subst e; exact h1 h2)
        simp [h1, this]
      · rw [if_neg h1, if_neg h2, ← before_ltB r s]
        have e := u8_eq h1 h2
        subst e
        simp [UInt8.lt_irrefl]
theorem ltB_total {a b : List UInt8} (h : ltB a b = false) : a = b ∨ ltB b a = true := by
  cases h' : ltB b a
  · exact .inl (ltB_eq _ _ h h')
  · exact .inr rfl
theorem ltB_asym {a b : List UInt8} (h : ltB a b = true) : ltB b a = false := by
  cases h' : ltB b a
  · rfl
  · have := ltB_trans _ _ _ h h'; rw [ltB_irrefl] at this; cases this
theorem ba_ext {s t : ByteArray} (h : s.data.toList = t.data.toList) : s = t := ByteArray.ext (Array.ext' h)
end Go.Proofs.Ythmkoehocjfjgaa
