/- Plain laws of sched: one more item takes its place. No program. -/
import Derived.Test.YtnkbdkpeoaobeaaPlain20c

namespace Go.Proofs.Ytnkbdkpeoaobeaa
theorem dueI_one_more (h m : Int) (l : List It) (y : It) : dueI h m (l ++ [y]) = if goodI h m y then insI y (dueI h m l) else dueI h m l := by
  unfold dueI insAll
  rw [List.filter_append, List.foldl_append]
  cases hg : goodI h m y <;> simp [List.filter_cons, hg]
theorem dueI_one (h m : Int) (y : It) : dueI h m [y] = if goodI h m y then [y] else [] := by
  cases hg : goodI h m y <;> simp [dueI, insAll, List.filter_cons, hg, insI]
theorem ins_names (y : It) (D : List It) : ∃ p, p ≤ (D.map It.ch).length ∧ (insI y D).map It.ch = (D.map It.ch).take p ++ y.ch :: (D.map It.ch).drop p := by
  refine ⟨(D.takeWhile fun z => !ltI y z).length, ?_, ?_⟩
  · rw [List.length_map]; exact List.Sublist.length_le (List.takeWhile_sublist _)
  · unfold insI
    have h1 : D.takeWhile (fun z => !ltI y z) = D.take (D.takeWhile fun z => !ltI y z).length := List.prefix_iff_eq_take.1 (List.takeWhile_prefix _)
    have h2 : D.dropWhile (fun z => !ltI y z) = D.drop (D.takeWhile fun z => !ltI y z).length := by
      have := List.takeWhile_append_dropWhile (p := fun z => !ltI y z) (l := D)
      conv => rhs; arg 2; rw [← this]
      rw [List.drop_left]
    rw [List.map_append, List.map_cons, ← List.map_take, ← List.map_drop, ← h1, ← h2]
/-- with one more at the place p -/
def Put (p : Nat) (c : ByteArray) (N M : List ByteArray) : Prop := p ≤ N.length ∧ M = N.take p ++ c :: N.drop p
theorem Put.len {p : Nat} {c : ByteArray} {N M : List ByteArray} (h : Put p c N M) : M.length = N.length + 1 := by
  have hp := h.1
  rw [h.2]; simp; omega
theorem Put.lt {p : Nat} {c : ByteArray} {N M : List ByteArray} (h : Put p c N M) {j : Nat} (hj : j < p) : M[j]? = N[j]? := by
  have hp := h.1
  rw [h.2, List.getElem?_append_left (by simp; omega), List.getElem?_take_of_lt hj]
theorem Put.at_ {p : Nat} {c : ByteArray} {N M : List ByteArray} (h : Put p c N M) : M[p]? = some c := by
  have hp := h.1
  rw [h.2, List.getElem?_append_right (by simp; omega)]
  simp [Nat.min_eq_left hp]
theorem Put.gt {p : Nat} {c : ByteArray} {N M : List ByteArray} (h : Put p c N M) {j : Nat} (hj : p ≤ j) : M[j + 1]? = N[j]? := by
  have hp := h.1
  rw [h.2, List.getElem?_append_right (by simp; omega)]
  have e : j + 1 - (N.take p).length = (j - p) + 1 := by simp [Nat.min_eq_left hp]; omega
  rw [e, List.getElem?_cons_succ, List.getElem?_drop, show p + (j - p) = j by omega]
/-- what holds while the two lists go together -/
def Same_to (p : Nat) (c : ByteArray) (N : List ByteArray) (k : Nat) : Prop := ∀ j, p ≤ j → j < k → N[j]? = some c
theorem Same_to.step {p k : Nat} {c : ByteArray} {N M : List ByteArray} (h : Put p c N M) (hs : Same_to p c N k) (he : N[k]? = M[k]?) : Same_to p c N (k + 1) := by
  intro j hp hj
  by_cases hk : j < k
  · exact hs j hp hk
  · have e : j = k := by omega
    subst e
    rw [he]
    by_cases hjp : j = p
    · rw [hjp]; exact h.at_
    · obtain ⟨i, rfl⟩ : ∃ i, j = i + 1 := ⟨j - 1, by omega⟩
      rw [h.gt (by omega)]; exact hs i (by omega) (by omega)
theorem Same_to.stop {p k : Nat} {c : ByteArray} {N M : List ByteArray} (h : Put p c N M) (hs : Same_to p c N k) (hk : k ≤ N.length) (he : k = N.length ∨ N[k]? ≠ M[k]?) : p ≤ k ∧ M[k]? = some c := by
  have hp := h.1
  have hpk : p ≤ k := by
    rcases Nat.lt_or_ge k p with h1 | h1
    · exfalso
      rcases he with e | e
      · omega
      · exact e (h.lt h1).symm
    · exact h1
  refine ⟨hpk, ?_⟩
  by_cases e : k = p
  · rw [e]; exact h.at_
  · obtain ⟨i, rfl⟩ : ∃ i, k = i + 1 := ⟨k - 1, by omega⟩
    rw [h.gt (by omega)]; exact hs i (by omega) (by omega)
end Go.Proofs.Ytnkbdkpeoaobeaa
