/- Plain laws of sched: how often a name is told; one more item. No program. -/
import Derived.Test.YtnkbdkpeoaobeaaPlain20c
import Derived.Test.YtnkbdkpeoaobeaaPlain20b

namespace Go.Proofs.Ytnkbdkpeoaobeaa

/-- how often a name is told -/
def timesOf (c : ByteArray) (l : List ByteArray) : Nat := l.countP fun x => decide (x = c)
def wantOf (h m : Int) (c : ByteArray) (l : List It) : Nat := l.countP fun x => decide (x.ch = c) && goodI h m x
theorem times_due (h m : Int) (c : ByteArray) (l : List It) : timesOf c ((dueI h m l).map It.ch) = wantOf h m c l := by
  unfold timesOf wantOf
  rw [((dueI_perm h m l).map It.ch).countP_eq, List.countP_map, List.countP_filter]
  refine List.countP_congr fun x _ => ?_
  simp [Function.comp]
theorem good_more {h m d : Int} {x : It} (hd : 0 ≤ d) (hg : goodI h m x = true) : goodI (h + d) m x = true := by
  simp only [goodI, Bool.and_eq_true, decide_eq_true_eq, Bool.or_eq_true] at hg ⊢
  refine ⟨hg.1, ?_⟩
  rcases hg.2 with h1 | h1
  · exact .inl h1
  · exact .inr (by omega)
theorem want_more {h m d : Int} (c : ByteArray) (l : List It) (hd : 0 ≤ d) : wantOf h m c l ≤ wantOf (h + d) m c l := by
  unfold wantOf
  refine List.countP_mono_left fun x _ hx => ?_
  simp only [Bool.and_eq_true] at hx ⊢
  exact ⟨hx.1, good_more hd hx.2⟩
theorem due_more {h m d : Int} (l : List It) (hd : 0 ≤ d) : (dueI h m l).length ≤ (dueI (h + d) m l).length := by
  rw [(dueI_perm h m l).length_eq, (dueI_perm (h + d) m l).length_eq, ← List.countP_eq_length_filter, ← List.countP_eq_length_filter]
  exact List.countP_mono_left fun x _ hx => good_more hd hx
theorem worth_of_due {h m : Int} {l : List It} (hn : dueI h m l ≠ []) : worthL l ≠ [] := by
  intro h0
  apply hn
  have hp := dueI_perm h m l
  have : l.filter (goodI h m) = [] := by
    apply List.filter_eq_nil_iff.2
    intro x hx hg
    have h1 := List.filter_eq_nil_iff.1 h0 x hx
    simp only [goodI, Bool.and_eq_true] at hg
    exact h1 hg.1
  rw [this] at hp
  exact List.perm_nil.1 hp
theorem minOf_mem : ∀ (l : List Int), l ≠ [] → Lib.minOf l ∈ l
  | [], h => absurd rfl h
  | a :: r, _ => by
    have key : ∀ (r : List Int) (a : Int), r.foldl min a = a ∨ r.foldl min a ∈ r := by
      intro r
      induction r with
      | nil => intro a; exact .inl rfl
      | cons b s ih =>
        intro a
        rw [List.foldl_cons]
        rcases ih (min a b) with h | h
        · rw [h]
          by_cases hab : a ≤ b
          · left; omega
          · right; rw [show min a b = b by omega]; simp
        · right; simp [h]
    show (a :: r).foldl min ((a :: r).headD 0) ∈ a :: r
    rw [List.headD_cons, List.foldl_cons, Int.min_self]
    rcases key r a with h | h
    · rw [h]; simp
    · simp [h]
/-- the first height at which one is to be claimed is above those at which none is -/
theorem next_over {h m : Int} {l : List It} (hd : dueI h m l = []) (hh : 0 ≤ h) (hw : worthL l ≠ []) : h < (nextTo m l).1 := by
  rw [nextTo_min, if_neg hw]
  show h < Lib.minOf _
  have hm := minOf_mem ((worthL l).map (headI m)) (by simpa using hw)
  obtain ⟨x, hx, he⟩ := List.mem_map.1 hm
  rw [← he]
  have hf : l.filter (goodI h m) = [] := by
    have := dueI_perm h m l
    rw [hd] at this
    exact List.nil_perm.1 this
  have hxl := List.mem_filter.1 hx
  have hng := List.filter_eq_nil_iff.1 hf x hxl.1
  simp only [goodI, hxl.2, Bool.true_and, Bool.or_eq_true, decide_eq_true_eq, not_or] at hng
  unfold headI
  rw [if_neg hng.1]
  omega
theorem next_is {m : Int} {l : List It} : (nextTo m l).2 = decide (worthL l ≠ []) := by
  rw [nextTo_min]
  split
  · next h => simp [h]
  · next h => simp [h]
theorem times_snoc (c : ByteArray) (l : List ByteArray) (k : Nat) (h : k < l.length) : timesOf c (l.take (k + 1)) = timesOf c (l.take k) + if l[k] = c then 1 else 0 := by
  unfold timesOf
  rw [List.take_succ_eq_append_getElem h, List.countP_append]
  by_cases hc : l[k] = c <;> simp [List.countP_cons, hc]
theorem times_le (c : ByteArray) (l : List ByteArray) : timesOf c l ≤ l.length := List.countP_le_length
theorem want_snoc (h m : Int) (c : ByteArray) (l : List It) (k : Nat) (hk : k < l.length) : wantOf h m c (l.take (k + 1)) = wantOf h m c (l.take k) + if l[k].ch = c ∧ goodI h m l[k] = true then 1 else 0 := by
  unfold wantOf
  rw [List.take_succ_eq_append_getElem hk, List.countP_append]
  by_cases hc : l[k].ch = c <;> cases hg : goodI h m l[k] <;> simp [List.countP_cons, hc, hg]
theorem want_le (h m : Int) (c : ByteArray) (l : List It) : wantOf h m c l ≤ l.length := List.countP_le_length
end Go.Proofs.Ytnkbdkpeoaobeaa
