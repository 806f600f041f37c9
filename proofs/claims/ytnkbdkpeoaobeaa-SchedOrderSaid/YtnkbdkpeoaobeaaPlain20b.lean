/- Plain words of sched, more: the least of the heads. No program. -/
import Derived.Test.YtnkbdkpeoaobeaaPlain20

import Derived.Lib.Slices
namespace Go.Proofs.Ytnkbdkpeoaobeaa
theorem nextTo_eq (m : Int) (l : List It) : ∀ a : Int × Bool, l.foldl (fun a x => if 10 < x.wo then (if !a.2 || decide (headI m x < a.1) then (headI m x, true) else (a.1, true)) else a) a =
    if worthL l = [] then a else (if a.2 then ((worthL l).map (headI m)).foldl min a.1 else Lib.minOf ((worthL l).map (headI m)), true) := by
  induction l with
  | nil => intro a; simp [worthL]
  | cons x r ih =>
    intro a
    rw [List.foldl_cons, ih]
    by_cases hw : 10 < x.wo
    · have e : worthL (x :: r) = x :: worthL r := by simp [worthL, hw]
      rw [if_pos hw, e]
      obtain ⟨n, is⟩ := a
      cases is
      · simp only [Bool.not_false, Bool.true_or, if_true, reduceCtorEq, if_false, List.map_cons, Lib.minOf, List.headD_cons, List.foldl_cons, Int.min_self]
        split
        · next h => simp [h]
        · simp
      · simp only [Bool.not_true, Bool.false_or, decide_eq_true_eq, if_true, reduceCtorEq, if_false, List.map_cons, List.foldl_cons]
        by_cases h : headI m x < n
        · rw [if_pos h, show min n (headI m x) = headI m x by omega]
          split
          · next h => simp [h]
          · simp
        · rw [if_neg h, show min n (headI m x) = n by omega]
          split
          · next h => simp [h]
          · simp
    · rw [if_neg hw]
      have e : worthL (x :: r) = worthL r := by simp [worthL, hw]
      rw [e]
theorem nextTo_min (m : Int) (l : List It) : nextTo m l = if worthL l = [] then (0, false) else (Lib.minOf ((worthL l).map (headI m)), true) := by
  unfold nextTo; rw [nextTo_eq]; simp
end Go.Proofs.Ytnkbdkpeoaobeaa
