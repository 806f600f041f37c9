/- Where a key stands in rows in order (the reference's find). No program. -/
import Derived.Test.YthmkoehocjfjgaaTabK

namespace Go.Proofs.Ythmkoehocjfjgaa
open Go.Maps

def fdI (k : ByteArray) : List KV → Nat
  | [] => 0
  | p :: r => if ltB (ky p) k.data.toList then fdI k r + 1 else 0
def isI (k : ByteArray) (T : List KV) : Bool := match T[fdI k T]? with
  | some p => decide (p.1 = k)
  | none => false
theorem fd_le (k : ByteArray) : ∀ T : List KV, fdI k T ≤ T.length
  | [] => Nat.le_refl _
  | p :: r => by
    unfold fdI
    split
    · have := fd_le k r; simp; omega
    · exact Nat.zero_le _
theorem fd_at {k : ByteArray} : ∀ {T : List KV} {j : Nat}, (T.take j).all (fun p => ltB (ky p) k.data.toList) = true → j ≤ T.length → (∀ p, T[j]? = some p → ltB (ky p) k.data.toList = false) → fdI k T = j
  | [], j, _, hj, _ => by simp at hj; subst hj; rfl
  | p :: r, 0, _, _, hn => by unfold fdI; rw [hn p rfl]; rfl
  | p :: r, j + 1, ha, hj, hn => by
    simp only [List.take_succ_cons, List.all_cons, Bool.and_eq_true] at ha
    unfold fdI
    rw [if_pos ha.1, fd_at ha.2 (by simpa using hj) (fun q hq => hn q (by simpa using hq))]
theorem isI_lt {k : ByteArray} {T : List KV} (h : isI k T = true) : fdI k T < T.length := by
  unfold isI at h
  split at h
  · next p hp => exact (List.getElem?_eq_some_iff.1 hp).1
  · cases h
theorem fd_get (k : ByteArray) : ∀ {T : List KV}, Srt T → getT k T = if isI k T then (T[fdI k T]?).map Prod.snd else none
  | [], _ => rfl
  | p :: r, hs => by
    have ih := fd_get k hs.tail
    have hh := hs.head
    unfold isI at ih ⊢
    by_cases h1 : ltB (ky p) k.data.toList = true
    · have e : fdI k (p :: r) = fdI k r + 1 := by conv => lhs; unfold fdI; rw [if_pos h1]
      rw [e, List.getElem?_cons_succ, getT, if_neg (fun h => by rw [ky, h, ltB_irrefl] at h1; cases h1)]
      exact ih
    · have e : fdI k (p :: r) = 0 := by conv => lhs; unfold fdI; rw [if_neg h1]
      rw [e, List.getElem?_cons_zero]
      dsimp only
      by_cases h2 : p.1 = k
      · rw [getT, if_pos h2]; exact (if_pos (decide_eq_true h2)).symm
      · rw [getT, if_neg h2]
        refine Eq.trans ?_ (if_neg (by rw [decide_eq_false h2]; decide)).symm
        refine getT_none.2 fun q hq e' => ?_
        have h3 : ltB k.data.toList (ky p) = true := by
          rcases ltB_total (by simpa using h1) with e | e
          · exact absurd (ba_ext e) h2
          · exact e
        have h4 := ltB_trans _ _ _ h3 (hh q hq)
        rw [ky, e', ltB_irrefl] at h4
        cases h4
theorem fd_isSome {k : ByteArray} {T : List KV} (hs : Srt T) : (getT k T).isSome = isI k T := by
  rw [fd_get k hs]
  cases h : isI k T with
  | true => rw [if_pos rfl, List.getElem?_eq_getElem (isI_lt h)]; rfl
  | false => rfl
theorem fd_put (k v : ByteArray) : ∀ {T : List KV}, Srt T → putT k v T = T.take (fdI k T) ++ (k, v) :: T.drop (if isI k T then fdI k T + 1 else fdI k T)
  | [], _ => rfl
  | p :: r, hs => by
    have ih := fd_put k v hs.tail
    by_cases h1 : ltB (ky p) k.data.toList = true
    · have e : fdI k (p :: r) = fdI k r + 1 := by conv => lhs; unfold fdI; rw [if_pos h1]
      have e2 : isI k (p :: r) = isI k r := by unfold isI; rw [e, List.getElem?_cons_succ]
      have h2 : ¬ ltB k.data.toList (ky p) = true := fun h => by have := ltB_trans _ _ _ h h1; rw [ltB_irrefl] at this; cases this
      rw [e, e2, putT, if_neg h2, if_neg (fun h => by rw [ky, h, ltB_irrefl] at h1; cases h1), ih, List.take_succ_cons]
      split <;> rfl
    · have e : fdI k (p :: r) = 0 := by conv => lhs; unfold fdI; rw [if_neg h1]
      have e2 : isI k (p :: r) = decide (p.1 = k) := by unfold isI; rw [e, List.getElem?_cons_zero]
      rw [e, e2]
      by_cases h2 : p.1 = k
      · rw [decide_eq_true h2, putT, if_neg (by rw [ky, h2, ltB_irrefl]; exact Bool.false_ne_true), if_pos h2]; rfl
      · have h3 : ltB k.data.toList (ky p) = true := by
          rcases ltB_total (by simpa using h1) with e | e
          · exact absurd (ba_ext e) h2
          · exact e
        rw [decide_eq_false h2, putT, if_pos h3]; rfl
theorem fd_del (k : ByteArray) : ∀ {T : List KV}, Srt T → isI k T = true → delT k T = T.take (fdI k T) ++ T.drop (fdI k T + 1)
  | [], _, h => by cases h
  | p :: r, hs, h => by
    by_cases h1 : ltB (ky p) k.data.toList = true
    · have e : fdI k (p :: r) = fdI k r + 1 := by conv => lhs; unfold fdI; rw [if_pos h1]
      have e2 : isI k (p :: r) = isI k r := by unfold isI; rw [e, List.getElem?_cons_succ]
      have ih := fd_del k hs.tail (e2 ▸ h)
      have h2 : ¬ p.1 = k := fun h => by rw [ky, h, ltB_irrefl] at h1; cases h1
      unfold delT at ih ⊢
      rw [e, List.filter_cons, decide_eq_false h2, ih]; rfl
    · have e : fdI k (p :: r) = 0 := by conv => lhs; unfold fdI; rw [if_neg h1]
      have e2 : isI k (p :: r) = decide (p.1 = k) := by unfold isI; rw [e, List.getElem?_cons_zero]
      rw [e2] at h
      have h2 := of_decide_eq_true h
      unfold delT
      rw [e, List.filter_cons, h]
      show r.filter _ = r
      rw [List.filter_eq_self]
      intro q hq
      have h3 := hs.head q hq
      rw [ky, h2] at h3
      have h4 : ¬ q.1 = k := fun e' => by rw [ky, e', ltB_irrefl] at h3; cases h3
      rw [decide_eq_false h4]; rfl
theorem fd_rows (f : ByteArray) : ∀ {T : List KV}, Srt T → rowsFrom f T = T.drop (fdI f T)
  | [], _ => rfl
  | p :: r, hs => by
    have ih := fd_rows f hs.tail
    by_cases h1 : ltB (ky p) f.data.toList = true
    · have e : fdI f (p :: r) = fdI f r + 1 := by conv => lhs; unfold fdI; rw [if_pos h1]
      rw [e, List.drop_succ_cons, ← ih]
      unfold rowsFrom
      rw [List.filter_cons, h1]; rfl
    · have e : fdI f (p :: r) = 0 := by conv => lhs; unfold fdI; rw [if_neg h1]
      rw [e, List.drop_zero]
      unfold rowsFrom
      rw [List.filter_eq_self]
      intro q hq
      have h3 : ltB (ky q) f.data.toList = false := by
        rcases List.mem_cons.1 hq with e | hq
        · rw [e]; simpa using h1
        · refine Bool.eq_false_iff.2 fun h => h1 (ltB_trans _ _ _ (hs.head q hq) h)
      rw [h3]; rfl
end Go.Proofs.Ythmkoehocjfjgaa
