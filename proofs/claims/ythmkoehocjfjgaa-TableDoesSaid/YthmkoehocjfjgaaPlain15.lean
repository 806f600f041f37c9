/- Plain words of a table: rows in the order of their keys. No program. -/
import Derived.Test.YthmkoehocjfjgaaPlainB

namespace Go.Proofs.Ythmkoehocjfjgaa
open Go.Maps

abbrev KV := ByteArray × ByteArray
def ky (p : KV) : List UInt8 := p.1.data.toList
def kLit (k : ByteArray) : Lit := .string k.data.toList
def vLit (v : ByteArray) : DataW Unit := .lit (.string v.data.toList)
def enKV (p : KV) : Lit × DataW Unit := (kLit p.1, vLit p.2)
def dm (T : List KV) : DataW Unit := .map (T.map enKV)
/-- rising keys -/
def Srt (T : List KV) : Prop := T.Pairwise fun p q => ltB (ky p) (ky q) = true
def putT (k v : ByteArray) : List KV → List KV
  | [] => [(k, v)]
  | p :: r => if ltB k.data.toList (ky p) then (k, v) :: p :: r else if p.1 = k then (k, v) :: r else p :: putT k v r
def delT (k : ByteArray) (T : List KV) : List KV := T.filter fun p => !decide (p.1 = k)
def getT (k : ByteArray) : List KV → Option ByteArray
  | [] => none
  | p :: r => if p.1 = k then some p.2 else getT k r
def mayB (k v : ByteArray) : Bool := decide (1 ≤ k.size) && decide (k.size ≤ 64) && decide (v.size ≤ 2048)
def putE (most : Int) (k v : ByteArray) (T : List KV) : Int := if mayB k v = false then 1 else if (getT k T).isNone ∧ most ≤ T.length then 9 else 0
def putR (most : Int) (k v : ByteArray) (T : List KV) : List KV := if putE most k v T = 0 then putT k v T else T
def delE (k : ByteArray) (T : List KV) : Int := if (getT k T).isNone then 6 else 0
theorem before_k (a b : ByteArray) : (kLit a).before (kLit b) = ltB a.data.toList b.data.toList := before_ltB _ _
theorem same_k (a b : ByteArray) : (kLit a).sameKey (kLit b) = decide (a = b) := by
  show (a.data.toList == b.data.toList) = _
  by_cases h : a = b
  · subst h; simp
  · rw [decide_eq_false h, beq_eq_false_iff_ne]; exact fun e => h (ba_ext e)
theorem kLit_key (k : ByteArray) : WideAt.IsKeyLit (kLit k) := by simp [kLit, WideAt.IsKeyLit]
theorem Srt.tail {p : KV} {r : List KV} (h : Srt (p :: r)) : Srt r := (List.pairwise_cons.1 h).2
theorem Srt.head {p : KV} {r : List KV} (h : Srt (p :: r)) : ∀ q ∈ r, ltB (ky p) (ky q) = true := (List.pairwise_cons.1 h).1
theorem ltB_ne {a b : ByteArray} (h : ltB a.data.toList b.data.toList = true) : a ≠ b := fun e => by subst e; rw [ltB_irrefl] at h; cases h
theorem filter_none {k : ByteArray} {l : List KV} (h : ∀ q ∈ l, q.1 ≠ k) : (l.map enKV).filter (fun p => !p.1.sameKey (kLit k)) = l.map enKV := by
  rw [List.filter_eq_self]
  intro p hp
  obtain ⟨q, hq, rfl⟩ := List.mem_map.1 hp
  show (!(kLit q.1).sameKey (kLit k)) = true
  rw [same_k, decide_eq_false (h q hq)]; rfl
theorem insert_first {x : KV} {l : List KV} (h : ∀ q ∈ l, ltB (ky x) (ky q) = true) : DataW.insert (enKV x) (l.map enKV) = enKV x :: l.map enKV := by
  cases l with
  | nil => rfl
  | cons q r =>
    show (if (kLit x.1).before (kLit q.1) then _ else _) = _
    rw [before_k]; exact if_pos (h q (by simp))
theorem dm_put {T : List KV} (hs : Srt T) (k v : ByteArray) : (dm T).put (kLit k) (vLit v) = dm (putT k v T) := by
  show DataW.map (DataW.insert (kLit k, vLit v) ((T.map enKV).filter (fun p => !p.1.sameKey (kLit k)))) = DataW.map ((putT k v T).map enKV)
  refine congrArg DataW.map ?_
  induction T with
  | nil => rfl
  | cons p r ih =>
    have ih := ih hs.tail
    have hh := hs.head
    unfold putT
    by_cases h1 : ltB k.data.toList (ky p) = true
    · rw [if_pos h1, filter_none]
      · exact insert_first (x := (k, v)) (l := p :: r) (fun q hq => by
          rcases List.mem_cons.1 hq with e | hq
          · rw [e]; exact h1
          · exact ltB_trans _ _ _ h1 (hh q hq))
      · intro q hq
        rcases List.mem_cons.1 hq with e | hq
        · rw [e]; exact (ltB_ne h1).symm
        · exact (ltB_ne (a := k) (b := q.1) (ltB_trans _ _ _ h1 (hh q hq))).symm
    · rw [if_neg h1]
      by_cases h2 : p.1 = k
      · rw [if_pos h2]
        have e : ((p :: r).map enKV).filter (fun p => !p.1.sameKey (kLit k)) = (r.map enKV).filter (fun p => !p.1.sameKey (kLit k)) := by
          rw [List.map_cons, List.filter_cons]
          have : (!(enKV p).1.sameKey (kLit k)) = false := by show (!(kLit p.1).sameKey (kLit k)) = false; rw [same_k, decide_eq_true h2]; rfl
          rw [this]; simp
        rw [e, filter_none (fun q hq => by
          have := hh q hq
          rw [ky, h2] at this
          exact (ltB_ne (a := k) (b := q.1) this).symm)]
        exact insert_first (x := (k, v)) (l := r) (fun q hq => by have := hh q hq; rw [ky, h2] at this; exact this)
      · rw [if_neg h2]
        have e : ((p :: r).map enKV).filter (fun p => !p.1.sameKey (kLit k)) = enKV p :: (r.map enKV).filter (fun p => !p.1.sameKey (kLit k)) := by
          rw [List.map_cons, List.filter_cons]
          have : (!(enKV p).1.sameKey (kLit k)) = true := by show (!(kLit p.1).sameKey (kLit k)) = true; rw [same_k, decide_eq_false h2]; rfl
          rw [this]; simp
        rw [e, List.map_cons, ← ih]
        show (if (kLit k).before (kLit p.1) then _ else _) = _
        rw [before_k]; exact if_neg h1
theorem dm_del (k : ByteArray) (T : List KV) : (dm T).del (kLit k) = dm (delT k T) := by
  show DataW.map ((T.map enKV).filter (fun p => !p.1.sameKey (kLit k))) = DataW.map ((T.filter fun p => !decide (p.1 = k)).map enKV)
  refine congrArg DataW.map ?_
  rw [List.filter_map]
  refine congrArg (List.map enKV) (List.filter_congr fun p _ => ?_)
  show (!(kLit p.1).sameKey (kLit k)) = _
  rw [same_k]
theorem dm_find (k : ByteArray) : ∀ T : List KV, (T.map enKV).find? (fun p => p.1.sameKey (kLit k)) = (getT k T).map fun v => (kLit k, vLit v)
  | [] => rfl
  | p :: r => by
    rw [List.map_cons, List.find?_cons]
    unfold getT
    by_cases h : p.1 = k
    · have : (enKV p).1.sameKey (kLit k) = true := by show (kLit p.1).sameKey (kLit k) = true; rw [same_k, decide_eq_true h]
      rw [this, if_pos h]
      show some (enKV p) = some _
      rw [enKV, h]
    · have : (enKV p).1.sameKey (kLit k) = false := by show (kLit p.1).sameKey (kLit k) = false; rw [same_k, decide_eq_false h]
      rw [this, if_neg h]
      exact dm_find k r
theorem dm_at (k : ByteArray) (T : List KV) (z : DataW Unit) : (dm T).atKey (kLit k) z = ((getT k T).map vLit).getD z := by
  have h := dm_find k T
  unfold dm DataW.atKey
  dsimp only
  rw [h]
  cases getT k T <;> rfl
theorem dm_has (k : ByteArray) (T : List KV) : Maps.has (dm T) (kLit k) = (getT k T).isSome := by
  show (T.map enKV).any (fun p => p.1.sameKey (kLit k)) = _
  have := dm_find k T
  cases hg : getT k T with
  | none =>
    rw [hg] at this
    have h := List.find?_eq_none.1 this
    rw [Option.isSome_none, List.any_eq_false]
    exact h
  | some v =>
    rw [hg] at this
    have hm := List.mem_of_find?_eq_some this
    rw [Option.isSome_some, List.any_eq_true]
    exact ⟨_, hm, WideAt.sameKey_self (kLit_key k)⟩
theorem dm_size (T : List KV) : Maps.size (dm T) = T.length := by show (T.map enKV).length = _; simp
/- what a table does to its rows -/
theorem putT_srt {T : List KV} (hs : Srt T) (k v : ByteArray) : Srt (putT k v T) := by
  induction T with
  | nil => exact List.pairwise_singleton _ _
  | cons p r ih =>
    have hh := hs.head
    unfold putT
    by_cases h1 : ltB k.data.toList (ky p) = true
    · rw [if_pos h1]
      refine List.pairwise_cons.2 ⟨fun q hq => ?_, hs⟩
      rcases List.mem_cons.1 hq with e | hq
      · rw [e]; exact h1
      · exact ltB_trans _ _ _ h1 (hh q hq)
    · rw [if_neg h1]
      by_cases h2 : p.1 = k
      · rw [if_pos h2]
        refine List.pairwise_cons.2 ⟨fun q hq => ?_, hs.tail⟩
        have := hh q hq
        rw [ky, h2] at this
        exact this
      · rw [if_neg h2]
        refine List.pairwise_cons.2 ⟨fun q hq => ?_, ih hs.tail⟩
        have hkp : ltB (ky p) k.data.toList = true := by
          rcases ltB_total (by simpa using h1) with e | e
          · exact absurd (ba_ext e.symm) h2
          · exact e
        clear ih
        induction r with
        | nil => simp [putT] at hq; rw [hq]; exact hkp
        | cons x s ihs =>
          unfold putT at hq
          split at hq
          · rcases List.mem_cons.1 hq with e | hq
            · rw [e]; exact hkp
            · exact hh q hq
          · split at hq
            · rcases List.mem_cons.1 hq with e | hq
              · rw [e]; exact hkp
              · exact hh q (List.mem_cons_of_mem _ hq)
            · rcases List.mem_cons.1 hq with e | hq
              · rw [e]; exact hh x (by simp)
              · refine ihs ?_ (fun q hq => hh q (List.mem_cons_of_mem _ hq)) hq
                exact List.pairwise_cons.2 ⟨fun q hq => hh q (List.mem_cons_of_mem _ hq), hs.tail.tail⟩
theorem delT_srt {T : List KV} (hs : Srt T) (k : ByteArray) : Srt (delT k T) := hs.sublist List.filter_sublist
theorem getT_put (k v : ByteArray) (T : List KV) (hs : Srt T) (k' : ByteArray) : getT k' (putT k v T) = if k' = k then some v else getT k' T := by
  induction T with
  | nil =>
    unfold putT getT
    by_cases h : k' = k
    · rw [if_pos h.symm, if_pos h]
    · rw [if_neg (Ne.symm h), if_neg h]; rfl
  | cons p r ih =>
    have ih := ih hs.tail
    have hh := hs.head
    by_cases h : k' = k
    · subst h
      rw [if_pos rfl] at ih ⊢
      unfold putT
      split
      · simp [getT]
      · split
        · simp [getT]
        · next h2 => rw [getT, if_neg h2]; exact ih
    · rw [if_neg h] at ih ⊢
      unfold putT
      split
      · rw [getT, if_neg (Ne.symm h)]
      · split
        · next h2 => rw [getT, if_neg (Ne.symm h), getT, if_neg (fun e => h (by rw [← e, h2]))]
        · rw [getT, ih]; conv => rhs; rw [getT]
theorem getT_del (k : ByteArray) (T : List KV) (k' : ByteArray) : getT k' (delT k T) = if k' = k then none else getT k' T := by
  unfold delT
  induction T with
  | nil => simp [getT]
  | cons p r ih =>
    rw [List.filter_cons]
    by_cases h : p.1 = k
    · simp only [h, decide_true, Bool.not_true, Bool.false_eq_true, if_false]
      rw [ih]
      by_cases h' : k' = k
      · rw [if_pos h', if_pos h']
      · rw [if_neg h', if_neg h', getT, if_neg (fun e => h' (by rw [← e, h]))]
    · simp only [h, decide_false, Bool.not_false, if_true]
      rw [getT, ih]
      by_cases h' : k' = k
      · rw [if_pos h', if_pos h', if_neg (fun e => h (by rw [e, h']))]
      · rw [if_neg h', if_neg h']; conv => rhs; rw [getT]
theorem getT_none {k : ByteArray} {T : List KV} : getT k T = none ↔ ∀ p ∈ T, p.1 ≠ k := by
  induction T with
  | nil => simp [getT]
  | cons p r ih =>
    unfold getT
    by_cases h : p.1 = k
    · simp [h]
    · rw [if_neg h, ih]; simp [h]
theorem putT_len (k v : ByteArray) (T : List KV) (hs : Srt T) : (putT k v T).length = if (getT k T).isSome then T.length else T.length + 1 := by
  induction T with
  | nil => simp [putT, getT]
  | cons p r ih =>
    have ih := ih hs.tail
    have hh := hs.head
    unfold putT
    by_cases h1 : ltB k.data.toList (ky p) = true
    · rw [if_pos h1]
      have : getT k (p :: r) = none := getT_none.2 (fun q hq => by
        rcases List.mem_cons.1 hq with e | hq
        · rw [e]; exact (ltB_ne h1).symm
        · exact (ltB_ne (a := k) (b := q.1) (ltB_trans _ _ _ h1 (hh q hq))).symm)
      simp [this]
    · rw [if_neg h1]
      by_cases h2 : p.1 = k
      · rw [if_pos h2, getT, if_pos h2]; simp
      · rw [if_neg h2, getT, if_neg h2, List.length_cons, ih, List.length_cons]
        split <;> omega
theorem delT_len (k : ByteArray) (T : List KV) (hs : Srt T) : (delT k T).length = if (getT k T).isSome then T.length - 1 else T.length := by
  induction T with
  | nil => simp [delT, getT]
  | cons p r ih =>
    have ih := ih hs.tail
    have hh := hs.head
    unfold delT at ih ⊢
    rw [List.filter_cons, getT]
    by_cases h : p.1 = k
    · have : r.filter (fun p => !decide (p.1 = k)) = r := List.filter_eq_self.2 (fun q hq => by
        have := hh q hq
        rw [ky, h] at this
        simp [(ltB_ne (a := k) (b := q.1) this).symm])
      simp [h, this]
    · simp only [h, decide_false, Bool.not_false, if_true, if_false, List.length_cons]
      rw [ih]
      split
      · next hs' =>
        have : 0 < r.length := by
          cases r with
          | nil => simp [getT] at hs'
          | cons _ _ => simp
        omega
      · rfl
end Go.Proofs.Ythmkoehocjfjgaa
