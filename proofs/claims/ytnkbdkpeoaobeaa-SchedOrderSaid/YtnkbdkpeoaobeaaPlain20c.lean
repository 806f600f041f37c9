/- Plain words of sched, more: the order of items; those that are due, in their order. No program. -/
import Derived.Test.YtnkbdkpeoaobeaaPlain20

import Derived.Shelf.SlSortCmp.Insertion
import Derived.Lib.Bytealg
import Derived.Lib.Small
namespace Go.Proofs.Ytnkbdkpeoaobeaa
open Go.Lib Go.Sort

/-- Byte by byte. -/
def ltB : List UInt8 → List UInt8 → Bool
  | _, [] => false
  | [], _ :: _ => true
  | a :: r, b :: s => if a < b then true else if b < a then false else ltB r s
theorem ltB_irrefl : ∀ a, ltB a a = false
  | [] => rfl
  | a :: r => by unfold ltB; rw [if_neg (UInt8.lt_irrefl a), if_neg (UInt8.lt_irrefl a)]; exact ltB_irrefl r
theorem u8_eq {a b : UInt8} (h : ¬ a < b) (h' : ¬ b < a) : a = b := UInt8.le_antisymm (UInt8.not_lt.1 h') (UInt8.not_lt.1 h)
theorem ltB_eq : ∀ a b, ltB a b = false → ltB b a = false → a = b
  | [], [], _, _ => rfl
  | [], _ :: _, h, _ => by simp [ltB] at h
  | _ :: _, [], _, h => by simp [ltB] at h
  | a :: r, b :: s, h, h' => by
    unfold ltB at h h'
    by_cases h1 : a < b
    · rw [if_pos h1] at h; cases h
    · by_cases h2 : b < a
      · rw [if_pos h2] at h'; cases h'
      · rw [if_neg h1, if_neg h2] at h
        rw [if_neg h2, if_neg h1] at h'
        rw [u8_eq h1 h2, ltB_eq r s h h']
theorem ltB_trans : ∀ a b c, ltB a b = true → ltB b c = true → ltB a c = true
  | _, [], _, h, _ => by simp [ltB] at h
  | _, _ :: _, [], _, h => by simp [ltB] at h
  | [], _ :: _, _ :: _, _, _ => rfl
  | a :: r, b :: s, c :: t, h, h' => by
    unfold ltB at h h' ⊢
    by_cases h1 : a < b
    · by_cases h2 : b < c
      · rw [if_pos (UInt8.lt_trans h1 h2)]
      · by_cases h3 : c < b
        · rw [if_neg h2, if_pos h3] at h'; cases h'
        · rw [← u8_eq h2 h3, if_pos h1]
    · by_cases h2 : b < a
      · rw [if_neg h1, if_pos h2] at h; cases h
      · rw [if_neg h1, if_neg h2] at h
        have e := u8_eq h1 h2
        subst e
        by_cases h3 : a < c
        · rw [if_pos h3]
        · by_cases h4 : c < a
          · rw [if_neg h3, if_pos h4] at h'; cases h'
          · rw [if_neg h3, if_neg h4] at h' ⊢
            exact ltB_trans r s t h h'
theorem ltB_app : ∀ p a b, ltB (p ++ a) (p ++ b) = ltB a b
  | [], _, _ => rfl
  | x :: p, a, b => by
    show ltB (x :: (p ++ a)) (x :: (p ++ b)) = _
    rw [ltB, if_neg (UInt8.lt_irrefl x), if_neg (UInt8.lt_irrefl x)]; exact ltB_app p a b
theorem compareBytes_neg : ∀ a b, decide (compareBytes a b < 0) = ltB a b
  | [], [] => rfl
  | [], _ :: _ => rfl
  | _ :: _, [] => rfl
  | a :: r, b :: s => by
    unfold compareBytes ltB
    by_cases h1 : a < b
    · rw [if_pos h1, if_pos h1]; rfl
    · by_cases h2 : b < a
      · rw [if_neg h1, if_pos h2, if_neg h1, if_pos h2]; rfl
      · rw [if_neg h1, if_neg h2, if_neg h1, if_neg h2]; exact compareBytes_neg r s

def It.chl (x : It) : List UInt8 := x.ch.data.toList
/-- Which of two is to be claimed first. -/
def ltI (x y : It) : Bool := decide (x.ex < y.ex) || (decide (x.ex = y.ex) && ltB x.chl y.chl)
theorem ltI_irrefl (x : It) : ltI x x = false := by simp [ltI, ltB_irrefl]
theorem ltI_trans (x y z : It) (h : ltI x y = true) (h' : ltI y z = true) : ltI x z = true := by
  simp only [ltI, Bool.or_eq_true, Bool.and_eq_true, decide_eq_true_eq] at h h' ⊢
  rcases h with h | ⟨h, k⟩ <;> rcases h' with h' | ⟨h', k'⟩
  · left; omega
  · left; omega
  · left; omega
  · right; exact ⟨by omega, ltB_trans _ _ _ k k'⟩
theorem ltI_same {x y : It} (h : ltI x y = false) (h' : ltI y x = false) : x.ex = y.ex ∧ x.chl = y.chl := by
  simp only [ltI, Bool.or_eq_false_iff, Bool.and_eq_false_iff, decide_eq_false_iff_not] at h h'
  have e : x.ex = y.ex := by omega
  refine ⟨e, ltB_eq _ _ ?_ ?_⟩
  · rcases h.2 with k | k
    · exact absurd e k
    · exact k
  · rcases h'.2 with k | k
    · exact absurd e.symm k
    · exact k
theorem ltI_congr {x y x' y' : It} (h : x.ex = x'.ex ∧ x.chl = x'.chl) (h' : y.ex = y'.ex ∧ y.chl = y'.chl) : ltI x y = ltI x' y' := by
  simp only [ltI, h.1, h.2, h'.1, h'.2]
theorem ltI_ntrans (x y z : It) (h : ltI x y = false) (h' : ltI y z = false) : ltI x z = false := by
  cases hx : ltI x z
  · rfl
  · cases hyx : ltI y x
    · have e := ltI_same h hyx
      rw [ltI_congr e ⟨rfl, rfl⟩] at hx
      rw [hx] at h'; cases h'
    · have := ltI_trans _ _ _ hyx hx
      rw [this] at h'; cases h'
theorem ltI_swo : SWO ltI := ⟨ltI_irrefl, ltI_trans, ltI_ntrans⟩

/-- Each one put behind all that it does not stand ahead of. -/
def insI (x : It) (l : List It) : List It := l.takeWhile (fun y => !ltI x y) ++ x :: l.dropWhile (fun y => !ltI x y)
def goodI (h m : Int) (x : It) : Bool := decide (10 < x.wo) && (x.cl || decide (deadl x.ex m ≤ h))
def insAll (l : List It) : List It := l.foldl (fun a x => insI x a) []
def dueI (h m : Int) (l : List It) : List It := insAll (l.filter (goodI h m))
def Asc (l : List It) : Prop := l.Pairwise fun a b => ltI b a = false
theorem insI_perm (x : It) (l : List It) : (insI x l).Perm (x :: l) := by
  unfold insI
  refine List.perm_middle.trans ?_
  rw [List.takeWhile_append_dropWhile]
theorem insI_asc (x : It) (l : List It) (h : Asc l) : Asc (insI x l) := by
  induction l with
  | nil => simp [insI, Asc]
  | cons y r ih =>
    unfold Asc at h ih ⊢
    rw [List.pairwise_cons] at h
    unfold insI
    cases hy : ltI x y
    · have e : (!ltI x y) = true := by simp [hy]
      rw [List.takeWhile_cons_of_pos (p := fun y => !ltI x y) e, List.dropWhile_cons_of_pos (p := fun y => !ltI x y) e, List.cons_append, List.pairwise_cons]
      refine ⟨fun z hz => ?_, ih h.2⟩
      have hz' : z ∈ x :: r := (insI_perm x r).mem_iff.1 hz
      rcases List.mem_cons.1 hz' with rfl | hz'
      · exact hy
      · exact h.1 z hz'
    · have e : ¬ (!ltI x y) = true := by simp [hy]
      rw [List.takeWhile_cons_of_neg (p := fun y => !ltI x y) e, List.dropWhile_cons_of_neg (p := fun y => !ltI x y) e, List.nil_append, List.pairwise_cons, List.pairwise_cons]
      refine ⟨fun z hz => ?_, h⟩
      rcases List.mem_cons.1 hz with rfl | hz'
      · cases hzx : ltI z x
        · rfl
        · have := ltI_trans _ _ _ hy hzx; rw [ltI_irrefl] at this; cases this
      · cases hzx : ltI z x
        · rfl
        · have := ltI_trans _ _ _ hzx hy
          rw [h.1 z hz'] at this; cases this
theorem insAll_to (l : List It) : ∀ a, Asc a → Asc (l.foldl (fun a x => insI x a) a) ∧ (l.foldl (fun a x => insI x a) a).Perm (a ++ l) := by
  induction l with
  | nil => intro a h; exact ⟨h, by simp⟩
  | cons x r ih =>
    intro a h
    obtain ⟨h1, h2⟩ := ih (insI x a) (insI_asc x a h)
    refine ⟨h1, h2.trans ?_⟩
    refine ((insI_perm x a).append_right r).trans ?_
    rw [List.cons_append]
    exact List.perm_middle.symm
theorem dueI_asc (h m : Int) (l : List It) : Asc (dueI h m l) := (insAll_to _ [] List.Pairwise.nil).1
theorem dueI_perm (h m : Int) (l : List It) : (dueI h m l).Perm (l.filter (goodI h m)) := by
  have := (insAll_to (l.filter (goodI h m)) [] List.Pairwise.nil).2
  rw [List.nil_append] at this
  exact this

/-- Two lists in order of the same items have the same names. -/
def It.key (x : It) : Int × ByteArray := (x.ex, x.ch)
def ltK (a b : Int × ByteArray) : Bool := decide (a.1 < b.1) || (decide (a.1 = b.1) && ltB a.2.data.toList b.2.data.toList)
theorem key_eq {a b : Int × ByteArray} (h : ltK a b = false) (h' : ltK b a = false) : a = b := by
  obtain ⟨a1, ⟨⟨a2⟩⟩⟩ := a
  obtain ⟨b1, ⟨⟨b2⟩⟩⟩ := b
  have := ltI_same (x := ⟨⟨⟨a2⟩⟩, a1, 0, false⟩) (y := ⟨⟨⟨b2⟩⟩, b1, 0, false⟩) h h'
  obtain ⟨e1, e2⟩ := this
  have e1' : a1 = b1 := e1
  have e2' : a2 = b2 := e2
  rw [e1', e2']
theorem asc_keys {l l' : List It} (hp : l.Perm l') (h : Asc l) (h' : Asc l') : l.map It.key = l'.map It.key := by
  refine List.Perm.eq_of_pairwise (le := fun a b => ltK b a = false) (fun a b _ _ h1 h2 => key_eq h2 h1) ?_ ?_ (hp.map _)
  · exact List.pairwise_map.2 h
  · exact List.pairwise_map.2 h'
theorem asc_names {l l' : List It} (hp : l.Perm l') (h : Asc l) (h' : Asc l') : l.map It.ch = l'.map It.ch := by
  have := congrArg (List.map Prod.snd) (asc_keys hp h h')
  simpa [List.map_map, It.key, Function.comp_def] using this
theorem Asc.filter {l : List It} (h : Asc l) (p : It → Bool) : Asc (l.filter p) := List.Pairwise.filter p h
/-- Sorted first, then told: the same names. -/
def lateI (h m : Int) (x : It) : Bool := x.cl || decide (deadl x.ex m ≤ h)
theorem due_names {h m : Int} {l l' : List It} (hp : l'.Perm (worthL l)) (hs : Asc l') : (l'.filter (lateI h m)).map It.ch = (dueI h m l).map It.ch := by
  refine asc_names ?_ (hs.filter _) (dueI_asc h m l)
  refine (hp.filter _).trans ((?_ : List.Perm _ _).trans (dueI_perm h m l).symm)
  unfold worthL
  rw [List.filter_filter]
  refine List.Perm.of_eq (List.filter_congr fun x _ => ?_)
  simp [goodI, lateI, Bool.and_comm]
end Go.Proofs.Ytnkbdkpeoaobeaa
