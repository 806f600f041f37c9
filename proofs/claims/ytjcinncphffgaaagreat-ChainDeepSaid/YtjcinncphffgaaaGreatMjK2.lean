/- slices.Clone of any inputs, outputs, wins, transactions. A row of structs in a block that is known by its list; one of them is written. -/
import Derived.Outline
import Derived.OwnWalk
import Derived.Lib.SliceRun
import Derived.Test.YtjcinncphffgaaaGreatMjG15
import Derived.Test.YtjcinncphffgaaaGreatMjG24
import Derived.Test.YtjcinncphffgaaaGreatMjG25
import Derived.Test.YtjcinncphffgaaaGreatMjG29
import Derived.Test.YtjcinncphffgaaaGreatMjN7
set_option linter.unusedVariables false
set_option linter.unusedSimpArgs false
namespace Go.Proofs.YtjcinncphffgaaaGreat
open Go.RowKit Go.Maps
theorem Tryz.infoTxC : (Tryz.prog.info? 53).map (fun i => (i.zero, i.size, i.bytes)) = some (some (.agg zTxK), 6, 112) := by kernel_rfl
theorem clone_inG1 (l : List Inp) : ∀ u ∈ l.flatMap Inp.cl, u.oneCell' = true := by
  intro u hu
  obtain ⟨o, _, ho⟩ := List.mem_flatMap.1 hu
  exact Array.all_eq_true'.1 (incs_one o) u (by simpa [Inp.cl] using ho)
set_option maxRecDepth 100000 in
set_option maxHeartbeats 400000 in
theorem clone_inG (A : Option Addr) (l : List Inp) (c : Nat) (w : World) (hS : Sl w w.heap.size 4 Inp.cl A l) (hl : l.length ≤ 1000) (hA : A = none → c = 0) :
    Calls Tryz.prog 78 #[.slice A l.length c] w fun e w' => ∃ A' c', e = .returned (.slice A' l.length c') ∧ w'.ownsRow w.heap.size 59 4 (.slice A' l.length c') l.length (l.flatMap Inp.cl) ∧ (A' = none → c' = 0) ∧ Below w.heap.size w w' := by
  obtain ⟨i0, hi, hz0, hz1, hz2⟩ := info_parts Tryz.infoInC
  have Hhz := Lib.hid hz0
  clear hz0
  have qT : ∀ (w : World) (a : Option Addr) (n c n' c' : Nat), (binOp .eql 47 (.slice a n c) (.slice none n' c')).run Tryz.prog w = .ok (.bool a.isNone) w := fun w a n c n' c' => Lib.run_eql_slice_nil w _ _ a n c n' c' Tryz.underlying47
  cases A with
  | none =>
    have he : l = [] := by
      cases l with
      | nil => rfl
      | cons x r => obtain ⟨b, off, e, _⟩ := hS (by simp); cases e
    subst he
    rw [hA rfl]
    clear hS hA
    go_enter Tryz.func78, Tryz.ntmps78
    go_wp2
    go_ret
    exact ⟨none, 0, rfl, own_nil0 _ _ _ _, fun _ => rfl, Below.refl _ _⟩
  | some a =>
    have HN : Hid (∀ o, ∀ j u, (l.flatMap Inp.cl)[j]? = some u → (w.alloc o).cell? (a.add j) = some u) := fun o j u hu => by
      obtain ⟨i, x, q, h1, h2, h3⟩ := flat_at Inp.cl 4 (fun _ => rfl) l j u hu
      have hne : l ≠ [] := by rintro rfl; simp at h1
      obtain ⟨b, off, e, hb, hc⟩ := hS hne
      injection e with e
      subst e
      rw [addr_addA, World.cell?_alloc_lt w o _ hb, h3, ← Nat.add_assoc]
      exact hc i x h1 q u h2
    have HL := Lib.hid (flatMap_len Inp.cl 4 (fun _ => rfl) l)
    clear hS hA
    go_enter Tryz.func78, Tryz.ntmps78
    go_wp2_with (first
      | (at_builtin; go_must (refine wpList_append_own _ rfl (.tmp 5) (.tmp 6) _ rfl w.heap.size 59 i0 _ 4 48 Tryz.underlying47 hi Hhz.out hz1 hz2 rfl (by decide) _ 0 [] rfl (own_empty (Blk.new _ _ _) (Nat.le_refl _)) a l.length c (l.flatMap Inp.cl) rfl HL.out (HN.out _) (clone_inG1 l) (by simp only [maxLen]; omega) (by omega) (by simp) ?_); intro v' w2 hown1 hg1 hnil1))
    have HO2 := Lib.hid hown1
    have HB2 : Hid (Below w.heap.size w w2) := ((Below.refl w.heap.size w).alloc (Nat.le_refl _) _).grown hg1 (by simp) (fun j hj => by cases hj; exact Nat.le_refl _)
    clear hown1 hg1 hnil1
    rw [Nat.zero_add, List.nil_append] at HO2
    obtain ⟨A2, c2, rfl⟩ := own_form HO2.out
    go_ret
    exact ⟨A2, c2, rfl, HO2.out, fun h => by subst h; exact own_noneC HO2.out, HB2.out⟩
theorem clone_outG1 (l : List Ou) : ∀ u ∈ l.flatMap Ou.cl, u.oneCell' = true := by
  intro u hu
  obtain ⟨o, _, ho⟩ := List.mem_flatMap.1 hu
  exact Array.all_eq_true'.1 (oucs_one o) u (by simpa [Ou.cl] using ho)
set_option maxRecDepth 100000 in
set_option maxHeartbeats 400000 in
theorem clone_outG (A : Option Addr) (l : List Ou) (c : Nat) (w : World) (hS : Sl w w.heap.size 9 Ou.cl A l) (hl : l.length ≤ 1000) (hA : A = none → c = 0) :
    Calls Tryz.prog 79 #[.slice A l.length c] w fun e w' => ∃ A' c', e = .returned (.slice A' l.length c') ∧ w'.ownsRow w.heap.size 81 9 (.slice A' l.length c') l.length (l.flatMap Ou.cl) ∧ (A' = none → c' = 0) ∧ Below w.heap.size w w' := by
  obtain ⟨i0, hi, hz0, hz1, hz2⟩ := info_parts Tryz.infoOutC
  have Hhz := Lib.hid hz0
  clear hz0
  have qT : ∀ (w : World) (a : Option Addr) (n c n' c' : Nat), (binOp .eql 22 (.slice a n c) (.slice none n' c')).run Tryz.prog w = .ok (.bool a.isNone) w := fun w a n c n' c' => Lib.run_eql_slice_nil w _ _ a n c n' c' Tryz.underlying22
  cases A with
  | none =>
    have he : l = [] := by
      cases l with
      | nil => rfl
      | cons x r => obtain ⟨b, off, e, _⟩ := hS (by simp); cases e
    subst he
    rw [hA rfl]
    clear hS hA
    go_enter Tryz.func79, Tryz.ntmps79
    go_wp2
    go_ret
    exact ⟨none, 0, rfl, own_nil0 _ _ _ _, fun _ => rfl, Below.refl _ _⟩
  | some a =>
    have HN : Hid (∀ o, ∀ j u, (l.flatMap Ou.cl)[j]? = some u → (w.alloc o).cell? (a.add j) = some u) := fun o j u hu => by
      obtain ⟨i, x, q, h1, h2, h3⟩ := flat_at Ou.cl 9 (fun _ => rfl) l j u hu
      have hne : l ≠ [] := by rintro rfl; simp at h1
      obtain ⟨b, off, e, hb, hc⟩ := hS hne
      injection e with e
      subst e
      rw [addr_addA, World.cell?_alloc_lt w o _ hb, h3, ← Nat.add_assoc]
      exact hc i x h1 q u h2
    have HL := Lib.hid (flatMap_len Ou.cl 9 (fun _ => rfl) l)
    clear hS hA
    go_enter Tryz.func79, Tryz.ntmps79
    go_wp2_with (first
      | (at_builtin; go_must (refine wpList_append_own _ rfl (.tmp 5) (.tmp 6) _ rfl w.heap.size 81 i0 _ 9 104 Tryz.underlying22 hi Hhz.out hz1 hz2 rfl (by decide) _ 0 [] rfl (own_empty (Blk.new _ _ _) (Nat.le_refl _)) a l.length c (l.flatMap Ou.cl) rfl HL.out (HN.out _) (clone_outG1 l) (by simp only [maxLen]; omega) (by omega) (by simp) ?_); intro v' w2 hown1 hg1 hnil1))
    have HO2 := Lib.hid hown1
    have HB2 : Hid (Below w.heap.size w w2) := ((Below.refl w.heap.size w).alloc (Nat.le_refl _) _).grown hg1 (by simp) (fun j hj => by cases hj; exact Nat.le_refl _)
    clear hown1 hg1 hnil1
    rw [Nat.zero_add, List.nil_append] at HO2
    obtain ⟨A2, c2, rfl⟩ := own_form HO2.out
    go_ret
    exact ⟨A2, c2, rfl, HO2.out, fun h => by subst h; exact own_noneC HO2.out, HB2.out⟩
theorem clone_wnG1 (l : List Wn) : ∀ u ∈ l.flatMap Wn.cl, u.oneCell' = true := by
  intro u hu
  obtain ⟨o, _, ho⟩ := List.mem_flatMap.1 hu
  exact Array.all_eq_true'.1 (wncs_one o) u (by simpa [Wn.cl] using ho)
set_option maxRecDepth 100000 in
set_option maxHeartbeats 400000 in
theorem clone_wnG (A : Option Addr) (l : List Wn) (c : Nat) (w : World) (hS : Sl w w.heap.size 10 Wn.cl A l) (hl : l.length ≤ 1000) (hA : A = none → c = 0) :
    Calls Tryz.prog 80 #[.slice A l.length c] w fun e w' => ∃ A' c', e = .returned (.slice A' l.length c') ∧ w'.ownsRow w.heap.size 122 10 (.slice A' l.length c') l.length (l.flatMap Wn.cl) ∧ (A' = none → c' = 0) ∧ Below w.heap.size w w' := by
  obtain ⟨i0, hi, hz0, hz1, hz2⟩ := info_parts Tryz.infoWnC
  have Hhz := Lib.hid hz0
  clear hz0
  have qT : ∀ (w : World) (a : Option Addr) (n c n' c' : Nat), (binOp .eql 49 (.slice a n c) (.slice none n' c')).run Tryz.prog w = .ok (.bool a.isNone) w := fun w a n c n' c' => Lib.run_eql_slice_nil w _ _ a n c n' c' Tryz.underlying49
  cases A with
  | none =>
    have he : l = [] := by
      cases l with
      | nil => rfl
      | cons x r => obtain ⟨b, off, e, _⟩ := hS (by simp); cases e
    subst he
    rw [hA rfl]
    clear hS hA
    go_enter Tryz.func80, Tryz.ntmps80
    go_wp2
    go_ret
    exact ⟨none, 0, rfl, own_nil0 _ _ _ _, fun _ => rfl, Below.refl _ _⟩
  | some a =>
    have HN : Hid (∀ o, ∀ j u, (l.flatMap Wn.cl)[j]? = some u → (w.alloc o).cell? (a.add j) = some u) := fun o j u hu => by
      obtain ⟨i, x, q, h1, h2, h3⟩ := flat_at Wn.cl 10 (fun _ => rfl) l j u hu
      have hne : l ≠ [] := by rintro rfl; simp at h1
      obtain ⟨b, off, e, hb, hc⟩ := hS hne
      injection e with e
      subst e
      rw [addr_addA, World.cell?_alloc_lt w o _ hb, h3, ← Nat.add_assoc]
      exact hc i x h1 q u h2
    have HL := Lib.hid (flatMap_len Wn.cl 10 (fun _ => rfl) l)
    clear hS hA
    go_enter Tryz.func80, Tryz.ntmps80
    go_wp2_with (first
      | (at_builtin; go_must (refine wpList_append_own _ rfl (.tmp 5) (.tmp 6) _ rfl w.heap.size 122 i0 _ 10 112 Tryz.underlying49 hi Hhz.out hz1 hz2 rfl (by decide) _ 0 [] rfl (own_empty (Blk.new _ _ _) (Nat.le_refl _)) a l.length c (l.flatMap Wn.cl) rfl HL.out (HN.out _) (clone_wnG1 l) (by simp only [maxLen]; omega) (by omega) (by simp) ?_); intro v' w2 hown1 hg1 hnil1))
    have HO2 := Lib.hid hown1
    have HB2 : Hid (Below w.heap.size w w2) := ((Below.refl w.heap.size w).alloc (Nat.le_refl _) _).grown hg1 (by simp) (fun j hj => by cases hj; exact Nat.le_refl _)
    clear hown1 hg1 hnil1
    rw [Nat.zero_add, List.nil_append] at HO2
    obtain ⟨A2, c2, rfl⟩ := own_form HO2.out
    go_ret
    exact ⟨A2, c2, rfl, HO2.out, fun h => by subst h; exact own_noneC HO2.out, HB2.out⟩
end Go.Proofs.YtjcinncphffgaaaGreat
namespace Go.Proofs.YtjcinncphffgaaaGreat
open Go.RowKit
/-- a block's first cells read as a list, each of its elements of k cells -/
def Rw {α : Type} (w : World) (g k : Nat) (t : TypeId) (enc : α → List Value) (l : List α) : Prop :=
  ∃ cur : Array Value, Blk w g t cur ∧ l.length * k ≤ cur.size ∧ ∀ (j : Nat) (u : Value), (l.flatMap enc)[j]? = some u → cur[j]? = some u
section
variable {α : Type} {w w' : World} {g k : Nat} {t : TypeId} {enc : α → List Value} {l : List α}
theorem Rw.bel (h : Rw w g k t enc l) (hb : Below w.heap.size w w') : Rw w' g k t enc l := by
  obtain ⟨cur, h1, h2, h3⟩ := h
  exact ⟨cur, h1.bel hb, h2, h3⟩
theorem Rw.ch {S : List Nat} (h : Rw w g k t enc l) (hc : Ch S w w') (hn : g ∉ S) : Rw w' g k t enc l := by
  obtain ⟨cur, h1, h2, h3⟩ := h
  exact ⟨cur, h1.ch hc hn, h2, h3⟩
theorem Rw.lt (h : Rw w g k t enc l) : g < w.heap.size := by
  obtain ⟨cur, h1, _⟩ := h
  exact h1.lt
theorem Rw.cells (hk : ∀ x, (enc x).length = k) (h : Rw w g k t enc l) (i : Nat) (hi : i < l.length) : ∀ j u, (enc l[i])[j]? = some u → w.cell? ⟨g, i * k + j, none⟩ = some u := fun j u hu => by
  obtain ⟨cur, h1, h2, h3⟩ := h
  rw [h1.cell]
  exact h3 _ _ (flatMap_get enc k hk l i j l[i] u (List.getElem?_eq_getElem hi) hu)
theorem Rw.sl (hk : ∀ x, (enc x).length = k) (h : Rw w g k t enc l) : Sl w w.heap.size k enc (some ⟨g, 0, none⟩) l := fun _ => by
  have h0 := h.lt
  refine ⟨g, 0, rfl, h0, fun i x hx j u hu => ?_⟩
  have hi := (List.getElem?_eq_some_iff.1 hx).1
  have hx' : l[i] = x := (List.getElem?_eq_some_iff.1 hx).2
  have := h.cells hk i hi j u (by rw [hx']; exact hu)
  rw [Nat.zero_add]; exact this
theorem Rw.of_own {base c : Nat} {A : Option Addr} (hk : ∀ x, (enc x).length = k) (h : w.ownsRow base t k (.slice A l.length c) l.length (l.flatMap enc)) (hl : 0 < l.length) : ∃ g, A = some ⟨g, 0, none⟩ ∧ base ≤ g ∧ Rw w g k t enc l := by
  obtain ⟨_, h | ⟨g, cap, cur, hv, h1, h2, h3, h4, h5, h6⟩⟩ := h
  · omega
  · injection hv with hA _ _
    have hle : l.length * k ≤ cap * k := Nat.mul_le_mul_right k (by omega)
    refine ⟨g, hA, h1, cur, h2, by omega, fun j u hu => ?_⟩
    have hlt := (List.getElem?_eq_some_iff.1 hu).1
    rw [flatMap_len enc k hk] at hlt
    rw [← Array.getElem?_toList]
    rw [← h6, List.getElem?_take_of_lt hlt] at hu
    exact hu
theorem set_get (hk : ∀ x, (enc x).length = k) (l : List α) (i : Nat) (y : α) (hi : i < l.length) (j : Nat) : ((l.set i y).flatMap enc)[j]? = if i * k ≤ j ∧ j < i * k + k then (enc y)[j - i * k]? else (l.flatMap enc)[j]? := by
  have e : l.set i y = l.take i ++ y :: l.drop (i + 1) := by rw [List.set_eq_take_append_cons_drop, if_pos hi]
  have e0 : l = l.take i ++ l[i] :: l.drop (i + 1) := by rw [List.getElem_cons_drop, List.take_append_drop]
  have hlt : ((l.take i).flatMap enc).length = i * k := by rw [flatMap_len enc k hk, List.length_take, Nat.min_eq_left (by omega)]
  have L : ∀ (z : List Value), z.length = k → ((l.take i).flatMap enc ++ (z ++ (l.drop (i + 1)).flatMap enc))[j]? = if j < i * k then ((l.take i).flatMap enc)[j]? else if j < i * k + k then z[j - i * k]? else ((l.drop (i + 1)).flatMap enc)[j - i * k - k]? := fun z hz => by
    by_cases h1 : j < i * k
    · rw [if_pos h1, List.getElem?_append_left (by omega)]
    · rw [if_neg h1, List.getElem?_append_right (by omega), hlt]
      by_cases h2 : j < i * k + k
      · rw [if_pos h2, List.getElem?_append_left (by omega)]
      · rw [if_neg h2, List.getElem?_append_right (by omega), hz]
  have e1 : ((l.set i y).flatMap enc)[j]? = ((l.take i).flatMap enc ++ (enc y ++ (l.drop (i + 1)).flatMap enc))[j]? := by rw [e, List.flatMap_append, List.flatMap_cons]
  have e2 : (l.flatMap enc)[j]? = ((l.take i).flatMap enc ++ (enc l[i] ++ (l.drop (i + 1)).flatMap enc))[j]? := by
    rw [← List.flatMap_cons, ← List.flatMap_append, ← e0]
  rw [e1, e2, L (enc y) (hk _), L (enc l[i]) (hk _)]
  by_cases h1 : j < i * k
  · rw [if_pos h1, if_pos h1, if_neg (by omega)]
  · rw [if_neg h1, if_neg h1]
    by_cases h2 : j < i * k + k
    · rw [if_pos h2, if_pos (by omega)]
    · rw [if_neg h2, if_neg h2, if_neg (by omega)]
/-- one element is written -/
theorem Rw.set (hk : ∀ x, (enc x).length = k) {cur : Array Value} (h2 : l.length * k ≤ cur.size) (h3 : ∀ (j : Nat) (u : Value), (l.flatMap enc)[j]? = some u → cur[j]? = some u) (i : Nat) (y : α) (hi : i < l.length) (hb : Blk w' g t (over cur (i * k) (enc y))) : Rw w' g k t enc (l.set i y) := by
  have hik : i * k + k ≤ cur.size := by
    have : (i + 1) * k ≤ l.length * k := Nat.mul_le_mul_right k (by omega)
    rw [Nat.add_mul, Nat.one_mul] at this; omega
  refine ⟨_, hb, by rw [over_size, List.length_set]; exact h2, fun j u hu => ?_⟩
  rw [set_get hk l i y hi] at hu
  rw [over_get _ _ _ _ (by rw [hk]; exact hik), hk]
  by_cases h1 : i * k ≤ j ∧ j < i * k + k
  · rw [if_pos h1] at hu ⊢; exact hu
  · rw [if_neg h1] at hu ⊢; exact h3 j u hu
end
/-- a list at no place has no room -/
structure Txn.nz (t : Txn) : Prop where
  a : t.A = none → t.c = 0
  b : t.B = none → t.d = 0
  p : t.p.A = none → t.p.c = 0
end Go.Proofs.YtjcinncphffgaaaGreat
