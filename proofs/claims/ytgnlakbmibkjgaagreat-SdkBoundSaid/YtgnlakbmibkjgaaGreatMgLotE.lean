/- slices.Clone of offers. -/
import Derived.Outline
import Derived.OwnWalk
import Derived.Lib.SliceRun
import Derived.Test.YtgnlakbmibkjgaaGreatMgClmA
import Derived.Test.YtgnlakbmibkjgaaGreatMgLotD
import Derived.Test.YtgnlakbmibkjgaaGreatMgWorD
set_option linter.unusedVariables false
set_option linter.unusedSimpArgs false
namespace Go.Proofs.YtgnlakbmibkjgaaGreat
open Go.RowKit Go.Maps
theorem Tryz.infoOf9' : (Tryz.prog.info? 51).map (fun i => (i.zero, i.size, i.bytes)) = some (some (.agg zOf), 9, 96) := by kernel_rfl
theorem addr_addA (b o i : Nat) : ((⟨b, o, none⟩ : Addr).add i) = ⟨b, o + i, none⟩ := by unfold Addr.add; split <;> simp_all
theorem own_noneC {w : World} {base size n m c : Nat} {e : TypeId} {xs : List Value} (h : w.ownsRow base e size (.slice none m c) n xs) : c = 0 := by
  obtain ⟨_, h | ⟨g, cap, cur, hv, _⟩⟩ := h
  · obtain ⟨hv, _⟩ := h
    injection hv with _ _ hc
  · injection hv with hv; cases hv
theorem ofcl_len (o : Of) : o.cl.length = 9 := rfl
theorem ofcl_one (o : Of) : ∀ u ∈ o.cl, u.oneCell' = true := by
  intro u hu
  have := ofcs_one o
  rw [Array.all_eq_true'] at this
  exact this u (by simpa [Of.cl] using hu)
theorem flat_one (l : List Of) : ∀ u ∈ l.flatMap Of.cl, u.oneCell' = true := by
  intro u hu
  obtain ⟨o, _, ho⟩ := List.mem_flatMap.1 hu
  exact ofcl_one o u ho
/-- the cells of a slice that reads as a list, in a row -/
theorem flat_at {α : Type} (enc : α → List Value) (k : Nat) (hk : ∀ x, (enc x).length = k) : ∀ (l : List α) (j : Nat) (u : Value), (l.flatMap enc)[j]? = some u → ∃ i x q, l[i]? = some x ∧ (enc x)[q]? = some u ∧ j = i * k + q
  | [], j, u, h => by simp at h
  | y :: r, j, u, h => by
    rw [List.flatMap_cons] at h
    by_cases hj : j < (enc y).length
    · rw [List.getElem?_append_left hj] at h
      exact ⟨0, y, j, rfl, h, by omega⟩
    · rw [List.getElem?_append_right (by omega)] at h
      obtain ⟨i, x, q, h1, h2, h3⟩ := flat_at enc k hk r _ u h
      rw [hk y] at h3 hj
      exact ⟨i + 1, x, q, by simpa using h1, h2, by rw [Nat.add_mul]; omega⟩
set_option maxRecDepth 100000 in
set_option maxHeartbeats 400000 in
theorem clone_of (A : Option Addr) (l : List Of) (c : Nat) (w : World) (hS : Sl w w.heap.size 9 Of.cl A l) (hl : l.length ≤ 1000) (hA : A = none → c = 0) :
    Calls Tryz.prog 99 #[.slice A l.length c] w fun e w' => ∃ A' c', e = .returned (.slice A' l.length c') ∧ w'.ownsRow w.heap.size 51 9 (.slice A' l.length c') l.length (l.flatMap Of.cl) ∧ (A' = none → c' = 0) ∧ Below w.heap.size w w' := by
  obtain ⟨i0, hi, hz0, hz1, hz2⟩ := info_parts Tryz.infoOf9'
  have Hhz := Lib.hid hz0
  clear hz0
  have qT : ∀ (w : World) (a : Option Addr) (n c n' c' : Nat), (binOp .eql 122 (.slice a n c) (.slice none n' c')).run Tryz.prog w = .ok (.bool a.isNone) w := fun w a n c n' c' => Lib.run_eql_slice_nil w _ _ a n c n' c' Tryz.underlying122
  cases A with
  | none =>
    have he : l = [] := by
      cases l with
      | nil => rfl
      | cons x r => obtain ⟨b, off, e, _⟩ := hS (by simp); cases e
    subst he
    rw [hA rfl]
    clear hS hA
    go_enter Tryz.func99, Tryz.ntmps99
    go_wp2
    go_ret
    exact ⟨none, 0, rfl, own_nil0 _ _ _ _, fun _ => rfl, Below.refl _ _⟩
  | some a =>
    have HN : Hid (∀ o, ∀ j u, (l.flatMap Of.cl)[j]? = some u → (w.alloc o).cell? (a.add j) = some u) := fun o j u hu => by
      obtain ⟨i, x, q, h1, h2, h3⟩ := flat_at Of.cl 9 ofcl_len l j u hu
      have hne : l ≠ [] := by rintro rfl; simp at h1
      obtain ⟨b, off, e, hb, hc⟩ := hS hne
      injection e with e
      subst e
      rw [addr_addA, World.cell?_alloc_lt w o _ hb, h3, ← Nat.add_assoc]
      exact hc i x h1 q u h2
    have HL := Lib.hid (flatMap_len Of.cl 9 ofcl_len l)
    clear hS hA
    go_enter Tryz.func99, Tryz.ntmps99
    go_wp2_with (first
      | (at_builtin; go_must (refine wpList_append_own _ rfl (.tmp 5) (.tmp 6) _ rfl w.heap.size 51 i0 _ 9 96 Tryz.underlying122 hi Hhz.out hz1 hz2 rfl (by decide) _ 0 [] rfl (own_empty (Blk.new _ _ _) (Nat.le_refl _)) a l.length c (l.flatMap Of.cl) rfl HL.out (HN.out _) (flat_one l) (by simp only [maxLen]; omega) (by omega) (by simp) ?_); intro v' w2 hown1 hg1 hnil1))
    have HO2 := Lib.hid hown1
    have HB2 : Hid (Below w.heap.size w w2) := ((Below.refl w.heap.size w).alloc (Nat.le_refl _) _).grown hg1 (by simp) (fun j hj => by cases hj; exact Nat.le_refl _)
    clear hown1 hg1 hnil1
    rw [Nat.zero_add, List.nil_append] at HO2
    obtain ⟨A2, c2, rfl⟩ := own_form HO2.out
    go_ret
    exact ⟨A2, c2, rfl, HO2.out, fun h => by subst h; exact own_noneC HO2.out, HB2.out⟩
end Go.Proofs.YtgnlakbmibkjgaaGreat
