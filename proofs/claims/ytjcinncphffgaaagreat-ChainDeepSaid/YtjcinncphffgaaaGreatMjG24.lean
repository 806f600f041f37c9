/- slices.Clone of offers. A block of cells of a type; rows of other types stay where blocks of one are changed. -/
import Derived.Outline
import Derived.OwnWalk
import Derived.Lib.SliceRun
import Derived.Lib.OwnKind
import Derived.Deep.RegionHeld3
import Derived.Test.YtjcinncphffgaaaGreatMjClmA
import Derived.Test.YtjcinncphffgaaaGreatMjG15
import Derived.Test.YtjcinncphffgaaaGreatMjG22
import Derived.Test.YtjcinncphffgaaaGreatMjNum
set_option linter.unusedVariables false
set_option linter.unusedSimpArgs false
namespace Go.Proofs.YtjcinncphffgaaaGreat
open Go.RowKit Go.Maps
theorem addr_addA (b o i : Nat) : ((⟨b, o, none⟩ : Addr).add i) = ⟨b, o + i, none⟩ := by unfold Addr.add; split <;> simp_all
theorem own_noneC {w : World} {base size n m c : Nat} {e : TypeId} {xs : List Value} (h : w.ownsRow base e size (.slice none m c) n xs) : c = 0 := by
  obtain ⟨_, h | ⟨g, cap, cur, hv, _⟩⟩ := h
  · obtain ⟨hv, _⟩ := h
    injection hv with _ _ hc
  · injection hv with hv; cases hv
/-- the cells of a slice that reads as a list, in a row -/
theorem flat_at {α : Type} (enc : α → List Value) (k : Nat) (hk : ∀ x, (enc x).length = k) : ∀ (l : List α) (j : Nat) (u : Value), (l.flatMap enc)[j]? = some u → ∃ i x q, l[i]? = some x ∧ (enc x)[q]? = some u ∧ j = i * k + q
  | [], j, u, h => by simp at h
  | y :: r, j, u, h => by
    rw [List.flatMap_cons] at h
    by_cases hj : j < (enc y).length
    · rw [List.getElem?_append_left hj] at h
      exact ⟨0, y, j, rfl, h, by omega⟩
    · rw [List.getElem?_append_right (by omega)] at h
      obtain ⟨i, x, q, h1, h2, h3⟩ := flat_at enc k hk r _ u h
      rw [hk y] at h3 hj
      exact ⟨i + 1, x, q, by simpa using h1, h2, by rw [Nat.add_mul]; omega⟩
end Go.Proofs.YtjcinncphffgaaaGreat
namespace Go.Proofs.YtjcinncphffgaaaGreat
open Go.RowKit
theorem wpAnyH_genT {P : Program} {md : Region.Mode} {ops : Array Oper} {Q : Exit → Act → World → Prop} {S : World → Prop} {fuel : Nat} {listed : Array Bool} {a : Act} {w : World} (h : ∀ W, W = w → wpAnyH P md ops Q S fuel listed a W) : wpAnyH P md ops Q S fuel listed a w := h w rfl
/-- a block of cells of a type -/
def KdT (w : World) (g : Nat) (t : TypeId) : Prop := ∃ c fz, w.heap[g]? = some (.cells c t fz)
theorem Blk.kdT {w : World} {g : Nat} {t : TypeId} {cs : Array Value} (h : Blk w g t cs) : KdT w g t := ⟨cs, _, h⟩
theorem KdT.ne_ {w : World} {g g' : Nat} {t t' : TypeId} (h : KdT w g t) (h' : KdT w g' t') (hne : t ≠ t') : g ≠ g' := by
  rintro rfl
  obtain ⟨c, fz, h⟩ := h
  obtain ⟨c', fz', h'⟩ := h'
  rw [h] at h'
  injection h' with h'
  injection h' with _ h'
  exact hne h'
theorem KdT.own_ne {w : World} {g base size n : Nat} {t e : TypeId} {v : Value} {xs : List Value} (h : KdT w g t) (ho : w.ownsRow base e size v n xs) (hne : t ≠ e) : ∀ b, v.ownBlock = some b → b ∉ [g] := by
  intro b hb hm
  obtain ⟨c, fz, hk⟩ := Lib.ownsRow_kind ho b hb
  simp at hm
  subst hm
  exact h.ne_ ⟨c, fz, hk⟩ hne rfl
/-- a row stays, where one block of another type is changed -/
theorem own_chT {g : Nat} {w w' : World} {base n size : Nat} {t e : TypeId} {v : Value} {xs : List Value} (h : w.ownsRow base e size v n xs) (hc : Ch [g] w w') (hg : KdT w g t) (hne : t ≠ e) : w'.ownsRow base e size v n xs :=
  Ch.owns hc h (hg.own_ne h hne)
theorem own_belT {w w' : World} {base n size : Nat} {e : TypeId} {v : Value} {xs : List Value} (h : w.ownsRow base e size v n xs) (hb : Below w.heap.size w w') : w'.ownsRow base e size v n xs :=
  Ch.owns (Ch.of_below hb []) h (by simp)
end Go.Proofs.YtjcinncphffgaaaGreat
