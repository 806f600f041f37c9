/- sdk: what is bound, and whether there is room, in numbers. -/
import Derived.Test.YtdoebmikjgmnaaaGreatMgG13
set_option linter.unusedVariables false
set_option linter.unusedSimpArgs false
namespace Go.Proofs.YtdoebmikjgmnaaaGreat
open Go.RowKit Go.Maps
theorem room_yes {am tk u lam : Nat} {D : DU} {A b : Nat} (hA : allD D = (A : Nat)) (hb : am + tk * u + A = b) (hl : b ≤ lam) (h6 : lam < 18446744073709551616) : roomE am tk u lam D = 0 := by
  unfold roomE bdOk bdT
  rw [if_pos]
  have e : ((tk : Int) * u) = ((tk * u : Nat) : Int) := by simp
  refine ⟨⟨?_, ?_⟩, ?_⟩
  · omega
  · rw [hA, e]; omega
  · rw [hA, e]; omega
theorem room_no {am tk u lam : Nat} {D : DU} {A b : Nat} (hA : allD D = (A : Nat)) (hb : am + tk * u + A = b) (hl : lam < b) : roomE am tk u lam D = 9 := by
  unfold roomE bdOk bdT
  rw [if_neg]
  have e : ((tk : Int) * u) = ((tk * u : Nat) : Int) := by simp
  rintro ⟨_, h⟩
  rw [hA, e] at h; omega
theorem bound_yes {am tk u lam : Nat} {D : DU} {A b : Nat} (hA : allD D = (A : Nat)) (hb : am + tk * u + A = b) (hl : b ≤ lam) (h6 : lam < 18446744073709551616) : boundV am tk u D = (b : Int) := by
  have e : ((tk : Int) * u) = ((tk * u : Nat) : Int) := by simp
  have hok : bdOk am tk u D := ⟨by omega, by unfold bdT; rw [hA, e]; omega⟩
  unfold boundV
  rw [if_pos hok]
  unfold bdT
  rw [hA, e]
  omega
end Go.Proofs.YtdoebmikjgmnaaaGreat
