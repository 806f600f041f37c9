/- channel: own, of any state; slices.Clone of entries and wins. channel.Voucher, of any state. channel.Token, of any state. The first place where a test holds. -/
import Derived.Outline
import Derived.OwnWalk
import Derived.Lib.SliceRun
import Derived.Deep.RegionHeld3
import Derived.Deep.DeepCutAuto
import Derived.Deep.CutBlock
import Derived.Test.YtjcinncphffgaaaGreatMjG22
import Derived.Test.YtjcinncphffgaaaGreatMjG24
import Derived.Test.YtjcinncphffgaaaGreatMjMerk
import Derived.Test.YtjcinncphffgaaaGreatMjNote
import Derived.Test.YtjcinncphffgaaaGreatMjNum
import Derived.Test.YtjcinncphffgaaaGreatMjWonA
set_option linter.unusedVariables false
set_option linter.unusedSimpArgs false
namespace Go.Proofs.YtjcinncphffgaaaGreat
open Go.RowKit Go.Maps
theorem Tryz.infoEn' : (Tryz.prog.info? 89).map (fun i => (i.zero, i.size, i.bytes)) = some (some (.agg zEn.cs), 11, 128) := by kernel_rfl
theorem Tryz.infoWnC : (Tryz.prog.info? 122).map (fun i => (i.zero, i.size, i.bytes)) = some (some (.agg zWn.cs), 10, 112) := by kernel_rfl
theorem encl_one (o : En) : ∀ u ∈ o.cl, u.oneCell' = true := by
  intro u hu
  have := encs_one o
  rw [Array.all_eq_true'] at this
  exact this u (by simpa [En.cl] using hu)
theorem wncl_one (o : Wn) : ∀ u ∈ o.cl, u.oneCell' = true := by
  intro u hu
  have := wncs_one o
  rw [Array.all_eq_true'] at this
  exact this u (by simpa [Wn.cl] using hu)
end Go.Proofs.YtjcinncphffgaaaGreat
namespace Go.Proofs.YtjcinncphffgaaaGreat
open Go.RowKit Go.Maps
end Go.Proofs.YtjcinncphffgaaaGreat
namespace Go.Proofs.YtjcinncphffgaaaGreat
open Go.RowKit Go.Maps
end Go.Proofs.YtjcinncphffgaaaGreat
namespace Go.Proofs.YtjcinncphffgaaaGreat
def fIdx {α : Type} (q : α → Bool) (l : List α) : Int := if l.any q then (l.findIdx q : Int) else -1
theorem fIdx_none {α : Type} (q : α → Bool) (l : List α) (h : l.any q = false) : fIdx q l = -1 := by unfold fIdx; rw [h]; rfl
theorem fIdx_any {α : Type} (q : α → Bool) (l : List α) : decide ((0 : Int) ≤ fIdx q l) = l.any q := by
  unfold fIdx
  cases l.any q with
  | true => simp
  | false => rfl
theorem fIdx_at {α : Type} (q : α → Bool) (l : List α) (k : Nat) (h : k < l.length) (hn : (l.take k).any q = false) : q l[k] = true → fIdx q l = (k : Int) := by
  intro hq
  have ha : l.any q = true := List.any_eq_true.2 ⟨_, List.getElem_mem h, hq⟩
  unfold fIdx
  rw [ha, if_pos rfl]
  congr 1
  rw [List.findIdx_eq h]
  refine ⟨hq, fun j hj => ?_⟩
  rw [List.any_eq_false] at hn
  have := hn (l[j]'(by omega)) (List.mem_take_iff_getElem.2 ⟨j, by omega, rfl⟩)
  simpa using this
end Go.Proofs.YtjcinncphffgaaaGreat
