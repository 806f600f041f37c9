/- Steps, secrets, keys on naturals, for the kernel to reckon. No program. -/
import Derived.Test.YtdoebmikjgmnaaaGreatMgFastB
set_option linter.unusedVariables false
set_option linter.unusedSimpArgs false
namespace Go.Proofs.YtdoebmikjgmnaaaGreat
open Go.RowKit
noncomputable def fStep (i : Nat) (x : List Nat) : List Nat := fTag [115, 116, 101, 112] [[i % 256], x]
noncomputable def fSteps (i n : Nat) (x : List Nat) : List Nat := Nat.rec (motive := fun _ => List Nat) x (fun _ ih => fStep i ih) n
noncomputable def fSec (seed : List Nat) (i : Nat) : List Nat := fTag [115, 101, 99, 114, 101, 116] [seed, [i % 256]]
noncomputable def fCat (f : Nat → List Nat) (n : Nat) : List Nat := Nat.rec (motive := fun _ => List Nat) [] (fun i ih => ih ++ f i) n
noncomputable def fPub (seed : List Nat) : List Nat := fTag [112, 117, 98, 108, 105, 99] [fCat (fun i => fSteps i 15 (fSec seed i)) 18]
noncomputable def fLeaf (seed : List Nat) (i : Nat) : List Nat := fTag [108, 101, 97, 102] [seed, [i % 256]]
theorem one_l (i : Nat) : byL (oneB i) = [i % 256] := by
  unfold oneB
  rw [byL_nums]
  simp only [List.map_cons, List.map_nil, List.cons.injEq, and_true]
  omega
theorem stp_l (i : Nat) (x : ByteArray) : byL (stp i x) = fStep i (byL x) := by
  unfold stp
  rw [tag_eq]
  simp only [List.map_cons, List.map_nil, one_l]
  rfl
theorem steps_l (i : Nat) (x : ByteArray) : ∀ n, byL (stepN i n x) = fSteps i n (byL x)
  | 0 => rfl
  | n + 1 => by rw [stepN, stp_l, steps_l i x n]; rfl
theorem sec_l (seed : ByteArray) (i : Nat) : byL (secB seed i) = fSec (byL seed) i := by
  unfold secB
  rw [tag_eq]
  simp only [List.map_cons, List.map_nil, one_l]
  rfl
theorem cat_l (f : Nat → ByteArray) (g : Nat → List Nat) (h : ∀ i, byL (f i) = g i) : ∀ n, byL (catN f n) = fCat g n
  | 0 => rfl
  | n + 1 => by rw [catN, byL_append, cat_l f g h n, h]; rfl
theorem pub_l (seed : ByteArray) : byL (pubB seed) = fPub (byL seed) := by
  unfold pubB
  rw [tag_eq]
  simp only [List.map_cons, List.map_nil]
  rw [cat_l _ (fun i => fSteps i 15 (fSec (byL seed) i)) (fun i => by rw [steps_l, sec_l])]
  rfl
theorem leaf_l (seed : ByteArray) (i : Nat) : byL (seedB seed i) = fLeaf (byL seed) i := by
  unfold seedB
  rw [tag_eq]
  simp only [List.map_cons, List.map_nil, one_l]
  rfl
theorem test1 : fSteps 3 2 [0, 1, 2, 3, 4, 5, 6, 7, 8, 9, 10, 11, 12, 13, 14, 15] = [16, 0, 224, 71, 240, 93, 28, 117, 73, 144, 196, 16, 75, 162, 161, 125] := by decide +kernel
theorem test2 : fPub (fLeaf [99, 108, 105, 101, 110, 116] 0) = [128, 51, 139, 84, 249, 76, 255, 213, 26, 9, 45, 72, 184, 38, 254, 207] := by decide +kernel
end Go.Proofs.YtdoebmikjgmnaaaGreat
