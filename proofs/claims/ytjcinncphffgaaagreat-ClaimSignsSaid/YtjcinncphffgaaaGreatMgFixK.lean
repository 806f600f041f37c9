/- Facts of law11's and law17's fixed calls, reckoned by the kernel. No program. (Printed by lit17.py.) Facts of law11's fixed calls, reckoned by the kernel. No program. (Printed by lit11.py.) -/
import Derived.Test.YtjcinncphffgaaaGreatMgFastB
import Derived.Test.YtjcinncphffgaaaGreatMgG34
import Derived.Test.YtjcinncphffgaaaGreatMgG38
set_option linter.unusedVariables false
set_option linter.unusedSimpArgs false
namespace Go.Proofs.YtjcinncphffgaaaGreat
open Go.RowKit
def sdC : ByteArray := ⟨#[99, 108, 105, 101, 110, 116]⟩
def rC : ByteArray := rootB sdC 1
def txC17 : ByteArray := lkoX rC rC 100 20 9
def chC : ByteArray := nameO txC17 0
theorem rC_size : rC.size = 16 := rootB_size _ _
/-! digits -/
/-! the facts -/
theorem b_st : byL (startB wTok) = [74, 167, 239, 107, 31, 206, 73, 142, 183, 178, 217, 27, 132, 213, 253, 50] := by
  unfold startB
  rw [tag_eq]
  decide +kernel
theorem b_nx (s : ByteArray) (k : Nat) : byL (itB s (k + 1)) = fTag (byL wPay) [byL (itB s k)] := by
  rw [itB, nxtB, tag_eq]; rfl
theorem b_it0 : byL (itB (startB wTok) 0) = [74, 167, 239, 107, 31, 206, 73, 142, 183, 178, 217, 27, 132, 213, 253, 50] := by exact b_st
theorem b_it1 : byL (itB (startB wTok) 1) = [229, 87, 92, 42, 93, 253, 35, 230, 131, 234, 29, 155, 64, 7, 172, 45] := by rw [b_nx, b_it0]; decide +kernel
theorem b_it2 : byL (itB (startB wTok) 2) = [243, 126, 242, 108, 183, 61, 154, 236, 121, 117, 68, 149, 137, 10, 151, 48] := by rw [b_nx, b_it1]; decide +kernel
theorem b_it3 : byL (itB (startB wTok) 3) = [121, 83, 71, 138, 13, 251, 120, 33, 40, 116, 172, 58, 92, 201, 0, 156] := by rw [b_nx, b_it2]; decide +kernel
theorem b_it4 : byL (itB (startB wTok) 4) = [59, 247, 232, 24, 243, 238, 141, 36, 7, 111, 229, 130, 255, 165, 220, 194] := by rw [b_nx, b_it3]; decide +kernel
theorem b_it5 : byL (itB (startB wTok) 5) = [94, 248, 87, 69, 78, 65, 226, 122, 226, 121, 65, 191, 26, 177, 103, 34] := by rw [b_nx, b_it4]; decide +kernel
theorem ne_l {s t : ByteArray} {a b : List Nat} (hs : byL s = a) (ht : byL t = b) (h : a ≠ b) : s ≠ t := fun e => h (by rw [← hs, ← ht, e])
theorem itB_add (s : ByteArray) (a : Nat) : ∀ b, itB (itB s a) b = itB s (a + b)
  | 0 => rfl
  | b + 1 => by rw [itB, itB_add s a b]; rfl
theorem cnt_tok : cntGo (tokB wTok 5 0) (tokB wTok 5 2) 5 0 = (2, true) := by
  have e : ∀ i, itB (tokB wTok 5 2) i = itB (startB wTok) (3 + i) := fun i => itB_add _ 3 i
  have a : tokB wTok 5 0 = itB (startB wTok) 5 := rfl
  rw [cntGo, e, a, if_neg (ne_l b_it3 b_it5 (by decide)), cntGo, e, if_neg (ne_l b_it4 b_it5 (by decide)), cntGo, e, if_pos rfl]
theorem cntN_tok : cntN (tokB wTok 5 0) (tokB wTok 5 2) 5 = 2 := by
  unfold cntN
  rw [if_pos (tokB_size _ _ _), cnt_tok]; rfl
theorem cntE_tok : cntE (tokB wTok 5 0) (tokB wTok 5 2) 5 = 0 := by
  unfold cntE
  rw [if_pos (tokB_size _ _ _), cnt_tok]; rfl
end Go.Proofs.YtjcinncphffgaaaGreat
namespace Go.Proofs.YtjcinncphffgaaaGreat
open Go.RowKit
def sdG : ByteArray := ⟨#[103, 97, 116, 101]⟩
def rG : ByteArray := rootB sdG 0
theorem rG_size : rG.size = 16 := rootB_size _ _
def tx11 : ByteArray := lkoX rC rG 100 20 9
def ch11 : ByteArray := nameO tx11 0
theorem ver_60 : verB rC (vouchB ch11 60) (signB sdC 1 0 (vouchB ch11 60)) = true := ver_sign sdC (by omega) (by omega) _
def l0C : En := ⟨tx11, 0, lkoL rC rG 100 9⟩
def l1C : En := ⟨tx11, 1, lkoM rC rG 20 9 ch11⟩
theorem lk11 : lkT1 rC rG 100 20 9 = [l0C, l1C] := rfl
theorem po11 : paysO l0C 60 120 = [payO 50 rG, payO 60 rC] := rfl
end Go.Proofs.YtjcinncphffgaaaGreat
