/- Facts of law11's fixed calls, reckoned by the kernel. No program. (Printed by lit11.py.) -/
import Derived.Test.YtdoebmikjgmnaaaGreatMgFixK
import Derived.Test.YtdoebmikjgmnaaaGreatMgG38
set_option linter.unusedVariables false
set_option linter.unusedSimpArgs false
namespace Go.Proofs.YtdoebmikjgmnaaaGreat
open Go.RowKit
def sdG : ByteArray := ⟨#[103, 97, 116, 101]⟩
def rG : ByteArray := rootB sdG 0
theorem rG_size : rG.size = 16 := rootB_size _ _
def tx11 : ByteArray := lkoX rC rG 100 20 9
theorem tx11_eq : tx11 = txC17 := by
  rw [show tx11 = tagB wFirst [ByteArray.empty ++ (putB 100 ++ rC) ++ (putB 20 ++ rC)] from rfl, show txC17 = tagB wFirst [ByteArray.empty ++ (putB 100 ++ rC) ++ (putB 20 ++ rC)] from rfl]
def ch11 : ByteArray := nameO tx11 0
theorem ch11_eq : ch11 = chC := by
  unfold ch11 chC
  rw [tx11_eq]
theorem b_sg : byL sdG = [103, 97, 116, 101] := by decide +kernel
theorem b_g0 : byL (seedB sdG 0) = [217, 216, 173, 18, 206, 125, 142, 252, 125, 90, 112, 241, 132, 61, 144, 113] := by rw [leaf_l, b_sg]; decide +kernel
theorem b_gp : byL (pubB (seedB sdG 0)) = [249, 64, 23, 31, 6, 62, 61, 164, 74, 195, 204, 2, 193, 48, 3, 167] := by rw [pub_l, b_g0]; decide +kernel
theorem b_rg : byL rG = [115, 22, 233, 93, 244, 119, 73, 112, 14, 190, 167, 210, 145, 146, 33, 152] := by
  rw [show rG = tagB wRoot [oneB 0, pubB (seedB sdG 0)] from rfl, tag_eq]
  simp only [List.map_cons, List.map_nil, b_gp, one_l]
  decide +kernel
theorem b_e0 : byL (tagB wMessage [mC 60]) = [190, 103, 2, 31, 77, 29, 142, 57, 93, 118, 109, 189, 39, 74, 8, 101] := by
  rw [tag_eq]
  simp only [List.map_cons, List.map_nil, b_m, b_r, b_ch]
  decide +kernel
theorem b_e1 : byL (tagB wMessage [mC 61]) = [50, 152, 196, 232, 86, 198, 60, 183, 120, 34, 143, 41, 134, 147, 59, 102] := by
  rw [tag_eq]
  simp only [List.map_cons, List.map_nil, b_m, b_r, b_ch]
  decide +kernel
theorem b_ef : byL (fromB (mC 61) (sigB (seedB sdC 0) (mC 60))) = [175, 108, 33, 175, 246, 77, 211, 223, 239, 214, 95, 25, 231, 214, 8, 149] := by
  rw [from_l, b_e0, b_e1, b_s0]
  decide +kernel
theorem b_ebad : byL (topB 1 (nodeB (fromB (mC 61) (sigB (seedB sdC 0) (mC 60))) (pubB (seedB sdC 1)))) = [224, 34, 176, 82, 226, 250, 158, 111, 226, 165, 108, 16, 29, 61, 203, 158] := by
  unfold topB nodeB
  rw [tag_eq]
  simp only [List.map_cons, List.map_nil, tag_eq, b_ef, b_p1, one_l]
  decide +kernel
/-- a voucher of 61 is not signed by the signature of 60 -/
theorem ver_61 : verB rC (vouchB ch11 61) (signB sdC 1 0 (vouchB ch11 60)) = false := by
  rw [ch11_eq]
  rw [show verB rC (vouchB chC 61) (signB sdC 1 0 (vouchB chC 60)) = decide (topB 1 (nodeB (fromB (mC 61) (sigB (seedB sdC 0) (mC 60))) (pubB (seedB sdC 1))) = rC) from ver_other sdC _ _]
  refine decide_eq_false (fun h => ?_)
  have := congrArg byL h
  rw [b_ebad, b_r] at this
  revert this
  decide
theorem ver_60 : verB rC (vouchB ch11 60) (signB sdC 1 0 (vouchB ch11 60)) = true := ver_sign sdC (by omega) (by omega) _
def l0C : En := ⟨tx11, 0, lkoL rC rG 100 9⟩
def l1C : En := ⟨tx11, 1, lkoM rC rG 20 9 ch11⟩
theorem lk11 : lkT1 rC rG 100 20 9 = [l0C, l1C] := rfl
theorem po11 : paysO l0C 60 120 = [payO 50 rG, payO 60 rC] := rfl
theorem co11 : coreOn [l0C, l1C] 2 [payO 50 rG, payO 60 rC] = ByteArray.empty ++ strOfNums [67] ++ strOfNums [2] ++ tx11 ++ strOfNums [0] ++ strOfNums [2] ++ tx11 ++ strOfNums [1] ++ strOfNums [2] ++ strOfNums [2] ++ strOfNums [1] ++ putB 50 ++ rG ++ strOfNums [1] ++ putB 60 ++ rC := rfl
theorem b_tx11 : byL tx11 = [181, 28, 150, 16, 61, 56, 71, 237, 125, 157, 62, 175, 147, 115, 219, 25] := by rw [tx11_eq]; exact b_tx
theorem b_id11 : byL (tagB wTx [coreOn [l0C, l1C] 2 [payO 50 rG, payO 60 rC]]) = [15, 147, 75, 50, 82, 146, 129, 226, 89, 189, 228, 20, 198, 85, 244, 137] := by
  rw [tag_eq, co11]
  simp only [List.map_cons, List.map_nil, byL_append, b_tx11, b_r, b_rg]
  decide +kernel
theorem id11_ne : tagB wTx [coreOn [l0C, l1C] 2 [payO 50 rG, payO 60 rC]] ≠ tx11 := ne_l b_id11 b_tx11 (by decide)
end Go.Proofs.YtdoebmikjgmnaaaGreat
