/- Facts of law11's and law17's fixed calls, reckoned by the kernel. No program. (Printed by lit17.py.) Facts of law11's fixed calls, reckoned by the kernel. No program. (Printed by lit11.py.) -/
import Derived.Test.YtdoebmikjgmnaaaGreatMgFastB
import Derived.Test.YtdoebmikjgmnaaaGreatMgG34
import Derived.Test.YtdoebmikjgmnaaaGreatMgG38
set_option linter.unusedVariables false
set_option linter.unusedSimpArgs false
namespace Go.Proofs.YtdoebmikjgmnaaaGreat
open Go.RowKit
def sdC : ByteArray := ⟨#[99, 108, 105, 101, 110, 116]⟩
def rC : ByteArray := rootB sdC 1
def txC17 : ByteArray := lkoX rC rC 100 20 9
def chC : ByteArray := nameO txC17 0
def mC (n : Nat) : ByteArray := aboutB rC 0 (vouchB chC n)
theorem rC_size : rC.size = 16 := rootB_size _ _
theorem chC_size : chC.size = 16 := nameO_size _ _
/-! digits -/
def fLack (D : List Nat) : Nat → Nat
  | 0 => 0
  | j + 1 => fLack D j + (30 - D.getD j 0 / 16 - D.getD j 0 % 16)
def fDig (D : List Nat) (i : Nat) : Nat :=
  if i < 16 then (if i % 2 = 0 then D.getD (i / 2) 0 / 16 else D.getD (i / 2) 0 % 16) else if i = 16 then fLack D 8 / 16 else fLack D 8 % 16
theorem getD_l (l : List UInt8) (j : Nat) : (l.getD j 0).toNat = (l.map UInt8.toNat).getD j 0 := by
  rw [List.getD_eq_getElem?_getD, List.getD_eq_getElem?_getD, List.getElem?_map]
  cases l[j]? <;> rfl
theorem digC_l (msg : ByteArray) (j : Nat) : digC msg j = (byL (tagB wMessage [msg])).getD j 0 := getD_l _ _
theorem lack_l (msg : ByteArray) : ∀ j, lackN msg j = fLack (byL (tagB wMessage [msg])) j
  | 0 => rfl
  | j + 1 => by rw [lackN, fLack, lack_l msg j, digC_l]
theorem dig_l (msg : ByteArray) (i : Nat) : digN msg i = fDig (byL (tagB wMessage [msg])) i := by
  unfold digN fDig
  rw [digC_l, lack_l]
theorem from_two (seed m1 m2 : ByteArray) : fromB m2 (sigB seed m1) = tagB wPublic [catN (fun i => stepN i (15 - digN m2 i + digN m1 i) (secB seed i)) 18] := by
  have h : ∀ i, i < 18 → stepN i (15 - digN m2 i) ((sigB seed m1).extract (16 * i) (16 * (i + 1))) = stepN i (15 - digN m2 i + digN m1 i) (secB seed i) := fun i hi => by
    have e := catN_part 18 (fun i (_ : i < 18) => stepN_size i (tagB_size wSecret [seed, oneB i]) (digN m1 i)) i hi
    have e' : (sigB seed m1).extract (16 * i) (16 * (i + 1)) = stepN i (digN m1 i) (secB seed i) := e
    rw [e', ← stepN_add]
  rw [fromB, catN_congr 18 h]
theorem from_l (seed m1 m2 : ByteArray) : byL (fromB m2 (sigB seed m1)) = fTag (byL wPublic) [fCat (fun i => fSteps i (15 - fDig (byL (tagB wMessage [m2])) i + fDig (byL (tagB wMessage [m1])) i) (fSec (byL seed) i)) 18] := by
  rw [from_two, tag_eq]
  simp only [List.map_cons, List.map_nil]
  rw [cat_l _ (fun i => fSteps i (15 - fDig (byL (tagB wMessage [m2])) i + fDig (byL (tagB wMessage [m1])) i) (fSec (byL seed) i)) (fun i => by rw [steps_l, sec_l, dig_l, dig_l])]
/-- another text under a signature of one leaf of two -/
theorem ver_other (seed m1 m2 : ByteArray) : verB (rootB seed 1) m2 (signB seed 1 0 m1) = decide (topB 1 (nodeB (fromB (aboutB (rootB seed 1) 0 m2) (sigB (seedB seed 0) (aboutB (rootB seed 1) 0 m1))) (pubB (seedB seed 1))) = rootB seed 1) := by
  have hi : 0 < 2 ^ 1 := by decide
  have hz := signB_size seed hi m1
  have h0 : atB (signB seed 1 0 m1) 0 = 0 := by rw [signB, ba_append_assoc]; exact oneB_at 0 (by omega) _
  have hd : (signB seed 1 0 m1).size - 289 = 16 * 1 := by omega
  have hq : 16 * 1 / 16 = 1 := by omega
  have hx : (signB seed 1 0 m1).extract 1 289 = sigB (seedB seed 0) (aboutB (rootB seed 1) 0 m1) := by
    rw [signB]; exact ext_mid (oneB_size _) (by rw [sigB_size])
  have hpc : pieces (signB seed 1 0 m1) 289 1 = pathR 1 (leavesB seed (2 ^ 1)) 0 := by
    have := pieces_join (oneB 0 ++ sigB (seedB seed 0) (aboutB (rootB seed 1) 0 m1)) 289 (by rw [ByteArray.size_append, oneB_size, sigB_size]) 1 (pathR 1 (leavesB seed (2 ^ 1)) 0) ByteArray.empty (pathR_length _ _ _) (pathR_all 1 _ 0 (leavesB_length _ _) hi (leavesB_all _ _))
    rwa [ba_append_empty] at this
  unfold verB leafOk
  rw [h0, hd, hq, hx, hpc]
  have hs : (signB seed 1 0 m1).size = 305 := by rw [hz]
  rw [hs, decide_eq_true (rootB_size seed 1)]
  generalize fromB (aboutB (rootB seed 1) 0 m2) (sigB (seedB seed 0) (aboutB (rootB seed 1) 0 m1)) = F
  have hu : upR F 0 (pathR 1 (leavesB seed (2 ^ 1)) 0) = nodeB F (pubB (seedB seed 1)) := by
    have e : (leavesB seed (2 ^ 1)).getD 1 ByteArray.empty = pubB (seedB seed 1) := leavesB_get seed (by decide)
    rw [pathR, pathR, show mate 0 = 1 from rfl, e]
    rfl
  rw [hu]
  generalize decide (topB 1 (nodeB F (pubB (seedB seed 1))) = rootB seed 1) = b
  cases b <;> rfl
/-! the facts -/
theorem b_sd : byL sdC = [99, 108, 105, 101, 110, 116] := by decide +kernel
theorem b_s0 : byL (seedB sdC 0) = [157, 75, 129, 213, 13, 1, 200, 211, 110, 215, 60, 161, 76, 180, 203, 24] := by rw [leaf_l, b_sd]; decide +kernel
theorem b_s1 : byL (seedB sdC 1) = [76, 47, 7, 42, 26, 194, 198, 240, 97, 111, 190, 48, 68, 144, 223, 82] := by rw [leaf_l, b_sd]; decide +kernel
theorem b_p0 : byL (pubB (seedB sdC 0)) = [128, 51, 139, 84, 249, 76, 255, 213, 26, 9, 45, 72, 184, 38, 254, 207] := by rw [pub_l, b_s0]; decide +kernel
theorem b_p1 : byL (pubB (seedB sdC 1)) = [145, 22, 228, 184, 198, 165, 12, 41, 186, 152, 71, 190, 72, 162, 201, 225] := by rw [pub_l, b_s1]; decide +kernel
theorem b_r : byL rC = [143, 8, 33, 192, 8, 88, 89, 216, 70, 81, 41, 254, 41, 220, 15, 67] := by
  rw [show rC = tagB wRoot [oneB 1, tagB wNode [pubB (seedB sdC 0), pubB (seedB sdC 1)]] from rfl, tag_eq]
  simp only [List.map_cons, List.map_nil, tag_eq, b_p0, b_p1, one_l]
  decide +kernel
theorem b_tx : byL txC17 = [181, 28, 150, 16, 61, 56, 71, 237, 125, 157, 62, 175, 147, 115, 219, 25] := by
  rw [show txC17 = tagB wFirst [ByteArray.empty ++ (putB 100 ++ rC) ++ (putB 20 ++ rC)] from rfl, tag_eq]
  simp only [List.map_cons, List.map_nil, byL_append, b_r]
  decide +kernel
theorem b_ch : byL chC = [140, 167, 233, 215, 253, 156, 65, 142, 61, 44, 122, 177, 33, 39, 157, 230] := by
  rw [show chC = tagB wLock [txC17, strOfNums [0]] from rfl, tag_eq]
  simp only [List.map_cons, List.map_nil, b_tx]
  decide +kernel
theorem b_m (n : Nat) : byL (mC n) = byL rC ++ byL (oneB 0) ++ (byL ByteArray.empty ++ byL (strOfNums [86]) ++ (byL (strOfNums [0, 16]) ++ byL chC) ++ byL (putB n)) := by
  unfold mC aboutB vouchB blobB
  rw [chC_size]
  simp only [byL_append]
  rfl
theorem b_d0 : byL (tagB wMessage [mC 110]) = [235, 140, 116, 114, 179, 167, 23, 244, 56, 68, 137, 138, 64, 243, 68, 46] := by
  rw [tag_eq]
  simp only [List.map_cons, List.map_nil, b_m, b_r, b_ch]
  decide +kernel
theorem b_d1 : byL (tagB wMessage [mC 111]) = [185, 59, 230, 41, 237, 251, 49, 157, 133, 246, 95, 208, 243, 216, 27, 139] := by
  rw [tag_eq]
  simp only [List.map_cons, List.map_nil, b_m, b_r, b_ch]
  decide +kernel
theorem b_f : byL (fromB (mC 111) (sigB (seedB sdC 0) (mC 110))) = [69, 253, 126, 158, 80, 172, 170, 122, 24, 112, 133, 1, 82, 249, 80, 191] := by
  rw [from_l, b_d0, b_d1, b_s0]
  decide +kernel
theorem b_bad : byL (topB 1 (nodeB (fromB (mC 111) (sigB (seedB sdC 0) (mC 110))) (pubB (seedB sdC 1)))) = [30, 59, 212, 226, 98, 21, 126, 208, 252, 52, 60, 200, 22, 24, 133, 222] := by
  unfold topB nodeB
  rw [tag_eq]
  simp only [List.map_cons, List.map_nil, tag_eq, b_f, b_p1, one_l]
  decide +kernel
/-- a voucher of 111 is not signed by the signature of 110 -/
theorem ver_111 : verB rC (vouchB chC 111) (signB sdC 1 0 (vouchB chC 110)) = false := by
  rw [show verB rC (vouchB chC 111) (signB sdC 1 0 (vouchB chC 110)) = decide (topB 1 (nodeB (fromB (mC 111) (sigB (seedB sdC 0) (mC 110))) (pubB (seedB sdC 1))) = rC) from ver_other sdC _ _]
  refine decide_eq_false (fun h => ?_)
  have := congrArg byL h
  rw [b_bad, b_r] at this
  revert this
  decide
theorem ver_110 : verB rC (vouchB chC 110) (signB sdC 1 0 (vouchB chC 110)) = true := ver_sign sdC (by omega) (by omega) _

theorem b_st : byL (startB wTok) = [74, 167, 239, 107, 31, 206, 73, 142, 183, 178, 217, 27, 132, 213, 253, 50] := by
  unfold startB
  rw [tag_eq]
  decide +kernel
theorem b_nx (s : ByteArray) (k : Nat) : byL (itB s (k + 1)) = fTag (byL wPay) [byL (itB s k)] := by
  rw [itB, nxtB, tag_eq]; rfl
theorem b_it0 : byL (itB (startB wTok) 0) = [74, 167, 239, 107, 31, 206, 73, 142, 183, 178, 217, 27, 132, 213, 253, 50] := by exact b_st
theorem b_it1 : byL (itB (startB wTok) 1) = [229, 87, 92, 42, 93, 253, 35, 230, 131, 234, 29, 155, 64, 7, 172, 45] := by rw [b_nx, b_it0]; decide +kernel
theorem b_it2 : byL (itB (startB wTok) 2) = [243, 126, 242, 108, 183, 61, 154, 236, 121, 117, 68, 149, 137, 10, 151, 48] := by rw [b_nx, b_it1]; decide +kernel
theorem b_it3 : byL (itB (startB wTok) 3) = [121, 83, 71, 138, 13, 251, 120, 33, 40, 116, 172, 58, 92, 201, 0, 156] := by rw [b_nx, b_it2]; decide +kernel
theorem b_it4 : byL (itB (startB wTok) 4) = [59, 247, 232, 24, 243, 238, 141, 36, 7, 111, 229, 130, 255, 165, 220, 194] := by rw [b_nx, b_it3]; decide +kernel
theorem b_it5 : byL (itB (startB wTok) 5) = [94, 248, 87, 69, 78, 65, 226, 122, 226, 121, 65, 191, 26, 177, 103, 34] := by rw [b_nx, b_it4]; decide +kernel
theorem b_ci0 : byL (itB chC 0) = [140, 167, 233, 215, 253, 156, 65, 142, 61, 44, 122, 177, 33, 39, 157, 230] := by exact b_ch
theorem b_ci1 : byL (itB chC 1) = [131, 20, 190, 133, 84, 14, 11, 222, 54, 183, 123, 177, 46, 215, 23, 249] := by rw [b_nx, b_ci0]; decide +kernel
theorem b_ci2 : byL (itB chC 2) = [206, 23, 112, 201, 55, 213, 142, 78, 105, 228, 34, 57, 31, 219, 77, 192] := by rw [b_nx, b_ci1]; decide +kernel
theorem b_ci3 : byL (itB chC 3) = [56, 217, 69, 207, 30, 39, 31, 255, 43, 141, 147, 197, 134, 153, 141, 32] := by rw [b_nx, b_ci2]; decide +kernel
theorem b_ci4 : byL (itB chC 4) = [216, 229, 243, 224, 112, 145, 131, 40, 89, 71, 181, 68, 135, 116, 153, 194] := by rw [b_nx, b_ci3]; decide +kernel
theorem b_ci5 : byL (itB chC 5) = [35, 242, 100, 9, 36, 29, 125, 162, 175, 37, 42, 0, 115, 38, 5, 47] := by rw [b_nx, b_ci4]; decide +kernel
theorem ne_l {s t : ByteArray} {a b : List Nat} (hs : byL s = a) (ht : byL t = b) (h : a ≠ b) : s ≠ t := fun e => h (by rw [← hs, ← ht, e])
theorem itB_add (s : ByteArray) (a : Nat) : ∀ b, itB (itB s a) b = itB s (a + b)
  | 0 => rfl
  | b + 1 => by rw [itB, itB_add s a b]; rfl
theorem cnt_tok : cntGo (tokB wTok 5 0) (tokB wTok 5 2) 5 0 = (2, true) := by
  have e : ∀ i, itB (tokB wTok 5 2) i = itB (startB wTok) (3 + i) := fun i => itB_add _ 3 i
  have a : tokB wTok 5 0 = itB (startB wTok) 5 := rfl
  rw [cntGo, e, a, if_neg (ne_l b_it3 b_it5 (by decide)), cntGo, e, if_neg (ne_l b_it4 b_it5 (by decide)), cntGo, e, if_pos rfl]
theorem cnt_ch : (cntGo (tokB wTok 5 0) chC 5 0).2 = false := by
  have a : tokB wTok 5 0 = itB (startB wTok) 5 := rfl
  rw [a, cntGo, if_neg (ne_l b_ci0 b_it5 (by decide)), cntGo, if_neg (ne_l b_ci1 b_it5 (by decide)), cntGo, if_neg (ne_l b_ci2 b_it5 (by decide)), cntGo, if_neg (ne_l b_ci3 b_it5 (by decide)), cntGo, if_neg (ne_l b_ci4 b_it5 (by decide)), cntGo]
  exact decide_eq_false (ne_l b_ci5 b_it5 (by decide))
theorem cntN_tok : cntN (tokB wTok 5 0) (tokB wTok 5 2) 5 = 2 := by
  unfold cntN
  rw [if_pos (tokB_size _ _ _), cnt_tok]; rfl
theorem cntE_tok : cntE (tokB wTok 5 0) (tokB wTok 5 2) 5 = 0 := by
  unfold cntE
  rw [if_pos (tokB_size _ _ _), cnt_tok]; rfl
theorem cntE_ch : cntE (tokB wTok 5 0) chC 5 = 4 := by
  unfold cntE
  rw [if_pos chC_size, cnt_ch]; rfl
end Go.Proofs.YtdoebmikjgmnaaaGreat
namespace Go.Proofs.YtdoebmikjgmnaaaGreat
open Go.RowKit
def sdG : ByteArray := ⟨#[103, 97, 116, 101]⟩
def rG : ByteArray := rootB sdG 0
theorem rG_size : rG.size = 16 := rootB_size _ _
def tx11 : ByteArray := lkoX rC rG 100 20 9
theorem tx11_eq : tx11 = txC17 := by
  rw [show tx11 = tagB wFirst [ByteArray.empty ++ (putB 100 ++ rC) ++ (putB 20 ++ rC)] from rfl, show txC17 = tagB wFirst [ByteArray.empty ++ (putB 100 ++ rC) ++ (putB 20 ++ rC)] from rfl]
def ch11 : ByteArray := nameO tx11 0
theorem ch11_eq : ch11 = chC := by
  unfold ch11 chC
  rw [tx11_eq]
theorem b_sg : byL sdG = [103, 97, 116, 101] := by decide +kernel
theorem b_g0 : byL (seedB sdG 0) = [217, 216, 173, 18, 206, 125, 142, 252, 125, 90, 112, 241, 132, 61, 144, 113] := by rw [leaf_l, b_sg]; decide +kernel
theorem b_gp : byL (pubB (seedB sdG 0)) = [249, 64, 23, 31, 6, 62, 61, 164, 74, 195, 204, 2, 193, 48, 3, 167] := by rw [pub_l, b_g0]; decide +kernel
theorem b_rg : byL rG = [115, 22, 233, 93, 244, 119, 73, 112, 14, 190, 167, 210, 145, 146, 33, 152] := by
  rw [show rG = tagB wRoot [oneB 0, pubB (seedB sdG 0)] from rfl, tag_eq]
  simp only [List.map_cons, List.map_nil, b_gp, one_l]
  decide +kernel
theorem b_e0 : byL (tagB wMessage [mC 60]) = [190, 103, 2, 31, 77, 29, 142, 57, 93, 118, 109, 189, 39, 74, 8, 101] := by
  rw [tag_eq]
  simp only [List.map_cons, List.map_nil, b_m, b_r, b_ch]
  decide +kernel
theorem b_e1 : byL (tagB wMessage [mC 61]) = [50, 152, 196, 232, 86, 198, 60, 183, 120, 34, 143, 41, 134, 147, 59, 102] := by
  rw [tag_eq]
  simp only [List.map_cons, List.map_nil, b_m, b_r, b_ch]
  decide +kernel
theorem b_ef : byL (fromB (mC 61) (sigB (seedB sdC 0) (mC 60))) = [175, 108, 33, 175, 246, 77, 211, 223, 239, 214, 95, 25, 231, 214, 8, 149] := by
  rw [from_l, b_e0, b_e1, b_s0]
  decide +kernel
theorem b_ebad : byL (topB 1 (nodeB (fromB (mC 61) (sigB (seedB sdC 0) (mC 60))) (pubB (seedB sdC 1)))) = [224, 34, 176, 82, 226, 250, 158, 111, 226, 165, 108, 16, 29, 61, 203, 158] := by
  unfold topB nodeB
  rw [tag_eq]
  simp only [List.map_cons, List.map_nil, tag_eq, b_ef, b_p1, one_l]
  decide +kernel
/-- a voucher of 61 is not signed by the signature of 60 -/
theorem ver_61 : verB rC (vouchB ch11 61) (signB sdC 1 0 (vouchB ch11 60)) = false := by
  rw [ch11_eq]
  rw [show verB rC (vouchB chC 61) (signB sdC 1 0 (vouchB chC 60)) = decide (topB 1 (nodeB (fromB (mC 61) (sigB (seedB sdC 0) (mC 60))) (pubB (seedB sdC 1))) = rC) from ver_other sdC _ _]
  refine decide_eq_false (fun h => ?_)
  have := congrArg byL h
  rw [b_ebad, b_r] at this
  revert this
  decide
theorem ver_60 : verB rC (vouchB ch11 60) (signB sdC 1 0 (vouchB ch11 60)) = true := ver_sign sdC (by omega) (by omega) _
def l0C : En := ⟨tx11, 0, lkoL rC rG 100 9⟩
def l1C : En := ⟨tx11, 1, lkoM rC rG 20 9 ch11⟩
theorem lk11 : lkT1 rC rG 100 20 9 = [l0C, l1C] := rfl
theorem po11 : paysO l0C 60 120 = [payO 50 rG, payO 60 rC] := rfl
theorem co11 : coreOn [l0C, l1C] 2 [payO 50 rG, payO 60 rC] = ByteArray.empty ++ strOfNums [67] ++ strOfNums [2] ++ tx11 ++ strOfNums [0] ++ strOfNums [2] ++ tx11 ++ strOfNums [1] ++ strOfNums [2] ++ strOfNums [2] ++ strOfNums [1] ++ putB 50 ++ rG ++ strOfNums [1] ++ putB 60 ++ rC := rfl
theorem b_tx11 : byL tx11 = [181, 28, 150, 16, 61, 56, 71, 237, 125, 157, 62, 175, 147, 115, 219, 25] := by rw [tx11_eq]; exact b_tx
theorem b_id11 : byL (tagB wTx [coreOn [l0C, l1C] 2 [payO 50 rG, payO 60 rC]]) = [15, 147, 75, 50, 82, 146, 129, 226, 89, 189, 228, 20, 198, 85, 244, 137] := by
  rw [tag_eq, co11]
  simp only [List.map_cons, List.map_nil, byL_append, b_tx11, b_r, b_rg]
  decide +kernel
theorem id11_ne : tagB wTx [coreOn [l0C, l1C] 2 [payO 50 rG, payO 60 rC]] ≠ tx11 := ne_l b_id11 b_tx11 (by decide)
end Go.Proofs.YtdoebmikjgmnaaaGreat
