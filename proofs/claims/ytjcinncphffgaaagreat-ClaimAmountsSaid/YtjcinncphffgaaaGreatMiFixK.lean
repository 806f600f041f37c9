/- Facts of law11's and law17's fixed calls, reckoned by the kernel. No program. (Printed by lit17.py.) Facts of law11's fixed calls, reckoned by the kernel. No program. (Printed by lit11.py.) utxo: Copy: another set with the same outputs. utxo.New of outputs that may not be. law11's fixed calls: contracts. A region that draws its order: its head, which only reads and calls what leaves the old as it was, ends ahead of all the rest. -/
import Derived.Test.YtjcinncphffgaaaGreatShelfUC
import Derived.Outline
import Derived.StillTail
import Derived.Test.YtjcinncphffgaaaGreatMiFastB
import Derived.Test.YtjcinncphffgaaaGreatMiG28
import Derived.Test.YtjcinncphffgaaaGreatMiG29
import Derived.Test.YtjcinncphffgaaaGreatMiG32
import Derived.Test.YtjcinncphffgaaaGreatMiG34
import Derived.Test.YtjcinncphffgaaaGreatMiG38
import Derived.Test.YtjcinncphffgaaaGreatMiG39
import Derived.Test.YtjcinncphffgaaaGreatMiNum
set_option linter.unusedVariables false
set_option linter.unusedSimpArgs false
namespace Go.Proofs.YtjcinncphffgaaaGreat
section
open Go.RowKit
def sdC : ByteArray := ⟨#[99, 108, 105, 101, 110, 116]⟩
def rC : ByteArray := rootB sdC 1
def txC17 : ByteArray := lkoX rC rC 100 20 9
def chC : ByteArray := nameO txC17 0
theorem rC_size : rC.size = 16 := rootB_size _ _
/-! digits -/
/-! the facts -/
theorem b_st : byL (startB wTok) = [74, 167, 239, 107, 31, 206, 73, 142, 183, 178, 217, 27, 132, 213, 253, 50] := by
 unfold startB
 rw [tag_eq]
 decide +kernel
theorem b_nx (s : ByteArray) (k : Nat) : byL (itB s (k + 1)) = fTag (byL wPay) [byL (itB s k)] := by
 rw [itB, nxtB, tag_eq]; rfl
theorem b_it0 : byL (itB (startB wTok) 0) = [74, 167, 239, 107, 31, 206, 73, 142, 183, 178, 217, 27, 132, 213, 253, 50] := by exact b_st
theorem b_it1 : byL (itB (startB wTok) 1) = [229, 87, 92, 42, 93, 253, 35, 230, 131, 234, 29, 155, 64, 7, 172, 45] := by rw [b_nx, b_it0]; decide +kernel
theorem b_it2 : byL (itB (startB wTok) 2) = [243, 126, 242, 108, 183, 61, 154, 236, 121, 117, 68, 149, 137, 10, 151, 48] := by rw [b_nx, b_it1]; decide +kernel
theorem b_it3 : byL (itB (startB wTok) 3) = [121, 83, 71, 138, 13, 251, 120, 33, 40, 116, 172, 58, 92, 201, 0, 156] := by rw [b_nx, b_it2]; decide +kernel
theorem b_it4 : byL (itB (startB wTok) 4) = [59, 247, 232, 24, 243, 238, 141, 36, 7, 111, 229, 130, 255, 165, 220, 194] := by rw [b_nx, b_it3]; decide +kernel
theorem b_it5 : byL (itB (startB wTok) 5) = [94, 248, 87, 69, 78, 65, 226, 122, 226, 121, 65, 191, 26, 177, 103, 34] := by rw [b_nx, b_it4]; decide +kernel
theorem ne_l {s t : ByteArray} {a b : List Nat} (hs : byL s = a) (ht : byL t = b) (h : a ≠ b) : s ≠ t := fun e => h (by rw [← hs, ← ht, e])
theorem itB_add (s : ByteArray) (a : Nat) : ∀ b, itB (itB s a) b = itB s (a + b)
 | 0 => rfl
 | b + 1 => by rw [itB, itB_add s a b]; rfl
theorem cnt_tok : cntGo (tokB wTok 5 0) (tokB wTok 5 2) 5 0 = (2, true) := by
 have e : ∀ i, itB (tokB wTok 5 2) i = itB (startB wTok) (3 + i) := fun i => itB_add _ 3 i
 have a : tokB wTok 5 0 = itB (startB wTok) 5 := rfl
 rw [cntGo, e, a, if_neg (ne_l b_it3 b_it5 (by decide)), cntGo, e, if_neg (ne_l b_it4 b_it5 (by decide)), cntGo, e, if_pos rfl]
theorem cntN_tok : cntN (tokB wTok 5 0) (tokB wTok 5 2) 5 = 2 := by
 unfold cntN
 rw [if_pos (tokB_size _ _ _), cnt_tok]; rfl
theorem cntE_tok : cntE (tokB wTok 5 0) (tokB wTok 5 2) 5 = 0 := by
 unfold cntE
 rw [if_pos (tokB_size _ _ _), cnt_tok]; rfl
end
section
open Go.RowKit
def sdG : ByteArray := ⟨#[103, 97, 116, 101]⟩
def rG : ByteArray := rootB sdG 0
theorem rG_size : rG.size = 16 := rootB_size _ _
def tx11 : ByteArray := lkoX rC rG 100 20 9
def ch11 : ByteArray := nameO tx11 0
theorem ver_60 : verB rC (vouchB ch11 60) (signB sdC 1 0 (vouchB ch11 60)) = true := ver_sign sdC (by omega) (by omega) _
def l0C : En := ⟨tx11, 0, lkoL rC rG 100 9⟩
def l1C : En := ⟨tx11, 1, lkoM rC rG 20 9 ch11⟩
theorem lk11 : lkT1 rC rG 100 20 9 = [l0C, l1C] := rfl
theorem po11 : paysO l0C 60 120 = [payO 50 rG, payO 60 rC] := rfl
end
section
open Go.RowKit Go.Maps Go.WideMaps Go.Shelf
end
section
open Go.RowKit Go.Maps
end
section
open Go.RowKit Go.Maps
def L11 : List En := [l0C, l1C]
def O11 : List Ou := [payO 50 rG, payO 60 rC]
theorem lk11' : lkT1 rC rG 100 20 9 = L11 := lk11
theorem lkx11 : lkX1 rC rG 100 20 9 = tx11 := by unfold lkX1; rw [if_neg (by decide)]; rfl
theorem lkok11 : LkOk1 rC rG 100 20 9 := ⟨rC_size, rG_size, by decide, by decide, by decide, by decide, by decide⟩
theorem tx11_size : tx11.size = 16 := lkx_size _ _ _ _ _
theorem locked11 (w : World) : Calls Tryz.prog 37 #[.string rC, .string rG, .int .u64 100, .int .u64 20, .int .i64 9] w fun e w' => ∃ sb b A c, e = .returned (.tuple #[.pointer (some ⟨sb, 0, none⟩), .slice A 2 c]) ∧ w.heap.size ≤ sb ∧ w.heap.size ≤ b ∧ SetAt w' sb b L11 ∧ Sl w' w'.heap.size 11 En.cl A L11 ∧ Below w.heap.size w w' := by
 have h := locked1_any rC rG 100 20 9 w lkok11
 rw [lk11'] at h
 exact h
/-- the claim that is signed, of any voucher's proof -/
def claim11 (A : Option Addr) (c : Nat) (B : Option Addr) (d : Nat) (p : Pf) (sig : ByteArray) : Txn := spendT A c L11 2 B O11 d p sig
def back11 (A : Option Addr) (c : Nat) (B : Option Addr) (d : Nat) (sig : ByteArray) : Txn := spendT A c L11 3 B [payO 110 rC] d noPf sig
def sv60 : ByteArray := signB sdC 1 0 (vouchB ch11 60)
theorem sv60_size : sv60.size ≤ 400 := by unfold sv60; rw [signB_size sdC (by decide)]; decide
section
variable {A B : Option Addr} {c d : Nat} {sig : ByteArray}
theorem claim11_right (hs : SrtE L11) (hok : ∀ e ∈ L11, e.okp) (v : Nat) (hsg : sig.size ≤ 400) : rightT (claim11 A c B d (vouP v sv60) sig) = true := by
 have hi : InsOn (claim11 A c B d (vouP v sv60) sig) L11 2 := insOn_spend _ _ _ _ _ _ _ _ _ hsg
 refine hi.right hs hok ⟨by decide, by decide⟩ (by decide) ⟨show 1 ≤ O11.length by decide, show O11.length ≤ 4 by decide⟩ ?_ (right_vou v sv60 sv60_size)
 intro o ho
 have ho' : o ∈ O11 := ho
 rcases List.mem_cons.1 ho' with rfl | ho'
 ·exact fits_payO (by decide) rG_size
 ·rw [List.mem_singleton.1 ho']; exact fits_payO (by decide) rC_size
theorem claim11_core (hs : SrtE L11) (hok : ∀ e ∈ L11, e.okp) (v : Nat) (hsg : sig.size ≤ 400) : coreX (claim11 A c B d (vouP v sv60) sig) = coreOn L11 2 O11 :=
 (insOn_spend A c L11 2 B O11 d (vouP v sv60) sig hsg).core (claim11_right hs hok v hsg)
theorem claim11_ok (hs : SrtE L11) (hok : ∀ e ∈ L11, e.okp) (hsg : sig.size ≤ 400) (hv : verB rG (coreOn L11 2 O11) sig = true) (h : Int) : checkE L11 (claim11 A c B d (vouP 60 sv60) sig) h = 0 := by
 have hk := lk11'
 have := (claim_ok lkok11 (by rw [hk]; exact hs) (by rw [hk]; exact hok) (t := claim11 A c B d (vouP 60 sv60) sig) (v := 60) (sgv := sv60) (by rw [hk]; exact insOn_spend A c L11 2 B O11 d (vouP 60 sv60) sig hsg) rfl (by rw [lkx11]; exact po11.symm) (by decide) (by decide) (by decide) sv60_size (by rw [lkx11]; exact ver_60)
  (fun i hi => by rw [hk]; obtain ⟨e, _, rfl⟩ := List.mem_map.1 hi; exact hv) h).2
 rwa [hk] at this
theorem back11_late (hs : SrtE L11) (hok : ∀ e ∈ L11, e.okp) (hsg : sig.size ≤ 400) : checkE L11 (back11 A c B d sig) 8 = 12 := by
 have hk := lk11'
 have := back_late lkok11 (by rw [hk]; exact hs) (by rw [hk]; exact hok) (t := back11 A c B d sig) (by rw [hk]; exact insOn_spend A c L11 3 B [payO 110 rC] d noPf sig hsg) rfl rfl (by decide) (hh := 8) (by decide)
 rwa [hk] at this
theorem back11_ok (hs : SrtE L11) (hok : ∀ e ∈ L11, e.okp) (hsg : sig.size ≤ 400) (hv : verB rC (coreOn L11 3 [payO 110 rC]) sig = true) : checkE L11 (back11 A c B d sig) 9 = 0 := by
 have hk := lk11'
 have := back_ok lkok11 (by rw [hk]; exact hs) (by rw [hk]; exact hok) (t := back11 A c B d sig) (by rw [hk]; exact insOn_spend A c L11 3 B [payO 110 rC] d noPf sig hsg) rfl rfl (by decide) (by decide) (hh := 9) (by decide)
  (fun i hi => by rw [hk]; obtain ⟨e, _, rfl⟩ := List.mem_map.1 hi; exact hv)
 rwa [hk] at this
end
end
section
open Go.RowKit
section
variable {P : Program} {ops ops1 : Array Oper} {md : Region.Mode} {C : World → Prop} {n : Nat}
end
end
end Go.Proofs.YtjcinncphffgaaaGreat
