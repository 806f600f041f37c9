/- utxo: Copy: another set with the same outputs. utxo.New of outputs that may not be. law11's fixed calls: contracts. A region that draws its order: its head, which only reads and calls what leaves the old as it was, ends ahead of all the rest. -/
import Derived.Test.YtjcinncphffgaaaGreatShelfUC
import Derived.Outline
import Derived.StillTail
import Derived.Test.YtjcinncphffgaaaGreatMgFixK
import Derived.Test.YtjcinncphffgaaaGreatMgG28
import Derived.Test.YtjcinncphffgaaaGreatMgG29
import Derived.Test.YtjcinncphffgaaaGreatMgG32
import Derived.Test.YtjcinncphffgaaaGreatMgG34
import Derived.Test.YtjcinncphffgaaaGreatMgG38
import Derived.Test.YtjcinncphffgaaaGreatMgG39
import Derived.Test.YtjcinncphffgaaaGreatMgNum
set_option linter.unusedVariables false
set_option linter.unusedSimpArgs false
namespace Go.Proofs.YtjcinncphffgaaaGreat
open Go.RowKit Go.Maps Go.WideMaps Go.Shelf
end Go.Proofs.YtjcinncphffgaaaGreat
namespace Go.Proofs.YtjcinncphffgaaaGreat
open Go.RowKit Go.Maps
end Go.Proofs.YtjcinncphffgaaaGreat
namespace Go.Proofs.YtjcinncphffgaaaGreat
open Go.RowKit Go.Maps
def L11 : List En := [l0C, l1C]
def O11 : List Ou := [payO 50 rG, payO 60 rC]
theorem lk11' : lkT1 rC rG 100 20 9 = L11 := lk11
theorem lkx11 : lkX1 rC rG 100 20 9 = tx11 := by unfold lkX1; rw [if_neg (by decide)]; rfl
theorem lkok11 : LkOk1 rC rG 100 20 9 := ⟨rC_size, rG_size, by decide, by decide, by decide, by decide, by decide⟩
theorem tx11_size : tx11.size = 16 := lkx_size _ _ _ _ _
theorem locked11 (w : World) : Calls Tryz.prog 37 #[.string rC, .string rG, .int .u64 100, .int .u64 20, .int .i64 9] w fun e w' => ∃ sb b A c, e = .returned (.tuple #[.pointer (some ⟨sb, 0, none⟩), .slice A 2 c]) ∧ w.heap.size ≤ sb ∧ w.heap.size ≤ b ∧ SetAt w' sb b L11 ∧ Sl w' w'.heap.size 11 En.cl A L11 ∧ Below w.heap.size w w' := by
  have h := locked1_any rC rG 100 20 9 w lkok11
  rw [lk11'] at h
  exact h
/-- the claim that is signed, of any voucher's proof -/
def claim11 (A : Option Addr) (c : Nat) (B : Option Addr) (d : Nat) (p : Pf) (sig : ByteArray) : Txn := spendT A c L11 2 B O11 d p sig
def back11 (A : Option Addr) (c : Nat) (B : Option Addr) (d : Nat) (sig : ByteArray) : Txn := spendT A c L11 3 B [payO 110 rC] d noPf sig
def sv60 : ByteArray := signB sdC 1 0 (vouchB ch11 60)
theorem sv60_size : sv60.size ≤ 400 := by unfold sv60; rw [signB_size sdC (by decide)]; decide
section
variable {A B : Option Addr} {c d : Nat} {sig : ByteArray}
theorem claim11_right (hs : SrtE L11) (hok : ∀ e ∈ L11, e.okp) (v : Nat) (hsg : sig.size ≤ 400) : rightT (claim11 A c B d (vouP v sv60) sig) = true := by
  have hi : InsOn (claim11 A c B d (vouP v sv60) sig) L11 2 := insOn_spend _ _ _ _ _ _ _ _ _ hsg
  refine hi.right hs hok ⟨by decide, by decide⟩ (by decide) ⟨show 1 ≤ O11.length by decide, show O11.length ≤ 4 by decide⟩ ?_ (right_vou v sv60 sv60_size)
  intro o ho
  have ho' : o ∈ O11 := ho
  rcases List.mem_cons.1 ho' with rfl | ho'
  · exact fits_payO (by decide) rG_size
  · rw [List.mem_singleton.1 ho']; exact fits_payO (by decide) rC_size
theorem claim11_core (hs : SrtE L11) (hok : ∀ e ∈ L11, e.okp) (v : Nat) (hsg : sig.size ≤ 400) : coreX (claim11 A c B d (vouP v sv60) sig) = coreOn L11 2 O11 :=
  (insOn_spend A c L11 2 B O11 d (vouP v sv60) sig hsg).core (claim11_right hs hok v hsg)
theorem claim11_ok (hs : SrtE L11) (hok : ∀ e ∈ L11, e.okp) (hsg : sig.size ≤ 400) (hv : verB rG (coreOn L11 2 O11) sig = true) (h : Int) : checkE L11 (claim11 A c B d (vouP 60 sv60) sig) h = 0 := by
  have hk := lk11'
  have := (claim_ok lkok11 (by rw [hk]; exact hs) (by rw [hk]; exact hok) (t := claim11 A c B d (vouP 60 sv60) sig) (v := 60) (sgv := sv60) (by rw [hk]; exact insOn_spend A c L11 2 B O11 d (vouP 60 sv60) sig hsg) rfl (by rw [lkx11]; exact po11.symm) (by decide) (by decide) (by decide) sv60_size (by rw [lkx11]; exact ver_60)
    (fun i hi => by rw [hk]; obtain ⟨e, _, rfl⟩ := List.mem_map.1 hi; exact hv) h).2
  rwa [hk] at this
theorem back11_late (hs : SrtE L11) (hok : ∀ e ∈ L11, e.okp) (hsg : sig.size ≤ 400) : checkE L11 (back11 A c B d sig) 8 = 12 := by
  have hk := lk11'
  have := back_late lkok11 (by rw [hk]; exact hs) (by rw [hk]; exact hok) (t := back11 A c B d sig) (by rw [hk]; exact insOn_spend A c L11 3 B [payO 110 rC] d noPf sig hsg) rfl rfl (by decide) (hh := 8) (by decide)
  rwa [hk] at this
theorem back11_ok (hs : SrtE L11) (hok : ∀ e ∈ L11, e.okp) (hsg : sig.size ≤ 400) (hv : verB rC (coreOn L11 3 [payO 110 rC]) sig = true) : checkE L11 (back11 A c B d sig) 9 = 0 := by
  have hk := lk11'
  have := back_ok lkok11 (by rw [hk]; exact hs) (by rw [hk]; exact hok) (t := back11 A c B d sig) (by rw [hk]; exact insOn_spend A c L11 3 B [payO 110 rC] d noPf sig hsg) rfl rfl (by decide) (by decide) (hh := 9) (by decide)
    (fun i hi => by rw [hk]; obtain ⟨e, _, rfl⟩ := List.mem_map.1 hi; exact hv)
  rwa [hk] at this
end
end Go.Proofs.YtjcinncphffgaaaGreat
namespace Go.Proofs.YtjcinncphffgaaaGreat
open Go.RowKit
section
variable {P : Program} {ops ops1 : Array Oper} {md : Region.Mode} {C : World → Prop} {n : Nat}
end
end Go.Proofs.YtjcinncphffgaaaGreat
