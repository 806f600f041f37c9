/- law11's Spend. -/
import Derived.Outline
import Derived.Laws.OwnMore
import Derived.Deep.RegionHeld3
import Derived.Deep.AppendLies
import Derived.Test.YtmbceheafjadhaaGreatMgG24
import Derived.Test.YtmbceheafjadhaaGreatMgG31
import Derived.Test.YtmbceheafjadhaaGreatMgG33
import Derived.Test.YtmbceheafjadhaaGreatMgG34
import Derived.Test.YtmbceheafjadhaaGreatMgMerk
import Derived.Test.YtmbceheafjadhaaGreatMgSdkB
set_option linter.unusedVariables false
set_option linter.unusedSimpArgs false
namespace Go.Proofs.YtmbceheafjadhaaGreat
open Go.RowKit Go.Maps Go.Sort
/-- inputs that spend all of some outputs -/
def insOf (L : List En) (path : Int) (sig : ByteArray) : List Inp := L.map fun e => ⟨e.tx, e.out, path, sig⟩
def spendT (A : Option Addr) (c : Nat) (L : List En) (path : Int) (B : Option Addr) (outs : List Ou) (d : Nat) (p : Pf) (sig : ByteArray) : Txn := ⟨A, insOf L path sig, c, B, outs, d, p⟩
theorem insOf_len (L : List En) (path : Int) (sig : ByteArray) : (insOf L path sig).length = L.length := by simp [insOf]
theorem insOf_snoc (L : List En) (path : Int) (sig : ByteArray) (k : Nat) (h : k < L.length) : (insOf (L.take (k + 1)) path sig).flatMap Inp.cl = (insOf (L.take k) path sig).flatMap Inp.cl ++ (Inp.mk L[k].tx L[k].out path sig).cl := by
  unfold insOf
  rw [List.take_succ_eq_append_getElem h, List.map_append, List.flatMap_append]; simp
/-- the first k signed -/
def insK (L : List En) (path : Int) (sig : ByteArray) (k : Nat) : List Inp := insOf (L.take k) path sig ++ insOf (L.drop k) path ByteArray.empty
theorem insK_len (L : List En) (path : Int) (sig : ByteArray) (k : Nat) : (insK L path sig k).length = L.length := by
  unfold insK
  rw [List.length_append, insOf_len, insOf_len, ← List.length_append, List.take_append_drop]
theorem insK_zero (L : List En) (path : Int) (sig : ByteArray) : insK L path sig 0 = insOf L path ByteArray.empty := by simp [insK, insOf]
theorem insK_all (L : List En) (path : Int) (sig : ByteArray) : insK L path sig L.length = insOf L path sig := by simp [insK, insOf]
theorem flat4_len (l : List Inp) : (l.flatMap Inp.cl).length = 4 * l.length := by
  induction l with
  | nil => rfl
  | cons x r ih => rw [List.flatMap_cons, List.length_append, ih, incl_len]; simp only [List.length_cons]; omega
theorem insK_set (L : List En) (path : Int) (sig : ByteArray) (k : Nat) (h : k < L.length) : ((insK L path sig k).flatMap Inp.cl).set (k * 4 + 3) (.string sig) = (insK L path sig (k + 1)).flatMap Inp.cl := by
  unfold insK
  have hd : L.drop k = L[k] :: L.drop (k + 1) := List.drop_eq_getElem_cons h
  have h4 : ((insOf (L.take k) path sig).flatMap Inp.cl).length = k * 4 := by rw [flat4_len, insOf_len, List.length_take, Nat.min_eq_left (by omega)]; omega
  rw [List.flatMap_append, List.flatMap_append, insOf_snoc L path sig k h, List.set_append_right _ _ (by omega), h4, Nat.add_sub_cancel_left, hd]
  simp only [insOf, List.map_cons, List.flatMap_cons, List.append_assoc]
  rfl
theorem insK_at (L : List En) (path : Int) (sig : ByteArray) (k : Nat) (h : k < L.length) : ((insK L path sig k).flatMap Inp.cl)[k * 4 + 3]? = some (.string ByteArray.empty) := by
  unfold insK
  have hd : L.drop k = L[k] :: L.drop (k + 1) := List.drop_eq_getElem_cons h
  have h4 : ((insOf (L.take k) path sig).flatMap Inp.cl).length = k * 4 := by rw [flat4_len, insOf_len, List.length_take, Nat.min_eq_left (by omega)]; omega
  rw [List.flatMap_append, List.getElem?_append_right (by omega), h4, Nat.add_sub_cancel_left, hd]
  rfl
theorem Tryz.infoInB : (Tryz.prog.info? 74).map (fun i => (i.zero, i.size, i.bytes)) = some (some (.agg #[.string ByteArray.empty, .int .i64 0, .int .i64 0, .string ByteArray.empty]), 4, 48) := by kernel_rfl
def spC0 (A : Option Addr) (k c : Nat) (B : Option Addr) (n d : Nat) (p : Pf) : Array Value := #[.slice A k c, .slice B n d, .int .u64 (p.am : Nat), .string p.sig, .string p.tok, .slice p.A p.l.length p.c]
theorem spC0_one (A : Option Addr) (k c : Nat) (B : Option Addr) (n d : Nat) (p : Pf) : (spC0 A k c B n d p).all (·.oneCell') = true := by
  rw [Array.all_eq_true']
  intro x hx
  simp only [spC0, List.mem_toArray, List.mem_cons, List.not_mem_nil, or_false] at hx
  rcases hx with rfl | rfl | rfl | rfl | rfl | rfl <;> rfl
theorem spC0_over (A : Option Addr) (k c : Nat) (B : Option Addr) (n d : Nat) (p : Pf) {cs : Array Value} (h : cs.size = 6) : over cs 0 (spC0 A k c B n d p).toList = spC0 A k c B n d p := (over_full (spC0 A k c B n d p).toList cs (by rw [h]; rfl)).trans (Array.toArray_toList ..)
theorem spC0_tx (A : Option Addr) (c : Nat) (l : List Inp) (B : Option Addr) (outs : List Ou) (d : Nat) (p : Pf) : spC0 A l.length c B outs.length d p = (Txn.mk A l c B outs d p).cs := rfl
def zTx0 : Array Value := #[.slice none 0 0, .slice none 0 0, .int .u64 0, .string ByteArray.empty, .string ByteArray.empty, .slice none 0 0]
theorem inc_len4 (i : Inp) : i.cl.length = 4 := rfl
theorem incl_one (i : Inp) : ∀ u ∈ i.cl, u.oneCell' = true := by
  intro u hu
  simp only [Inp.cl, Inp.cs, List.mem_cons, List.not_mem_nil, or_false] at hu
  rcases hu with rfl | rfl | rfl | rfl <;> rfl
theorem ch_below {S : List Nat} {w w6 wr : World} (h : Ch S w w6) (hb : Below w.heap.size w6 wr) : Ch S w wr :=
  ⟨hb.os.trans h.os, hb.tape.trans h.tape, hb.output.trans h.output, Nat.le_trans h.size hb.size, fun i hi hn => (hb.block i hi).trans (h.block i hi hn)⟩
theorem sl_key {α : Type} {w w' : World} {k cb j0 : Nat} {enc : α → List Value} {A : Option Addr} {l : List α} {a b : Int} {Bd : Nat} (hBd : Bd ≤ w.heap.size) (h : Sl w Bd k enc A l) (hcb : Blk w cb 192 #[.int .i64 a, .int .i64 b]) (hc : Ch [cb] w w')
    (hs : ∀ x, ∃ s, (enc x)[j0]? = some (.string s)) : Sl w' Bd k enc A l := fun hn => by
  obtain ⟨bk, off, hA, hlt, hcells⟩ := h hn
  have hbk : bk ≠ cb := by
    rintro rfl
    obtain ⟨x, r, rfl⟩ : ∃ x r, l = x :: r := by
      cases l with
      | nil => exact absurd rfl hn
      | cons x r => exact ⟨x, r, rfl⟩
    obtain ⟨s, hj⟩ := hs x
    have h0 := hcells 0 x rfl j0 _ hj
    rw [hcb.cell] at h0
    match off + 0 * k + j0, h0 with
    | 0, h0 => simp at h0
    | 1, h0 => simp at h0
    | n + 2, h0 => simp at h0
  refine ⟨bk, off, hA, hlt, fun i x hx j u hu => ?_⟩
  have e := hc.block bk (Nat.lt_of_lt_of_le hlt hBd) (by simpa using hbk)
  rw [← hcells i x hx j u hu]
  unfold World.cell?
  rw [e]
theorem txn_over (t : Txn) {cs : Array Value} (h : cs.size = 6) : over cs 0 t.cs.toList = t.cs := (over_full t.cs.toList cs (by rw [h]; rfl)).trans (Array.toArray_toList ..)
theorem spend_cs (A : Option Addr) (c : Nat) (L : List En) (path : Int) (B : Option Addr) (outs : List Ou) (d : Nat) (p : Pf) (sig : ByteArray) : (spendT A c L path B outs d p sig).cs = (spendT A c L path B outs d p ByteArray.empty).cs := by
  unfold spendT Txn.cs
  simp only [insOf_len]
/-- what Spend answers -/
def SpendR (L : List En) (path : Int) (B : Option Addr) (outs : List Ou) (d : Nat) (p : Pf) (sig : ByteArray) (kb cb : Nat) (seed : ByteArray) (h i : Nat) (w : World) (e : Ending) (w' : World) : Prop :=
  ∃ A c, e = .returned (.agg (spendT A c L path B outs d p sig).cs) ∧ (spendT A c L path B outs d p sig).mem w' ∧ KeyAt w' kb cb seed h i ∧ Ch [cb] w w'
end Go.Proofs.YtmbceheafjadhaaGreat
